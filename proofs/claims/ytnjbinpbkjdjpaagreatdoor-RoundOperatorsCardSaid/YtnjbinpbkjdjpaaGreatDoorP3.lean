import Init
import Derived.Test.YtnjbinpbkjdjpaaGreatDoorP1
import Derived.Laws.BitsAllLaws
import Derived.Test.YtnjbinpbkjdjpaaGreatDoorPs
/- Own text: contracts and laws on which the card rests (FaB FaE FnA FnB FnC FnD FnE NmC2 NmO FnF). -/
set_option linter.unusedVariables false
set_option linter.unusedSimpArgs false
set_option maxRecDepth 1000000
set_option maxHeartbeats 16000000
namespace Go.Proofs.YtnjbinpbkjdjpaaGreatDoor.Nm
section
/-- 2 to the power k is at most p / q. -/
def le2 (k : Int) (p q : Nat) : Prop := q * 2 ^ k.toNat ≤ p * 2 ^ (-k).toNat
instance (k : Int) (p q : Nat) : Decidable (le2 k p q) := inferInstanceAs (Decidable (_ ≤ _))
/-- p over 2 to the power e, and q: what a division by a power of two leaves. -/
def upA (e : Int) (p : Nat) : Nat := p * 2 ^ (-e).toNat
def upB (e : Int) (q : Nat) : Nat := q * 2 ^ e.toNat
theorem pp (k : Nat) : 0 < 2 ^ k := Nat.two_pow_pos k
theorem upB_pos {q : Nat} (hq : 0 < q) (e : Int) : 0 < upB e q := Nat.mul_pos hq (pp _)
/-- The comparison with a power of two, with any spelling of its exponent. -/
theorem le2_iff {k : Int} {p q : Nat} (a b : Nat) (h : k = (a : Int) - b) : le2 k p q ↔ q * 2 ^ a ≤ p * 2 ^ b := by
 unfold le2
 rcases Int.lt_or_le k 0 with hk | hk
 ·have h1 : k.toNat = 0 := by omega
  obtain ⟨d, hd⟩ : ∃ d : Nat, (-k).toNat = d := ⟨_, rfl⟩
  have h2 : b = d + a := by omega
  rw [h1, hd, h2, Nat.pow_zero, Nat.mul_one, Nat.pow_add, ← Nat.mul_assoc]
  exact (Nat.mul_le_mul_right_iff (pp a)).symm
 ·have h1 : (-k).toNat = 0 := by omega
  obtain ⟨d, hd⟩ : ∃ d : Nat, k.toNat = d := ⟨_, rfl⟩
  have h2 : a = d + b := by omega
  rw [h1, hd, h2, Nat.pow_zero, Nat.mul_one, Nat.pow_add, ← Nat.mul_assoc]
  exact (Nat.mul_le_mul_right_iff (pp b)).symm
theorem le2_mono {k k' : Int} {p q : Nat} (h : k ≤ k') (h1 : le2 k' p q) : le2 k p q := by
 obtain ⟨d, hd⟩ : ∃ d : Nat, k' = k + d := ⟨(k' - k).toNat, by omega⟩
 have h2 := (le2_iff (k := k') (k.toNat + d) (-k).toNat (by omega)).1 h1
 refine (le2_iff k.toNat (-k).toNat (by omega)).2 (Nat.le_trans ?_ h2)
 rw [Nat.pow_add, ← Nat.mul_assoc]
 exact Nat.le_mul_of_pos_right _ (pp d)
theorem le2_scale {k : Int} {p q c : Nat} (hc : 0 < c) : le2 k (p * c) (q * c) ↔ le2 k p q := by
 unfold le2
 rw [Nat.mul_right_comm q, Nat.mul_right_comm p]
 exact Nat.mul_le_mul_right_iff hc
/-- The same fraction. -/
theorem le2_same {k : Int} {p q r s : Nat} (hq : 0 < q) (hs : 0 < s) (h : p * s = r * q) : le2 k p q ↔ le2 k r s := by
 rw [← le2_scale (p := p) (q := q) hs, ← le2_scale (p := r) (q := s) hq, h, Nat.mul_comm q s]
/-- The n for which a positive fraction is at least 2 to the power of n, and less than the double. -/
def lgf (p q : Nat) : Int := if le2 ((p.log2 : Int) - q.log2) p q then (p.log2 : Int) - q.log2 else (p.log2 : Int) - q.log2 - 1
theorem lgf_spec {p q : Nat} (hp : 0 < p) (hq : 0 < q) : le2 (lgf p q) p q ∧ ¬ le2 (lgf p q + 1) p q := by
 have p1 := Nat.log2_self_le (Nat.pos_iff_ne_zero.1 hp)
 have p2 : p < 2 ^ (p.log2 + 1) := Nat.lt_log2_self
 have q1 := Nat.log2_self_le (Nat.pos_iff_ne_zero.1 hq)
 have q2 : q < 2 ^ (q.log2 + 1) := Nat.lt_log2_self
 have hi : ¬ le2 ((p.log2 : Int) - q.log2 + 1) p q := by
  rw [le2_iff (p.log2 + 1) q.log2 (by omega)]
  intro h
  have h1 : q * 2 ^ (p.log2 + 1) ≥ 2 ^ q.log2 * 2 ^ (p.log2 + 1) := Nat.mul_le_mul_right _ q1
  have h2 : p * 2 ^ q.log2 < 2 ^ (p.log2 + 1) * 2 ^ q.log2 := Nat.mul_lt_mul_of_pos_right p2 (pp _)
  rw [Nat.mul_comm (2 ^ (p.log2 + 1))] at h2
  omega
 have lo : le2 ((p.log2 : Int) - q.log2 - 1) p q := by
  rw [le2_iff p.log2 (q.log2 + 1) (by omega)]
  calc q * 2 ^ p.log2 ≤ 2 ^ (q.log2 + 1) * 2 ^ p.log2 := Nat.mul_le_mul_right _ (Nat.le_of_lt q2)
   _ ≤ 2 ^ (q.log2 + 1) * p := Nat.mul_le_mul_left _ p1
   _ = p * 2 ^ (q.log2 + 1) := Nat.mul_comm _ _
 unfold lgf
 split
 ·rename_i h; exact ⟨h, hi⟩
 ·rename_i h; exact ⟨lo, by rw [Int.sub_add_cancel]; exact h⟩
theorem lgf_unique {p q : Nat} (hp : 0 < p) (hq : 0 < q) {k : Int} (h1 : le2 k p q) (h2 : ¬ le2 (k + 1) p q) : k = lgf p q := by
 obtain ⟨s1, s2⟩ := lgf_spec hp hq
 rcases Int.lt_trichotomy k (lgf p q) with h | h | h
 ·exact absurd (le2_mono (by omega) s1) h2
 ·exact h
 ·exact absurd (le2_mono (by omega) h1) s2
theorem lgf_le {p q : Nat} (hp : 0 < p) (hq : 0 < q) {k : Int} : le2 k p q ↔ k ≤ lgf p q := by
 obtain ⟨s1, s2⟩ := lgf_spec hp hq
 constructor
 ·intro h
  rcases Int.lt_or_le (lgf p q) k with h3 | h3
  ·exact absurd (le2_mono (by omega) h) s2
  ·exact h3
 ·intro h; exact le2_mono h s1
/-- How many digits a division by a power of two leaves. -/
theorem quo_ge {p q : Nat} (hq : 0 < q) (e : Int) (j : Nat) : 2 ^ j ≤ upA e p / upB e q ↔ le2 (j + e) p q := by
 rw [Nat.le_div_iff_mul_le (upB_pos hq e), le2_iff (j + e.toNat) (-e).toNat (by omega)]
 unfold upA upB
 rw [Nat.mul_left_comm, ← Nat.pow_add]
/-- The number of digits. -/
def wid (n : Nat) : Nat := if n = 0 then 0 else n.log2 + 1
theorem wid_le {n k : Nat} : wid n ≤ k ↔ n < 2 ^ k := by
 unfold wid
 split
 ·rename_i h; subst h; exact ⟨fun _ => pp k, fun _ => Nat.zero_le _⟩
 ·rename_i h
  rw [Nat.succ_le_iff, Nat.log2_lt h]
theorem wid_gt {n k : Nat} : k < wid n ↔ 2 ^ k ≤ n := by
 rw [← Nat.not_le, wid_le]; omega
/-- The exponent of the unit of the float32 that is nearest to a fraction. -/
def expE (p q : Nat) : Int := if p = 0 then -149 else max (lgf p q - 23) (-149)
theorem expE_low (p q : Nat) : -149 ≤ expE p q := by unfold expE; split <;> omega
theorem quo_zero {q : Nat} (e : Int) : upA e 0 / upB e q = 0 := by unfold upA; rw [Nat.zero_mul, Nat.zero_div]
/-- More than 24 digits: the exponent is greater. -/
theorem exp_up {p q : Nat} (hq : 0 < q) {e : Int} (he : -149 ≤ e) : 24 < wid (upA e p / upB e q) ↔ e < expE p q := by
 rw [wid_gt]
 by_cases hp : p = 0
 ·subst hp
  rw [quo_zero]
  unfold expE
  rw [if_pos rfl]
  have : (2 : Nat) ^ 24 = 16777216 := by decide
  omega
 ·rw [quo_ge hq, lgf_le (by omega) hq]
  unfold expE
  rw [if_neg hp]
  omega
/-- Fewer than 24 digits above the least exponent: the exponent is less. -/
theorem exp_down {p q : Nat} (hq : 0 < q) {e : Int} (he : -149 ≤ e) : (wid (upA e p / upB e q) < 24 ∧ -149 < e) ↔ expE p q < e := by
 have hw : wid (upA e p / upB e q) < 24 ↔ ¬ 2 ^ 23 ≤ upA e p / upB e q := by rw [← wid_gt]; omega
 rw [hw]
 by_cases hp : p = 0
 ·subst hp
  rw [quo_zero]
  unfold expE
  rw [if_pos rfl]
  have : (2 : Nat) ^ 23 = 8388608 := by decide
  omega
 ·rw [quo_ge hq, lgf_le (by omega) hq]
  unfold expE
  rw [if_neg hp]
  omega
/-- Nearest to A / B, of two the even one. -/
def evn (A B : Nat) : Nat := A / B + (if B < 2 * (A % B) ∨ (2 * (A % B) = B ∧ A / B % 2 = 1) then 1 else 0)
theorem evn_scale {A B c : Nat} (hc : 0 < c) : evn (A * c) (B * c) = evn A B := by
 unfold evn
 rw [Nat.mul_div_mul_right _ _ hc, Nat.mul_mod_mul_right]
 have h1 : (B * c < 2 * (A % B * c)) ↔ B < 2 * (A % B) := by
  rw [← Nat.mul_assoc]; exact Nat.mul_lt_mul_right hc
 have h2 : (2 * (A % B * c) = B * c) ↔ 2 * (A % B) = B := by
  rw [← Nat.mul_assoc]; exact Nat.mul_left_inj (by omega)
 simp only [h1, h2]
theorem evn_same {A B C D : Nat} (hB : 0 < B) (hD : 0 < D) (h : A * D = C * B) : evn A B = evn C D := by
 rw [← evn_scale hD, ← evn_scale (A := C) hB, h, Nat.mul_comm B D]
theorem evn_ge (A B : Nat) : A / B ≤ evn A B := by unfold evn; omega
theorem evn_le (A B : Nat) : evn A B ≤ A / B + 1 := by unfold evn; split <;> omega
/-- The significand of the nearest float32. -/
def rm (p q : Nat) : Nat := evn (upA (expE p q) p) (upB (expE p q) q)
theorem expE_same {p q r s : Nat} (hq : 0 < q) (hs : 0 < s) (h : p * s = r * q) : expE p q = expE r s := by
 unfold expE
 by_cases hp : p = 0
 ·subst hp
  have : r = 0 := by
   rcases Nat.eq_zero_or_pos r with h0 | h0
   ·exact h0
   ·have := Nat.mul_pos h0 hq; omega
  subst this
  rfl
 ·have hr : r ≠ 0 := by
   rintro rfl
   have := Nat.mul_pos (Nat.pos_of_ne_zero hp) hs
   omega
  rw [if_neg hp, if_neg hr]
  obtain ⟨s1, s2⟩ := lgf_spec (Nat.pos_of_ne_zero hp) hq
  rw [lgf_unique (p := r) (q := s) (k := lgf p q) (Nat.pos_of_ne_zero hr) hs ((le2_same hq hs h).1 s1) (fun h' => s2 ((le2_same hq hs h).2 h'))]
theorem up_same {p q r s : Nat} (h : p * s = r * q) (e : Int) : upA e p * upB e s = upA e r * upB e q := by
 unfold upA upB
 rw [Nat.mul_mul_mul_comm, h, Nat.mul_mul_mul_comm]
theorem rm_same {p q r s : Nat} (hq : 0 < q) (hs : 0 < s) (h : p * s = r * q) : rm p q = rm r s := by
 unfold rm
 rw [expE_same hq hs h]
 exact evn_same (upB_pos hq _) (upB_pos hs _) (up_same h _)
/-- The significand has at most 24 digits, or is the next power of two. -/
theorem rm_le {p q : Nat} (hq : 0 < q) : rm p q ≤ 16777216 := by
 have h : ¬ 24 < wid (upA (expE p q) p / upB (expE p q) q) := fun h => absurd ((exp_up (p := p) hq (expE_low p q)).1 h) (by omega)
 rw [wid_gt] at h
 have := evn_le (upA (expE p q) p) (upB (expE p q) q)
 have e : (2 : Nat) ^ 24 = 16777216 := by decide
 unfold rm
 omega
/-- It has 24 digits where the exponent is above the least. -/
theorem rm_ge {p q : Nat} (hq : 0 < q) (h : -149 < expE p q) : 8388608 ≤ rm p q := by
 have h2 : ¬ (wid (upA (expE p q) p / upB (expE p q) q) < 24 ∧ -149 < expE p q) := fun h => absurd ((exp_down (p := p) hq (expE_low p q)).1 h) (by omega)
 have : ¬ wid (upA (expE p q) p / upB (expE p q) q) < 24 := fun h3 => h2 ⟨h3, h⟩
 have h3 : 23 < wid (upA (expE p q) p / upB (expE p q) q) := by omega
 rw [wid_gt] at h3
 have := evn_ge (upA (expE p q) p) (upB (expE p q) q)
 have e : (2 : Nat) ^ 23 = 8388608 := by decide
 unfold rm
 omega
/-- The word of the float32 that is nearest to a fraction with a sign, none where it is too great. -/
def near (neg : Bool) (p q : Nat) : Option Nat :=
 if rm p q = 0 then some 0 else if (wid (rm p q) : Int) + expE p q > 128 then none else
 some ((if neg then 2147483648 else 0) + ((expE p q + 149).toNat * 8388608 + rm p q))
theorem near_same {neg : Bool} {p q r s : Nat} (hq : 0 < q) (hs : 0 < s) (h : p * s = r * q) : near neg p q = near neg r s := by
 unfold near
 rw [rm_same hq hs h, expE_same hq hs h]
theorem near_lt {neg : Bool} {p q : Nat} {b : Nat} (hq : 0 < q) (h : near neg p q = some b) : b % 2147483648 < 2139095040 ∧ b < 4294967296 := by
 unfold near at h
 split at h
 ·injection h with h; omega
 ·split at h
  ·cases h
  ·rename_i h0 h1
   injection h with h
   have h2 := rm_le (p := p) hq
   have h3 := expE_low p q
   have h4 : wid (rm p q) ≤ 24 → rm p q < 2 ^ 24 := wid_le.1
   have e : (2 : Nat) ^ 24 = 16777216 := by decide
   have h5 : ((expE p q + 149).toNat * 8388608 + rm p q) < 2139095040 := by
    by_cases h6 : rm p q = 16777216
    ·have : wid (rm p q) = 25 := by rw [h6]; decide
     omega
    ·have h7 : wid (rm p q) ≤ 24 := by rw [wid_le]; omega
     by_cases h8 : -149 < expE p q
     ·have := rm_ge hq h8
      have h9 : 23 < wid (rm p q) := by
       have e : (2 : Nat) ^ 23 = 8388608 := by decide
       rw [wid_gt]; omega
      omega
     ·omega
   subst h
   cases neg <;> simp <;> omega
/-- The base of a nat. -/
def UU : Nat := 4294967296
theorem UU1 : 1 < UU := by decide
theorem UU_pow (k : Nat) : UU ^ k = 2 ^ (32 * k) := by rw [show UU = 2 ^ 32 by decide, ← Nat.pow_mul]
theorem wid_digs {n k : Nat} (h : (dg UU n).length = k + 1) : wid n = 32 * k + wid (n / UU ^ k % UU) := by
 have h1 := dg_ge_pow UU1 k n h
 have h2 := dg_lt_pow UU1 n
 rw [h] at h2
 have hp : 0 < UU ^ k := Nat.pow_pos (by decide)
 have h3 : n / UU ^ k < UU := by rw [Nat.div_lt_iff_lt_mul hp, Nat.mul_comm, ← Nat.pow_succ]; exact h2
 rw [Nat.mod_eq_of_lt h3]
 have h4 : 0 < n / UU ^ k := Nat.div_pos h1 hp
 have key : ∀ j, wid n ≤ 32 * k + j ↔ wid (n / UU ^ k) ≤ j := fun j => by
  rw [wid_le, wid_le, Nat.div_lt_iff_lt_mul hp, UU_pow, Nat.pow_add, Nat.mul_comm]
 have a := (key (wid (n / UU ^ k))).2 (Nat.le_refl _)
 rcases Nat.lt_or_ge (wid n) (32 * k) with hlt | hge
 ·have : wid n ≤ 32 * k + 0 := by omega
  have := (key 0).1 this
  rw [wid_le] at this
  simp at this
  omega
 ·obtain ⟨j, hj⟩ : ∃ j, wid n = 32 * k + j := ⟨wid n - 32 * k, by omega⟩
  have := (key j).1 (Nat.le_of_eq hj)
  omega
/-- A bit of a number. -/
def bitN (n i : Nat) : Nat := n / 2 ^ i % 2
theorem bit_digs (n i : Nat) : (n / UU ^ (i / 32) % UU) / 2 ^ (i % 32) % 2 = bitN n i := by
 have hk : i % 32 < 32 := Nat.mod_lt _ (by decide)
 obtain ⟨k, hk2⟩ : ∃ k, i % 32 = k := ⟨_, rfl⟩
 obtain ⟨j, hj⟩ : ∃ j, i / 32 = j := ⟨_, rfl⟩
 have hi : i = 32 * j + k := by omega
 rw [hk2, hj, hi]
 unfold bitN
 rw [UU_pow, Nat.pow_add, ← Nat.div_div_eq_div_mul]
 generalize n / 2 ^ (32 * j) = m
 have e : UU = 2 ^ k * 2 ^ (32 - k) := by rw [← Nat.pow_add, show k + (32 - k) = 32 by omega]; decide
 have e2 : 2 ^ (32 - k) = 2 * 2 ^ (31 - k) := by rw [← Nat.pow_succ', show (31 - k).succ = 32 - k by omega]
 rw [e, Nat.mod_mul_right_div_self, e2, Nat.mod_mul_right_mod]
/-- The limbs of a power of two. -/
def powL (n : Nat) : List Nat := List.replicate (n / 32) 0 ++ [2 ^ (n % 32)]
theorem val_pow (n : Nat) : val UU (powL n) = 2 ^ n := by
 unfold powL
 rw [val_snoc, val_zeros, List.length_replicate, Nat.zero_add, UU_pow, ← Nat.pow_add]
 congr 1
 omega
theorem pow_lt (n : Nat) : ∀ d ∈ powL n, d < UU := by
 intro d hd
 unfold powL at hd
 rcases List.mem_append.1 hd with h | h
 ·rw [List.eq_of_mem_replicate h]; decide
 ·rw [List.mem_singleton.1 h, show UU = 2 ^ 32 by decide]
  exact Nat.pow_lt_pow_right (by decide) (Nat.mod_lt _ (by decide))
theorem pow_dg (n : Nat) : dg UU (2 ^ n) = powL n := by
 rw [← val_pow n, ← strip_dg UU1 _ (pow_lt n)]
 unfold powL
 have hne : 2 ^ (n % 32) ≠ 0 := Nat.pos_iff_ne_zero.1 (pp _)
 generalize 2 ^ (n % 32) = d at *
 generalize List.replicate (n / 32) 0 = L
 induction L with
 | nil => simp [strip, hne]
 | cons x L ih => rw [List.cons_append, strip, ih, if_neg (by simp)]
/-- The quotient's bits that are known: those from i on. -/
def topQ (m d i : Nat) : Nat := m / d / 2 ^ i * 2 ^ i
theorem topQ_zero (m d : Nat) : topQ m d 0 = m / d := by unfold topQ; simp
theorem topQ_start {m d i : Nat} (h : m < 2 ^ i) : topQ m d i = 0 := by
 unfold topQ
 have : m / d < 2 ^ i := Nat.lt_of_le_of_lt (Nat.div_le_self _ _) h
 rw [Nat.div_eq_of_lt this, Nat.zero_mul]
/-- One more bit of a quotient and the next remainder. -/
theorem div_step {m d i : Nat} (hd : 0 < d) :
 (m / 2 ^ (i + 1) % d * 2 + bitN m i < d → m / 2 ^ (i + 1) % d * 2 + bitN m i = m / 2 ^ i % d ∧ topQ m d i = topQ m d (i + 1)) ∧
 (d ≤ m / 2 ^ (i + 1) % d * 2 + bitN m i → m / 2 ^ (i + 1) % d * 2 + bitN m i - d = m / 2 ^ i % d ∧ topQ m d i = topQ m d (i + 1) + 2 ^ i) ∧ m / 2 ^ (i + 1) % d * 2 + bitN m i < 2 * d := by
 obtain ⟨q1, q2, q3⟩ := quo_step (b := 2) (d := d) (m := m) (i := i) (by decide) hd
 have e : ∀ x : Nat, m / d / 2 ^ i % 2 = x → topQ m d i = topQ m d (i + 1) + x * 2 ^ i := fun x hx => by
  unfold topQ
  have h1 : m / d / 2 ^ i = m / d / 2 ^ (i + 1) * 2 + x := by
   rw [Nat.pow_succ, ← Nat.div_div_eq_div_mul]
   omega
  rw [h1, Nat.add_mul, Nat.mul_assoc, Nat.pow_succ, Nat.mul_comm 2]
 unfold bitN
 refine ⟨fun h => ?_, fun h => ?_, by omega⟩
 ·rw [Nat.div_eq_of_lt h] at q1
  rw [Nat.mod_eq_of_lt h] at q2
  exact ⟨q2, by rw [e 0 q1.symm]; omega⟩
 ·have h1 : (m / 2 ^ (i + 1) % d * 2 + m / 2 ^ i % 2) / d = 1 := by
   have := Nat.div_lt_iff_lt_mul (x := m / 2 ^ (i + 1) % d * 2 + m / 2 ^ i % 2) (y := 2) hd
   have h2 : (m / 2 ^ (i + 1) % d * 2 + m / 2 ^ i % 2) / d < 2 := by rw [this]; omega
   have h3 := Nat.div_pos h hd
   omega
  rw [h1] at q1
  have h4 := Nat.mod_add_div (m / 2 ^ (i + 1) % d * 2 + m / 2 ^ i % 2) d
  rw [h1, q2] at h4
  exact ⟨by omega, by rw [e 1 q1.symm]; omega⟩
/-- A bit that is not set is set. -/
theorem set_bit {m d i : Nat} {xs : List Nat} (hj : i / 32 < xs.length) (hd : ∀ x ∈ xs, x < UU) (hv : val UU xs = topQ m d (i + 1)) :
 xs.getD (i / 32) 0 ||| 2 ^ (i % 32) < UU ∧ val UU (xs.set (i / 32) (xs.getD (i / 32) 0 ||| 2 ^ (i % 32))) = topQ m d (i + 1) + 2 ^ i := by
 have hk : i % 32 < 32 := Nat.mod_lt _ (by decide)
 have hg := val_getD UU1 xs hd (i / 32)
 rw [hv] at hg
 obtain ⟨k, hk2⟩ : ∃ k, i % 32 = k := ⟨_, rfl⟩
 obtain ⟨j, hj2⟩ : ∃ j, i / 32 = j := ⟨_, rfl⟩
 have hi : i = 32 * j + k := by omega
 rw [hj2] at hj hg
 rw [hk2, hj2]
 have hx : 2 ^ (k + 1) ∣ xs.getD j 0 := by
  rw [hg, UU_pow]
  unfold topQ
  rw [hi, show 32 * j + k + 1 = (k + 1) + 32 * j by omega]
  generalize m / d / 2 ^ ((k + 1) + 32 * j) = z
  rw [Nat.pow_add 2 (k + 1) (32 * j), ← Nat.mul_assoc, Nat.mul_div_cancel _ (pp _)]
  have e : UU = 2 ^ (k + 1) * 2 ^ (31 - k) := by rw [← Nat.pow_add, show k + 1 + (31 - k) = 32 by omega]; decide
  rw [Nat.mul_comm _ (2 ^ (k + 1)), e, Nat.mul_mod_mul_left]
  exact Nat.dvd_mul_right _ _
 obtain ⟨y, hy⟩ := hx
 have hor : xs.getD j 0 ||| 2 ^ k = xs.getD j 0 + 2 ^ k := by
  rw [hy, ← Nat.two_pow_add_eq_or_of_lt (Nat.pow_lt_pow_right (by decide) (Nat.lt_succ_self k))]
 have hlt : xs.getD j 0 < UU := by rw [hg]; exact Nat.mod_lt _ (by decide)
 rw [hor]
 constructor
 ·have e : UU = 2 ^ (k + 1) * 2 ^ (31 - k) := by rw [← Nat.pow_add, show k + 1 + (31 - k) = 32 by omega]; decide
  rw [hy] at hlt ⊢
  rw [e] at hlt ⊢
  have h1 : y < 2 ^ (31 - k) := Nat.lt_of_mul_lt_mul_left hlt
  have h2 : 2 ^ (k + 1) * (y + 1) ≤ 2 ^ (k + 1) * 2 ^ (31 - k) := Nat.mul_le_mul_left _ h1
  have h3 : 2 ^ k < 2 ^ (k + 1) := Nat.pow_lt_pow_right (by decide) (Nat.lt_succ_self k)
  rw [Nat.mul_add, Nat.mul_one] at h2
  omega
 ·have := val_set (b := UU) xs j (xs.getD j 0 + 2 ^ k) hj
  rw [Nat.mul_add, hv] at this
  have e : UU ^ j * 2 ^ k = 2 ^ i := by rw [UU_pow, ← Nat.pow_add, hi]
  omega
end
section
open Go.Proofs.YtnjbinpbkjdjpaaGreatDoorW.PrintLast Go.Proofs.YtnjbinpbkjdjpaaGreatDoorW.PrintMore Go.Proofs.YtnjbinpbkjdjpaaGreatDoorW.PrintWords Go.RowKit
/-- A nat in memory. -/
def NN (w : World) (A : Option Addr) (L c n : Nat) : Prop := L ≤ c ∧ Lst w w.heap.size A L (dg UU n)
/-- What a function that gives a nat answers. -/
def RN (w : World) (n : Nat) (e : Ending) (w' : World) : Prop := ∃ A k c, e = .returned (.slice A k c) ∧ NN w' A k c n ∧ Below w.heap.size w w'
/-- What a function that makes a nat answers: its block is new. -/
def RF (w : World) (n : Nat) (e : Ending) (w' : World) : Prop := ∃ A k c, e = .returned (.slice A k c) ∧ NN w' A k c n ∧ Below w.heap.size w w' ∧ ∀ b, A = some ⟨b, 0, none⟩ → w.heap.size ≤ b
theorem new_at {g B : Nat} (h : B ≤ g) : ∀ b, some (⟨g, 0, none⟩ : Addr) = some ⟨b, 0, none⟩ → B ≤ b := fun b e => by injection e with e; injection e with e; omega
theorem Lst.more {w : World} {B B' : Nat} {A : Option Addr} {L : Nat} {xs : List Nat} (h : Lst w B A L xs) (hb : B ≤ B') : Lst w B' A L xs := by
 obtain ⟨h1, h3⟩ := h
 refine ⟨h1, fun hL => ?_⟩
 obtain ⟨b, rfl, hlt, hc⟩ := h3 hL
 exact ⟨b, rfl, by omega, hc⟩
theorem NN.below {w w' : World} {A : Option Addr} {L c n : Nat} (h : NN w A L c n) (hb : Below w.heap.size w w') : NN w' A L c n := ⟨h.1, (h.2.below hb).more hb.size⟩
theorem NN.len {w : World} {A : Option Addr} {L c n : Nat} (h : NN w A L c n) : (dg UU n).length = L := h.2.1
theorem NN.len_zero {w : World} {A : Option Addr} {L c n : Nat} (h : NN w A L c n) : L = 0 ↔ n = 0 := by
 rw [← h.len, List.length_eq_zero_iff, dg_nil UU1]
theorem NN.le {w : World} {A : Option Addr} {L c n : Nat} (h : NN w A L c n) {k : Nat} (hk : n < 2 ^ (32 * k)) : L ≤ k := by
 rw [← h.len]
 refine dg_length UU1 k n ?_
 rw [show UU = 2 ^ 32 by decide, ← Nat.pow_mul]
 exact hk
theorem NN.zero (w : World) (A : Option Addr) (c : Nat) : NN w A 0 c 0 := ⟨Nat.zero_le _, by rw [dg_zero]; rfl, fun h => absurd h (by omega)⟩
/-- A digit of a nat in memory. -/
theorem NN.dig {w : World} {A : Option Addr} {L c n : Nat} (h : NN w A L c n) {i : Nat} (hi : i < L) : ∃ b, A = some ⟨b, 0, none⟩ ∧ b < w.heap.size ∧ w.cell? ⟨b, i, none⟩ = some (.int .u32 (n / UU ^ i % UU : Nat)) := by
 obtain ⟨b, rfl, hb, hc⟩ := h.2.2 (by omega)
 have := hc i hi
 rw [dg_getD UU1] at this
 exact ⟨b, rfl, hb, this⟩
theorem NN.addr {w : World} {A : Option Addr} {L c n : Nat} (h : NN w A L c n) (h0 : 0 < L) : ∃ b, A = some ⟨b, 0, none⟩ ∧ b < w.heap.size ∧ ∀ j, j < L → w.cell? ⟨b, j, none⟩ = some (.int .u32 ((dg UU n).getD j 0 : Nat)) := h.2.2 h0
/-- What is left of a list when trim ends. -/
theorem Lst.trimmed {w : World} {B : Nat} {A : Option Addr} {L k c : Nat} {xs : List Nat} (h : Lst w B A L xs) (hd : ∀ d ∈ xs, d < UU) (hk : k ≤ L) (hc : L ≤ c) (hB : B ≤ w.heap.size)
 (hs : strip (xs.take k) = strip xs) (he : k = 0 ∨ xs.getD (k - 1) 0 ≠ 0) : NN w A k c (val UU xs) := by
 have e : dg UU (val UU xs) = xs.take k := by
  rw [← strip_dg UU1 xs hd, ← hs]
  rcases he with rfl | he
  ·rfl
  ·rcases Nat.eq_zero_or_pos k with rfl | h0
   ·rfl
   ·obtain ⟨k, rfl⟩ : ∃ j, k = j + 1 := ⟨k - 1, by omega⟩
    rw [take_snoc' xs (by have := h.1; omega)]
    exact strip_snoc (by simpa using he) _
 obtain ⟨h1, h3⟩ := h
 refine ⟨by omega, by rw [e, List.length_take]; omega, fun h0 => ?_⟩
 obtain ⟨b, rfl, hlt, hcl⟩ := h3 (by omega)
 refine ⟨b, rfl, by omega, fun j hj => ?_⟩
 rw [hcl j (by omega), e, List.getD_eq_getElem?_getD, List.getD_eq_getElem?_getD, List.getElem?_take, if_pos hj]
theorem trim_calls {w : World} {B : Nat} {A : Option Addr} {L c : Nat} {xs : List Nat} (h : Lst w B A L xs) (hd : ∀ d ∈ xs, d < UU) (hLc : L ≤ c) (hL : L ≤ 1000000) (hB : B ≤ w.heap.size) :
 Calls Tryz.prog 185 #[.slice A L c] w fun e w' => ∃ k : Nat, e = .returned (.slice A k c) ∧ NN w' A k c (val UU xs) ∧ Below w.heap.size w w' := by
 have H : Aside0 (Lst w B A L xs) := ⟨h⟩
 have HD : Aside0 (∀ d ∈ xs, d < UU) := ⟨hd⟩
 clear h hd
 go_enter Tryz.func185, Tryz.ntmps185
 go_wp2_with fail
 go_loopw [0] (fun v0 W => ∃ k : Nat, v0 = .slice A k c ∧ k ≤ L ∧ Aside0 (strip (xs.take k) = strip xs) ∧ Aside0 (Below w.heap.size w W)) (fun v0 _ => Value.lenN v0)
 case atStart => exact ⟨L, rfl, Nat.le_refl _, ⟨by rw [List.take_of_length_le (by rw [H.out.1]; exact Nat.le_refl _)]⟩, ⟨Below.refl _ _⟩⟩
 case round =>
  obtain ⟨k, rfl, hk, hs, hb⟩ := hrel
  have HL : Aside0 (Lst wr B A L xs) := ⟨H.out.below (hb.out.mono hB)⟩
  by_cases h0 : 0 < k
  ·obtain ⟨b, hA, hbB, hcl⟩ := HL.out.2 (by omega)
   obtain ⟨k, rfl⟩ : ∃ j, k = j + 1 := ⟨k - 1, by omega⟩
   have hck := hcl k (by omega)
   obtain ⟨x, hx⟩ : ∃ x, xs.getD k 0 = x := ⟨_, rfl⟩
   rw [hx] at hck
   have HX : Aside0 (xs.getD k 0 = x) := ⟨hx⟩
   subst hA
   clear hcl hx
   by_cases hx0 : x = 0
   ·subst hx0
    go_wp2
    refine ⟨⟨k, rfl, by omega, ⟨?_⟩, hb⟩, by simp [Value.lenN]⟩
    rw [← hs.out, take_snoc' xs (by rw [H.out.1]; omega), HX.out, strip_snoc0]
   ·have hx1 : ((x : Int) == 0) = false := by rw [beq_eq_false_iff_ne]; omega
    go_wp2
    go_ret
    refine ⟨k + 1, rfl, HL.out.trimmed HD.out hk hLc (Nat.le_trans hB hb.out.size) hs.out (.inr ?_), hb.out⟩
    rw [Nat.add_sub_cancel, HX.out]
    exact hx0
  ·obtain rfl : k = 0 := by omega
   go_wp2
   go_ret
   exact ⟨0, rfl, HL.out.trimmed HD.out hk hLc (Nat.le_trans hB hb.out.size) hs.out (.inl rfl), hb.out⟩
theorem lst_two (w : World) (x y : Nat) (t : TypeId) : Lst (w.alloc (.cells #[.int .u32 x, .int .u32 y] t)) (w.heap.size + 1) (some ⟨w.heap.size, 0, none⟩) 2 [x, y] :=
 ⟨rfl, fun _ => ⟨_, rfl, by omega, fun j hj => by
  match j, hj with
  | 0, _ => simp
  | 1, _ => simp⟩⟩
theorem trim_two {x y : Nat} (hx : x < UU) (hy : y < UU) (w : World) (b : Nat) (t : TypeId) (hb : b = w.heap.size) :
 Calls Tryz.prog 185 #[.slice (some ⟨b, 0, none⟩) 2 2] (w.alloc (.cells #[.int .u32 x, .int .u32 y] t)) fun e w' => ∃ k : Nat, e = .returned (.slice (some ⟨b, 0, none⟩) k 2) ∧ NN w' (some ⟨b, 0, none⟩) k 2 (x + UU * y) ∧ Below w.heap.size w w' := by
 subst hb
 refine (trim_calls (B := w.heap.size + 1) (xs := [x, y]) (c := 2) (lst_two _ x y _) (by simp [hx, hy]) (by simp) (by omega) (by simp)).mono ?_
 rintro e w' ⟨k, rfl, hm, hb⟩
 refine ⟨k, rfl, by simpa [val] using hm, ?_⟩
 exact (below_alloc (Below.refl _ _) _).trans (hb.mono (by simp))
theorem small_calls32 {n : Nat} (hn : n < 18446744073709551616) (w : World) :
 Calls Tryz.prog 132 #[.int .u64 n] w fun e w' => RF w n e w' := by
 have HT := Aside0.mk (fun (W : World) (b : Nat) (t : TypeId) (hb : b = W.heap.size) => trim_two (x := n % 4294967296) (y := n / 4294967296) (Nat.mod_lt _ (by decide)) (by unfold UU; omega) W b t hb)
 have hv : n % 4294967296 + UU * (n / 4294967296) = n := by unfold UU; omega
 rw [hv] at HT
 have e1 : ((n % 4294967296 : Nat) : Int) = (n : Int) % 4294967296 := by omega
 have e2 : ((n / 4294967296 : Nat) : Int) = (n : Int) / 4294967296 := by omega
 simp only [e1, e2] at HT
 clear e1 e2 hv
 unfold RF
 go_enter Tryz.func132, Tryz.ntmps132
 go_wp2_with (go_at_call 185; (with_reducible refine (HT.out _ _ _ (by first | rfl | simp)).mono ?_); rintro e w1 ⟨k, rfl, hm, hb⟩)
 go_ret
 exact ⟨_, _, _, rfl, hm, hb, new_at (Nat.le_refl _)⟩
/-- What cmp says. -/
def CmpV (m n : Nat) (v : Int) : Prop := (v < 0 ↔ m < n) ∧ (v = 0 ↔ m = n)
theorem dig_top {m j : Nat} : m / UU ^ j = m / UU ^ (j + 1) * UU + m / UU ^ j % UU := by
 rw [Nat.pow_succ, ← Nat.div_div_eq_div_mul]
 have := Nat.mod_add_div (m / UU ^ j) UU
 rw [Nat.mul_comm] at this
 omega
theorem cmp_short {w : World} {A1 A2 : Option Addr} {L1 L2 c1 c2 m n : Nat} (h1 : NN w A1 L1 c1 m) (h2 : NN w A2 L2 c2 n) (h : L1 < L2) : m < n := by
 obtain ⟨k, rfl⟩ : ∃ k, L2 = k + 1 := ⟨L2 - 1, by omega⟩
 have g := dg_ge_pow UU1 k n h2.len
 have l := dg_lt_pow UU1 m
 rw [h1.len] at l
 exact Nat.lt_of_lt_of_le l (Nat.le_trans (Nat.pow_le_pow_right (by decide) (by omega)) g)
theorem cmp_calls {w : World} {A1 A2 : Option Addr} {L1 L2 c1 c2 m n : Nat} (h1 : NN w A1 L1 c1 m) (h2 : NN w A2 L2 c2 n) (hL1 : L1 ≤ 1000000) (hL2 : L2 ≤ 1000000) :
 Calls Tryz.prog 175 #[.slice A1 L1 c1, .slice A2 L2 c2] w fun e w' => ∃ v : Int, e = .returned (.int .i64 v) ∧ CmpV m n v ∧ Below w.heap.size w w' := by
 by_cases hne : L1 = L2
 ·subst hne
  have H1 := Aside0.mk h1
  have H2 := Aside0.mk h2
  clear h1 h2
  go_enter Tryz.func175, Tryz.ntmps175
  go_wp2_with fail
  go_loopw [5] (fun v5 W => ∃ k : Nat, v5 = .int .i64 ((k : Int) - 1) ∧ k ≤ L1 ∧ Aside0 (m / UU ^ k = n / UU ^ k) ∧ Aside0 (Below w.heap.size w W)) (fun v5 _ => (intOf v5 + 1).toNat)
  case atStart => exact ⟨L1, rfl, Nat.le_refl _, ⟨by
   rw [Nat.div_eq_of_lt (by have := dg_lt_pow UU1 m; rwa [H1.out.len] at this), Nat.div_eq_of_lt (by have := dg_lt_pow UU1 n; rwa [H2.out.len] at this)]⟩, ⟨Below.refl _ _⟩⟩
  case round =>
   obtain ⟨k, rfl, hk, hmn, hb⟩ := hrel
   rcases Nat.eq_zero_or_pos k with rfl | h0
   ·go_wp2
    go_ret
    refine ⟨0, rfl, ?_, hb.out⟩
    have := hmn.out
    rw [Nat.pow_zero, Nat.div_one, Nat.div_one] at this
    exact ⟨by omega, by omega⟩
   ·obtain ⟨j, rfl⟩ : ∃ j, k = j + 1 := ⟨k - 1, by omega⟩
    obtain ⟨b1, hA1, hb1, q1⟩ := (H1.out.below hb.out).dig (i := j) (by omega)
    obtain ⟨b2, hA2, hb2, q2⟩ := (H2.out.below hb.out).dig (i := j) (by omega)
    obtain ⟨x, hx⟩ : ∃ x, m / UU ^ j % UU = x := ⟨_, rfl⟩
    obtain ⟨y, hy⟩ : ∃ y, n / UU ^ j % UU = y := ⟨_, rfl⟩
    rw [hx] at q1
    rw [hy] at q2
    have HXY : Aside0 (m / UU ^ j = m / UU ^ (j + 1) * UU + x ∧ n / UU ^ j = m / UU ^ (j + 1) * UU + y) := ⟨by rw [← hx]; exact dig_top, by rw [← hy, hmn.out]; exact dig_top⟩
    clear hx hy
    subst hA1 hA2
    have e1 : ((j + 1 : Nat) : Int) - 1 = (j : Int) := by omega
    rw [e1]
    clear e1
    by_cases hxy : x = y
    ·subst hxy
     go_wp2_with fail
     go_quiet (fail)
     go_wp2
     refine ⟨⟨j, rfl, by omega, ⟨by rw [HXY.out.1, HXY.out.2]⟩, ⟨pw_below_drewN hb.out _⟩⟩, by simp only [intOf]; omega⟩
    ·have n1 : ((x : Int) == (y : Int)) = false := by rw [beq_eq_false_iff_ne]; omega
     have hmn2 : (m < n ↔ x < y) ∧ m ≠ n := by
      have hp : 0 < UU ^ j := Nat.pow_pos (by decide)
      have h1 := HXY.out.1
      have h2 := HXY.out.2
      have key : m / UU ^ j < n / UU ^ j → m < n := fun h => by
       rcases Nat.lt_or_ge m n with h3 | h3
       ·exact h3
       ·have := Nat.div_le_div_right (c := UU ^ j) h3; omega
      have key2 : n / UU ^ j < m / UU ^ j → n < m := fun h => by
       rcases Nat.lt_or_ge n m with h3 | h3
       ·exact h3
       ·have := Nat.div_le_div_right (c := UU ^ j) h3; omega
      clear HXY
      generalize m / UU ^ (j + 1) * UU = T at *
      generalize m / UU ^ j = M at *
      generalize n / UU ^ j = N at *
      refine ⟨⟨fun h => ?_, fun h => key (by omega)⟩, fun h => ?_⟩
      ·rcases Nat.lt_trichotomy x y with h3 | h3 | h3
       ·exact h3
       ·exact absurd h3 hxy
       ·have := key2 (by omega); omega
      ·rcases Nat.lt_trichotomy x y with h3 | h3 | h3
       ·have := key (by omega); omega
       ·exact hxy h3
       ·have := key2 (by omega); omega
     have HMN := Aside0.mk hmn2
     clear hmn2
     go_wp2_with fail
     go_quiet (fail)
     go_wp2_with fail
     by_cases hlt : x < y
     ·have hlt' : decide ((x : Int) < (y : Int)) = true := decide_eq_true (by omega)
      go_quiet (fail)
      go_wp2
      go_ret
      exact ⟨-1, rfl, ⟨⟨fun _ => HMN.out.1.2 hlt, fun _ => by omega⟩, ⟨fun h => by omega, fun h => absurd h HMN.out.2⟩⟩, pw_below_drewN (pw_below_drewN hb.out _) _⟩
     ·have hlt' : decide ((x : Int) < (y : Int)) = false := decide_eq_false (by omega)
      go_quiet (fail)
      go_wp2
      go_ret
      exact ⟨1, rfl, ⟨⟨fun h => by omega, fun h => absurd (HMN.out.1.1 h) hlt⟩, ⟨fun h => by omega, fun h => absurd h HMN.out.2⟩⟩, pw_below_drewN (pw_below_drewN hb.out _) _⟩
 ·have hc : CmpV m n ((L1 : Int) - L2) := by
   rcases Nat.lt_or_ge L1 L2 with h | h
   ·have := cmp_short h1 h2 h
    exact ⟨⟨fun _ => this, fun _ => by omega⟩, ⟨fun h => by omega, fun h => by omega⟩⟩
   ·have := cmp_short h2 h1 (by omega)
    exact ⟨⟨fun h => by omega, fun h => by omega⟩, ⟨fun h => by omega, fun h => by omega⟩⟩
  clear h1 h2
  have hne' : ((L1 : Int) == (L2 : Int)) = false := by rw [beq_eq_false_iff_ne]; omega
  have hne2 : ((L1 : Int) != (L2 : Int)) = true := by simp; omega
  have hw : IntKind.i64.wrap ((L1 : Int) - L2) = (L1 : Int) - L2 := IntWalk.i64_in _ (by omega)
  go_enter Tryz.func175, Tryz.ntmps175
  go_wp2
  go_ret
  exact ⟨_, rfl, hc, Below.refl _ _⟩
theorem bit_calls {w : World} {A : Option Addr} {L c n : Nat} (h : NN w A L c n) {i : Nat} (hi : i / 32 < L) (hL : L ≤ 1000000) :
 Calls Tryz.prog 187 #[.slice A L c, .int .i64 (i : Int)] w fun e w' => e = .returned (.bool (decide (bitN n i = 1))) ∧ Below w.heap.size w w' := by
 obtain ⟨b, rfl, hb, q1⟩ := h.dig hi
 have hbit := bit_digs n i
 clear h
 have q2 : (i : Int).tdiv 32 = ((i / 32 : Nat) : Int) := by rw [Int.tdiv_eq_ediv_of_nonneg (by omega)]; omega
 have q3 : (i : Int).tmod 32 = ((i % 32 : Nat) : Int) := by rw [Int.tmod_eq_emod_of_nonneg (by omega)]; omega
 have hx : n / UU ^ (i / 32) % UU < 4294967296 := Nat.mod_lt _ (by decide)
 generalize n / UU ^ (i / 32) % UU = x at *
 have q4 : bits .and .u32 ((x : Int) / 2 ^ (i % 32)) 1 = ((bitN n i : Nat) : Int) := by
  have := u32_and_nat (x / 2 ^ (i % 32)) 1 (Nat.lt_of_le_of_lt (Nat.div_le_self _ _) hx) (by decide)
  rw [Nat.and_one_is_mod, hbit] at this
  rw [← this]
  simp
 have hb2 : bitN n i < 2 := Nat.mod_lt _ (by decide)
 generalize bitN n i = y at *
 generalize i / 32 = j at *
 clear hbit
 go_enter Tryz.func187, Tryz.ntmps187
 go_wp2
 go_ret
 exact ⟨ret_b (by rw [Bool.eq_iff_iff]; simp; omega), Below.refl _ _⟩
theorem make_nat (l : Int) (N : Nat) (hl : l = N) (hN : N ≤ 1000000) (W : World) :
 (Instr.makeSlice 100 (.int .i64 l) (.int .i64 l)).run Tryz.prog W = .ok (.slice (some ⟨W.heap.size, 0, none⟩) N N) (W.alloc (zeros N)) := by
 subst hl
 obtain ⟨i0, hi0, hz0, hz1, hz2⟩ := info_parts info_u32
 have h := run_make (P := Tryz.prog) W 100 22 i0 _ Tryz.underlying100 hi0 hz0 .i64 .i64 N N (by omega) (by omega) (by rw [hz2]; omega) (by omega)
 rw [hz1, Int.toNat_natCast, Nat.mul_one] at h
 rw [h]
 have e : madeCells (Value.int .u32 0).cells N = ((List.replicate N 0).map fun d : Nat => Value.int .u32 (d : Int)).toArray := by
  apply Array.toList_inj.1
  have := toList_madeCells_one (.int .u32 0) N
  rw [show (Value.int .u32 0).cells = #[Value.int .u32 0] from rfl, this]
  simp
 rw [e]; rfl
theorem trim_row {w0 W : World} {g : Nat} {xs : List Nat} (h : Row W g xs) (hd : ∀ d ∈ xs, d < UU) (hL : xs.length ≤ 1000000) {n : Nat} (hn : val UU xs = n) {L : Nat} (hl : xs.length = L) (hb : Below w0.heap.size w0 W) (hg : w0.heap.size ≤ g) :
 Calls Tryz.prog 185 #[.slice (some ⟨g, 0, none⟩) L L] W fun e w' => RF w0 n e w' := by
 subst hl hn
 refine (trim_calls (h.lst) hd (Nat.le_refl _) hL h.lt).mono ?_
 rintro e w' ⟨k, rfl, hm, hb2⟩
 exact ⟨_, k, _, rfl, hm, hb.trans (hb2.mono hb.size), new_at hg⟩
theorem getD_set_ne {xs : List Nat} {i j d : Nat} (h : i ≠ j) : (xs.set i d).getD j 0 = xs.getD j 0 := by
 simp [List.getD_eq_getElem?_getD, List.getElem?_set_ne h]
theorem mem_set_lt {xs : List Nat} {i d B : Nat} (h : ∀ x ∈ xs, x < B) (hd : d < B) : ∀ x ∈ xs.set i d, x < B := by
 intro x hx
 rcases List.mem_or_eq_of_mem_set hx with h1 | h1
 ·exact h x h1
 ·rw [h1]; exact hd
/-- The rows of a product: the list holds the product of the digits below i, and nothing from i + L2 on. -/
structure MRow (m n i L1 L2 : Nat) (xs : List Nat) : Prop where
 len : xs.length = L1 + L2
 lt : ∀ d ∈ xs, d < UU
 z : ∀ j, i + L2 ≤ j → xs.getD j 0 = 0
 v : val UU xs = m % UU ^ i * n
/-- Within a row. -/
structure MIn (m n i L1 L2 a k c : Nat) (xs : List Nat) : Prop where
 len : xs.length = L1 + L2
 lt : ∀ d ∈ xs, d < UU
 z : ∀ j, i + L2 ≤ j → xs.getD j 0 = 0
 v : val UU xs + UU ^ (i + k) * c = m % UU ^ i * n + UU ^ i * (a * (n % UU ^ k))
theorem MRow.start (m n L1 L2 : Nat) : MRow m n 0 L1 L2 (List.replicate (L1 + L2) 0) :=
 ⟨by simp, by intro d hd; rw [List.eq_of_mem_replicate hd]; decide, fun j _ => by simp [List.getD_eq_getElem?_getD, List.getElem?_replicate]; split <;> rfl, by rw [val_zeros]; simp [Nat.mod_one]⟩
theorem MRow.into {m n i L1 L2 : Nat} {xs : List Nat} (h : MRow m n i L1 L2 xs) (a : Nat) : MIn m n i L1 L2 a 0 0 xs := ⟨h.len, h.lt, h.z, by rw [h.v]; simp [Nat.mod_one]⟩
theorem MIn.step {m n i L1 L2 a k c N : Nat} {xs : List Nat} (h : MIn m n i L1 L2 a k c xs) (hk : k < L2) (hi : i < L1) (hN : N = xs.getD (i + k) 0 + a * (n / UU ^ k % UU) + c) : MIn m n i L1 L2 a (k + 1) (N / UU) (xs.set (i + k) (N % UU)) :=
 ⟨by rw [List.length_set]; exact h.len, mem_set_lt h.lt (Nat.mod_lt _ (by decide)), fun j hj => by rw [getD_set_ne (by omega)]; exact h.z j hj, row_step (by rw [h.len]; omega) h.v hN⟩
theorem MIn.out {m n i L1 L2 c : Nat} {xs : List Nat} (h : MIn m n i L1 L2 (m / UU ^ i % UU) L2 c xs) (hi : i < L1) (hc : c < UU) (hn : n < UU ^ L2) : MRow m n (i + 1) L1 L2 (xs.set (i + L2) c) := by
 have hv := h.v
 rw [Nat.mod_eq_of_lt hn] at hv
 have hs := val_set (b := UU) xs (i + L2) c (by rw [h.len]; omega)
 rw [h.z _ (Nat.le_refl _), Nat.mul_zero, Nat.add_zero, hv] at hs
 refine ⟨by rw [List.length_set]; exact h.len, mem_set_lt h.lt hc, fun j hj => by rw [getD_set_ne (by omega)]; exact h.z j (by omega), ?_⟩
 rw [hs, mod_pow_succ', Nat.add_mul, Nat.mul_assoc]
theorem natMul_calls {w : World} {A1 A2 : Option Addr} {L1 L2 c1 c2 m n : Nat} (h1 : NN w A1 L1 c1 m) (h2 : NN w A2 L2 c2 n) (hL1 : L1 ≤ 40000) (hL2 : L2 ≤ 40000) :
 Calls Tryz.prog 173 #[.slice A1 L1 c1, .slice A2 L2 c2] w fun e w' => RF w (m * n) e w' := by
 have H1 := Aside0.mk h1
 have H2 := Aside0.mk h2
 have hn := dg_lt_pow UU1 n
 rw [h2.len] at hn
 have hm := dg_lt_pow UU1 m
 rw [h1.len] at hm
 have HN := Aside0.mk (And.intro hm hn)
 clear h1 h2 hm hn
 have hmk := make_nat ((L1 : Int) + L2) (L1 + L2) (by omega) (by omega)
 go_enter Tryz.func173, Tryz.ntmps173
 go_wp2_with fail
 obtain ⟨wa, hwa⟩ : ∃ wa, w.alloc (zeros (L1 + L2)) = wa := ⟨_, rfl⟩
 have HG : Aside0 (Row wa w.heap.size (List.replicate (L1 + L2) 0) ∧ Below w.heap.size w wa) := ⟨by subst hwa; exact ⟨row_zeros _ _, below_alloc (Below.refl _ _) _⟩⟩
 rw [hwa]
 clear hwa hmk
 go_loopw [19] (fun v19 W => ∃ i : Nat, v19 = .int .i64 (i : Int) ∧ i ≤ L1 ∧ Aside0 (∃ xs, MRow m n i L1 L2 xs ∧ Row W w.heap.size xs) ∧ Aside0 (Below w.heap.size w W)) (fun v19 _ => L1 - (intOf v19).toNat)
 case atStart => exact ⟨0, rfl, by omega, ⟨_, MRow.start .., HG.out.1⟩, ⟨HG.out.2⟩⟩
 case round =>
  obtain ⟨i, rfl, hi, hout, hb⟩ := hrel
  by_cases hlt : i < L1
  ·obtain ⟨b1, hA1, hb1, q1⟩ := (H1.out.below hb.out).dig hlt
   obtain ⟨a, ha⟩ : ∃ a, m / UU ^ i % UU = a := ⟨_, rfl⟩
   have ha1 : a < 4294967296 := by rw [← ha]; exact Nat.mod_lt _ (by decide)
   rw [ha] at q1
   have HA := Aside0.mk ha
   subst hA1
   have hi0 : (i : Int) < (L1 : Int) := by omega
   clear ha
   go_wp2_with fail
   clear q1
   go_loopw [8, 26] (fun v8 v26 W => ∃ k c : Nat, v8 = .int .u64 (c : Int) ∧ v26 = .int .i64 (k : Int) ∧ k ≤ L2 ∧ c < 4294967296 ∧ Aside0 (∃ xs, MIn m n i L1 L2 a k c xs ∧ Row W w.heap.size xs) ∧ Aside0 (Below w.heap.size w W)) (fun _ v26 _ => L2 - (intOf v26).toNat)
   case atStart =>
    obtain ⟨xs, o1, o2⟩ := hout.out
    exact ⟨0, 0, rfl, rfl, by omega, by omega, ⟨xs, o1.into a, o2⟩, hb⟩
   case round =>
    clear hout hb
    obtain ⟨k, c, rfl, rfl, hk, hc1, hout, hb⟩ := hrel
    by_cases hkl : k < L2
    ·obtain ⟨xs, o1, o2⟩ := hout.out
     obtain ⟨b2, hA2, hb2, q2⟩ := (H2.out.below hb.out).dig hkl
     obtain ⟨x, hx⟩ : ∃ x, n / UU ^ k % UU = x := ⟨_, rfl⟩
     have hx1 : x < 4294967296 := by rw [← hx]; exact Nat.mod_lt _ (by decide)
     rw [hx] at q2
     obtain ⟨d, hd⟩ : ∃ d, xs.getD (i + k) 0 = d := ⟨_, rfl⟩
     have hd1 : d < 4294967296 := by
      rw [← hd, getD_lt (by rw [o1.len]; omega)]
      exact o1.lt _ (List.getElem_mem _)
     have q0 : wr.cell? ⟨w.heap.size, i + k, none⟩ = some (.int .u32 (d : Int)) := by rw [← hd]; exact o2.cell (by rw [o1.len]; omega)
     have q3 : wr.frozen? ⟨w.heap.size, i + k, none⟩ = false := o2.frozen _
     have HS := Aside0.mk (And.intro o1 (And.intro o2 (And.intro hx hd)))
     clear hx hd o1 o2 hout
     subst hA2
     have hm1 : d + a * x + c < 4294967296 * 4294967296 := row_small hd1 ha1 hx1 hc1
     have hax : (a : Int) * (x : Int) = ((a * x : Nat) : Int) := by simp
     have s1 : IntKind.i64.wrap ((i : Int) + (k : Int)) = (i : Int) + (k : Int) := IntWalk.i64_in _ (by omega)
     have s2 : (0 : Int) ≤ (i : Int) + (k : Int) := by omega
     have s3 : ((i : Int) + (k : Int)).toNat = i + k := by omega
     have s4 : (i : Int) + (k : Int) < (L1 : Int) + (L2 : Int) := by omega
     have w1 : IntKind.u64.wrap (d : Int) = (d : Int) := IntWalk.u64_in _ (by omega)
     have w2 : IntKind.u64.wrap (a : Int) = (a : Int) := IntWalk.u64_in _ (by omega)
     have w3 : IntKind.u64.wrap (x : Int) = (x : Int) := IntWalk.u64_in _ (by omega)
     have p1 : IntKind.u64.wrap ((a : Int) * (x : Int)) = (a : Int) * (x : Int) := IntWalk.u64_in _ (by rw [hax]; omega)
     have p2 : IntKind.u64.wrap ((a : Int) * (x : Int) + (d : Int)) = (a : Int) * (x : Int) + (d : Int) := IntWalk.u64_in _ (by rw [hax]; omega)
     obtain ⟨N, hN⟩ : ∃ N, d + a * x + c = N := ⟨_, rfl⟩
     have p3 : IntKind.u64.wrap ((c : Int) + ((a : Int) * (x : Int) + (d : Int))) = (N : Int) := by rw [← hN, hax]; rw [IntWalk.u64_in _ (by omega)]; omega
     have HN2 := Aside0.mk hN
     have hN1 : N < 4294967296 * 4294967296 := by omega
     clear hm1 hax hN
     go_wp2_with fail
     refine ⟨⟨k + 1, N / UU, congrArg (Value.int .u64) (by unfold UU; omega), by go_num, by omega, by unfold UU; omega, ⟨_, HS.out.1.step hkl hlt (N := N) (by rw [HS.out.2.2.1, HS.out.2.2.2, HN2.out]), ?_⟩, ⟨hb.out.setCell (by simp) _⟩⟩, by simp [intOf]; omega⟩
     have := HS.out.2.1.set (i + k) (N % UU)
     rw [show ((N % UU : Nat) : Int) = (N : Int) % 4294967296 by unfold UU; omega] at this
     exact this
    ·obtain rfl : k = L2 := by omega
     clear hkl hk
     obtain ⟨xs, o1, o2⟩ := hout.out
     have HS := Aside0.mk (And.intro o1 o2)
     have q0 : wr.cell? ⟨w.heap.size, i + k, none⟩ = some (.int .u32 ((xs.getD (i + k) 0 : Nat) : Int)) := o2.cell (by rw [o1.len]; omega)
     have q3 : wr.frozen? ⟨w.heap.size, i + k, none⟩ = false := o2.frozen _
     have s1 : IntKind.i64.wrap ((i : Int) + (k : Int)) = (i : Int) + (k : Int) := IntWalk.i64_in _ (by omega)
     have s2 : (0 : Int) ≤ (i : Int) + (k : Int) := by omega
     have s3 : ((i : Int) + (k : Int)).toNat = i + k := by omega
     have s4 : (i : Int) + (k : Int) < (L1 : Int) + (k : Int) := by omega
     clear o1 o2 hout
     go_wp2_with fail
     rw [← HA.out] at HS
     refine ⟨⟨i + 1, by go_num, by omega, ⟨_, HS.out.1.out hlt hc1 HN.out.2, HS.out.2.set _ _⟩, ⟨hb.out.setCell (by simp) _⟩⟩, by simp [intOf]; omega⟩
  ·obtain rfl : i = L1 := by omega
   clear hi hlt
   obtain ⟨xs, o1, o2⟩ := hout.out
   have HT := Aside0.mk (trim_row (w0 := w) o2 o1.lt (by rw [o1.len]; omega) (n := m * n) (by rw [o1.v, Nat.mod_eq_of_lt HN.out.1]) (L := i + L2) o1.len hb.out (Nat.le_refl _))
   clear o1 o2 hout
   go_wp2_with (go_at_call 185; (with_reducible refine HT.out.mono ?_); rintro e w4 ⟨A, k, c, rfl, hm4, hb4, hf4⟩)
   go_ret
   exact ⟨_, _, _, rfl, hm4, hb4, hf4⟩
theorem shl_calls {w : World} {A : Option Addr} {L c m : Nat} (h : NN w A L c m) (hL : L ≤ 40000) (n : Nat) (hn : n ≤ 1000000) :
 Calls Tryz.prog 133 #[.slice A L c, .int .i64 (n : Int)] w fun e w' => RF w (m * 2 ^ n) e w' := by
 have H := Aside0.mk h
 clear h
 have hmk := make_nat ((n : Int) / 32 + 1) (n / 32 + 1) (by omega) (by omega)
 have q2 : (n : Int).tdiv 32 = ((n / 32 : Nat) : Int) := by rw [Int.tdiv_eq_ediv_of_nonneg (by omega)]; omega
 have q3 : (n : Int).tmod 32 = ((n % 32 : Nat) : Int) := by rw [Int.tmod_eq_emod_of_nonneg (by omega)]; omega
 have HM : Aside0 (∀ W, Below w.heap.size w W → Row W w.heap.size (powL n) → Calls Tryz.prog 173 #[.slice A L c, .slice (some ⟨w.heap.size, 0, none⟩) (n / 32 + 1) (n / 32 + 1)] W fun e w' => RF W (m * 2 ^ n) e w') := ⟨fun W hb hr => by
  refine natMul_calls (H.out.below hb) (c2 := n / 32 + 1) (L2 := n / 32 + 1) (A2 := some ⟨w.heap.size, 0, none⟩) ⟨Nat.le_refl _, ?_⟩ hL (by omega)
  rw [pow_dg]
  have := hr.lst
  rw [show (powL n).length = n / 32 + 1 by simp [powL]] at this
  exact this.more hr.lt⟩
 have hk : n % 32 < 32 := Nat.mod_lt _ (by decide)
 have j1 : ((n : Int) / 32).toNat = n / 32 := by omega
 have j2 : (0 : Int) ≤ (n : Int) / 32 := by omega
 have j3 : (n : Int) / 32 < (n : Int) / 32 + 1 := by omega
 have x0 : (w.alloc (zeros (n / 32 + 1))).cell? ⟨w.heap.size, n / 32, none⟩ = some (.int .u32 0) := by
  have := (row_zeros w (n / 32 + 1)).cell (j := n / 32) (by simp)
  rw [this]; simp [List.getD_eq_getElem?_getD, List.getElem?_replicate]
 have x1 : (w.alloc (zeros (n / 32 + 1))).frozen? ⟨w.heap.size, n / 32, none⟩ = false := (row_zeros w (n / 32 + 1)).frozen _
 have HR : Aside0 (Row ((w.alloc (zeros (n / 32 + 1))).setCell ⟨w.heap.size, n / 32, none⟩ (.int .u32 (2 ^ (n % 32) % 4294967296))) w.heap.size (powL n)) := ⟨by
  have h1 := (row_zeros w (n / 32 + 1)).set (n / 32) (2 ^ (n % 32))
  have h2 : (List.replicate (n / 32 + 1) 0).set (n / 32) (2 ^ (n % 32)) = powL n := by
   unfold powL
   rw [List.replicate_succ', List.set_append_right _ _ (by simp)]
   simp
  have h3 : (2 : Int) ^ (n % 32) % 4294967296 = ((2 ^ (n % 32) : Nat) : Int) := by
   have : 2 ^ (n % 32) < 2 ^ 32 := Nat.pow_lt_pow_right (by decide) hk
   rw [show (2 : Int) ^ (n % 32) = ((2 ^ (n % 32) : Nat) : Int) by simp]
   have e : (2 : Nat) ^ 32 = 4294967296 := by decide
   rw [e] at this
   exact (fun (z : Nat) (hz : z < 4294967296) => (by omega : (z : Int) % 4294967296 = z)) _ this
  rw [h2] at h1
  rw [h3]
  exact h1⟩
 have HB : Aside0 (Below w.heap.size w ((w.alloc (zeros (n / 32 + 1))).setCell ⟨w.heap.size, n / 32, none⟩ (.int .u32 (2 ^ (n % 32) % 4294967296)))) := ⟨(below_alloc (Below.refl _ _) _).setCell (by simp) _⟩
 go_enter Tryz.func133, Tryz.ntmps133
 go_wp2_with (go_at_call 173; (with_reducible refine (HM.out _ HB.out HR.out).mono ?_); rintro e w4 ⟨A, k, c, rfl, hm4, hb4, hf4⟩)
 go_ret
 exact ⟨_, _, _, rfl, hm4, HB.out.trans (hb4.mono HB.out.size), fun b h => Nat.le_trans HB.out.size (hf4 b h)⟩
theorem copy_nat {W : World} {g K L c m : Nat} {A : Option Addr} (hR : Row W g (List.replicate K 0)) (hM : NN W A L c m) (hK : L ≤ K) :
 ∃ wa, (Builtin.copy_ #[100, 100] 3 #[.slice (some ⟨g, 0, none⟩) K K, .slice A L c]).run Tryz.prog W = .ok (goInt L) wa ∧ Row wa g (dg UU m ++ List.replicate (K - L) 0) ∧ Below g W wa := by
 obtain ⟨h0c, h1, h3⟩ := hM
 rcases Nat.eq_zero_or_pos L with h0 | h0
 ·subst h0
  refine ⟨W, run_copy_none W _ _ _ 22 _ _ _ _ _ _ Tryz.underlying100 size_u32 (by simp), ?_, Below.refl _ _⟩
  rw [List.eq_nil_of_length_eq_zero h1]
  exact hR
 ·obtain ⟨b, rfl, hb, hc⟩ := h3 h0
  have hrun := run_copy_row (P := Tryz.prog) W 100 100 3 22 g 0 K K ⟨b, 0, none⟩ L c _ _ ((dg UU m).map fun d : Nat => Value.int .u32 (d : Int)) Tryz.underlying100 size_u32 hR
   (by rw [List.length_map, h1]; exact (Nat.min_eq_left hK).symm)
   (fun j v hj => by
     have hadd : (⟨b, 0, none⟩ : Addr).add j = ⟨b, j, none⟩ := by unfold Addr.add; split <;> simp_all
     have hjl : j < L := by
      have := (List.getElem?_eq_some_iff.1 hj).1
      rw [List.length_map, h1] at this; exact this
     rw [hadd, hc j hjl, ← hj, List.getElem?_map, List.getElem?_eq_getElem (by omega), getD_lt (by omega)]; rfl)
   (by simp [h1]; exact hK) (by simp [Value.oneCell'])
  rw [List.length_map, h1] at hrun
  refine ⟨_, hrun, ?_, below_setRow (Below.refl _ _) (Nat.le_refl _) _⟩
  unfold Row
  rw [setRow_heap W g _ _ _ _ hR]
  simp [h1]
/-- The digits of m, with zeros behind. -/
theorem pad_getD {m K L : Nat} (hL : (dg UU m).length = L) (j : Nat) : (dg UU m ++ List.replicate (K - L) 0).getD j 0 = m / UU ^ j % UU := by
 rw [← dg_getD UU1]
 rcases Nat.lt_or_ge j L with h | h
 ·simp [List.getD_eq_getElem?_getD, List.getElem?_append_left (show j < (dg UU m).length by omega)]
 ·simp only [List.getD_eq_getElem?_getD, List.getElem?_append_right (show (dg UU m).length ≤ j by omega), List.getElem?_replicate, List.getElem?_eq_none (show (dg UU m).length ≤ j by omega)]
  split <;> rfl
theorem take_set_succ {xs : List Nat} {i d : Nat} (h : i < xs.length) : (xs.set i d).take (i + 1) = xs.take i ++ [d] := by
 rw [List.take_succ_eq_append_getElem (by simpa using h), List.getElem_set_self, List.take_set_of_le (Nat.le_refl _)]
/-- A sum at the digit i: the digits below are done, those from i on are still m's. -/
structure AIn (m n K i c : Nat) (xs : List Nat) : Prop where
 len : xs.length = K
 lt : ∀ d ∈ xs, d < UU
 d : ∀ j, i ≤ j → xs.getD j 0 = m / UU ^ j % UU
 v : val UU (xs.take i) + UU ^ i * c = m % UU ^ i + n % UU ^ i
theorem pad_lt {m K L : Nat} : ∀ d ∈ dg UU m ++ List.replicate (K - L) 0, d < UU := by
 intro d hd
 rcases List.mem_append.1 hd with h | h
 ·exact dg_lt UU1 m d h
 ·rw [List.eq_of_mem_replicate h]; decide
theorem pad_len {m K L : Nat} (hL : (dg UU m).length = L) (hK : L ≤ K) : (dg UU m ++ List.replicate (K - L) 0).length = K := by simp [hL]; omega
theorem AIn.start {m K L : Nat} (n : Nat) (hL : (dg UU m).length = L) (hK : L ≤ K) : AIn m n K 0 0 (dg UU m ++ List.replicate (K - L) 0) :=
 ⟨pad_len hL hK, pad_lt, fun j _ => pad_getD hL j, by simp [val, Nat.mod_one]⟩
theorem AIn.step {m n K i c T : Nat} {xs : List Nat} (h : AIn m n K i c xs) (hi : i < K) (hc : c ≤ 1) (hT : T = c + m / UU ^ i % UU + n / UU ^ i % UU) : AIn m n K (i + 1) (T / UU) (xs.set i (T % UU)) ∧ T / UU ≤ 1 := by
 have hs := add_step UU1 (m := m) (n := n) (i := i) (c := c) (out := xs.take i) (by rw [List.length_take, h.len]; omega) hc h.v
 rw [show m / UU ^ i % UU + n / UU ^ i % UU + c = T by omega] at hs
 refine ⟨⟨by rw [List.length_set]; exact h.len, mem_set_lt h.lt (Nat.mod_lt _ (by decide)), fun j hj => by rw [getD_set_ne (by omega)]; exact h.d j (by omega), ?_⟩, hs.2.1⟩
 rw [take_set_succ (by rw [h.len]; exact hi)]
 exact hs.1
theorem fin_aux {P U m n c v : Nat} (hU : 2 ≤ U) (hm : m < P) (hn : n < P) (hv : v + P * U * c = m % (P * U) + n % (P * U)) : v = m + n := by
 have h2 : P * 2 ≤ P * U := Nat.mul_le_mul_left _ hU
 generalize P * U = Q at *
 rw [Nat.mod_eq_of_lt (show m < Q by omega), Nat.mod_eq_of_lt (show n < Q by omega)] at hv
 rcases Nat.eq_zero_or_pos c with h1 | h1
 ·subst h1; omega
 ·have : Q * 1 ≤ Q * c := Nat.mul_le_mul_left _ h1
  omega
theorem UU2 : 2 ≤ UU := UU1
theorem AIn.fin {m n K c : Nat} {xs : List Nat} (h : AIn m n K K c xs) (hm : m < UU ^ (K - 1)) (hn : n < UU ^ (K - 1)) (h0 : 0 < K) : val UU xs = m + n := by
 have hv := h.v
 rw [List.take_of_length_le (by rw [h.len]; exact Nat.le_refl _), show UU ^ K = UU ^ (K - 1) * UU by rw [← Nat.pow_succ]; congr 1; omega] at hv
 exact fin_aux UU2 hm hn hv
theorem natAdd_calls {w : World} {A1 A2 : Option Addr} {L1 L2 c1 c2 m n : Nat} (h1 : NN w A1 L1 c1 m) (h2 : NN w A2 L2 c2 n) (hL1 : L1 ≤ 90000) (hL2 : L2 ≤ 90000) :
 Calls Tryz.prog 174 #[.slice A1 L1 c1, .slice A2 L2 c2] w fun e w' => RF w (m + n) e w' := by
 obtain ⟨K, hK⟩ : ∃ K, max L1 L2 + 1 = K := ⟨_, rfl⟩
 have hmk := make_nat (((max L1 L2 : Nat) : Int) + 1) K (by omega) (by omega)
 have hn := dg_lt_pow UU1 n
 rw [h2.len] at hn
 have hm := dg_lt_pow UU1 m
 rw [h1.len] at hm
 have HN : Aside0 (m < UU ^ (K - 1) ∧ n < UU ^ (K - 1) ∧ 0 < K) := ⟨Nat.lt_of_lt_of_le hm (Nat.pow_le_pow_right (by decide) (by omega)), Nat.lt_of_lt_of_le hn (Nat.pow_le_pow_right (by decide) (by omega)), by omega⟩
 have hb0 := below_alloc (Below.refl w.heap.size w) (zeros K)
 obtain ⟨wa, hcp, hRa, hBa⟩ := copy_nat (row_zeros w K) (h1.below hb0) (by omega)
 have HG : Aside0 (Row wa w.heap.size (dg UU m ++ List.replicate (K - L1) 0) ∧ Below w.heap.size w wa) := ⟨hRa, hb0.trans hBa⟩
 have hA := AIn.start n h1.len (show L1 ≤ K by omega)
 have HA := Aside0.mk hA
 have H2 := Aside0.mk h2
 clear h1 h2 hn hm hb0 hRa hBa hA
 generalize dg UU m ++ List.replicate (K - L1) 0 = ys at *
 have hmx2 : ∀ W, (Builtin.max_ #[3, 3] 3 #[.int .i64 (L1 : Int), .int .i64 (L2 : Int)]).run Tryz.prog W = .ok (.int .i64 ((max L1 L2 : Nat) : Int)) W := fun W => by
  rw [run_max_int2]
  congr 2
  split <;> omega
 go_enter Tryz.func174, Tryz.ntmps174
 go_wp2_with fail
 go_loopw [6, 20] (fun v6 v20 W => ∃ i c : Nat, v6 = .int .u64 (c : Int) ∧ v20 = .int .i64 (i : Int) ∧ i ≤ K ∧ c ≤ 1 ∧ Aside0 (∃ xs, AIn m n K i c xs ∧ Row W w.heap.size xs) ∧ Aside0 (Below w.heap.size w W)) (fun _ v20 _ => K - (intOf v20).toNat)
 case atStart => exact ⟨0, 0, rfl, rfl, by omega, by omega, ⟨_, HA.out, HG.out.1⟩, ⟨HG.out.2⟩⟩
 case round =>
  obtain ⟨i, c, rfl, rfl, hi, hc1, hout, hb⟩ := hrel
  by_cases hlt : i < K
  ·obtain ⟨xs, o1, o2⟩ := hout.out
   obtain ⟨x, hx⟩ : ∃ x, m / UU ^ i % UU = x := ⟨_, rfl⟩
   have hx1 : x < 4294967296 := by rw [← hx]; exact Nat.mod_lt _ (by decide)
   obtain ⟨y, hy⟩ : ∃ y, n / UU ^ i % UU = y := ⟨_, rfl⟩
   have hy1 : y < 4294967296 := by rw [← hy]; exact Nat.mod_lt _ (by decide)
   have q0 : wr.cell? ⟨w.heap.size, i, none⟩ = some (.int .u32 (x : Int)) := by rw [← hx, ← o1.d i (Nat.le_refl _)]; exact o2.cell (by rw [o1.len]; exact hlt)
   have q3 : wr.frozen? ⟨w.heap.size, i, none⟩ = false := o2.frozen _
   have HS := Aside0.mk (And.intro o1 (And.intro o2 (And.intro hx hy)))
   have p1 : IntKind.u64.wrap ((c : Int) + (x : Int)) = (c : Int) + (x : Int) := IntWalk.u64_in _ (by omega)
   have hK0 : (i : Int) < (K : Int) := by omega
   clear o1 o2 hout
   by_cases hi2 : i < L2
   ·obtain ⟨b2, hA2, hb2, q2⟩ := (H2.out.below hb.out).dig hi2
    rw [hy] at q2
    subst hA2
    have hi3 : (i : Int) < (L2 : Int) := by omega
    have p2 : IntKind.u64.wrap ((c : Int) + (x : Int) + (y : Int)) = ((c + x + y : Nat) : Int) := by rw [IntWalk.u64_in _ (by omega)]; omega
    clear hx hy
    obtain ⟨T, hT⟩ : ∃ T, c + x + y = T := ⟨_, rfl⟩
    rw [hT] at p2
    have HT := Aside0.mk hT
    have hT1 : T < 18446744073709551616 := by omega
    clear hT
    go_wp2_with fail
    have hst := HS.out.1.step hlt hc1 (T := T) (by rw [HS.out.2.2.1, HS.out.2.2.2, HT.out])
    refine ⟨⟨i + 1, T / UU, congrArg (Value.int .u64) (by unfold UU; omega), by go_num, by omega, hst.2, ⟨_, hst.1, ?_⟩, ⟨hb.out.setCell (by simp) _⟩⟩, by simp [intOf]; omega⟩
    have := HS.out.2.1.set i (T % UU)
    rw [show ((T % UU : Nat) : Int) = (T : Int) % 4294967296 by unfold UU; omega] at this
    exact this
   ·have hi3 : ¬ (i : Int) < (L2 : Int) := by omega
    have hy0 : y = 0 := by
     rw [← hy, ← dg_getD UU1, List.getD_eq_getElem?_getD, List.getElem?_eq_none (by rw [H2.out.len]; omega)]; rfl
    obtain ⟨T, hT⟩ : ∃ T, c + x = T := ⟨_, rfl⟩
    have p2 : (c : Int) + (x : Int) = (T : Int) := by omega
    have HT := Aside0.mk (And.intro hT hy0)
    have hT1 : T < 18446744073709551616 := by omega
    rw [p2] at p1
    clear hT hx hy hy0
    go_wp2_with fail
    have hst := HS.out.1.step hlt hc1 (T := T) (by rw [HS.out.2.2.1, HS.out.2.2.2, HT.out.2, HT.out.1, Nat.add_zero])
    refine ⟨⟨i + 1, T / UU, congrArg (Value.int .u64) (by unfold UU; omega), by go_num, by omega, hst.2, ⟨_, hst.1, ?_⟩, ⟨hb.out.setCell (by simp) _⟩⟩, by simp [intOf]; omega⟩
    have := HS.out.2.1.set i (T % UU)
    rw [show ((T % UU : Nat) : Int) = (T : Int) % 4294967296 by unfold UU; omega] at this
    exact this
  ·obtain rfl : i = K := by omega
   clear hi hlt
   obtain ⟨xs, o1, o2⟩ := hout.out
   have HT := Aside0.mk (trim_row (w0 := w) o2 o1.lt (by rw [o1.len]; omega) (n := m + n) (o1.fin HN.out.1 HN.out.2.1 HN.out.2.2) (L := i) o1.len hb.out (Nat.le_refl _))
   clear o1 o2 hout
   go_wp2_with (go_at_call 185; (with_reducible refine HT.out.mono ?_); rintro e w4 ⟨A, k, c, rfl, hm4, hb4, hf4⟩)
   go_ret
   exact ⟨_, _, _, rfl, hm4, hb4, hf4⟩
/-- A difference at the digit i. -/
structure SIn (m n K i r : Nat) (xs : List Nat) : Prop where
 len : xs.length = K
 lt : ∀ d ∈ xs, d < UU
 d : ∀ j, i ≤ j → xs.getD j 0 = m / UU ^ j % UU
 v : val UU (xs.take i) + n % UU ^ i = m % UU ^ i + UU ^ i * r
theorem SIn.start {m K L : Nat} (n : Nat) (hL : (dg UU m).length = L) (hK : L ≤ K) : SIn m n K 0 0 (dg UU m ++ List.replicate (K - L) 0) :=
 ⟨pad_len hL hK, pad_lt, fun j _ => pad_getD hL j, by simp [val, Nat.mod_one]⟩
theorem SIn.step {m n K i r d r' : Nat} {xs : List Nat} (h : SIn m n K i r xs) (hi : i < K) (hr : r ≤ 1) (hd1 : d < UU) (hd : d + (n / UU ^ i % UU + r) = m / UU ^ i % UU + UU * r') : SIn m n K (i + 1) r' (xs.set i d) := by
 have hs := sub_step UU1 (m := m) (n := n) (i := i) (r := r) (out := xs.take i) (by rw [List.length_take, h.len]; omega) hr h.v d r' hd
 refine ⟨by rw [List.length_set]; exact h.len, mem_set_lt h.lt hd1, fun j hj => by rw [getD_set_ne (by omega)]; exact h.d j (by omega), ?_⟩
 rw [take_set_succ (by rw [h.len]; exact hi)]
 exact hs
theorem SIn.fin {m n K r : Nat} {xs : List Nat} (h : SIn m n K K r xs) (hm : m < UU ^ K) (hnm : n ≤ m) : val UU xs = m - n := by
 have hv := h.v
 rw [List.take_of_length_le (by rw [h.len]; exact Nat.le_refl _)] at hv
 exact less_end UU1 h.lt h.len hm hnm hv
theorem natSub_calls {w : World} {A1 A2 : Option Addr} {L1 L2 c1 c2 m n : Nat} (h1 : NN w A1 L1 c1 m) (h2 : NN w A2 L2 c2 n) (hL1 : L1 ≤ 90000) (hL2 : L2 ≤ 90000) (hnm : n ≤ m) :
 Calls Tryz.prog 176 #[.slice A1 L1 c1, .slice A2 L2 c2] w fun e w' => RF w (m - n) e w' := by
 have hmk := make_nat (L1 : Int) L1 rfl (by omega)
 have hm := dg_lt_pow UU1 m
 rw [h1.len] at hm
 have HN := Aside0.mk (And.intro hm hnm)
 have hb0 := below_alloc (Below.refl w.heap.size w) (zeros L1)
 obtain ⟨wa, hcp, hRa, hBa⟩ := copy_nat (row_zeros w L1) (h1.below hb0) (Nat.le_refl _)
 have HG : Aside0 (Row wa w.heap.size (dg UU m ++ List.replicate (L1 - L1) 0) ∧ Below w.heap.size w wa) := ⟨hRa, hb0.trans hBa⟩
 have HA := Aside0.mk (SIn.start n h1.len (Nat.le_refl L1))
 have H2 := Aside0.mk h2
 clear h1 h2 hm hb0 hRa hBa hnm
 generalize dg UU m ++ List.replicate (L1 - L1) 0 = ys at *
 go_enter Tryz.func176, Tryz.ntmps176
 go_wp2_with fail
 go_loopw [6, 17] (fun v6 v17 W => ∃ i r : Nat, v6 = .int .u64 (r : Int) ∧ v17 = .int .i64 (i : Int) ∧ i ≤ L1 ∧ r ≤ 1 ∧ Aside0 (∃ xs, SIn m n L1 i r xs ∧ Row W w.heap.size xs) ∧ Aside0 (Below w.heap.size w W)) (fun _ v17 _ => L1 - (intOf v17).toNat)
 case atStart => exact ⟨0, 0, rfl, rfl, by omega, by omega, ⟨_, HA.out, HG.out.1⟩, ⟨HG.out.2⟩⟩
 case round =>
  obtain ⟨i, r, rfl, rfl, hi, hr1, hout, hb⟩ := hrel
  by_cases hlt : i < L1
  ·obtain ⟨xs, o1, o2⟩ := hout.out
   obtain ⟨x, hx⟩ : ∃ x, m / UU ^ i % UU = x := ⟨_, rfl⟩
   have hx1 : x < 4294967296 := by rw [← hx]; exact Nat.mod_lt _ (by decide)
   obtain ⟨y, hy⟩ : ∃ y, n / UU ^ i % UU = y := ⟨_, rfl⟩
   have hy1 : y < 4294967296 := by rw [← hy]; exact Nat.mod_lt _ (by decide)
   have q0 : wr.cell? ⟨w.heap.size, i, none⟩ = some (.int .u32 (x : Int)) := by rw [← hx, ← o1.d i (Nat.le_refl _)]; exact o2.cell (by rw [o1.len]; exact hlt)
   have q3 : wr.frozen? ⟨w.heap.size, i, none⟩ = false := o2.frozen _
   have HS := Aside0.mk (And.intro o1 (And.intro o2 (And.intro hx hy)))
   have w1 : IntKind.u64.wrap (x : Int) = (x : Int) := IntWalk.u64_in _ (by omega)
   have hK0 : (i : Int) < (L1 : Int) := by omega
   clear o1 o2 hout
   obtain ⟨T, hT⟩ : ∃ T, r + y = T := ⟨_, rfl⟩
   obtain ⟨d, hd⟩ : ∃ d, (if x < T then x + 4294967296 - T else x - T) = d := ⟨_, rfl⟩
   have p3 : IntKind.u32.wrap (IntKind.u64.wrap ((x : Int) - (T : Int))) = (d : Int) := by
    rw [← hd]
    simp only [IntKind.wrap, IntKind.bits, IntKind.signed]
    simp
    split <;> omega
   have HT := Aside0.mk (And.intro hT hd)
   have hstep : ∀ (r' : Nat), (x < T ∧ r' = 1) ∨ (¬ x < T ∧ r' = 0) → SIn m n L1 (i + 1) r' (xs.set i d) := fun r' hr' => by
    refine HS.out.1.step hlt hr1 ?_ ?_
    ·unfold UU; rw [← hd]; split <;> omega
    ·rw [HS.out.2.2.1, HS.out.2.2.2, ← hd]
     unfold UU
     rcases hr' with ⟨g1, rfl⟩ | ⟨g1, rfl⟩
     ·rw [if_pos g1]; omega
     ·rw [if_neg g1]; omega
   have HSt := Aside0.mk hstep
   clear hstep hx hd
   by_cases hi2 : i < L2
   ·obtain ⟨b2, hA2, hb2, q2⟩ := (H2.out.below hb.out).dig hi2
    rw [hy] at q2
    subst hA2
    have hi3 : (i : Int) < (L2 : Int) := by omega
    have p2 : IntKind.u64.wrap ((r : Int) + (y : Int)) = (T : Int) := by rw [IntWalk.u64_in _ (by omega)]; omega
    clear hT hy
    by_cases hxT : x < T
    ·have hxT' : (x : Int) < (T : Int) := by omega
     go_wp2_with fail
     refine ⟨⟨i + 1, 1, by first | rfl | go_num, by go_num, by omega, by omega, ⟨_, HSt.out 1 (.inl ⟨hxT, rfl⟩), ?_⟩, ⟨hb.out.setCell (by simp) _⟩⟩, by simp [intOf]; omega⟩
     exact HS.out.2.1.set i d
    ·have hxT' : ¬ (x : Int) < (T : Int) := by omega
     go_wp2_with fail
     refine ⟨⟨i + 1, 0, by first | rfl | go_num, by go_num, by omega, by omega, ⟨_, HSt.out 0 (.inr ⟨hxT, rfl⟩), ?_⟩, ⟨hb.out.setCell (by simp) _⟩⟩, by simp [intOf]; omega⟩
     have hdd : (d : Int) = (x : Int) - (T : Int) := by have := HT.out.2; rw [if_neg hxT] at this; omega
     have := HS.out.2.1.set i d
     rw [hdd] at this
     exact this
   ·have hi3 : ¬ (i : Int) < (L2 : Int) := by omega
    have hy0 : y = 0 := by
     rw [← hy, ← dg_getD UU1, List.getD_eq_getElem?_getD, List.getElem?_eq_none (by rw [H2.out.len]; omega)]; rfl
    obtain rfl : r = T := by omega
    clear hT hy hy0
    by_cases hxT : x < r
    ·have hxT' : (x : Int) < (r : Int) := by omega
     go_wp2_with fail
     refine ⟨⟨i + 1, 1, by first | rfl | go_num, by go_num, by omega, by omega, ⟨_, HSt.out 1 (.inl ⟨hxT, rfl⟩), ?_⟩, ⟨hb.out.setCell (by simp) _⟩⟩, by simp [intOf]; omega⟩
     exact HS.out.2.1.set i d
    ·have hxT' : ¬ (x : Int) < (r : Int) := by omega
     go_wp2_with fail
     refine ⟨⟨i + 1, 0, by first | rfl | go_num, by go_num, by omega, by omega, ⟨_, HSt.out 0 (.inr ⟨hxT, rfl⟩), ?_⟩, ⟨hb.out.setCell (by simp) _⟩⟩, by simp [intOf]; omega⟩
     have hdd : (d : Int) = (x : Int) - (r : Int) := by have := HT.out.2; rw [if_neg hxT] at this; omega
     have := HS.out.2.1.set i d
     rw [hdd] at this
     exact this
  ·obtain rfl : i = L1 := by omega
   clear hi hlt
   obtain ⟨xs, o1, o2⟩ := hout.out
   have HT := Aside0.mk (trim_row (w0 := w) o2 o1.lt (by rw [o1.len]; omega) (n := m - n) (o1.fin HN.out.1 HN.out.2) (L := i) o1.len hb.out (Nat.le_refl _))
   clear o1 o2 hout
   go_wp2_with (go_at_call 185; (with_reducible refine HT.out.mono ?_); rintro e w4 ⟨A, k, c, rfl, hm4, hb4, hf4⟩)
   go_ret
   exact ⟨_, _, _, rfl, hm4, hb4, hf4⟩
end
section
open Go.Proofs.YtnjbinpbkjdjpaaGreatDoorW.PrintLast Go.Proofs.YtnjbinpbkjdjpaaGreatDoorW.PrintMore Go.Proofs.YtnjbinpbkjdjpaaGreatDoorW.PrintWords Go.RowKit Go.Shelf
theorem wid_half {x : Nat} (h : x ≠ 0) : wid x = 1 + wid (x / 2) := by
 have key : ∀ k, wid x ≤ k + 1 ↔ wid (x / 2) ≤ k := fun k => by
  rw [wid_le, wid_le, Nat.pow_succ, Nat.div_lt_iff_lt_mul (by decide)]
 have h1 := (key (wid (x / 2))).2 (Nat.le_refl _)
 rcases Nat.eq_zero_or_pos (wid x) with h0 | h0
 ·have : wid x ≤ 0 := by omega
  rw [wid_le] at this
  simp at this
  exact absurd this h
 ·obtain ⟨j, hj⟩ : ∃ j, wid x = j + 1 := ⟨wid x - 1, by omega⟩
  have := (key j).1 (Nat.le_of_eq hj)
  omega
theorem bitLen_wid : ∀ x : Nat, x < 2 ^ 64 → Lib.bitLen x = wid x := by
 intro x
 induction x using Nat.strongRecOn with
 | _ x ih =>
   intro h
   by_cases h0 : x = 0
   ·subst h0; decide
   ·rw [Lib.bitLen_half x h0 h, wid_half h0, ih (x / 2) (by omega) (by omega)]
theorem width_calls {w : World} {A : Option Addr} {L c n : Nat} (h : NN w A L c n) (hL : L ≤ 1000000) :
 Calls Tryz.prog 135 #[.slice A L c] w fun e w' => e = .returned (.int .i64 (wid n : Nat)) ∧ w' = w := by
 rcases Nat.eq_zero_or_pos L with h0 | h0
 ·obtain rfl := h0
  obtain rfl := h.len_zero.1 rfl
  clear h
  have : wid 0 = 0 := by decide
  rw [this]
  go_enter Tryz.func135, Tryz.ntmps135
  go_wp2
  go_ret
  exact ⟨rfl, rfl⟩
 ·obtain ⟨k, rfl⟩ : ∃ k, L = k + 1 := ⟨L - 1, by omega⟩
  obtain ⟨b, rfl, hb, q1⟩ := h.dig (i := k) (by omega)
  have hw := wid_digs h.len
  have hx : n / UU ^ k % UU < 4294967296 := Nat.mod_lt _ (by decide)
  clear h
  generalize n / UU ^ k % UU = x at *
  have hx2 : wid x ≤ 32 := by rw [wid_le]; exact hx
  have hl := bitLen_wid x (by omega)
  have HL : Aside0 (∀ W, Calls Tryz.prog 188 #[.int .u32 (x : Int)] W fun e w' => e = .returned (.int .i64 (wid x : Nat)) ∧ w' = W) := ⟨fun W => by
   have := Tryz.bits_Len32 (x : Int) W (by omega) (by omega)
   rw [Int.toNat_natCast, hl] at this
   exact this⟩
  rw [hw]
  generalize wid x = y at *
  clear hl
  go_enter Tryz.func135, Tryz.ntmps135
  go_wp2_with (go_at_call 188; (with_reducible refine (HL.out _).mono ?_); rintro e w' ⟨rfl, rfl⟩)
  go_ret
  exact ⟨ret_i (by omega), rfl⟩
theorem NN.setRow {w : World} {A : Option Addr} {L c n : Nat} (h : NN w A L c n) {g : Nat} (hg : ∀ b, A = some ⟨b, 0, none⟩ → 0 < L → b ≠ g) (o : Nat) (u : Value) : NN (w.setCell ⟨g, o, none⟩ u) A L c n := by
 obtain ⟨h0, h1, h3⟩ := h
 refine ⟨h0, h1, fun hL => ?_⟩
 obtain ⟨b, rfl, hlt, hc⟩ := h3 hL
 exact ⟨b, rfl, by simpa using hlt, fun j hj => (World.cell?_setCell_other w ⟨g, o, none⟩ ⟨b, j, none⟩ u (fun e => hg b rfl hL (by have := congrArg Addr.block e; first | exact this | exact this.symm))).trans (hc j hj)⟩
/-- What the division keeps at a world: the divisor, the dividend, the quotient's list. -/
structure DD (w : World) (A1 : Option Addr) (L1 c1 m : Nat) (A2 : Option Addr) (L2 c2 n : Nat) (xs : List Nat) (W : World) : Prop where
 n1 : NN W A1 L1 c1 m
 n2 : NN W A2 L2 c2 n
 r : Row W w.heap.size xs
 b : Below w.heap.size w W
theorem DD.step {w : World} {A1 : Option Addr} {L1 c1 m : Nat} {A2 : Option Addr} {L2 c2 n : Nat} {xs : List Nat} {W W' : World} (h : DD w A1 L1 c1 m A2 L2 c2 n xs W) (hb : Below W.heap.size W W') : DD w A1 L1 c1 m A2 L2 c2 n xs W' :=
 ⟨h.n1.below hb, h.n2.below hb, h.r.keep hb, h.b.trans (hb.mono h.b.size)⟩
theorem DD.put {w : World} {A1 : Option Addr} {L1 c1 m : Nat} {A2 : Option Addr} {L2 c2 n : Nat} {xs : List Nat} {W : World} (h : DD w A1 L1 c1 m A2 L2 c2 n xs W)
 (hne : (∀ b, A1 = some ⟨b, 0, none⟩ → 0 < L1 → b ≠ w.heap.size) ∧ (∀ b, A2 = some ⟨b, 0, none⟩ → 0 < L2 → b ≠ w.heap.size)) {j d : Nat} {v : Int} (hv : v = (d : Int)) : DD w A1 L1 c1 m A2 L2 c2 n (xs.set j d) (W.setCell ⟨w.heap.size, j, none⟩ (.int .u32 v)).drew := by
 subst hv
 exact ⟨(h.n1.setRow hne.1 _ _).below (below_drew1 (Below.refl _ _)), (h.n2.setRow hne.2 _ _).below (below_drew1 (Below.refl _ _)), (h.r.set j d).keep (below_drew1 (Below.refl _ _)), below_drew1 (h.b.setCell (by simp) _)⟩
theorem NN.lenU {w : World} {A : Option Addr} {L c n : Nat} (h : NN w A L c n) {k : Nat} (hk : n < UU ^ k) : L ≤ k := by rw [← h.len]; exact dg_length UU1 k n hk
/-- The one as a literal. -/
theorem nn_one (W : World) (t : TypeId) : NN (W.alloc (.cells #[.int .u32 1] t)) (some ⟨W.heap.size, 0, none⟩) 1 1 1 := by
 refine ⟨Nat.le_refl _, ?_⟩
 rw [show dg UU 1 = [1] from dg_one UU1 (by decide) UU1]
 exact (lst_one W 1 t).more (by simp)
theorem trim_row2 {w0 W : World} {g : Nat} {xs : List Nat} (h : Row W g xs) (hd : ∀ d ∈ xs, d < UU) (hL : xs.length ≤ 1000000) {n : Nat} (hn : val UU xs = n) {L : Nat} (hl : xs.length = L) (hb : Below w0.heap.size w0 W) (hg : w0.heap.size ≤ g) :
 Calls Tryz.prog 185 #[.slice (some ⟨g, 0, none⟩) L L] W fun e w' => ∃ A k c, e = .returned (.slice A k c) ∧ NN w' A k c n ∧ Below w0.heap.size w0 w' ∧ (∀ b, A = some ⟨b, 0, none⟩ → w0.heap.size ≤ b) ∧ Below W.heap.size W w' := by
 subst hl hn
 refine (trim_calls (h.lst) hd (Nat.le_refl _) hL h.lt).mono ?_
 rintro e w' ⟨k, rfl, hm, hb2⟩
 exact ⟨_, k, _, rfl, hm, hb.trans (hb2.mono hb.size), new_at hg, hb2⟩
theorem down_meas (i : Nat) : (intOf (.int .i64 ((i : Int) - 1)) + 1).toNat < (intOf (.int .i64 (i : Int)) + 1).toNat := by simp only [intOf]; omega
def DivN (w : World) (q r : Nat) (e : Ending) (w' : World) : Prop := ∃ A k c A' k' c', e = .returned (.tuple #[.slice A k c, .slice A' k' c']) ∧ NN w' A k c q ∧ NN w' A' k' c' r ∧ Below w.heap.size w w' ∧ ∀ b, A = some ⟨b, 0, none⟩ → w.heap.size ≤ b
theorem natDiv_calls {w : World} {A1 A2 : Option Addr} {L1 L2 c1 c2 m n : Nat} (h1 : NN w A1 L1 c1 m) (h2 : NN w A2 L2 c2 n) (hL1 : L1 ≤ 30000) (hL2 : L2 ≤ 30000) (h0 : 0 < n) :
 Calls Tryz.prog 142 #[.slice A1 L1 c1, .slice A2 L2 c2] w fun e w' => DivN w (m / n) (m % n) e w' := by
 have hn := dg_lt_pow UU1 n
 rw [h2.len] at hn
 have hm := dg_lt_pow UU1 m
 rw [h1.len] at hm
 have hU : UU ^ L2 * 2 ≤ UU ^ (L2 + 1) := by rw [Nat.pow_succ]; exact Nat.mul_le_mul_left _ UU2
 have hlen : ∀ {W : World} {A : Option Addr} {L c r : Nat}, NN W A L c r → r < 2 * n → L ≤ 40000 := fun h hr => by
  have := h.lenU (k := L2 + 1) (by omega)
  omega
 have HSH : Aside0 (∀ W A L c, NN W A L c (m / 2 ^ 0 % n) → True) := ⟨fun _ _ _ _ _ => trivial⟩
 clear HSH
 have HSHL : Aside0 (∀ (W : World) (A : Option Addr) (L c r : Nat), r < n → NN W A L c r → Calls Tryz.prog 133 #[.slice A L c, .int .i64 1] W fun e w' => RF W (r * 2) e w') := ⟨fun W A L c r hr h => shl_calls h (hlen h (by omega)) 1 (by omega)⟩
 have HADD : Aside0 (∀ (W : World) (A : Option Addr) (L c r : Nat) (g : Nat) (t : TypeId), r < 2 * n → NN W A L c r → g = W.heap.size → Calls Tryz.prog 174 #[.slice A L c, .slice (some ⟨g, 0, none⟩) 1 1] (W.alloc (.cells #[.int .u32 1] t)) fun e w' => RF W (r + 1) e w') := ⟨fun W A L c r g t hr h hg => by
  subst hg
  have hb := below_alloc (Below.refl W.heap.size W) (.cells #[.int .u32 1] t)
  refine (natAdd_calls (h.below hb) (nn_one W t) (Nat.le_trans (hlen h hr) (by omega)) (by omega)).mono ?_
  rintro e w' ⟨A, k, c, rfl, hm, hb2, hf⟩
  exact ⟨A, k, c, rfl, hm, hb.trans (hb2.mono hb.size), fun b h => Nat.le_trans hb.size (hf b h)⟩⟩
 have HCMP : Aside0 (∀ (W : World) (A : Option Addr) (L c r : Nat), r < 2 * n → NN W A L c r → NN W A2 L2 c2 n → Calls Tryz.prog 175 #[.slice A L c, .slice A2 L2 c2] W fun e w' => ∃ v : Int, e = .returned (.int .i64 v) ∧ CmpV r n v ∧ Below W.heap.size W w') := ⟨fun W A L c r hr h h2 => cmp_calls h h2 (Nat.le_trans (hlen h hr) (by omega)) (by omega)⟩
 have HSUB : Aside0 (∀ (W : World) (A : Option Addr) (L c r : Nat), r < 2 * n → NN W A L c r → NN W A2 L2 c2 n → n ≤ r → Calls Tryz.prog 176 #[.slice A L c, .slice A2 L2 c2] W fun e w' => RF W (r - n) e w') := ⟨fun W A L c r hr h h2 hge => natSub_calls h h2 (Nat.le_trans (hlen h hr) (by omega)) (by omega) hge⟩
 have HW : Aside0 (∀ W, NN W A1 L1 c1 m → Calls Tryz.prog 135 #[.slice A1 L1 c1] W fun e w' => e = .returned (.int .i64 (wid m : Nat)) ∧ w' = W) := ⟨fun W h => width_calls h (by omega)⟩
 have hmk := make_nat (L1 : Int) L1 rfl (by omega)
 have hb0 := below_alloc (Below.refl w.heap.size w) (zeros L1)
 obtain ⟨wa, hwa⟩ : ∃ wa, w.alloc (zeros L1) = wa := ⟨_, rfl⟩
 have HG : Aside0 (DD w A1 L1 c1 m A2 L2 c2 n (List.replicate L1 0) wa) := ⟨by subst hwa; exact ⟨h1.below hb0, h2.below hb0, row_zeros _ _, hb0⟩⟩
 have hwm : wid m ≤ 32 * L1 := by rw [wid_le, ← UU_pow]; exact hm
 have HM := Aside0.mk (And.intro hm hn)
 have HNE : Aside0 ((∀ b, A1 = some ⟨b, 0, none⟩ → 0 < L1 → b ≠ w.heap.size) ∧ (∀ b, A2 = some ⟨b, 0, none⟩ → 0 < L2 → b ≠ w.heap.size)) := ⟨fun b hA h0 => by
  obtain ⟨b', hA', hlt, _⟩ := h1.addr h0
  rw [hA] at hA'; injection hA' with e; injection e with e; omega, fun b hA h0 => by
  obtain ⟨b', hA', hlt, _⟩ := h2.addr h0
  rw [hA] at hA'; injection hA' with e; injection e with e; omega⟩
 clear h1 h2 hb0 hm hn hlen hU
 unfold RF at *
 unfold DivN
 go_enter Tryz.func142, Tryz.ntmps142
 go_wp2_with (go_at_call 135; (with_reducible refine (HW.out _ HG.out.n1).mono ?_); rintro e w' ⟨rfl, hww⟩; rw [hww]; clear hww hwa hmk)
 go_loopw [7, 8] (fun v7 v8 W => ∃ (k : Nat) (A : Option Addr) (L c : Nat), v7 = .slice A L c ∧ v8 = .int .i64 ((k : Int) - 1) ∧ k ≤ wid m ∧ Aside0 (NN W A L c (m / 2 ^ k % n) ∧ ∀ b, A = some ⟨b, 0, none⟩ → w.heap.size < b) ∧ Aside0 (∃ xs, (xs.length = L1 ∧ (∀ d ∈ xs, d < UU) ∧ val UU xs = topQ m n k) ∧ DD w A1 L1 c1 m A2 L2 c2 n xs W)) (fun _ v8 _ => (intOf v8 + 1).toNat)
 case atStart => exact ⟨wid m, none, 0, 0, rfl, rfl, Nat.le_refl _, ⟨by rw [Nat.div_eq_of_lt (wid_le.1 (Nat.le_refl _)), Nat.zero_mod]; exact ⟨NN.zero _ _ _, fun b h => by cases h⟩⟩, ⟨_, ⟨by simp, by intro d hd; rw [List.eq_of_mem_replicate hd]; decide, by rw [val_zeros, topQ_start (wid_le.1 (Nat.le_refl _))]⟩, HG.out⟩⟩
 case round =>
  obtain ⟨k, A, L, c, rfl, rfl, hk, HR, hout⟩ := hrel
  rcases Nat.eq_zero_or_pos k with rfl | hk0
  ·obtain ⟨xs, ⟨x1, x2, x3⟩, HD0⟩ := hout.out
   have hr := HR.out.1
   rw [Nat.pow_zero, Nat.div_one] at hr
   have HR1 := Aside0.mk hr
   have HT2 := Aside0.mk (trim_row2 (w0 := w) HD0.r x2 (by rw [x1]; omega) (n := m / n) (by rw [x3, topQ_zero]) (L := L1) x1 HD0.b (Nat.le_refl _))
   clear x1 x2 x3 HD0 hout hr HR HSHL HADD HCMP HSUB HW HM HNE HG
   go_wp2_with (go_at_call 185; (with_reducible refine HT2.out.mono ?_); rintro e w4 ⟨A5, k5, c5, rfl, hm4, hb4, hf4, hbb⟩)
   go_ret2
   exact ⟨_, _, _, _, _, _, rfl, hm4, HR1.out.below hbb, hb4, hf4⟩
  ·obtain ⟨i, rfl⟩ : ∃ i, k = i + 1 := ⟨k - 1, by omega⟩
   have e1 : ((i + 1 : Nat) : Int) - 1 = (i : Int) := by omega
   rw [e1]
   clear e1
   obtain ⟨xs, ⟨x1, x2, x3⟩, HD0⟩ := hout.out
   have HD := Aside0.mk HD0
   have HX := Aside0.mk (And.intro x1 (And.intro x2 x3))
   clear x1 x2 x3 HD0 hout
   obtain ⟨d1, d2, d3⟩ := div_step (m := m) (i := i) h0
   have hr0 : m / 2 ^ (i + 1) % n < n := Nat.mod_lt _ h0
   have hbb : bitN m i < 2 := Nat.mod_lt _ (by decide)
   have HBT : Aside0 (∀ W, NN W A1 L1 c1 m → Calls Tryz.prog 187 #[.slice A1 L1 c1, .int .i64 (i : Int)] W fun e w' => e = .returned (.bool (decide (bitN m i = 1))) ∧ Below W.heap.size W w') := ⟨fun W h => bit_calls h (by omega) (by omega)⟩
   have HDS := Aside0.mk (And.intro d1 d2)
   generalize m / 2 ^ (i + 1) % n = r at *
   have HSH : Aside0 (∀ (W : World) (A : Option Addr) (L c : Nat), NN W A L c r → Calls Tryz.prog 133 #[.slice A L c, .int .i64 1] W fun e w' => ∃ A k c, e = .returned (.slice A k c) ∧ NN w' A k c (r * 2) ∧ Below W.heap.size W w' ∧ ∀ b, A = some ⟨b, 0, none⟩ → W.heap.size ≤ b) := ⟨fun W A L c h => HSHL.out W A L c r hr0 h⟩
   by_cases hb1 : bitN m i = 1
   ·have HAD : Aside0 (∀ (W : World) (A : Option Addr) (L c : Nat) (g : Nat) (t : TypeId), NN W A L c (r * 2) → g = W.heap.size → Calls Tryz.prog 174 #[.slice A L c, .slice (some ⟨g, 0, none⟩) 1 1] (W.alloc (.cells #[.int .u32 1] t)) fun e w' => ∃ A k c, e = .returned (.slice A k c) ∧ NN w' A k c (r * 2 + 1) ∧ Below W.heap.size W w' ∧ ∀ b, A = some ⟨b, 0, none⟩ → W.heap.size ≤ b) := ⟨fun W A L c g t h hg => HADD.out W A L c (r * 2) g t (by omega) h hg⟩
    rw [hb1] at HDS d3 HBT
    rw [decide_eq_true rfl] at HBT
    generalize r * 2 + 1 = s at *
    have HCM : Aside0 (∀ (W : World) (A : Option Addr) (L c : Nat), NN W A L c s → NN W A2 L2 c2 n → Calls Tryz.prog 175 #[.slice A L c, .slice A2 L2 c2] W fun e w' => ∃ v : Int, e = .returned (.int .i64 v) ∧ CmpV s n v ∧ Below W.heap.size W w') := ⟨fun W A L c h h2 => HCMP.out W A L c s d3 h h2⟩
    by_cases hge : n ≤ s
    ·have HSB : Aside0 (∀ (W : World) (A : Option Addr) (L c : Nat), NN W A L c s → NN W A2 L2 c2 n → Calls Tryz.prog 176 #[.slice A L c, .slice A2 L2 c2] W fun e w' => ∃ A k c, e = .returned (.slice A k c) ∧ NN w' A k c (s - n) ∧ Below W.heap.size W w' ∧ ∀ b, A = some ⟨b, 0, none⟩ → W.heap.size ≤ b) := ⟨fun W A L c h h2 => HSUB.out W A L c s d3 h h2 hge⟩
     go_wp2_with (first | (go_at_call 133; (with_reducible refine (HSH.out _ _ _ _ HR.out.1).mono ?_); rintro e W1 ⟨A3, k3, c3, rfl, hm3, hb3, hf3⟩; have HR2 := Aside0.mk (And.intro hm3 (fun b h => Nat.lt_of_lt_of_le HD.out.r.lt (hf3 b h))); clear HR; have HR := HR2; clear HR2 hm3 hf3; have HD2 := Aside0.mk (HD.out.step hb3); clear HD; have HD := HD2; clear HD2; clear hb3) | (go_at_call 187; (with_reducible refine (HBT.out _ HD.out.1).mono ?_); rintro e W2 ⟨rfl, hb3⟩; have HD2 := Aside0.mk (HD.out.step hb3); clear HD; have HD := HD2; clear HD2; have HR2 := Aside0.mk (And.intro (HR.out.1.below hb3) HR.out.2); clear HR; have HR := HR2; clear HR2 hb3) | (go_at_call 174; (with_reducible refine (HAD.out _ _ _ _ _ _ HR.out.1 (by first | rfl | simp)).mono ?_); rintro e W3 ⟨A4, k4, c4, rfl, hm3, hb3, hf3⟩; have HR2 := Aside0.mk (And.intro hm3 (fun b h => Nat.lt_of_lt_of_le HD.out.r.lt (hf3 b h))); clear HR; have HR := HR2; clear HR2 hm3 hf3; have HD2 := Aside0.mk (HD.out.step hb3); clear HD; have HD := HD2; clear HD2; clear hb3) | (go_at_call 175; (with_reducible refine (HCM.out _ _ _ _ HR.out.1 HD.out.2).mono ?_); rintro e W4 ⟨v, rfl, hv, hb3⟩; have hv1 : (0 : Int) ≤ v := (by have := hv.1; omega); clear hv; have HD2 := Aside0.mk (HD.out.step hb3); clear HD; have HD := HD2; clear HD2; have HR2 := Aside0.mk (And.intro (HR.out.1.below hb3) HR.out.2); clear HR; have HR := HR2; clear HR2 hb3) | (go_at_call 176; (with_reducible refine (HSB.out _ _ _ _ HR.out.1 HD.out.2).mono ?_); rintro e W5 ⟨A5, k5, c5, rfl, hm3, hb3, hf3⟩; have HR2 := Aside0.mk (And.intro hm3 (fun b h => Nat.lt_of_lt_of_le HD.out.r.lt (hf3 b h))); clear HR; have HR := HR2; clear HR2 hm3 hf3; have HD2 := Aside0.mk (HD.out.step hb3); clear HD; have HD := HD2; clear HD2; clear hb3))
     have hj : i / 32 < xs.length := by have := HX.out.1; have := wid_le.1 (Nat.le_refl (wid m)); omega
     obtain ⟨y1, y2⟩ := set_bit hj HX.out.2.1 HX.out.2.2
     have q0 := HD.out.r.cell hj
     have q1 := HD.out.r.frozen (i / 32)
     obtain ⟨x, hx⟩ : ∃ x, xs.getD (i / 32) 0 = x := ⟨_, rfl⟩
     have hx1 : x < 4294967296 := by rw [← hx, getD_lt hj]; exact HX.out.2.1 _ (List.getElem_mem _)
     rw [hx] at q0 y1 y2
     have HY := Aside0.mk (And.intro y1 y2)
     have j1 : (i : Int).tdiv 32 = ((i / 32 : Nat) : Int) := by rw [Int.tdiv_eq_ediv_of_nonneg (by omega)]; omega
     have j2 : (i : Int).tmod 32 = ((i % 32 : Nat) : Int) := by rw [Int.tmod_eq_emod_of_nonneg (by omega)]; omega
     have j3 : ((i / 32 : Nat) : Int) < (L1 : Int) := by have := HX.out.1; omega
     have hk32 : i % 32 < 32 := Nat.mod_lt _ (by decide)
     clear y1 y2 hx hj
     have HNx := Aside0.mk (And.intro hb1 hge)
     clear hb1 hge
     generalize i / 32 = j at *
     generalize i % 32 = l at *
     have j4 : bits .or .u32 (x : Int) (2 ^ l % 4294967296) = ((x ||| 2 ^ l : Nat) : Int) := by
      have h1 : 2 ^ l < 4294967296 := Nat.pow_lt_pow_right (by decide) hk32
      have := u32_or_nat x (2 ^ l) hx1 h1
      rw [← this]
      congr 1
      rw [show (2 : Int) ^ l = ((2 ^ l : Nat) : Int) by simp]
      exact (fun (z : Nat) (hz : z < 4294967296) => (by omega : (z : Int) % 4294967296 = z)) _ h1
     obtain ⟨z, hz⟩ : ∃ z, x ||| 2 ^ l = z := ⟨_, rfl⟩
     rw [hz] at j4 HY
     clear hz
     go_region
     go_wp2
     refine ⟨⟨i, _, _, _, rfl, rfl, Nat.le_of_succ_le hk, ⟨?_, HR.out.2⟩, ⟨_, ⟨?_, mem_set_lt HX.out.2.1 HY.out.1, ?_⟩, HD.out.put HNE.out rfl⟩⟩, down_meas i⟩
     ·rw [← (HDS.out.2 HNx.out.2).1]
      exact (HR.out.1.setRow (fun b h _ => Nat.ne_of_gt (HR.out.2 b h)) _ _).below (below_drew1 (Below.refl _ _))
     ·rw [List.length_set]; exact HX.out.1
     ·rw [(HDS.out.2 HNx.out.2).2]; exact HY.out.2
    ·go_wp2_with (first | (go_at_call 133; (with_reducible refine (HSH.out _ _ _ _ HR.out.1).mono ?_); rintro e W1 ⟨A3, k3, c3, rfl, hm3, hb3, hf3⟩; have HR2 := Aside0.mk (And.intro hm3 (fun b h => Nat.lt_of_lt_of_le HD.out.r.lt (hf3 b h))); clear HR; have HR := HR2; clear HR2 hm3 hf3; have HD2 := Aside0.mk (HD.out.step hb3); clear HD; have HD := HD2; clear HD2; clear hb3) | (go_at_call 187; (with_reducible refine (HBT.out _ HD.out.1).mono ?_); rintro e W2 ⟨rfl, hb3⟩; have HD2 := Aside0.mk (HD.out.step hb3); clear HD; have HD := HD2; clear HD2; have HR2 := Aside0.mk (And.intro (HR.out.1.below hb3) HR.out.2); clear HR; have HR := HR2; clear HR2 hb3) | (go_at_call 174; (with_reducible refine (HAD.out _ _ _ _ _ _ HR.out.1 (by first | rfl | simp)).mono ?_); rintro e W3 ⟨A4, k4, c4, rfl, hm3, hb3, hf3⟩; have HR2 := Aside0.mk (And.intro hm3 (fun b h => Nat.lt_of_lt_of_le HD.out.r.lt (hf3 b h))); clear HR; have HR := HR2; clear HR2 hm3 hf3; have HD2 := Aside0.mk (HD.out.step hb3); clear HD; have HD := HD2; clear HD2; clear hb3) | (go_at_call 175; (with_reducible refine (HCM.out _ _ _ _ HR.out.1 HD.out.2).mono ?_); rintro e W4 ⟨v, rfl, hv, hb3⟩; have hv1 : ¬ (0 : Int) ≤ v := (by have := hv.1; omega); clear hv; have HD2 := Aside0.mk (HD.out.step hb3); clear HD; have HD := HD2; clear HD2; have HR2 := Aside0.mk (And.intro (HR.out.1.below hb3) HR.out.2); clear HR; have HR := HR2; clear HR2 hb3))
     refine ⟨⟨i, _, _, _, rfl, rfl, Nat.le_of_succ_le hk, ?_, ?_⟩, down_meas i⟩
     ·rw [(HDS.out.1 (by omega)).1] at HR
      exact HR
     ·exact ⟨xs, ⟨HX.out.1, HX.out.2.1, by rw [(HDS.out.1 (by omega)).2]; exact HX.out.2.2⟩, HD.out⟩
   ·rw [show bitN m i = 0 by omega] at HDS d3 HBT
    rw [decide_eq_false (by omega)] at HBT
    rw [Nat.add_zero] at HDS d3
    generalize r * 2 = s at *
    have HCM : Aside0 (∀ (W : World) (A : Option Addr) (L c : Nat), NN W A L c s → NN W A2 L2 c2 n → Calls Tryz.prog 175 #[.slice A L c, .slice A2 L2 c2] W fun e w' => ∃ v : Int, e = .returned (.int .i64 v) ∧ CmpV s n v ∧ Below W.heap.size W w') := ⟨fun W A L c h h2 => HCMP.out W A L c s d3 h h2⟩
    by_cases hge : n ≤ s
    ·have HSB : Aside0 (∀ (W : World) (A : Option Addr) (L c : Nat), NN W A L c s → NN W A2 L2 c2 n → Calls Tryz.prog 176 #[.slice A L c, .slice A2 L2 c2] W fun e w' => ∃ A k c, e = .returned (.slice A k c) ∧ NN w' A k c (s - n) ∧ Below W.heap.size W w' ∧ ∀ b, A = some ⟨b, 0, none⟩ → W.heap.size ≤ b) := ⟨fun W A L c h h2 => HSUB.out W A L c s d3 h h2 hge⟩
     go_wp2_with (first | (go_at_call 133; (with_reducible refine (HSH.out _ _ _ _ HR.out.1).mono ?_); rintro e W1 ⟨A3, k3, c3, rfl, hm3, hb3, hf3⟩; have HR2 := Aside0.mk (And.intro hm3 (fun b h => Nat.lt_of_lt_of_le HD.out.r.lt (hf3 b h))); clear HR; have HR := HR2; clear HR2 hm3 hf3; have HD2 := Aside0.mk (HD.out.step hb3); clear HD; have HD := HD2; clear HD2; clear hb3) | (go_at_call 187; (with_reducible refine (HBT.out _ HD.out.1).mono ?_); rintro e W2 ⟨rfl, hb3⟩; have HD2 := Aside0.mk (HD.out.step hb3); clear HD; have HD := HD2; clear HD2; have HR2 := Aside0.mk (And.intro (HR.out.1.below hb3) HR.out.2); clear HR; have HR := HR2; clear HR2 hb3) | (go_at_call 175; (with_reducible refine (HCM.out _ _ _ _ HR.out.1 HD.out.2).mono ?_); rintro e W4 ⟨v, rfl, hv, hb3⟩; have hv1 : (0 : Int) ≤ v := (by have := hv.1; omega); clear hv; have HD2 := Aside0.mk (HD.out.step hb3); clear HD; have HD := HD2; clear HD2; have HR2 := Aside0.mk (And.intro (HR.out.1.below hb3) HR.out.2); clear HR; have HR := HR2; clear HR2 hb3) | (go_at_call 176; (with_reducible refine (HSB.out _ _ _ _ HR.out.1 HD.out.2).mono ?_); rintro e W5 ⟨A5, k5, c5, rfl, hm3, hb3, hf3⟩; have HR2 := Aside0.mk (And.intro hm3 (fun b h => Nat.lt_of_lt_of_le HD.out.r.lt (hf3 b h))); clear HR; have HR := HR2; clear HR2 hm3 hf3; have HD2 := Aside0.mk (HD.out.step hb3); clear HD; have HD := HD2; clear HD2; clear hb3))
     have hj : i / 32 < xs.length := by have := HX.out.1; have := wid_le.1 (Nat.le_refl (wid m)); omega
     obtain ⟨y1, y2⟩ := set_bit hj HX.out.2.1 HX.out.2.2
     have q0 := HD.out.r.cell hj
     have q1 := HD.out.r.frozen (i / 32)
     obtain ⟨x, hx⟩ : ∃ x, xs.getD (i / 32) 0 = x := ⟨_, rfl⟩
     have hx1 : x < 4294967296 := by rw [← hx, getD_lt hj]; exact HX.out.2.1 _ (List.getElem_mem _)
     rw [hx] at q0 y1 y2
     have HY := Aside0.mk (And.intro y1 y2)
     have j1 : (i : Int).tdiv 32 = ((i / 32 : Nat) : Int) := by rw [Int.tdiv_eq_ediv_of_nonneg (by omega)]; omega
     have j2 : (i : Int).tmod 32 = ((i % 32 : Nat) : Int) := by rw [Int.tmod_eq_emod_of_nonneg (by omega)]; omega
     have j3 : ((i / 32 : Nat) : Int) < (L1 : Int) := by have := HX.out.1; omega
     have hk32 : i % 32 < 32 := Nat.mod_lt _ (by decide)
     clear y1 y2 hx hj
     have HNx := Aside0.mk (And.intro hb1 hge)
     clear hb1 hge
     generalize i / 32 = j at *
     generalize i % 32 = l at *
     have j4 : bits .or .u32 (x : Int) (2 ^ l % 4294967296) = ((x ||| 2 ^ l : Nat) : Int) := by
      have h1 : 2 ^ l < 4294967296 := Nat.pow_lt_pow_right (by decide) hk32
      have := u32_or_nat x (2 ^ l) hx1 h1
      rw [← this]
      congr 1
      rw [show (2 : Int) ^ l = ((2 ^ l : Nat) : Int) by simp]
      exact (fun (z : Nat) (hz : z < 4294967296) => (by omega : (z : Int) % 4294967296 = z)) _ h1
     obtain ⟨z, hz⟩ : ∃ z, x ||| 2 ^ l = z := ⟨_, rfl⟩
     rw [hz] at j4 HY
     clear hz
     go_region
     go_wp2
     refine ⟨⟨i, _, _, _, rfl, rfl, Nat.le_of_succ_le hk, ⟨?_, HR.out.2⟩, ⟨_, ⟨?_, mem_set_lt HX.out.2.1 HY.out.1, ?_⟩, HD.out.put HNE.out rfl⟩⟩, down_meas i⟩
     ·rw [← (HDS.out.2 HNx.out.2).1]
      exact (HR.out.1.setRow (fun b h _ => Nat.ne_of_gt (HR.out.2 b h)) _ _).below (below_drew1 (Below.refl _ _))
     ·rw [List.length_set]; exact HX.out.1
     ·rw [(HDS.out.2 HNx.out.2).2]; exact HY.out.2
    ·go_wp2_with (first | (go_at_call 133; (with_reducible refine (HSH.out _ _ _ _ HR.out.1).mono ?_); rintro e W1 ⟨A3, k3, c3, rfl, hm3, hb3, hf3⟩; have HR2 := Aside0.mk (And.intro hm3 (fun b h => Nat.lt_of_lt_of_le HD.out.r.lt (hf3 b h))); clear HR; have HR := HR2; clear HR2 hm3 hf3; have HD2 := Aside0.mk (HD.out.step hb3); clear HD; have HD := HD2; clear HD2; clear hb3) | (go_at_call 187; (with_reducible refine (HBT.out _ HD.out.1).mono ?_); rintro e W2 ⟨rfl, hb3⟩; have HD2 := Aside0.mk (HD.out.step hb3); clear HD; have HD := HD2; clear HD2; have HR2 := Aside0.mk (And.intro (HR.out.1.below hb3) HR.out.2); clear HR; have HR := HR2; clear HR2 hb3) | (go_at_call 175; (with_reducible refine (HCM.out _ _ _ _ HR.out.1 HD.out.2).mono ?_); rintro e W4 ⟨v, rfl, hv, hb3⟩; have hv1 : ¬ (0 : Int) ≤ v := (by have := hv.1; omega); clear hv; have HD2 := Aside0.mk (HD.out.step hb3); clear HD; have HD := HD2; clear HD2; have HR2 := Aside0.mk (And.intro (HR.out.1.below hb3) HR.out.2); clear HR; have HR := HR2; clear HR2 hb3))
     refine ⟨⟨i, _, _, _, rfl, rfl, Nat.le_of_succ_le hk, ?_, ?_⟩, down_meas i⟩
     ·rw [(HDS.out.1 (by omega)).1] at HR
      exact HR
     ·exact ⟨xs, ⟨HX.out.1, HX.out.2.1, by rw [(HDS.out.1 (by omega)).2]; exact HX.out.2.2⟩, HD.out⟩
theorem natGcd_calls {w : World} {A1 A2 : Option Addr} {L1 L2 c1 c2 m n : Nat} (h1 : NN w A1 L1 c1 m) (h2 : NN w A2 L2 c2 n) (hL1 : L1 ≤ 30000) (hL2 : L2 ≤ 30000) :
 Calls Tryz.prog 141 #[.slice A1 L1 c1, .slice A2 L2 c2] w fun e w' => RN w (Nat.gcd m n) e w' := by
 obtain ⟨K, hK⟩ : ∃ K, max L1 L2 = K := ⟨_, rfl⟩
 have hn := dg_lt_pow UU1 n
 rw [h2.len] at hn
 have hm := dg_lt_pow UU1 m
 rw [h1.len] at hm
 have hm2 : m < UU ^ K := Nat.lt_of_lt_of_le hm (Nat.pow_le_pow_right (by decide) (by omega))
 have hn2 : n < UU ^ K := Nat.lt_of_lt_of_le hn (Nat.pow_le_pow_right (by decide) (by omega))
 have HD : Aside0 (∀ W A L c A' L' c' a b, NN W A L c a → NN W A' L' c' b → a < UU ^ K → b < UU ^ K → 0 < b → Calls Tryz.prog 142 #[.slice A L c, .slice A' L' c'] W fun e w' => DivN W (a / b) (a % b) e w') := ⟨fun W A L c A' L' c' a b g1 g2 g3 g4 g5 => natDiv_calls g1 g2 (Nat.le_trans (g1.lenU g3) (by omega)) (Nat.le_trans (g2.lenU g4) (by omega)) g5⟩
 unfold DivN at HD
 have H1 := Aside0.mk h1
 have H2 := Aside0.mk h2
 have HM := Aside0.mk (And.intro hm2 hn2)
 clear h1 h2 hn hm hm2 hn2
 unfold RN
 go_enter Tryz.func141, Tryz.ntmps141
 go_wp2_with fail
 go_loopg [0, 1] n (fun k v0 v1 W => ∃ (a : Nat) (A : Option Addr) (L c : Nat) (A' : Option Addr) (L' c' : Nat), v0 = .slice A L c ∧ v1 = .slice A' L' c' ∧ Aside0 ((NN W A L c a ∧ NN W A' L' c' k) ∧ (a < UU ^ K ∧ k < UU ^ K ∧ Nat.gcd a k = Nat.gcd m n)) ∧ Aside0 (Below w.heap.size w W))
 case atStart => exact ⟨m, A1, L1, c1, A2, L2, c2, rfl, rfl, ⟨⟨H1.out, H2.out⟩, HM.out.1, HM.out.2, rfl⟩, ⟨Below.refl _ _⟩⟩
 case round =>
  obtain ⟨a, A, L, c, A', L', c', rfl, rfl, HI, hb⟩ := hrel
  have hz := HI.out.1.2.len_zero
  by_cases hk : gk = 0
  ·have hL0 : ¬ (0 : Int) < (L' : Int) := by have := hz.2 hk; omega
   have HG : Aside0 (a = Nat.gcd m n) := ⟨by have := HI.out.2.2.2; rw [hk, Nat.gcd_zero_right] at this; exact this⟩
   clear hz hk
   go_wp2_with fail
   go_ret
   exact ⟨A, L, c, rfl, by rw [← HG.out]; exact HI.out.1.1, hb.out⟩
  ·have hL0 : (0 : Int) < (L' : Int) := by
    rcases Nat.eq_zero_or_pos L' with h | h
    ·exact absurd (hz.1 h) hk
    ·omega
   have HD2 := Aside0.mk (HD.out wr A L c A' L' c' a gk HI.out.1.1 HI.out.1.2 HI.out.2.1 HI.out.2.2.1 (by omega))
   have HK := Aside0.mk (Nat.pos_of_ne_zero hk)
   clear hz hk
   go_wp2_with (go_at_call 142; (with_reducible refine HD2.out.mono ?_); rintro e w4 ⟨A3, k3, c3, A4, k4, c4, rfl, hm3, hm4, hb4, _⟩; have HR := Aside0.mk (And.intro hm4 hb4); clear hm3 hm4 hb4)
   go_roundg (a % gk)
   case measure => exact Nat.mod_lt _ HK.out
   case rel => exact ⟨gk, A', L', c', A4, k4, c4, rfl, rfl, ⟨⟨HI.out.1.2.below HR.out.2, HR.out.1⟩, HI.out.2.2.1, Nat.lt_trans (Nat.mod_lt _ HK.out) HI.out.2.2.1, by rw [← HI.out.2.2.2, Nat.gcd_comm a gk, Nat.gcd_rec gk a, Nat.gcd_comm]⟩, ⟨hb.out.trans (HR.out.2.mono hb.out.size)⟩⟩
/-- A fraction's value. -/
def qV (s : Bool) (A1 : Option Addr) (L1 c1 : Nat) (A2 : Option Addr) (L2 c2 : Nat) : Value := .agg #[.bool s, .slice A1 L1 c1, .slice A2 L2 c2]
/-- The two numbers of a fraction in memory. -/
structure N2 (W : World) (A1 : Option Addr) (L1 c1 p : Nat) (A2 : Option Addr) (L2 c2 q : Nat) : Prop where
 m1 : NN W A1 L1 c1 p
 m2 : NN W A2 L2 c2 q
theorem N2.below {W X : World} {A1 : Option Addr} {L1 c1 p : Nat} {A2 : Option Addr} {L2 c2 q : Nat} (h : N2 W A1 L1 c1 p A2 L2 c2 q) (hb : Below W.heap.size W X) : N2 X A1 L1 c1 p A2 L2 c2 q := ⟨h.m1.below hb, h.m2.below hb⟩
/-- What a function that gives a fraction answers. -/
def QX (w : World) (s : Bool) (p q : Nat) (e : Ending) (w' : World) : Prop := ∃ A1 k1 c1 A2 k2 c2, e = .returned (qV s A1 k1 c1 A2 k2 c2) ∧ N2 w' A1 k1 c1 p A2 k2 c2 q ∧ Below w.heap.size w w'
/-- A variable of type fraction. -/
def QF (W : World) (b : Nat) (s : Bool) (A1 : Option Addr) (L1 c1 : Nat) (A2 : Option Addr) (L2 c2 : Nat) : Prop := W.heap[b]? = some (.cells #[.bool s, .slice A1 L1 c1, .slice A2 L2 c2] 102 (0, 0))
section
variable {w W X : World} {b : Nat} {s : Bool} {A1 : Option Addr} {L1 c1 : Nat} {A2 : Option Addr} {L2 c2 : Nat}
theorem QF.cell0 (h : QF W b s A1 L1 c1 A2 L2 c2) : W.cell? ⟨b, 0, none⟩ = some (.bool s) := by rw [Lib.cell_of_heap h]; rfl
theorem QF.cell1 (h : QF W b s A1 L1 c1 A2 L2 c2) : W.cell? ⟨b, 1, none⟩ = some (.slice A1 L1 c1) := by rw [Lib.cell_of_heap h]; rfl
theorem QF.cell2 (h : QF W b s A1 L1 c1 A2 L2 c2) : W.cell? ⟨b, 2, none⟩ = some (.slice A2 L2 c2) := by rw [Lib.cell_of_heap h]; rfl
theorem QF.fr (h : QF W b s A1 L1 c1 A2 L2 c2) (o : Nat) : W.frozen? ⟨b, o, none⟩ = false := Lib.frozen_of_heap h o
theorem QF.lt (h : QF W b s A1 L1 c1 A2 L2 c2) : b < W.heap.size := (Array.getElem?_eq_some_iff.1 h).1
theorem QF.below (h : QF W b s A1 L1 c1 A2 L2 c2) (hb : Below W.heap.size W X) : QF X b s A1 L1 c1 A2 L2 c2 := (hb.block b h.lt).trans h
theorem QF.alloc (h : QF W b s A1 L1 c1 A2 L2 c2) (o : Obj) : QF (W.alloc o) b s A1 L1 c1 A2 L2 c2 := h.below (below_alloc (Below.refl _ _) _)
theorem QF.new (W : World) (b : Nat) (hb : W.heap.size = b) (s : Bool) (A1 : Option Addr) (L1 c1 : Nat) (A2 : Option Addr) (L2 c2 : Nat) : QF (W.alloc (.cells #[.bool s, .slice A1 L1 c1, .slice A2 L2 c2] 102)) b s A1 L1 c1 A2 L2 c2 := by subst hb; exact heap_alloc_new W _
theorem QF.other (h : QF W b s A1 L1 c1 A2 L2 c2) {b' : Nat} (hne : b ≠ b') (o : Nat) (u : Value) : QF (W.setCell ⟨b', o, none⟩ u) b s A1 L1 c1 A2 L2 c2 := by
 unfold QF at *
 rw [Below.heap_setCell _ _ _ _ hne]
 exact h
theorem QF.s0 (h : QF W b s A1 L1 c1 A2 L2 c2) (g : Bool) : QF (W.setCell ⟨b, 0, none⟩ (.bool g)) b g A1 L1 c1 A2 L2 c2 := by
 unfold QF at *; simp [World.setCell, Array.getElem?_modify, h]
theorem QF.s1 (h : QF W b s A1 L1 c1 A2 L2 c2) (A : Option Addr) (L c : Nat) : QF (W.setCell ⟨b, 1, none⟩ (.slice A L c)) b s A L c A2 L2 c2 := by
 unfold QF at *; simp [World.setCell, Array.getElem?_modify, h]
theorem QF.s2 (h : QF W b s A1 L1 c1 A2 L2 c2) (A : Option Addr) (L c : Nat) : QF (W.setCell ⟨b, 2, none⟩ (.slice A L c)) b s A1 L1 c1 A L c := by
 unfold QF at *; simp [World.setCell, Array.getElem?_modify, h]
/-- A store into a variable of this type leaves nats. -/
theorem QF.nn (h : QF W b s A1 L1 c1 A2 L2 c2) {A : Option Addr} {L c n : Nat} (hm : NN W A L c n) (o : Nat) (u : Value) : NN (W.setCell ⟨b, o, none⟩ u) A L c n :=
 hm.setRow (fun b' hA h0 e => by
  obtain ⟨b2, hA2, _, hc⟩ := hm.addr h0
  rw [hA] at hA2
  injection hA2 with e2
  injection e2 with e2
  subst e2
  have := hc 0 h0
  rw [e, h.cell0] at this
  cases this) o u
end
/-- Three stores into a variable of type fraction. -/
abbrev put3 (W : World) (b : Nat) (g : Bool) (B1 : Option Addr) (K1 d1 : Nat) (B2 : Option Addr) (K2 d2 : Nat) : World := ((W.setCell ⟨b, 0, none⟩ (.bool g)).setCell ⟨b, 1, none⟩ (.slice B1 K1 d1)).setCell ⟨b, 2, none⟩ (.slice B2 K2 d2)
section
variable {w W : World} {b b' : Nat} {s : Bool} {A1 : Option Addr} {L1 c1 : Nat} {A2 : Option Addr} {L2 c2 : Nat} {g : Bool} {B1 : Option Addr} {K1 d1 : Nat} {B2 : Option Addr} {K2 d2 : Nat}
theorem QF.put3 (h : QF W b s A1 L1 c1 A2 L2 c2) : QF (put3 W b g B1 K1 d1 B2 K2 d2) b g B1 K1 d1 B2 K2 d2 := ((h.s0 g).s1 B1 K1 d1).s2 B2 K2 d2
theorem QF.nn3 (h : QF W b s A1 L1 c1 A2 L2 c2) {A : Option Addr} {L c n : Nat} (hm : NN W A L c n) : NN (Nm.put3 W b g B1 K1 d1 B2 K2 d2) A L c n := ((h.s0 g).s1 B1 K1 d1).nn ((h.s0 g).nn (h.nn hm 0 _) 1 _) 2 _
theorem below_put3 {B : Nat} (h : Below B w W) (hb : B ≤ b) : Below B w (Nm.put3 W b g B1 K1 d1 B2 K2 d2) := ((h.setCell (p := ⟨b, 0, none⟩) hb _).setCell (p := ⟨b, 1, none⟩) hb _).setCell (p := ⟨b, 2, none⟩) hb _
theorem N2.put3 {p q : Nat} (h : QF W b s A1 L1 c1 A2 L2 c2) (hm : N2 W B1 K1 d1 p B2 K2 d2 q) : N2 (Nm.put3 W b g B1 K1 d1 B2 K2 d2) B1 K1 d1 p B2 K2 d2 q := ⟨h.nn3 hm.m1, h.nn3 hm.m2⟩
end
/-- The return of a fraction. -/
theorem q_ret {fn : Func} {i b : Nat} {Z : World} {T : Array Value} {R : Ending → World → Prop} {s : Bool} {A1 : Option Addr} {L1 c1 : Nat} {A2 : Option Addr} {L2 c2 : Nat} (hres : fn.results = #[.cell i 102]) (hT : T[i]?.getD undef = .pointer (some ⟨b, 0, none⟩))
 (o : QF Z b s A1 L1 c1 A2 L2 c2) (hR : R (.returned (qV s A1 L1 c1 A2 L2 c2)) Z) : bodyPost Tryz.prog fn R Exit.ret { tmps := T, defers := [] } Z := by
 have k0 := o.cell0
 have k1 := o.cell1
 have k2 := o.cell2
 exact bodyPost_ret (v := qV s A1 L1 c1 A2 L2 c2) (by unfold qV; simp [results, hres, go_sem, hT, k0, k1, k2]) rfl hR
theorem qIsZero_calls {w : World} {s : Bool} {A1 : Option Addr} {L1 c1 p : Nat} {A2 : Option Addr} {L2 c2 q : Nat} (h : N2 w A1 L1 c1 p A2 L2 c2 q) :
 Calls Tryz.prog 93 #[qV s A1 L1 c1 A2 L2 c2] w fun e w' => e = .returned (.bool (decide (p = 0))) ∧ Below w.heap.size w w' := by
 have hz := h.m1.len_zero
 clear h
 unfold qV
 go_enter Tryz.func93, Tryz.ntmps93
 go_wp2
 go_ret
 exact ⟨ret_b (by rw [Bool.eq_iff_iff]; simp; omega), below_alloc (Below.refl _ _) _⟩
theorem qOpposite_calls {w : World} {s : Bool} {A1 : Option Addr} {L1 c1 p : Nat} {A2 : Option Addr} {L2 c2 q : Nat} (h : N2 w A1 L1 c1 p A2 L2 c2 q) :
 Calls Tryz.prog 92 #[qV s A1 L1 c1 A2 L2 c2] w fun e w' => QX w (!s) p q e w' := by
 have H := Aside0.mk h
 clear h
 unfold qV
 go_enter Tryz.func92, Tryz.ntmps92
 go_wp2
 have hb : Below w.heap.size w ((w.alloc (.cells #[.bool s, .slice A1 L1 c1, .slice A2 L2 c2] 102)).alloc (.cells #[.bool !s, .slice A1 L1 c1, .slice A2 L2 c2] 102)) := by repeat (first | exact Below.refl _ _ | apply below_alloc)
 exact q_ret Tryz.results92 rfl (QF.new _ _ (by simp) _ _ _ _ _ _ _) ⟨A1, L1, c1, A2, L2, c2, rfl, H.out.below hb, hb⟩
end
section
open Go.RowKit
/-- The operation's number, for the arm to see. -/
structure Tg (i : Nat) : Prop where
 t : True
section
variable {P : Program} {md : Region.Mode} {ops : Array Oper} {Q : Exit → Act → World → Prop} {S : World → Prop} {oi oj ok ol : Oper} {fuel : Nat} {listed : Array Bool} {a : Act} {w : World}
/-- What is owed at operation i. -/
abbrev Ow (P : Program) (md : Region.Mode) (ops : Array Oper) (Q : Exit → Act → World → Prop) (S : World → Prop) (fuel : Nat) (listed : Array Bool) (a : Act) (w : World) (i : Nat) (oi : Oper) : Prop :=
 Tg i → ∀ K, Shut (∀ a w, S w → (S w → wpAnyH P md ops Q S fuel (listed.setIfInBounds i true) a w) → K a w) → if Region.wanted oi (yielded ops a.tmps) = true then Oper.wp P oi a w K Q else K (a.put oi.dst undef) w
theorem tq (i : Nat) {v : Value} (h : wpAnyH P md ops Q S fuel (listed.setIfInBounds i true) (a.put oi.dst v) w) (hi : ops[i]? = some oi := by exact rfl)
 (hr : (Region.ready md ops listed).contains i = true := by decide +kernel) (hf : Region.free md ops listed i = true := by decide +kernel) (hs : Region.noSelect ops = true := by kernel_rfl)
 (hy : ∀ w, S w → (execOp a.eval oi).run P w = .ok (.value v) w := by (intro wS hSw; (try dsimp only at hSw); (first | (go_simp; done) | (go_simp; with_reducible rfl))))
 (hQ : ∀ c a w, Q (.panic c) (a.put oi.dst v) w → Q (.panic c) a w := by exact fun _ _ _ h => h) (hg : Region.wanted oi (yielded ops a.tmps) = true := by rfl) (hS : S w := by assumption) : wpAnyH P md ops Q S (fuel + 1) listed a w :=
 tk i hy h hi hs hf hr hQ hg hS
theorem t1 (i : Nat) (h : Ow P md ops Q S fuel listed a w i oi) (hi : ops[i]? = some oi := by exact rfl) (hr : Region.ready md ops listed = [i] := by decide +kernel) : wpAnyH P md ops Q S (fuel + 1) listed a w :=
 wpAnyH_ready hr (by simp) (AllReadyH.cons hi (h ⟨trivial⟩) AllReadyH.nil)
theorem t2 (i j : Nat) (h : Ow P md ops Q S fuel listed a w i oi) (h2 : Ow P md ops Q S fuel listed a w j oj) (hi : ops[i]? = some oi := by exact rfl) (hj : ops[j]? = some oj := by exact rfl) (hr : Region.ready md ops listed = [i, j] := by decide +kernel) : wpAnyH P md ops Q S (fuel + 1) listed a w :=
 wpAnyH_ready hr (by simp) (AllReadyH.cons hi (h ⟨trivial⟩) (AllReadyH.cons hj (h2 ⟨trivial⟩) AllReadyH.nil))
theorem t3 (i j k : Nat) (h : Ow P md ops Q S fuel listed a w i oi) (h2 : Ow P md ops Q S fuel listed a w j oj) (h3 : Ow P md ops Q S fuel listed a w k ok) (hi : ops[i]? = some oi := by exact rfl) (hj : ops[j]? = some oj := by exact rfl) (hk : ops[k]? = some ok := by exact rfl) (hr : Region.ready md ops listed = [i, j, k] := by decide +kernel) : wpAnyH P md ops Q S (fuel + 1) listed a w :=
 wpAnyH_ready hr (by simp) (AllReadyH.cons hi (h ⟨trivial⟩) (AllReadyH.cons hj (h2 ⟨trivial⟩) (AllReadyH.cons hk (h3 ⟨trivial⟩) AllReadyH.nil)))
end
end
section
open Go.Proofs.YtnjbinpbkjdjpaaGreatDoorW.PrintLast Go.Proofs.YtnjbinpbkjdjpaaGreatDoorW.PrintMore Go.Proofs.YtnjbinpbkjdjpaaGreatDoorW.PrintWords Go.RowKit
theorem mul_any {w W : World} {B : Nat} {A1 A2 : Option Addr} {L1 L2 m n : Nat} (h1 : Mag w B A1 L1 m) (h2 : Mag w B A2 L2 n) (hB : B ≤ w.heap.size) (hL : L1 + L2 ≤ 90000) (hb : Below w.heap.size w W) :
 Calls Tryz.prog 140 #[.agg #[.slice A1 L1 L1], .agg #[.slice A2 L2 L2]] W fun e w' => ∃ A k, e = .returned (.agg #[.slice A k k]) ∧ Mag w' w'.heap.size A k (m * n) ∧ Below W.heap.size W w' :=
 mul_calls (h1.keep hB hb) (h2.keep hB hb) (Nat.le_trans hB hb.size) hL
theorem sign_mul (x y : Int) : ((decide (x < 0) != decide (y < 0)) && decide (x.natAbs * y.natAbs ≠ 0)) = decide (x * y < 0) := by
 rw [← Int.natAbs_mul]
 rcases Int.lt_trichotomy x 0 with h | h | h <;> rcases Int.lt_trichotomy y 0 with h' | h' | h'
 all_goals first
  | (subst h; simp; done)
  | (subst h'; simp; done)
  | skip
 ·have : 0 < x * y := Int.mul_pos_of_neg_of_neg h h'
  rw [decide_eq_true h, decide_eq_true h', decide_eq_false (p := x * y < 0) (by omega)]; rfl
 ·have : x * y < 0 := Int.mul_neg_of_neg_of_pos h h'
  rw [decide_eq_true h, decide_eq_false (p := y < 0) (by omega), decide_eq_true this, decide_eq_true (p := (x * y).natAbs ≠ 0) (by omega)]; rfl
 ·have : x * y < 0 := Int.mul_neg_of_pos_of_neg h h'
  rw [decide_eq_true h', decide_eq_false (p := x < 0) (by omega), decide_eq_true this, decide_eq_true (p := (x * y).natAbs ≠ 0) (by omega)]; rfl
 ·have : 0 < x * y := Int.mul_pos h h'
  rw [decide_eq_false (p := x < 0) (by omega), decide_eq_false (p := y < 0) (by omega), decide_eq_false (p := x * y < 0) (by omega)]; rfl
theorem signed_any {w : World} {B : Nat} {A : Option Addr} {L n : Nat} (h : Mag w B A L n) (hB : B ≤ w.heap.size) {neg r : Bool} (hr : (neg && decide (n ≠ 0)) = r) :
 Calls Tryz.prog 139 #[.agg #[.slice A L L], .bool neg] w fun e w' => e = .returned (.agg #[.slice A L L, .bool r]) ∧ Mag w' B A L n ∧ Below w.heap.size w w' := by
 subst hr
 exact signed_calls h hB neg
theorem bKeep {b : Nat} {w1 W W2 : World} (hb : Below W.heap.size W W2) (hS : Below b w1 W) (hle : b ≤ w1.heap.size) : Below b w1 W2 := hS.trans (hb.mono (Nat.le_trans hle hS.size))
theorem keepB {b : Nat} {w1 W2 : World} (h : Below b w1 W2) {c o : Nat} {v : Value} (hlt : c < b) (hc : w1.cell? ⟨c, o, none⟩ = some v) : W2.cell? ⟨c, o, none⟩ = some v := (h.cell (p := ⟨c, o, none⟩) hlt).trans hc
/-- A box for an integer that a function hands back. -/
def Out (W : World) (b : Nat) : Prop := W.cell? ⟨b, 0, none⟩ = some (.slice none 0 0) ∧ W.cell? ⟨b, 1, none⟩ = some (.bool false) ∧ W.frozen? ⟨b, 0, none⟩ = false ∧ W.frozen? ⟨b, 1, none⟩ = false
theorem Out.keep {W W2 : World} {b : Nat} (h : Out W b) (hb : Below W.heap.size W W2) : Out W2 b := by
 obtain ⟨h1, h2, h3, h4⟩ := h
 have hl := World.block_lt_of_cell? W _ h1
 exact ⟨(hb.cell (p := ⟨b, 0, none⟩) hl).trans h1, (hb.cell (p := ⟨b, 1, none⟩) hl).trans h2, (hb.frozen (p := ⟨b, 0, none⟩) hl).trans h3, (hb.frozen (p := ⟨b, 1, none⟩) hl).trans h4⟩
theorem Mag.apart {w : World} {B : Nat} {A : Option Addr} {L n : Nat} (h : Mag w B A L n) {b : Nat} {v : Value} (hc : w.cell? ⟨b, 0, none⟩ = some v) (hv : ∀ d : Int, v ≠ .int .u32 d) : ∀ c, 0 < L → A = some ⟨c, 0, none⟩ → c ≠ b := by
 rintro c hL e rfl
 obtain ⟨d, rfl, _, hcc⟩ := h.2.2 hL
 injection e with e
 injection e with e
 subst e
 have := hcc 0 hL
 rw [hc] at this
 injection this with this
 exact hv _ this
theorem Mag.setA {w : World} {B : Nat} {A : Option Addr} {L n : Nat} (h : Mag w B A L n) {b : Nat} (hp : ∀ c, 0 < L → A = some ⟨c, 0, none⟩ → c ≠ b) (o : Nat) (u : Value) : Mag (w.setCell ⟨b, o, none⟩ u) B A L n := by
 obtain ⟨h1, h2, h3⟩ := h
 refine ⟨h1, h2, fun hL => ?_⟩
 obtain ⟨c, rfl, hlt, hc⟩ := h3 hL
 exact ⟨c, rfl, hlt, fun j hj => (World.cell?_setCell_other w ⟨b, o, none⟩ ⟨c, j, none⟩ u (fun e => hp c hL rfl (by first | exact congrArg Addr.block e | exact (congrArg Addr.block e).symm))).trans (hc j hj)⟩
theorem Out.mag {W : World} {b B : Nat} {A : Option Addr} {L n : Nat} (h : Out W b) (hm : Mag W B A L n) (u u' : Value) : Mag ((W.setCell ⟨b, 0, none⟩ u).setCell ⟨b, 1, none⟩ u') B A L n :=
 have hp := hm.apart h.1 (fun d => by simp)
 (hm.setA hp 0 u).setA hp 1 u'
theorem Out.keep' {W W2 : World} {b : Nat} (h : Aside0 (Out W b)) (hb : Below W.heap.size W W2) : Aside0 (Out W2 b) := ⟨h.out.keep hb⟩
theorem times_calls {w : World} {B : Nat} {A1 A2 : Option Addr} {L1 L2 : Nat} {x y : Int} (h1 : Mag w B A1 L1 x.natAbs) (h2 : Mag w B A2 L2 y.natAbs) (hB : B ≤ w.heap.size) (hL : L1 + L2 ≤ 90000) :
 Calls Tryz.prog 71 #[iV A1 L1 x, iV A2 L2 y] w fun e w' => ∃ A k, e = .returned (iV A k (x * y)) ∧ Mag w' w'.heap.size A k (x * y).natAbs ∧ Below w.heap.size w w' := by
 unfold iV
 have H1 : Aside0 (Mag w B A1 L1 x.natAbs) := ⟨h1⟩
 have H2 : Aside0 (Mag w B A2 L2 y.natAbs) := ⟨h2⟩
 clear h1 h2
 obtain ⟨f, hf⟩ : ∃ f, decide (x < 0) = f := ⟨_, rfl⟩
 obtain ⟨g, hg⟩ : ∃ g, decide (y < 0) = g := ⟨_, rfl⟩
 obtain ⟨r, hr⟩ : ∃ r, decide (x * y < 0) = r := ⟨_, rfl⟩
 have HFG : Aside0 ((!(f == g) && decide (x.natAbs * y.natAbs ≠ 0)) = r) := ⟨by rw [← hf, ← hg, ← hr]; exact sign_mul x y⟩
 have HR : Aside0 ((x * y).natAbs = x.natAbs * y.natAbs) := ⟨Int.natAbs_mul x y⟩
 rw [hf, hg, hr]
 clear hf hg hr
 go_enter Tryz.func71, Tryz.ntmps71
 go_wp2_with fail
 obtain ⟨wr, hwr⟩ : ∃ wr, (((w.alloc (.cells #[.slice A1 L1 L1, .bool f] 111)).alloc (.cells #[.slice A2 L2 L2, .bool g] 111)).alloc (.cells #[.slice none 0 0, .bool false] 111)) = wr := ⟨_, rfl⟩
 have HX : Aside0 (wr.cell? ⟨w.heap.size, 0, none⟩ = some (.slice A1 L1 L1) ∧ wr.cell? ⟨w.heap.size, 1, none⟩ = some (.bool f) ∧ wr.cell? ⟨w.heap.size + 1, 0, none⟩ = some (.slice A2 L2 L2) ∧ wr.cell? ⟨w.heap.size + 1, 1, none⟩ = some (.bool g)) := ⟨by
  subst hwr
  refine ⟨?_, ?_, ?_, ?_⟩ <;> simp [go_sem]⟩
 have HO : Aside0 (Out wr (w.heap.size + 1 + 1)) := ⟨by
  subst hwr
  refine ⟨?_, ?_, ?_, ?_⟩ <;> simp [go_sem]⟩
 have HA : Aside0 (Below w.heap.size w wr ∧ w.heap.size + 3 ≤ wr.heap.size) := ⟨by subst hwr; repeat (first | exact Below.refl _ _ | apply below_alloc), by subst hwr; simp⟩
 rw [hwr]
 clear hwr
 rename_i Q' K hK
 refine wp_region_held_drew (S := (fun V => V.cell? ⟨w.heap.size, 0, none⟩ = some (.slice A1 L1 L1) ∧ V.cell? ⟨w.heap.size, 1, none⟩ = some (.bool f) ∧ V.cell? ⟨w.heap.size + 1, 0, none⟩ = some (.slice A2 L2 L2) ∧ V.cell? ⟨w.heap.size + 1, 1, none⟩ = some (.bool g) ∧ Below (w.heap.size + 2) wr V)) (by kernel_rfl) ?_ (fun hHeld => ?_)
 ·(have tb := below_drew1 (Below.refl (w.heap.size + 2) wr); exact ⟨keepB tb (by omega) HX.out.1, keepB tb (by omega) HX.out.2.1, keepB tb (by omega) HX.out.2.2.1, keepB tb (by omega) HX.out.2.2.2, tb⟩)
 refine tp 0 ?_
 try simp only [PU]
 refine tp 1 ?_
 try simp only [PU]
 refine tp 2 ?_
 try simp only [PU]
 refine tp 3 ?_
 try simp only [PU]
 refine tp 5 ?_
 try simp only [PU]
 refine tp 6 ?_
 try simp only [PU]
 refine tp 7 ?_
 try simp only [PU]
 refine tp 8 ?_
 try simp only [PU]
 refine tp 9 ?_
 try simp only [PU]
 refine tc 4 fun K hK => ?_
 go_simp
 (go_at_call 140; (with_reducible refine (mul_any H1.out H2.out hB hL (HA.out.1.trans (hHeld.2.2.2.2.mono (by omega)))).mono ?_); rintro e wm ⟨A, k, rfl, hm, hbq⟩; have HOm := Out.keep' (Out.keep' HO (below_drew1 (Below.refl _ _))) hbq; have HBm := hHeld.2.2.2.2)
 refine hK.out _ _ ?_ fun hHeld => ?_
 ·(first | (have hBB := bKeep hbq hHeld.2.2.2.2 (by have := HA.out.2; omega); exact ⟨keepB hBB (by omega) HX.out.1, keepB hBB (by omega) HX.out.2.1, keepB hBB (by omega) HX.out.2.2.1, keepB hBB (by omega) HX.out.2.2.2, hBB⟩) | (have hBB := (hHeld.2.2.2.2.setCell (p := ⟨w.heap.size + 1 + 1, 0, none⟩) (by simp) (.slice A k k)).setCell (p := ⟨w.heap.size + 1 + 1, 1, none⟩) (by simp) (.bool r); exact ⟨keepB hBB (by omega) HX.out.1, keepB hBB (by omega) HX.out.2.1, keepB hBB (by omega) HX.out.2.2.1, keepB hBB (by omega) HX.out.2.2.2, hBB⟩))
 clear hK K; try simp only [PU]
 refine tc 10 fun K hK => ?_
 go_simp
 (go_at_call 139; (with_reducible refine (signed_any hm (Nat.le_refl _) HFG.out).mono ?_); rintro e wq ⟨rfl, hmq, hbq⟩; have HOq := Out.keep' HOm hbq; obtain ⟨q1, q2, q3, q4⟩ := HOq.out)
 refine hK.out _ _ ?_ fun hHeld => ?_
 ·(first | (have hBB := bKeep hbq hHeld.2.2.2.2 (by have := HA.out.2; omega); exact ⟨keepB hBB (by omega) HX.out.1, keepB hBB (by omega) HX.out.2.1, keepB hBB (by omega) HX.out.2.2.1, keepB hBB (by omega) HX.out.2.2.2, hBB⟩) | (have hBB := (hHeld.2.2.2.2.setCell (p := ⟨w.heap.size + 1 + 1, 0, none⟩) (by simp) (.slice A k k)).setCell (p := ⟨w.heap.size + 1 + 1, 1, none⟩) (by simp) (.bool r); exact ⟨keepB hBB (by omega) HX.out.1, keepB hBB (by omega) HX.out.2.1, keepB hBB (by omega) HX.out.2.2.1, keepB hBB (by omega) HX.out.2.2.2, hBB⟩))
 clear hK K; try simp only [PU]
 refine tc 11 fun K hK => ?_
 go_simp
 (skip)
 refine hK.out _ _ ?_ fun hHeld => ?_
 ·(first | (have hBB := bKeep hbq hHeld.2.2.2.2 (by have := HA.out.2; omega); exact ⟨keepB hBB (by omega) HX.out.1, keepB hBB (by omega) HX.out.2.1, keepB hBB (by omega) HX.out.2.2.1, keepB hBB (by omega) HX.out.2.2.2, hBB⟩) | (have hBB := (hHeld.2.2.2.2.setCell (p := ⟨w.heap.size + 1 + 1, 0, none⟩) (by simp) (.slice A k k)).setCell (p := ⟨w.heap.size + 1 + 1, 1, none⟩) (by simp) (.bool r); exact ⟨keepB hBB (by omega) HX.out.1, keepB hBB (by omega) HX.out.2.1, keepB hBB (by omega) HX.out.2.2.1, keepB hBB (by omega) HX.out.2.2.2, hBB⟩))
 clear hK K; try simp only [PU]
 refine wpAnyH_done (by kernel_rfl) ?_ _
 refine hK _ _ ?_
 go_wp2
 refine bodyPost_ret (v := .agg #[.slice A k k, .bool r]) (by simp [results, Tryz.results71, go_sem, q1, q2]) rfl ⟨A, k, rfl, ?_, HA.out.1.trans ((hHeld.2.2.2.2).mono (by omega))⟩
 rw [HR.out]
 exact (HOq.out.mag hmq _ _).more (by simpa using hbq.size)
end
section
open Go.Proofs.YtnjbinpbkjdjpaaGreatDoorW.PrintLast Go.Proofs.YtnjbinpbkjdjpaaGreatDoorW.PrintMore Go.Proofs.YtnjbinpbkjdjpaaGreatDoorW.PrintWords Go.RowKit Go.Shelf
/-- Sizes of numbers. -/
structure Sz (k n : Nat) : Prop where
 lt : n < 2 ^ k
theorem Sz.more {j k n : Nat} (h : Sz j n) (hjk : j ≤ k) : Sz k n := ⟨Nat.lt_of_lt_of_le h.lt (Nat.pow_le_pow_right (by decide) hjk)⟩
theorem Sz.mul {i j k m n : Nat} (hm : Sz j m) (hn : Sz k n) (h : j + k = i := by omega) : Sz i (m * n) := ⟨by
 subst h
 rw [Nat.pow_add]
 exact Nat.mul_lt_mul'' hm.lt hn.lt⟩
theorem Sz.add {i k m n : Nat} (hm : Sz k m) (hn : Sz k n) (h : k + 1 = i := by omega) : Sz i (m + n) := ⟨by
 subst h
 have := hm.lt
 have := hn.lt
 rw [Nat.pow_succ]
 omega⟩
theorem Sz.le {k m n : Nat} (hm : Sz k m) (h : n ≤ m) : Sz k n := ⟨Nat.lt_of_le_of_lt h hm.lt⟩
theorem NN.sz {w : World} {A : Option Addr} {L c n k : Nat} (h : NN w A L c n) (hn : Sz k n) : L ≤ k / 32 + 1 :=
 h.lenU (by rw [UU_pow]; exact Nat.lt_of_lt_of_le hn.lt (Nat.pow_le_pow_right (by decide) (by omega)))
theorem natMul_at {w : World} {A1 A2 : Option Addr} {L1 c1 L2 c2 x y : Nat} (h1 : NN w A1 L1 c1 x) (h2 : NN w A2 L2 c2 y) (hx : Sz 100000 x) (hy : Sz 100000 y) :
 Aside0 (∀ W, Below w.heap.size w W → Calls Tryz.prog 173 #[.slice A1 L1 c1, .slice A2 L2 c2] W fun e w' => RF W (x * y) e w') :=
 ⟨fun W hb => natMul_calls (h1.below hb) (h2.below hb) (Nat.le_trans (h1.sz hx) (by omega)) (Nat.le_trans (h2.sz hy) (by omega))⟩
theorem qTimes_calls {w : World} {s z : Bool} {A1 A2 A3 A4 : Option Addr} {L1 c1 L2 c2 L3 c3 L4 c4 p q u v : Nat} (h1 : N2 w A1 L1 c1 p A2 L2 c2 q) (h2 : N2 w A3 L3 c3 u A4 L4 c4 v)
 (hp : Sz 100000 p) (hq : Sz 100000 q) (hu : Sz 100000 u) (hv : Sz 100000 v) :
 Calls Tryz.prog 129 #[qV s A1 L1 c1 A2 L2 c2, qV z A3 L3 c3 A4 L4 c4] w fun e w' => QX w (!s == z) (p * u) (q * v) e w' := by
 have HT1 := natMul_at h1.m1 h2.m1 hp hu
 have HT2 := natMul_at h1.m2 h2.m2 hq hv
 clear h1 h2 hp hq hu hv
 obtain ⟨sg, hsg⟩ : ∃ sg, (!s == z) = sg := ⟨_, rfl⟩
 rw [hsg]
 unfold QX
 unfold qV RF at *
 generalize p * u = x1 at *
 generalize q * v = x2 at *
 go_enter Tryz.func129, Tryz.ntmps129
 go_wp2_with fail
 obtain ⟨wr, hwr⟩ : ∃ wr, (((w.alloc (.cells #[.bool s, .slice A1 L1 c1, .slice A2 L2 c2] 102)).alloc (.cells #[.bool z, .slice A3 L3 c3, .slice A4 L4 c4] 102)).alloc (.cells #[.bool false, .slice none 0 0, .slice none 0 0] 102)) = wr := ⟨_, rfl⟩
 have HF : QF wr w.heap.size s A1 L1 c1 A2 L2 c2 ∧ QF wr (w.heap.size + 1) z A3 L3 c3 A4 L4 c4 ∧ QF wr (w.heap.size + 1 + 1) false none 0 0 none 0 0 := by
  subst hwr
  exact ⟨((QF.new w _ rfl _ _ _ _ _ _ _).alloc _).alloc _, (QF.new _ _ (by simp) _ _ _ _ _ _ _).alloc _, QF.new _ _ (by simp) _ _ _ _ _ _ _⟩
 have HX := Aside0.mk (And.intro HF.1.cell0 (And.intro HF.1.cell1 (And.intro HF.1.cell2 (And.intro HF.2.1.cell0 (And.intro HF.2.1.cell1 HF.2.1.cell2)))))
 have HO := Aside0.mk HF.2.2
 have HA : Aside0 (Below w.heap.size w wr ∧ w.heap.size + 3 ≤ wr.heap.size) := ⟨by subst hwr; repeat (first | exact Below.refl _ _ | apply below_alloc), by subst hwr; simp⟩
 rw [hwr]
 clear hwr HF
 rename_i Q' K hK
 have KP : Aside0 (∀ V, Below (w.heap.size + 2) wr V → (fun V => V.cell? ⟨w.heap.size, 0, none⟩ = some (.bool s) ∧ V.cell? ⟨w.heap.size, 1, none⟩ = some (.slice A1 L1 c1) ∧ V.cell? ⟨w.heap.size, 2, none⟩ = some (.slice A2 L2 c2) ∧ V.cell? ⟨w.heap.size + 1, 0, none⟩ = some (.bool z) ∧ V.cell? ⟨w.heap.size + 1, 1, none⟩ = some (.slice A3 L3 c3) ∧ V.cell? ⟨w.heap.size + 1, 2, none⟩ = some (.slice A4 L4 c4) ∧ Below (w.heap.size + 2) wr V) V) := ⟨fun V hBB => ⟨keepB hBB (by omega) HX.out.1, keepB hBB (by omega) HX.out.2.1, keepB hBB (by omega) HX.out.2.2.1, keepB hBB (by omega) HX.out.2.2.2.1, keepB hBB (by omega) HX.out.2.2.2.2.1, keepB hBB (by omega) HX.out.2.2.2.2.2, hBB⟩⟩
 refine wq KP fun hHeld => ?_
 refine tp 0 ?_
 try simp only [PU]
 refine tp 1 ?_
 try simp only [PU]
 refine tp 2 ?_
 try simp only [PU]
 refine tp 3 ?_
 try simp only [PU]
 refine tp 4 ?_
 try simp only [PU]
 refine tp 5 ?_
 try simp only [PU]
 refine tp 6 ?_
 try simp only [PU]
 refine tp 7 ?_
 try simp only [PU]
 refine tp 8 ?_
 try simp only [PU]
 refine tp 10 ?_
 try simp only [PU]
 refine tp 11 ?_
 try simp only [PU]
 refine tp 12 ?_
 try simp only [PU]
 refine tp 13 ?_
 try simp only [PU]
 refine tc 9 fun K hK => ?_
 go_simp
 (go_at_call 173; (with_reducible refine (HT1.out _ (HA.out.1.trans (hHeld.2.2.2.2.2.2.mono (show w.heap.size ≤ w.heap.size + 2 by omega)))).mono ?_); rintro e wm ⟨A5, k5, d5, rfl, hm5, hbq, _⟩; have HO := Aside0.mk ((HO.out.below (below_drew1 (Below.refl _ _))).below hbq); have HM5 := Aside0.mk hm5; clear hm5)
 refine hK.out _ _ ?_ fun hHeld => ?_
 ·(first | exact KP.out _ (bKeep hbq hHeld.2.2.2.2.2.2 (by have := HA.out.2; omega)) | (refine KP.out _ ?_; repeat (first | exact hHeld.2.2.2.2.2.2 | refine Below.setCell ?_ (by first | (simp; done) | (simp; omega)) _)))
 clear hK K; try simp only [PU]
 refine tc 14 fun K hK => ?_
 go_simp
 (go_at_call 173; (with_reducible refine (HT2.out _ (HA.out.1.trans (hHeld.2.2.2.2.2.2.mono (show w.heap.size ≤ w.heap.size + 2 by omega)))).mono ?_); rintro e wm ⟨A6, k6, d6, rfl, hm6, hbq, _⟩; have HO := Aside0.mk (HO.out.below hbq); have HM6 := Aside0.mk (N2.mk (HM5.out.below hbq) hm6); clear hm6; have q0 := HO.out.cell0; have q1 := HO.out.cell1; have q2 := HO.out.cell2; have q4 := HO.out.fr 0; have q5 := HO.out.fr 1; have q6 := HO.out.fr 2)
 refine hK.out _ _ ?_ fun hHeld => ?_
 ·(first | exact KP.out _ (bKeep hbq hHeld.2.2.2.2.2.2 (by have := HA.out.2; omega)) | (refine KP.out _ ?_; repeat (first | exact hHeld.2.2.2.2.2.2 | refine Below.setCell ?_ (by first | (simp; done) | (simp; omega)) _)))
 clear hK K; try simp only [PU]
 refine tp 15 ?_
 try simp only [PU]
 refine tc 16 fun K hK => ?_
 go_simp
 refine hK.out _ _ ?_ fun hHeld => ?_
 ·(first | exact KP.out _ (bKeep hbq hHeld.2.2.2.2.2.2 (by have := HA.out.2; omega)) | (refine KP.out _ ?_; repeat (first | exact hHeld.2.2.2.2.2.2 | refine Below.setCell ?_ (by first | (simp; done) | (simp; omega)) _)))
 clear hK K; try simp only [PU]
 refine wpAnyH_done (by kernel_rfl) ?_ _
 refine hK _ _ ?_
 go_wp2
 exact q_ret Tryz.results129 rfl HO.out.put3 ⟨A5, k5, d5, A6, k6, d6, rfl, N2.put3 HO.out HM6.out, (HA.out.1.trans (hHeld.2.2.2.2.2.2.mono (show w.heap.size ≤ w.heap.size + 2 by omega)))⟩
theorem qOver_calls {w : World} {s z : Bool} {A1 A2 A3 A4 : Option Addr} {L1 c1 L2 c2 L3 c3 L4 c4 p q u v : Nat} (h1 : N2 w A1 L1 c1 p A2 L2 c2 q) (h2 : N2 w A3 L3 c3 u A4 L4 c4 v)
 (hp : Sz 100000 p) (hq : Sz 100000 q) (hu : Sz 100000 u) (hv : Sz 100000 v) :
 Calls Tryz.prog 117 #[qV s A1 L1 c1 A2 L2 c2, qV z A3 L3 c3 A4 L4 c4] w fun e w' => QX w (!s == z) (p * v) (q * u) e w' := by
 have HT1 := natMul_at h1.m1 h2.m2 hp hv
 have HT2 := natMul_at h1.m2 h2.m1 hq hu
 clear h1 h2 hp hq hu hv
 obtain ⟨sg, hsg⟩ : ∃ sg, (!s == z) = sg := ⟨_, rfl⟩
 rw [hsg]
 unfold QX
 unfold qV RF at *
 generalize p * v = x1 at *
 generalize q * u = x2 at *
 go_enter Tryz.func117, Tryz.ntmps117
 go_wp2_with fail
 obtain ⟨wr, hwr⟩ : ∃ wr, (((w.alloc (.cells #[.bool s, .slice A1 L1 c1, .slice A2 L2 c2] 102)).alloc (.cells #[.bool z, .slice A3 L3 c3, .slice A4 L4 c4] 102)).alloc (.cells #[.bool false, .slice none 0 0, .slice none 0 0] 102)) = wr := ⟨_, rfl⟩
 have HF : QF wr w.heap.size s A1 L1 c1 A2 L2 c2 ∧ QF wr (w.heap.size + 1) z A3 L3 c3 A4 L4 c4 ∧ QF wr (w.heap.size + 1 + 1) false none 0 0 none 0 0 := by
  subst hwr
  exact ⟨((QF.new w _ rfl _ _ _ _ _ _ _).alloc _).alloc _, (QF.new _ _ (by simp) _ _ _ _ _ _ _).alloc _, QF.new _ _ (by simp) _ _ _ _ _ _ _⟩
 have HX := Aside0.mk (And.intro HF.1.cell0 (And.intro HF.1.cell1 (And.intro HF.1.cell2 (And.intro HF.2.1.cell0 (And.intro HF.2.1.cell1 HF.2.1.cell2)))))
 have HO := Aside0.mk HF.2.2
 have HA : Aside0 (Below w.heap.size w wr ∧ w.heap.size + 3 ≤ wr.heap.size) := ⟨by subst hwr; repeat (first | exact Below.refl _ _ | apply below_alloc), by subst hwr; simp⟩
 rw [hwr]
 clear hwr HF
 rename_i Q' K hK
 have KP : Aside0 (∀ V, Below (w.heap.size + 2) wr V → (fun V => V.cell? ⟨w.heap.size, 0, none⟩ = some (.bool s) ∧ V.cell? ⟨w.heap.size, 1, none⟩ = some (.slice A1 L1 c1) ∧ V.cell? ⟨w.heap.size, 2, none⟩ = some (.slice A2 L2 c2) ∧ V.cell? ⟨w.heap.size + 1, 0, none⟩ = some (.bool z) ∧ V.cell? ⟨w.heap.size + 1, 1, none⟩ = some (.slice A3 L3 c3) ∧ V.cell? ⟨w.heap.size + 1, 2, none⟩ = some (.slice A4 L4 c4) ∧ Below (w.heap.size + 2) wr V) V) := ⟨fun V hBB => ⟨keepB hBB (by omega) HX.out.1, keepB hBB (by omega) HX.out.2.1, keepB hBB (by omega) HX.out.2.2.1, keepB hBB (by omega) HX.out.2.2.2.1, keepB hBB (by omega) HX.out.2.2.2.2.1, keepB hBB (by omega) HX.out.2.2.2.2.2, hBB⟩⟩
 refine wq KP fun hHeld => ?_
 refine tp 0 ?_
 try simp only [PU]
 refine tp 1 ?_
 try simp only [PU]
 refine tp 2 ?_
 try simp only [PU]
 refine tp 3 ?_
 try simp only [PU]
 refine tp 4 ?_
 try simp only [PU]
 refine tp 5 ?_
 try simp only [PU]
 refine tp 6 ?_
 try simp only [PU]
 refine tp 7 ?_
 try simp only [PU]
 refine tp 8 ?_
 try simp only [PU]
 refine tp 10 ?_
 try simp only [PU]
 refine tp 11 ?_
 try simp only [PU]
 refine tp 12 ?_
 try simp only [PU]
 refine tp 13 ?_
 try simp only [PU]
 refine tc 9 fun K hK => ?_
 go_simp
 (go_at_call 173; (with_reducible refine (HT1.out _ (HA.out.1.trans (hHeld.2.2.2.2.2.2.mono (show w.heap.size ≤ w.heap.size + 2 by omega)))).mono ?_); rintro e wm ⟨A5, k5, d5, rfl, hm5, hbq, _⟩; have HO := Aside0.mk ((HO.out.below (below_drew1 (Below.refl _ _))).below hbq); have HM5 := Aside0.mk hm5; clear hm5)
 refine hK.out _ _ ?_ fun hHeld => ?_
 ·(first | exact KP.out _ (bKeep hbq hHeld.2.2.2.2.2.2 (by have := HA.out.2; omega)) | (refine KP.out _ ?_; repeat (first | exact hHeld.2.2.2.2.2.2 | refine Below.setCell ?_ (by first | (simp; done) | (simp; omega)) _)))
 clear hK K; try simp only [PU]
 refine tc 14 fun K hK => ?_
 go_simp
 (go_at_call 173; (with_reducible refine (HT2.out _ (HA.out.1.trans (hHeld.2.2.2.2.2.2.mono (show w.heap.size ≤ w.heap.size + 2 by omega)))).mono ?_); rintro e wm ⟨A6, k6, d6, rfl, hm6, hbq, _⟩; have HO := Aside0.mk (HO.out.below hbq); have HM6 := Aside0.mk (N2.mk (HM5.out.below hbq) hm6); clear hm6; have q0 := HO.out.cell0; have q1 := HO.out.cell1; have q2 := HO.out.cell2; have q4 := HO.out.fr 0; have q5 := HO.out.fr 1; have q6 := HO.out.fr 2)
 refine hK.out _ _ ?_ fun hHeld => ?_
 ·(first | exact KP.out _ (bKeep hbq hHeld.2.2.2.2.2.2 (by have := HA.out.2; omega)) | (refine KP.out _ ?_; repeat (first | exact hHeld.2.2.2.2.2.2 | refine Below.setCell ?_ (by first | (simp; done) | (simp; omega)) _)))
 clear hK K; try simp only [PU]
 refine tp 15 ?_
 try simp only [PU]
 refine tc 16 fun K hK => ?_
 go_simp
 refine hK.out _ _ ?_ fun hHeld => ?_
 ·(first | exact KP.out _ (bKeep hbq hHeld.2.2.2.2.2.2 (by have := HA.out.2; omega)) | (refine KP.out _ ?_; repeat (first | exact hHeld.2.2.2.2.2.2 | refine Below.setCell ?_ (by first | (simp; done) | (simp; omega)) _)))
 clear hK K; try simp only [PU]
 refine wpAnyH_done (by kernel_rfl) ?_ _
 refine hK _ _ ?_
 go_wp2
 exact q_ret Tryz.results117 rfl HO.out.put3 ⟨A5, k5, d5, A6, k6, d6, rfl, N2.put3 HO.out HM6.out, (HA.out.1.trans (hHeld.2.2.2.2.2.2.mono (show w.heap.size ≤ w.heap.size + 2 by omega)))⟩
end
end Go.Proofs.YtnjbinpbkjdjpaaGreatDoor.Nm
