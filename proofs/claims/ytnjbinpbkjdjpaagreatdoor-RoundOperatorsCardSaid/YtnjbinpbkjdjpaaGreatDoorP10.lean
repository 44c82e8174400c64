import Derived.Test.YtnjbinpbkjdjpaaGreatDoorP9
import Derived.Laws.Cover2
import Derived.Laws.Cover3
import Derived.Laws.FloatArith
import Derived.Laws.Externs
import Derived.Laws.BitsAllLaws
import Derived.Test.YtnjbinpbkjdjpaaGreatDoorP8
/- Own text: contracts and laws on which the card rests (FnP FnQ FnR FnS FnT FnU FnV FnW FnX FnY GaA FnZ NfB FbA FbB). -/
set_option linter.unusedVariables false
set_option linter.unusedSimpArgs false
set_option maxRecDepth 1000000
set_option maxHeartbeats 16000000
namespace Go.Proofs.YtnjbinpbkjdjpaaGreatDoor.Nm
section
open Go.Proofs.YtnjbinpbkjdjpaaGreatDoor.Rf Go.Proofs.YtnjbinpbkjdjpaaGreatDoorW.PrintLast Go.Proofs.YtnjbinpbkjdjpaaGreatDoorW.PrintMore Go.Proofs.YtnjbinpbkjdjpaaGreatDoorW.PrintWords Go.RowKit Go.Shelf Ieee
/-- The functions of math that have no body. -/
theorem run_bits (b : Nat) (w : World) : (callFunc 169 #[.float .f64 b]).run Tryz.prog w = .ok (.value (.int .u64 (b : Int))) w := by
 rw [run_callFunc_extern (e := Extern.MathFloatBits.float64bits) Tryz.func169 (by kernel_rfl) (by kernel_rfl) (by kernel_rfl) (by kernel_rfl)]
 rfl
theorem run_frombits (b : Int) (w : World) : (callFunc 36 #[.int .u64 b]).run Tryz.prog w = .ok (.value (.float .f64 b.toNat)) w := by
 rw [run_callFunc_extern (e := Extern.MathFloatBits.float64frombits) Tryz.func36 (by kernel_rfl) (by kernel_rfl) (by kernel_rfl) (by kernel_rfl)]
 rfl
theorem run_bits32 (b : Nat) (w : World) : (callFunc 77 #[.float .f32 b]).run Tryz.prog w = .ok (.value (.int .u32 (b : Int))) w := by
 rw [run_callFunc_extern (e := Extern.MathFloatBits.float32bits) Tryz.func77 (by kernel_rfl) (by kernel_rfl) (by kernel_rfl) (by kernel_rfl)]
 rfl
theorem and63 (b : Nat) (h : b < 18446744073709551616) : bits .andNot .u64 (b : Int) 9223372036854775808 = ((b % 9223372036854775808 : Nat) : Int) := by
 rw [show (9223372036854775808 : Int) = ((9223372036854775808 : Nat) : Int) by rfl, u64_andNot_nat b 9223372036854775808 h (by decide)]
 have := Nat.and_two_pow_sub_one_eq_mod b 63
 simp only [Nat.reducePow, Nat.reduceSub] at this ⊢
 rw [this]
theorem s64_lt (s : Bool) {r : Nat} (h : r < 9223372036854775808) : S64 s + r < 18446744073709551616 := by unfold S64; cases s <;> simp <;> omega
theorem abs_calls {s : Bool} {r : Nat} (h : r < 9223372036854775808) (w : World) : Calls Tryz.prog 131 #[.float .f64 (S64 s + r)] w fun e w' => e = .returned (.float .f64 r) ∧ w' = w := by
 have hb := run_bits (S64 s + r)
 have hf := run_frombits (r : Int)
 have ha := and63 _ (s64_lt s h)
 rw [(dsplit s h).2] at ha
 generalize S64 s + r = b at *
 simp only [Int.toNat_natCast] at hf
 go_enter Tryz.func131, Tryz.ntmps131
 go_wp2
 go_ret
 exact ⟨rfl, rfl⟩
theorem read_inf (s : Bool) : double.read (S64 s + 9218868437227405312) = .infinity s := by cases s <;> decide
theorem read_nan (s : Bool) {r : Nat} (h : 9218868437227405312 < r) (h2 : r < 9223372036854775808) : double.read (S64 s + r) = .nan s (r - 9218868437227405312) := by
 unfold Format.read
 rw [dsw, dbin, dinf]
 obtain ⟨e1, e2⟩ := dsplit s h2
 simp only [e1, e2]
 rw [if_neg (by omega), if_neg (by omega), if_neg (by omega)]
theorem ord_selfb {s : Bool} {r : Nat} (h : r < 9223372036854775808) : (double.order (S64 s + r) (S64 s + r) != some .eq) = decide (9218868437227405312 < r) := by
 rcases Nat.lt_trichotomy r 9218868437227405312 with h1 | h1 | h1
 ·rw [ord_self h1, decide_eq_false (by omega)]; rfl
 ·subst h1
  unfold Format.order
  rw [read_inf]
  cases s <;> decide
 ·unfold Format.order
  rw [read_nan s h1 h, decide_eq_true h1]
  rfl
theorem ord_maxb {r : Nat} (h : r < 9223372036854775808) : (double.order r 9218868437227405311 == some .gt) = decide (r = 9218868437227405312) := by
 have e : S64 false + r = r := by unfold S64; simp
 rcases Nat.lt_trichotomy r 9218868437227405312 with h1 | h1 | h1
 ·have := (ord_max (s := false) h1).1
  rw [e] at this
  rw [decide_eq_false (by omega), beq_eq_false_iff_ne]
  exact this
 ·subst h1
  decide
 ·unfold Format.order
  rw [← e, read_nan false h1 h, e, decide_eq_false (by omega)]
  rfl
theorem isNaN_calls {s : Bool} {r : Nat} (h : r < 9223372036854775808) (w : World) : Calls Tryz.prog 101 #[.float .f64 (S64 s + r)] w fun e w' => e = .returned (.bool (decide (9218868437227405312 < r))) ∧ w' = w := by
 have ho : (FloatKind.f64.format.order (S64 s + r) (S64 s + r) != some .eq) = decide (9218868437227405312 < r) := ord_selfb (s := s) h
 generalize S64 s + r = b at *
 generalize decide (9218868437227405312 < r) = g at *
 go_enter Tryz.func101, Tryz.ntmps101
 go_wp2
 go_ret
 exact ⟨rfl, rfl⟩
theorem isInf_calls {s : Bool} {r : Nat} (h : r < 9223372036854775808) (w : World) : Calls Tryz.prog 102 #[.float .f64 (S64 s + r), .int .i64 0] w fun e w' => e = .returned (.bool (decide (r = 9218868437227405312))) ∧ w' = w := by
 have ho : (FloatKind.f64.format.order r 9218868437227405311 == some .gt) = decide (r = 9218868437227405312) := ord_maxb h
 have HA := Aside0.mk (abs_calls (s := s) h)
 clear h
 generalize S64 s + r = b at *
 generalize decide (r = 9218868437227405312) = g at *
 go_enter Tryz.func102, Tryz.ntmps102
 go_wp2_with (go_at_call 131; (with_reducible refine (HA.out _).mono ?_); rintro e w1 ⟨rfl, hww⟩; subst hww)
 go_ret
 exact ⟨rfl, rfl⟩
theorem isFinite_calls {s : Bool} {r : Nat} (h : r < 9223372036854775808) (w : World) : Calls Tryz.prog 63 #[.float .f64 (S64 s + r)] w fun e w' => e = .returned (.bool (decide (r < 9218868437227405312))) ∧ w' = w := by
 have HA := Aside0.mk (isNaN_calls (s := s) h)
 have HB := Aside0.mk (isInf_calls (s := s) h)
 clear h
 generalize S64 s + r = b at *
 rcases Nat.lt_trichotomy r 9218868437227405312 with h1 | h1 | h1
 ·rw [decide_eq_true h1]
  rw [decide_eq_false (by omega)] at HA HB
  clear h1
  go_enter Tryz.func63, Tryz.ntmps63
  go_wp2_with (first | (go_at_call 101; (with_reducible refine (HA.out _).mono ?_); rintro e w1 ⟨rfl, hww⟩; subst hww) | (go_at_call 102; (with_reducible refine (HB.out _).mono ?_); rintro e w1 ⟨rfl, hww⟩; subst hww))
  go_ret
  exact ⟨rfl, rfl⟩
 ·rw [decide_eq_false (by omega)] at HA ⊢
  rw [decide_eq_true h1] at HB
  clear h1
  go_enter Tryz.func63, Tryz.ntmps63
  go_wp2_with (first | (go_at_call 101; (with_reducible refine (HA.out _).mono ?_); rintro e w1 ⟨rfl, hww⟩; subst hww) | (go_at_call 102; (with_reducible refine (HB.out _).mono ?_); rintro e w1 ⟨rfl, hww⟩; subst hww))
  go_ret
  exact ⟨rfl, rfl⟩
 ·rw [decide_eq_false (by omega)] at HB ⊢
  rw [decide_eq_true h1] at HA
  clear h1
  go_enter Tryz.func63, Tryz.ntmps63
  go_wp2_with (first | (go_at_call 101; (with_reducible refine (HA.out _).mono ?_); rintro e w1 ⟨rfl, hww⟩; subst hww) | (go_at_call 102; (with_reducible refine (HB.out _).mono ?_); rintro e w1 ⟨rfl, hww⟩; subst hww))
  go_ret
  exact ⟨rfl, rfl⟩
theorem log2_52 {m : Nat} (h : 4503599627370496 ≤ m) (h2 : m < 9007199254740992) : m.log2 = 52 := by
 have hm : m ≠ 0 := by omega
 have h1 := (Nat.le_log2 (k := 52) hm).2 (by rw [show (2 : Nat) ^ 52 = 4503599627370496 by decide]; exact h)
 have h3 := log2_lt53 hm h2
 omega
/-- A normal number's word comes back. -/
theorem rg_back {r : Nat} (h : 4503599627370496 ≤ r) (h2 : r < 9218868437227405312) : rg64 (sg64 r) (pl64 r) = r := by
 have e1 : sg64 r = 4503599627370496 + r % 4503599627370496 := by unfold sg64; rw [if_neg (by omega)]
 have e2 : pl64 r = (r / 4503599627370496 : Nat) - 1075 := by unfold pl64; rw [if_neg (by omega)]
 have e3 : (sg64 r).log2 = 52 := log2_52 (by omega) (by omega)
 unfold rg64
 rw [if_neg (by omega), e3, Nat.sub_self, Nat.pow_zero, Nat.mul_one, e1, e2]
 omega
theorem dbl_back {r : Nat} (h : 4503599627370496 ≤ r) (h2 : r < 9218868437227405312) : dbl false (sg64 r) (pl64 r) = r := by
 have e1 : sg64 r = 4503599627370496 + r % 4503599627370496 := by unfold sg64; rw [if_neg (by omega)]
 have e2 : pl64 r = (r / 4503599627370496 : Nat) - 1075 := by unfold pl64; rw [if_neg (by omega)]
 have e3 : (sg64 r).log2 = 52 := log2_52 (by omega) (by omega)
 rw [(dbl_rg (s := false) (sg64_lt r) (by rw [e3, e2]; omega) (by rw [e3, e2]; omega)).1, rg_back h h2]
 unfold S64
 simp
theorem s64f (r : Nat) : S64 false + r = r := by unfold S64; simp
/-- Comparison with the least normal number. -/
theorem ord_min {r : Nat} (h : r < 9218868437227405312) : (double.order r 4503599627370496 == some .lt) = decide (r < 4503599627370496) := by
 unfold Format.order
 have hr := read64 false h
 rw [s64f] at hr
 rw [hr, show double.read 4503599627370496 = .number false 4503599627370496 (-1074) from by decide]
 show (some (compare (signed false (sg64 r) (pl64 r - min (pl64 r) (-1074)).toNat) (signed false 4503599627370496 ((-1074) - min (pl64 r) (-1074)).toNat)) == some .lt) = _
 have h1 := pl64_ge r
 rw [Int.min_eq_right h1, Int.sub_self]
 unfold signed
 simp only [Bool.false_eq_true, if_false]
 rw [show (4503599627370496 <<< (0 : Int).toNat : Nat) = 4503599627370496 from rfl]
 by_cases hl : r < 4503599627370496
 ·have e1 : sg64 r = r := by unfold sg64; rw [if_pos hl]
  have e2 : pl64 r = -1074 := by unfold pl64; rw [if_pos hl]
  rw [e1, e2, decide_eq_true hl, Int.sub_self, show (r <<< (0 : Int).toNat : Nat) = r from rfl, cpi_lt (by omega)]
  rfl
 ·rw [decide_eq_false hl]
  have e1 : 4503599627370496 ≤ sg64 r := by unfold sg64; rw [if_neg hl]; omega
  have h3 : 4503599627370496 ≤ sg64 r <<< (pl64 r - (-1074)).toNat := by
   rw [Nat.shiftLeft_eq]
   exact Nat.le_trans e1 (Nat.le_mul_of_pos_right _ (Nat.two_pow_pos _))
  generalize sg64 r <<< (pl64 r - (-1074)).toNat = z at *
  rcases Nat.lt_or_eq_of_le h3 with h4 | h4
  ·rw [cpi_gt (by omega)]; rfl
  ·rw [cpi_eq (by omega)]; rfl
/-- A subnormal number times two to the power of 52. -/
theorem mul_sub {r : Nat} (h : r < 4503599627370496) : floatBits .mul .f64 r 4841369599423283200 = some (dbl false r (-1022)) := by
 have hr := read64 false (r := r) (by omega)
 rw [s64f] at hr
 have e1 : sg64 r = r := by unfold sg64; rw [if_pos h]
 have e2 : pl64 r = -1074 := by unfold pl64; rw [if_pos h]
 rw [e1, e2] at hr
 show double.mul r 4841369599423283200 = _
 unfold Format.mul
 rw [hr, show double.read 4841369599423283200 = .number false 4503599627370496 0 from by decide]
 show some (double.nearest (false ^^ false) (r * 4503599627370496) (-1074 + 0)) = _
 have := nearest_scale double false r (-1022) 52
 rw [show (2 : Nat) ^ 52 = 4503599627370496 by decide] at this
 unfold dbl
 rw [← this]
 rfl
/-- One times a normal number. -/
theorem mul_one64 {r : Nat} (h : 4503599627370496 ≤ r) (h2 : r < 9218868437227405312) : floatBits .mul .f64 4607182418800017408 r = some r := by
 have hr := read64 false h2
 rw [s64f] at hr
 show double.mul 4607182418800017408 r = _
 unfold Format.mul
 rw [hr, show double.read 4607182418800017408 = .number false 4503599627370496 (-52) from by decide]
 show some (double.nearest (false ^^ false) (4503599627370496 * sg64 r) (-52 + pl64 r)) = _
 have := nearest_scale double false (sg64 r) (pl64 r) 52
 rw [show (2 : Nat) ^ 52 = 4503599627370496 by decide] at this
 rw [Nat.mul_comm, show (-52 : Int) + pl64 r = pl64 r - (52 : Nat) by omega, show (false ^^ false) = false from rfl, this]
 exact congrArg some (dbl_back h h2)
theorem normal_calls {r : Nat} (h : 4503599627370496 ≤ r) (h2 : r < 9218868437227405312) (w : World) : Calls Tryz.prog 195 #[.float .f64 r] w fun e w' => e = .returned (.tuple #[.float .f64 r, .int .i64 0]) ∧ w' = w := by
 have ho : (FloatKind.f64.format.order r 4503599627370496 == some .lt) = decide (r < 4503599627370496) := ord_min h2
 rw [decide_eq_false (by omega)] at ho
 have HA := Aside0.mk (abs_calls (s := false) (r := r) (by omega))
 rw [s64f] at HA
 clear h h2
 go_enter Tryz.func195, Tryz.ntmps195
 go_wp2_with (go_at_call 131; (with_reducible refine (HA.out _).mono ?_); rintro e w1 ⟨rfl, hww⟩; subst hww)
 go_ret2
 exact ⟨rfl, rfl⟩
theorem subnormal_calls {r : Nat} (h : r < 4503599627370496) (w : World) : Calls Tryz.prog 195 #[.float .f64 r] w fun e w' => e = .returned (.tuple #[.float .f64 (dbl false r (-1022)), .int .i64 (-52)]) ∧ w' = w := by
 have ho : (FloatKind.f64.format.order r 4503599627370496 == some .lt) = decide (r < 4503599627370496) := ord_min (by omega)
 rw [decide_eq_true h] at ho
 have hm := fun (w : World) t => run_float_arith (P := Tryz.prog) w .mul t .f64 r 4841369599423283200 _ (mul_sub h)
 have HA := Aside0.mk (abs_calls (s := false) (r := r) (by omega))
 rw [s64f] at HA
 clear h
 generalize dbl false r (-1022) = y at *
 go_enter Tryz.func195, Tryz.ntmps195
 go_wp2_with (go_at_call 131; (with_reducible refine (HA.out _).mono ?_); rintro e w1 ⟨rfl, hww⟩; subst hww)
 go_ret2
 exact ⟨rfl, rfl⟩
theorem ordz {r : Nat} (h : r < 9218868437227405312) : (FloatKind.f64.format.order r 0 == some .eq) = decide (r = 0) := by
 have := ord_zero (s := false) h
 rw [s64f] at this
 show (double.order r 0 == _) = _
 rw [this]
 by_cases h0 : r = 0
 ·rw [if_pos h0, decide_eq_true h0]; rfl
 ·rw [if_neg h0, decide_eq_false h0]; rfl
theorem and_exp {X : Nat} (h : X < 2048) : bits .and .u64 (X : Int) 2047 = (X : Int) := by
 rw [show (2047 : Int) = ((2047 : Nat) : Int) by rfl, u64_and_nat X 2047 (by omega) (by decide)]
 have := Nat.and_two_pow_sub_one_eq_mod X 11
 simp only [Nat.reducePow, Nat.reduceSub] at this
 rw [this, Nat.mod_eq_of_lt h]
theorem and_expI {X : Nat} (h : X < 2048) : bits .and .i64 (X : Int) 2047 = (X : Int) := by
 have h127 : (BitVec.ofInt 64 2047).toNat = 2 ^ 11 - 1 := by decide
 have key : (BitVec.ofInt 64 (X : Int) &&& BitVec.ofInt 64 2047).toNat = ((X : Int) % ((2 ^ 64 : Nat) : Int)).toNat % 2 ^ 11 := by
  rw [BitVec.toNat_and, BitVec.toNat_ofInt, h127, Nat.and_two_pow_sub_one_eq_mod]
 show IntKind.i64.wrap ((BitVec.ofInt 64 (X : Int) &&& BitVec.ofInt 64 2047).toNat : Nat) = (X : Int)
 rw [key, IntKind.wrap_i64]
 omega
theorem and_frac {r : Nat} (h : r < 9223372036854775808) : bits .andNot .u64 (r : Int) 9218868437227405312 = ((r % 4503599627370496 : Nat) : Int) := by
 rw [show (9218868437227405312 : Int) = ((9218868437227405312 : Nat) : Int) by rfl, u64_andNot_nat r 9218868437227405312 (by omega) (by decide)]
 rw [show 18446744073709551615 - 9218868437227405312 = 9223372036854775808 ||| 4503599627370495 by decide, Nat.and_or_distrib_left]
 have h1 : r &&& 9223372036854775808 = 0 := by
  apply Nat.eq_of_testBit_eq
  intro i
  rw [Nat.testBit_and, show 9223372036854775808 = 2 ^ 63 by decide, Nat.testBit_two_pow, Nat.zero_testBit]
  by_cases hi : 63 = i
  ·subst hi; rw [Nat.testBit_lt_two_pow (by simpa using h)]; rfl
  ·simp [hi]
 have h2 := Nat.and_two_pow_sub_one_eq_mod r 52
 simp only [Nat.reducePow, Nat.reduceSub] at h2
 rw [h1, h2, Nat.zero_or]
theorem or_exp {X F : Nat} (hX : X < 2048) (hF : F < 4503599627370496) : bits .or .u64 (F : Int) ((X * 4503599627370496 : Nat) : Int) = ((X * 4503599627370496 + F : Nat) : Int) := by
 rw [u64_or_nat F _ (by omega) (by omega)]
 have := Nat.shiftLeft_add_eq_or_of_lt (i := 52) (b := F) (by simpa using hF) X
 rw [Nat.shiftLeft_eq] at this
 simp only [Nat.reducePow] at this
 rw [this, Nat.or_comm]
theorem or_1022 {F : Nat} (hF : F < 4503599627370496) : bits .or .u64 (F : Int) 4602678819172646912 = ((1022 * 4503599627370496 + F : Nat) : Int) := by
 rw [show (4602678819172646912 : Int) = ((4602678819172646912 : Nat) : Int) by rfl, show (4602678819172646912 : Nat) = 1022 * 4503599627370496 by decide]
 exact or_exp (by decide) hF
theorem fr_facts {r X F Y : Nat} (h : r < 9218868437227405312) (hX : r / 4503599627370496 = X) (hF : r % 4503599627370496 = F) (hY : 1022 * 4503599627370496 + F = Y) :
 X < 2048 ∧ bits .and .u64 (X : Int) 2047 = (X : Int) ∧ bits .andNot .u64 (r : Int) 9218868437227405312 = (F : Int) ∧ bits .or .u64 (F : Int) 4602678819172646912 = (Y : Int) ∧ (r : Int) / 4503599627370496 = (X : Int) := by
 have h1 : X < 2048 := by omega
 have h2 : F < 4503599627370496 := by omega
 refine ⟨h1, and_exp h1, ?_, ?_, by omega⟩
 ·rw [← hF]; exact and_frac (by omega)
 ·rw [← hY]; exact or_1022 h2
theorem fr_wrap {X : Nat} {k : Int} (h : X < 2048) (hk : -100 ≤ k) (hk2 : k ≤ 0) : wrap64 (k + wrap64 (wrap64 (wrap64 (X : Int) - 1023) + 1)) = k + ((X : Int) - 1023 + 1) := by
 rw [IntWalk.wrap64_in (X : Int) (by omega), IntWalk.wrap64_in ((X : Int) - 1023) (by omega), IntWalk.wrap64_in ((X : Int) - 1023 + 1) (by omega), IntWalk.wrap64_in _ (by omega)]
theorem frexp_any {r r' X F Y : Nat} {k : Int} (h : r < 9218868437227405312) (h0 : r ≠ 0) (HZ : Aside0 (∀ w, Calls Tryz.prog 195 #[.float .f64 r] w fun e w' => e = .returned (.tuple #[.float .f64 r', .int .i64 k]) ∧ w' = w))
 (h2 : r' < 9218868437227405312) (hk : -100 ≤ k) (hk2 : k ≤ 0) (hX : r' / 4503599627370496 = X) (hF : r' % 4503599627370496 = F) (hY : 1022 * 4503599627370496 + F = Y) (w : World) :
 Calls Tryz.prog 184 #[.float .f64 r] w fun e w' => e = .returned (.tuple #[.float .f64 Y, .int .i64 (k + ((X : Int) - 1023 + 1))]) ∧ w' = w := by
 obtain ⟨x1, f1, f2, f3, f4⟩ := fr_facts h2 hX hF hY
 clear hX hF hY
 have ho := ordz h
 rw [decide_eq_false h0] at ho
 have HI := Aside0.mk (isInf_calls (s := false) (r := r) (by omega))
 have HN := Aside0.mk (isNaN_calls (s := false) (r := r) (by omega))
 rw [s64f, decide_eq_false (by omega)] at HI HN
 have hb := run_bits r'
 have hf : ∀ w, (callFunc 36 #[.int .u64 (Y : Int)]).run Tryz.prog w = .ok (.value (.float .f64 Y)) w := fun w => by
  rw [run_frombits, Int.toNat_natCast]
 have HW := Aside0.mk (fr_wrap x1 hk hk2)
 clear h h0 h2 x1 hk hk2
 go_enter Tryz.func184, Tryz.ntmps184
 go_wp2_with (first | (go_at_call 102; (with_reducible refine (HI.out _).mono ?_); rintro e w1 ⟨rfl, hww⟩; subst hww) | (go_at_call 101; (with_reducible refine (HN.out _).mono ?_); rintro e w1 ⟨rfl, hww⟩; subst hww) | (go_at_call 195; (with_reducible refine (HZ.out _).mono ?_); rintro e w1 ⟨rfl, hww⟩; subst hww))
 go_ret2
 rw [HW.out]
 exact ⟨rfl, rfl⟩
theorem ldexp_any {r X F G Z : Nat} {e : Int} (h1 : 4503599627370496 ≤ r) (h2 : r < 9218868437227405312) (hX : r / 4503599627370496 = X) (hF : r % 4503599627370496 = F)
 (hG : (X : Int) + e = G) (hG1 : 1 ≤ G) (hG2 : G ≤ 2046) (hZ : G * 4503599627370496 + F = Z) (w : World) :
 Calls Tryz.prog 145 #[.float .f64 r, .int .i64 e] w fun e w' => e = .returned (.float .f64 Z) ∧ w' = w := by
 obtain ⟨x1, f1, f2, _, f4⟩ := fr_facts h2 hX hF rfl
 have f5 := and_expI x1
 have ho := ordz h2
 rw [decide_eq_false (by omega)] at ho
 have HI := Aside0.mk (isInf_calls (s := false) (r := r) (by omega))
 have HN := Aside0.mk (isNaN_calls (s := false) (r := r) (by omega))
 rw [s64f, decide_eq_false (by omega)] at HI HN
 have HZ := Aside0.mk (normal_calls h1 h2)
 have hb := run_bits r
 have hz1 : 4503599627370496 ≤ Z := by omega
 have hz2 : Z < 9218868437227405312 := by omega
 have hm := fun (w : World) t => run_float_arith (P := Tryz.prog) w .mul t .f64 _ _ _ (mul_one64 hz1 hz2)
 have hf : ∀ w, (callFunc 36 #[.int .u64 (Z : Int)]).run Tryz.prog w = .ok (.value (.float .f64 Z)) w := fun w => by
  rw [run_frombits, Int.toNat_natCast]
 have g1 : e = (G : Int) - X := by omega
 subst g1
 have v1 : IntKind.i64.wrap (X : Int) = X := IntWalk.i64_in _ (by omega)
 have v2 : IntKind.i64.wrap ((X : Int) - 1023) = (X : Int) - 1023 := IntWalk.i64_in _ (by omega)
 have v3 : IntKind.i64.wrap ((G : Int) - X + ((X : Int) - 1023)) = (G : Int) - 1023 := (IntWalk.i64_in _ (by omega)).trans (by omega)
 have v4 : IntKind.i64.wrap ((G : Int) - X) = (G : Int) - X := IntWalk.i64_in _ (by omega)
 have v5 : IntKind.i64.wrap ((G : Int) - 1023 + 1023) = G := (IntWalk.i64_in _ (by omega)).trans (by omega)
 have v6 : IntKind.u64.wrap (G : Int) = G := IntWalk.u64_in _ (by omega)
 have v7 : IntKind.i64.wrap (G : Int) = G := IntWalk.i64_in _ (by omega)
 have v8 : IntKind.u64.wrap ((G : Int) * 4503599627370496) = (G : Int) * 4503599627370496 := IntWalk.u64_in _ (by omega)
 have d1 : decide ((G : Int) - 1023 < -1075) = false := decide_eq_false (by omega)
 have d2 : decide (1023 < (G : Int) - 1023) = false := decide_eq_false (by omega)
 have d3 : decide ((G : Int) - 1023 < -1022) = false := decide_eq_false (by omega)
 have f6 : bits .or .u64 (F : Int) ((G : Int) * 4503599627370496) = (Z : Int) := by
  have := or_exp (X := G) (F := F) (by omega) (by omega)
  rw [hZ, Int.natCast_mul] at this
  exact this
 clear h1 h2 hX hF hG hG1 hG2 hZ x1 hz1 hz2
 go_enter Tryz.func145, Tryz.ntmps145
 go_wp2_with (first | (go_at_call 102; (with_reducible refine (HI.out _).mono ?_); rintro e w1 ⟨rfl, hww⟩; subst hww) | (go_at_call 101; (with_reducible refine (HN.out _).mono ?_); rintro e w1 ⟨rfl, hww⟩; subst hww) | (go_at_call 195; (with_reducible refine (HZ.out _).mono ?_); rintro e w1 ⟨rfl, hww⟩; subst hww))
 go_ret
 exact ⟨rfl, rfl⟩
theorem rg_parts {m : Nat} {e : Int} (hm : m ≠ 0) (h : m < 9007199254740992) (h1 : -1022 ≤ e + m.log2) (h2 : e + m.log2 ≤ 1023) :
 4503599627370496 ≤ rg64 m e ∧ rg64 m e < 9218868437227405312 ∧ rg64 m e / 4503599627370496 = (e + m.log2 + 1023).toNat ∧ rg64 m e % 4503599627370496 = m * 2 ^ (52 - m.log2) - 4503599627370496 := by
 obtain ⟨n1, n2⟩ := norm53 hm h
 unfold rg64
 rw [if_neg hm]
 generalize m * 2 ^ (52 - m.log2) = M at *
 omega
/-- Ldexp at a positive number. -/
theorem ldexp_calls {m : Nat} {e0 e : Int} (hm : m ≠ 0) (h : m < 9007199254740992) (h1 : -1022 ≤ e0 + m.log2) (h2 : e0 + m.log2 ≤ 1023) (h3 : -1022 ≤ e0 + e + m.log2) (h4 : e0 + e + m.log2 ≤ 1023) (w : World) :
 Calls Tryz.prog 78 #[.float .f64 (rg64 m e0), .int .i64 e] w fun e' w' => e' = .returned (.float .f64 (rg64 m (e0 + e))) ∧ w' = w := by
 obtain ⟨a1, a2, a3, a4⟩ := rg_parts hm h h1 h2
 obtain ⟨n1, n2⟩ := norm53 hm h
 have HL : Aside0 (∀ w, Calls Tryz.prog 145 #[.float .f64 (rg64 m e0), .int .i64 e] w fun e' w' => e' = .returned (.float .f64 (rg64 m (e0 + e))) ∧ w' = w) := ⟨fun w => by
  refine ldexp_any (G := (e0 + e + m.log2 + 1023).toNat) a1 a2 a3 a4 (by omega) (by omega) (by omega) ?_ w
  unfold rg64
  rw [if_neg hm]⟩
 clear a1 a2 a3 a4 n1 n2
 generalize rg64 m e0 = x at *
 generalize rg64 m (e0 + e) = y at *
 clear h1 h2 h3 h4 h hm
 go_enter Tryz.func78, Tryz.ntmps78
 go_wp2_with (go_at_call 145; (with_reducible refine (HL.out _).mono ?_); rintro e' w1 ⟨rfl, hww⟩; subst hww)
 go_ret
 exact ⟨rfl, rfl⟩
theorem ldexp_zero (e : Int) (w : World) : Calls Tryz.prog 78 #[.float .f64 0, .int .i64 e] w fun e' w' => e' = .returned (.float .f64 0) ∧ w' = w := by
 have ho := ordz (r := 0) (by decide)
 rw [decide_eq_true rfl] at ho
 have HL : Aside0 (∀ w, Calls Tryz.prog 145 #[.float .f64 0, .int .i64 e] w fun e' w' => e' = .returned (.float .f64 0) ∧ w' = w) := ⟨fun w => by
  go_enter Tryz.func145, Tryz.ntmps145
  go_wp2_with fail
  go_ret
  exact ⟨rfl, rfl⟩⟩
 clear ho
 go_enter Tryz.func78, Tryz.ntmps78
 go_wp2_with (go_at_call 145; (with_reducible refine (HL.out _).mono ?_); rintro e' w1 ⟨rfl, hww⟩; subst hww)
 go_ret
 exact ⟨rfl, rfl⟩
/-- Frexp at a finite number that is not negative: the significand's word and the exponent. -/
def frW (r : Nat) : Nat := if r = 0 then 0 else rg64 (exm r) (-53)
def frE (r : Nat) : Int := if r = 0 then 0 else exe r + 53
theorem exm_range {r : Nat} (h : r < 9218868437227405312) (h0 : r ≠ 0) : 4503599627370496 ≤ exm r ∧ exm r < 9007199254740992 := by
 unfold exm
 rw [if_neg h0]
 have hs : sg64 r ≠ 0 := fun e => h0 (sg64_zero.1 e)
 exact norm53 hs (sg64_lt r)
theorem frW_eq {r : Nat} (h : r < 9218868437227405312) (h0 : r ≠ 0) : frW r = 1022 * 4503599627370496 + (exm r - 4503599627370496) := by
 obtain ⟨e1, e2⟩ := exm_range h h0
 have e3 : (exm r).log2 = 52 := log2_52 e1 e2
 unfold frW rg64
 rw [if_neg h0, if_neg (by omega), e3, Nat.sub_self, Nat.pow_zero, Nat.mul_one]
 rfl
theorem frexp_word {r : Nat} (h : r < 9218868437227405312) (h0 : r ≠ 0) (w : World) :
 Calls Tryz.prog 184 #[.float .f64 r] w fun e w' => e = .returned (.tuple #[.float .f64 (frW r), .int .i64 (frE r)]) ∧ w' = w := by
 have hW := frW_eq h h0
 have hE : frE r = exe r + 53 := by unfold frE; rw [if_neg h0]
 by_cases hs : r < 4503599627370496
 ·have s1 : sg64 r = r := by unfold sg64; rw [if_pos hs]
  have s2 : pl64 r = -1074 := by unfold pl64; rw [if_pos hs]
  have hl := log2_lt53 h0 (by omega : r < 9007199254740992)
  obtain ⟨a1, a2, a3, a4⟩ := rg_parts (m := r) (e := -1022) h0 (by omega) (by omega) (by omega)
  have hd : dbl false r (-1022) = rg64 r (-1022) := by rw [(dbl_rg (s := false) (m := r) (e := -1022) (by omega) (by omega) (by omega)).1, s64f]
  have hz := fun w => subnormal_calls hs w
  rw [hd] at hz
  refine (frexp_any h h0 ⟨hz⟩ a2 (by omega) (by omega) a3 a4 rfl w).mono ?_
  rintro e w' ⟨rfl, rfl⟩
  have hm : exm r = r * 2 ^ (52 - r.log2) := by unfold exm; rw [if_neg h0, s1]
  have he : exe r = -1074 - (52 - r.log2 : Nat) := by unfold exe; rw [if_neg h0, s1, s2]
  rw [hW, hE, hm, he]
  rw [show (-52 : Int) + (((-1022 + (r.log2 : Int) + 1023).toNat : Int) - 1023 + 1) = -1074 - ((52 - r.log2 : Nat) : Int) + 53 by omega]
  exact ⟨rfl, rfl⟩
 ·have s1 : sg64 r = 4503599627370496 + r % 4503599627370496 := by unfold sg64; rw [if_neg hs]
  have s2 : pl64 r = (r / 4503599627370496 : Nat) - 1075 := by unfold pl64; rw [if_neg hs]
  have s3 : (sg64 r).log2 = 52 := log2_52 (by omega) (by omega)
  refine (frexp_any h h0 ⟨fun w => normal_calls (by omega) h w⟩ h (by omega) (by omega) rfl rfl rfl w).mono ?_
  rintro e w' ⟨rfl, rfl⟩
  have hm : exm r = 4503599627370496 + r % 4503599627370496 := by unfold exm; rw [if_neg h0, s3, Nat.sub_self, Nat.pow_zero, Nat.mul_one, s1]
  have he : exe r = (r / 4503599627370496 : Nat) - 1075 := by unfold exe; rw [if_neg h0, s3, Nat.sub_self, s2]; omega
  rw [hW, hE, hm, he, Nat.add_sub_cancel_left]
  rw [show (0 : Int) + (((r / 4503599627370496 : Nat) : Int) - 1023 + 1) = ((r / 4503599627370496 : Nat) : Int) - 1075 + 53 by omega]
  exact ⟨rfl, rfl⟩
theorem frexp_calls {r : Nat} (h : r < 9218868437227405312) (w : World) :
 Calls Tryz.prog 130 #[.float .f64 r] w fun e w' => e = .returned (.tuple #[.float .f64 (frW r), .int .i64 (frE r)]) ∧ w' = w := by
 have HL : Aside0 (∀ w, Calls Tryz.prog 184 #[.float .f64 r] w fun e w' => e = .returned (.tuple #[.float .f64 (frW r), .int .i64 (frE r)]) ∧ w' = w) := by
  by_cases h0 : r = 0
  ·subst h0
   have ho := ordz (r := 0) (by decide)
   rw [decide_eq_true rfl] at ho
   rw [show frW 0 = 0 from rfl, show frE 0 = 0 from rfl]
   refine ⟨fun w => ?_⟩
   go_enter Tryz.func184, Tryz.ntmps184
   go_wp2_with fail
   go_ret2
   exact ⟨rfl, rfl⟩
  ·exact ⟨fun w => frexp_word h h0 w⟩
 clear h
 generalize frW r = x at *
 generalize frE r = y at *
 go_enter Tryz.func130, Tryz.ntmps130
 go_wp2_with (go_at_call 184; (with_reducible refine (HL.out _).mono ?_); rintro e' w1 ⟨rfl, hww⟩; subst hww)
 go_ret2
 exact ⟨rfl, rfl⟩
theorem exm_lt {r : Nat} (h : r < 9218868437227405312) : exm r < 9007199254740992 := by
 by_cases h0 : r = 0
 ·subst h0; decide
 ·exact (exm_range h h0).2
theorem exe_range {r : Nat} (h : r < 9218868437227405312) : -1200 ≤ exe r ∧ exe r ≤ 1000 := by
 unfold exe
 split
 ·omega
 ·have h1 := pl64_ge r
  have h2 := pl64_le h
  have h3 : (52 - (sg64 r).log2 : Nat) ≤ 52 := Nat.sub_le _ _
  omega
/-- The word of the significand, made whole. -/
def ldW (r : Nat) : Nat := if r = 0 then 0 else rg64 (exm r) 0
theorem ldw_calls {r : Nat} (h : r < 9218868437227405312) (w : World) : Calls Tryz.prog 78 #[.float .f64 (frW r), .int .i64 53] w fun e' w' => e' = .returned (.float .f64 (ldW r)) ∧ w' = w := by
 unfold frW ldW
 by_cases h0 : r = 0
 ·rw [if_pos h0, if_pos h0]
  exact ldexp_zero 53 w
 ·rw [if_neg h0, if_neg h0]
  obtain ⟨e1, e2⟩ := exm_range h h0
  have e3 : (exm r).log2 = 52 := log2_52 e1 e2
  exact ldexp_calls (m := exm r) (e0 := -53) (e := 53) (by omega) e2 (by omega) (by omega) (by omega) (by omega) w
theorem ldw_int {r : Nat} (h : r < 9218868437227405312) : floatToIntVal .f64 (ldW r) .u64 = some (exm r : Int) := by
 have key : ∀ {x m : Nat}, m < 9007199254740992 → double.read x = .number false m 0 → floatToIntVal .f64 x .u64 = some (m : Int) := fun {x m} hm hx => by
  unfold floatToIntVal
  have : (FloatKind.f64.decode x).toInt .zero = some (m : Int) := by
   show (double.read x).toInt .zero = _
   rw [hx]
   unfold Datum.toInt Datum.integral
   show some (signed false (Toward.cut .zero false (m <<< (0 : Int).toNat) (-(0 : Int)).toNat) 0) = _
   rw [show (m <<< (0 : Int).toNat : Nat) = m from rfl]
   unfold Toward.cut signed
   simp
  rw [this]
  simp only []
  rw [if_pos]
  exact ⟨by show (0 : Int) ≤ _; omega, by show _ ≤ (18446744073709551615 : Int); omega⟩
 unfold ldW
 by_cases h0 : r = 0
 ·subst h0
  decide
 ·rw [if_neg h0]
  obtain ⟨e1, e2⟩ := exm_range h h0
  have e3 : (exm r).log2 = 52 := log2_52 e1 e2
  have hr := read_dbl (s := false) (m := exm r) (e := 0) e2 (by omega) (by omega)
  obtain ⟨s1, s2⟩ := rg_sig (m := exm r) (e := 0) (by omega) e2 (by omega)
  rw [(dbl_rg (s := false) e2 (by omega) (by omega)).1, s64f, s1, s2, e3, Nat.sub_self, Nat.pow_zero, Nat.mul_one] at hr
  exact key e2 hr
theorem ord_neg (s : Bool) {r : Nat} (h : r < 9218868437227405312) : (FloatKind.f64.format.order (S64 s + r) 0 == some .lt) = (s && decide (r ≠ 0)) := by
 show (double.order (S64 s + r) 0 == _) = _
 rw [ord_zero h]
 by_cases h0 : r = 0
 ·rw [if_pos h0, h0]; cases s <;> rfl
 ·rw [if_neg h0, decide_eq_true h0]; cases s <;> rfl
/-- What exactly's own variables hold. -/
structure EX (w W1 : World) (sg : Bool) (A : Option Addr) (k c m : Nat) (W : World) : Prop where
 out : QF W (W1.heap.size + 1) sg A k c (some ⟨W1.heap.size, 0, none⟩) 1 1
 res : QF W w.heap.size false none 0 0 none 0 0
 n2 : N2 W A k c m (some ⟨W1.heap.size, 0, none⟩) 1 1 1
 bl : Below w.heap.size w W
 lt : w.heap.size < W1.heap.size
theorem ex_start {w W1 : World} {sg : Bool} {A : Option Addr} {k c m : Nat} (hb : Below (w.alloc (.cells #[.bool false, .slice none 0 0, .slice none 0 0] 102)).heap.size (w.alloc (.cells #[.bool false, .slice none 0 0, .slice none 0 0] 102)) W1) (hm : NN W1 A k c m) :
 EX w W1 sg A k c m ((W1.alloc (.cells #[.int .u32 1] 22)).alloc (.cells #[.bool sg, .slice A k c, .slice (some ⟨W1.heap.size, 0, none⟩) 1 1] 102)) := by
 have h1 := below_alloc (Below.refl W1.heap.size W1) (.cells #[.int .u32 1] 22)
 have h2 := below_alloc h1 (.cells #[.bool sg, .slice A k c, .slice (some ⟨W1.heap.size, 0, none⟩) 1 1] 102)
 have hs : w.heap.size + 1 ≤ W1.heap.size := by have := hb.size; simpa using this
 have r0 := (QF.new w w.heap.size rfl false none 0 0 none 0 0).below hb
 refine ⟨QF.new _ _ (by simp) _ _ _ _ _ _ _, r0.below h2, ⟨hm.below h2, ?_⟩, ?_, by omega⟩
 ·exact (nn_one W1 _).below (below_alloc (Below.refl _ _) _)
 ·exact (below_alloc (Below.refl w.heap.size w) _).trans ((hb.mono (by simp)).trans (h2.mono (by omega)))
theorem exactly_calls (s : Bool) {r : Nat} (h : r < 9218868437227405312) (w : World) :
 Calls Tryz.prog 64 #[.float .f64 (S64 s + r)] w fun e w' => QX w (s && decide (r ≠ 0)) (vp (exm r) (exe r)) (vq (exe r)) e w' := by
 have HA := Aside0.mk (abs_calls (s := s) (r := r) (by omega))
 have HF := Aside0.mk (frexp_calls h)
 have HL := Aside0.mk (ldw_calls h)
 have hcv := fun w : World => run_convert_float_int (P := Tryz.prog) w 65 53 .f64 .u64 _ _ rfl Tryz.underlying53 (ldw_int h)
 have hlt := exm_lt h
 have HS := Aside0.mk (fun W => small_calls32 (n := exm r) (by omega) W)
 have ho := ord_neg s h
 have he := exe_range h
 have hfe : frE r - 53 = exe r := by
  unfold frE
  by_cases h0 : r = 0
  ·rw [if_pos h0, h0]; rfl
  ·rw [if_neg h0]; omega
 obtain ⟨E, hE⟩ : ∃ E, exe r = E := ⟨_, rfl⟩
 rw [hE] at he hfe ⊢
 have v1 : IntKind.i64.wrap (frE r - 53) = E := (IntWalk.i64_in _ (by omega)).trans hfe
 have hms : Sz 60 (exm r) := ⟨Nat.lt_of_lt_of_le hlt (by decide)⟩
 clear h hlt hE hfe
 obtain ⟨P, hP⟩ : ∃ P, vp (exm r) E = P := ⟨_, rfl⟩
 obtain ⟨Q, hQ⟩ : ∃ Q, vq E = Q := ⟨_, rfl⟩
 rw [hP, hQ]
 generalize S64 s + r = x at *
 generalize frW r = fw at *
 generalize frE r = fe at *
 generalize ldW r = lw at *
 generalize exm r = m at *
 generalize (s && decide (r ≠ 0)) = sg at *
 have HP := Aside0.mk hP
 have HQ := Aside0.mk hQ
 clear hP hQ
 unfold RF at *
 go_enter Tryz.func64, Tryz.ntmps64
 go_upto_region 5 with (first | (go_at_call 131; (with_reducible refine (HA.out _).mono ?_); rintro e w1 ⟨rfl, hww⟩; subst hww) | (go_at_call 130; (with_reducible refine (HF.out _).mono ?_); rintro e w1 ⟨rfl, hww⟩; subst hww) | (go_at_call 78; (with_reducible refine (HL.out _).mono ?_); rintro e w1 ⟨rfl, hww⟩; subst hww) | (go_at_call 132; (with_reducible refine (HS.out _).mono ?_); rintro e W1 ⟨A, k, c, rfl, hm, hb1, _⟩; have HM := Aside0.mk hm; have HB := Aside0.mk hb1; clear hm hb1))
 have HO : Aside0 (EX w W1 sg A k c m ((W1.alloc (.cells #[.int .u32 1] 22)).alloc (.cells #[.bool sg, .slice A k c, .slice (some ⟨W1.heap.size, 0, none⟩) 1 1] 102))) := ⟨ex_start HB.out HM.out⟩
 obtain ⟨W3, hW3⟩ : ∃ W3, ((W1.alloc (.cells #[.int .u32 1] 22)).alloc (.cells #[.bool sg, .slice A k c, .slice (some ⟨W1.heap.size, 0, none⟩) 1 1] 102)) = W3 := ⟨_, rfl⟩
 rw [hW3] at HO ⊢
 clear hW3
 have q1 := HO.out.out.cell1
 have q2 := HO.out.out.cell2
 have q3 := HO.out.out.fr 1
 have q4 := HO.out.out.fr 2
 rcases Int.lt_or_le E 0 with hneg | hpos
 ·obtain ⟨n, rfl⟩ : ∃ n : Nat, E = -(n : Int) := ⟨(-E).toNat, by omega⟩
  have e1 : P = m := by rw [← HP.out]; unfold vp; rw [show (-(n : Int)).toNat = 0 by omega]; omega
  have e2 : 1 * 2 ^ n = Q := by rw [← HQ.out]; unfold vq; rw [show (- -(n : Int)).toNat = n by omega]; omega
  have HE := Aside0.mk e1
  have d1 : decide (-(n : Int) < 0) = true := decide_eq_true hneg
  have v2 : IntKind.i64.wrap (- -(n : Int)) = (n : Int) := by rw [Int.neg_neg]; exact IntWalk.i64_in _ (by omega)
  have HSH := Aside0.mk (shl_calls HO.out.n2.m2 (by decide) n (by omega))
  rw [e2] at HSH
  clear e1 e2 he hneg v1 HP HQ
  unfold RF at *
  generalize -(n : Int) = E at *
  go_upto_region 8 with (go_at_call 133; (with_reducible refine HSH.out.mono ?_); rintro e W4 ⟨A5, k5, c5, rfl, hm, hb1, _⟩; have HM5 := Aside0.mk hm; have HB5 := Aside0.mk hb1; have HO4 := Aside0.mk (HO.out.out.below hb1); clear hm hb1 q1 q2 q3 q4; have q1 := HO4.out.cell1; have q2 := HO4.out.cell2; have q3 := HO4.out.fr 1; have q4 := HO4.out.fr 2)
  obtain ⟨W5, hW5⟩ : ∃ W5, W4.setCell ⟨W1.heap.size + 1, 2, none⟩ (.slice A5 k5 c5) = W5 := ⟨_, rfl⟩
  have HR : Aside0 (QF W5 (W1.heap.size + 1) sg A k c A5 k5 c5 ∧ QF W5 w.heap.size false none 0 0 none 0 0 ∧ N2 W5 A k c P A5 k5 c5 Q ∧ Below w.heap.size w W5) := ⟨by
   have hl := HO.out.lt
   subst hW5
   have n1 := HO.out.n2.m1.below HB5.out
   have n2 := HO.out.n2.m2.below HB5.out
   exact ⟨HO4.out.s2 _ _ _, (HO.out.res.below HB5.out).other (by omega) 2 _, ⟨HO4.out.nn (by rw [HE.out]; exact n1) 2 _, HO4.out.nn HM5.out 2 _⟩, (HO.out.bl.trans (HB5.out.mono HO.out.bl.size)).setCell (p := ⟨W1.heap.size + 1, 2, none⟩) (by show w.heap.size ≤ W1.heap.size + 1; omega) _⟩⟩
  rw [hW5]
  clear hW5 q1 q2 q3 q4
  have q0 := HR.out.1.cell0
  have q1 := HR.out.1.cell1
  have q2 := HR.out.1.cell2
  have q3 := HR.out.2.1.cell0
  have q4 := HR.out.2.1.cell1
  have q5 := HR.out.2.1.cell2
  have q6 := HR.out.2.1.fr 0
  have q7 := HR.out.2.1.fr 1
  have q8 := HR.out.2.1.fr 2
  go_wp2
  exact q_ret Tryz.results64 rfl HR.out.2.1.put3 ⟨_, _, _, _, _, _, rfl, N2.put3 HR.out.2.1 HR.out.2.2.1, below_put3 HR.out.2.2.2 (Nat.le_refl _)⟩
 ·obtain ⟨n, rfl⟩ : ∃ n : Nat, E = (n : Int) := ⟨E.toNat, by omega⟩
  have e1 : m * 2 ^ n = P := by rw [← HP.out]; unfold vp; rw [show ((n : Int)).toNat = n by omega]
  have e2 : Q = 1 := by rw [← HQ.out]; unfold vq; rw [show (-(n : Int)).toNat = 0 by omega]
  have HE := Aside0.mk e2
  have d1 : decide ((n : Int) < 0) = false := decide_eq_false (by omega)
  have HSH := Aside0.mk (shl_calls HO.out.n2.m1 (Nat.le_trans (HO.out.n2.m1.sz hms) (by omega)) n (by omega))
  rw [e1] at HSH
  clear e1 e2 he v1 HP HQ
  unfold RF at *
  go_upto_region 8 with (go_at_call 133; (with_reducible refine HSH.out.mono ?_); rintro e W4 ⟨A5, k5, c5, rfl, hm, hb1, _⟩; have HM5 := Aside0.mk hm; have HB5 := Aside0.mk hb1; have HO4 := Aside0.mk (HO.out.out.below hb1); clear hm hb1 q1 q2 q3 q4; have q1 := HO4.out.cell1; have q2 := HO4.out.cell2; have q3 := HO4.out.fr 1; have q4 := HO4.out.fr 2)
  obtain ⟨W5, hW5⟩ : ∃ W5, W4.setCell ⟨W1.heap.size + 1, 1, none⟩ (.slice A5 k5 c5) = W5 := ⟨_, rfl⟩
  have HR : Aside0 (QF W5 (W1.heap.size + 1) sg A5 k5 c5 (some ⟨W1.heap.size, 0, none⟩) 1 1 ∧ QF W5 w.heap.size false none 0 0 none 0 0 ∧ N2 W5 A5 k5 c5 P (some ⟨W1.heap.size, 0, none⟩) 1 1 Q ∧ Below w.heap.size w W5) := ⟨by
   have hl := HO.out.lt
   subst hW5
   have n1 := HO.out.n2.m1.below HB5.out
   have n2 := HO.out.n2.m2.below HB5.out
   exact ⟨HO4.out.s1 _ _ _, (HO.out.res.below HB5.out).other (by omega) 1 _, ⟨HO4.out.nn HM5.out 1 _, HO4.out.nn (by rw [HE.out]; exact n2) 1 _⟩, (HO.out.bl.trans (HB5.out.mono HO.out.bl.size)).setCell (p := ⟨W1.heap.size + 1, 1, none⟩) (by show w.heap.size ≤ W1.heap.size + 1; omega) _⟩⟩
  rw [hW5]
  clear hW5 q1 q2 q3 q4
  have q0 := HR.out.1.cell0
  have q1 := HR.out.1.cell1
  have q2 := HR.out.1.cell2
  have q3 := HR.out.2.1.cell0
  have q4 := HR.out.2.1.cell1
  have q5 := HR.out.2.1.cell2
  have q6 := HR.out.2.1.fr 0
  have q7 := HR.out.2.1.fr 1
  have q8 := HR.out.2.1.fr 2
  go_wp2
  exact q_ret Tryz.results64 rfl HR.out.2.1.put3 ⟨_, _, _, _, _, _, rfl, N2.put3 HR.out.2.1 HR.out.2.2.1, below_put3 HR.out.2.2.2 (Nat.le_refl _)⟩
/-- What nearest answers. -/
def nrW (s : Bool) (p q : Nat) : Nat := (near s p q).getD 0
def nrE (s : Bool) (p q : Nat) : Int := if (near s p q).isSome then 0 else 3
def NrO (w : World) (s : Bool) (p q : Nat) (e : Ending) (w' : World) : Prop := e = .returned (.tuple #[.float .f32 (nrW s p q), .int .i64 (nrE s p q)]) ∧ Below w.heap.size w w'
theorem float_nat {m : Nat} (h : m < 9007199254740992) : floatOfInt .f64 (m : Int) = rg64 m 0 := by
 show double.nearest (decide ((m : Int) < 0)) (m : Int).natAbs 0 = _
 rw [decide_eq_false (by omega), Int.natAbs_natCast]
 by_cases hm : m = 0
 ·subst hm; decide
 ·have hl := log2_lt53 hm h
  have := (dbl_rg (s := false) (m := m) (e := 0) h (by omega) (by omega)).1
  rw [s64f] at this
  exact this
theorem small_limb {W : World} {A : Option Addr} {k c d : Nat} (h : NN W A k c d) (h0 : 0 < d) (h1 : d < UU) : k = 1 ∧ ∃ b, A = some ⟨b, 0, none⟩ ∧ W.cell? ⟨b, 0, none⟩ = some (.int .u32 (d : Int)) ∧ b < W.heap.size := by
 have e : dg UU d = [d] := dg_one UU1 h0 h1
 have hk : k = 1 := by rw [← h.len, e]; rfl
 subst hk
 obtain ⟨b, rfl, hlt, hc⟩ := h.addr (by omega)
 have := hc 0 (by omega)
 rw [e] at this
 exact ⟨rfl, b, rfl, this, hlt⟩
theorem xor63 {r : Nat} (h : r < 2 ^ 63) : r ^^^ 2 ^ 63 = 2 ^ 63 + r := by
 have h4 := Nat.two_pow_add_eq_or_of_lt h 1
 rw [Nat.mul_one] at h4
 rw [h4]
 apply Nat.eq_of_testBit_eq
 intro i
 rw [Nat.testBit_xor, Nat.testBit_or, Nat.testBit_two_pow]
 by_cases hi : 63 = i
 ·subst hi; rw [Nat.testBit_lt_two_pow h]; rfl
 ·simp [hi]
theorem neg_word {r : Nat} (h : r < 9223372036854775808) : Op.negFloat .f64 r = S64 true + r := by
 have h2 := xor63 (r := r) (by simpa using h)
 have h3 : (2 : Nat) ^ 63 = 9223372036854775808 := by decide
 unfold Op.negFloat S64
 rw [show FloatKind.f64.format.exponentBits + FloatKind.f64.format.fractionBits = 63 from rfl, h2, h3, if_pos rfl]
theorem near_zero {s : Bool} {p q : Nat} (h : rm p q = 0) : nrW s p q = 0 ∧ nrE s p q = 0 := by
 unfold nrW nrE near; rw [if_pos h]; exact ⟨rfl, rfl⟩
theorem near_big {s : Bool} {p q : Nat} (h : rm p q ≠ 0) (h2 : (wid (rm p q) : Int) + expE p q > 128) : nrW s p q = 0 ∧ nrE s p q = 3 := by
 unfold nrW nrE near; rw [if_neg h, if_pos h2]; exact ⟨rfl, rfl⟩
/-- A fraction with a nearest float32: its word, and the word of Ldexp's answer. -/
theorem near_fits {s : Bool} {p q : Nat} (hq : 0 < q) (h : rm p q ≠ 0) (h2 : ¬ (wid (rm p q) : Int) + expE p q > 128) :
 nrE s p q = 0 ∧ floatToFloatBits .f64 (S64 s + rg64 (rm p q) (expE p q)) .f32 = some (nrW s p q) ∧ expE p q + (rm p q).log2 ≤ 1023 := by
 have hn : near s p q = some (S32 s + ((expE p q + 149).toNat * 8388608 + rm p q)) := by
  unfold near S32; rw [if_neg h, if_neg h2]
 have hlt := near_lt hq hn
 have hs := near_lt hq (show near false p q = some (S32 false + ((expE p q + 149).toNat * 8388608 + rm p q)) by unfold near S32; rw [if_neg h, if_neg h2])
 have hw : wid (rm p q) = (rm p q).log2 + 1 := by unfold wid; rw [if_neg h]
 have a1 := expE_low p q
 have a2 := rm_le (p := p) hq
 refine ⟨by unfold nrE; rw [hn]; rfl, ?_, by omega⟩
 have key : (expE p q + 149).toNat * 8388608 + rm p q < 2139095040 := by
  have h3 := hs.1
  have h4 : S32 false = 0 := rfl
  rw [h4, Nat.zero_add] at h3
  have h5 := log2_24 a2
  have h6 : expE p q + 149 ≤ 277 := by omega
  by_cases h7 : -149 < expE p q
  ·have h8 := rm_ge hq h7
   have h9 : 23 ≤ (rm p q).log2 := (Nat.le_log2 h).2 (by simpa using h8)
   omega
  ·have h8 : (expE p q + 149).toNat = 0 := by omega
   rw [h8]; omega
 have h9 : nrW s p q = S32 s + ((expE p q + 149).toNat * 8388608 + rm p q) := by unfold nrW; rw [hn, Option.getD_some]
 rw [h9]
 have h10 : 8388608 ≤ rm p q ∨ expE p q = -149 := by
  by_cases h7 : -149 < expE p q
  ·exact .inl (rm_ge hq h7)
  ·exact .inr (by omega)
 clear h9 hn hlt hs hq h2
 generalize rm p q = M at *
 generalize expE p q = E at *
 have h11 := d2f s a2 a1 h10 key
 have h12 := (dbl_rg (s := s) (m := M) (e := E) (by omega) (by omega) (by have := log2_24 a2; omega)).1
 rw [h12] at h11
 exact h11
/-- What nearest's own variables hold. -/
structure NE (w : World) (b : Nat) (s : Bool) (A1 : Option Addr) (L1 c1 : Nat) (A2 : Option Addr) (L2 c2 : Nat) (A : Option Addr) (k c M : Nat) (E : Int) (W : World) : Prop where
 sc : SF W b A k c E
 box : QF W w.heap.size s A1 L1 c1 A2 L2 c2
 m : NN W A k c M
 bl : Below w.heap.size w W
 lt : b < W.heap.size
theorem ne_start {w W1 : World} {s : Bool} {A1 A2 A : Option Addr} {L1 c1 L2 c2 k c M : Nat} {E : Int} (hb : Below (w.alloc (.cells #[.bool s, .slice A1 L1 c1, .slice A2 L2 c2] 102)).heap.size (w.alloc (.cells #[.bool s, .slice A1 L1 c1, .slice A2 L2 c2] 102)) W1) (hm : NN W1 A k c M) :
 NE w W1.heap.size s A1 L1 c1 A2 L2 c2 A k c M E (W1.alloc (.cells #[.slice A k c, .int .i64 E] 177)) := by
 have h1 := below_alloc (Below.refl W1.heap.size W1) (.cells #[.slice A k c, .int .i64 E] 177)
 have hs : w.heap.size + 1 ≤ W1.heap.size := by have := hb.size; simpa using this
 refine ⟨heap_alloc_new _ _, ((QF.new w w.heap.size rfl s A1 L1 c1 A2 L2 c2).below hb).below h1, hm.below h1, ?_, by simp⟩
 exact (below_alloc (Below.refl w.heap.size w) _).trans ((hb.mono (by simp)).trans (h1.mono (by omega)))
theorem nearest_calls {w : World} {s : Bool} {A1 A2 : Option Addr} {L1 c1 L2 c2 p q : Nat} (h : N2 w A1 L1 c1 p A2 L2 c2 q) (hp : Sz 90000 p) (hq : Sz 90000 q) (h0 : 0 < q) :
 Calls Tryz.prog 65 #[qV s A1 L1 c1 A2 L2 c2] w fun e w' => NrO w s p q e w' := by
 have HRD : Aside0 (∀ W, Below w.heap.size w W → Calls Tryz.prog 134 #[qV s A1 L1 c1 A2 L2 c2] W fun e w' => RoO W (rm p q) (expE p q) e w') := ⟨fun W hb => rounded_calls (h.below hb) hp hq h0⟩
 have hrm := rm_le (p := p) h0
 have HWD : Aside0 (∀ W A k c, NN W A k c (rm p q) → Calls Tryz.prog 135 #[.slice A k c] W fun e w' => e = .returned (.int .i64 (wid (rm p q) : Nat)) ∧ w' = W) := ⟨fun W A k c hn => width_calls hn (Nat.le_trans (hn.sz (k := 32) ⟨by have : (2 : Nat) ^ 32 = 4294967296 := (by decide); omega⟩) (by omega))⟩
 have hww := expE_low p q
 have hwh := expE_high h0 hp
 have hwz : wid (rm p q) ≤ 25 := wid_le.2 (by have : (2 : Nat) ^ 25 = 33554432 := (by decide); omega)
 have hw0 : wid (rm p q) = 0 ↔ rm p q = 0 := by unfold wid; split <;> omega
 unfold NrO qV at *
 unfold RoO at HRD
 by_cases hz : rm p q = 0
 ·obtain ⟨z1, z2⟩ := near_zero (s := s) hz
  rw [z1, z2]
  rw [hw0.2 hz] at HWD
  clear hz z1 z2 hw0 hww hwh hwz hrm h hp hq h0
  generalize rm p q = M at *
  generalize expE p q = E at *
  go_enter Tryz.func65, Tryz.ntmps65
  go_upto_region 2 with (go_at_call 134; (with_reducible refine (HRD.out _ (by repeat (first | exact Below.refl _ _ | apply below_alloc))).mono ?_); rintro e1 W1 ⟨A, k, c, rfl, hm, hb1⟩; have HM := Aside0.mk hm; have HB := Aside0.mk hb1; clear hm hb1)
  have HN : Aside0 (NE w W1.heap.size _ A1 L1 c1 A2 L2 c2 A k c M E (W1.alloc (.cells #[.slice A k c, .int .i64 E] 177))) := ⟨ne_start HB.out HM.out⟩
  obtain ⟨W2, hW2⟩ : ∃ W2, W1.alloc (.cells #[.slice A k c, .int .i64 E] 177) = W2 := ⟨_, rfl⟩
  obtain ⟨b, hb⟩ : ∃ b, W1.heap.size = b := ⟨_, rfl⟩
  rw [hW2, hb] at HN
  rw [hW2, hb]
  clear hW2 hb
  have HM2 := Aside0.mk HN.out.m
  have q0 := HN.out.sc.cell0
  have q1 := HN.out.sc.cell1
  go_wp2_with (go_at_call 135; (with_reducible refine (HWD.out _ _ _ _ HM2.out).mono ?_); rintro e1 W4 ⟨rfl, hwq⟩; rw [hwq]; clear hwq W4)
  go_ret2
  exact ⟨rfl, HN.out.bl⟩
 ·have hz0 : wid (rm p q) ≠ 0 := fun e => hz (hw0.1 e)
  obtain ⟨x, hx⟩ : ∃ x, wid (rm p q) = x := ⟨_, rfl⟩
  rw [hx] at HWD hwz hz0
  have b0 : ((x : Int) == 0) = false := by rw [beq_eq_false_iff_ne]; omega
  have v1 : IntKind.i64.wrap ((x : Int) + expE p q) = (x : Int) + expE p q := IntWalk.i64_in _ (by omega)
  by_cases hbig : (wid (rm p q) : Int) + expE p q > 128
  ·obtain ⟨z1, z2⟩ := near_big (s := s) hz hbig
   rw [z1, z2]
   have d1 : decide (128 < (x : Int) + expE p q) = true := decide_eq_true (by omega)
   clear hz z1 z2 hw0 hww hwh hwz hrm h hp hq h0 hbig hx hz0
   generalize rm p q = M at *
   generalize expE p q = E at *
   go_enter Tryz.func65, Tryz.ntmps65
   go_upto_region 2 with (go_at_call 134; (with_reducible refine (HRD.out _ (by repeat (first | exact Below.refl _ _ | apply below_alloc))).mono ?_); rintro e1 W1 ⟨A, k, c, rfl, hm, hb1⟩; have HM := Aside0.mk hm; have HB := Aside0.mk hb1; clear hm hb1)
   have HN : Aside0 (NE w W1.heap.size _ A1 L1 c1 A2 L2 c2 A k c M E (W1.alloc (.cells #[.slice A k c, .int .i64 E] 177))) := ⟨ne_start HB.out HM.out⟩
   obtain ⟨W2, hW2⟩ : ∃ W2, W1.alloc (.cells #[.slice A k c, .int .i64 E] 177) = W2 := ⟨_, rfl⟩
   obtain ⟨b, hb⟩ : ∃ b, W1.heap.size = b := ⟨_, rfl⟩
   rw [hW2, hb] at HN
   rw [hW2, hb]
   clear hW2 hb
   have HM2 := Aside0.mk HN.out.m
   have q0 := HN.out.sc.cell0
   have q1 := HN.out.sc.cell1
   go_upto_region 4 with (go_at_call 135; (with_reducible refine (HWD.out _ _ _ _ HM2.out).mono ?_); rintro e1 W4 ⟨rfl, hwq⟩; rw [hwq]; clear hwq W4)
   have HX := Aside0.mk (And.intro HN.out.sc.cell0 HN.out.sc.cell1)
   have HA : Aside0 (Below w.heap.size w W2 ∧ W2.heap.size ≤ W2.heap.size) := ⟨HN.out.bl, Nat.le_refl _⟩
   have HW2 : Aside0 (∀ V, Below W2.heap.size W2 V → Calls Tryz.prog 135 #[.slice A k c] V fun e w' => e = .returned (.int .i64 (x : Int)) ∧ Below V.heap.size V w') := ⟨fun V hV => (HWD.out V _ _ _ (HM2.out.below hV)).mono (by rintro e w' ⟨rfl, rfl⟩; exact ⟨rfl, Below.refl _ _⟩)⟩
   have hbl := HN.out.lt
   rename_i Q' K hK
   have KP : Aside0 (∀ V, Below (W2.heap.size) W2 V → (fun V => V.cell? ⟨b, 0, none⟩ = some (.slice A k c) ∧ V.cell? ⟨b, 1, none⟩ = some (.int .i64 E) ∧ Below (W2.heap.size) W2 V) V) := ⟨fun V hBB => ⟨keepB hBB (by omega) HX.out.1, keepB hBB (by omega) HX.out.2, hBB⟩⟩
   refine wq KP fun hHeld => ?_
   refine tp 0 ?_
   try simp only [PU]
   refine tp 1 ?_
   try simp only [PU]
   refine tp 3 ?_
   try simp only [PU]
   refine tp 4 ?_
   try simp only [PU]
   refine tc 2 fun K hK => ?_
   go_simp
   (go_at_call 135; (with_reducible refine (HW2.out _ hHeld.2.2).mono ?_); rintro e wm ⟨rfl, hbq⟩)
   refine hK.out _ _ ?_ fun hHeld => ?_
   ·(first | exact KP.out _ (bKeep hbq hHeld.2.2 (by have := HA.out.2; omega)) | (refine KP.out _ ?_; repeat (first | exact hHeld.2.2 | refine Below.setCell ?_ (by first | (simp; done) | (simp; omega)) _)))
   clear hK K; try simp only [PU]
   refine tp 5 ?_
   try simp only [PU]
   refine tp 6 ?_
   try simp only [PU]
   refine wpAnyH_done (by kernel_rfl) ?_ _
   refine hK _ _ ?_
   clear hK
   go_wp2
   go_ret2
   exact ⟨rfl, HN.out.bl.trans (hHeld.2.2.mono HN.out.bl.size)⟩
  ·obtain ⟨z1, z2, z3⟩ := near_fits (s := s) h0 hz hbig
   rw [z1]
   have d1 : decide (128 < (x : Int) + expE p q) = false := decide_eq_false (by omega)
   have hcv := float_nat (m := rm p q) (by omega)
   have HLD : Aside0 (∀ w, Calls Tryz.prog 78 #[.float .f64 (rg64 (rm p q) 0), .int .i64 (expE p q)] w fun e w' => e = .returned (.float .f64 (rg64 (rm p q) (expE p q))) ∧ Below w.heap.size w w') := ⟨fun w => by
    have hl := log2_24 hrm
    refine (ldexp_calls (e0 := 0) (e := expE p q) hz (by omega) (by omega) (by omega) (by omega) (by omega) w).mono ?_
    rintro e w' ⟨rfl, rfl⟩
    rw [Int.zero_add]
    exact ⟨rfl, Below.refl _ _⟩⟩
   have hng : Op.negFloat .f64 (rg64 (rm p q) (expE p q)) = S64 true + rg64 (rm p q) (expE p q) := neg_word (by have hl := log2_24 hrm; have := (dbl_rg (s := false) (m := rm p q) (e := expE p q) (by omega) (by omega) z3).2; omega)
   have HPOS : Aside0 (0 < rm p q ∧ rm p q < UU) := ⟨by omega, by unfold UU; omega⟩
   have hfl := fun w : World => run_convert_float_float (P := Tryz.prog) w 65 24 .f64 .f32 _ _ rfl Tryz.underlying24 z2
   clear hz z1 z2 z3 hw0 hww hwh hwz hrm h hp hq h0 hbig hx hz0
   generalize rg64 (rm p q) (expE p q) = Y at *
   generalize rg64 (rm p q) 0 = Y0 at *
   generalize nrW s p q = R at *
   generalize rm p q = M at *
   generalize expE p q = E at *
   have hY : S64 false + Y = Y := s64f Y
   have hng2 : ∀ W, (Op.unary .neg (.float .f64 Y)).run Tryz.prog W = .ok (.float .f64 (S64 true + Y)) W := fun W => by rw [← hng]; rfl
   clear hng
   ·skip
    go_enter Tryz.func65, Tryz.ntmps65
    go_upto_region 2 with (go_at_call 134; (with_reducible refine (HRD.out _ (by repeat (first | exact Below.refl _ _ | apply below_alloc))).mono ?_); rintro e1 W1 ⟨A, k, c, rfl, hm, hb1⟩; have HM := Aside0.mk hm; have HB := Aside0.mk hb1; clear hm hb1)
    have HN : Aside0 (NE w W1.heap.size _ A1 L1 c1 A2 L2 c2 A k c M E (W1.alloc (.cells #[.slice A k c, .int .i64 E] 177))) := ⟨ne_start HB.out HM.out⟩
    obtain ⟨W2, hW2⟩ : ∃ W2, W1.alloc (.cells #[.slice A k c, .int .i64 E] 177) = W2 := ⟨_, rfl⟩
    obtain ⟨b, hb⟩ : ∃ b, W1.heap.size = b := ⟨_, rfl⟩
    rw [hW2, hb] at HN
    rw [hW2, hb]
    clear hW2 hb
    have HM2 := Aside0.mk HN.out.m
    have q0 := HN.out.sc.cell0
    have q1 := HN.out.sc.cell1
    go_upto_region 4 with (go_at_call 135; (with_reducible refine (HWD.out _ _ _ _ HM2.out).mono ?_); rintro e1 W4 ⟨rfl, hwq⟩; rw [hwq]; clear hwq W4)
    obtain ⟨hk, bb, hA, hcell, hblt⟩ := small_limb HM2.out HPOS.out.1 HPOS.out.2
    subst hk hA
    have HX := Aside0.mk (And.intro HN.out.sc.cell0 (And.intro HN.out.sc.cell1 (And.intro HN.out.box.cell0 hcell)))
    have HA : Aside0 (Below w.heap.size w W2 ∧ W2.heap.size ≤ W2.heap.size) := ⟨HN.out.bl, Nat.le_refl _⟩
    have HW2 : Aside0 (∀ V, Below W2.heap.size W2 V → Calls Tryz.prog 135 #[.slice (some ⟨bb, 0, none⟩) 1 c] V fun e w' => e = .returned (.int .i64 (x : Int)) ∧ Below V.heap.size V w') := ⟨fun V hV => (HWD.out V _ _ _ (HM2.out.below hV)).mono (by rintro e w' ⟨rfl, rfl⟩; exact ⟨rfl, Below.refl _ _⟩)⟩
    have hbl := HN.out.lt
    have hwl := HN.out.box.lt
    clear hcell
    rename_i Q' K hK
    have KP : Aside0 (∀ V, Below (W2.heap.size) W2 V → (fun V => V.cell? ⟨b, 0, none⟩ = some (.slice (some ⟨bb, 0, none⟩) 1 c) ∧ V.cell? ⟨b, 1, none⟩ = some (.int .i64 E) ∧ V.cell? ⟨w.heap.size, 0, none⟩ = some (.bool s) ∧ V.cell? ⟨bb, 0, none⟩ = some (.int .u32 (M : Int)) ∧ Below (W2.heap.size) W2 V) V) := ⟨fun V hBB => ⟨keepB hBB (by omega) HX.out.1, keepB hBB (by omega) HX.out.2.1, keepB hBB (by omega) HX.out.2.2.1, keepB hBB (by omega) HX.out.2.2.2, hBB⟩⟩
    refine wq KP fun hHeld => ?_
    refine tp 0 ?_
    try simp only [PU]
    refine tp 1 ?_
    try simp only [PU]
    refine tp 3 ?_
    try simp only [PU]
    refine tp 4 ?_
    try simp only [PU]
    refine tc 2 fun K hK => ?_
    go_simp
    (go_at_call 135; (with_reducible refine (HW2.out _ hHeld.2.2.2.2).mono ?_); rintro e wm ⟨rfl, hbq⟩)
    refine hK.out _ _ ?_ fun hHeld => ?_
    ·(first | exact KP.out _ (bKeep hbq hHeld.2.2.2.2 (by have := HA.out.2; omega)) | (refine KP.out _ ?_; repeat (first | exact hHeld.2.2.2.2 | refine Below.setCell ?_ (by first | (simp; done) | (simp; omega)) _)))
    clear hK K; try simp only [PU]
    refine tp 5 ?_
    try simp only [PU]
    refine tp 6 ?_
    try simp only [PU]
    refine wpAnyH_done (by kernel_rfl) ?_ _
    refine hK _ _ ?_
    clear hK
    go_upto_region 6 with fail
    rename_i K hK
    have HX := Aside0.mk (And.intro hHeld.1 (And.intro hHeld.2.1 (And.intro hHeld.2.2.1 hHeld.2.2.2.1)))
    have HA : Aside0 (Below w.heap.size w wm ∧ W2.heap.size ≤ wm.heap.size) := ⟨HN.out.bl.trans (hHeld.2.2.2.2.mono HN.out.bl.size), hHeld.2.2.2.2.size⟩
    have HA2 := Aside0.mk HN.out.bl.size
    clear hHeld
    have KP : Aside0 (∀ V, Below (W2.heap.size) wm V → (fun V => V.cell? ⟨b, 0, none⟩ = some (.slice (some ⟨bb, 0, none⟩) 1 c) ∧ V.cell? ⟨b, 1, none⟩ = some (.int .i64 E) ∧ V.cell? ⟨w.heap.size, 0, none⟩ = some (.bool s) ∧ V.cell? ⟨bb, 0, none⟩ = some (.int .u32 (M : Int)) ∧ Below (W2.heap.size) wm V) V) := ⟨fun V hBB => ⟨keepB hBB (by omega) HX.out.1, keepB hBB (by omega) HX.out.2.1, keepB hBB (by omega) HX.out.2.2.1, keepB hBB (by omega) HX.out.2.2.2, hBB⟩⟩
    refine wq KP fun hHeld => ?_
    refine tp 0 ?_
    try simp only [PU]
    refine tp 1 ?_
    try simp only [PU]
    refine tp 2 ?_
    try simp only [PU]
    refine tp 3 ?_
    try simp only [PU]
    refine tp 4 ?_
    try simp only [PU]
    refine tp 5 ?_
    try simp only [PU]
    refine tp 6 ?_
    try simp only [PU]
    refine tc 7 fun K hK => ?_
    go_simp
    (go_at_call 78; (with_reducible refine (HLD.out _).mono ?_); rintro e wn ⟨rfl, hbq⟩)
    refine hK.out _ _ ?_ fun hHeld => ?_
    ·(first | exact KP.out _ (bKeep hbq hHeld.2.2.2.2 (by have := HA.out.2; omega)) | (refine KP.out _ ?_; repeat (first | exact hHeld.2.2.2.2 | refine Below.setCell ?_ (by first | (simp; done) | (simp; omega)) _)))
    clear hK K; try simp only [PU]
    refine tp 8 ?_
    try simp only [PU]
    refine wpAnyH_done (by kernel_rfl) ?_ _
    refine hK _ _ ?_
    clear hK
    go_upto_region 7 with fail
    cases s
    ·simp only [hY] at hfl
     go_wp2
     go_ret2
     exact ⟨rfl, HA.out.1.trans (hHeld.2.2.2.2.mono HA2.out)⟩
    ·go_wp2
     go_ret2
     exact ⟨rfl, HA.out.1.trans (hHeld.2.2.2.2.mono HA2.out)⟩
theorem frac_sz {s : ByteArray} (hs : s.size ≤ 10000) (h : checkR s = 0) : Sz 40000 (numR s).natAbs ∧ Sz 40000 (denR s).natAbs ∧ 0 < (denR s).natAbs := by
 obtain ⟨k1, k2, k3, k4⟩ := checkR_ok h
 obtain ⟨z1, z2⟩ := cut_size 47 s
 have d1 := (list_of k1).1
 have d2 := (list_of k2).1
 have b1 := bodyB_size (cutA 47 s)
 have b2 := bodyB_size (cutB 47 s)
 refine ⟨?_, ?_, by omega⟩
 ·unfold numR; rw [intI_abs]
  exact (dv_sz d1).more (by have : (bodyB (cutA 47 s)).data.toList.length = (bodyB (cutA 47 s)).size := (by simp); omega)
 ·unfold denR; rw [intI_abs]
  exact (dv_sz d2).more (by have : (bodyB (cutB 47 s)).data.toList.length = (bodyB (cutB 47 s)).size := (by simp); omega)
/-- What To32 answers. -/
def toW (s : ByteArray) : Nat := if checkR s = 0 then nrW (minusB s) (numR s).natAbs (denR s).natAbs else 0
def toE (s : ByteArray) : Int := if checkR s = 0 then nrE (minusB s) (numR s).natAbs (denR s).natAbs else checkR s
theorem to32_calls (s : ByteArray) (hs : s.size ≤ 10000) (w : World) (hE : EN w) :
 Calls Tryz.prog 23 #[.string s] w fun e w' => e = .returned (.tuple #[.float .f32 (toW s), .int .i64 (toE s)]) ∧ Below w.heap.size w w' := by
 have HC := Aside0.mk (checkR_calls s (by omega) w hE)
 unfold toW toE
 by_cases h : checkR s = 0
 ·rw [if_pos h, if_pos h]
  obtain ⟨y1, y2, y3⟩ := frac_sz hs h
  have HP : Aside0 (∀ W, Below w.heap.size w W → Calls Tryz.prog 79 #[.string s] W fun e w' => QX W (minusB s) (numR s).natAbs (denR s).natAbs e w') := ⟨fun W hb => parse_calls2 s hs h W (hE.below hb)⟩
  have HN : Aside0 (∀ W A1 L1 c1 A2 L2 c2, N2 W A1 L1 c1 (numR s).natAbs A2 L2 c2 (denR s).natAbs → Calls Tryz.prog 65 #[qV (minusB s) A1 L1 c1 A2 L2 c2] W fun e w' => NrO W (minusB s) (numR s).natAbs (denR s).natAbs e w') := ⟨fun W A1 L1 c1 A2 L2 c2 hn => nearest_calls hn (y1.more (by omega)) (y2.more (by omega)) y3⟩
  rw [h] at HC
  clear h y1 y2 y3 hE hs
  unfold QX NrO at *
  generalize (numR s).natAbs = p at *
  generalize (denR s).natAbs = q at *
  generalize minusB s = z at *
  generalize nrW z p q = R at *
  generalize nrE z p q = T at *
  go_enter Tryz.func23, Tryz.ntmps23
  go_wp2_with (first
   | (go_at_call 58; (with_reducible refine HC.out.mono ?_); rintro e W1 ⟨rfl, hb1⟩; have HB := Aside0.mk hb1; clear hb1)
   | (go_at_call 79; (with_reducible refine (HP.out _ HB.out).mono ?_); rintro e W2 ⟨A1, k1, c1, A2, k2, c2, rfl, hn, hb2⟩; have HM := Aside0.mk hn; have HB2 := Aside0.mk (HB.out.trans (hb2.mono HB.out.size)); clear hn hb2)
   | (go_at_call 65; (with_reducible refine (HN.out _ _ _ _ _ _ _ HM.out).mono ?_); rintro e W3 ⟨rfl, hb3⟩; have HB3 := Aside0.mk (HB2.out.trans (hb3.mono HB2.out.size)); clear hb3))
  go_ret2
  exact ⟨rfl, HB3.out⟩
 ·rw [if_neg h, if_neg h]
  have hne : (checkR s != 0) = true := by simp [h]
  clear h hE hs
  generalize checkR s = k at *
  go_enter Tryz.func23, Tryz.ntmps23
  go_wp2_with (go_at_call 58; (with_reducible refine HC.out.mono ?_); rintro e W1 ⟨rfl, hb1⟩; have HB := Aside0.mk hb1; clear hb1)
  go_ret2
  exact ⟨rfl, HB.out⟩
/-- The word of a float32 made a float64. -/
def w32 (r : Nat) : Nat := rg64 (sg32 r) (pl32 r)
theorem w32_lt {r : Nat} (h : r < 2139095040) : w32 r < 9218868437227405312 ∧ ∀ s, floatToFloatBits .f32 (S32 s + r) .f64 = some (S64 s + w32 r) := by
 have h1 := sg32_lt r
 have h2 := pl32_ge r
 have h3 := pl32_le h
 have h4 := log2_24 (m := sg32 r) (by omega)
 refine ⟨(dbl_rg (s := false) (m := sg32 r) (e := pl32 r) (by omega) (by omega) (by omega)).2, fun s => ?_⟩
 rw [f2d s h, (dbl_rg (s := s) (m := sg32 r) (e := pl32 r) (by omega) (by omega) (by omega)).1]
 rfl
/-- The sign, the numerator and the denominator of a finite float64. -/
def exS (s : Bool) (r : Nat) : Bool := s && decide (r ≠ 0)
def exP (r : Nat) : Nat := vp (exm r) (exe r)
def exQ (r : Nat) : Nat := vq (exe r)
theorem ex_sz {r : Nat} (h : r < 9218868437227405312) : Sz 3000 (exP r) ∧ Sz 3000 (exQ r) ∧ 0 < exQ r := by
 have h1 := exm_lt h
 have h2 := exe_range h
 have h3 : Sz 60 (exm r) := ⟨Nat.lt_of_lt_of_le h1 (by decide)⟩
 unfold exP exQ vp
 refine ⟨h3.mul (sz_pow (n := (exe r).toNat) (k := 2940) (by omega)), ?_, vq_pos _⟩
 unfold vq
 exact sz_pow (by omega)
theorem from32_calls (s : Bool) {r : Nat} (h : r < 2139095040) (w : World) :
 Calls Tryz.prog 18 #[.float .f32 (S32 s + r)] w fun e w' =>
  e = .returned (.tuple #[.string (frS (sgI (exS s (w32 r)) (exP (w32 r) / Nat.gcd (exP (w32 r)) (exQ (w32 r)))) (exQ (w32 r) / Nat.gcd (exP (w32 r)) (exQ (w32 r)) : Nat)), .int .i64 0]) ∧ Below w.heap.size w w' := by
 obtain ⟨h1, h2⟩ := w32_lt h
 obtain ⟨y1, y2, y3⟩ := ex_sz h1
 have hcv := fun W : World => run_convert_float_float (P := Tryz.prog) W 24 65 .f32 .f64 _ _ rfl Tryz.underlying65 (h2 s)
 have HF := Aside0.mk (isFinite_calls (s := s) (r := w32 r) (by omega))
 rw [decide_eq_true h1] at HF
 have HX : Aside0 (∀ W, Calls Tryz.prog 64 #[.float .f64 (S64 s + w32 r)] W fun e w' => QX W (exS s (w32 r)) (exP (w32 r)) (exQ (w32 r)) e w') := ⟨fun W => exactly_calls s h1 W⟩
 have HS : Aside0 (∀ W A1 L1 c1 A2 L2 c2, N2 W A1 L1 c1 (exP (w32 r)) A2 L2 c2 (exQ (w32 r)) → Calls Tryz.prog 76 #[qV (exS s (w32 r)) A1 L1 c1 A2 L2 c2] W fun e w' =>
  e = .returned (.string (frS (sgI (exS s (w32 r)) (exP (w32 r) / Nat.gcd (exP (w32 r)) (exQ (w32 r)))) (exQ (w32 r) / Nat.gcd (exP (w32 r)) (exQ (w32 r)) : Nat))) ∧ Below W.heap.size W w') := ⟨fun W A1 L1 c1 A2 L2 c2 hn => qString_calls hn (y1.more (by omega)) (y2.more (by omega)) y3⟩
 clear h h1 h2 y1 y2 y3
 unfold QX at *
 generalize frS (sgI (exS s (w32 r)) (exP (w32 r) / Nat.gcd (exP (w32 r)) (exQ (w32 r)))) (exQ (w32 r) / Nat.gcd (exP (w32 r)) (exQ (w32 r)) : Nat) = T at *
 generalize exP (w32 r) = p at *
 generalize exQ (w32 r) = q at *
 generalize exS s (w32 r) = z at *
 generalize S64 s + w32 r = y at *
 generalize S32 s + r = x at *
 go_enter Tryz.func18, Tryz.ntmps18
 go_wp2_with (first
  | (go_at_call 63; (with_reducible refine (HF.out _).mono ?_); rintro e W1 ⟨rfl, hwq⟩; rw [hwq]; clear hwq)
  | (go_at_call 64; (with_reducible refine (HX.out _).mono ?_); rintro e W2 ⟨A1, k1, c1, A2, k2, c2, rfl, hn, hb2⟩; have HM := Aside0.mk hn; have HB2 := Aside0.mk hb2; clear hn hb2)
  | (go_at_call 76; (with_reducible refine (HS.out _ _ _ _ _ _ _ HM.out).mono ?_); rintro e W3 ⟨rfl, hb3⟩; have HB3 := Aside0.mk (HB2.out.trans (hb3.mono HB2.out.size)); clear hb3))
 go_ret2
 exact ⟨rfl, HB3.out⟩
theorem read_nan32 (s : Bool) {r : Nat} (h : 2139095040 < r) (h2 : r < 2147483648) : single.read (S32 s + r) = .nan s (r - 2139095040) := by
 unfold Format.read
 rw [ssw, sbin, sinf]
 obtain ⟨e1, e2⟩ := ssplit s h2
 simp only [e1, e2]
 rw [if_neg (by omega), if_neg (by omega), if_neg (by omega)]
theorem conv_inf (s : Bool) : floatToFloatBits .f32 (S32 s + 2139095040) .f64 = some (S64 s + 9218868437227405312) := by cases s <;> decide +kernel
/-- A NaN made a float64: the drawn word. -/
def nanW (b : Nat) (W : World) : Nat := (Question.nanConv .f64 b).cut (W.tape W.drawn (.nanConv .f64 b))
theorem nanW_is (b : Nat) (W : World) : ∃ s r, nanW b W = S64 s + r ∧ 9218868437227405312 < r ∧ r < 9223372036854775808 := by
 unfold nanW Question.cut
 simp only []
 generalize W.tape W.drawn (.nanConv .f64 b) = t
 refine ⟨decide (t % 2 = 1), 9218868437227405312 + 1 + (t / 2) % (2 ^ 52 - 1), ?_, by omega, by omega⟩
 unfold S64
 by_cases h : t % 2 = 1
 ·rw [decide_eq_true h, if_pos rfl, h]; omega
 ·rw [decide_eq_false h, if_neg (by simp), show t % 2 = 0 by omega]; omega
theorem run_conv_nan (s : Bool) {r : Nat} (h : 2139095040 < r) (h2 : r < 2147483648) (W : World) :
 (convert 24 65 (.float .f32 (S32 s + r))).run Tryz.prog W = .ok (.float .f64 (nanW (S32 s + r) W)) W.drew := by
 have he : FloatKind.f32.decode (S32 s + r) = .nan s (r - 2139095040) := read_nan32 s h h2
 have ne : ¬ FloatKind.f32 = FloatKind.f64 := by decide
 have hs : Tryz.prog.underlying 24 = some (.float .f32) := Tryz.underlying24
 have hd : Tryz.prog.underlying 65 = some (.float .f64) := Tryz.underlying65
 unfold nanW
 simp [convert, run_underlying hs, run_underlying hd, Conv.floatToFloat, ne, he, Question.forced]
/-- A float32 that is not finite, made a float64: some word that isFinite refuses; the tape may have been asked. -/
theorem conv_bad (s : Bool) {r : Nat} (h : 2139095040 ≤ r) (h2 : r < 2147483648) (W : World) :
 ∃ y Wd, (convert 24 65 (.float .f32 (S32 s + r))).run Tryz.prog W = .ok (.float .f64 y) Wd ∧ Below W.heap.size W Wd ∧ (∀ V, Calls Tryz.prog 63 #[.float .f64 y] V fun e w' => e = .returned (.bool false) ∧ w' = V) := by
 rcases Nat.eq_or_lt_of_le h with h3 | h3
 ·subst h3
  refine ⟨S64 s + 9218868437227405312, W, run_convert_float_float (P := Tryz.prog) W 24 65 .f32 .f64 _ _ rfl Tryz.underlying65 (conv_inf s), Below.refl _ _, fun V => ?_⟩
  have := isFinite_calls (s := s) (r := 9218868437227405312) (by omega) V
  rw [decide_eq_false (by omega)] at this
  exact this
 ·obtain ⟨z, t, h4, h5, h6⟩ := nanW_is (S32 s + r) W
  refine ⟨nanW (S32 s + r) W, W.drew, run_conv_nan s h3 h2 W, (Below.refl _ _).drew, fun V => ?_⟩
  have := isFinite_calls (s := z) (r := t) h6 V
  rw [decide_eq_false (by omega), ← h4] at this
  exact this
theorem conv_good (s : Bool) {r : Nat} (h : r < 2139095040) (W : World) :
 (convert 24 65 (.float .f32 (S32 s + r))).run Tryz.prog W = .ok (.float .f64 (S64 s + w32 r)) W :=
 run_convert_float_float (P := Tryz.prog) W 24 65 .f32 .f64 _ _ rfl Tryz.underlying65 ((w32_lt h).2 s)
theorem isFinite_good (s : Bool) {r : Nat} (h : r < 2139095040) (W : World) : Calls Tryz.prog 63 #[.float .f64 (S64 s + w32 r)] W fun e w' => e = .returned (.bool true) ∧ w' = W := by
 have h1 := (w32_lt h).1
 have := isFinite_calls (s := s) (r := w32 r) (by omega) W
 rw [decide_eq_true h1] at this
 exact this
theorem from32_bad (s : Bool) {r : Nat} (h : 2139095040 ≤ r) (h2 : r < 2147483648) (w : World) :
 Calls Tryz.prog 18 #[.float .f32 (S32 s + r)] w fun e w' => e = .returned (.tuple #[.string ⟨#[]⟩, .int .i64 1]) ∧ Below w.heap.size w w' := by
 obtain ⟨y, wd, hcv, hb, hf⟩ := conv_bad s h h2 w
 have HF := Aside0.mk hf
 have HB := Aside0.mk hb
 clear hf hb h h2
 generalize S32 s + r = x at *
 go_enter Tryz.func18, Tryz.ntmps18
 go_wp2_with (go_at_call 63; (with_reducible refine (HF.out _).mono ?_); rintro e W1 ⟨rfl, hwq⟩; rw [hwq]; clear hwq)
 go_ret2
 exact ⟨rfl, HB.out⟩
/-- The value of a finite float32, by its word. -/
def fvS (b : Nat) : Bool := exS (neg32 b) (w32 (b % 2147483648))
def fvP (b : Nat) : Nat := exP (w32 (b % 2147483648))
def fvQ (b : Nat) : Nat := exQ (w32 (b % 2147483648))
/-- The string of a fraction in lowest terms. -/
def fqS (s : Bool) (p q : Nat) : ByteArray := frS (sgI s (p / Nat.gcd p q)) (q / Nat.gcd p q : Nat)
def fmS (b : Nat) : ByteArray := if fin32 b = true then fqS (fvS b) (fvP b) (fvQ b) else ⟨#[]⟩
def fmE (b : Nat) : Int := if fin32 b = true then 0 else 1
theorem fv_sz {b : Nat} (h : fin32 b = true) : Sz 3000 (fvP b) ∧ Sz 3000 (fvQ b) ∧ 0 < fvQ b := ex_sz (w32_lt (of_decide_eq_true h)).1
theorem from32_any {b : Nat} (h : b < 4294967296) (w : World) :
 Calls Tryz.prog 18 #[.float .f32 b] w fun e w' => e = .returned (.tuple #[.string (fmS b), .int .i64 (fmE b)]) ∧ Below w.heap.size w w' := by
 have hs := split32 h
 unfold fmS fmE fqS fvS fvP fvQ
 by_cases hf : fin32 b = true
 ·rw [if_pos hf, if_pos hf]
  have := from32_calls (neg32 b) (r := b % 2147483648) (of_decide_eq_true hf) w
  rw [← hs] at this
  exact this
 ·rw [if_neg hf, if_neg hf]
  have h3 : ¬ b % 2147483648 < 2139095040 := fun h4 => hf (decide_eq_true h4)
  have := from32_bad (neg32 b) (r := b % 2147483648) (by omega) (Nat.mod_lt _ (by decide)) w
  rw [← hs] at this
  exact this
/-- Exactly at the float64 of a finite float32. -/
theorem exactly32 {b : Nat} (h : b < 4294967296) (hf : fin32 b = true) (w : World) : Calls Tryz.prog 64 #[.float .f64 (S64 (neg32 b) + w32 (b % 2147483648))] w fun e w' => QX w (fvS b) (fvP b) (fvQ b) e w' :=
 exactly_calls (neg32 b) (w32_lt (of_decide_eq_true hf)).1 w
/-- A fraction of a program's text: its sizes. -/
theorem Dig.sz {k : Nat} {x : Int} (h : Dig k x) : Sz (4 * k) x.natAbs := ⟨by
 have h1 : x.natAbs < 10 ^ k := h
 rw [Nat.pow_mul]
 exact Nat.lt_of_lt_of_le h1 (Nat.pow_le_pow_left (by decide) k)⟩
theorem frac_sz2 {s : ByteArray} (h : checkR s = 0) : Sz 480 (numR s).natAbs ∧ Sz 480 (denR s).natAbs ∧ 0 < (denR s).natAbs := by
 obtain ⟨d1, d2, d3⟩ := real_dig h
 exact ⟨d1.sz, d2.sz, by omega⟩
theorem to_lt (s : ByteArray) (h : toE s = 0) : toW s < 4294967296 ∧ fin32 (toW s) = true := by
 unfold toW toE at *
 by_cases hc : checkR s = 0
 ·rw [if_pos hc] at h ⊢
  obtain ⟨y1, y2, y3⟩ := frac_sz2 hc
  unfold nrE at h
  unfold nrW
  cases hn : near (minusB s) (numR s).natAbs (denR s).natAbs with
  | none => rw [hn] at h; exact absurd h (by decide)
  | some b =>
    have := near_lt y3 hn
    exact ⟨this.2, decide_eq_true this.1⟩
 ·rw [if_neg hc] at h; exact absurd h hc
theorem plN_sz {s z : Bool} {a b k : Nat} (ha : Sz k a) (hb : Sz k b) : Sz (k + 1) (plN s a z b) := by
 unfold plN
 split
 ·exact ha.add hb
 ·split
  ·exact (ha.le (Nat.sub_le _ _)).more (by omega)
  ·exact (hb.le (Nat.sub_le _ _)).more (by omega)
/-- What Error answers. -/
def erP (s : ByteArray) : Bool := plS (minusB s) ((numR s).natAbs * fvQ (toW s)) (!(fvS (toW s))) (fvP (toW s) * (denR s).natAbs)
def erN (s : ByteArray) : Nat := plN (minusB s) ((numR s).natAbs * fvQ (toW s)) (!(fvS (toW s))) (fvP (toW s) * (denR s).natAbs)
def erD (s : ByteArray) : Nat := (denR s).natAbs * fvQ (toW s)
def erS (s : ByteArray) : ByteArray := if toE s = 0 then ftS (sgI (erP s) (erN s / Nat.gcd (erN s) (erD s))) (erD s / Nat.gcd (erN s) (erD s) : Nat) else ⟨#[]⟩
def erE (s : ByteArray) : Int := if toE s = 0 then ftE (sgI (erP s) (erN s / Nat.gcd (erN s) (erD s))) (erD s / Nat.gcd (erN s) (erD s) : Nat) else toE s
theorem error_calls (s : ByteArray) (hs : s.size ≤ 10000) (w : World) (hE : EN w) :
 Calls Tryz.prog 20 #[.string s] w fun e w' => e = .returned (.tuple #[.string (erS s), .int .i64 (erE s)]) ∧ Below w.heap.size w w' := by
 have HC := Aside0.mk (to32_calls s hs w hE)
 unfold erS erE
 by_cases h : toE s = 0
 ·rw [if_pos h, if_pos h]
  have hc : checkR s = 0 := by
   by_cases hc : checkR s = 0
   ·exact hc
   ·unfold toE at h; rw [if_neg hc] at h; exact absurd h hc
  obtain ⟨y1, y2, y3⟩ := frac_sz2 hc
  obtain ⟨t1, t2⟩ := to_lt s h
  obtain ⟨z1, z2, z3⟩ := fv_sz t2
  have HP : Aside0 (∀ W, Below w.heap.size w W → Calls Tryz.prog 79 #[.string s] W fun e w' => QX W (minusB s) (numR s).natAbs (denR s).natAbs e w') := ⟨fun W hb => parse_calls2 s hs hc W (hE.below hb)⟩
  have hcv := conv_good (neg32 (toW s)) (r := toW s % 2147483648) (of_decide_eq_true t2)
  rw [← split32 t1] at hcv
  have HX := Aside0.mk (exactly32 t1 t2)
  have HM : Aside0 (∀ W A1 L1 c1 A2 L2 c2 A3 L3 c3 A4 L4 c4, N2 W A1 L1 c1 (numR s).natAbs A2 L2 c2 (denR s).natAbs → N2 W A3 L3 c3 (fvP (toW s)) A4 L4 c4 (fvQ (toW s)) → Calls Tryz.prog 80 #[qV (minusB s) A1 L1 c1 A2 L2 c2, qV (fvS (toW s)) A3 L3 c3 A4 L4 c4] W fun e w' => QX W (erP s) (erN s) (erD s) e w') :=
   ⟨fun W A1 L1 c1 A2 L2 c2 A3 L3 c3 A4 L4 c4 h1 h2 => qMinus_calls h1 h2 (y1.more (by omega)) (y2.more (by omega)) (z1.more (by omega)) (z2.more (by omega))⟩
  have u1 : Sz 4000 (erN s) := (plN_sz (k := 3480) (y1.mul z2) (z1.mul y2)).more (by omega)
  have u2 : Sz 4000 (erD s) := (y2.mul z2 (i := 3480)).more (by omega)
  have u3 : 0 < erD s := Nat.mul_pos y3 z3
  have HT : Aside0 (∀ W, Below w.heap.size w W → ∀ A1 L1 c1 A2 L2 c2, N2 W A1 L1 c1 (erN s) A2 L2 c2 (erD s) → Calls Tryz.prog 81 #[qV (erP s) A1 L1 c1 A2 L2 c2] W fun e w' => e = .returned (.tuple #[.string (ftS (sgI (erP s) (erN s / Nat.gcd (erN s) (erD s))) (erD s / Nat.gcd (erN s) (erD s) : Nat)), .int .i64 (ftE (sgI (erP s) (erN s / Nat.gcd (erN s) (erD s))) (erD s / Nat.gcd (erN s) (erD s) : Nat))]) ∧ Below W.heap.size W w') :=
   ⟨fun W hb A1 L1 c1 A2 L2 c2 hn => qText_calls hn (u1.more (by omega)) (u2.more (by omega)) u3 (hE.below hb)⟩
  rw [h] at HC
  clear h hc y1 y2 y3 t1 t2 z1 z2 z3 u1 u2 u3 hE hs
  unfold QX at *
  generalize ftS (sgI (erP s) (erN s / Nat.gcd (erN s) (erD s))) (erD s / Nat.gcd (erN s) (erD s) : Nat) = T at *
  generalize ftE (sgI (erP s) (erN s / Nat.gcd (erN s) (erD s))) (erD s / Nat.gcd (erN s) (erD s) : Nat) = TE at *
  generalize erP s = ep at *
  generalize erN s = en at *
  generalize erD s = ed at *
  generalize (numR s).natAbs = p at *
  generalize (denR s).natAbs = q at *
  generalize minusB s = z at *
  generalize toW s = x at *
  generalize fvS x = fs at *
  generalize fvP x = fp at *
  generalize fvQ x = fq at *
  generalize S64 (neg32 x) + w32 (x % 2147483648) = y at *
  go_enter Tryz.func20, Tryz.ntmps20
  go_wp2_with (first
   | (go_at_call 23; (with_reducible refine HC.out.mono ?_); rintro e W1 ⟨rfl, hb1⟩; have HB := Aside0.mk hb1; clear hb1)
   | (go_at_call 79; (with_reducible refine (HP.out _ HB.out).mono ?_); rintro e W2 ⟨A1, k1, c1, A2, k2, c2, rfl, hn, hb2⟩; have HN := Aside0.mk hn; have HB2 := Aside0.mk (HB.out.trans (hb2.mono HB.out.size)); clear hn hb2)
   | (go_at_call 64; (with_reducible refine (HX.out _).mono ?_); rintro e W3 ⟨A3, k3, c3, A4, k4, c4, rfl, hn, hb3⟩; have HN3 := Aside0.mk hn; have HN1 := Aside0.mk (HN.out.below hb3); have HB3 := Aside0.mk (HB2.out.trans (hb3.mono HB2.out.size)); clear hn hb3)
   | (go_at_call 80; (with_reducible refine (HM.out _ _ _ _ _ _ _ _ _ _ _ _ _ HN1.out HN3.out).mono ?_); rintro e W4 ⟨A5, k5, c5, A6, k6, c6, rfl, hn, hb4⟩; have HN5 := Aside0.mk hn; have HB4 := Aside0.mk (HB3.out.trans (hb4.mono HB3.out.size)); clear hn hb4)
   | (go_at_call 81; (with_reducible refine (HT.out _ HB4.out _ _ _ _ _ _ HN5.out).mono ?_); rintro e W5 ⟨rfl, hb5⟩; have HB5 := Aside0.mk (HB4.out.trans (hb5.mono HB4.out.size)); clear hb5))
  go_ret2
  exact ⟨rfl, HB5.out⟩
 ·rw [if_neg h, if_neg h]
  have hne : (toE s != 0) = true := by simp [h]
  clear h hE hs
  generalize toE s = k at *
  generalize toW s = x at *
  go_enter Tryz.func20, Tryz.ntmps20
  go_wp2_with (go_at_call 23; (with_reducible refine HC.out.mono ?_); rintro e W1 ⟨rfl, hb1⟩; have HB := Aside0.mk hb1; clear hb1)
  go_ret2
  exact ⟨rfl, HB.out⟩
/-- The unit of a finite float32, as a fraction. -/
def unP (b : Nat) : Nat := exP (rg64 1 (pl32 (b % 2147483648)))
def unQ (b : Nat) : Nat := exQ (rg64 1 (pl32 (b % 2147483648)))
theorem unQ_pos (b : Nat) : 0 < unQ b := vq_pos _
/-- The unit's string. -/
def fuS (b : Nat) : ByteArray := if fin32 b = true then fqS false (unP b) (unQ b) else ⟨#[]⟩
theorem and255 (b : Nat) (h : b < 4294967296) : bits .and .u32 ((b : Int) / 8388608) 255 = ((b % 2147483648 / 8388608 : Nat) : Int) := by
 have := u32_and_nat (b / 8388608) 255 (by omega) (by decide)
 have h2 := Nat.and_two_pow_sub_one_eq_mod (b / 8388608) 8
 simp only [Nat.reducePow, Nat.reduceSub] at h2
 rw [h2] at this
 rw [show ((b : Int) / 8388608) = ((b / 8388608 : Nat) : Int) by omega]
 rw [show (255 : Int) = ((255 : Nat) : Int) from rfl, this]
 congr 1
 omega
theorem one64 : rg64 1 0 = 4607182418800017408 := by decide
theorem unit_exp {r : Nat} : max (((r / 8388608 : Nat) : Int) - 150) (-149) = pl32 r := by unfold pl32; split <;> omega
theorem unit_good {b : Nat} (h : b < 4294967296) (hf : fin32 b = true) (w : World) :
 Calls Tryz.prog 19 #[.float .f32 b] w fun e w' => e = .returned (.tuple #[.string (fqS false (unP b) (unQ b)), .int .i64 0]) ∧ Below w.heap.size w w' := by
 have hr : b % 2147483648 < 2139095040 := of_decide_eq_true hf
 have hcv := conv_good (neg32 b) (r := b % 2147483648) hr
 rw [← split32 h] at hcv
 have HF := Aside0.mk (isFinite_good (neg32 b) (r := b % 2147483648) hr)
 have hand := and255 b h
 have hbt := run_bits32 b
 have p1 := pl32_ge (b % 2147483648)
 have p2 := pl32_le hr
 have hx : max (((b % 2147483648 / 8388608 : Nat) : Int) - 150) (-149) = pl32 (b % 2147483648) := unit_exp
 have hk : b % 2147483648 / 8388608 < 256 := by omega
 have HL := Aside0.mk (ldexp_calls (m := 1) (e0 := 0) (e := pl32 (b % 2147483648)) (by decide) (by decide) (by decide) (by decide) (by rw [show Nat.log2 1 = 0 by decide]; omega) (by rw [show Nat.log2 1 = 0 by decide]; omega))
 rw [one64, Int.zero_add] at HL
 have y0 : rg64 1 (pl32 (b % 2147483648)) < 9218868437227405312 := (dbl_rg (s := false) (m := 1) (e := pl32 (b % 2147483648)) (by decide) (by rw [show Nat.log2 1 = 0 by decide]; omega) (by rw [show Nat.log2 1 = 0 by decide]; omega)).2
 obtain ⟨y1, y2, y3⟩ := ex_sz y0
 have HX : Aside0 (∀ W, Calls Tryz.prog 64 #[.float .f64 (rg64 1 (pl32 (b % 2147483648)))] W fun e w' => QX W false (unP b) (unQ b) e w') := ⟨fun W => by
  have := exactly_calls false y0 W
  rw [s64f] at this
  exact this⟩
 have HS : Aside0 (∀ W A1 L1 c1 A2 L2 c2, N2 W A1 L1 c1 (unP b) A2 L2 c2 (unQ b) → Calls Tryz.prog 76 #[qV false A1 L1 c1 A2 L2 c2] W fun e w' =>
  e = .returned (.string (fqS false (unP b) (unQ b))) ∧ Below W.heap.size W w') := ⟨fun W A1 L1 c1 A2 L2 c2 hn => qString_calls hn (Sz.more (k := 200000) y1 (by omega)) (Sz.more (k := 200000) y2 (by omega)) y3⟩
 clear h hf hr y0 y1 y2 y3
 unfold QX at *
 generalize fqS false (unP b) (unQ b) = T at *
 generalize unP b = p at *
 generalize unQ b = q at *
 generalize rg64 1 (pl32 (b % 2147483648)) = u at *
 generalize pl32 (b % 2147483648) = e at *
 generalize b % 2147483648 / 8388608 = k at *
 generalize S64 (neg32 b) + w32 (b % 2147483648) = y at *
 have v1 : IntKind.i64.wrap ((k : Int) - 150) = (k : Int) - 150 := IntWalk.i64_in _ (by omega)
 go_enter Tryz.func19, Tryz.ntmps19
 go_wp2_with (first
  | (go_at_call 63; (with_reducible refine (HF.out _).mono ?_); rintro e W1 ⟨rfl, hwq⟩; rw [hwq]; clear hwq)
  | (go_at_call 78; (with_reducible refine (HL.out _).mono ?_); rintro e W1 ⟨rfl, hwq⟩; rw [hwq]; clear hwq)
  | (go_at_call 64; (with_reducible refine (HX.out _).mono ?_); rintro e W2 ⟨A1, k1, c1, A2, k2, c2, rfl, hn, hb2⟩; have HM := Aside0.mk hn; have HB2 := Aside0.mk hb2; clear hn hb2)
  | (go_at_call 76; (with_reducible refine (HS.out _ _ _ _ _ _ _ HM.out).mono ?_); rintro e W3 ⟨rfl, hb3⟩; have HB3 := Aside0.mk (HB2.out.trans (hb3.mono HB2.out.size)); clear hb3))
 go_ret2
 exact ⟨rfl, HB3.out⟩
theorem unit_bad (s : Bool) {r : Nat} (h : 2139095040 ≤ r) (h2 : r < 2147483648) (w : World) :
 Calls Tryz.prog 19 #[.float .f32 (S32 s + r)] w fun e w' => e = .returned (.tuple #[.string ⟨#[]⟩, .int .i64 1]) ∧ Below w.heap.size w w' := by
 obtain ⟨y, wd, hcv, hb, hf⟩ := conv_bad s h h2 w
 have HF := Aside0.mk hf
 have HB := Aside0.mk hb
 clear hf hb h h2
 generalize S32 s + r = x at *
 go_enter Tryz.func19, Tryz.ntmps19
 go_wp2_with (go_at_call 63; (with_reducible refine (HF.out _).mono ?_); rintro e W1 ⟨rfl, hwq⟩; rw [hwq]; clear hwq)
 go_ret2
 exact ⟨rfl, HB.out⟩
theorem unit_calls {b : Nat} (h : b < 4294967296) (w : World) :
 Calls Tryz.prog 19 #[.float .f32 b] w fun e w' => e = .returned (.tuple #[.string (fuS b), .int .i64 (fmE b)]) ∧ Below w.heap.size w w' := by
 unfold fmE fuS
 by_cases hf : fin32 b = true
 ·rw [if_pos hf, if_pos hf]
  exact unit_good h hf w
 ·rw [if_neg hf, if_neg hf]
  have h3 : ¬ b % 2147483648 < 2139095040 := fun h4 => hf (decide_eq_true h4)
  have := unit_bad (neg32 b) (r := b % 2147483648) (by omega) (Nat.mod_lt _ (by decide)) w
  rw [← split32 h] at this
  exact this
end
section
open Go.Lib Go.Proofs.YtnjbinpbkjdjpaaGreatDoorW.PrintLast Go.Proofs.YtnjbinpbkjdjpaaGreatDoorW.PrintMore Go.Proofs.YtnjbinpbkjdjpaaGreatDoorW.PrintWords Go.RowKit Go.Shelf
theorem re_zero {a b : ByteArray} (ha : checkR a = 0) (hb : checkR b = 0) : reE a b = 0 := by unfold reE; rw [ha, hb]; decide
theorem re_of {of : Int → Int → Int → Int → Int × Int} {a b : ByteArray} (ha : checkR a = 0) (hb : checkR b = 0) {p q r s : Int} (h1 : numR a = p) (h2 : denR a = q) (h3 : numR b = r) (h4 : denR b = s) :
 reS of a b = rsS (of p q r s).1 (of p q r s).2 ∧ reR of a b = rsE (of p q r s).1 (of p q r s).2 := by
 unfold reS reR
 rw [if_pos (re_zero ha hb), if_pos (re_zero ha hb), h1, h2, h3, h4]
 exact ⟨rfl, rfl⟩
theorem fr_sz {p q : Int} (hp : Dig 120 p) (hq : Dig 120 q) : (frS p q).size ≤ 80000 := by
 have h1 := strI_size hp
 have h2 := strI_size hq
 have h := congrArg List.length (frS_list p q)
 have k : ∀ t : ByteArray, t.data.toList.length = t.size := fun t => by simp
 rw [List.length_append, List.length_cons, k, k, k] at h
 omega
/-- A fraction in lowest terms, with its string. -/
structure Frc (s : ByteArray) (p q : Int) : Prop where
 str : s = frS p q
 pos : 0 < q
 low : Int.gcd p q = 1
 dp : Dig 120 p
 dq : Dig 120 q
section
variable {s a b : ByteArray} {p q p1 q1 p2 q2 : Int}
theorem Frc.check (h : Frc s p q) : checkR s = 0 ∧ numR s = p ∧ denR s = q := by rw [h.str]; exact fr_check h.dp h.dq h.pos h.low
theorem Frc.size (h : Frc s p q) : s.size ≤ 80000 := by rw [h.str]; exact fr_sz h.dp h.dq
theorem Frc.of (h : checkR s = 0) : Frc s (numR s) (denR s) := ⟨fr_of h, (checkR_ok h).2.2.1, (checkR_ok h).2.2.2, (real_dig h).1, (real_dig h).2.1⟩
theorem Frc.back (h : Frc s p q) : rsS p q = s ∧ rsE p q = 0 := by
 obtain ⟨P, Q, h1, h2, h3, h4, h5, _, _⟩ := rs_ok h.dp h.dq (show q ≠ 0 by have := h.pos; omega)
 obtain ⟨e1, e2⟩ := low_unique (p := P) (q := Q) (r := p) (s := q) h4 h.pos h5 h.low h3
 rw [h1, e1, e2, ← h.str]
 exact ⟨rfl, h2⟩
theorem Frc.op (h1 : Frc a p1 q1) (h2 : Frc b p2 q2) (of : Int → Int → Int → Int → Int × Int) : reS of a b = rsS (of p1 q1 p2 q2).1 (of p1 q1 p2 q2).2 ∧ reR of a b = rsE (of p1 q1 p2 q2).1 (of p1 q1 p2 q2).2 :=
 re_of h1.check.1 h2.check.1 h1.check.2.1 h1.check.2.2 h2.check.2.1 h2.check.2.2
theorem Frc.cmp (h1 : Frc a p1 q1) (h2 : Frc b p2 q2) : cmpR a b = cmpI (p1 * q2) (p2 * q1) ∧ reE a b = 0 := by
 have hz := re_zero h1.check.1 h2.check.1
 unfold cmpR
 rw [if_pos hz, h1.check.2.1, h1.check.2.2, h2.check.2.1, h2.check.2.2]
 exact ⟨rfl, hz⟩
theorem Frc.inj (h1 : Frc a p1 q1) (h2 : Frc b p2 q2) (h : p1 * q2 = p2 * q1) : a = b := by
 obtain ⟨e1, e2⟩ := low_unique h1.pos h2.pos h1.low h2.low h
 rw [h1.str, h2.str, e1, e2]
theorem Frc.res {y z : Int} (hy : Dig 120 y) (hz : Dig 120 z) (h0 : z ≠ 0) : ∃ s P Q, rsS y z = s ∧ rsE y z = 0 ∧ Frc s P Q ∧ P * z = y * Q := by
 obtain ⟨P, Q, h1, h2, h3, h4, h5, h6, h7⟩ := rs_ok hy hz h0
 exact ⟨_, P, Q, h1, h2, ⟨rfl, h4, h5, h6, h7⟩, h3⟩
end
theorem frc_int {n : Int} (h : Dig 120 n) : Frc (strI n ++ ⟨#[47, 49]⟩) n 1 := by
 refine ⟨?_, by decide, ?_, h, d1 119⟩
 ·unfold frS
  rw [show strI 1 = ⟨#[49]⟩ by decide +kernel, ByteArray.append_assoc]
  rfl
 ·show Nat.gcd n.natAbs 1 = 1
  exact Nat.gcd_one_right _
theorem frc_zero : Frc ⟨#[48, 47, 49]⟩ 0 1 := by
 have h := frc_int (d0 120)
 rwa [show strI 0 ++ ⟨#[47, 49]⟩ = ⟨#[48, 47, 49]⟩ by decide +kernel] at h
theorem cancel {a b c : Int} (hc : c ≠ 0) (h : a * c = b * c) : a = b := Int.eq_of_mul_eq_mul_right hc h
theorem cmp_scale {P Q u v k : Int} (hQ : 0 < Q) (hk : 0 < k) (h : P * k = (u - v) * Q) : cmpI (P * 1) (0 * Q) = cmpI u v := by
 rw [Int.mul_one, Int.zero_mul]
 rcases Int.lt_trichotomy P 0 with h1 | h1 | h1
 ·have h2 := Int.mul_neg_of_neg_of_pos h1 hk
  have h3 : u - v < 0 := by
   refine Int.not_le.1 fun h4 => ?_
   have := Int.mul_nonneg h4 (Int.le_of_lt hQ)
   omega
  unfold cmpI
  rw [if_pos h1, if_pos (by omega)]
 ·subst h1
  have h3 : u - v = 0 := by
   rw [Int.zero_mul] at h
   rcases Int.mul_eq_zero.1 h.symm with h | h
   ·exact h
   ·omega
  have : u = v := by omega
  subst this
  unfold cmpI
  simp
 ·have h2 := Int.mul_pos h1 hk
  have h3 : 0 < u - v := by
   refine Int.not_le.1 fun h4 => ?_
   have := Int.mul_nonpos_of_nonpos_of_nonneg h4 (Int.le_of_lt hQ)
   omega
  unfold cmpI
  rw [if_neg (by omega), if_pos (by omega), if_neg (by omega), if_pos (by omega)]
theorem pos_ne {a b : Int} (ha : 0 < a) (hb : 0 < b) : a * b ≠ 0 := by have := Int.mul_pos ha hb; omega
end
section
open Go.Proofs.YtnjbinpbkjdjpaaGreatDoor.Rf Go.Proofs.YtnjbinpbkjdjpaaGreatDoorW.PrintLast Go.Proofs.YtnjbinpbkjdjpaaGreatDoorW.PrintMore Go.Proofs.YtnjbinpbkjdjpaaGreatDoorW.PrintWords Go.RowKit Go.Shelf Ieee
theorem evn_half {A B : Nat} (hB : 0 < B) : 2 * A ≤ 2 * (evn A B * B) + B ∧ 2 * (evn A B * B) ≤ 2 * A + B := by
 have h1 := Nat.div_add_mod A B
 have h3 := Nat.mod_lt A hB
 rw [Nat.mul_comm] at h1
 unfold evn
 split
 ·rw [Nat.add_mul, Nat.one_mul]
  generalize A / B * B = x at *
  omega
 ·rw [Nat.add_zero]
  rename_i h2
  generalize A / B * B = x at *
  omega
theorem cancelR {a b c : Rat} (hc : c ≠ 0) (h : a * c = b * c) : a = b := by
 have : (a - b) * c = 0 := by grind
 grind
theorem leR {a b c : Rat} (hc : 0 < c) (h : a * c ≤ b * c) : a ≤ b := by
 rcases Std.le_total (a := a) (b := b) with h1 | h1
 ·exact h1
 ·exact Rat.le_of_mul_le_mul_right h hc
theorem half_rat {P Q R T U V H G Dn Dd σ p q c d M fP fQ uP uQ : Rat} (hQ : 0 < Q) (hT : 0 < T) (hV : 0 < V) (hG : 0 < G) (hD : 0 < Dd) (hq : 0 < q) (hc : 0 < c) (hf : 0 < fQ) (hu : 0 < uQ)
 (hs : σ = 1 ∨ σ = -1) (h1 : P * q = σ * p * Q) (h2 : R * fQ = σ * fP * T) (h3 : fP * c = M * fQ) (h4 : 2 * (p * c) ≤ 2 * (M * q) + q * d) (h4' : 2 * (M * q) ≤ 2 * (p * c) + q * d)
 (h5 : U * uQ = uP * V) (h6 : d * uQ ≤ uP * c) (h7 : H * (V * 2) = U * G) (h8 : Dn * (Q * T) = (P * T - R * Q) * Dd) : Dn * G ≤ H * Dd ∧ (-Dn) * G ≤ H * Dd := by
 obtain ⟨x, rfl⟩ : ∃ x, P = x * Q := ⟨P / Q, by grind⟩
 obtain ⟨y, rfl⟩ : ∃ y, R = y * T := ⟨R / T, by grind⟩
 obtain ⟨u, rfl⟩ : ∃ u, U = u * V := ⟨U / V, by grind⟩
 obtain ⟨η, rfl⟩ : ∃ η, H = η * G := ⟨H / G, by grind⟩
 have e1 : x * q = σ * p := cancelR (c := Q) (by grind) (by grind)
 have e2 : y * fQ = σ * fP := cancelR (c := T) (by grind) (by grind)
 have e3 : y * c = σ * M := cancelR (c := fQ) (by grind) (by grind)
 have e5 : u * uQ = uP := cancelR (c := V) (by grind) (by grind)
 subst e5
 have e6 : d ≤ u * c := leR hu (by grind)
 have e7 : η * 2 = u := cancelR (c := V * G) (by have := Rat.mul_pos hV hG; grind) (by grind)
 have e8 : Dn = (x - y) * Dd := cancelR (c := Q * T) (by have := Rat.mul_pos hQ hT; grind) (by grind)
 have hqc := Rat.mul_pos hq hc
 have k1 : q * d ≤ q * (u * c) := Rat.mul_le_mul_of_nonneg_left e6 (by grind)
 have k2 : 2 * (x - y) ≤ u ∧ 2 * (y - x) ≤ u := by
  rcases hs with rfl | rfl
  ·obtain rfl : p = x * q := by grind
   obtain rfl : M = y * c := by grind
   clear e1 e2 e3 e7 e8 h1 h2 h3 h5 h6 h7 h8
   exact ⟨leR hqc (by grind), leR hqc (by grind)⟩
  ·obtain rfl : p = -x * q := by grind
   obtain rfl : M = -y * c := by grind
   clear e1 e2 e3 e7 e8 h1 h2 h3 h5 h6 h7 h8
   exact ⟨leR hqc (by grind), leR hqc (by grind)⟩
 have hDG := Rat.mul_pos hD hG
 have m1 : (x - y) * (Dd * G) ≤ η * (Dd * G) := Rat.mul_le_mul_of_nonneg_right (by grind) (by grind)
 have m2 : (y - x) * (Dd * G) ≤ η * (Dd * G) := Rat.mul_le_mul_of_nonneg_right (by grind) (by grind)
 subst e8
 constructor <;> grind
theorem half_int {P Q R T U V H G Dn Dd σ : Int} {p q c d M fP fQ uP uQ : Nat} (hQ : 0 < Q) (hT : 0 < T) (hV : 0 < V) (hG : 0 < G) (hD : 0 < Dd) (hq : 0 < q) (hc : 0 < c) (hf : 0 < fQ) (hu : 0 < uQ)
 (hs : σ = 1 ∨ σ = -1) (h1 : P * q = σ * p * Q) (h2 : R * fQ = σ * fP * T) (h3 : fP * c = M * fQ) (h4 : 2 * (p * c) ≤ 2 * (M * q) + q * d) (h4' : 2 * (M * q) ≤ 2 * (p * c) + q * d)
 (h5 : U * uQ = uP * V) (h6 : d * uQ ≤ uP * c) (h7 : H * (V * 2) = U * G) (h8 : Dn * (Q * T) = (P * T - R * Q) * Dd) : Dn * G ≤ H * Dd ∧ (-Dn) * G ≤ H * Dd := by
 have key := half_rat (P := P) (Q := Q) (R := R) (T := T) (U := U) (V := V) (H := H) (G := G) (Dn := Dn) (Dd := Dd) (σ := σ) (p := p) (q := q) (c := c) (d := d) (M := M) (fP := fP) (fQ := fQ) (uP := uP) (uQ := uQ)
  (by exact_mod_cast hQ) (by exact_mod_cast hT) (by exact_mod_cast hV) (by exact_mod_cast hG) (by exact_mod_cast hD) (by exact_mod_cast hq) (by exact_mod_cast hc) (by exact_mod_cast hf) (by exact_mod_cast hu)
  (by rcases hs with rfl | rfl <;> simp) (by exact_mod_cast h1) (by exact_mod_cast h2) (by exact_mod_cast h3) (by exact_mod_cast h4) (by exact_mod_cast h4') (by exact_mod_cast h5) (by exact_mod_cast h6) (by exact_mod_cast h7) (by exact_mod_cast h8)
 exact ⟨by exact_mod_cast key.1, by exact_mod_cast key.2⟩
/-- The word of the nearest float32: its rung, and its value. -/
theorem near_rung {s : Bool} {p q z : Nat} (hq : 0 < q) (h : near s p q = some z) :
 ∃ t, z = S32 (s && decide (rm p q ≠ 0)) + t ∧ t < 2139095040 ∧ expE p q ≤ pl32 t ∧ vp (rm p q) (expE p q) * vq (pl32 t) = vp (sg32 t) (pl32 t) * vq (expE p q) ∧ (rm p q = 0 → t = 0) := by
 have hE := expE_low p q
 have hrm := rm_le (p := p) hq
 have hge := fun h7 => rm_ge (p := p) hq h7
 have hlt := near_lt hq h
 unfold near at h
 by_cases h0 : rm p q = 0
 ·rw [if_pos h0] at h
  injection h with h
  subst h
  have h9 : expE p q = -149 := by
   rcases Int.lt_or_le (-149) (expE p q) with h7 | h7
   ·have := hge h7; omega
   ·omega
  refine ⟨0, ?_, by omega, ?_, ?_, fun _ => rfl⟩
  ·unfold S32; simp [h0]
  ·rw [h9]; decide
  ·rw [h0, vp_zero, show sg32 0 = 0 by decide, vp_zero, Nat.zero_mul, Nat.zero_mul]
 ·rw [if_neg h0] at h
  by_cases h1 : (wid (rm p q) : Int) + expE p q > 128
  ·rw [if_pos h1] at h; cases h
  ·rw [if_neg h1] at h
   injection h with h
   have hw : wid (rm p q) = (rm p q).log2 + 1 := by unfold wid; rw [if_neg h0]
   have h5 : 8388608 ≤ rm p q ∨ expE p q = -149 := by
    by_cases h7 : -149 < expE p q
    ·exact .inl (hge h7)
    ·exact .inr (by omega)
   have h8 : expE p q + 149 ≤ 277 := by omega
   have h9 : 8388608 ≤ rm p q → 23 ≤ (rm p q).log2 := fun h => (Nat.le_log2 h0).2 (by simpa using h)
   clear hge
   generalize rm p q = M at *
   generalize expE p q = E at *
   have key : (E + 149).toNat * 8388608 + M < 2139095040 := by
    have h3 := hlt.1
    rw [← h] at h3
    have h6 : (E + 149).toNat * 8388608 + M < 2147483648 := by
     rcases h5 with h5 | h5
     ·have := h9 h5; omega
     ·omega
    split at h3 <;> omega
   refine ⟨(E + 149).toNat * 8388608 + M, ?_, key, ?_, ?_, fun h => absurd h h0⟩
   ·rw [← h, decide_eq_true h0, Bool.and_true]; rfl
   ·unfold pl32
    split <;> omega
   ·rcases Nat.lt_or_ge M 16777216 with h7 | h7
    ·have e1 : sg32 ((E + 149).toNat * 8388608 + M) = M := by unfold sg32; split <;> omega
     have e2 : pl32 ((E + 149).toNat * 8388608 + M) = E := by unfold pl32; split <;> omega
     rw [e1, e2]
    ·have h8 : M = 16777216 := by omega
     have e1 : sg32 ((E + 149).toNat * 8388608 + M) = 8388608 := by unfold sg32; split <;> omega
     have e2 : pl32 ((E + 149).toNat * 8388608 + M) = E + 1 := by unfold pl32; split <;> omega
     rw [e1, e2, h8]
     have := vp_scale 8388608 (E + 1) 1
     rw [show E + 1 - ((1 : Nat) : Int) = E by omega] at this
     exact this
theorem rung_split {s : Bool} {t : Nat} (ht : t < 2139095040) : (S32 s + t) % 2147483648 = t ∧ neg32 (S32 s + t) = s ∧ S32 s + t < 4294967296 ∧ fin32 (S32 s + t) = true := by
 unfold neg32 fin32 S32
 cases s
 ·refine ⟨by simp; omega, ?_, by simp; omega, ?_⟩
  ·rw [decide_eq_false]; simp; omega
  ·rw [decide_eq_true]; simp; omega
 ·refine ⟨by simp; omega, ?_, by simp; omega, ?_⟩
  ·rw [decide_eq_true]; simp
  ·rw [decide_eq_true]; simp; omega
theorem fv_dy {b : Nat} (hf : fin32 b = true) : fvP b * vq (pl32 (b % 2147483648)) = vp (sg32 (b % 2147483648)) (pl32 (b % 2147483648)) * fvQ b := by
 have h1 := sg32_lt (b % 2147483648)
 have h2 := pl32_ge (b % 2147483648)
 exact ex_dbl (by omega) (by omega)
theorem fv_sgn (b : Nat) : sgI (fvS b) (fvP b) = sgI (neg32 b) (fvP b) := by
 unfold fvS exS
 by_cases h : w32 (b % 2147483648) = 0
 ·have : fvP b = 0 := by unfold fvP exP exm; rw [h, if_pos rfl, vp_zero]
  rw [this]; unfold sgI; simp
 ·rw [decide_eq_true h, Bool.and_true]
theorem fvP_zero {b : Nat} (h : b % 2147483648 = 0) : fvP b = 0 := by
 unfold fvP; rw [h, show w32 0 = 0 by decide]; unfold exP exm; rw [if_pos rfl, vp_zero]
theorem un_dy (b : Nat) : unP b * vq (pl32 (b % 2147483648)) = vp 1 (pl32 (b % 2147483648)) * unQ b := by
 have h2 := pl32_ge (b % 2147483648)
 exact ex_dbl (by omega) (by omega)
/-- All that the nearest float32 promises. -/
theorem near_half {s : Bool} {p q z : Nat} (hq : 0 < q) (h : near s p q = some z) :
 z < 4294967296 ∧ fin32 z = true ∧ sgI (fvS z) (fvP z) = sgI s (fvP z) ∧ ∃ c d M : Nat, 0 < c ∧ fvP z * c = M * fvQ z ∧ 2 * (p * c) ≤ 2 * (M * q) + q * d ∧ 2 * (M * q) ≤ 2 * (p * c) + q * d ∧ d * unQ z ≤ unP z * c := by
 obtain ⟨t, hz, ht, hE, hv, h0⟩ := near_rung hq h
 obtain ⟨r1, r2, r3, r4⟩ := rung_split (s := s && decide (rm p q ≠ 0)) ht
 rw [← hz] at r1 r2 r3 r4
 have h1 := fv_dy r4
 have h2 := un_dy z
 rw [r1] at h1 h2
 refine ⟨r3, r4, ?_, 2 ^ (-expE p q).toNat, 2 ^ (expE p q).toNat, rm p q * 2 ^ (expE p q).toNat, pp _, ?_, ?_, ?_, ?_⟩
 ·rw [fv_sgn, r2]
  by_cases h3 : rm p q = 0
  ·rw [fvP_zero (b := z) (by rw [r1, h0 h3])]; unfold sgI; simp
  ·rw [decide_eq_true h3, Bool.and_true]
 ·exact cross_trans (vq_pos (pl32 t)) h1 hv.symm
 ·have := (evn_half (A := upA (expE p q) p) (upB_pos hq (expE p q))).1
  unfold upA upB at this
  unfold rm upA upB
  rw [show ∀ a b c : Nat, a * b * c = a * (c * b) from fun a b c => by ac_rfl]
  exact this
 ·have := (evn_half (A := upA (expE p q) p) (upB_pos hq (expE p q))).2
  unfold upA upB at this
  unfold rm upA upB
  rw [show ∀ a b c : Nat, a * b * c = a * (c * b) from fun a b c => by ac_rfl]
  exact this
 ·have k1 : 2 ^ (expE p q).toNat * vq (pl32 t) ≤ vp 1 (pl32 t) * 2 ^ (-expE p q).toNat := by
   unfold vq vp
   rw [Nat.one_mul, ← Nat.pow_add, ← Nat.pow_add]
   exact Nat.pow_le_pow_right (by decide) (by omega)
  refine Nat.le_of_mul_le_mul_right ?_ (vq_pos (pl32 t))
  calc 2 ^ (expE p q).toNat * unQ z * vq (pl32 t) = (2 ^ (expE p q).toNat * vq (pl32 t)) * unQ z := by ac_rfl
   _ ≤ (vp 1 (pl32 t) * 2 ^ (-expE p q).toNat) * unQ z := Nat.mul_le_mul_right _ k1
   _ = (vp 1 (pl32 t) * unQ z) * 2 ^ (-expE p q).toNat := by ac_rfl
   _ = (unP z * vq (pl32 t)) * 2 ^ (-expE p q).toNat := by rw [h2]
   _ = unP z * 2 ^ (-expE p q).toNat * vq (pl32 t) := by ac_rfl
/-- Sizes of the value of a float32 and of its unit. -/
theorem ex_small {m : Nat} {e : Int} (hm : m < 16777216) (h1 : -149 ≤ e) (h2 : e ≤ 104) : Sz 140 (exP (rg64 m e)) ∧ Sz 210 (exQ (rg64 m e)) := by
 by_cases h0 : m = 0
 ·subst h0
  rw [show rg64 0 e = 0 by unfold rg64; rw [if_pos rfl]]
  exact ⟨⟨by decide +kernel⟩, ⟨by decide +kernel⟩⟩
 ·have hl := log2_24 (m := m) (by omega)
  obtain ⟨n1, n2⟩ := norm53 h0 (by omega)
  obtain ⟨s1, s2⟩ := rg_sig (m := m) (e := e) h0 (by omega) (by omega)
  obtain ⟨a1, a2, a3, a4⟩ := rg_parts (m := m) (e := e) h0 (by omega) (by omega) (by omega)
  have e1 : (sg64 (rg64 m e)).log2 = 52 := by rw [s1]; exact log2_52 n1 n2
  have e2 : exe (rg64 m e) = e - (52 - m.log2 : Nat) := by unfold exe; rw [if_neg (by omega), e1, s2]; omega
  have e3 : exm (rg64 m e) < 9007199254740992 := exm_lt a2
  unfold exP exQ vp vq
  rw [e2]
  refine ⟨?_, ⟨Nat.pow_lt_pow_right (by decide) (by omega)⟩⟩
  have z1 : Sz 53 (exm (rg64 m e)) := ⟨Nat.lt_of_lt_of_le e3 (by decide)⟩
  exact (z1.mul (sz_pow (n := (e - (52 - m.log2 : Nat)).toNat) (k := 85) (by omega)) (i := 138)).more (by omega)
theorem fv_small {b : Nat} (hf : fin32 b = true) : Sz 140 (fvP b) ∧ Sz 210 (fvQ b) := ex_small (sg32_lt _) (pl32_ge _) (pl32_le (of_decide_eq_true hf))
theorem un_small {b : Nat} (hf : fin32 b = true) : Sz 140 (unP b) ∧ Sz 210 (unQ b) := ex_small (by decide) (pl32_ge _) (pl32_le (of_decide_eq_true hf))
theorem rs_err (y z : Int) : rsE y z = 0 ∨ rsE y z = 4 := by
 unfold rsE ftE wrE
 by_cases c1 : 120 < lenI (y / lowD y z) <;> by_cases c2 : 120 < lenI (z / lowD y z) <;> simp [c1, c2, firstI]
theorem ft_zero {p q : Int} (h : ftE p q = 0) : wrE p = 0 ∧ wrE q = 0 := by
 unfold ftE wrE at *
 by_cases c1 : 120 < lenI p <;> by_cases c2 : 120 < lenI q <;> simp [c1, c2, firstI] at h ⊢
theorem wr_dig2 {x : Int} (h : wrE x = 0) : Dig 120 x := by
 unfold wrE at h
 split at h
 ·omega
 ·rename_i h1
  have h2 := dv_lt _ (dec_digits x.natAbs)
  rw [dv_dec] at h2
  exact Nat.lt_of_lt_of_le h2 (Nat.pow_le_pow_right (by decide) (by unfold lenI at h1; omega))
theorem rs_frc {y z : Int} (hz : z ≠ 0) (h : rsE y z = 0) : ∃ P Q, Frc (rsS y z) P Q ∧ P * z = y * Q := by
 obtain ⟨P, Q, a1, a2, a3, a4, a5, a6⟩ := low_facts (y := y) hz
 unfold rsE at h
 rw [a1, a2] at h
 have h2 := ft_zero h
 have dP := wr_dig2 h2.1
 have dQ := wr_dig2 h2.2
 refine ⟨P, Q, ⟨?_, a5, a6, dP, dQ⟩, mul_swap a3 a4⟩
 unfold rsS ftS
 rw [a1, a2, if_pos h, (wr_dig dP).2, (wr_dig dQ).2]
 rfl
theorem lowD_pos {x : Int} {q : Nat} (hq : 0 < q) : lowD x q = (Nat.gcd x.natAbs q : Int) := by
 unfold lowD
 rw [if_neg (by omega)]
 rfl
theorem sg_div (s : Bool) {p g : Nat} (h : g ∣ p) : sgI s p / (g : Int) = sgI s (p / g) := by
 unfold sgI
 cases s
 ·simp
 ·simp only [if_true]
  rw [Int.neg_ediv_of_dvd (Int.natCast_dvd_natCast.2 h)]
  rfl
theorem fq_low {s : Bool} {p q : Nat} (hq : 0 < q) : sgI s p / lowD (sgI s p) q = sgI s (p / Nat.gcd p q) ∧ (q : Int) / lowD (sgI s p) q = ((q / Nat.gcd p q : Nat) : Int) := by
 rw [lowD_pos hq, sgI_abs, sg_div s (Nat.gcd_dvd_left p q)]
 exact ⟨rfl, rfl⟩
theorem fq_rs {s : Bool} {p q : Nat} (hq : 0 < q) : ftS (sgI s (p / Nat.gcd p q)) (q / Nat.gcd p q : Nat) = rsS (sgI s p) q ∧ ftE (sgI s (p / Nat.gcd p q)) (q / Nat.gcd p q : Nat) = rsE (sgI s p) q := by
 unfold rsS rsE
 rw [(fq_low hq).1, (fq_low hq).2]
 exact ⟨rfl, rfl⟩
theorem Sz.dig {x : Int} (h : Sz 390 x.natAbs) : Dig 120 x := Nat.lt_of_lt_of_le h.lt (by decide +kernel)
theorem Sz.digN {s : Bool} {p : Nat} (h : Sz 390 p) : Dig 120 (sgI s p) := Sz.dig (by rw [sgI_abs]; exact h)
theorem fq_frc {s : Bool} {p q : Nat} (hq : 0 < q) (h1 : Sz 390 p) (h2 : Sz 390 q) : ∃ P Q, Frc (fqS s p q) P Q ∧ P * q = sgI s p * Q := by
 obtain ⟨P, Q, a1, a2, a3, a4, a5, a6⟩ := low_facts (y := sgI s p) (z := (q : Int)) (by omega)
 have dP := (Sz.digN (s := s) h1).of_mul (lowD_ne (by omega)) a3
 have dQ := (Sz.dig (x := (q : Int)) h2).of_mul (lowD_ne (by omega)) a4
 rw [(fq_low hq).1] at a1
 rw [(fq_low hq).2] at a2
 refine ⟨P, Q, ⟨?_, a5, a6, dP, dQ⟩, mul_swap a3 a4⟩
 unfold fqS
 rw [a1, a2]
theorem pl_int (s z : Bool) (a b : Nat) : sgI (plS s a z b) (plN s a z b) = sgI s a + sgI z b := by
 unfold sgI plS plN
 by_cases h : b ≤ a <;> cases s <;> cases z <;> simp [h] <;> omega
theorem sgI_not (s : Bool) (a : Nat) : sgI (!s) a = -sgI s a := by unfold sgI; cases s <;> simp
theorem sgI_mul (s : Bool) (a b : Nat) : sgI s (a * b) = sgI s a * b := by unfold sgI; cases s <;> simp [Int.neg_mul]
theorem sgI_one (s : Bool) (a : Nat) : sgI s a = (if s then (-1 : Int) else 1) * a := by unfold sgI; cases s <;> simp
theorem fm_frc {b : Nat} (hf : fin32 b = true) : ∃ P Q, Frc (fmS b) P Q ∧ P * fvQ b = sgI (fvS b) (fvP b) * Q := by
 obtain ⟨y1, y2⟩ := fv_small hf
 unfold fmS
 rw [if_pos hf]
 exact fq_frc (fv_sz hf).2.2 (y1.more (by omega)) (y2.more (by omega))
theorem fu_frc {b : Nat} (hf : fin32 b = true) : ∃ P Q, Frc (fuS b) P Q ∧ P * unQ b = unP b * Q := by
 obtain ⟨y1, y2⟩ := un_small hf
 unfold fuS
 rw [if_pos hf]
 exact fq_frc (unQ_pos b) (y1.more (by omega)) (y2.more (by omega))
theorem frc_half : Frc ⟨#[49, 47, 50]⟩ 1 2 := ⟨by decide +kernel, by decide, by decide, by unfold Dig; decide +kernel, by unfold Dig; decide +kernel⟩
theorem minus_sgn {x : ByteArray} (h : checkR x = 0) : minusB x = decide (numR x < 0) := by
 obtain ⟨k1, k2, k3, k4⟩ := checkR_ok h
 have e := (cut_body x).2.2
 cases hm : minusB (cutA 47 x)
 ·rw [← e, hm]
  have : ¬ numR x < 0 := by unfold numR intI; rw [hm, if_neg (by decide)]; omega
  rw [decide_eq_false this]
 ·rw [← e, hm]
  have : numR x < 0 := minus_neg k1 hm
  rw [decide_eq_true this]
theorem near_sgn {s z : Bool} {p q : Nat} (h : rm p q = 0) : near s p q = near z p q := by unfold near; rw [if_pos h, if_pos h]
theorem sgn_eq {s : Bool} {p q : Nat} {P Q : Int} (hq : 0 < q) (hQ : 0 < Q) (hp : p ≠ 0) (h : P * q = sgI s p * Q) : decide (P < 0) = s := by
 have hq' : (0 : Int) < q := by omega
 have hp' : (0 : Int) < p := by omega
 unfold sgI at h
 cases s
 ·simp at h
  have := Int.mul_pos hp' hQ
  rw [decide_eq_false]
  intro h2
  have := Int.mul_neg_of_neg_of_pos h2 hq'
  omega
 ·simp [Int.neg_mul] at h
  have := Int.mul_pos hp' hQ
  rw [decide_eq_true]
  rcases Int.lt_or_le P 0 with h2 | h2
  ·exact h2
  ·have := Int.mul_nonneg h2 (Int.le_of_lt hq')
   omega
/-- The nearest float32 of a fraction's string. -/
theorem to_same {x : ByteArray} {P Q : Int} (hx : Frc x P Q) {s : Bool} {p q z : Nat} (hq : 0 < q) (h : P * q = sgI s p * Q) (hn : near s p q = some z) : toE x = 0 ∧ toW x = z := by
 obtain ⟨c1, c2, c3⟩ := hx.check
 have hm := minus_sgn c1
 have hQ := hx.pos
 have hab : P.natAbs * q = p * Q.natAbs := by
  have := congrArg Int.natAbs h
  rw [Int.natAbs_mul, Int.natAbs_mul, sgI_abs] at this
  exact this
 have key : near (minusB x) (numR x).natAbs (denR x).natAbs = some z := by
  rw [hm, c2, c3, near_same (p := P.natAbs) (q := Q.natAbs) (r := p) (s := q) (by omega) hq hab, ← hn]
  by_cases hp : p = 0
  ·subst hp
   exact near_sgn (by unfold rm; rw [show upA (expE 0 q) 0 = 0 by unfold upA; rw [Nat.zero_mul]]; exact evn_small (by have := upB_pos hq (expE 0 q); omega))
  ·rw [sgn_eq hq hQ hp h]
 unfold toE toW nrE nrW
 rw [if_pos c1, if_pos c1, key]
 exact ⟨rfl, rfl⟩
theorem to_none {x : ByteArray} {P Q : Int} (hx : Frc x P Q) {s : Bool} {p q : Nat} (hq : 0 < q) (h : P * q = sgI s p * Q) (hn : near s p q = none) : toE x = 3 := by
 obtain ⟨c1, c2, c3⟩ := hx.check
 have hm := minus_sgn c1
 have hQ := hx.pos
 have hab : P.natAbs * q = p * Q.natAbs := by
  have := congrArg Int.natAbs h
  rw [Int.natAbs_mul, Int.natAbs_mul, sgI_abs] at this
  exact this
 have key : near (minusB x) (numR x).natAbs (denR x).natAbs = none := by
  rw [hm, c2, c3, near_same (p := P.natAbs) (q := Q.natAbs) (r := p) (s := q) (by omega) hq hab, ← hn]
  by_cases hp : p = 0
  ·subst hp
   exact near_sgn (by unfold rm; rw [show upA (expE 0 q) 0 = 0 by unfold upA; rw [Nat.zero_mul]]; exact evn_small (by have := upB_pos hq (expE 0 q); omega))
  ·rw [sgn_eq hq hQ hp h]
 unfold toE nrE
 rw [if_pos c1, key]
 rfl
/-- What Error answers at a fraction, as one of num's results. -/
theorem er_rs {x : ByteArray} {P Q : Int} (hx : Frc x P Q) (h : toE x = 0) : erS x = rsS (P * fvQ (toW x) - sgI (fvS (toW x)) (fvP (toW x)) * Q) (Q * fvQ (toW x)) ∧ erE x = rsE (P * fvQ (toW x) - sgI (fvS (toW x)) (fvP (toW x)) * Q) (Q * fvQ (toW x)) := by
 obtain ⟨c1, c2, c3⟩ := hx.check
 have hQ := hx.pos
 obtain ⟨t1, t2⟩ := to_lt x h
 have hd : 0 < erD x := by unfold erD; exact Nat.mul_pos (by rw [c3]; omega) (fv_sz t2).2.2
 have e1 : sgI (erP x) (erN x) = P * fvQ (toW x) - sgI (fvS (toW x)) (fvP (toW x)) * Q := by
  unfold erP erN
  rw [pl_int, sgI_not, c2, c3, sgI_mul, sgI_mul, minus_sgn c1, c2]
  have h1 : sgI (decide (P < 0)) P.natAbs = P := by unfold sgI; by_cases h0 : P < 0 <;> simp [h0] <;> omega
  rw [h1, show (Q.natAbs : Int) = Q by omega]
  omega
 have e2 : (erD x : Int) = Q * fvQ (toW x) := by
  unfold erD
  rw [c3, Int.natCast_mul, show (Q.natAbs : Int) = Q by omega]
 unfold erS erE
 rw [if_pos h, if_pos h, (fq_rs hd).1, (fq_rs hd).2, e1, e2]
 exact ⟨rfl, rfl⟩
theorem er_same {x : ByteArray} {P Q : Int} (hx : Frc x P Q) (h : toE x = 0) : erS x = reS ofSub x (fmS (toW x)) ∧ erE x = reR ofSub x (fmS (toW x)) := by
 obtain ⟨t1, t2⟩ := to_lt x h
 obtain ⟨R, T, hz, hr⟩ := fm_frc t2
 obtain ⟨e1, e2⟩ := er_rs hx h
 obtain ⟨f1, f2⟩ := hx.op hz ofSub
 have h0 : (0 : Int) < fvQ (toW x) := by have := (fv_sz t2).2.2; omega
 rw [e1, e2, f1, f2]
 unfold ofSub
 refine rs_same (pos_ne hx.pos h0) (pos_ne hx.pos hz.pos) ?_
 simp only []
 generalize (fvQ (toW x) : Int) = u at *
 generalize sgI (fvS (toW x)) (fvP (toW x)) = v at *
 grind
theorem Frc.size2 {s : ByteArray} {p q : Int} (h : Frc s p q) : s.size ≤ 300 := by
 have h1 := strI_size h.dp
 have h2 := strI_size h.dq
 have h3 := congrArg List.length (frS_list p q)
 have k : ∀ t : ByteArray, t.data.toList.length = t.size := fun t => by simp
 rw [List.length_append, List.length_cons, k, k, k, ← h.str] at h3
 omega
end
end Go.Proofs.YtnjbinpbkjdjpaaGreatDoor.Nm
