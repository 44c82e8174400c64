/- THE PLAIN LAW, part 1: the reference's loops over the rest of a text, told by the places of the whole text. No walk here. -/
import Derived.Test.YtmnnhbikdgpedaaDoorLxJ
import Derived.Test.YtmnnhbikdgpedaaDoorRf7
namespace Go.Proofs.YtmnnhbikdgpedaaDoor.Lx
open Go.RowKit Go.Proofs.YtmnnhbikdgpedaaDoorW.PrintWords Go.Proofs.YtmnnhbikdgpedaaDoorW.PrintLast Go.Proofs.YtmnnhbikdgpedaaDoorW.PrintMore
open Go.Proofs.YtmnnhbikdgpedaaDoor.PLexTokens
set_option linter.unusedVariables false
set_option linter.unusedSimpArgs false

/-- What is left of a text from a place on. -/
def rest (s : ByteArray) (i : Nat) : ByteArray := s.extract i s.size
theorem rest_size (s : ByteArray) (i : Nat) : (rest s i).size = s.size - i := by simp [rest]
theorem rest_bt (s : ByteArray) (i j : Nat) (h : i + j < s.size) : bt (rest s i) (j : Int) = bt s ((i + j : Nat) : Int) := by
  rw [rest, ← bt_extract s i s.size j h (Nat.le_refl _)]
theorem rest_zero (s : ByteArray) : rest s 0 = s := by
  apply ba_ext
  rw [rest, Lib.extract_data, List.drop_zero, Nat.sub_zero, List.take_of_length_le (by rw [Lib.size_eq]; exact Nat.le_refl _)]
theorem rest_rest (s : ByteArray) (i j : Nat) : (rest s i).extract j (rest s i).size = rest s (i + j) := by
  apply ba_ext
  rw [rest_size, rest, rest, Lib.extract_data, Lib.extract_data, Lib.extract_data, List.drop_take, List.drop_drop, List.take_take]
  congr 1
  omega
theorem rest_cut (s : ByteArray) (i a b : Nat) (h : i + b ≤ s.size) : (rest s i).extract a b = s.extract (i + a) (i + b) := by
  apply ba_ext
  rw [rest, Lib.extract_data, Lib.extract_data, Lib.extract_data, List.drop_take, List.drop_drop, List.take_take]
  congr 1
  omega
theorem wrap_add (a b : Nat) (h : a + b < 4611686018427387904) : wrap64 ((a : Int) + (b : Int)) = ((a + b : Nat) : Int) := by
  rw [wrap64]
  omega
theorem wrap_one (n : Nat) (h : n < 4611686018427387900) : wrap64 ((n : Int) + 1) = ((n + 1 : Nat) : Int) := wrap_add n 1 (by omega)
theorem wrap_two (n : Nat) (h : n < 4611686018427387900) : wrap64 ((n : Int) + 2) = ((n + 2 : Nat) : Int) := wrap_add n 2 (by omega)

theorem runEnd_step {p : Int → Bool} {s : ByteArray} {i : Nat} (h : i < s.size) (hp : p (bt s (i : Nat)) = true) : runEnd p s i = runEnd p s (i + 1) := by
  rw [runEnd, if_pos h, if_pos hp]
theorem runEnd_stop {p : Int → Bool} {s : ByteArray} {i : Nat} (h : i < s.size) (hp : p (bt s (i : Nat)) = false) : runEnd p s i = i := by
  rw [runEnd, if_pos h, if_neg (by rw [hp]; simp)]
theorem runEnd_out {p : Int → Bool} {s : ByteArray} {i : Nat} (h : ¬ i < s.size) : runEnd p s i = i := by
  rw [runEnd, if_neg h]
theorem runEnd_not {p : Int → Bool} {s : ByteArray} (i : Nat) (h : runEnd p s i < s.size) : p (bt s (runEnd p s i : Nat)) = false := by
  revert h
  fun_induction runEnd p s i with
  | case1 i h hp ih => exact ih
  | case2 i h hp => intro _; simpa using hp
  | case3 i h => intro h2; omega
theorem runEnd_gt {p : Int → Bool} {s : ByteArray} {i : Nat} (h : i < s.size) (hp : p (bt s (i : Nat)) = true) : i < runEnd p s i := by
  rw [runEnd_step h hp]
  have := runEnd_ge p s (i + 1)
  omega

theorem isDigit_f (c : Int) : entailref02_IsDigit.f c = some (isDigit c) := by
  unfold entailref02_IsDigit.f isDigit
  by_cases h : c ≥ 48
  · rw [if_pos h, show decide (48 ≤ c) = true from decide_eq_true h]; rfl
  · rw [if_neg h, show decide (48 ≤ c) = false from decide_eq_false h]; rfl
theorem isLetter_f (c : Int) : entailref02_IsLetter.f c = some (isLetter c) := by
  unfold entailref02_IsLetter.f isLetter
  by_cases h : c ≥ 97
  · rw [if_pos h, show decide (97 ≤ c) = true from decide_eq_true h]
    by_cases h2 : c ≤ 122
    · rw [if_pos h2, show decide (c ≤ 122) = true from decide_eq_true h2]; rfl
    · rw [if_neg h2, show decide (c ≤ 122) = false from decide_eq_false h2]
      by_cases h3 : c ≥ 65
      · rw [if_pos h3, show decide (65 ≤ c) = true from decide_eq_true h3]; rfl
      · rw [if_neg h3, show decide (65 ≤ c) = false from decide_eq_false h3]; rfl
  · rw [if_neg h, show decide (97 ≤ c) = false from decide_eq_false h]
    by_cases h3 : c ≥ 65
    · rw [if_pos h3, show decide (65 ≤ c) = true from decide_eq_true h3]; rfl
    · rw [if_neg h3, show decide (65 ≤ c) = false from decide_eq_false h3]; rfl

theorem rest_lt (s : ByteArray) (i j : Nat) : ((j : Int) < ((rest s i).size : Int)) = (i + j < s.size) := by
  rw [rest_size]; apply propext; constructor <;> intro h <;> omega

/-! ### digits -/
theorem digits_l0 (s : ByteArray) (i : Nat) (hs : s.size ≤ 70000) : ∀ (d j k : Nat), i + j ≤ s.size → s.size - (i + j) = d → d < k →
    entailref03_digits.l0 k (rest s i) (j : Int) = some ((runEnd isDigit s (i + j) - i : Nat) : Int)
  | d, j, 0, _, _, h => by omega
  | d, j, k + 1, hj, hd, hk => by
    rw [entailref03_digits.l0]
    by_cases h : i + j < s.size
    · rw [if_pos (by rw [rest_lt]; exact h), if_pos (Int.natCast_nonneg _), isDigit_f, Option.bind_some, rest_bt s i j h]
      by_cases hp : isDigit (bt s ((i + j : Nat) : Int)) = true
      · rw [if_pos hp, wrap_one j (by omega), digits_l0 s i hs (d - 1) (j + 1) k (by omega) (by omega) (by omega), runEnd_step h hp]
        rfl
      · rw [if_neg hp, runEnd_stop h (by simpa using hp)]
        congr 2
        omega
    · rw [if_neg (by rw [rest_lt]; exact h), runEnd_out h]
      congr 2
      omega
theorem digits_f (s : ByteArray) (i k : Nat) (hs : s.size ≤ 70000) (hi : i ≤ s.size) (hk : s.size < k) : entailref03_digits.f k (rest s i) = some ((runEnd isDigit s i - i : Nat) : Int) :=
  digits_l0 s i hs (s.size - i) 0 k hi rfl (by omega)

/-! ### word -/
theorem word_l0 (s : ByteArray) (i : Nat) (hs : s.size ≤ 70000) : ∀ (d j k : Nat), 0 < j → i + j ≤ s.size → s.size - (i + j) = d → d < k →
    entailref03_word.l0 k (rest s i) (j : Int) = some ((runEnd cls s (i + j) - i : Nat) : Int)
  | d, j, 0, _, _, _, h => by omega
  | d, j, k + 1, h0, hj, hd, hk => by
    rw [entailref03_word.l0]
    by_cases h : i + j < s.size
    · rw [if_pos (by rw [rest_lt]; exact h), if_pos (Int.natCast_nonneg _), isLetter_f, Option.bind_some, rest_bt s i j h, isDigit_f, Option.bind_some, if_pos (show (j : Int) > 0 by omega), wrap_one j (by omega)]
      by_cases hp : cls (bt s ((i + j : Nat) : Int)) = true
      · have ih := word_l0 s i hs (d - 1) (j + 1) k (by omega) (by omega) (by omega) (by omega)
        rw [ih, runEnd_step h hp]
        rw [cls] at hp
        by_cases c1 : isLetter (bt s ((i + j : Nat) : Int)) = true
        · rw [if_pos c1]; rfl
        · rw [if_neg c1]
          by_cases c2 : isDigit (bt s ((i + j : Nat) : Int)) = true
          · rw [if_pos c2]; rfl
          · rw [if_neg c2]
            rw [Bool.eq_false_iff.mpr c1, Bool.eq_false_iff.mpr c2] at hp
            rw [if_pos (show bt s ((i + j : Nat) : Int) = 95 by simpa using hp)]; rfl
      · have hp2 : cls (bt s ((i + j : Nat) : Int)) = false := by simpa using hp
        rw [runEnd_stop h hp2]
        rw [cls] at hp2
        simp only [Bool.or_eq_false_iff, beq_eq_false_iff_ne] at hp2
        rw [if_neg (by rw [hp2.1.1]; simp), if_neg (by rw [hp2.1.2]; simp), if_neg hp2.2]
        congr 2
        omega
    · rw [if_neg (by rw [rest_lt]; exact h), runEnd_out h]
      congr 2
      omega
theorem word_f (s : ByteArray) (i k : Nat) (hs : s.size ≤ 70000) (hi : i ≤ s.size) (hk : s.size + 1 < k) : entailref03_word.f k (rest s i) = some ((wordEnd s i - i : Nat) : Int) := by
  obtain ⟨k, rfl⟩ : ∃ k', k = k' + 1 := ⟨k - 1, by omega⟩
  unfold entailref03_word.f
  rw [entailref03_word.l0]
  by_cases h : i < s.size
  · rw [if_pos (by have := rest_lt s i 0; simp only [Nat.add_zero] at this; exact this.mpr h), if_pos (Int.le_refl _), isLetter_f, Option.bind_some]
    have hb : bt (rest s i) 0 = bt s (i : Int) := rest_bt s i 0 h
    rw [hb]
    by_cases hp : isLetter (bt s (i : Int)) = true
    · rw [if_pos hp, wordEnd, if_pos ⟨h, hp⟩, runEnd_step h (by rw [cls, hp]; rfl)]
      rw [show wrap64 ((0 : Int) + 1) = ((1 : Nat) : Int) from wrap_one 0 (by omega)]
      exact word_l0 s i hs _ 1 k (by omega) (by omega) rfl (by omega)
    · rw [if_neg hp, if_neg (show ¬ ((0 : Int) > 0) by omega), wordEnd, if_neg (show ¬ (i < s.size ∧ isLetter (bt s (i : Int)) = true) from fun h2 => hp h2.2), Nat.sub_self]; rfl
  · rw [if_neg (by have := rest_lt s i 0; simp only [Nat.add_zero] at this; exact fun h2 => h (this.mp h2)), wordEnd, if_neg (fun h2 => h h2.1), Nat.sub_self]; rfl

/-! ### blanks -/
theorem hasAt_one (s : ByteArray) (i : Nat) (c : UInt8) : hasAt s i ⟨#[c]⟩ = true ↔ i < s.size ∧ bt s (i : Int) = (c.toNat : Int) := by
  rw [hasAt_iff, bt_list, Lib.size_eq]
  show [c] <+: _ ↔ _
  rcases Nat.lt_or_ge i s.data.toList.length with h | h
  · rw [List.drop_eq_getElem_cons h, List.getD_eq_getElem?_getD, List.getElem?_eq_getElem h]
    simp only [List.cons_prefix_cons, List.nil_prefix, and_true, Option.getD_some, h, true_and]
    constructor
    · rintro rfl; rfl
    · intro h2; exact (UInt8.toNat_inj.1 (by omega))
  · rw [List.drop_eq_nil_of_le h]
    constructor
    · intro h2
      simp at h2
    · rintro ⟨h2, _⟩
      omega
theorem hasAt_pair (s : ByteArray) (i : Nat) (c d : UInt8) : hasAt s i ⟨#[c, d]⟩ = true ↔ i + 1 < s.size ∧ bt s (i : Int) = (c.toNat : Int) ∧ bt s ((i + 1 : Nat) : Int) = (d.toNat : Int) := by
  rw [hasAt_iff, bt_list, bt_list, Lib.size_eq]
  show [c, d] <+: _ ↔ _
  rcases Nat.lt_or_ge (i + 1) s.data.toList.length with h | h
  · rw [List.drop_eq_getElem_cons (show i < _ by omega), List.drop_eq_getElem_cons h, List.getD_eq_getElem?_getD, List.getElem?_eq_getElem (show i < _ by omega), List.getD_eq_getElem?_getD, List.getElem?_eq_getElem h]
    simp only [List.cons_prefix_cons, List.nil_prefix, and_true, Option.getD_some, h, true_and]
    constructor
    · rintro ⟨rfl, rfl⟩; exact ⟨rfl, rfl⟩
    · rintro ⟨h2, h3⟩; exact ⟨UInt8.toNat_inj.1 (by omega), UInt8.toNat_inj.1 (by omega)⟩
  · constructor
    · intro h2
      have h3 := h2.length_le
      rw [List.length_drop] at h3
      simp only [List.length_cons, List.length_nil] at h3
      omega
    · rintro ⟨h2, _⟩
      omega
end Go.Proofs.YtmnnhbikdgpedaaDoor.Lx
