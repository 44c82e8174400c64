/- The tokens of a text as a plain list, place by place. -/
import Derived.Test.YtmnnhbikdgpedaaDoorLxH
import Derived.Test.YtmnnhbikdgpedaaDoorLxI
namespace Go.Proofs.YtmnnhbikdgpedaaDoor.Lx
open Go.RowKit Go.Proofs.YtmnnhbikdgpedaaDoorW.PrintWords Go.Proofs.YtmnnhbikdgpedaaDoorW.PrintLast Go.Proofs.YtmnnhbikdgpedaaDoorW.PrintMore
set_option linter.unusedVariables false
set_option linter.unusedSimpArgs false

theorem skip_ge (s : ByteArray) (i : Nat) : i ≤ (skip s i).1 := by
  fun_induction skip s i with
  | case1 i hi h1 ih => omega
  | case2 i hi h1 h2 h3 ih => omega
  | case3 i hi h1 h2 h3 => exact Nat.le_refl _
  | case4 i hi h1 h2 h3 h4 => exact Nat.le_refl _
  | case5 i hi h1 h2 h3 h4 ih => omega
  | case6 i hi h1 h2 h3 => exact Nat.le_refl _
  | case7 i hi => exact Nat.le_refl _

theorem skip_le (s : ByteArray) (i : Nat) (h : i ≤ s.size) : (skip s i).1 ≤ s.size := by
  revert h
  fun_induction skip s i with
  | case1 i hi h1 ih => intro h; exact ih (by omega)
  | case2 i hi h1 h2 h3 ih => intro h; exact ih (runEnd_le _ _ _ h)
  | case3 i hi h1 h2 h3 => intro h; exact h
  | case4 i hi h1 h2 h3 h4 => intro h; exact h
  | case5 i hi h1 h2 h3 h4 ih =>
    intro h
    refine ih (closing_le s i h4 ?_)
    have := hasAt_size s opening i h3 (by decide)
    exact this
  | case6 i hi h1 h2 h3 => intro h; exact h
  | case7 i hi => intro h; exact h

theorem nameTok_fin (s : ByteArray) (i : Nat) (hi : i < s.size) (hl : isLetter (bt s i) = true) (h : (nameTok s i).bad = 0) : i < (nameTok s i).fin ∧ (nameTok s i).fin ≤ s.size := by
  have h1 : i < wordEnd s i := by
    rw [wordEnd, if_pos ⟨hi, hl⟩, runEnd, if_pos hi, show cls (bt s i) = true by simp [cls, hl], if_pos rfl]
    have := runEnd_ge cls s (i + 1)
    omega
  have h2 := wordEnd_le s i (by omega)
  revert h
  rw [nameTok]
  by_cases c1 : 24 < wordEnd s i - i
  · rw [if_pos c1]; simp
  · rw [if_neg c1]
    by_cases c2 : isKeyword (s.extract i (wordEnd s i)) = true
    · rw [if_pos c2]; intro _; exact ⟨h1, h2⟩
    · rw [if_neg c2]
      by_cases c3 : (decide (bt s i ≤ 90) && hasAt s (wordEnd s i) colons) = true
      · rw [if_pos c3]
        by_cases c4 : 24 < wordEnd s (wordEnd s i + 2) - (wordEnd s i + 2)
        · rw [if_pos c4]; simp
        · rw [if_neg c4]
          simp only [Bool.and_eq_true] at c3
          have g1 := hasAt_two s (wordEnd s i) c3.2
          have g2 := wordEnd_ge s (wordEnd s i + 2)
          have g3 := wordEnd_le s (wordEnd s i + 2) g1
          split
          · intro _; exact ⟨by show i < wordEnd s (wordEnd s i + 2); omega, g3⟩
          · intro _; exact ⟨h1, h2⟩
      · rw [if_neg c3]; intro _; exact ⟨h1, h2⟩

theorem numTok_fin (s : ByteArray) (i : Nat) (hi : i < s.size) (hl : isDigit (bt s i) = true) (h : (numTok s i).bad = 0) : i < (numTok s i).fin ∧ (numTok s i).fin ≤ s.size := by
  have h1 : i < runEnd isDigit s i := by
    rw [runEnd, if_pos hi, hl, if_pos rfl]
    have := runEnd_ge isDigit s (i + 1)
    omega
  have h2 := runEnd_le isDigit s i (by omega)
  revert h
  rw [numTok]
  by_cases c1 : numBad s i = true
  · rw [if_pos c1]; simp
  · rw [if_neg c1]
    intro _
    show i < (numEnd s i).2 ∧ (numEnd s i).2 ≤ s.size
    rw [numEnd]
    split
    · rename_i c
      have g1 := hasAt_size s dot _ c.1 (by decide)
      rw [show dot.size = 1 from rfl] at g1
      have g2 := runEnd_ge isDigit s (runEnd isDigit s i + 1)
      have g3 := runEnd_le isDigit s (runEnd isDigit s i + 1) g1
      exact ⟨by show i < runEnd isDigit s (runEnd isDigit s i + 1); omega, g3⟩
    · exact ⟨h1, h2⟩

theorem signTok_fin (s : ByteArray) (i : Nat) (hi : i < s.size) (h : (signTok s i).bad = 0) : i < (signTok s i).fin ∧ (signTok s i).fin ≤ s.size := by
  revert h
  rw [signTok]
  by_cases c1 : (signOf s i).size = 0
  · rw [if_pos c1]; simp
  · rw [if_neg c1]
    intro _
    have h1 := bestSign_at s i hi 39
    have h2 : (s.extract i (i + (signOf s i).size)).size = (signOf s i).size := congrArg ByteArray.size h1
    rw [ByteArray.size_extract] at h2
    exact ⟨by show i < i + _; omega, by show i + _ ≤ _; omega⟩

theorem tokOf_fin (s : ByteArray) (i : Nat) (hi : i < s.size) (h : (tokOf s i).bad = 0) : i < (tokOf s i).fin ∧ (tokOf s i).fin ≤ s.size := by
  revert h
  rw [tokOf]
  by_cases c1 : isLetter (bt s i) = true
  · rw [if_pos c1]; exact nameTok_fin s i hi c1
  · rw [if_neg c1]
    by_cases c2 : isDigit (bt s i) = true
    · rw [if_pos c2]; exact numTok_fin s i hi c2
    · rw [if_neg c2]; exact signTok_fin s i hi

/-- What the iterator hands over from a place on: tokens with their places; the last may bear an error. -/
def lexFrom (s : ByteArray) (i : Nat) : List (Tok × Nat) :=
  if (skip s i).2 = false then [(⟨0, (skip s i).1, 22⟩, (skip s i).1)]
  else if (skip s i).1 < s.size then
    (if (tokOf s (skip s i).1).bad = 0 then
      (if h : i < (tokOf s (skip s i).1).fin ∧ (tokOf s (skip s i).1).fin ≤ s.size then (tokOf s (skip s i).1, (skip s i).1) :: lexFrom s (tokOf s (skip s i).1).fin else [])
    else [(tokOf s (skip s i).1, (skip s i).1)])
  else []
  termination_by s.size - i

theorem lex_open (s : ByteArray) (i j : Nat) (h : skip s i = (j, false)) : lexFrom s i = [(⟨0, j, 22⟩, j)] := by rw [lexFrom, h, if_pos rfl]
theorem lex_end (s : ByteArray) (i j : Nat) (h : skip s i = (j, true)) (hj : ¬ j < s.size) : lexFrom s i = [] := by rw [lexFrom, h, if_neg (by simp), if_neg hj]
theorem lex_bad (s : ByteArray) (i j : Nat) (h : skip s i = (j, true)) (hj : j < s.size) (hb : (tokOf s j).bad ≠ 0) : lexFrom s i = [(tokOf s j, j)] := by
  rw [lexFrom, h, if_neg (by simp), if_pos hj, if_neg hb]
theorem lex_tok (s : ByteArray) (i j : Nat) (h : skip s i = (j, true)) (hj : j < s.size) (hb : (tokOf s j).bad = 0) : lexFrom s i = (tokOf s j, j) :: lexFrom s (tokOf s j).fin := by
  have h1 := tokOf_fin s j hj hb
  have h2 := skip_ge s i
  rw [h] at h2
  rw [lexFrom, h, if_neg (by simp), if_pos hj, if_pos hb, dif_pos ⟨by show i < (tokOf s j).fin; have : i ≤ j := h2; omega, h1.2⟩]
end Go.Proofs.YtmnnhbikdgpedaaDoor.Lx
