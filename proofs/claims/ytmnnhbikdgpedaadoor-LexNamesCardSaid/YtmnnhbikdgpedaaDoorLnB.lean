/- THE PLAIN LAW of LexNames: the reference's Split, IsGlobal, IsName are lex's. -/
import Derived.Test.YtmnnhbikdgpedaaDoorLnA
import Derived.Test.YtmnnhbikdgpedaaDoorLnR
namespace Go.Proofs.YtmnnhbikdgpedaaDoor.Lx
open Go.RowKit Go.Proofs.YtmnnhbikdgpedaaDoorW.PrintWords Go.Proofs.YtmnnhbikdgpedaaDoorW.PrintLast Go.Proofs.YtmnnhbikdgpedaaDoorW.PrintMore
open Go.Proofs.YtmnnhbikdgpedaaDoor.PLexTokens
set_option linter.unusedVariables false
set_option linter.unusedSimpArgs false

theorem colIdx_spec (s : ByteArray) :
    (colIdx s < 0 ∧ ∀ x, hasAt s x colons = false) ∨
    (∃ c : Nat, colIdx s = c ∧ hasAt s c colons = true ∧ ∀ x, x < c → hasAt s x colons = false) := by
  have hocc : ∀ j, Lib.occAt s.data.toList [58, 58] j = hasAt s j colons := by
    intro j
    rw [Lib.occAt, hasAt, Lib.hasPrefix, Lib.extract_data, List.take_of_length_le (by rw [List.length_drop, Lib.size_eq]; exact Nat.le_refl _)]
    rfl
  rcases Lib.index_spec s.data.toList [58, 58] with ⟨h1, h2⟩ | ⟨c, h1, h2, h3, h4⟩
  · refine .inl ⟨by show Lib.index s.data.toList [58, 58] < 0; omega, fun x => ?_⟩
    rcases Nat.lt_or_ge s.size x with hl | hl
    · rw [Bool.eq_false_iff]
      intro h5
      have := (hasAt_pair s x 58 58).mp h5
      omega
    · have := h2 x (by rw [← Lib.size_eq]; omega)
      rw [hocc] at this
      exact this
  · refine .inr ⟨c, h1, by rw [← hocc]; exact h3, fun x h5 => ?_⟩
    rw [← hocc]
    exact h4 x h5

theorem rsplit_l0 (s : ByteArray) (hs : s.size ≤ 70000) : ∀ (d j k : Nat), j ≤ s.size → s.size - j = d → d < k → (∀ x, x < j → hasAt s x colons = false) →
    entailref02_Split.l0 k s (j : Int) = some (partsB s)
  | d, j, 0, _, _, h, _ => by omega
  | d, j, k + 1, hj, hd, hk, hno => by
    rw [entailref02_Split.l0, wrap_one j (by omega)]
    have hn := hasAt_pair s j 58 58
    have hstep : hasAt s j colons = false → ∀ x, x < j + 1 → hasAt s x colons = false := by
      intro h x hx
      rcases Nat.lt_or_ge x j with h1 | h1
      · exact hno x h1
      · rw [show x = j by omega]; exact h
    by_cases h : j + 1 < s.size
    · rw [if_pos (by omega), if_pos (Int.natCast_nonneg _), if_pos (by omega), if_pos (Int.natCast_nonneg _), wrap_two j (by omega)]
      by_cases c1 : bt s (j : Int) = 58
      · rw [if_pos c1]
        by_cases c2 : bt s ((j + 1 : Nat) : Int) = 58
        · rw [if_pos c2, if_pos (by omega), if_pos (Int.natCast_nonneg _), if_pos (by omega), Int.toNat_natCast, Int.toNat_natCast]
          have hh : hasAt s j colons = true := hn.mpr ⟨h, c1, c2⟩
          have hc : colIdx s = (j : Int) := by
            rcases colIdx_spec s with ⟨_, q⟩ | ⟨c, q1, q2, q3⟩
            · rw [q j] at hh; cases hh
            · rcases Nat.lt_trichotomy c j with h1 | h1 | h1
              · rw [hno c h1] at q2; cases q2
              · rw [q1, h1]
              · rw [q3 j h1] at hh; cases hh
          rw [partsB, hc, if_pos (Int.natCast_nonneg _), Int.toNat_natCast]
        · rw [if_neg c2]
          exact rsplit_l0 s hs (d - 1) (j + 1) k (by omega) (by omega) (by omega) (hstep (by rw [Bool.eq_false_iff]; exact fun q => c2 (hn.mp q).2.2))
      · rw [if_neg c1]
        exact rsplit_l0 s hs (d - 1) (j + 1) k (by omega) (by omega) (by omega) (hstep (by rw [Bool.eq_false_iff]; exact fun q => c1 (hn.mp q).2.1))
    · rw [if_neg (by omega)]
      have hc : ¬ 0 ≤ colIdx s := by
        rcases colIdx_spec s with ⟨q, _⟩ | ⟨c, q1, q2, q3⟩
        · omega
        · have := (hasAt_pair s c 58 58).mp q2
          have h5 := hno c (by omega)
          rw [h5] at q2; cases q2
      rw [partsB, if_neg hc]
theorem rsplit_f (s : ByteArray) (k : Nat) (hs : s.size ≤ 70000) (hk : s.size < k) : entailref02_Split.f k s = some (partsB s) :=
  rsplit_l0 s hs s.size 0 k (by omega) rfl (by omega) (fun x hx => by omega)

theorem isQual_f (s : ByteArray) (k : Nat) (hs : s.size ≤ 70000) (hk : s.size < k) : entailref02_IsQualified.f k s = some (decide (0 ≤ colIdx s)) := by
  unfold entailref02_IsQualified.f
  rw [rsplit_f s k hs hk, Option.bind_some]
  by_cases h : 0 ≤ colIdx s
  · have := (parts_size s).2.2 h
    rw [decide_eq_true h, decide_eq_true (by omega)]
  · rw [decide_eq_false h, partsB, if_neg h, decide_eq_false (by simp)]

theorem name_pos {x : ByteArray} (h : isNameB x = true) : 0 < x.size ∧ isLetter (bt x 0) = true := by
  rw [isNameB] at h
  simp only [Bool.and_eq_true, decide_eq_true_eq] at h
  have h2 := wordEnd_pos (x := x) (i := 0) (by omega)
  exact h2
def isLowerB (x : ByteArray) : Bool := isNameB x && decide (97 ≤ bt x 0)
theorem isLower_f (x : ByteArray) (k : Nat) (hk : 100 < k) : entailref02_IsLower.f k x = some (isLowerB x) := by
  unfold entailref02_IsLower.f isLowerB
  rw [isName_f _ _ hk, Option.bind_some]
  by_cases h : isNameB x = true
  · have := name_pos h
    rw [if_pos h, h, if_pos (by omega)]; rfl
  · rw [if_neg h, Bool.eq_false_iff.mpr h]; rfl
theorem upper_lower (x : ByteArray) : (isUpperB x || isLowerB x) = isNameB x := by
  rw [isUpperB, isLowerB]
  cases h : isNameB x
  · rfl
  · have := (name_pos h).2
    rw [isLetter] at this
    simp only [Bool.or_eq_true, Bool.and_eq_true, decide_eq_true_eq] at this
    simp
    omega

theorem rglobal_f (s : ByteArray) (up : Bool) (k : Nat) (hs : s.size ≤ 70000) (hk : s.size + 200 < k) :
    entailref02_IsGlobal.f k s up = some (!(decide (0 ≤ colIdx s) && !isUpperB (partsB s).1) && (if up = true then isUpperB (partsB s).2 else isLowerB (partsB s).2)) := by
  obtain ⟨k, rfl⟩ : ∃ k', k = k' + 1 := ⟨k - 1, by omega⟩
  have hj : ∀ b, entailref02_IsGlobal.j0 (k + 1) up (partsB s).2 b = some (!b && (if up = true then isUpperB (partsB s).2 else isLowerB (partsB s).2)) := by
    intro b
    rw [entailref02_IsGlobal.j0]
    cases b
    · rw [if_neg (by simp)]
      cases up
      · rw [if_neg (by simp), isLower_f _ _ (by omega)]; rfl
      · rw [if_pos rfl, isUpper_f _ _ (by omega)]; rfl
    · rw [if_pos rfl]; rfl
  unfold entailref02_IsGlobal.f
  rw [rsplit_f s _ hs (by omega), Option.bind_some, isQual_f s _ hs (by omega), Option.bind_some, isUpper_f _ _ (by omega), Option.bind_some, hj, hj]
  by_cases h : 0 ≤ colIdx s
  · rw [decide_eq_true h, if_pos rfl, Bool.true_and]
  · rw [decide_eq_false h, if_neg (by simp), Bool.false_and]

theorem global_f (s : ByteArray) (k : Nat) (hs : s.size ≤ 70000) (hk : s.size + 200 < k) : entailref03_IsGlobal.f k s = some (isGlobalB s) := by
  unfold entailref03_IsGlobal.f
  rw [rglobal_f s true k hs hk, rglobal_f s false k hs hk, Option.bind_some, Option.bind_some, isGlobalB]
  have hu := upper_lower (partsB s).2
  by_cases h : 0 ≤ colIdx s
  · rw [decide_eq_true h, if_pos h, ← hu]
    cases isUpperB (partsB s).1 <;> cases isUpperB (partsB s).2 <;> cases isLowerB (partsB s).2 <;> rfl
  · have hp : (partsB s).2 = s := by rw [partsB, if_neg h]
    rw [hp] at hu
    rw [decide_eq_false h, if_neg h, hp, ← hu]
    cases isUpperB s <;> cases isLowerB s <;> rfl

theorem split_f (s : ByteArray) (k : Nat) (hs : s.size ≤ 70000) (hk : s.size + 200 < k) : entailref03_Split.f k s = some (splitB s) := by
  unfold entailref03_Split.f
  rw [global_f s k hs hk, Option.bind_some, rsplit_f s k hs (by omega), Option.bind_some, splitB]
  split <;> rfl
theorem rname_f (s : ByteArray) (k : Nat) (hk : 100 < k) : entailref03_IsName.f k s = some (isNameB s) := by
  unfold entailref03_IsName.f
  rw [isName_f s k hk]; rfl
end Go.Proofs.YtmnnhbikdgpedaaDoor.Lx
