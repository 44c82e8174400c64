/- THE PLAIN LAW of LexReturns, part 1: a token that stands in a longer text is read as it is read alone. No walk here. -/
import Derived.Test.YtmnnhbikdgpedaaDoorLjL
namespace Go.Proofs.YtmnnhbikdgpedaaDoor.Lx
open Go.RowKit Go.Proofs.YtmnnhbikdgpedaaDoorW.PrintWords Go.Proofs.YtmnnhbikdgpedaaDoorW.PrintLast Go.Proofs.YtmnnhbikdgpedaaDoorW.PrintMore
open Go.Proofs.YtmnnhbikdgpedaaDoor.PLexTokens
set_option linter.unusedVariables false
set_option linter.unusedSimpArgs false

/-- At p in s there stands t, and R behind it. -/
structure At (s : ByteArray) (p : Nat) (t : ByteArray) (R : List UInt8) : Prop where
  d : s.data.toList.drop p = t.data.toList ++ R
  le : p ≤ s.size
/-- The first byte of what follows. -/
def fst (R : List UInt8) : Int := ((R.getD 0 0).toNat : Int)
def snd (R : List UInt8) : Int := ((R.getD 1 0).toNat : Int)

theorem At.size {s : ByteArray} {p : Nat} {t : ByteArray} {R : List UInt8} (h : At s p t R) : s.size = p + t.size + R.length := by
  have h1 := congrArg List.length h.d
  have h2 := h.le
  rw [List.length_drop, List.length_append] at h1
  rw [Lib.size_eq] at h2 ⊢
  rw [Lib.size_eq]
  omega
theorem bt_drop (s : ByteArray) (p i : Nat) (l : List UInt8) (h : s.data.toList.drop p = l) : bt s ((p + i : Nat) : Int) = ((l.getD i 0).toNat : Int) := by
  rw [bt_list, ← h, List.getD_eq_getElem?_getD, List.getD_eq_getElem?_getD, List.getElem?_drop]
theorem At.byte {s : ByteArray} {p : Nat} {t : ByteArray} {R : List UInt8} (h : At s p t R) {i : Nat} (hi : i < t.size) : bt s ((p + i : Nat) : Int) = bt t (i : Int) := by
  rw [bt_drop s p i _ h.d, bt_list, List.getD_eq_getElem?_getD, List.getD_eq_getElem?_getD, List.getElem?_append_left (by rw [← Lib.size_eq]; exact hi)]
theorem At.next {s : ByteArray} {p : Nat} {t : ByteArray} {R : List UInt8} (h : At s p t R) : bt s ((p + t.size : Nat) : Int) = fst R := by
  rw [bt_drop s p t.size _ h.d, fst, List.getD_eq_getElem?_getD, List.getElem?_append_right (by rw [← Lib.size_eq]; exact Nat.le_refl _), ← Lib.size_eq, Nat.sub_self, List.getD_eq_getElem?_getD]
theorem At.next2 {s : ByteArray} {p : Nat} {t : ByteArray} {R : List UInt8} (h : At s p t R) : bt s ((p + t.size + 1 : Nat) : Int) = snd R := by
  rw [Nat.add_assoc, bt_drop s p (t.size + 1) _ h.d, snd, List.getD_eq_getElem?_getD, List.getElem?_append_right (by rw [← Lib.size_eq]; omega), ← Lib.size_eq, Nat.add_sub_cancel_left, List.getD_eq_getElem?_getD]
theorem At.extract {s : ByteArray} {p : Nat} {t : ByteArray} {R : List UInt8} (h : At s p t R) {a b : Nat} (hb : b ≤ t.size) : s.extract (p + a) (p + b) = t.extract a b := by
  apply ba_ext
  rw [Lib.extract_data, Lib.extract_data, ← List.drop_drop, h.d]
  by_cases ha : a ≤ t.size
  · rw [List.drop_append_of_le_length (by rw [← Lib.size_eq]; exact ha), List.take_append_of_le_length (by rw [List.length_drop, ← Lib.size_eq]; omega)]
    congr 1
    omega
  · rw [show p + b - (p + a) = 0 by omega, show b - a = 0 by omega]
    simp

theorem runEnd_is (P : Int → Bool) (s : ByteArray) : ∀ (m i : Nat), (∀ k, k < m → P (bt s ((i + k : Nat) : Int)) = true) → i + m ≤ s.size → (i + m = s.size ∨ P (bt s ((i + m : Nat) : Int)) = false) → runEnd P s i = i + m
  | 0, i, _, hle, hend => by
    rcases hend with h | h
    · exact runEnd_out (by omega)
    · by_cases hi : i < s.size
      · exact runEnd_stop hi h
      · exact runEnd_out hi
  | m + 1, i, h, hle, hend => by
    rw [runEnd_step (show i < s.size by omega) (by have := h 0 (by omega); rwa [Nat.add_zero] at this), runEnd_is P s m (i + 1) (fun k hk => by rw [show i + 1 + k = i + (k + 1) by omega]; exact h (k + 1) (by omega)) (by omega) (by rw [show i + 1 + m = i + (m + 1) by omega]; exact hend)]
    omega
theorem runEnd_in {P : Int → Bool} {s : ByteArray} (i : Nat) {k : Nat} : i ≤ k → k < runEnd P s i → P (bt s (k : Int)) = true := by
  fun_induction runEnd P s i with
  | case1 i h hp ih =>
    intro h1 h2
    by_cases e : k = i
    · rw [e]; exact hp
    · exact ih (by omega) h2
  | case2 i h hp => intro h1 h2; omega
  | case3 i h => intro h1 h2; omega

/-- A run goes as far in the longer text, if what follows ends it. -/
theorem At.run {s : ByteArray} {p : Nat} {t : ByteArray} {R : List UInt8} (h : At s p t R) (P : Int → Bool) {i : Nat} (hi : i ≤ t.size) (hc : R = [] ∨ P (fst R) = false) : runEnd P s (p + i) = p + runEnd P t i := by
  have h1 := runEnd_ge P t i
  have h2 := runEnd_le P t i hi
  have hs := h.size
  have key := runEnd_is P s (runEnd P t i - i) (p + i) (fun k hk => by
    have := runEnd_in (P := P) (s := t) i (k := i + k) (by omega) (by omega)
    rw [← h.byte (by omega)] at this
    rw [show p + i + k = p + (i + k) by omega]
    exact this) (by omega) (by
    rw [show p + i + (runEnd P t i - i) = p + runEnd P t i by omega]
    by_cases he : runEnd P t i < t.size
    · right
      rw [h.byte he]
      exact runEnd_not i he
    · have e : runEnd P t i = t.size := by omega
      rw [e, h.next]
      rcases hc with rfl | hc
      · left
        rw [hs]
        rfl
      · right; exact hc)
  rw [key]
  omega
theorem cls_letter {c : Int} (h : cls c = false) : isLetter c = false := by
  rw [cls, Bool.or_eq_false_iff, Bool.or_eq_false_iff] at h
  exact h.1.1
theorem cls_digit {c : Int} (h : cls c = false) : isDigit c = false := by
  rw [cls, Bool.or_eq_false_iff, Bool.or_eq_false_iff] at h
  exact h.1.2
theorem At.word {s : ByteArray} {p : Nat} {t : ByteArray} {R : List UInt8} (h : At s p t R) {i : Nat} (hi : i ≤ t.size) (hc : R = [] ∨ cls (fst R) = false) : wordEnd s (p + i) = p + wordEnd t i := by
  have hs := h.size
  rw [wordEnd, wordEnd]
  by_cases h1 : i < t.size
  · rw [h.byte h1, h.run cls hi hc]
    by_cases h2 : isLetter (bt t (i : Int)) = true
    · rw [if_pos ⟨by omega, h2⟩, if_pos ⟨h1, h2⟩]
    · rw [if_neg (fun x => h2 x.2), if_neg (fun x => h2 x.2)]
  · have e : i = t.size := by omega
    subst e
    rw [if_neg (show ¬ (t.size < t.size ∧ _) from fun x => by omega)]
    rw [if_neg]
    rintro ⟨h2, h3⟩
    rw [h.next] at h3
    rcases hc with rfl | hc
    · rw [List.length_nil] at hs; omega
    · rw [cls_letter hc] at h3; cases h3
/-- Two bytes stand there in the longer text just if they do in the shorter one. -/
theorem At.pair {s : ByteArray} {p : Nat} {t : ByteArray} {R : List UInt8} (h : At s p t R) (a b : UInt8) {i : Nat} (hi : i ≤ t.size) (h0 : i = t.size → R = [] ∨ fst R ≠ (a.toNat : Int)) (h1 : i + 1 = t.size → R = [] ∨ fst R ≠ (b.toNat : Int)) :
    hasAt s (p + i) ⟨#[a, b]⟩ = hasAt t i ⟨#[a, b]⟩ := by
  have hs := h.size
  rw [Bool.eq_iff_iff, hasAt_pair, hasAt_pair]
  by_cases c1 : i + 1 < t.size
  · rw [h.byte (show i < t.size by omega), show p + i + 1 = p + (i + 1) by omega, h.byte c1]
    constructor
    · rintro ⟨_, x, y⟩; exact ⟨c1, x, y⟩
    · rintro ⟨_, x, y⟩; exact ⟨by omega, x, y⟩
  · constructor
    · rintro ⟨x, y, z⟩
      exfalso
      by_cases c2 : i = t.size
      · subst c2
        rw [h.next] at y
        rcases h0 rfl with rfl | hne
        · rw [List.length_nil] at hs; omega
        · exact hne y
      · have e : i + 1 = t.size := by omega
        rw [show p + i + 1 = p + t.size by omega, h.next] at z
        rcases h1 e with rfl | hne
        · rw [List.length_nil] at hs; omega
        · exact hne z
    · rintro ⟨x, _⟩; omega
theorem At.one {s : ByteArray} {p : Nat} {t : ByteArray} {R : List UInt8} (h : At s p t R) (a : UInt8) {i : Nat} (hi : i < t.size) : hasAt s (p + i) ⟨#[a]⟩ = hasAt t i ⟨#[a]⟩ := by
  have hs := h.size
  rw [Bool.eq_iff_iff, hasAt_one, hasAt_one, h.byte hi]
  constructor
  · rintro ⟨_, x⟩; exact ⟨hi, x⟩
  · rintro ⟨_, x⟩; exact ⟨by omega, x⟩

/-- Names. -/
theorem At.name {s : ByteArray} {p : Nat} {t : ByteArray} {R : List UInt8} (h : At s p t R) (h0 : 0 < t.size) (hc : R = [] ∨ (cls (fst R) = false ∧ fst R ≠ 58)) (hb : (nameTok t 0).bad = 0) : nameTok s p = ⟨(nameTok t 0).kind, p + (nameTok t 0).fin, 0⟩ := by
  have hc1 : R = [] ∨ cls (fst R) = false := hc.imp_right (·.1)
  have hc2 : R = [] ∨ fst R ≠ ((58 : UInt8).toNat : Int) := hc.imp_right (·.2)
  have hw := h.word (i := 0) (Nat.zero_le _) hc1
  rw [Nat.add_zero] at hw
  have hle := wordEnd_le t 0 (Nat.zero_le _)
  have hpair := h.pair 58 58 hle (fun _ => hc2) (fun _ => hc2)
  have hkw : s.extract p (p + wordEnd t 0) = t.extract 0 (wordEnd t 0) := by
    have := h.extract (a := 0) hle
    rwa [Nat.add_zero] at this
  have hbt : bt s (p : Int) = bt t ((0 : Nat) : Int) := by
    have := h.byte h0
    rwa [Nat.add_zero] at this
  have hcol : hasAt s (p + wordEnd t 0) colons = hasAt t (wordEnd t 0) colons := hpair
  revert hb
  rw [nameTok, nameTok, hw, hkw, hbt, hcol, show p + wordEnd t 0 - p = wordEnd t 0 - 0 by omega]
  by_cases c1 : 24 < wordEnd t 0 - 0
  · rw [if_pos c1]; simp
  · rw [if_neg c1, if_neg c1]
    cases c2 : isKeyword (t.extract 0 (wordEnd t 0))
    · simp only [Bool.false_eq_true, if_false]
      cases c3 : (decide (bt t ((0 : Nat) : Int) ≤ 90) && hasAt t (wordEnd t 0) colons)
      · simp only [Bool.false_eq_true, if_false]
        intro _; first | rfl | trivial
      · simp only [if_true]
        rw [Bool.and_eq_true] at c3
        have hle2 := hasAt_two t (wordEnd t 0) c3.2
        have hw2 := h.word hle2 hc1
        have hle3 := wordEnd_le t (wordEnd t 0 + 2) hle2
        have hex := h.extract (a := wordEnd t 0 + 2) hle3
        rw [show p + wordEnd t 0 + 2 = p + (wordEnd t 0 + 2) by omega, hw2, hex, show p + wordEnd t (wordEnd t 0 + 2) - (p + (wordEnd t 0 + 2)) = wordEnd t (wordEnd t 0 + 2) - (wordEnd t 0 + 2) by omega]
        by_cases c4 : 24 < wordEnd t (wordEnd t 0 + 2) - (wordEnd t 0 + 2)
        · rw [if_pos c4]; simp
        · rw [if_neg c4, if_neg c4]
          by_cases c5 : wordEnd t (wordEnd t 0 + 2) ≠ wordEnd t 0 + 2 ∧ isKeyword (t.extract (wordEnd t 0 + 2) (wordEnd t (wordEnd t 0 + 2))) = false
          · rw [if_pos c5, if_pos ⟨by omega, c5.2⟩]
            intro _; first | rfl | trivial
          · rw [if_neg c5, if_neg (fun x => c5 ⟨by omega, x.2⟩)]
            intro _; first | rfl | trivial
    · simp only [if_true]
      intro _; first | rfl | trivial
/-- Numbers. -/
theorem At.num {s : ByteArray} {p : Nat} {t : ByteArray} {R : List UInt8} (h : At s p t R) (h0 : 0 < t.size) (hc : R = [] ∨ cls (fst R) = false) (hd : fst R = 46 → R.length = 1 ∨ isDigit (snd R) = false) (hb : (numTok t 0).bad = 0) : numTok s p = ⟨(numTok t 0).kind, p + (numTok t 0).fin, 0⟩ := by
  have hs := h.size
  have hcd : R = [] ∨ isDigit (fst R) = false := hc.imp_right cls_digit
  have hr := h.run isDigit (i := 0) (Nat.zero_le _) hcd
  rw [Nat.add_zero] at hr
  have hle := runEnd_le isDigit t 0 (Nat.zero_le _)
  have hbt : bt s (p : Int) = bt t ((0 : Nat) : Int) := by
    have := h.byte h0
    rwa [Nat.add_zero] at this
  have hend : numEnd s p = ((numEnd t 0).1, p + (numEnd t 0).2) ∧ (numEnd t 0).2 ≤ t.size := by
    rw [numEnd, numEnd, hr]
    by_cases c1 : runEnd isDigit t 0 < t.size
    · have hone := h.one 46 c1
      have hone' : hasAt s (p + runEnd isDigit t 0) dot = hasAt t (runEnd isDigit t 0) dot := hone
      have hr2 := h.run isDigit (i := runEnd isDigit t 0 + 1) (by omega) hcd
      have hle2 := runEnd_le isDigit t (runEnd isDigit t 0 + 1) (by omega)
      rw [hone', show p + runEnd isDigit t 0 + 1 = p + (runEnd isDigit t 0 + 1) by omega, hr2]
      by_cases c2 : hasAt t (runEnd isDigit t 0) dot = true ∧ runEnd isDigit t (runEnd isDigit t 0 + 1) ≠ runEnd isDigit t 0 + 1
      · rw [if_pos c2, if_pos ⟨c2.1, by omega⟩]
        exact ⟨rfl, hle2⟩
      · rw [if_neg c2, if_neg (fun x => c2 ⟨x.1, by omega⟩)]
        exact ⟨rfl, hle⟩
    · have e : runEnd isDigit t 0 = t.size := by omega
      rw [e]
      have ht : ¬ (hasAt t t.size dot = true ∧ runEnd isDigit t (t.size + 1) ≠ t.size + 1) := by
        rintro ⟨x, _⟩
        have := hasAt_size t dot t.size x (by decide)
        have hd1 : dot.size = 1 := rfl
        omega
      rw [if_neg ht]
      refine ⟨?_, Nat.le_refl _⟩
      rw [if_neg]
      rintro ⟨x, y⟩
      have x1 := (hasAt_one s (p + t.size) 46).1 x
      rw [h.next] at x1
      have x2 : fst R = 46 := x1.2
      apply y
      rcases hd x2 with hl | hl
      · exact runEnd_out (by omega)
      · by_cases hlt : p + t.size + 1 < s.size
        · exact runEnd_stop hlt (by rw [h.next2]; exact hl)
        · exact runEnd_out hlt
  have hbad : numBad s p = numBad t 0 := by
    rw [numBad, numBad, hend.1, hr, hbt, show p + runEnd isDigit t 0 - p = runEnd isDigit t 0 - 0 by omega]
    congr 1
    by_cases c1 : (numEnd t 0).2 < t.size
    · rw [h.byte c1, decide_eq_true c1, decide_eq_true (show p + (numEnd t 0).2 < s.size by omega)]
    · have e : (numEnd t 0).2 = t.size := by omega
      rw [e, h.next]
      rcases hc with rfl | hc
      · rw [List.length_nil] at hs
        rw [decide_eq_false (show ¬ p + t.size < s.size by omega), decide_eq_false (Nat.lt_irrefl _)]
        rfl
      · rw [hc, decide_eq_false (Nat.lt_irrefl _), Bool.and_false, Bool.false_and]
  revert hb
  rw [numTok, numTok, hbad, hend.1]
  cases numBad t 0
  · simp only [Bool.false_eq_true, if_false]
    intro _; first | rfl | trivial
  · simp
end Go.Proofs.YtmnnhbikdgpedaaDoor.Lx
