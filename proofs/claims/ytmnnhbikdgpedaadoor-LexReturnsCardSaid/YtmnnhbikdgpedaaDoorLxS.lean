/- THE PLAIN LAW, part 3: keywords and names of the reference. -/
import Derived.Test.YtmnnhbikdgpedaaDoorLxQ
namespace Go.Proofs.YtmnnhbikdgpedaaDoor.Lx
open Go.RowKit Go.Proofs.YtmnnhbikdgpedaaDoorW.PrintWords Go.Proofs.YtmnnhbikdgpedaaDoorW.PrintLast Go.Proofs.YtmnnhbikdgpedaaDoorW.PrintMore
open Go.Proofs.YtmnnhbikdgpedaaDoor.PLexTokens
set_option linter.unusedVariables false
set_option linter.unusedSimpArgs false

theorem toList_inj (x y : ByteArray) : (x.toList = y.toList) ↔ x = y := by
  rw [Lib.toList_data, Lib.toList_data]
  exact ⟨ba_ext, fun h => by rw [h]⟩
theorem toList_nil (x : ByteArray) : (x.toList = ([] : List UInt8)) ↔ x.size = 0 := by
  rw [Lib.toList_data, Lib.size_eq]
  exact List.length_eq_zero_iff.symm

theorem hasWord_l0 (L : List ByteArray) (x : ByteArray) (hL : L.length ≤ 70000) : ∀ (d j k : Nat), j ≤ L.length → L.length - j = d → d < k →
    entailref02_HasWord.l0 k L x (j : Int) = some (inList (L.drop j) x)
  | d, j, 0, _, _, h => by omega
  | d, j, k + 1, hj, hd, hk => by
    rw [entailref02_HasWord.l0]
    by_cases h : j < L.length
    · have e : rdOf ByteArray.empty L (j : Int) = L[j] := by rw [rdOf, Int.toNat_natCast, List.getD_eq_getElem?_getD, List.getElem?_eq_getElem h, Option.getD_some]
      rw [if_pos (by omega), if_pos (Int.natCast_nonneg _), wrap_one j (by omega), e, List.drop_eq_getElem_cons h]
      by_cases hp : L[j] = x
      · rw [if_pos ((toList_inj _ _).mpr hp), inList, List.any_cons, hp]; simp
      · rw [if_neg (fun h => hp ((toList_inj _ _).mp h)), hasWord_l0 L x hL (d - 1) (j + 1) k (by omega) (by omega) (by omega), inList, inList, List.any_cons, decide_eq_false hp, Bool.false_or]
    · rw [if_neg (by omega), List.drop_eq_nil_of_le (by omega)]
      rfl
theorem hasWord_f (L : List ByteArray) (x : ByteArray) (k : Nat) (hL : L.length ≤ 70000) (hk : L.length < k) : entailref02_HasWord.f k L x = some (inList L x) :=
  hasWord_l0 L x hL L.length 0 k (by omega) rfl hk

theorem isNumber_l0 (x : ByteArray) (hs : x.size ≤ 70000) : ∀ (d j k : Nat), j ≤ x.size → x.size - j = d → d < k →
    entailref02_IsNumber.l0 k x (j : Int) = some (decide (runEnd isDigit x j = x.size))
  | d, j, 0, _, _, h => by omega
  | d, j, k + 1, hj, hd, hk => by
    rw [entailref02_IsNumber.l0]
    by_cases h : j < x.size
    · rw [if_pos (by omega), if_pos (Int.natCast_nonneg _), isDigit_f, Option.bind_some]
      by_cases hp : isDigit (bt x (j : Nat)) = true
      · rw [if_pos hp, wrap_one j (by omega), isNumber_l0 x hs (d - 1) (j + 1) k (by omega) (by omega) (by omega), runEnd_step h hp]
      · rw [if_neg hp, runEnd_stop h (by simpa using hp), decide_eq_false (by omega)]
    · rw [if_neg (by omega), runEnd_out h, decide_eq_true (by omega)]

/-- The reference's IsNumber for a bound of two. -/
theorem isNumber_f (x : ByteArray) (k : Nat) (hk : 10 < k) :
    entailref02_IsNumber.f k x 2 = some (decide (0 < x.size) && decide (x.size ≤ 2) && !(decide (1 < x.size) && (bt x 0 == 48)) && decide (runEnd isDigit x 0 = x.size)) := by
  obtain ⟨k, rfl⟩ : ∃ k', k = k' + 1 := ⟨k - 1, by omega⟩
  unfold entailref02_IsNumber.f
  by_cases h0 : x.size = 0
  · rw [if_pos ((toList_nil x).mpr h0), entailref02_IsNumber.j0, if_pos rfl, decide_eq_false (by omega)]; rfl
  · rw [if_neg (fun h => h0 ((toList_nil x).mp h)), decide_eq_true (show 0 < x.size by omega)]
    by_cases h1 : x.size ≤ 2
    · rw [if_neg (by omega), decide_eq_true h1]
      have hl := isNumber_l0 x (by omega) x.size 0 k (by omega) rfl (by omega)
      by_cases h2 : 1 < x.size
      · rw [if_pos (by omega), if_pos (by omega), entailref02_IsNumber.j0, decide_eq_true h2]
        by_cases h3 : bt x 0 = 48
        · rw [if_pos (by simp [h3]), h3]; rfl
        · have h4 : (bt x 0 == 48) = false := by simp [h3]
          rw [h4, if_neg (by simp)]
          exact hl
      · rw [if_neg (by omega), entailref02_IsNumber.j0, if_neg (by simp), decide_eq_false h2]
        exact hl
    · rw [if_pos (by omega), entailref02_IsNumber.j0, if_pos rfl, decide_eq_false h1]; rfl

theorem keywords_f : entailref02_Keywords.f = some keywordsL := rfl

theorem allDigits_runEnd (d : ByteArray) : allDigits d d.size = decide (runEnd isDigit d 0 = d.size) := by
  have h1 : ∀ n j, d.size - j = n → j ≤ d.size → (runEnd isDigit d j = d.size ↔ ∀ i, j ≤ i → i < d.size → isDigit (bt d (i : Nat)) = true) := by
    intro n
    induction n with
    | zero =>
      intro j h1 h2
      rw [runEnd_out (by omega)]
      constructor
      · intro _ i h3 h4; omega
      · intro _; omega
    | succ n ih =>
      intro j h1 h2
      have hj : j < d.size := by omega
      by_cases hp : isDigit (bt d (j : Nat)) = true
      · rw [runEnd_step hj hp, ih (j + 1) (by omega) (by omega)]
        constructor
        · intro h i h3 h4
          rcases Nat.eq_or_lt_of_le h3 with h5 | h5
          · rw [← h5]; exact hp
          · exact h i h5 h4
        · intro h i h3 h4
          exact h i (by omega) h4
      · rw [runEnd_stop hj (by simpa using hp)]
        constructor
        · intro h; omega
        · intro h; exact absurd (h j (Nat.le_refl _) hj) hp
  have h2 := h1 d.size 0 (by omega) (by omega)
  apply Bool.eq_iff_iff.mpr
  rw [decide_eq_true_iff, h2, allDigits, List.all_eq_true]
  constructor
  · intro h i _ hi; exact h i (by simpa using hi)
  · intro h i hi; exact h i (by omega) (by simpa using hi)

theorem behind2_eq (x : ByteArray) : behind2 x = x.extract 2 x.size := by
  apply ba_ext
  rw [behind2, Lib.extract_data]
  show _ = _
  simp only [List.toList_toArray]
  exact (List.take_of_length_le (by rw [List.length_drop, Lib.size_eq]; exact Nat.le_refl _)).symm

theorem isBits_f (x : ByteArray) (k : Nat) (hk : 20 < k) : entailref02_IsBits.f k x = some (isWide x) := by
  unfold entailref02_IsBits.f
  by_cases h0 : (x.size : Int) < 3
  · rw [if_pos h0, isWide]
    have : (behind2 x).size = x.size - 2 := by rw [behind2_eq]; simp
    cases hp : Lib.hasPrefix x.data.toList [98, 118]
    · rfl
    · rw [decide_eq_false (show ¬ 0 < (behind2 x).size by omega)]; rfl
  · rw [if_neg h0, if_pos (by omega), if_pos (by omega), isNumber_f _ _ (by omega)]
    have hsz : (behind2 x).size = x.size - 2 := by rw [behind2_eq]; simp
    have hpre : ((x.extract 0 2).toList = ([98, 118] : List UInt8)) ↔ Lib.hasPrefix x.data.toList [98, 118] = true := by
      rw [Lib.toList_data, Lib.extract_data, List.drop_zero, Lib.hasPrefix, List.isPrefixOf_iff_prefix, List.prefix_iff_eq_take]
      exact eq_comm
    by_cases hp : Lib.hasPrefix x.data.toList [98, 118] = true
    · rw [if_pos (hpre.mpr hp), Option.bind_some, isWide, hp, ← behind2_eq, allDigits_runEnd]
      generalize hd : behind2 x = d at *
      have hx : x.size = d.size + 2 := by omega
      rw [hx, decide_eq_true (show 0 < d.size by omega)]
      by_cases h2 : d.size ≤ 2
      · rw [decide_eq_true h2]
        by_cases h5 : runEnd isDigit d 0 = d.size
        · rw [decide_eq_true h5]
          have hall : allDigits d d.size = true := by rw [allDigits_runEnd, decide_eq_true h5]
          obtain ⟨⟨l⟩⟩ := d
          have hl : (ByteArray.mk ⟨l⟩).size = l.length := rfl
          rcases l with _ | ⟨a, _ | ⟨b, _ | ⟨c, l⟩⟩⟩
          · have : (ByteArray.mk ⟨[]⟩).size = 0 := rfl
            omega
          · have ea : bt ⟨⟨[a]⟩⟩ 0 = (a.toNat : Int) := rfl
            have ev : decVal ⟨⟨[a]⟩⟩ (ByteArray.mk ⟨[a]⟩).size = 10 * 0 + ((a.toNat : Int) - 48) := rfl
            have hda : isDigit (a.toNat : Int) = true := by
              have := List.all_eq_true.mp hall 0 (by simp [hl])
              exact this
            rw [isDigit] at hda
            simp only [Bool.and_eq_true, decide_eq_true_eq] at hda
            rw [ea, ev, hl]
            have e1 : ((ByteArray.mk ⟨[a]⟩).toList = ([48] : List UInt8)) ↔ a.toNat = 48 := by
              rw [Lib.toList_data]
              show [a] = [48] ↔ _
              simp only [List.cons.injEq, and_true]
              exact ⟨fun h => by rw [h]; rfl, fun h => UInt8.toNat_inj.1 h⟩
            simp only [List.length_cons, List.length_nil, e1]
            by_cases h6 : a.toNat = 48
            · simp [h6]
            · simp [h6]
              omega
          · have ea : bt ⟨⟨[a, b]⟩⟩ 0 = (a.toNat : Int) := rfl
            have ev : decVal ⟨⟨[a, b]⟩⟩ (ByteArray.mk ⟨[a, b]⟩).size = 10 * (10 * 0 + ((a.toNat : Int) - 48)) + ((b.toNat : Int) - 48) := rfl
            have hda : isDigit (a.toNat : Int) = true := List.all_eq_true.mp hall 0 (by simp [hl])
            have hdb : isDigit (b.toNat : Int) = true := List.all_eq_true.mp hall 1 (by simp [hl])
            rw [isDigit] at hda hdb
            simp only [Bool.and_eq_true, decide_eq_true_eq] at hda hdb
            rw [ea, ev, hl]
            have e1 : ¬ ((ByteArray.mk ⟨[a, b]⟩).toList = ([48] : List UInt8)) := by
              rw [Lib.toList_data]
              show ¬ [a, b] = [48]
              simp
            have e2 : Op.bytesLess [54, 52] ((ByteArray.mk ⟨[a, b]⟩).toList) = (decide (54 < a.toNat) || (decide (54 = a.toNat) && decide (52 < b.toNat))) := by
              rw [Lib.toList_data]
              show Op.bytesLess [54, 52] [a, b] = _
              have g1 : ∀ (n : UInt8) (m : UInt8), decide (n < m) = decide (n.toNat < m.toNat) := fun n m => by
                apply Bool.eq_iff_iff.mpr; rw [decide_eq_true_iff, decide_eq_true_iff]; exact UInt8.lt_iff_toNat_lt
              have g2 : ∀ (n : UInt8) (m : UInt8), (n == m) = decide (n.toNat = m.toNat) := fun n m => by
                apply Bool.eq_iff_iff.mpr; rw [decide_eq_true_iff, beq_iff_eq]; exact UInt8.toNat_inj.symm
              simp only [Op.bytesLess, g1, g2, Bool.and_false, Bool.or_false]
              rfl
            rw [e2]
            simp only [List.length_cons, List.length_nil, e1]
            by_cases h6 : a.toNat = 48
            · simp [h6]
            · have : ((a.toNat : Int) == 48) = false := by simp; omega
              simp [h6, this]
              by_cases h7 : 54 < a.toNat
              · simp [h7]; omega
              · by_cases h8 : 54 = a.toNat
                · simp [← h8]; by_cases h9 : 52 < b.toNat
                  · simp [h9]; omega
                  · simp [h9]; omega
                · simp [h7, h8]; omega
          · simp at hl; omega
        · rw [decide_eq_false h5]
          simp
      · rw [decide_eq_false h2]
        simp
    · rw [if_neg (fun h => hp (hpre.mp h)), isWide, Bool.eq_false_iff.mpr hp]
      rfl

theorem isKeyword_f (x : ByteArray) (k : Nat) (hk : 60 < k) : entailref02_IsKeyword.f k x = some (isKeyword x) := by
  unfold entailref02_IsKeyword.f
  rw [keywords_f, Option.bind_some, hasWord_f _ _ _ (by decide) (show keywordsL.length < k by have : keywordsL.length = 57 := rfl; omega), Option.bind_some, isBits_f _ _ (by omega), isKeyword]
  cases inList keywordsL x <;> rfl

/-! ### names -/
/-- A name: what IsName says. -/
def isNameB (x : ByteArray) : Bool := decide (0 < x.size) && decide (x.size ≤ 24) && decide (wordEnd x 0 = x.size) && !isKeyword x

theorem isName_l0 (x : ByteArray) (hs : x.size ≤ 70000) : ∀ (d j k : Nat), j ≤ x.size → x.size - j = d → d < k →
    entailref02_IsName.l0 k x (j : Int) = some (decide (runEnd cls x j = x.size))
  | d, j, 0, _, _, h => by omega
  | d, j, k + 1, hj, hd, hk => by
    rw [entailref02_IsName.l0]
    by_cases h : j < x.size
    · rw [if_pos (by omega), if_pos (Int.natCast_nonneg _), isLetter_f, Option.bind_some, isDigit_f, Option.bind_some, wrap_one j (by omega)]
      have ih := isName_l0 x hs (d - 1) (j + 1) k (by omega) (by omega) (by omega)
      rw [ih]
      by_cases hp : cls (bt x (j : Nat)) = true
      · rw [runEnd_step h hp]
        rw [cls] at hp
        by_cases c1 : isLetter (bt x (j : Nat)) = true
        · rw [if_pos c1]
        · rw [if_neg c1]
          by_cases c2 : isDigit (bt x (j : Nat)) = true
          · rw [if_pos c2]
          · rw [if_neg c2]
            rw [Bool.eq_false_iff.mpr c1, Bool.eq_false_iff.mpr c2] at hp
            rw [if_pos (show bt x (j : Nat) = 95 by simpa using hp)]
      · have hp2 : cls (bt x (j : Nat)) = false := by simpa using hp
        rw [runEnd_stop h hp2, decide_eq_false (show ¬ j = x.size by omega)]
        rw [cls] at hp2
        simp only [Bool.or_eq_false_iff, beq_eq_false_iff_ne] at hp2
        rw [if_neg (by rw [hp2.1.1]; simp), if_neg (by rw [hp2.1.2]; simp), if_neg hp2.2]
    · rw [if_neg (by omega), runEnd_out h, decide_eq_true (by omega)]

theorem isName_f (x : ByteArray) (k : Nat) (hk : 100 < k) : entailref02_IsName.f k x = some (isNameB x) := by
  obtain ⟨k, rfl⟩ : ∃ k', k = k' + 1 := ⟨k - 1, by omega⟩
  unfold entailref02_IsName.f isNameB
  by_cases h0 : x.size = 0
  · rw [if_pos ((toList_nil x).mpr h0), entailref02_IsName.j0, if_pos rfl, decide_eq_false (by omega)]; rfl
  rw [if_neg (fun h => h0 ((toList_nil x).mp h)), decide_eq_true (show 0 < x.size by omega)]
  by_cases h1 : x.size ≤ 24
  · rw [if_neg (by omega), decide_eq_true h1, if_pos (by omega), isLetter_f, Option.bind_some]
    by_cases h2 : isLetter (bt x 0) = true
    · have hw : wordEnd x 0 = runEnd cls x 0 := by unfold wordEnd; exact if_pos ⟨by omega, h2⟩
      rw [if_pos h2, isKeyword_f _ _ (by omega), Option.bind_some, entailref02_IsName.j0, hw]
      have hl := isName_l0 x (by omega) x.size 0 k (by omega) rfl (by omega)
      cases isKeyword x
      · rw [if_neg (by simp)]
        refine hl.trans ?_
        simp
      · rw [if_pos rfl]; simp
    · have hw : wordEnd x 0 = 0 := by unfold wordEnd; exact if_neg (fun h => h2 h.2)
      rw [if_neg h2, entailref02_IsName.j0, if_pos rfl, hw, decide_eq_false (show ¬ 0 = x.size by omega)]; rfl
  · rw [if_pos (by omega), entailref02_IsName.j0, if_pos rfl, decide_eq_false h1]; rfl

theorem letter_range {c : Int} (h : isLetter c = true) : 65 ≤ c := by
  rw [isLetter] at h
  simp only [Bool.or_eq_true, Bool.and_eq_true, decide_eq_true_eq] at h
  omega
theorem wordEnd_pos {x : ByteArray} {i : Nat} (h : wordEnd x i ≠ i) : i < x.size ∧ isLetter (bt x (i : Nat)) = true := by
  rw [wordEnd] at h
  by_cases h2 : i < x.size ∧ isLetter (bt x (i : Nat)) = true
  · exact h2
  · rw [if_neg h2] at h; exact absurd rfl h

def isUpperB (x : ByteArray) : Bool := isNameB x && decide (bt x 0 ≤ 90)
theorem isUpper_f (x : ByteArray) (k : Nat) (hk : 100 < k) : entailref02_IsUpper.f k x = some (isUpperB x) := by
  unfold entailref02_IsUpper.f isUpperB
  rw [isName_f _ _ hk, Option.bind_some]
  by_cases h : isNameB x = true
  · rw [if_pos h, h]
    rw [isNameB] at h
    simp only [Bool.and_eq_true, decide_eq_true_eq] at h
    have h2 := wordEnd_pos (x := x) (i := 0) (by omega)
    have h3 := letter_range h2.2
    rw [if_pos (by omega), if_pos (show bt x 0 ≥ 65 from h3)]; rfl
  · rw [if_neg h, Bool.eq_false_iff.mpr h]; rfl
end Go.Proofs.YtmnnhbikdgpedaaDoor.Lx
