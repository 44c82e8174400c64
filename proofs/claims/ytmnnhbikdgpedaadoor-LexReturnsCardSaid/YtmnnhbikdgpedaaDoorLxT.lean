/- THE PLAIN LAW, part 4: one token of the reference. -/
import Derived.Test.YtmnnhbikdgpedaaDoorLxS
namespace Go.Proofs.YtmnnhbikdgpedaaDoor.Lx
open Go.RowKit Go.Proofs.YtmnnhbikdgpedaaDoorW.PrintWords Go.Proofs.YtmnnhbikdgpedaaDoorW.PrintLast Go.Proofs.YtmnnhbikdgpedaaDoorW.PrintMore
open Go.Proofs.YtmnnhbikdgpedaaDoor.PLexTokens
set_option linter.unusedVariables false
set_option linter.unusedSimpArgs false

/-- What the reference answers for a token at i. -/
def refTok (s : ByteArray) (i : Nat) (x : Tok) : Int × ByteArray × Int × Int := if x.bad = 0 then (x.kind, s.extract i x.fin, (i : Int), 0) else (0, ⟨#[]⟩, 0, x.bad)

/-! ### number -/
theorem cls_tail {s : ByteArray} (i : Nat) : (decide (runEnd isDigit s i < s.size) && cls (bt s (runEnd isDigit s i : Nat))) = (decide (runEnd isDigit s i < s.size) && (isLetter (bt s (runEnd isDigit s i : Nat)) || (bt s (runEnd isDigit s i : Nat) == 95))) := by
  by_cases h : runEnd isDigit s i < s.size
  · rw [cls, runEnd_not i h, Bool.or_false]
  · rw [decide_eq_false h]; rfl

theorem number_f (s : ByteArray) (i k : Nat) (hs : s.size ≤ 70000) (hi : i < s.size) (hd : isDigit (bt s (i : Nat)) = true) (hk : s.size + 10 < k) :
    entailref03_number.f k (rest s i) (i : Int) = some (refTok s i (numTok s i)) := by
  obtain ⟨k, rfl⟩ : ∃ k', k = k' + 1 := ⟨k - 1, by omega⟩
  obtain ⟨k, rfl⟩ : ∃ k', k = k' + 1 := ⟨k - 1, by omega⟩
  unfold entailref03_number.f
  rw [digits_f s i _ hs (by omega) (by omega), Option.bind_some]
  have hgt := runEnd_gt hi hd
  have hle := runEnd_le isDigit s i (by omega)
  have hge2 := runEnd_ge isDigit s (runEnd isDigit s i + 1)
  have hle2 : runEnd isDigit s i < s.size → runEnd isDigit s (runEnd isDigit s i + 1) ≤ s.size := fun h => runEnd_le isDigit s _ (by omega)
  have ht1 := cls_tail (s := s) i
  have ht2 := cls_tail (s := s) (runEnd isDigit s i + 1)
  have hdot := hasAt_one s (runEnd isDigit s i) 46
  unfold numTok numBad numEnd refTok
  generalize runEnd isDigit s i = e at *
  have hcut : (rest s i).extract 0 (((e - i : Nat) : Int)).toNat = s.extract i e := by
    rw [Int.toNat_natCast, rest_cut s i 0 (e - i) (by omega), Nat.add_zero, show i + (e - i) = e by omega]
  rw [if_pos (Int.natCast_nonneg _), if_pos (by rw [rest_size]; omega), hcut]
  have hb0 : bt (rest s i) 0 = bt s (i : Int) := rest_bt s i 0 hi
  have hbe : e < s.size → bt (rest s i) ((e - i : Nat) : Int) = bt s (e : Int) := fun h => by
    rw [rest_bt s i (e - i) (by omega), show i + (e - i) = e by omega]
  have hlt : (((e - i : Nat) : Int) < ((rest s i).size : Int)) ↔ e < s.size := by rw [rest_size]; omega
  -- the tail, whole
  have j1f : ∀ k, s.size + 5 < k → (hasAt s e dot = true → ¬ runEnd isDigit s (e + 1) ≠ e + 1) → entailref03_number.j1 k (rest s i) (i : Int) ((e - i : Nat) : Int) false 2 (s.extract i e) (i : Int) =
      some (if (decide (e < s.size) && cls (bt s (e : Nat))) = true then (0, ⟨#[]⟩, 0, 22) else (2, s.extract i e, (i : Int), 0)) := by
    intro k hk _
    obtain ⟨k, rfl⟩ : ∃ k', k = k' + 1 := ⟨k - 1, by omega⟩
    rw [entailref03_number.j1, if_neg (by simp), ht1]
    by_cases h : e < s.size
    · rw [if_pos (hlt.mpr h), if_pos (Int.natCast_nonneg _), hbe h, isLetter_f, Option.bind_some, decide_eq_true h, Bool.true_and]
      by_cases h1 : isLetter (bt s (e : Int)) = true
      · rw [if_pos h1, h1]; rfl
      · rw [if_neg h1, Bool.eq_false_iff.mpr h1, Bool.false_or]
        by_cases h2 : bt s (e : Int) = 95
        · rw [if_pos h2, h2]; rfl
        · rw [if_neg h2, if_neg (by simpa using h2)]
    · rw [if_neg (fun h2 => h (hlt.mp h2)), decide_eq_false h]; rfl
  have j1t : ∀ k, s.size + 5 < k → e < s.size → entailref03_number.j1 k (rest s i) (i : Int) ((e - i : Nat) : Int) true 2 (s.extract i e) (i : Int) =
      some (if (decide (runEnd isDigit s (e + 1) < s.size) && cls (bt s (runEnd isDigit s (e + 1) : Nat))) = true then (0, ⟨#[]⟩, 0, 22) else (3, s.extract i (runEnd isDigit s (e + 1)), (i : Int), 0)) := by
    intro k hk h
    obtain ⟨k, rfl⟩ : ∃ k', k = k' + 1 := ⟨k - 1, by omega⟩
    have hl2 := hle2 h
    rw [entailref03_number.j1, if_pos rfl, wrap_one _ (by omega), if_pos (Int.natCast_nonneg _), if_pos (by rw [rest_size]; omega), Int.toNat_natCast, rest_rest, show i + (e - i + 1) = e + 1 by omega, digits_f s (e + 1) _ hs (by omega) (by omega), Option.bind_some, ht2]
    generalize runEnd isDigit s (e + 1) = f at *
    rw [wrap_add _ _ (by omega), show e - i + 1 + (f - (e + 1)) = f - i by omega, if_pos (Int.natCast_nonneg _), if_pos (by rw [rest_size]; omega), Int.toNat_natCast, rest_cut s i 0 (f - i) (by omega), Nat.add_zero, show i + (f - i) = f by omega]
    by_cases h3 : f < s.size
    · rw [if_pos (by rw [rest_size]; omega), rest_bt s i (f - i) (by omega), show i + (f - i) = f by omega, isLetter_f, Option.bind_some, decide_eq_true h3, Bool.true_and]
      by_cases h1 : isLetter (bt s (f : Int)) = true
      · rw [if_pos h1, h1]; rfl
      · rw [if_neg h1, Bool.eq_false_iff.mpr h1, Bool.false_or]
        by_cases h2 : bt s (f : Int) = 95
        · rw [if_pos h2, h2]; rfl
        · rw [if_neg h2, if_neg (by simpa using h2)]
    · rw [if_neg (by rw [rest_size]; omega), decide_eq_false h3]; rfl
  -- behind the first test
  have j0f : entailref03_number.j0 (k + 1 + 1) (rest s i) (i : Int) ((e - i : Nat) : Int) false 2 (s.extract i e) (i : Int) =
      some (if hasAt s e dot = true ∧ runEnd isDigit s (e + 1) ≠ e + 1 then (if (decide (runEnd isDigit s (e + 1) < s.size) && cls (bt s (runEnd isDigit s (e + 1) : Nat))) = true then (0, ⟨#[]⟩, 0, 22) else (3, s.extract i (runEnd isDigit s (e + 1)), (i : Int), 0))
        else (if (decide (e < s.size) && cls (bt s (e : Nat))) = true then (0, ⟨#[]⟩, 0, 22) else (2, s.extract i e, (i : Int), 0))) := by
    rw [entailref03_number.j0, if_neg (by simp)]
    by_cases h : e < s.size
    · rw [if_pos (hlt.mpr h), if_pos (Int.natCast_nonneg _), hbe h]
      by_cases h1 : bt s (e : Int) = 46
      · have h2 : hasAt s e dot = true := hdot.mpr ⟨h, h1⟩
        rw [if_pos h1, wrap_one _ (by omega), if_pos (Int.natCast_nonneg _), if_pos (by rw [rest_size]; omega), Int.toNat_natCast, rest_rest, show i + (e - i + 1) = e + 1 by omega, digits_f s (e + 1) _ hs (by omega) (by omega), Option.bind_some]
        by_cases h3 : runEnd isDigit s (e + 1) = e + 1
        · rw [decide_eq_false (by omega), if_neg (fun hh => hh.2 h3)]
          exact j1f _ (by omega) (fun _ hh => hh h3)
        · rw [decide_eq_true (by omega), if_pos ⟨h2, h3⟩]
          exact j1t _ (by omega) h
      · have h2 : ¬ hasAt s e dot = true := fun hh => h1 (hdot.mp hh).2
        rw [if_neg h1, if_neg (fun hh => h2 hh.1)]
        exact j1f _ (by omega) (fun hh => absurd hh h2)
    · have h2 : ¬ hasAt s e dot = true := fun hh => h (hdot.mp hh).1
      rw [if_neg (fun h2 => h (hlt.mp h2)), if_neg (fun hh => h2 hh.1)]
      exact j1f _ (by omega) (fun hh => absurd hh h2)
  by_cases h1 : 1 < e - i
  · rw [if_pos (by omega), if_pos (by rw [rest_size]; omega), hb0, decide_eq_true h1, Bool.true_and]
    by_cases h2 : bt s (i : Int) = 48
    · rw [show (bt s (i : Int) == 48) = true by simp [h2], entailref03_number.j0, if_pos rfl]; rfl
    · rw [show (bt s (i : Int) == 48) = false by simp [h2], j0f, Bool.false_or]
      by_cases h3 : hasAt s e dot = true ∧ runEnd isDigit s (e + 1) ≠ e + 1
      · rw [if_pos h3, if_pos h3]
        dsimp only
        split <;> rfl
      · rw [if_neg h3, if_neg h3]
        dsimp only
        split <;> rfl
  · rw [if_neg (by omega), decide_eq_false h1, Bool.false_and, j0f, Bool.false_or]
    by_cases h3 : hasAt s e dot = true ∧ runEnd isDigit s (e + 1) ≠ e + 1
    · rw [if_pos h3, if_pos h3]
      dsimp only
      split <;> rfl
    · rw [if_neg h3, if_neg h3]
      dsimp only
      split <;> rfl

/-! ### sign -/
def bestN (s : ByteArray) (i : Nat) : Nat → Nat
  | 0 => 0
  | n + 1 => if hasAt s i (sg n) && decide (bestN s i n < (sg n).size) then (sg n).size else bestN s i n

theorem sg_head : ∀ n, n < 39 → (sg n).data.toList.head? ≠ some 95 := by
  have h : (List.range 39).all (fun n => decide ((sg n).data.toList.head? ≠ some 95)) = true := by decide +kernel
  intro n hn
  simpa using List.all_eq_true.mp h n (by simpa using hn)

theorem sign_low (s : ByteArray) (i n : Nat) (hn : n < 39) (h : bt s (i : Int) = 95) : hasAt s i (sg n) = false := by
  rw [Bool.eq_false_iff]
  intro hh
  have h1 := sg_head n hn
  have h2 := sg_size n hn
  have h3 := hasAt_size s (sg n) i hh h2
  rw [hasAt_iff] at hh
  rw [bt_list, List.getD_eq_getElem?_getD] at h
  have h4 : i < s.data.toList.length := by rw [← Lib.size_eq]; omega
  rw [List.getElem?_eq_getElem h4, Option.getD_some] at h
  rw [List.drop_eq_getElem_cons h4] at hh
  rw [Lib.size_eq] at h2
  generalize (sg n).data.toList = l at *
  cases l with
  | nil => simp at h2
  | cons a l =>
    have h5 := (List.cons_prefix_cons.mp hh).1
    apply h1
    rw [List.head?_cons, h5]
    congr 1
    apply UInt8.toNat_inj.1
    show _ = 95
    omega

theorem bestSign_N (s : ByteArray) (i : Nat) : ∀ n, n ≤ 39 → (bt s (i : Int) = 95 → (bestSign s i n).size = 1 ∧ bestN s i n = 0) ∧ (bt s (i : Int) ≠ 95 → (bestSign s i n).size = bestN s i n)
  | 0, _ => by
    constructor
    · intro h; rw [bestSign, if_pos h]; exact ⟨rfl, rfl⟩
    · intro h; rw [bestSign, if_neg h]; rfl
  | n + 1, hn => by
    have ih := bestSign_N s i n (by omega)
    constructor
    · intro h
      rw [bestSign, bestN, sign_low s i n (by omega) h]
      exact ih.1 h
    · intro h
      rw [bestSign, bestN, ih.2 h]
      split
      · rfl
      · exact ih.2 h

theorem hasAt_rest (s p : ByteArray) (i : Nat) (hi : i ≤ s.size) : hasAt s i p = true ↔ p.size ≤ (rest s i).size ∧ (rest s i).extract 0 p.size = p := by
  have hd : (rest s i).data.toList = s.data.toList.drop i := by
    rw [rest, Lib.extract_data, List.take_of_length_le (by rw [List.length_drop, Lib.size_eq]; exact Nat.le_refl _)]
  rw [hasAt_iff, List.prefix_iff_eq_take]
  constructor
  · intro h
    have h2 : p.size ≤ (rest s i).size := by
      rw [Lib.size_eq, Lib.size_eq, hd]
      have := congrArg List.length h
      rw [List.length_take] at this
      omega
    refine ⟨h2, ba_ext ?_⟩
    rw [Lib.extract_data, hd, List.drop_zero, Nat.sub_zero, Lib.size_eq]
    exact h.symm
  · rintro ⟨h1, h2⟩
    have := congrArg (fun x => x.data.toList) h2
    rw [Lib.extract_data, hd, List.drop_zero, Nat.sub_zero, Lib.size_eq] at this
    exact this.symm

theorem signs_f : entailref03_Signs.f = some signsL := rfl
theorem sign_l0 (s : ByteArray) (i : Nat) (hi : i < s.size) (hs : s.size ≤ 70000) : ∀ (d j k : Nat), j ≤ 39 → 39 - j = d → d < k →
    entailref03_sign.l0 k (rest s i) signsL (bestN s i j : Int) (j : Int) = some (((signOf s i).size : Nat) : Int)
  | d, j, 0, _, _, h => by omega
  | d, j, k + 1, hj, hd, hk => by
    rw [entailref03_sign.l0]
    have hlen : (signsL.length : Int) = 39 := rfl
    by_cases h : j < 39
    · have e : rdOf ByteArray.empty signsL (j : Int) = sg j := by rw [rdOf, Int.toNat_natCast]; rfl
      rw [if_pos (by omega), if_pos (Int.natCast_nonneg _), wrap_one j (by omega), e]
      have ih := sign_l0 s i hi hs (d - 1) (j + 1) k (by omega) (by omega) (by omega)
      have hh := hasAt_rest s (sg j) i (by omega)
      rw [bestN] at ih
      by_cases h1 : bestN s i j < (sg j).size
      · rw [if_pos (by omega)]
        rw [decide_eq_true h1, Bool.and_true] at ih
        by_cases h2 : (sg j).size ≤ (rest s i).size
        · rw [if_pos (by omega), if_pos (Int.natCast_nonneg _), Int.toNat_natCast]
          by_cases h3 : (rest s i).extract 0 (sg j).size = sg j
          · rw [if_pos ((toList_inj _ _).mpr h3)]
            rw [if_pos (hh.mpr ⟨h2, h3⟩)] at ih
            exact ih
          · rw [if_neg (fun q => h3 ((toList_inj _ _).mp q))]
            rw [if_neg (fun q => h3 (hh.mp q).2)] at ih
            exact ih
        · rw [if_neg (by omega)]
          rw [if_neg (fun q => h2 (hh.mp q).1)] at ih
          exact ih
      · rw [if_neg (by omega)]
        rw [decide_eq_false h1, Bool.and_false, if_neg (by simp)] at ih
        exact ih
    · obtain rfl : j = 39 := by omega
      rw [if_neg (by omega)]
      have hb := bestSign_N s i 39 (Nat.le_refl _)
      have hb0 : bt (rest s i) 0 = bt s (i : Int) := rest_bt s i 0 hi
      have hne : ¬ (rest s i).toList = ([] : List UInt8) := fun q => by
        have := (toList_nil _).mp q
        rw [rest_size] at this
        omega
      rw [signOf]
      by_cases h1 : bt s (i : Int) = 95
      · obtain ⟨q1, q2⟩ := hb.1 h1
        rw [q1, q2, if_pos (show ((0 : Nat) : Int) = 0 from rfl), if_neg hne, if_pos (by rw [rest_size]; omega), hb0, if_pos h1]; rfl
      · rw [hb.2 h1]
        by_cases h2 : bestN s i 39 = 0
        · rw [h2, if_pos (show ((0 : Nat) : Int) = 0 from rfl), if_neg hne, if_pos (by rw [rest_size]; omega), hb0, if_neg h1]
        · rw [if_neg (by omega)]
theorem sign_f (s : ByteArray) (i k : Nat) (hi : i < s.size) (hs : s.size ≤ 70000) (hk : 50 < k) : entailref03_sign.f k (rest s i) = some (((signOf s i).size : Nat) : Int) := by
  unfold entailref03_sign.f
  rw [signs_f, Option.bind_some]
  exact sign_l0 s i hi hs 39 0 k (by omega) rfl (by omega)
end Go.Proofs.YtmnnhbikdgpedaaDoor.Lx
