/- THE PLAIN LAW, part 5: names, tokens, texts: the reference's Tokens is lex.Tokens. -/
import Derived.Test.YtmnnhbikdgpedaaDoorLxT
import Derived.Test.YtmnnhbikdgpedaaDoorLxL
namespace Go.Proofs.YtmnnhbikdgpedaaDoor.Lx
open Go.RowKit Go.Proofs.YtmnnhbikdgpedaaDoorW.PrintWords Go.Proofs.YtmnnhbikdgpedaaDoorW.PrintLast Go.Proofs.YtmnnhbikdgpedaaDoorW.PrintMore
open Go.Proofs.YtmnnhbikdgpedaaDoor.PLexTokens
set_option linter.unusedVariables false
set_option linter.unusedSimpArgs false

theorem runEnd_cut (p : Int → Bool) (s : ByteArray) (i e : Nat) (he : e ≤ s.size) : ∀ (d j : Nat), e - (i + j) = d → i + j ≤ e → runEnd p s (i + j) = e → runEnd p (s.extract i e) j = e - i
  | 0, j, hd, hj, h => by
    rw [runEnd_out (by simp; omega)]
    omega
  | d + 1, j, hd, hj, h => by
    have h1 : i + j < s.size := by omega
    have h2 : j < (s.extract i e).size := by simp; omega
    by_cases hp : p (bt s ((i + j : Nat) : Int)) = true
    · rw [runEnd_step h1 hp] at h
      rw [runEnd_step h2 (by rw [bt_extract s i e j (by omega) he]; exact hp)]
      exact runEnd_cut p s i e he d (j + 1) (by omega) (by omega) h
    · rw [runEnd_stop h1 (by simpa using hp)] at h
      omega

theorem wordEnd_letter {s : ByteArray} {i : Nat} (hi : i < s.size) (hl : isLetter (bt s (i : Nat)) = true) : wordEnd s i = runEnd cls s i := by
  rw [wordEnd, if_pos ⟨hi, hl⟩]

/-- A word that is cut out is a word. -/
theorem word_cut (s : ByteArray) (i : Nat) (hi : i < s.size) (hl : isLetter (bt s (i : Nat)) = true) : wordEnd (s.extract i (wordEnd s i)) 0 = wordEnd s i - i ∧ (s.extract i (wordEnd s i)).size = wordEnd s i - i ∧ bt (s.extract i (wordEnd s i)) 0 = bt s (i : Int) ∧ i < wordEnd s i := by
  have h1 := wordEnd_letter hi hl
  have hc : cls (bt s (i : Nat)) = true := by rw [cls, hl]; rfl
  have h2 := runEnd_gt hi hc
  have h3 := wordEnd_le s i (by omega)
  have hsz : (s.extract i (wordEnd s i)).size = wordEnd s i - i := by simp; omega
  have hb : bt (s.extract i (wordEnd s i)) 0 = bt s (i : Int) := bt_extract s i (wordEnd s i) 0 (by omega) h3
  refine ⟨?_, hsz, hb, by omega⟩
  rw [wordEnd_letter (by omega) (show isLetter (bt (s.extract i (wordEnd s i)) ((0 : Nat) : Int)) = true by rw [show bt (s.extract i (wordEnd s i)) ((0 : Nat) : Int) = bt s (i : Int) from hb]; exact hl)]
  exact runEnd_cut cls s i (wordEnd s i) h3 _ 0 rfl (by omega) (by rw [h1]; rfl)

theorem upper_cut (s : ByteArray) (i : Nat) (hi : i < s.size) (hl : isLetter (bt s (i : Nat)) = true) (h24 : wordEnd s i - i ≤ 24) :
    isUpperB (s.extract i (wordEnd s i)) = (!isKeyword (s.extract i (wordEnd s i)) && decide (bt s (i : Int) ≤ 90)) := by
  obtain ⟨h1, h2, h3, h4⟩ := word_cut s i hi hl
  rw [isUpperB, isNameB, h1, h2, h3, decide_eq_true (show 0 < wordEnd s i - i by omega), decide_eq_true h24, decide_eq_true (show wordEnd s i - i = wordEnd s i - i from rfl)]
  rfl

theorem named_f (s : ByteArray) (i k : Nat) (hs : s.size ≤ 70000) (hi : i < s.size) (hl : isLetter (bt s (i : Nat)) = true) (hk : s.size + 200 < k) :
    entailref03_named.f k (rest s i) (i : Int) = some (refTok s i (nameTok s i)) := by
  obtain ⟨k, rfl⟩ : ∃ k', k = k' + 1 := ⟨k - 1, by omega⟩
  obtain ⟨k, rfl⟩ : ∃ k', k = k' + 1 := ⟨k - 1, by omega⟩
  unfold entailref03_named.f
  rw [word_f s i _ hs (by omega) (by omega), Option.bind_some]
  have hw := word_cut s i hi hl
  have hle := wordEnd_le s i (by omega)
  have hu := upper_cut s i hi hl
  have hcol := hasAt_pair s (wordEnd s i) 58 58
  have hN : nameTok s i = (if 24 < wordEnd s i - i then ⟨0, i, 6⟩
    else if isKeyword (s.extract i (wordEnd s i)) = true then ⟨1, wordEnd s i, 0⟩
    else if (decide (bt s (i : Int) ≤ 90) && hasAt s (wordEnd s i) colons) = true then
      (if 24 < wordEnd s (wordEnd s i + 2) - (wordEnd s i + 2) then ⟨0, i, 6⟩
      else if wordEnd s (wordEnd s i + 2) ≠ wordEnd s i + 2 ∧ isKeyword (s.extract (wordEnd s i + 2) (wordEnd s (wordEnd s i + 2))) = false then ⟨0, wordEnd s (wordEnd s i + 2), 0⟩
      else ⟨0, wordEnd s i, 0⟩)
    else ⟨0, wordEnd s i, 0⟩) := rfl
  generalize nameTok s i = N at *
  generalize wordEnd s i = e at *
  have hcut : (rest s i).extract 0 (((e - i : Nat) : Int)).toNat = s.extract i e := by
    rw [Int.toNat_natCast, rest_cut s i 0 (e - i) (by omega), Nat.add_zero, show i + (e - i) = e by omega]
  obtain ⟨w1, w2, w3, w4⟩ := hw
  rw [if_pos (Int.natCast_nonneg _), if_pos (by rw [rest_size]; omega), hcut, w2]
  by_cases h24 : 24 < e - i
  · rw [if_pos (by omega)]
    rw [if_pos h24] at hN
    subst hN; rfl
  rw [if_neg h24] at hN
  rw [if_neg (by omega), isUpper_f _ _ (by omega), Option.bind_some, hu (by omega)]
  have j0f : entailref03_named.j0 (k + 1 + 1) (rest s i) (i : Int) ((e - i : Nat) : Int) (s.extract i e) false = some (if isKeyword (s.extract i e) = true then (1, s.extract i e, (i : Int), 0) else (0, s.extract i e, (i : Int), 0)) := by
    rw [entailref03_named.j0, if_neg (by simp), isKeyword_f _ _ (by omega), Option.bind_some]
    split <;> rfl
  by_cases hkw : isKeyword (s.extract i e) = true
  · rw [hkw, Bool.not_true, Bool.false_and, if_neg (by simp), j0f, hkw, if_pos rfl]
    rw [if_pos hkw] at hN
    subst hN; rfl
  have hkw2 := Bool.eq_false_iff.mpr hkw
  rw [if_neg hkw] at hN
  rw [hkw2, Bool.not_false, Bool.true_and]
  rw [if_neg hkw] at j0f
  by_cases hup : bt s (i : Int) ≤ 90
  · rw [decide_eq_true hup, if_pos rfl, wrap_two _ (by omega)]
    rw [decide_eq_true hup, Bool.true_and] at hN
    by_cases h2 : e + 2 < s.size
    · rw [if_pos (by rw [rest_size]; omega), if_pos (by omega), if_pos (by rw [rest_size]; omega), Int.toNat_natCast, Int.toNat_natCast, rest_cut s i (e - i) (e - i + 2) (by omega), show i + (e - i) = e by omega, show i + (e - i + 2) = e + 2 by omega]
      have hcl : colons.toList = [58, 58] := by rw [Lib.toList_data]; rfl
      have hfl : ((s.extract e (e + 2)).toList == ([58, 58] : List UInt8)) = hasAt s e colons := by
        apply Bool.eq_iff_iff.mpr
        rw [beq_iff_eq]
        constructor
        · intro h
          rw [hasAt_rest s colons e (by omega)]
          have hc2 : colons.size = 2 := rfl
          refine ⟨by rw [rest_size]; omega, ?_⟩
          rw [rest_cut s e 0 colons.size (by omega), Nat.add_zero, hc2]
          exact (toList_inj _ colons).mp (by rw [h, hcl])
        · intro h
          have := hasAt_extract s colons e h
          rw [show e + 2 = e + colons.size from rfl, this, hcl]
      rw [hfl]
      by_cases hc : hasAt s e colons = true
      · have hle2 := wordEnd_le s (e + 2) (by omega)
        have hge2 := wordEnd_ge s (e + 2)
        rw [if_pos hc] at hN
        rw [hc, entailref03_named.j0, if_pos rfl, wrap_two _ (by omega), if_pos (Int.natCast_nonneg _), if_pos (by rw [rest_size]; omega), Int.toNat_natCast, rest_rest, show i + (e - i + 2) = e + 2 by omega, word_f s (e + 2) _ hs (by omega) (by omega), Option.bind_some]
        generalize wordEnd s (e + 2) = f at *
        rw [wrap_add _ _ (by omega), show e - i + 2 + (f - (e + 2)) = f - i by omega, if_pos (by omega), if_pos (by rw [rest_size]; omega)]
        by_cases h3 : 24 < f - (e + 2)
        · rw [if_pos (by omega)]
          rw [if_pos h3] at hN
          subst hN; rfl
        rw [if_neg h3] at hN
        rw [if_neg (by omega)]
        have j1f : entailref03_named.j1 (k + 1) (rest s i) (i : Int) ((e - i : Nat) : Int) (s.extract i e) ((f - (e + 2) : Nat) : Int) false = some (0, s.extract i e, (i : Int), 0) := by
          rw [entailref03_named.j1, if_neg (by simp), isKeyword_f _ _ (by omega), Option.bind_some, if_neg hkw]
        by_cases h4 : f = e + 2
        · rw [if_neg (by omega), j1f]
          rw [if_neg (fun q => q.1 h4)] at hN
          subst hN; rfl
        · rw [if_pos (by omega), Int.toNat_natCast, rest_cut s i (e - i + 2) (f - i) (by omega), show i + (e - i + 2) = e + 2 by omega, show i + (f - i) = f by omega, isKeyword_f _ _ (by omega), Option.bind_some]
          by_cases h5 : isKeyword (s.extract (e + 2) f) = true
          · rw [h5, Bool.not_true, j1f]
            rw [if_neg (fun q => by rw [h5] at q; exact absurd q.2 (by simp))] at hN
            subst hN; rfl
          · rw [Bool.eq_false_iff.mpr h5, Bool.not_false, entailref03_named.j1, if_pos rfl, wrap_two _ (by omega), wrap_add _ _ (by omega), show e - i + 2 + (f - (e + 2)) = f - i by omega, if_pos (Int.natCast_nonneg _), if_pos (by rw [rest_size]; omega), Int.toNat_natCast, rest_cut s i 0 (f - i) (by omega), Nat.add_zero, show i + (f - i) = f by omega]
            rw [if_pos ⟨h4, Bool.eq_false_iff.mpr h5⟩] at hN
            subst hN; rfl
      · rw [Bool.eq_false_iff.mpr hc, j0f]
        rw [if_neg hc] at hN
        subst hN; rfl
    · rw [if_neg (by rw [rest_size]; omega), j0f]
      by_cases hc : hasAt s e colons = true
      · have hh := hasAt_two s e hc
        have hwe : wordEnd s (e + 2) = e + 2 := by rw [wordEnd, if_neg (fun q => h2 q.1)]
        rw [if_pos hc, hwe, if_neg (show ¬ 24 < e + 2 - (e + 2) by omega), if_neg (show ¬ (e + 2 ≠ e + 2 ∧ _) from fun q => q.1 rfl)] at hN
        subst hN; rfl
      · rw [if_neg hc] at hN
        subst hN; rfl
  · rw [decide_eq_false hup, if_neg (by simp), j0f]
    rw [decide_eq_false hup, Bool.false_and, if_neg (by simp)] at hN
    subst hN; rfl

/-! ### one token -/
theorem read_f (s : ByteArray) (i k : Nat) (hs : s.size ≤ 70000) (hi : i < s.size) (hk : s.size + 200 < k) :
    entailref03_read.f k (rest s i) (i : Int) = some (refTok s i (tokOf s i)) := by
  unfold entailref03_read.f tokOf
  rw [word_f s i _ hs (by omega) (by omega), Option.bind_some]
  have hb0 : bt (rest s i) 0 = bt s (i : Int) := rest_bt s i 0 hi
  by_cases hl : isLetter (bt s (i : Nat)) = true
  · have := (word_cut s i hi hl).2.2.2
    rw [if_pos (by omega), if_pos hl, named_f s i k hs hi hl hk]; rfl
  · have hw : wordEnd s i = i := by rw [wordEnd, if_neg (fun q => hl q.2)]
    rw [hw, if_neg (by omega), if_neg hl, if_pos (by rw [rest_size]; omega), hb0, isDigit_f, Option.bind_some]
    by_cases hd : isDigit (bt s (i : Nat)) = true
    · rw [if_pos hd, if_pos hd, number_f s i k hs hi hd (by omega)]; rfl
    · rw [if_neg hd, if_neg hd, sign_f s i k hi hs (by omega), Option.bind_some, signTok]
      by_cases h0 : (signOf s i).size = 0
      · rw [if_pos (by omega), if_pos h0]; rfl
      · have h1 := (signTok_fin s i hi (by rw [signTok, if_neg h0])).2
        rw [signTok, if_neg h0] at h1
        have h1 : i + (signOf s i).size ≤ s.size := h1
        rw [if_neg (by omega), if_neg h0, if_pos (Int.natCast_nonneg _), if_pos (by rw [rest_size]; omega), Int.toNat_natCast, rest_cut s i 0 _ h1, Nat.add_zero]; rfl

/-! ### the text -/
def toS (s : ByteArray) (x : Tok × Nat) : S61 := ⟨x.1.kind, s.extract x.2 x.1.fin, x.2⟩

/-- What the reference comes to, with what it has found so far. -/
def endOf (s : ByteArray) (acc : List (Tok × Nat)) (L : List (Tok × Nat)) : List S61 × Int × Int :=
  match L.find? (fun x => x.1.bad != 0) with
  | some x => ([], x.2, x.1.bad)
  | none => if h : 20000 < (acc ++ L).length then ([], ((acc ++ L)[20000]).2, 5) else ((acc ++ L).map (toS s), 0, 0)

theorem skip_same {s : ByteArray} {i j : Nat} (hi : i ≤ s.size) (hj : j ≤ s.size) (h : skip s i = skip s j) : lexFrom s i = lexFrom s j := by
  have h1 := skip_le s i hi
  rcases hs : skip s j with ⟨x, c⟩
  rw [hs] at h
  cases c with
  | false => rw [lex_open s i x h, lex_open s j x hs]
  | true =>
    by_cases hx : x < s.size
    · by_cases hb : (tokOf s x).bad = 0
      · rw [lex_tok s i x h hx hb, lex_tok s j x hs hx hb]
      · rw [lex_bad s i x h hx hb, lex_bad s j x hs hx hb]
    · rw [lex_end s i x h hx, lex_end s j x hs hx]

theorem endOf_tok (s : ByteArray) (acc : List (Tok × Nat)) (x : Tok × Nat) (L : List (Tok × Nat)) (h : x.1.bad = 0) : endOf s acc (x :: L) = endOf s (acc ++ [x]) L := by
  have h1 : (x :: L).find? (fun x => x.1.bad != 0) = L.find? (fun x => x.1.bad != 0) := by
    rw [List.find?_cons, h]; rfl
  have h2 : acc ++ [x] ++ L = acc ++ x :: L := by simp
  simp only [endOf, h1, h2]

theorem tokens_l0 (s : ByteArray) (hs : s.size ≤ 65536) : ∀ (d : Nat) (acc : List (Tok × Nat)) (i k : Nat), i ≤ s.size → s.size - i = d → d + s.size + 300 < k → acc.length ≤ i →
    entailref03_Tokens.l0 k s (acc.map (toS s)) (i : Int) = some (endOf s acc (lexFrom s i)) := by
  intro d
  induction d using Nat.strongRecOn with
  | _ d ih =>
    intro acc i k hi hd hk ha
    obtain ⟨k, rfl⟩ : ∃ k', k = k' + 1 := ⟨k - 1, by omega⟩
    rw [entailref03_Tokens.l0]
    by_cases h : i < s.size
    · rw [if_pos (by omega), if_pos (Int.natCast_nonneg _), if_pos (by omega), Int.toNat_natCast]
      obtain ⟨b, hb, b1, b2, b3⟩ := blank_f s i k (by omega) h (by omega)
      rw [show s.extract i s.size = rest s i from rfl, hb, Option.bind_some]
      by_cases c1 : b < 0
      · rw [if_pos c1, lex_open s i i (b1 c1)]; rfl
      rw [if_neg c1]
      by_cases c2 : 0 < b
      · obtain ⟨q1, q2⟩ := b2 c2
        have hbn : b = ((b.toNat : Nat) : Int) := by omega
        rw [if_pos c2, hbn, wrap_add _ _ (by omega), skip_same hi q2 q1]
        exact ih (s.size - (i + b.toNat)) (by omega) acc (i + b.toNat) k q2 rfl (by omega) (by omega)
      · have hsk := b3 (by omega)
        rw [if_neg c2, read_f s i k (by omega) h (by omega), Option.bind_some]
        by_cases c3 : (tokOf s i).bad = 0
        · have hf := tokOf_fin s i h c3
          have hr : refTok s i (tokOf s i) = ((tokOf s i).kind, s.extract i (tokOf s i).fin, (i : Int), 0) := by rw [refTok, if_pos c3]
          have hsz : (s.extract i (tokOf s i).fin).size = (tokOf s i).fin - i := by simp; omega
          rw [hr]
          dsimp only
          rw [if_pos rfl, if_pos (by rw [List.length_map]; omega), hsz, wrap_add _ _ (by omega), show i + ((tokOf s i).fin - i) = (tokOf s i).fin by omega, lex_tok s i i hsk h c3, endOf_tok s acc _ _ c3]
          rw [show acc.map (toS s) ++ [(⟨(tokOf s i).kind, s.extract i (tokOf s i).fin, (i : Int)⟩ : S61)] = (acc ++ [(tokOf s i, i)]).map (toS s) by rw [List.map_append]; rfl]
          exact ih (s.size - (tokOf s i).fin) (by omega) _ _ k hf.2 rfl (by omega) (by rw [List.length_append, List.length_singleton]; omega)
        · have hr : refTok s i (tokOf s i) = (0, ⟨#[]⟩, 0, (tokOf s i).bad) := by rw [refTok, if_neg c3]
          rw [hr]
          dsimp only
          rw [if_neg c3, lex_bad s i i hsk h c3]
          have : endOf s acc [(tokOf s i, i)] = ([], (i : Int), (tokOf s i).bad) := by
            have h1 : [(tokOf s i, i)].find? (fun x => x.1.bad != 0) = some (tokOf s i, i) := by
              rw [List.find?_cons, show ((tokOf s i).bad != 0) = true by simpa using c3]
            simp only [endOf, h1]
          rw [this]
    · rw [if_neg (by omega)]
      have hsk : skip s i = (i, true) := skip_out s i h
      have he : endOf s acc [] = (if h : 20000 < acc.length then ([], ((acc[20000]).2 : Int), 5) else (acc.map (toS s), 0, 0)) := by
        have h1 : ([] : List (Tok × Nat)).find? (fun x => x.1.bad != 0) = none := rfl
        simp only [endOf, h1, List.append_nil]
      rw [lex_end s i i hsk h, he, List.length_map]
      by_cases c : 20000 < acc.length
      · rw [if_pos (by omega), if_pos (by omega), dif_pos c]
        have : (rd_T61 (acc.map (toS s)) 20000).f2 = ((acc[20000]).2 : Int) := by
          rw [rd_T61, List.getD_eq_getElem?_getD, List.getElem?_map, show ((20000 : Int)).toNat = 20000 from rfl, List.getElem?_eq_getElem c]; rfl
        rw [this]
      · rw [if_neg (by omega), dif_neg c]

theorem tokens_f (s : ByteArray) (k : Nat) (hk : 2 * s.size + 301 < k) : entailref03_Tokens.f k s = some ((tokRes s).1.map (toS s), (tokRes s).2.1, (tokRes s).2.2) := by
  unfold entailref03_Tokens.f
  by_cases h : 65536 < s.size
  · rw [if_pos (by omega), tokRes, if_pos h]; rfl
  · rw [if_neg (by omega)]
    refine (tokens_l0 s (by omega) s.size [] 0 k (by omega) rfl (by omega) (Nat.le_refl _)).trans ?_
    rw [tokRes, if_neg h]
    simp only [endOf, List.nil_append]
    cases (lexFrom s 0).find? (fun x => x.1.bad != 0) with
    | some x => rfl
    | none =>
      dsimp only
      split <;> rfl
end Go.Proofs.YtmnnhbikdgpedaaDoor.Lx
