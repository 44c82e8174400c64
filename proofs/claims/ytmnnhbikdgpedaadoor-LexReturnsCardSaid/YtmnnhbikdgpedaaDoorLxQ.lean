/- THE PLAIN LAW, part 2: blanks; keywords and names of the reference. -/
import Derived.Test.YtmnnhbikdgpedaaDoorLxP
namespace Go.Proofs.YtmnnhbikdgpedaaDoor.Lx
open Go.RowKit Go.Proofs.YtmnnhbikdgpedaaDoorW.PrintWords Go.Proofs.YtmnnhbikdgpedaaDoorW.PrintLast Go.Proofs.YtmnnhbikdgpedaaDoorW.PrintMore
open Go.Proofs.YtmnnhbikdgpedaaDoor.PLexTokens
set_option linter.unusedVariables false
set_option linter.unusedSimpArgs false

def closer : ByteArray := ⟨#[42, 47]⟩
theorem closing_spec (s : ByteArray) (i : Nat) (hi : i + 2 ≤ s.size) :
    (closing s i = -1 ∧ ∀ x, i + 2 ≤ x → hasAt s x closer = false) ∨
    (∃ c : Nat, closing s i = c ∧ hasAt s (i + 2 + c) closer = true ∧ ∀ x, i + 2 ≤ x → x < i + 2 + c → hasAt s x closer = false) := by
  have hocc : ∀ j, Lib.occAt (s.extract (i + 2) s.size).data.toList [42, 47] j = hasAt s (i + 2 + j) closer := by
    intro j
    rw [Lib.occAt, hasAt, Lib.hasPrefix, Lib.extract_data, Lib.extract_data, List.drop_take, List.drop_drop]
    show List.isPrefixOf [42, 47] _ = List.isPrefixOf [42, 47] _
    congr 2
    omega
  rcases Lib.index_spec (s.extract (i + 2) s.size).data.toList [42, 47] with ⟨h1, h2⟩ | ⟨c, h1, h2, h3, h4⟩
  · refine .inl ⟨h1, fun x hx => ?_⟩
    rcases Nat.lt_or_ge x s.size with hl | hl
    · have := h2 (x - (i + 2)) (by rw [← Lib.size_eq]; simp; omega)
      rw [hocc, show i + 2 + (x - (i + 2)) = x by omega] at this
      exact this
    · rw [Bool.eq_false_iff]
      intro h5
      have := (hasAt_pair s x 42 47).mp h5
      omega
  · refine .inr ⟨c, h1, by rw [← hocc]; exact h3, fun x h5 h6 => ?_⟩
    have := h4 (x - (i + 2)) (by omega)
    rw [hocc, show i + 2 + (x - (i + 2)) = x by omega] at this
    exact this

theorem blank_l0 (s : ByteArray) (i : Nat) (hs : s.size ≤ 70000) : ∀ (d j k : Nat), i + j ≤ s.size → s.size - (i + j) = d → d < k →
    entailref03_blank.l0 k (rest s i) (j : Int) = some ((runEnd notLf s (i + j) - i : Nat) : Int)
  | d, j, 0, _, _, h => by omega
  | d, j, k + 1, hj, hd, hk => by
    rw [entailref03_blank.l0]
    by_cases h : i + j < s.size
    · rw [if_pos (by rw [rest_lt]; exact h), if_pos (Int.natCast_nonneg _), rest_bt s i j h]
      by_cases hp : bt s ((i + j : Nat) : Int) = 10
      · rw [if_pos hp, runEnd_stop h (by rw [notLf, hp]; rfl)]
        congr 2
        omega
      · rw [if_neg hp, wrap_one j (by omega), blank_l0 s i hs (d - 1) (j + 1) k (by omega) (by omega) (by omega), runEnd_step h (by rw [notLf]; simpa using hp)]
        rfl
    · rw [if_neg (by rw [rest_lt]; exact h), runEnd_out h]
      congr 2
      omega

theorem blank_l1 (s : ByteArray) (i : Nat) (hs : s.size ≤ 70000) : ∀ (d j k : Nat), i + j ≤ s.size → s.size - (i + j) = d → d < k →
    (∃ n : Nat, entailref03_blank.l1 k (rest s i) (j : Int) = some ((n + 2 : Nat) : Int) ∧ j ≤ n ∧ hasAt s (i + n) closer = true ∧ ∀ x, i + j ≤ x → x < i + n → hasAt s x closer = false) ∨
    (entailref03_blank.l1 k (rest s i) (j : Int) = some (-1) ∧ ∀ x, i + j ≤ x → hasAt s x closer = false)
  | d, j, 0, _, _, h => by omega
  | d, j, k + 1, hj, hd, hk => by
    rw [entailref03_blank.l1, wrap_one j (by omega)]
    by_cases h : i + (j + 1) < s.size
    · have hn := hasAt_pair s (i + j) 42 47
      rw [if_pos (by rw [rest_lt]; exact h), if_pos (Int.natCast_nonneg _), if_pos (by rw [rest_lt]; omega), rest_bt s i j (by omega), if_pos (Int.natCast_nonneg _), rest_bt s i (j + 1) h, wrap_two j (by omega)]
      have ih := blank_l1 s i hs (d - 1) (j + 1) k (by omega) (by omega) (by omega)
      have hgo : hasAt s (i + j) closer = false → ((∃ n : Nat, entailref03_blank.l1 k (rest s i) ((j + 1 : Nat) : Int) = some ((n + 2 : Nat) : Int) ∧ j ≤ n ∧ hasAt s (i + n) closer = true ∧ ∀ x, i + j ≤ x → x < i + n → hasAt s x closer = false) ∨
          (entailref03_blank.l1 k (rest s i) ((j + 1 : Nat) : Int) = some (-1) ∧ ∀ x, i + j ≤ x → hasAt s x closer = false)) := by
        intro h0
        rcases ih with ⟨n, e1, e2, e3, e4⟩ | ⟨e1, e2⟩
        · refine .inl ⟨n, e1, by omega, e3, fun x h1 h2 => ?_⟩
          rcases Nat.lt_or_ge x (i + (j + 1)) with h3 | h3
          · rw [show x = i + j by omega]; exact h0
          · exact e4 x h3 h2
        · refine .inr ⟨e1, fun x h1 => ?_⟩
          rcases Nat.lt_or_ge x (i + (j + 1)) with h3 | h3
          · rw [show x = i + j by omega]; exact h0
          · exact e2 x h3
      by_cases c1 : bt s ((i + j : Nat) : Int) = 42
      · rw [if_pos c1]
        by_cases c2 : bt s ((i + (j + 1) : Nat) : Int) = 47
        · rw [if_pos c2]
          exact .inl ⟨j, rfl, Nat.le_refl _, hn.mpr ⟨by omega, c1, c2⟩, fun x h1 h2 => by omega⟩
        · rw [if_neg c2]
          exact hgo (by rw [Bool.eq_false_iff]; exact fun h5 => c2 (hn.mp h5).2.2)
      · rw [if_neg c1]
        exact hgo (by rw [Bool.eq_false_iff]; exact fun h5 => c1 (hn.mp h5).2.1)
    · rw [if_neg (by rw [rest_lt]; exact h)]
      refine .inr ⟨rfl, fun x hx => ?_⟩
      rw [Bool.eq_false_iff]
      intro h5
      have := (hasAt_pair s x 42 47).mp h5
      omega

/-- The reference's blank, told by skip. -/
theorem blank_f (s : ByteArray) (i k : Nat) (hs : s.size ≤ 70000) (hi : i < s.size) (hk : s.size + 5 < k) :
    ∃ b : Int, entailref03_blank.f k (rest s i) = some b ∧ (b < 0 → skip s i = (i, false)) ∧ (0 < b → skip s i = skip s (i + b.toNat) ∧ i + b.toNat ≤ s.size) ∧ (b = 0 → skip s i = (i, true)) := by
  obtain ⟨k, rfl⟩ : ∃ k', k = k' + 1 := ⟨k - 1, by omega⟩
  obtain ⟨k, rfl⟩ : ∃ k', k = k' + 1 := ⟨k - 1, by omega⟩
  have hb : bt (rest s i) 0 = bt s (i : Int) := rest_bt s i 0 hi
  have hsz : (0 : Int) < ((rest s i).size : Int) := by rw [rest_size]; omega
  have hne : ¬ (rest s i).toList = ([] : List UInt8) := by
    intro h
    rw [Lib.toList_data] at h
    have := Lib.size_eq (rest s i)
    rw [h, rest_size] at this
    simp at this
    omega
  unfold entailref03_blank.f
  rw [if_neg hne, if_pos hsz, hb]
  have hsp : ∀ k, isSpace (bt s (i : Int)) = true → ∃ b : Int, entailref03_blank.j0 (k + 1) (rest s i) true = some b ∧ (b < 0 → skip s i = (i, false)) ∧ (0 < b → skip s i = skip s (i + b.toNat) ∧ i + b.toNat ≤ s.size) ∧ (b = 0 → skip s i = (i, true)) := by
    intro k h
    refine ⟨1, by rw [entailref03_blank.j0, if_pos rfl], by omega, fun _ => ⟨skip_space s i hi h, ?_⟩, by omega⟩
    show i + 1 ≤ s.size
    omega
  by_cases c1 : bt s (i : Int) = 32
  · rw [if_pos c1]; exact hsp _ (by rw [isSpace, c1]; rfl)
  rw [if_neg c1]
  by_cases c2 : bt s (i : Int) = 9
  · rw [if_pos c2]; exact hsp _ (by rw [isSpace, c2]; rfl)
  rw [if_neg c2]
  by_cases c3 : bt s (i : Int) = 10
  · rw [if_pos c3]; exact hsp _ (by rw [isSpace, c3]; rfl)
  rw [if_neg c3]
  by_cases c4 : bt s (i : Int) = 13
  · rw [show (bt s (i : Int) == 13) = true by simp [c4]]; exact hsp _ (by rw [isSpace, c4]; rfl)
  rw [show (bt s (i : Int) == 13) = false by simp [c4], entailref03_blank.j0, if_neg (by simp)]
  have hns : isSpace (bt s (i : Int)) = false := by
    rw [isSpace]; simp [c1, c2, c3, c4]
  have hsl := hasAt_pair s i 47 47
  have hop := hasAt_pair s i 47 42
  have hz : hasAt s i slashes = false → hasAt s i opening = false → ∃ b : Int, (some 0 : Option Int) = some b ∧ (b < 0 → skip s i = (i, false)) ∧ (0 < b → skip s i = skip s (i + b.toNat) ∧ i + b.toNat ≤ s.size) ∧ (b = 0 → skip s i = (i, true)) := by
    intro h1 h2
    exact ⟨0, rfl, by omega, by omega, fun _ => skip_none s i hi hns h1 h2⟩
  by_cases c5 : i + 1 < s.size
  · rw [if_neg (by rw [rest_size]; omega), if_pos hsz, hb]
    by_cases c6 : bt s (i : Int) = 47
    · rw [show (bt s (i : Int) != 47) = false by simp [c6], entailref03_blank.j1, if_neg (by simp), if_pos (by rw [rest_size]; omega)]
      have hb1 : bt (rest s i) 1 = bt s ((i + 1 : Nat) : Int) := rest_bt s i 1 c5
      rw [hb1]
      by_cases c7 : bt s ((i + 1 : Nat) : Int) = 47
      · rw [if_pos c7]
        have hh : hasAt s i slashes = true := hsl.mpr ⟨c5, c6, c7⟩
        have e1 : runEnd notLf s i = runEnd notLf s (i + 2) := by
          rw [runEnd_step hi (by rw [notLf, c6]; rfl), runEnd_step c5 (by rw [notLf, c7]; rfl)]
        have e2 := runEnd_ge notLf s (i + 2)
        have e3 := runEnd_le notLf s (i + 2) (by omega)
        refine ⟨_, blank_l0 s i hs _ 2 k (by omega) rfl (by omega), by omega, fun _ => ?_, by omega⟩
        rw [skip_line s i hi hns hh (by omega), e1]
        have : i + ((runEnd notLf s (i + 2) - i : Nat) : Int).toNat = runEnd notLf s (i + 2) := by omega
        rw [this]
        exact ⟨rfl, e3⟩
      · rw [if_neg c7]
        have h1 : hasAt s i slashes = false := by rw [Bool.eq_false_iff]; exact fun h => c7 (hsl.mp h).2.2
        by_cases c8 : bt s ((i + 1 : Nat) : Int) = 42
        · rw [if_pos c8]
          have h2 : hasAt s i opening = true := hop.mpr ⟨c5, c6, c8⟩
          rcases blank_l1 s i hs _ 2 k (by omega) rfl (by omega) with ⟨n, e1, e2, e3, e4⟩ | ⟨e1, e2⟩
          · rcases closing_spec s i (by omega) with ⟨q1, q2⟩ | ⟨c, q1, q2, q3⟩
            · have := q2 (i + n) (by omega)
              rw [e3] at this; cases this
            · have hcn : i + 2 + c = i + n := by
                rcases Nat.lt_trichotomy (i + 2 + c) (i + n) with h | h | h
                · have := e4 _ (by omega) h; rw [q2] at this; cases this
                · exact h
                · have := q3 (i + n) (by omega) h; rw [e3] at this; cases this
              have h4 := closing_le s i (by omega) (by omega)
              refine ⟨_, e1, by omega, fun _ => ?_, by omega⟩
              rw [skip_closed s i hi hns h1 h2 (by omega)]
              have : i + (closing s i).toNat + 4 = i + ((n + 2 : Nat) : Int).toNat := by omega
              rw [this] at h4 ⊢
              exact ⟨rfl, h4⟩
          · rcases closing_spec s i (by omega) with ⟨q1, q2⟩ | ⟨c, q1, q2, q3⟩
            · exact ⟨_, e1, fun _ => skip_open s i hi hns h1 h2 (by omega), by omega, by omega⟩
            · have := e2 (i + 2 + c) (by omega); rw [q2] at this; cases this
        · rw [if_neg c8]
          exact hz h1 (by rw [Bool.eq_false_iff]; exact fun h => c8 (hop.mp h).2.2)
    · rw [show (bt s (i : Int) != 47) = true by simp [c6], entailref03_blank.j1, if_pos rfl]
      exact hz (by rw [Bool.eq_false_iff]; exact fun h => c6 (hsl.mp h).2.1) (by rw [Bool.eq_false_iff]; exact fun h => c6 (hop.mp h).2.1)
  · rw [if_pos (by rw [rest_size]; omega), entailref03_blank.j1, if_pos rfl]
    exact hz (by rw [Bool.eq_false_iff]; exact fun h => c5 (hsl.mp h).1) (by rw [Bool.eq_false_iff]; exact fun h => c5 (hop.mp h).1)
end Go.Proofs.YtmnnhbikdgpedaaDoor.Lx
