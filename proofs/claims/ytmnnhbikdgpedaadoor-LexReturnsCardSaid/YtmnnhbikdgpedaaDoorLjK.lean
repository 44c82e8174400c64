/- THE PLAIN LAW of Join, part 1: what the program and the reference ask of one token and of two are the same. No walk here. -/
import Derived.Test.YtmnnhbikdgpedaaDoorLjJ
namespace Go.Proofs.YtmnnhbikdgpedaaDoor.Lx
open Go.RowKit Go.Proofs.YtmnnhbikdgpedaaDoorW.PrintWords Go.Proofs.YtmnnhbikdgpedaaDoorW.PrintLast Go.Proofs.YtmnnhbikdgpedaaDoorW.PrintMore
open Go.Proofs.YtmnnhbikdgpedaaDoor.PLexTokens
set_option linter.unusedVariables false
set_option linter.unusedSimpArgs false

/-- A token that was read, and what is read behind it. -/
theorem lex_cons {s : ByteArray} {i : Nat} {x : Tok × Nat} {r : List (Tok × Nat)} (h : lexFrom s i = x :: r) (hb : x.1.bad = 0) :
    skip s i = (x.2, true) ∧ x.2 < s.size ∧ x.1 = tokOf s x.2 ∧ i ≤ x.2 ∧ x.2 < x.1.fin ∧ x.1.fin ≤ s.size ∧ r = lexFrom s x.1.fin := by
  rcases hsk : skip s i with ⟨j, b⟩
  have hge := skip_ge s i
  rw [hsk] at hge
  cases b with
  | false =>
    rw [lex_open s i j hsk] at h
    injection h with h1 h2
    rw [← h1] at hb
    simp at hb
  | true =>
    by_cases hj : j < s.size
    · by_cases hbad : (tokOf s j).bad = 0
      · rw [lex_tok s i j hsk hj hbad] at h
        injection h with h1 h2
        subst h1
        have hf := tokOf_fin s j hj hbad
        exact ⟨rfl, hj, rfl, hge, hf.1, hf.2, h2.symm⟩
      · rw [lex_bad s i j hsk hj hbad] at h
        injection h with h1 h2
        subst h1
        exact absurd hb hbad
    · rw [lex_end s i j hsk hj] at h
      cases h

/-- All tokens of a text, if none is in error. -/
def okB (s : ByteArray) : Bool := (lexFrom s 0).all fun x => x.1.bad == 0
theorem tokRes_ok {s : ByteArray} (hs : s.size ≤ 15000) (h : okB s = true) : tokRes s = (lexFrom s 0, 0, 0) := by
  have hl := lexFrom_length s 0 (Nat.zero_le _)
  rw [tokRes, if_neg (by omega)]
  have hf : (lexFrom s 0).find? (fun x => x.1.bad != 0) = none := by
    rw [List.find?_eq_none]
    intro x hx
    have := List.all_eq_true.mp h x hx
    simpa using this
  rw [hf]
  simp only
  rw [dif_neg (by omega)]
theorem tokRes_not {s : ByteArray} (hs : s.size ≤ 15000) (h : okB s = false) : (tokRes s).1 = [] ∧ (tokRes s).2.2 ≠ 0 := by
  rw [tokRes, if_neg (by omega)]
  cases hf : (lexFrom s 0).find? (fun x => x.1.bad != 0) with
  | some x =>
    refine ⟨rfl, ?_⟩
    have := List.find?_some hf
    simpa using this
  | none =>
    exfalso
    rw [List.find?_eq_none] at hf
    have : okB s = true := by
      rw [okB, List.all_eq_true]
      intro x hx
      simpa using hf x hx
    rw [this] at h
    cases h
theorem contig_ok {s : ByteArray} : ∀ {xs : List (Tok × Nat)} {p : Nat}, contig s xs p = true → (xs.all fun x => x.1.bad == 0) = true
  | [], _, _ => rfl
  | x :: xs, p, h => by
    rw [contig, Bool.and_eq_true, Bool.and_eq_true] at h
    rw [List.all_cons, h.1.1, contig_ok h.2]
    rfl
theorem alone_ok {s : ByteArray} (h : aloneB s ≠ []) : okB s = true ∧ aloneB s = lexFrom s 0 ∧ contig s (lexFrom s 0) 0 = true ∧ lastAt s (lexFrom s 0) 0 = s.size := by
  rw [aloneB] at h ⊢
  by_cases c : contig s (lexFrom s 0) 0 = true ∧ lastAt s (lexFrom s 0) 0 = s.size
  · rw [if_pos c]
    exact ⟨contig_ok c.1, rfl, c.1, c.2⟩
  · rw [if_neg c] at h
    exact absurd rfl h
theorem toList_size {a b : ByteArray} (h : a.toList = b.toList) : a = b := by
  rw [Lib.toList_data, Lib.toList_data] at h
  exact ba_ext h
theorem lex_empty : lexFrom ⟨#[]⟩ 0 = [] := by decide +kernel

/-- One token that is the whole text. -/
theorem single_iff (k : Int) (t : ByteArray) (ht : t.size ≤ 15000) : singleB k t = true ↔ ∃ x, aloneB t = [x] ∧ sameTok t x k t = true := by
  unfold singleB
  cases hok : okB t with
  | false =>
    obtain ⟨h1, h2⟩ := tokRes_not ht hok
    rw [singleN_er _ _ _ _ (by simpa using h2)]
    constructor
    · intro h; cases h
    · rintro ⟨x, hx, _⟩
      have := (alone_ok (s := t) (by rw [hx]; simp)).1
      rw [hok] at this
      cases this
  | true =>
    rw [tokRes_ok ht hok]
    constructor
    · intro h
      simp only [singleN, beq_self_eq_true, Bool.true_and] at h
      rcases hl : lexFrom t 0 with _ | ⟨x, _ | ⟨y, r⟩⟩
      · rw [hl] at h; simp at h
      · rw [hl] at h
        simp only [List.map_cons, List.map_nil] at h
        have hb : x.1.bad = 0 := by
          have := List.all_eq_true.mp hok x (by rw [hl]; simp)
          simpa using this
        obtain ⟨_, h2, h3, h4, h5, h6, h7⟩ := lex_cons hl hb
        have hsame : sameTok t x k t = true := h
        have htx : t.extract x.2 x.1.fin = t := by
          simp only [toS, Bool.and_eq_true, beq_iff_eq] at h
          exact toList_size h.2
        have hsz := congrArg ByteArray.size htx
        rw [ByteArray.size_extract] at hsz
        refine ⟨x, ?_, hsame⟩
        rw [aloneB, hl, if_pos]
        refine ⟨?_, ?_⟩
        · rw [contig, contig, hb, show x.2 = 0 by omega]; rfl
        · rw [lastAt, lastAt, wid, htx]; omega
      · rw [hl] at h; simp at h
    · rintro ⟨x, hx, hs⟩
      have h1 := (alone_ok (s := t) (by rw [hx]; simp)).2.1
      rw [hx] at h1
      rw [← h1]
      simp only [singleN, beq_self_eq_true, Bool.true_and, List.map_cons, List.map_nil]
      exact hs

theorem badR_eq (k : Int) (t : ByteArray) (ht : t.size ≤ 15000) : badR k t = checkB k t := by
  rw [badR, checkB]
  by_cases h1 : k < 0 ∨ 4 < k
  · rw [if_pos h1, if_pos h1]
  · rw [if_neg h1, if_neg h1, if_neg (show ¬ 65536 < t.size by omega)]
    by_cases h2 : singleB k t = true
    · obtain ⟨x, hx, hs⟩ := (single_iff k t ht).1 h2
      rw [if_pos h2, hx]
      simp only
      rw [if_pos hs]
    · rw [if_neg h2]
      rcases hl : aloneB t with _ | ⟨x, _ | ⟨y, r⟩⟩
      · rfl
      · simp only
        by_cases hs : sameTok t x k t = true
        · exact absurd ((single_iff k t ht).2 ⟨x, hl, hs⟩) h2
        · rw [if_neg hs]
      · rfl

theorem size_append' (a b : ByteArray) : (a ++ b).size = a.size + b.size := ByteArray.size_append
/-- Two tokens that are the whole text. -/
theorem two_iff (k1 : Int) (t1 : ByteArray) (k2 : Int) (t2 : ByteArray) (ht : t1.size + t2.size ≤ 15000) : partB k1 t1 k2 t2 = !twoTok k1 t1 k2 t2 := by
  unfold partB twoTok
  have hsz := size_append' t1 t2
  generalize t1 ++ t2 = s at *
  cases hok : okB s with
  | false =>
    obtain ⟨h1, h2⟩ := tokRes_not (s := s) (by omega) hok
    rw [partN_er _ _ _ _ _ _ (by simpa using h2)]
    have h3 : aloneB s = [] := by
      by_cases h : aloneB s = []
      · exact h
      · have := (alone_ok h).1
        rw [hok] at this
        cases this
    rw [h3]
    rfl
  | true =>
    rw [tokRes_ok (s := s) (by omega) hok]
    rcases hl : lexFrom s 0 with _ | ⟨x, _ | ⟨y, _ | ⟨z, r⟩⟩⟩
    · rw [show aloneB s = [] by rw [aloneB, hl]; simp]
      rfl
    · have : aloneB s = [] ∨ aloneB s = [x] := by rw [aloneB, hl]; split <;> simp
      rcases this with h | h <;> rw [h] <;> rfl
    · have hbx : x.1.bad = 0 := by
        have := List.all_eq_true.mp hok x (by rw [hl]; simp)
        simpa using this
      have hby : y.1.bad = 0 := by
        have := List.all_eq_true.mp hok y (by rw [hl]; simp)
        simpa using this
      obtain ⟨_, a2, a3, a4, a5, a6, a7⟩ := lex_cons hl hbx
      obtain ⟨_, b2, b3, b4, b5, b6, b7⟩ := lex_cons a7.symm hby
      show (((0 : Int) != 0) || !((s.extract x.2 x.1.fin).toList == t1.toList && (s.extract y.2 y.1.fin).toList == t2.toList && x.1.kind == k1 && y.1.kind == k2)) = _
      by_cases hc : (s.extract x.2 x.1.fin).toList = t1.toList ∧ (s.extract y.2 y.1.fin).toList = t2.toList
      · have e1 := congrArg ByteArray.size (toList_size hc.1)
        have e2 := congrArg ByteArray.size (toList_size hc.2)
        rw [ByteArray.size_extract] at e1 e2
        have hal : aloneB s = [x, y] := by
          rw [aloneB, hl, if_pos]
          refine ⟨?_, ?_⟩
          · rw [contig, contig, contig, hbx, hby, wid, ByteArray.size_extract, show x.2 = 0 by omega, show y.2 = 0 + (min x.1.fin s.size - 0) by omega]
            simp
          · rw [lastAt, lastAt, lastAt, wid, wid, ByteArray.size_extract, ByteArray.size_extract]; omega
        rw [hal]
        simp only [sameTok]
        rw [beq_iff_eq.mpr hc.1, beq_iff_eq.mpr hc.2]
        cases (x.1.kind == k1) <;> cases (y.1.kind == k2) <;> rfl
      · have hne : ((s.extract x.2 x.1.fin).toList == t1.toList && (s.extract y.2 y.1.fin).toList == t2.toList) = false := by
          rw [Bool.eq_false_iff, ne_eq, Bool.and_eq_true, beq_iff_eq, beq_iff_eq]
          exact hc
        rw [hne]
        have hne2 : (sameTok s x k1 t1 && sameTok s y k2 t2) = false := by
          unfold sameTok
          rw [Bool.eq_false_iff, ne_eq, Bool.and_eq_true, Bool.and_eq_true, Bool.and_eq_true, beq_iff_eq, beq_iff_eq, beq_iff_eq, beq_iff_eq]
          rintro ⟨⟨_, h1⟩, ⟨_, h2⟩⟩
          exact hc ⟨h1, h2⟩
        have : aloneB s = [] ∨ aloneB s = [x, y] := by rw [aloneB, hl]; split <;> simp
        rcases this with h | h
        · rw [h]; rfl
        · rw [h]
          show _ = !(sameTok s x k1 t1 && sameTok s y k2 t2)
          rw [hne2]
          rfl
    · have : aloneB s = [] ∨ aloneB s = x :: y :: z :: r := by rw [aloneB, hl]; split <;> simp
      rw [partN_len _ _ _ _ _ _ (by simp)]
      rcases this with h | h <;> rw [h] <;> rfl
end Go.Proofs.YtmnnhbikdgpedaaDoor.Lx
