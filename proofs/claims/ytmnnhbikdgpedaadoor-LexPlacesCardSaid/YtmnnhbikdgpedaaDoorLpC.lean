/- THE PLAIN LAW of LexPlaces, part 2: offsets of lines and columns; the pieces between line feeds. -/
import Derived.Test.YtmnnhbikdgpedaaDoorLpB
import Derived.Lib.SplitLaws
namespace Go.Proofs.YtmnnhbikdgpedaaDoor.Lx
open Go.RowKit Go.Proofs.YtmnnhbikdgpedaaDoorW.PrintWords Go.Proofs.YtmnnhbikdgpedaaDoorW.PrintLast Go.Proofs.YtmnnhbikdgpedaaDoorW.PrintMore
open Go.Proofs.YtmnnhbikdgpedaaDoor.PLexTokens
set_option linter.unusedVariables false
set_option linter.unusedSimpArgs false

theorem later_length (s : ByteArray) (i : Nat) : (later s i).length ≤ s.size - i := by
  fun_induction later s i with
  | case1 i h h2 ih => simp only [List.length_cons]; omega
  | case2 i h h2 ih => omega
  | case3 i h => simp
theorem later_get (s : ByteArray) (i t : Nat) (h : t < (later s i).length) : i < (later s i).getD t 0 ∧ (later s i).getD t 0 ≤ s.size :=
  later_bounds s i _ (by rw [List.getD_eq_getElem?_getD, List.getElem?_eq_getElem h, Option.getD_some]; exact List.getElem_mem _)

/-- Where line j (from 0) ends. -/
def endAt (s : ByteArray) (j : Nat) : Nat := if j < (later s 0).length then (later s 0).getD j 0 - 1 else s.size
def startAt (s : ByteArray) (j : Nat) : Nat := (starts s).getD j 0
theorem startAt_succ (s : ByteArray) (j : Nat) : startAt s (j + 1) = (later s 0).getD j 0 := by rw [startAt, starts, List.getD_cons_succ]
theorem startAt_zero (s : ByteArray) : startAt s 0 = 0 := rfl

def offB (s : ByteArray) (line col : Int) : Int × Int :=
  if 65536 < s.size then (0, 23)
  else if line < 1 ∨ ((later s 0).length : Int) + 1 < line ∨ col < 1 ∨ (endAt s (line - 1).toNat : Int) - (startAt s (line - 1).toNat : Int) < col - 1 then (0, 3)
  else ((startAt s (line - 1).toNat : Int) + col - 1, 0)

theorem wrap_id (x : Int) (h1 : -9223372036854775808 ≤ x) (h2 : x < 9223372036854775808) : wrap64 x = x := by
  rw [wrap64]; omega

theorem rd_map (L : List Nat) (j : Nat) : rd (L.map fun (x : Nat) => (x : Int)) (j : Int) = ((L.getD j 0 : Nat) : Int) := by
  rw [rd, Int.toNat_natCast, List.getD_eq_getElem?_getD, List.getElem?_map, List.getD_eq_getElem?_getD]
  cases L[j]? <;> rfl

theorem roff_end (s : ByteArray) (hs : s.size ≤ 65536) (line col : Int) (hc1 : -9223372036854775808 ≤ col) (hc2 : col < 9223372036854775808) (k : Nat) :
    (if line < 1 then entailref03_Offset.j1 (k + 1) s line col ((starts s).map fun (x : Nat) => (x : Int)) true else entailref03_Offset.j1 (k + 1) s line col ((starts s).map fun (x : Nat) => (x : Int)) (decide (line > (((starts s).map fun (x : Nat) => (x : Int)).length : Int)))) = some (offB s line col) := by
  have hlen : ((starts s).map fun (x : Nat) => (x : Int)).length = (later s 0).length + 1 := by rw [List.length_map, starts, List.length_cons]
  have hll := later_length s 0
  rw [hlen, offB, if_neg (show ¬ 65536 < s.size by omega)]
  have hj : entailref03_Offset.j1 (k + 1) s line col ((starts s).map fun (x : Nat) => (x : Int)) true = some (0, 3) := by rw [entailref03_Offset.j1, if_pos rfl]
  by_cases c1 : line < 1
  · rw [if_pos c1, hj, if_pos (.inl c1)]
  rw [if_neg c1]
  by_cases c2 : ((later s 0).length : Int) + 1 < line
  · rw [decide_eq_true (by omega), hj, if_pos (.inr (.inl c2))]
  rw [decide_eq_false (by omega), entailref03_Offset.j1, if_neg (by simp), hlen]
  obtain ⟨j, rfl⟩ : ∃ j : Nat, line = ((j + 1 : Nat) : Int) := ⟨(line - 1).toNat, by omega⟩
  have hw : wrap64 (((j + 1 : Nat) : Int) - 1) = (j : Int) := by rw [wrap_id _ (by omega) (by omega)]; omega
  have hjn : (((j + 1 : Nat) : Int) - 1).toNat = j := by omega
  rw [hw, hjn]
  have hrj : rd ((starts s).map fun (x : Nat) => (x : Int)) (j : Int) = (startAt s j : Int) := rd_map _ _
  have hrj1 : rd ((starts s).map fun (x : Nat) => (x : Int)) ((j + 1 : Nat) : Int) = (startAt s (j + 1) : Int) := rd_map _ _
  rw [hrj, hrj1]
  have hsj : startAt s j ≤ s.size := by
    cases j with
    | zero => rw [startAt_zero]; omega
    | succ t => rw [startAt_succ]; exact (later_get s 0 t (by omega)).2
  -- the end of the line, as the reference reckons it
  have hmain : ∀ E : Int, E = (endAt s j : Int) - (startAt s j : Int) →
      (if wrap64 (col - 1) > E then (some (0, 3) : Option (Int × Int)) else some (wrap64 (wrap64 ((startAt s j : Int) + col) - 1), 0)) = (if col < 1 then some (0, 3) else some (if ((j + 1 : Nat) : Int) < 1 ∨ ((later s 0).length : Int) + 1 < ((j + 1 : Nat) : Int) ∨ col < 1 ∨ (endAt s j : Int) - (startAt s j : Int) < col - 1 then (0, 3) else ((startAt s j : Int) + col - 1, 0))) ∨ col < 1 := by
    intro E hE
    by_cases c3 : col < 1
    · exact .inr c3
    refine .inl ?_
    rw [if_neg c3, wrap_id (col - 1) (by omega) (by omega), hE]
    have hen : endAt s j ≤ s.size := by
      rw [endAt]
      split
      · next h => have := (later_get s 0 j h).2; omega
      · exact Nat.le_refl _
    by_cases c4 : (endAt s j : Int) - (startAt s j : Int) < col - 1
    · rw [if_pos c4, if_pos (.inr (.inr (.inr c4)))]
    · rw [if_neg c4, if_neg (by omega), wrap_id ((startAt s j : Int) + col) (by omega) (by omega), wrap_id _ (by omega) (by omega)]
  by_cases c3 : col < 1
  · rw [if_pos (show _ ∨ _ ∨ _ ∨ _ from .inr (.inr (.inl c3)))]
    split
    · first | (rw [if_pos (Int.natCast_nonneg _)]; done) | (rw [if_pos (Int.natCast_nonneg _), if_pos c3])
    · first | rfl | rw [if_pos c3]
  by_cases c5 : ((j + 1 : Nat) : Int) < (((later s 0).length + 1 : Nat) : Int)
  · rw [if_pos c5, if_pos (by omega), if_neg c3, if_pos (by omega), if_pos (by omega)]
    have hg := later_get s 0 j (by omega)
    have he : endAt s j = (later s 0).getD j 0 - 1 := by rw [endAt, if_pos (by omega)]
    have := hmain (wrap64 (wrap64 ((startAt s (j + 1) : Int) - 1) - (startAt s j : Int))) (by
      rw [startAt_succ, wrap_id (((later s 0).getD j 0 : Int) - 1) (by omega) (by omega), wrap_id _ (by omega) (by omega), he]; omega)
    rcases this with h | h
    · rw [if_neg c3] at h; exact h
    · exact absurd h c3
  · rw [if_neg c5, if_neg c3, if_pos (by omega), if_pos (by omega)]
    have he : endAt s j = s.size := by rw [endAt, if_neg (by omega)]
    have := hmain (wrap64 ((s.size : Int) - (startAt s j : Int))) (by rw [wrap_id _ (by omega) (by omega), he])
    rcases this with h | h
    · rw [if_neg c3] at h; exact h
    · exact absurd h c3

theorem roff_l0 (s : ByteArray) (hs : s.size ≤ 65536) (line col : Int) (hc1 : -9223372036854775808 ≤ col) (hc2 : col < 9223372036854775808) : ∀ (d i k : Nat) (acc : List Nat), i ≤ s.size → s.size - i = d → d + 5 < k → acc ++ later s i = starts s →
    entailref03_Offset.l0 k s line col (acc.map fun (x : Nat) => (x : Int)) (i : Int) = some (offB s line col)
  | d, i, 0, _, _, _, h, _ => by omega
  | d, i, k + 1, acc, hi, hd, hk, ha => by
    rw [entailref03_Offset.l0]
    by_cases h : i < s.size
    · rw [if_pos (by omega), if_pos (Int.natCast_nonneg _), wrap_one i (by omega)]
      by_cases h2 : bt s (i : Nat) = 10
      · have hl := congrArg List.length ha
        rw [List.length_append, starts, List.length_cons] at hl
        have hll := later_length s 0
        rw [if_pos h2, if_pos (by rw [List.length_map]; omega)]
        rw [show (acc.map fun (x : Nat) => (x : Int)) ++ [((i + 1 : Nat) : Int)] = ((acc ++ [i + 1]).map fun (x : Nat) => (x : Int)) by rw [List.map_append]; rfl]
        exact roff_l0 s hs line col hc1 hc2 (d - 1) (i + 1) k (acc ++ [i + 1]) (by omega) (by omega) (by omega) (by rw [List.append_assoc, List.singleton_append, ← later_lf h h2]; exact ha)
      · rw [if_neg h2]
        exact roff_l0 s hs line col hc1 hc2 (d - 1) (i + 1) k acc (by omega) (by omega) (by omega) (by rw [← later_no h h2]; exact ha)
    · rw [if_neg (by omega)]
      rw [later_out h, List.append_nil] at ha
      rw [ha]
      obtain ⟨k, rfl⟩ : ∃ k', k = k' + 1 := ⟨k - 1, by omega⟩
      exact roff_end s hs line col hc1 hc2 k
theorem roff_f (s : ByteArray) (line col : Int) (hc1 : -9223372036854775808 ≤ col) (hc2 : col < 9223372036854775808) (k : Nat) (hk : 65600 < k) : entailref03_Offset.f k s line col = some (offB s line col) := by
  unfold entailref03_Offset.f
  by_cases h : 65536 < s.size
  · rw [if_pos (by omega), offB, if_pos h]
  · rw [if_neg (by omega)]
    exact roff_l0 s (by omega) line col hc1 hc2 s.size 0 k [0] (by omega) (by omega) (by omega) rfl

/-! ### the two are inverse to each other -/
theorem pos_off (s : ByteArray) (p : Int) (h : (posB s p).2.2 = 0) : offB s (posB s p).1 (posB s p).2.1 = (p, 0) := by
  rw [posB] at h ⊢
  split at h
  · cases h
  split at h
  · cases h
  next h1 h2 =>
  rw [if_neg h1, if_neg h2]
  obtain ⟨q, rfl⟩ : ∃ q : Nat, p = (q : Int) := ⟨p.toNat, by omega⟩
  rw [Int.toNat_natCast]
  have hc := cnt_spec s 0 q
  generalize cnt s 0 q = j at *
  have hsj : startAt s j ≤ q := by
    cases j with
    | zero => rw [startAt_zero]; omega
    | succ t => rw [startAt_succ]; exact (hc.2 t (by omega)).mpr (by omega)
  have hen : q ≤ endAt s j := by
    rw [endAt]
    split
    · next h3 =>
      have h4 := (hc.2 j h3)
      have h5 := later_get s 0 j h3
      omega
    · omega
  have hjn : (((j + 1 : Nat) : Int) - 1).toNat = j := by omega
  show offB s ((j + 1 : Nat) : Int) ((q : Int) - (startAt s j : Int) + 1) = _
  rw [offB, if_neg h1, hjn, if_neg (by omega)]
  congr 1
  omega

theorem off_pos (s : ByteArray) (line col : Int) (h : (offB s line col).2 = 0) : posB s (offB s line col).1 = (line, col, 0) := by
  rw [offB] at h ⊢
  split at h
  · cases h
  split at h
  · cases h
  next h1 h2 =>
  rw [if_neg h1, if_neg h2]
  obtain ⟨j, rfl⟩ : ∃ j : Nat, line = ((j + 1 : Nat) : Int) := ⟨(line - 1).toNat, by omega⟩
  have hjn : (((j + 1 : Nat) : Int) - 1).toNat = j := by omega
  rw [hjn] at h2 ⊢
  obtain ⟨o, ho⟩ : ∃ o : Nat, (startAt s j : Int) + col - 1 = (o : Int) := ⟨((startAt s j : Int) + col - 1).toNat, by omega⟩
  have hen : endAt s j ≤ s.size := by
    rw [endAt]
    split
    · next h => have := (later_get s 0 j h).2; omega
    · exact Nat.le_refl _
  show posB s ((startAt s j : Int) + col - 1) = _
  rw [ho, posB, if_neg h1, if_neg (by omega), Int.toNat_natCast]
  have hc := cnt_spec s 0 o
  have hcj : cnt s 0 o = j := by
    rcases Nat.lt_trichotomy (cnt s 0 o) j with h3 | h3 | h3
    · obtain ⟨t, rfl⟩ : ∃ t, j = t + 1 := ⟨j - 1, by omega⟩
      rw [startAt_succ] at ho h2
      have := (hc.2 t (by omega))
      omega
    · exact h3
    · have h4 := (hc.2 j (by omega))
      have h5 := later_get s 0 j (by omega)
      have h6 : endAt s j = (later s 0).getD j 0 - 1 := by rw [endAt, if_pos (by omega)]
      omega
  rw [hcj]
  show (((j + 1 : Nat) : Int), (o : Int) - (startAt s j : Int) + 1, (0 : Int)) = _
  congr 2
  omega
end Go.Proofs.YtmnnhbikdgpedaaDoor.Lx
