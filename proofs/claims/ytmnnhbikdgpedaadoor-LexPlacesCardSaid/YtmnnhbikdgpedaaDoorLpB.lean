/- THE PLAIN LAW of LexPlaces: lines and columns. -/
import Derived.Test.YtmnnhbikdgpedaaDoorLxP
import Derived.Test.YtmnnhbikdgpedaaDoorLpR
namespace Go.Proofs.YtmnnhbikdgpedaaDoor.Lx
open Go.RowKit Go.Proofs.YtmnnhbikdgpedaaDoorW.PrintWords Go.Proofs.YtmnnhbikdgpedaaDoorW.PrintLast Go.Proofs.YtmnnhbikdgpedaaDoorW.PrintMore
open Go.Proofs.YtmnnhbikdgpedaaDoor.PLexTokens
set_option linter.unusedVariables false
set_option linter.unusedSimpArgs false

/-- Where the later lines begin, from a place on. -/
def later (s : ByteArray) (i : Nat) : List Nat :=
  if i < s.size then (if bt s (i : Nat) = 10 then (i + 1) :: later s (i + 1) else later s (i + 1)) else []
  termination_by s.size - i
/-- Where the lines begin. -/
def starts (s : ByteArray) : List Nat := 0 :: later s 0
/-- How many of them begin at a place or ahead of it. -/
def cnt (s : ByteArray) (i p : Nat) : Nat :=
  if i < s.size then (if bt s (i : Nat) = 10 then (if i + 1 ≤ p then cnt s (i + 1) p + 1 else 0) else cnt s (i + 1) p) else 0
  termination_by s.size - i

theorem later_lf {s : ByteArray} {i : Nat} (h : i < s.size) (h2 : bt s (i : Nat) = 10) : later s i = (i + 1) :: later s (i + 1) := by rw [later, if_pos h, if_pos h2]
theorem later_no {s : ByteArray} {i : Nat} (h : i < s.size) (h2 : ¬ bt s (i : Nat) = 10) : later s i = later s (i + 1) := by rw [later, if_pos h, if_neg h2]
theorem later_out {s : ByteArray} {i : Nat} (h : ¬ i < s.size) : later s i = [] := by rw [later, if_neg h]
theorem cnt_lf {s : ByteArray} {i p : Nat} (h : i < s.size) (h2 : bt s (i : Nat) = 10) (h3 : i + 1 ≤ p) : cnt s i p = cnt s (i + 1) p + 1 := by rw [cnt, if_pos h, if_pos h2, if_pos h3]
theorem cnt_lf0 {s : ByteArray} {i p : Nat} (h : i < s.size) (h2 : bt s (i : Nat) = 10) (h3 : ¬ i + 1 ≤ p) : cnt s i p = 0 := by rw [cnt, if_pos h, if_pos h2, if_neg h3]
theorem cnt_no {s : ByteArray} {i p : Nat} (h : i < s.size) (h2 : ¬ bt s (i : Nat) = 10) : cnt s i p = cnt s (i + 1) p := by rw [cnt, if_pos h, if_neg h2]
theorem cnt_out {s : ByteArray} {i p : Nat} (h : ¬ i < s.size) : cnt s i p = 0 := by rw [cnt, if_neg h]

theorem later_bounds (s : ByteArray) (i : Nat) : ∀ x, x ∈ later s i → i < x ∧ x ≤ s.size := by
  fun_induction later s i with
  | case1 i h h2 ih =>
    intro x hx
    rcases List.mem_cons.mp hx with rfl | hx
    · omega
    · have := ih x hx; omega
  | case2 i h h2 ih => intro x hx; have := ih x hx; omega
  | case3 i h => intro x hx; cases hx

theorem cnt_zero (s : ByteArray) (i p : Nat) (hp : p ≤ i) : cnt s i p = 0 := by
  revert hp
  fun_induction cnt s i p with
  | case1 i h h2 h3 ih => intro hp; omega
  | case2 i h h2 h3 => intro _; rfl
  | case3 i h h2 ih => intro hp; exact ih (by omega)
  | case4 i h => intro _; rfl

/-- The places in the list up to the count lie at p or ahead of it, the others behind. -/
theorem cnt_spec (s : ByteArray) (i p : Nat) : cnt s i p ≤ (later s i).length ∧ ∀ t, t < (later s i).length → ((later s i).getD t 0 ≤ p ↔ t < cnt s i p) := by
  fun_induction cnt s i p with
  | case1 i h h2 h3 ih =>
    rw [later_lf h h2]
    refine ⟨by simp only [List.length_cons]; omega, fun t ht => ?_⟩
    cases t with
    | zero => simp only [List.getD_cons_zero]; omega
    | succ t =>
      simp only [List.getD_cons_succ]
      simp only [List.length_cons] at ht
      rw [ih.2 t (by omega)]; omega
  | case2 i h h2 h3 =>
    rw [later_lf h h2]
    refine ⟨Nat.zero_le _, fun t ht => ?_⟩
    cases t with
    | zero => simp only [List.getD_cons_zero]; omega
    | succ t =>
      simp only [List.getD_cons_succ]
      simp only [List.length_cons] at ht
      have hb := later_bounds s (i + 1) ((later s (i + 1)).getD t 0) (by rw [List.getD_eq_getElem?_getD, List.getElem?_eq_getElem (by omega), Option.getD_some]; exact List.getElem_mem _)
      omega
  | case3 i h h2 ih => rw [later_no h h2]; exact ih
  | case4 i h => rw [later_out h]; exact ⟨Nat.le_refl _, fun t ht => by simp at ht⟩

def posB (s : ByteArray) (p : Int) : Int × Int × Int :=
  if 65536 < s.size then (0, 0, 23) else if p < 0 ∨ (s.size : Int) < p then (0, 0, 3)
  else (((cnt s 0 p.toNat + 1 : Nat) : Int), p - (((starts s).getD (cnt s 0 p.toNat) 0 : Nat) : Int) + 1, 0)

theorem pos_step {s : ByteArray} {i p col : Nat} (h : i < s.size) (hp : i < p) :
    (if cnt s i p = 0 then col + (p - i) else p - (later s i).getD (cnt s i p - 1) 0 + 1) =
      (if bt s (i : Nat) = 10 then (if cnt s (i + 1) p = 0 then 1 + (p - (i + 1)) else p - (later s (i + 1)).getD (cnt s (i + 1) p - 1) 0 + 1)
        else (if cnt s (i + 1) p = 0 then col + 1 + (p - (i + 1)) else p - (later s (i + 1)).getD (cnt s (i + 1) p - 1) 0 + 1)) := by
  by_cases h2 : bt s (i : Nat) = 10
  · rw [if_pos h2, cnt_lf h h2 (by omega), later_lf h h2, if_neg (by omega)]
    by_cases h3 : cnt s (i + 1) p = 0
    · rw [if_pos h3, h3]; simp only [Nat.zero_add, Nat.sub_self, List.getD_cons_zero]; omega
    · rw [if_neg h3]
      obtain ⟨c, hc⟩ : ∃ c, cnt s (i + 1) p = c + 1 := ⟨cnt s (i + 1) p - 1, by omega⟩
      rw [hc]; simp only [Nat.add_sub_cancel, List.getD_cons_succ]
  · rw [if_neg h2, cnt_no h h2, later_no h h2]
    split <;> omega

theorem lpos_l0 (s : ByteArray) (p : Nat) (hp : p ≤ s.size) (hs : s.size ≤ 65536) : ∀ (d i k line col : Nat), i ≤ p → p - i = d → d < k → line ≤ i + 1 → col ≤ i + 1 →
    lex_Position.l0 k s (line : Int) (col : Int) (p : Int) (i : Int) = some (((line + cnt s i p : Nat) : Int), ((if cnt s i p = 0 then col + (p - i) else p - (later s i).getD (cnt s i p - 1) 0 + 1 : Nat) : Int), 0)
  | d, i, 0, _, _, _, _, h, _, _ => by omega
  | d, i, k + 1, line, col, hi, hd, hk, h1, h2 => by
    rw [lex_Position.l0]
    by_cases h : i < p
    · rw [if_pos (by omega), if_pos (Int.natCast_nonneg _), if_pos (by omega), wrap_one i (by omega), wrap_one line (by omega), wrap_one col (by omega), pos_step (by omega) h]
      by_cases h3 : bt s (i : Nat) = 10
      · rw [if_pos h3, if_pos h3, cnt_lf (by omega) h3 (by omega)]
        have := lpos_l0 s p hp hs (d - 1) (i + 1) k (line + 1) 1 (by omega) (by omega) (by omega) (by omega) (by omega)
        rw [show line + (cnt s (i + 1) p + 1) = line + 1 + cnt s (i + 1) p by omega]
        exact this
      · rw [if_neg h3, if_neg h3, cnt_no (by omega) h3]
        exact lpos_l0 s p hp hs (d - 1) (i + 1) k line (col + 1) (by omega) (by omega) (by omega) (by omega) (by omega)
    · rw [if_neg (by omega), cnt_zero s i p (by omega), if_pos rfl, show p - i = 0 by omega]; rfl

theorem rpos_l0 (s : ByteArray) (p : Nat) (hp : p ≤ s.size) (hs : s.size ≤ 65536) : ∀ (d i k line col : Nat), i ≤ p → p - i = d → d < k → line ≤ i + 1 → col ≤ i + 1 →
    entailref03_Position.l0 k s (p : Int) (line : Int) (col : Int) (i : Int) = some (((line + cnt s i p : Nat) : Int), ((if cnt s i p = 0 then col + (p - i) else p - (later s i).getD (cnt s i p - 1) 0 + 1 : Nat) : Int), 0)
  | d, i, 0, _, _, _, _, h, _, _ => by omega
  | d, i, k + 1, line, col, hi, hd, hk, h1, h2 => by
    rw [entailref03_Position.l0]
    by_cases h : i < p
    · rw [if_pos (by omega), if_pos (Int.natCast_nonneg _), if_pos (by omega), wrap_one i (by omega), wrap_one line (by omega), wrap_one col (by omega), pos_step (by omega) h]
      by_cases h3 : bt s (i : Nat) = 10
      · rw [if_pos h3, if_pos h3, cnt_lf (by omega) h3 (by omega)]
        have := rpos_l0 s p hp hs (d - 1) (i + 1) k (line + 1) 1 (by omega) (by omega) (by omega) (by omega) (by omega)
        rw [show line + (cnt s (i + 1) p + 1) = line + 1 + cnt s (i + 1) p by omega]
        exact this
      · rw [if_neg h3, if_neg h3, cnt_no (by omega) h3]
        exact rpos_l0 s p hp hs (d - 1) (i + 1) k line (col + 1) (by omega) (by omega) (by omega) (by omega) (by omega)
    · rw [if_neg (by omega), cnt_zero s i p (by omega), if_pos rfl, show p - i = 0 by omega]; rfl

theorem pos_first (s : ByteArray) (p : Nat) (hp : p ≤ s.size) (hs : s.size ≤ 65536) : (some (((1 + cnt s 0 p : Nat) : Int), ((if cnt s 0 p = 0 then 1 + (p - 0) else p - (later s 0).getD (cnt s 0 p - 1) 0 + 1 : Nat) : Int), (0 : Int)) : Option (Int × Int × Int)) = some (posB s (p : Int)) := by
  rw [posB, if_neg (show ¬ 65536 < s.size by omega), if_neg (show ¬ ((p : Int) < 0 ∨ (s.size : Int) < (p : Int)) by omega), Int.toNat_natCast, starts]
  have hc := cnt_spec s 0 p
  by_cases h : cnt s 0 p = 0
  · rw [if_pos h, h]; simp only [List.getD_cons_zero]
    congr 2
    refine Prod.ext ?_ rfl
    show ((1 + (p - 0) : Nat) : Int) = _
    omega
  · rw [if_neg h]
    obtain ⟨c, hc1⟩ : ∃ c, cnt s 0 p = c + 1 := ⟨cnt s 0 p - 1, by omega⟩
    have hle := (hc.2 c (by omega)).mpr (by omega)
    rw [hc1]; simp only [Nat.add_sub_cancel, List.getD_cons_succ]
    congr 2
    · show ((1 + (c + 1) : Nat) : Int) = _; omega
    · refine Prod.ext ?_ rfl
      show ((p - (later s 0).getD c 0 + 1 : Nat) : Int) = _
      omega

theorem lfirst_f (a b : Int) (k : Nat) (hk : 5 < k) : lex_first.f k [a, b] = some (if a = 0 then b else a) := by
  obtain ⟨k, rfl⟩ : ∃ k', k = k' + 3 := ⟨k - 3, by omega⟩
  unfold lex_first.f
  rw [lex_first.l0, if_pos (by simp), if_pos (by omega), if_pos (by simp)]
  show (if a = 0 then _ else some a) = _
  by_cases h : a = 0
  · rw [if_pos h, if_pos h, show wrap64 (0 + 1) = ((1 : Nat) : Int) from wrap_one 0 (by omega), lex_first.l0, if_pos (by simp), if_pos (by omega), if_pos (by simp)]
    show (if b = 0 then _ else some b) = _
    by_cases h2 : b = 0
    · rw [if_pos h2, h2, show wrap64 (((1 : Nat) : Int) + 1) = ((2 : Nat) : Int) from wrap_one 1 (by omega), lex_first.l0, if_neg (by simp)]
    · rw [if_neg h2]
  · rw [if_neg h, if_neg h]
theorem rfirst_f (a b : Int) (k : Nat) (hk : 5 < k) : entailref02_First.f k [a, b] = some (if a = 0 then b else a) := by
  obtain ⟨k, rfl⟩ : ∃ k', k = k' + 3 := ⟨k - 3, by omega⟩
  unfold entailref02_First.f
  rw [entailref02_First.l0, if_pos (by simp), if_pos (by omega)]
  show (if a = 0 then _ else some a) = _
  by_cases h : a = 0
  · rw [if_pos h, if_pos h, show wrap64 (0 + 1) = ((1 : Nat) : Int) from wrap_one 0 (by omega), entailref02_First.l0, if_pos (by simp), if_pos (by omega)]
    show (if b = 0 then _ else some b) = _
    by_cases h2 : b = 0
    · rw [if_pos h2, h2, show wrap64 (((1 : Nat) : Int) + 1) = ((2 : Nat) : Int) from wrap_one 1 (by omega), entailref02_First.l0, if_neg (by simp)]
    · rw [if_neg h2]
  · rw [if_neg h, if_neg h]

theorem lpos_f (s : ByteArray) (p : Int) (k : Nat) (hk : 65600 < k) : lex_Position.f k s p = some (posB s p) := by
  obtain ⟨k, rfl⟩ : ∃ k', k = k' + 1 := ⟨k - 1, by omega⟩
  unfold lex_Position.f
  by_cases h1 : 65536 < s.size
  · have hw : lex_when.f (decide ((s.size : Int) > 65536)) 23 = some 23 := by rw [decide_eq_true (by omega)]; rfl
    have hj : lex_Position.j0 (k + 1) s p 23 = some (0, 0, 23) := by rw [lex_Position.j0, if_neg (by omega)]
    rw [hw, Option.bind_some, posB, if_pos h1]
    by_cases h2 : p < 0
    · rw [if_pos h2, show lex_when.f true 3 = some 3 from rfl, Option.bind_some, lfirst_f _ _ _ (by omega), Option.bind_some, if_neg (by omega), hj]
    · rw [if_neg h2]
      cases hb : lex_when.f (decide (p > (s.size : Int))) 3 with
      | none => unfold lex_when.f at hb; split at hb <;> cases hb
      | some v => rw [Option.bind_some, lfirst_f _ _ _ (by omega), Option.bind_some, if_neg (by omega), hj]
  · have hw : lex_when.f (decide ((s.size : Int) > 65536)) 23 = some 0 := by rw [decide_eq_false (by omega)]; rfl
    rw [hw, Option.bind_some]
    have hj : lex_Position.j0 (k + 1) s p 3 = some (0, 0, 3) := by rw [lex_Position.j0, if_neg (by omega)]
    by_cases h2 : p < 0
    · rw [if_pos h2, show lex_when.f true 3 = some 3 from rfl, Option.bind_some, lfirst_f _ _ _ (by omega), Option.bind_some, if_pos rfl, hj, posB, if_neg h1, if_pos (.inl h2)]
    · rw [if_neg h2]
      by_cases h3 : (s.size : Int) < p
      · rw [decide_eq_true (show p > (s.size : Int) by omega), show lex_when.f true 3 = some 3 from rfl, Option.bind_some, lfirst_f _ _ _ (by omega), Option.bind_some, if_pos rfl, hj, posB, if_neg h1, if_pos (.inr h3)]
      · rw [decide_eq_false (show ¬ p > (s.size : Int) by omega), show lex_when.f false 3 = some 0 from rfl, Option.bind_some, lfirst_f _ _ _ (by omega), Option.bind_some, if_pos rfl, lex_Position.j0, if_pos rfl]
        obtain ⟨q, rfl⟩ : ∃ q : Nat, p = (q : Int) := ⟨p.toNat, by omega⟩
        exact (lpos_l0 s q (by omega) (by omega) q 0 k 1 1 (by omega) rfl (by omega) (by omega) (by omega)).trans (pos_first s q (by omega) (by omega))

theorem rpos_f (s : ByteArray) (p : Int) (k : Nat) (hk : 65600 < k) : entailref03_Position.f k s p = some (posB s p) := by
  obtain ⟨k, rfl⟩ : ∃ k', k = k' + 1 := ⟨k - 1, by omega⟩
  unfold entailref03_Position.f
  by_cases h1 : 65536 < s.size
  · have hw : entailref02_When.f (decide ((s.size : Int) > 65536)) 23 = some 23 := by rw [decide_eq_true (by omega)]; rfl
    have hj : entailref03_Position.j0 (k + 1) s p 23 = some (0, 0, 23) := by rw [entailref03_Position.j0, if_neg (by omega)]
    rw [hw, Option.bind_some, posB, if_pos h1]
    by_cases h2 : p < 0
    · rw [if_pos h2, show entailref02_When.f true 3 = some 3 from rfl, Option.bind_some, rfirst_f _ _ _ (by omega), Option.bind_some, if_neg (by omega), hj]
    · rw [if_neg h2]
      cases hb : entailref02_When.f (decide (p > (s.size : Int))) 3 with
      | none => unfold entailref02_When.f at hb; split at hb <;> cases hb
      | some v => rw [Option.bind_some, rfirst_f _ _ _ (by omega), Option.bind_some, if_neg (by omega), hj]
  · have hw : entailref02_When.f (decide ((s.size : Int) > 65536)) 23 = some 0 := by rw [decide_eq_false (by omega)]; rfl
    rw [hw, Option.bind_some]
    have hj : entailref03_Position.j0 (k + 1) s p 3 = some (0, 0, 3) := by rw [entailref03_Position.j0, if_neg (by omega)]
    by_cases h2 : p < 0
    · rw [if_pos h2, show entailref02_When.f true 3 = some 3 from rfl, Option.bind_some, rfirst_f _ _ _ (by omega), Option.bind_some, if_pos rfl, hj, posB, if_neg h1, if_pos (.inl h2)]
    · rw [if_neg h2]
      by_cases h3 : (s.size : Int) < p
      · rw [decide_eq_true (show p > (s.size : Int) by omega), show entailref02_When.f true 3 = some 3 from rfl, Option.bind_some, rfirst_f _ _ _ (by omega), Option.bind_some, if_pos rfl, hj, posB, if_neg h1, if_pos (.inr h3)]
      · rw [decide_eq_false (show ¬ p > (s.size : Int) by omega), show entailref02_When.f false 3 = some 0 from rfl, Option.bind_some, rfirst_f _ _ _ (by omega), Option.bind_some, if_pos rfl, entailref03_Position.j0, if_pos rfl]
        obtain ⟨q, rfl⟩ : ∃ q : Nat, p = (q : Int) := ⟨p.toNat, by omega⟩
        exact (rpos_l0 s q (by omega) (by omega) q 0 k 1 1 (by omega) rfl (by omega) (by omega) (by omega)).trans (pos_first s q (by omega) (by omega))
end Go.Proofs.YtmnnhbikdgpedaaDoor.Lx
