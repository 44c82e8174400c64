/- THE PLAIN LAW of LexReturns, part 2: the tokens of a joined text. No walk here. -/
import Derived.Test.YtmnnhbikdgpedaaDoorLjN
namespace Go.Proofs.YtmnnhbikdgpedaaDoor.Lx
open Go.RowKit Go.Proofs.YtmnnhbikdgpedaaDoorW.PrintWords Go.Proofs.YtmnnhbikdgpedaaDoorW.PrintLast Go.Proofs.YtmnnhbikdgpedaaDoorW.PrintMore
open Go.Proofs.YtmnnhbikdgpedaaDoor.PLexTokens
set_option linter.unusedVariables false
set_option linter.unusedSimpArgs false

/-! ### signs -/
def aheadC : List UInt8 := [41, 93, 44, 59, 46, 63, 91]
def behindC : List UInt8 := [40, 91, 35, 33, 46]
theorem sg_no_space : ∀ n, n < 39 → ∀ i, i < (sg n).size → (sg n).data.toList.getD i 0 ≠ 32 := by
  have h : (List.range 39).all (fun n => (List.range (sg n).size).all fun i => (sg n).data.toList.getD i 0 != 32) = true := by decide +kernel
  intro n hn i hi
  have h1 := List.all_eq_true.mp h n (by simpa using hn)
  have h2 := List.all_eq_true.mp h1 i (by simpa using hi)
  simpa using h2
theorem sg_behind : ∀ n, n < 39 → (sg n).data.toList.getD 0 0 ∈ behindC → (sg n).size ≤ 2 := by
  have h : (List.range 39).all (fun n => !(behindC.contains ((sg n).data.toList.getD 0 0)) || decide ((sg n).size ≤ 2)) = true := by decide +kernel
  intro n hn hi
  have h1 := List.all_eq_true.mp h n (by simpa using hn)
  rw [Bool.or_eq_true, decide_eq_true_eq] at h1
  rcases h1 with h1 | h1
  · rw [List.contains_iff_mem.mpr hi] at h1; cases h1
  · exact h1
theorem sg_ahead : ∀ n, n < 39 → ∀ i, 0 < i → i < (sg n).size → (sg n).data.toList.getD i 0 ∈ aheadC → (sg n).size ≤ i + 1 := by
  have h : (List.range 39).all (fun n => (List.range (sg n).size).all fun i => (i == 0) || (!(aheadC.contains ((sg n).data.toList.getD i 0)) || decide ((sg n).size ≤ i + 1))) = true := by decide +kernel
  intro n hn i h0 hi hm
  have h1 := List.all_eq_true.mp h n (by simpa using hn)
  have h2 := List.all_eq_true.mp h1 i (by simpa using hi)
  rw [Bool.or_eq_true, Bool.or_eq_true, decide_eq_true_eq] at h2
  rcases h2 with h2 | h2 | h2
  · simp at h2; omega
  · rw [List.contains_iff_mem.mpr hm] at h2; cases h2
  · exact h2
theorem best_ge (s : ByteArray) (i : Nat) : ∀ (m n : Nat), n < m → hasAt s i (sg n) = true → (sg n).size ≤ (bestSign s i m).size
  | 0, n, h, _ => by omega
  | m + 1, n, h, hh => by
    rw [bestSign]
    by_cases e : n = m
    · subst e
      rw [hh, Bool.true_and]
      by_cases c : (bestSign s i n).size < (sg n).size
      · rw [if_pos (decide_eq_true c)]; exact Nat.le_refl _
      · rw [if_neg (by simpa using c)]; omega
    · have ih := best_ge s i m n (by omega) hh
      by_cases c : (hasAt s i (sg m) && decide ((bestSign s i m).size < (sg m).size)) = true
      · rw [if_pos c]
        rw [Bool.and_eq_true, decide_eq_true_eq] at c
        omega
      · rw [if_neg c]; exact ih
theorem best_eq {s t : ByteArray} {p i : Nat} (h0 : bt s (p : Int) = bt t (i : Int)) (h : ∀ n, n < 39 → hasAt s p (sg n) = hasAt t i (sg n)) : ∀ m, m ≤ 39 → bestSign s p m = bestSign t i m
  | 0, _ => by rw [bestSign, bestSign, h0]
  | m + 1, hm => by rw [bestSign, bestSign, best_eq h0 h m (by omega), h m (by omega)]
theorem At.has {s : ByteArray} {p : Nat} {t : ByteArray} {R : List UInt8} (h : At s p t R) (q : ByteArray) (hq : q.size ≤ t.size) : hasAt s p q = hasAt t 0 q := by
  rw [Bool.eq_iff_iff, hasAt_iff, hasAt_iff, h.d, List.drop_zero]
  constructor
  · intro h1
    exact List.prefix_of_prefix_length_le h1 (List.prefix_append _ _) (by rw [← Lib.size_eq, ← Lib.size_eq]; exact hq)
  · intro h1
    exact h1.trans (List.prefix_append _ _)

theorem At.sign {s : ByteArray} {p : Nat} {t : ByteArray} {R : List UInt8} (h : At s p t R) (h0 : 0 < t.size) (hN : ∀ n, n < 39 → hasAt s p (sg n) = true → (sg n).size ≤ t.size) (hb : (signTok t 0).bad = 0) : signTok s p = ⟨(signTok t 0).kind, p + (signTok t 0).fin, 0⟩ := by
  have hbt : bt s (p : Int) = bt t ((0 : Nat) : Int) := by
    have := h.byte h0
    rwa [Nat.add_zero] at this
  have hall : ∀ n, n < 39 → hasAt s p (sg n) = hasAt t 0 (sg n) := by
    intro n hn
    by_cases hsz : (sg n).size ≤ t.size
    · exact h.has _ hsz
    · cases h1 : hasAt s p (sg n) with
      | true => exact absurd (hN n hn h1) hsz
      | false =>
        cases h2 : hasAt t 0 (sg n) with
        | false => rfl
        | true =>
          have := hasAt_size t (sg n) 0 h2 (sg_size n hn)
          omega
  have he : signOf s p = signOf t 0 := best_eq hbt hall 39 (Nat.le_refl _)
  revert hb
  rw [signTok, signTok, he]
  by_cases c : (signOf t 0).size = 0
  · rw [if_pos c]; simp
  · rw [if_neg c, if_neg c]
    intro _
    simp

/-! ### tokens that stand alone -/
structure Val (x : S49) : Prop where
  tok : tokOf x.f1 0 = ⟨x.f0, x.f1.size, 0⟩
  pos : 0 < x.f1.size
  skip : skip x.f1 0 = (0, true)
theorem val_of (x : S49) (h : checkB x.f0 x.f1 = 0) : Val x := by
  rw [checkB] at h
  by_cases c1 : x.f0 < 0 ∨ 4 < x.f0
  · rw [if_pos c1] at h; cases h
  · rw [if_neg c1] at h
    by_cases c2 : 65536 < x.f1.size
    · rw [if_pos c2] at h; cases h
    · rw [if_neg c2] at h
      rcases hal : aloneB x.f1 with _ | ⟨z, _ | ⟨y, r⟩⟩
      · rw [hal] at h; cases h
      · rw [hal] at h
        simp only at h
        by_cases c3 : sameTok x.f1 z x.f0 x.f1 = true
        · obtain ⟨h1, h2, h3, h4⟩ := alone_ok (s := x.f1) (by rw [hal]; simp)
          rw [hal] at h2
          rw [← h2] at h3 h4
          rw [contig, contig, Bool.and_eq_true, Bool.and_eq_true, beq_iff_eq, beq_iff_eq] at h3
          obtain ⟨a1, a2, a3, a4, a5, a6, a7⟩ := lex_cons h2.symm h3.1.1
          rw [lastAt, lastAt, wid, ByteArray.size_extract] at h4
          rw [sameTok, Bool.and_eq_true, beq_iff_eq] at c3
          rw [h3.1.2] at a1 a3
          refine ⟨?_, by omega, a1⟩
          rw [← a3]
          have hz : z.1 = ⟨z.1.kind, z.1.fin, z.1.bad⟩ := rfl
          rw [hz, c3.1, h3.1.1, show z.1.fin = x.f1.size by omega]
        · rw [if_neg c3] at h; cases h
      · rw [hal] at h; cases h
theorem vals_of : ∀ (M : List S49), firstBad M = 0 → ∀ x ∈ M, Val x
  | [], _, x, hx => by cases hx
  | y :: M, h, x, hx => by
    rw [firstBad] at h
    by_cases c : checkB y.f0 y.f1 = 0
    · rw [if_pos c] at h
      rcases List.mem_cons.1 hx with rfl | hx
      · exact val_of _ c
      · exact vals_of M h x hx
    · rw [if_neg c] at h
      exact absurd h c

theorem skip_facts {t : ByteArray} (h : skip t 0 = (0, true)) (h0 : 0 < t.size) : isSpace (bt t ((0 : Nat) : Int)) = false ∧ hasAt t 0 slashes = false ∧ hasAt t 0 opening = false := by
  have h1 : isSpace (bt t ((0 : Nat) : Int)) = false := by
    cases c : isSpace (bt t ((0 : Nat) : Int)) with
    | false => rfl
    | true =>
      rw [skip, dif_pos h0, c, if_pos rfl] at h
      have := skip_ge t (0 + 1)
      rw [h] at this
      simp at this
  have h2 : hasAt t 0 slashes = false := by
    cases c : hasAt t 0 slashes with
    | false => rfl
    | true =>
      have hp := (hasAt_pair t 0 47 47).1 c
      have hr : 0 < runEnd notLf t 0 := runEnd_gt h0 (by rw [hp.2.1]; decide)
      rw [skip, dif_pos h0, h1, c, if_neg (by simp), if_pos rfl, dif_pos hr] at h
      have := skip_ge t (runEnd notLf t 0)
      rw [h] at this
      simp at this
      omega
  refine ⟨h1, h2, ?_⟩
  cases c : hasAt t 0 opening with
  | false => rfl
  | true =>
    rw [skip, dif_pos h0, h1, h2, c, if_neg (by simp), if_neg (by simp), if_pos rfl] at h
    by_cases c2 : closing t 0 < 0
    · rw [if_pos c2] at h; cases h
    · rw [if_neg c2] at h
      have := skip_ge t (0 + (closing t 0).toNat + 4)
      rw [h] at this
      simp at this
theorem At.skips {s : ByteArray} {p : Nat} {t : ByteArray} {R : List UInt8} (h : At s p t R) (h0 : 0 < t.size) (hv : skip t 0 = (0, true)) (hc : t.size = 1 → bt t ((0 : Nat) : Int) = 47 → R = [] ∨ (fst R ≠ 47 ∧ fst R ≠ 42)) : skip s p = (p, true) := by
  obtain ⟨h1, h2, h3⟩ := skip_facts hv h0
  have hs := h.size
  have hbt : bt s (p : Int) = bt t ((0 : Nat) : Int) := by
    have := h.byte h0
    rwa [Nat.add_zero] at this
  have hpair : ∀ b : UInt8, (t.size = 1 → bt t ((0 : Nat) : Int) = 47 → R = [] ∨ fst R ≠ (b.toNat : Int)) → hasAt t 0 ⟨#[47, b]⟩ = false → hasAt s p ⟨#[47, b]⟩ = false := by
    intro b hb hf
    by_cases c : bt t ((0 : Nat) : Int) = 47
    · have := h.pair 47 b (i := 0) (Nat.zero_le _) (fun e => by omega) (fun e => hb (by omega) c)
      rw [Nat.add_zero] at this
      rw [this]
      exact hf
    · cases hh : hasAt s p ⟨#[47, b]⟩ with
      | false => rfl
      | true =>
        have := ((hasAt_pair s p 47 b).1 hh).2.1
        rw [hbt] at this
        exact absurd this c
  have g2 : hasAt s p slashes = false := hpair 47 (fun a b => (hc a b).imp_right (·.1)) h2
  have g3 : hasAt s p opening = false := hpair 42 (fun a b => (hc a b).imp_right (·.2)) h3
  rw [skip, dif_pos (by omega), hbt, h1, g2, g3]
  simp

/-! ### the joined text -/
def tailB : S49 → List S49 → List UInt8
  | _, [] => []
  | x, y :: ys => (if apartB x.f0 x.f1 y.f0 y.f1 = true then [32] else []) ++ y.f1.data.toList ++ tailB y ys
def headB : List S49 → List UInt8
  | [] => []
  | x :: xs => x.f1.data.toList ++ tailB x xs
def toksAt : S49 → List S49 → Nat → List (Tok × Nat)
  | x, [], p => [(⟨x.f0, p + x.f1.size, 0⟩, p)]
  | x, y :: ys, p => (⟨x.f0, p + x.f1.size, 0⟩, p) :: toksAt y ys (p + x.f1.size + if apartB x.f0 x.f1 y.f0 y.f1 = true then 1 else 0)

theorem first_byte {t : ByteArray} {R : List UInt8} (h : 0 < t.size) : fst (t.data.toList ++ R) = bt t ((0 : Nat) : Int) := by
  rw [fst, bt_list, List.getD_eq_getElem?_getD, List.getD_eq_getElem?_getD, List.getElem?_append_left (by rw [← Lib.size_eq]; exact h)]
theorem apart_false {k1 : Int} {t1 : ByteArray} {k2 : Int} {t2 : ByteArray} (h : apartB k1 t1 k2 t2 = false) : ¬ (t1.toList = [46] ∧ (k2 = 2 ∨ k2 = 3)) ∧ twoTok k1 t1 k2 t2 = true ∧ (Lib.containsS behindL t1 = true ∨ Lib.containsS aheadL t2 = true) := by
  rw [apartB] at h
  by_cases c1 : t1.toList = [46] ∧ (k2 = 2 ∨ k2 = 3)
  · rw [if_pos c1] at h; cases h
  · rw [if_neg c1] at h
    refine ⟨c1, ?_⟩
    cases c2 : twoTok k1 t1 k2 t2 with
    | false => rw [c2, if_pos rfl] at h; cases h
    | true =>
      rw [c2, if_neg (by simp)] at h
      refine ⟨rfl, ?_⟩
      cases h1 : Lib.containsS behindL t1 with
      | true => exact .inl rfl
      | false =>
        cases h2 : Lib.containsS aheadL t2 with
        | true => exact .inr rfl
        | false => rw [h1, h2] at h; simp at h
theorem behind_byte {t : ByteArray} (h : Lib.containsS behindL t = true) : ∃ c ∈ behindC, t = ⟨#[c]⟩ := by
  have := (Lib.containsS_iff _ _).1 h
  simp only [behindL, List.mem_cons, List.not_mem_nil, or_false] at this
  rcases this with rfl | rfl | rfl | rfl | rfl <;> exact ⟨_, by decide, rfl⟩
theorem ahead_byte {t : ByteArray} (h : Lib.containsS aheadL t = true) : ∃ c ∈ aheadC, t = ⟨#[c]⟩ := by
  have := (Lib.containsS_iff _ _).1 h
  simp only [aheadL, List.mem_cons, List.not_mem_nil, or_false] at this
  rcases this with rfl | rfl | rfl | rfl | rfl | rfl | rfl <;> exact ⟨_, by decide, rfl⟩
theorem behind_cls : ∀ c ∈ behindC, isLetter (c.toNat : Int) = false ∧ isDigit (c.toNat : Int) = false ∧ c ≠ 47 := by decide
theorem ahead_cls : ∀ c ∈ aheadC, cls (c.toNat : Int) = false ∧ (c.toNat : Int) ≠ 58 ∧ (c.toNat : Int) ≠ 47 ∧ (c.toNat : Int) ≠ 42 := by decide

/-- The kind of a token by its first byte. -/
theorem kind_digit {t : ByteArray} {k : Int} {n : Nat} (h : tokOf t 0 = ⟨k, n, 0⟩) (hd : isDigit (bt t ((0 : Nat) : Int)) = true) : k = 2 ∨ k = 3 := by
  have hl : isLetter (bt t ((0 : Nat) : Int)) = false := by
    rw [isDigit, Bool.and_eq_true, decide_eq_true_eq, decide_eq_true_eq] at hd
    rw [isLetter, Bool.or_eq_false_iff, Bool.and_eq_false_iff, Bool.and_eq_false_iff]
    exact ⟨.inl (decide_eq_false (by omega)), .inl (decide_eq_false (by omega))⟩
  rw [tokOf, hl, hd, if_neg (by simp), if_pos rfl, numTok] at h
  split at h
  · injection h with h1 h2 h3
    simp at h3
  · rw [numEnd] at h
    split at h
    · injection h with h1 h2 h3; exact .inr h1.symm
    · injection h with h1 h2 h3; exact .inl h1.symm

/-- What a token finds behind it in a joined text. -/
theorem follow (x : S49) (xs : List S49) (hx : Val x) (hxs : ∀ y ∈ xs, Val y) : tailB x xs = [] ∨ fst (tailB x xs) = 32 ∨ ∃ y ys, xs = y :: ys ∧ tailB x xs = y.f1.data.toList ++ tailB y ys ∧ twoTok x.f0 x.f1 y.f0 y.f1 = true ∧ (Lib.containsS behindL x.f1 = true ∨ Lib.containsS aheadL y.f1 = true) := by
  cases xs with
  | nil => exact .inl rfl
  | cons y ys =>
    right
    cases h : apartB x.f0 x.f1 y.f0 y.f1 with
    | true => left; rw [tailB, h]; rfl
    | false =>
      right
      obtain ⟨_, h2, h3⟩ := apart_false h
      exact ⟨y, ys, rfl, by rw [tailB, h]; rfl, h2, h3⟩
theorem follow_word (x : S49) (xs : List S49) (hx : Val x) (hxs : ∀ y ∈ xs, Val y) (hf : isLetter (bt x.f1 ((0 : Nat) : Int)) = true ∨ isDigit (bt x.f1 ((0 : Nat) : Int)) = true) : tailB x xs = [] ∨ fst (tailB x xs) = 32 ∨ ∃ y ys c, xs = y :: ys ∧ c ∈ aheadC ∧ y.f1 = ⟨#[c]⟩ ∧ tailB x xs = c :: tailB y ys := by
  rcases follow x xs hx hxs with h | h | ⟨y, ys, h1, h2, h3, h4 | h4⟩
  · exact .inl h
  · exact .inr (.inl h)
  · exfalso
    obtain ⟨c, hc, e⟩ := behind_byte h4
    rw [e] at hf
    obtain ⟨a, b, _⟩ := behind_cls c hc
    rw [show bt ⟨#[c]⟩ ((0 : Nat) : Int) = (c.toNat : Int) from rfl, a, b] at hf
    simp at hf
  · obtain ⟨c, hc, e⟩ := ahead_byte h4
    exact .inr (.inr ⟨y, ys, c, h1, hc, e, by rw [h2, e]; rfl⟩)
theorem follow_cls (x : S49) (xs : List S49) (hx : Val x) (hxs : ∀ y ∈ xs, Val y) (hf : isLetter (bt x.f1 ((0 : Nat) : Int)) = true ∨ isDigit (bt x.f1 ((0 : Nat) : Int)) = true) : tailB x xs = [] ∨ (cls (fst (tailB x xs)) = false ∧ fst (tailB x xs) ≠ 58) := by
  rcases follow_word x xs hx hxs hf with h | h | ⟨y, ys, c, _, hc, _, h⟩
  · exact .inl h
  · rw [h]; exact .inr ⟨by decide, by decide⟩
  · rw [h, show fst (c :: tailB y ys) = (c.toNat : Int) from rfl]
    exact .inr ⟨(ahead_cls c hc).1, (ahead_cls c hc).2.1⟩
theorem follow_dot (x : S49) (xs : List S49) (hx : Val x) (hxs : ∀ y ∈ xs, Val y) (hf : isDigit (bt x.f1 ((0 : Nat) : Int)) = true) : fst (tailB x xs) = 46 → (tailB x xs).length = 1 ∨ isDigit (snd (tailB x xs)) = false := by
  intro h46
  rcases follow_word x xs hx hxs (.inr hf) with h | h | ⟨y, ys, c, he, hc, hy, h⟩
  · rw [h] at h46; simp [fst] at h46
  · rw [h] at h46; simp at h46
  · rw [h] at h46 ⊢
    have hc46 : (c.toNat : Int) = 46 := h46
    have hy46 : y.f1.toList = [46] := by
      have : c = 46 := UInt8.toNat_inj.1 (by have : (46 : UInt8).toNat = 46 := rfl; omega)
      rw [hy, this, Lib.toList_data]
    rw [show snd (c :: tailB y ys) = fst (tailB y ys) by simp [snd, fst]]
    cases ys with
    | nil => left; rfl
    | cons z zs =>
      right
      have hz : Val z := hxs z (by rw [he]; simp)
      cases ha : apartB y.f0 y.f1 z.f0 z.f1 with
      | true => rw [tailB, ha, if_pos rfl]; rfl
      | false =>
        have h1 := (apart_false ha).1
        rw [show tailB y (z :: zs) = z.f1.data.toList ++ tailB z zs by rw [tailB, ha]; rfl, first_byte hz.pos]
        cases hd : isDigit (bt z.f1 ((0 : Nat) : Int)) with
        | false => rfl
        | true => exact absurd ⟨hy46, kind_digit hz.tok hd⟩ h1
theorem follow_slash (x : S49) (xs : List S49) (hx : Val x) (hxs : ∀ y ∈ xs, Val y) (h47 : bt x.f1 ((0 : Nat) : Int) = 47) : tailB x xs = [] ∨ (fst (tailB x xs) ≠ 47 ∧ fst (tailB x xs) ≠ 42) := by
  rcases follow x xs hx hxs with h | h | ⟨y, ys, h1, h2, h3, h4 | h4⟩
  · exact .inl h
  · rw [h]; exact .inr ⟨by decide, by decide⟩
  · exfalso
    obtain ⟨c, hc, e⟩ := behind_byte h4
    rw [e, show bt ⟨#[c]⟩ ((0 : Nat) : Int) = (c.toNat : Int) from rfl] at h47
    exact (behind_cls c hc).2.2 (UInt8.toNat_inj.1 (by have : (47 : UInt8).toNat = 47 := rfl; omega))
  · obtain ⟨c, hc, e⟩ := ahead_byte h4
    rw [h2, e, show fst ((⟨#[c]⟩ : ByteArray).data.toList ++ tailB y ys) = (c.toNat : Int) from rfl]
    exact .inr ⟨(ahead_cls c hc).2.2.1, (ahead_cls c hc).2.2.2⟩

theorem pre_get {a b : List UInt8} (h : a <+: b) {i : Nat} (hi : i < a.length) : a.getD i 0 = b.getD i 0 := by
  obtain ⟨r, rfl⟩ := h
  rw [List.getD_eq_getElem?_getD, List.getD_eq_getElem?_getD, List.getElem?_append_left hi]
theorem follow_sign (x : S49) (xs : List S49) (hx : Val x) (hxs : ∀ y ∈ xs, Val y) (hl : isLetter (bt x.f1 ((0 : Nat) : Int)) = false) (hd : isDigit (bt x.f1 ((0 : Nat) : Int)) = false) {s : ByteArray} {p : Nat} (h : At s p x.f1 (tailB x xs)) :
    ∀ n, n < 39 → hasAt s p (sg n) = true → (sg n).size ≤ x.f1.size := by
  intro n hn hh
  by_cases hle : (sg n).size ≤ x.f1.size
  · exact hle
  exfalso
  have hpre := (hasAt_iff s (sg n) p).1 hh
  rw [h.d] at hpre
  have hpos := hx.pos
  have hm : x.f1.size < (sg n).data.toList.length := by rw [← Lib.size_eq]; omega
  have hnext : (sg n).data.toList.getD x.f1.size 0 = (tailB x xs).getD 0 0 := by
    rw [pre_get hpre hm, List.getD_eq_getElem?_getD, List.getElem?_append_right (by rw [← Lib.size_eq]; exact Nat.le_refl _), ← Lib.size_eq, Nat.sub_self, List.getD_eq_getElem?_getD]
  have hfirst : (sg n).data.toList.getD 0 0 = x.f1.data.toList.getD 0 0 := by
    rw [pre_get hpre (by omega), List.getD_eq_getElem?_getD, List.getElem?_append_left (by rw [← Lib.size_eq]; exact hpos), List.getD_eq_getElem?_getD]
  have hlen := hpre.length_le
  rw [List.length_append, ← Lib.size_eq, ← Lib.size_eq] at hlen
  rcases follow x xs hx hxs with h1 | h1 | ⟨y, ys, h1, h2, h3, h4⟩
  · rw [h1, List.length_nil] at hlen; omega
  · have : (tailB x xs).getD 0 0 = 32 := UInt8.toNat_inj.1 (by have e : (32 : UInt8).toNat = 32 := rfl; have : ((tailB x xs).getD 0 0).toNat = (32 : Int) := h1; omega)
    rw [this] at hnext
    exact sg_no_space n hn x.f1.size (by omega) hnext
  · have hsz : (sg n).size ≤ x.f1.size + 1 := by
      rcases h4 with h4 | h4
      · obtain ⟨c, hc, e⟩ := behind_byte h4
        have : (sg n).size ≤ 2 := sg_behind n hn (by rw [hfirst, e]; exact hc)
        rw [e] at hle ⊢
        have e1 : (⟨#[c]⟩ : ByteArray).size = 1 := rfl
        omega
      · obtain ⟨c, hc, e⟩ := ahead_byte h4
        exact sg_ahead n hn x.f1.size hpos (by omega) (by rw [hnext, h2, e]; exact hc)
    have hy : Val y := hxs y (by rw [h1]; simp)
    obtain ⟨z1, z2, _, ⟨a1, a2, a3, a4, a5, a6⟩, _, b1, b2, _⟩ := two_toks h3
    have hin : hasAt (x.f1 ++ y.f1) 0 (sg n) = true := by
      rw [hasAt_iff, List.drop_zero]
      have hp2 : (sg n).data.toList <+: (x.f1.data.toList ++ y.f1.data.toList) ++ tailB y ys := by
        rw [h2] at hpre
        rwa [List.append_assoc]
      have h5 : (sg n).data.toList <+: x.f1.data.toList ++ y.f1.data.toList :=
        List.prefix_of_prefix_length_le hp2 (List.prefix_append _ _) (by rw [List.length_append, ← Lib.size_eq, ← Lib.size_eq, ← Lib.size_eq]; omega)
      simpa using h5
    have hge := best_ge (x.f1 ++ y.f1) 0 39 n hn hin
    have hb0 : bt (x.f1 ++ y.f1) ((0 : Nat) : Int) = bt x.f1 ((0 : Nat) : Int) := by
      rw [bt_list, bt_list, show (x.f1 ++ y.f1).data.toList = x.f1.data.toList ++ y.f1.data.toList by simp, List.getD_eq_getElem?_getD, List.getD_eq_getElem?_getD, List.getElem?_append_left (by rw [← Lib.size_eq]; exact hpos)]
    rw [tokOf, hb0, hl, hd, if_neg (by simp), if_neg (by simp), signTok] at a1
    have hne : ¬ (signOf (x.f1 ++ y.f1) 0).size = 0 := fun e => by
      rw [if_pos e] at a1
      rw [a1] at a3
      simp at a3
    rw [if_neg hne] at a1
    rw [a1] at a5
    simp only at a5
    have : (signOf (x.f1 ++ y.f1) 0) = bestSign (x.f1 ++ y.f1) 0 39 := rfl
    rw [this] at a5
    omega
/-- A token in a joined text is read as the token it is. -/
theorem tok_at (x : S49) (xs : List S49) (hx : Val x) (hxs : ∀ y ∈ xs, Val y) {s : ByteArray} {p : Nat} (h : At s p x.f1 (tailB x xs)) : tokOf s p = ⟨x.f0, p + x.f1.size, 0⟩ := by
  have hbt : bt s (p : Int) = bt x.f1 ((0 : Nat) : Int) := by
    have := h.byte hx.pos
    rwa [Nat.add_zero] at this
  have ht := hx.tok
  rw [tokOf] at ht ⊢
  rw [hbt]
  by_cases c1 : isLetter (bt x.f1 ((0 : Nat) : Int)) = true
  · rw [if_pos c1] at ht ⊢
    rw [h.name hx.pos (follow_cls x xs hx hxs (.inl c1)) (by rw [ht]), ht]
  · rw [if_neg c1] at ht ⊢
    by_cases c2 : isDigit (bt x.f1 ((0 : Nat) : Int)) = true
    · rw [if_pos c2] at ht ⊢
      rw [h.num hx.pos ((follow_cls x xs hx hxs (.inr c2)).imp_right (·.1)) (follow_dot x xs hx hxs c2) (by rw [ht]), ht]
    · rw [if_neg c2] at ht ⊢
      rw [h.sign hx.pos (follow_sign x xs hx hxs (by simpa using c1) (by simpa using c2) h) (by rw [ht]), ht]
theorem skip_at (x : S49) (xs : List S49) (hx : Val x) (hxs : ∀ y ∈ xs, Val y) {s : ByteArray} {p : Nat} (h : At s p x.f1 (tailB x xs)) : skip s p = (p, true) :=
  h.skips hx.pos hx.skip (fun _ h47 => follow_slash x xs hx hxs h47)

theorem lex_joined : ∀ (xs : List S49) (x : S49) (s : ByteArray) (p q : Nat), Val x → (∀ y ∈ xs, Val y) → At s p x.f1 (tailB x xs) → skip s q = (p, true) → lexFrom s q = toksAt x xs p
  | [], x, s, p, q, hx, hxs, h, hq => by
    have ht := tok_at x [] hx hxs h
    have hs := h.size
    have hpos := hx.pos
    rw [lex_tok s q p hq (by omega) (by rw [ht]), ht, toksAt]
    rw [show tailB x [] = [] from rfl, List.length_nil] at hs
    rw [lex_end s (p + x.f1.size) (p + x.f1.size) (by rw [skip, dif_neg (by omega)]) (by omega)]
  | y :: ys, x, s, p, q, hx, hxs, h, hq => by
    have ht := tok_at x (y :: ys) hx hxs h
    have hs := h.size
    have hpos := hx.pos
    have hy : Val y := hxs y (by simp)
    have hys : ∀ z ∈ ys, Val z := fun z hz => hxs z (by simp [hz])
    rw [lex_tok s q p hq (by omega) (by rw [ht]), ht, toksAt]
    congr 1
    have hdrop : s.data.toList.drop (p + x.f1.size) = tailB x (y :: ys) := by
      rw [← List.drop_drop, h.d, List.drop_append_of_le_length (by rw [← Lib.size_eq]; exact Nat.le_refl _), List.drop_of_length_le (by rw [← Lib.size_eq]; exact Nat.le_refl _), List.nil_append]
    cases ha : apartB x.f0 x.f1 y.f0 y.f1 with
    | false =>
      rw [tailB, ha] at hdrop
      rw [if_neg (by simp), Nat.add_zero]
      have h2 : At s (p + x.f1.size) y.f1 (tailB y ys) := ⟨by rw [hdrop]; rfl, by omega⟩
      exact lex_joined ys y s _ _ hy hys h2 (skip_at y ys hy hys h2)
    | true =>
      rw [tailB, ha] at hdrop
      rw [if_pos rfl]
      have hl : 1 ≤ (tailB x (y :: ys)).length := by rw [tailB, ha]; simp
      have h2 : At s (p + x.f1.size + 1) y.f1 (tailB y ys) := ⟨by rw [← List.drop_drop, hdrop]; rfl, by omega⟩
      refine lex_joined ys y s _ _ hy hys h2 ?_
      have hsp : bt s ((p + x.f1.size : Nat) : Int) = 32 := by
        have := bt_drop s (p + x.f1.size) 0 _ hdrop
        rw [Nat.add_zero] at this
        rw [this]
        rfl
      show skip s (p + x.f1.size) = _
      rw [skip, dif_pos (by omega), hsp, show isSpace 32 = true from rfl, if_pos rfl]
      exact skip_at y ys hy hys h2
end Go.Proofs.YtmnnhbikdgpedaaDoor.Lx
