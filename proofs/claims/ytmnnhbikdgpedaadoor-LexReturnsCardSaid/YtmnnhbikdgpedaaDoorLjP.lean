/- THE PLAIN LAW of LexReturns, part 3: what the tokens of a joined text are, and that they join to it again. No walk here. -/
import Derived.Test.YtmnnhbikdgpedaaDoorLjO
import Derived.Test.YtmnnhbikdgpedaaDoorLjM
import Derived.Test.YtmnnhbikdgpedaaDoorLxV
namespace Go.Proofs.YtmnnhbikdgpedaaDoor.Lx
open Go.RowKit Go.Proofs.YtmnnhbikdgpedaaDoorW.PrintWords Go.Proofs.YtmnnhbikdgpedaaDoorW.PrintLast Go.Proofs.YtmnnhbikdgpedaaDoorW.PrintMore
open Go.Proofs.YtmnnhbikdgpedaaDoor.PLexTokens
set_option linter.unusedVariables false
set_option linter.unusedSimpArgs false

theorem joinUpto_head (x : S49) (xs : List S49) : ∀ j, j < xs.length + 1 → joinUpto (x :: xs) (j + 1) ++ tailB (tk (x :: xs) j) ((x :: xs).drop (j + 1)) = headB (x :: xs)
  | 0, _ => by
    have hg : gap (x :: xs) 0 = false := by simp [gap]
    rw [joinUpto, hg, show tk (x :: xs) 0 = x from rfl]
    rfl
  | j + 1, hj => by
    rw [← joinUpto_head x xs j (by omega), joinUpto]
    have hd := tk_drop (x :: xs) (j + 1) (by rw [List.length_cons]; exact hj)
    rw [hd, tailB]
    have hg : gap (x :: xs) (j + 1) = apartB (tk (x :: xs) j).f0 (tk (x :: xs) j).f1 (tk (x :: xs) (j + 1)).f0 (tk (x :: xs) (j + 1)).f1 := by simp [gap]
    rw [hg]
    simp only [List.append_assoc]
theorem joinUpto_all (x : S49) (xs : List S49) : joinUpto (x :: xs) (x :: xs).length = headB (x :: xs) := by
  have := joinUpto_head x xs xs.length (by omega)
  rw [show (x :: xs).drop (xs.length + 1) = [] from List.drop_of_length_le (by simp), show ∀ z, tailB z [] = [] from fun z => rfl, List.append_nil] at this
  exact this

/-- The tokens of a joined text. -/
def toksB : S49 → List S49 → Nat → List S49
  | x, [], p => [⟨x.f0, x.f1, p⟩]
  | x, y :: ys, p => ⟨x.f0, x.f1, p⟩ :: toksB y ys (p + x.f1.size + if apartB x.f0 x.f1 y.f0 y.f1 = true then 1 else 0)
/-- What the law's loop asks of the tokens behind an end. -/
def Good (s : ByteArray) : List S49 → Nat → Prop
  | [], e => e = s.size
  | z :: zs, e => ∃ q : Nat, z.f2 = (q : Int) ∧ e ≤ q ∧ q ≤ e + 1 ∧ q + z.f1.size ≤ s.size ∧ s.extract q (q + z.f1.size) = z.f1 ∧ Good s zs (q + z.f1.size)

theorem at_step {x y : S49} {ys : List S49} {s : ByteArray} {p : Nat} (h : At s p x.f1 (tailB x (y :: ys))) : At s (p + x.f1.size + if apartB x.f0 x.f1 y.f0 y.f1 = true then 1 else 0) y.f1 (tailB y ys) := by
  have hs := h.size
  have hdrop : s.data.toList.drop (p + x.f1.size) = tailB x (y :: ys) := by
    rw [← List.drop_drop, h.d, List.drop_append_of_le_length (by rw [← Lib.size_eq]; exact Nat.le_refl _), List.drop_of_length_le (by rw [← Lib.size_eq]; exact Nat.le_refl _), List.nil_append]
  cases ha : apartB x.f0 x.f1 y.f0 y.f1 with
  | false =>
    rw [tailB, ha] at hdrop
    rw [if_neg (by simp), Nat.add_zero]
    exact ⟨by rw [hdrop]; rfl, by omega⟩
  | true =>
    rw [tailB, ha] at hdrop
    rw [if_pos rfl]
    have hl : 1 ≤ (tailB x (y :: ys)).length := by rw [tailB, ha]; simp
    exact ⟨by rw [← List.drop_drop, hdrop]; rfl, by omega⟩
theorem at_text {x : S49} {R : List UInt8} {s : ByteArray} {p : Nat} (h : At s p x.f1 R) : s.extract p (p + x.f1.size) = x.f1 := by
  have := h.extract (a := 0) (b := x.f1.size) (Nat.le_refl _)
  rw [Nat.add_zero] at this
  rw [this]
  apply ba_ext
  rw [Lib.extract_data, List.drop_zero, Nat.sub_zero, List.take_of_length_le (by rw [Lib.size_eq]; exact Nat.le_refl _)]
theorem toks_map : ∀ (xs : List S49) (x : S49) (s : ByteArray) (p : Nat), At s p x.f1 (tailB x xs) → (toksAt x xs p).map (toL s) = toksB x xs p
  | [], x, s, p, h => by
    rw [toksAt, toksB, List.map_cons, List.map_nil, toL]
    simp only
    rw [at_text h]
  | y :: ys, x, s, p, h => by
    rw [toksAt, toksB, List.map_cons, toks_map ys y s _ (at_step h), toL]
    simp only
    rw [at_text h]
theorem toks_bad : ∀ (xs : List S49) (x : S49) (p : Nat), ((toksAt x xs p).all fun z => z.1.bad == 0) = true
  | [], x, p => rfl
  | y :: ys, x, p => by rw [toksAt, List.all_cons, toks_bad ys y]; rfl
theorem toks_len : ∀ (xs : List S49) (x : S49) (p : Nat), (toksAt x xs p).length = xs.length + 1
  | [], x, p => rfl
  | y :: ys, x, p => by rw [toksAt, List.length_cons, toks_len ys y]; rfl
theorem toksB_words : ∀ (xs : List S49) (x : S49) (p : Nat), (toksB x xs p).map (fun z => (z.f0, z.f1)) = (x :: xs).map fun z => (z.f0, z.f1)
  | [], x, p => rfl
  | y :: ys, x, p => by rw [toksB, List.map_cons, toksB_words ys y]; rfl
theorem toks_good : ∀ (xs : List S49) (x : S49) (s : ByteArray) (p e : Nat), At s p x.f1 (tailB x xs) → e ≤ p → p ≤ e + 1 → Good s (toksB x xs p) e
  | [], x, s, p, e, h, h1, h2 => by
    have hs := h.size
    rw [show tailB x [] = [] from rfl, List.length_nil] at hs
    exact ⟨p, rfl, h1, h2, by show p + x.f1.size ≤ s.size; omega, at_text h, by show p + x.f1.size = s.size; omega⟩
  | y :: ys, x, s, p, e, h, h1, h2 => by
    have hs := h.size
    refine ⟨p, rfl, h1, h2, by show p + x.f1.size ≤ s.size; omega, at_text h, toks_good ys y s _ (p + x.f1.size) (at_step h) (by omega) ?_⟩
    split <;> omega

theorem firstBad_words : ∀ (M N : List S49), M.map (fun z => (z.f0, z.f1)) = N.map (fun z => (z.f0, z.f1)) → firstBad M = firstBad N
  | [], [], _ => rfl
  | [], _ :: _, h => by simp at h
  | _ :: _, [], h => by simp at h
  | x :: M, y :: N, h => by
    simp only [List.map_cons, List.cons.injEq, Prod.mk.injEq] at h
    rw [firstBad, firstBad, h.1.1, h.1.2, firstBad_words M N h.2]
theorem tk_words {M N : List S49} (h : M.map (fun z => (z.f0, z.f1)) = N.map (fun z => (z.f0, z.f1))) (j : Nat) : (tk M j).f0 = (tk N j).f0 ∧ (tk M j).f1 = (tk N j).f1 := by
  have h1 : (M.map (fun z => (z.f0, z.f1)))[j]? = (N.map (fun z => (z.f0, z.f1)))[j]? := by rw [h]
  rw [List.getElem?_map, List.getElem?_map] at h1
  rw [tk, tk, rd_T49, rd_T49, Int.toNat_natCast, List.getD_eq_getElem?_getD, List.getD_eq_getElem?_getD]
  cases hm : M[j]? <;> cases hn : N[j]? <;> rw [hm, hn] at h1 <;> simp at h1
  · exact ⟨rfl, rfl⟩
  · exact ⟨h1.1, h1.2⟩
theorem joinUpto_words {M N : List S49} (h : M.map (fun z => (z.f0, z.f1)) = N.map (fun z => (z.f0, z.f1))) : ∀ j, joinUpto M j = joinUpto N j
  | 0 => rfl
  | j + 1 => by
    obtain ⟨a, b⟩ := tk_words h j
    obtain ⟨c, d⟩ := tk_words h (j - 1)
    rw [joinUpto, joinUpto, joinUpto_words h j, gap, gap, a, b, c, d]
theorem joinB_words {M N : List S49} (h : M.map (fun z => (z.f0, z.f1)) = N.map (fun z => (z.f0, z.f1))) : joinB M = joinB N := by
  have hl : M.length = N.length := by
    have := congrArg List.length h
    simpa using this
  rw [joinB, joinB, firstBad_words M N h, joinUpto_words h, hl]

/-- The tokens that are read in a joined text. -/
def backL : List S49 → List S49
  | [] => []
  | x :: xs => toksB x xs 0
theorem back_words (M : List S49) : (backL M).map (fun z => (z.f0, z.f1)) = M.map fun z => (z.f0, z.f1) := by
  cases M with
  | nil => rfl
  | cons x xs => exact toksB_words xs x 0
theorem back_len (M : List S49) : (backL M).length = M.length := by
  have := congrArg List.length (back_words M)
  simpa using this
theorem back_size (M : List S49) (h : ∀ j, (tk M j).f1.size ≤ 200) (j : Nat) : (tk (backL M) j).f1.size ≤ 200 := by
  rw [(tk_words (back_words M) j).2]
  exact h j
theorem back_join (M : List S49) : joinB (backL M) = joinB M := joinB_words (back_words M)

theorem joined_size (M : List S49) (hM : M.length ≤ 80) (h : ∀ j, (tk M j).f1.size ≤ 200) : (⟨(joinUpto M M.length).toArray⟩ : ByteArray).size ≤ 16080 := by
  have := joinUpto_le M h M.length
  rw [Lib.size_eq]
  simp only [List.toList_toArray]
  omega
/-- Tokens at a joined text. -/
theorem tokens_joined (M : List S49) (hM : M.length ≤ 80) (h : ∀ j, (tk M j).f1.size ≤ 200) (hb : firstBad M = 0) (s : ByteArray) (hs : s = ⟨(joinUpto M M.length).toArray⟩) :
    (tokRes s).1.map (toL s) = backL M ∧ (tokRes s).2.1 = 0 ∧ (tokRes s).2.2 = 0 ∧ Good s (backL M) 0 := by
  have hsz : s.size ≤ 16080 := by rw [hs]; exact joined_size M hM h
  cases M with
  | nil =>
    subst hs
    rw [show (⟨(joinUpto [] [].length).toArray⟩ : ByteArray) = ⟨#[]⟩ from rfl]
    have : tokRes ⟨#[]⟩ = ([], 0, 0) := by decide +kernel
    rw [this]
    exact ⟨rfl, rfl, rfl, rfl⟩
  | cons x xs =>
    have hv := vals_of (x :: xs) hb
    have hx : Val x := hv x (by simp)
    have hxs : ∀ y ∈ xs, Val y := fun y hy => hv y (by simp [hy])
    have hat : At s 0 x.f1 (tailB x xs) := ⟨by rw [hs, joinUpto_all]; rfl, Nat.zero_le _⟩
    have hl := lex_joined xs x s 0 0 hx hxs hat (skip_at x xs hx hxs hat)
    have htr : tokRes s = (lexFrom s 0, 0, 0) := by
      have hlen := lexFrom_length s 0 (Nat.zero_le _)
      rw [tokRes, if_neg (by omega)]
      have hf : (lexFrom s 0).find? (fun x => x.1.bad != 0) = none := by
        rw [List.find?_eq_none]
        intro z hz
        rw [hl] at hz
        have := List.all_eq_true.mp (toks_bad xs x 0) z hz
        simpa using this
      rw [hf]
      simp only
      rw [dif_neg (by omega)]
    rw [htr]
    refine ⟨?_, rfl, rfl, toks_good xs x s 0 0 hat (Nat.le_refl _) (by omega)⟩
    show (lexFrom s 0).map (toL s) = _
    rw [hl, toks_map xs x s 0 hat]
    rfl

theorem sameWords_l0 (M : List S49) (L : List S61) (hw : M.map (fun z => (z.f0, z.f1)) = L.map (fun z => (z.f0, z.f1))) (hL : L.length ≤ 80) : ∀ (d j k : Nat), j ≤ L.length → L.length - j = d → d < k →
    entailref03_SameWords.l0 k (M.map conv) L (j : Int) = some true
  | d, j, 0, _, _, h => by omega
  | d, j, k + 1, hj, hd, hk => by
    have hl : M.length = L.length := by
      have := congrArg List.length hw
      simpa using this
    rw [entailref03_SameWords.l0]
    by_cases h : j < L.length
    · have e1 : rd_T61 L (j : Int) = L[j] := by rw [rd_T61, Int.toNat_natCast, List.getD_eq_getElem?_getD, List.getElem?_eq_getElem h, Option.getD_some]
      have e2 : rd_T61 (M.map conv) (j : Int) = conv (M[j]'(by omega)) := by rw [rd_T61, Int.toNat_natCast, List.getD_eq_getElem?_getD, List.getElem?_map, List.getElem?_eq_getElem (by omega)]; rfl
      have e3 : (M.map (fun z => (z.f0, z.f1)))[j]? = (L.map (fun z => (z.f0, z.f1)))[j]? := by rw [hw]
      rw [List.getElem?_map, List.getElem?_map, List.getElem?_eq_getElem (by omega), List.getElem?_eq_getElem h] at e3
      simp only [Option.map_some, Option.some.injEq, Prod.mk.injEq] at e3
      have ih := sameWords_l0 M L hw hL (d - 1) (j + 1) k (by omega) (by omega) (by omega)
      simp only [e1, e2, List.length_map, hl, conv, e3.1, e3.2, wrap_one j (by omega), ih]
      have a1 : (j : Int) < (L.length : Int) := by omega
      have a2 : 0 ≤ (j : Int) := Int.natCast_nonneg _
      simp [a1, a2]
    · have a1 : ¬ (j : Int) < ((M.map conv).length : Int) := by rw [List.length_map]; omega
      rw [if_neg a1]
theorem sameWords_f (M : List S49) (L : List S61) (hw : M.map (fun z => (z.f0, z.f1)) = L.map (fun z => (z.f0, z.f1))) (hL : L.length ≤ 80) : entailref03_SameWords.f 200 (M.map conv) L = some true := by
  have hl : M.length = L.length := by
    have := congrArg List.length hw
    simpa using this
  unfold entailref03_SameWords.f
  rw [if_pos (by rw [List.length_map, hl])]
  exact sameWords_l0 M L hw hL L.length 0 200 (by omega) rfl (by omega)
end Go.Proofs.YtmnnhbikdgpedaaDoor.Lx
