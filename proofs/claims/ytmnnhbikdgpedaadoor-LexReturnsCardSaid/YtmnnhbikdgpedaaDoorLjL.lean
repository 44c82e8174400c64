/- THE PLAIN LAW of Join, part 2: the program's and the reference's Join are the same. No walk here. -/
import Derived.Test.YtmnnhbikdgpedaaDoorLjK
namespace Go.Proofs.YtmnnhbikdgpedaaDoor.Lx
open Go.RowKit Go.Proofs.YtmnnhbikdgpedaaDoorW.PrintWords Go.Proofs.YtmnnhbikdgpedaaDoorW.PrintLast Go.Proofs.YtmnnhbikdgpedaaDoorW.PrintMore
open Go.Proofs.YtmnnhbikdgpedaaDoor.PLexTokens
set_option linter.unusedVariables false
set_option linter.unusedSimpArgs false

theorem bt_one (c : UInt8) : bt ⟨#[c]⟩ (0 : Int) = (c.toNat : Int) := rfl
theorem tok_sign {s : ByteArray} {p : Nat} (h1 : isLetter (bt s (p : Int)) = false) (h2 : isDigit (bt s (p : Int)) = false) (hb : (tokOf s p).bad = 0) : (tokOf s p).kind = 4 := by
  revert hb
  rw [tokOf, h1, h2]
  simp only [Bool.false_eq_true, if_false]
  rw [signTok]
  split
  · intro h; simp at h
  · intro _; rfl
/-- A token of one byte that is no letter and no digit is a sign. -/
theorem sign_four {s : ByteArray} {x : Tok × Nat} {c : UInt8} (h1 : x.1 = tokOf s x.2) (hb : x.1.bad = 0) (h2 : x.2 < x.1.fin) (h3 : x.1.fin ≤ s.size) (ht : s.extract x.2 x.1.fin = ⟨#[c]⟩) (hl : isLetter (c.toNat : Int) = false) (hd : isDigit (c.toNat : Int) = false) : x.1.kind = 4 := by
  have h4 := bt_extract s x.2 x.1.fin 0 (by omega) h3
  rw [ht, Nat.add_zero] at h4
  have h5 : bt s (x.2 : Int) = (c.toNat : Int) := h4.symm.trans (bt_one c)
  rw [h1] at hb ⊢
  exact tok_sign (by rw [h5]; exact hl) (by rw [h5]; exact hd) hb

theorem behind_one {t : ByteArray} (h : t ∈ behindL) : ∃ c, t = ⟨#[c]⟩ ∧ isLetter (c.toNat : Int) = false ∧ isDigit (c.toNat : Int) = false := by
  simp only [behindL, List.mem_cons, List.not_mem_nil, or_false] at h
  rcases h with rfl | rfl | rfl | rfl | rfl <;> exact ⟨_, rfl, by decide, by decide⟩
theorem ahead_one {t : ByteArray} (h : t ∈ aheadL) : ∃ c, t = ⟨#[c]⟩ ∧ isLetter (c.toNat : Int) = false ∧ isDigit (c.toNat : Int) = false := by
  simp only [aheadL, List.mem_cons, List.not_mem_nil, or_false] at h
  rcases h with rfl | rfl | rfl | rfl | rfl | rfl | rfl <;> exact ⟨_, rfl, by decide, by decide⟩

/-- What two tokens that are the whole text are. -/
theorem two_toks {k1 : Int} {t1 : ByteArray} {k2 : Int} {t2 : ByteArray} (h : twoTok k1 t1 k2 t2 = true) :
    ∃ x y : Tok × Nat, lexFrom (t1 ++ t2) 0 = [x, y] ∧ (x.1 = tokOf (t1 ++ t2) 0 ∧ x.2 = 0 ∧ x.1.bad = 0 ∧ x.1.kind = k1 ∧ x.1.fin = t1.size ∧ (t1 ++ t2).extract 0 x.1.fin = t1) ∧
      (y.1 = tokOf (t1 ++ t2) t1.size ∧ y.2 = t1.size ∧ y.1.bad = 0 ∧ y.1.kind = k2 ∧ y.1.fin = t1.size + t2.size ∧ (t1 ++ t2).extract t1.size y.1.fin = t2) ∧ 0 < t1.size ∧ 0 < t2.size ∧ skip (t1 ++ t2) 0 = (0, true) := by
  unfold twoTok at h
  have hsz := size_append' t1 t2
  generalize t1 ++ t2 = s at *
  rcases hal : aloneB s with _ | ⟨x, _ | ⟨y, _ | ⟨z, r⟩⟩⟩
  · rw [hal] at h; cases h
  · rw [hal] at h; cases h
  · rw [hal] at h
    obtain ⟨h1, h2, h3, h4⟩ := alone_ok (s := s) (by rw [hal]; simp)
    rw [hal] at h2
    rw [← h2] at h3 h4
    have h' : sameTok s x k1 t1 = true ∧ sameTok s y k2 t2 = true := by
      have : (sameTok s x k1 t1 && sameTok s y k2 t2) = true := h
      rwa [Bool.and_eq_true] at this
    obtain ⟨hx, hy⟩ := h'
    rw [sameTok, Bool.and_eq_true, beq_iff_eq, beq_iff_eq] at hx hy
    have ex := toList_size hx.2
    have ey := toList_size hy.2
    rw [contig, contig, contig, Bool.and_eq_true, Bool.and_eq_true, Bool.and_eq_true, Bool.and_eq_true, beq_iff_eq, beq_iff_eq, beq_iff_eq, beq_iff_eq] at h3
    obtain ⟨⟨hbx, hpx⟩, ⟨hby, hpy⟩, _⟩ := h3
    obtain ⟨a1, a2, a3, a4, a5, a6, a7⟩ := lex_cons h2.symm hbx
    obtain ⟨b1, b2, b3, b4, b5, b6, b7⟩ := lex_cons a7.symm hby
    have hw : wid s x = t1.size := by rw [wid, ex]
    rw [hw] at hpy
    have e1 := congrArg ByteArray.size ex
    have e2 := congrArg ByteArray.size ey
    rw [ByteArray.size_extract] at e1 e2
    have f1 : x.1.fin = t1.size := by omega
    have f2 : y.1.fin = t1.size + t2.size := by omega
    rw [hpx] at a1 a3 ex
    rw [show y.2 = t1.size by omega] at b3 ey
    exact ⟨x, y, h2.symm, ⟨a3, hpx, hbx, hx.1, f1, ex⟩, ⟨b3, by omega, hby, hy.1, f2, ey⟩, by omega, by omega, a1⟩
  · rw [hal] at h; cases h

theorem behind_kind {k1 : Int} {t1 : ByteArray} {k2 : Int} {t2 : ByteArray} (h : twoTok k1 t1 k2 t2 = true) (hb : Lib.containsS behindL t1 = true) : k1 = 4 := by
  obtain ⟨x, y, _, ⟨a1, a2, a3, a4, a5, a6⟩, _, h1, h2, _⟩ := two_toks h
  obtain ⟨c, rfl, hl, hd⟩ := behind_one ((Lib.containsS_iff _ _).1 hb)
  rw [← a4]
  have hsz := size_append' ⟨#[c]⟩ t2
  exact sign_four (s := ⟨#[c]⟩ ++ t2) (by rw [a2]; exact a1) a3 (by omega) (by omega) (by rw [a2]; exact a6) hl hd
theorem ahead_kind {k1 : Int} {t1 : ByteArray} {k2 : Int} {t2 : ByteArray} (h : twoTok k1 t1 k2 t2 = true) (hb : Lib.containsS aheadL t2 = true) : k2 = 4 := by
  obtain ⟨x, y, _, _, ⟨a1, a2, a3, a4, a5, a6⟩, h1, h2, _⟩ := two_toks h
  obtain ⟨c, rfl, hl, hd⟩ := ahead_one ((Lib.containsS_iff _ _).1 hb)
  rw [← a4]
  have hsz := size_append' t1 ⟨#[c]⟩
  exact sign_four (s := t1 ++ ⟨#[c]⟩) (by rw [a2]; exact a1) a3 (by omega) (by omega) (by rw [a2]; exact a6) hl hd

theorem spaced_eq (k1 : Int) (t1 : ByteArray) (k2 : Int) (t2 : ByteArray) (ht : t1.size + t2.size ≤ 15000) : spacedB k1 t1 k2 t2 = apartB k1 t1 k2 t2 := by
  rw [spacedB, apartB, two_iff k1 t1 k2 t2 ht]
  by_cases h1 : t1.toList = [46] ∧ (k2 = 2 ∨ k2 = 3)
  · rw [if_pos h1, if_pos h1]; split <;> rfl
  · rw [if_neg h1, if_neg h1]
    cases h2 : twoTok k1 t1 k2 t2 with
    | false => rfl
    | true =>
      simp only [Bool.not_true, Bool.false_eq_true, if_false]
      rw [if_neg (by simp)]
      congr 2
      · cases hb : Lib.containsS behindL t1 with
        | false => simp
        | true => rw [behind_kind h2 hb]; rfl
      · cases hb : Lib.containsS aheadL t2 with
        | false => simp
        | true => rw [ahead_kind h2 hb]; rfl

/-- The reference's token as the program's. -/
def unconv (x : S61) : S49 := ⟨x.f0, x.f1, x.f2⟩
theorem tk_map (L : List S61) (j : Nat) : tk (L.map unconv) j = unconv (tr L j) := by
  rw [tk, tr, rd_T49, rd_T61, Int.toNat_natCast, List.getD_eq_getElem?_getD, List.getD_eq_getElem?_getD, List.getElem?_map]
  cases L[j]? <;> rfl
theorem firstBad_eq : ∀ (L : List S61), (∀ x ∈ L, x.f1.size ≤ 200) → firstBadR L = firstBad (L.map unconv)
  | [], _ => rfl
  | x :: L, h => by
    have h1 := h x (by simp)
    rw [firstBadR, List.map_cons, firstBad, badR_eq _ _ (by omega), firstBad_eq L (fun y hy => h y (by simp [hy]))]
    rfl
theorem gap_eq (L : List S61) (h : ∀ j, (tr L j).f1.size ≤ 200) (j : Nat) : gapR L j = gap (L.map unconv) j := by
  have h1 := h j
  have h2 := h (j - 1)
  rw [gapR, gap, tk_map, tk_map, spaced_eq _ _ _ _ (by omega)]
  rfl
theorem join_eq (L : List S61) (h : ∀ j, (tr L j).f1.size ≤ 200) : ∀ j, joinR L j = ⟨(joinUpto (L.map unconv) j).toArray⟩
  | 0 => rfl
  | j + 1 => by
    apply ba_ext
    rw [joinR, joinUpto, join_eq L h j, gap_eq L h j, tk_map]
    cases gap (L.map unconv) j <;> simp [unconv]
theorem tr_le {L : List S61} (h : ∀ x ∈ L, x.f1.size ≤ 200) (j : Nat) : (tr L j).f1.size ≤ 200 := by
  rw [tr, rd_T61, Int.toNat_natCast, List.getD_eq_getElem?_getD]
  by_cases hj : j < L.length
  · rw [List.getElem?_eq_getElem hj]
    exact h _ (List.getElem_mem hj)
  · rw [List.getElem?_eq_none (by omega)]
    decide
theorem joinRB_eq (L : List S61) (h : ∀ x ∈ L, x.f1.size ≤ 200) : joinRB L = joinB (L.map unconv) := by
  rw [joinRB, joinB, firstBad_eq L h, join_eq L (tr_le h), List.length_map]

/-! ### short -/
def shortB (L : List S61) : Bool := (L.all fun x => decide (x.f1.size ≤ 200)) && decide (L.length ≤ 80)
end Go.Proofs.YtmnnhbikdgpedaaDoor.Lx
