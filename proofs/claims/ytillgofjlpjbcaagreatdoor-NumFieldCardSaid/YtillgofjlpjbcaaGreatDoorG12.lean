import Derived.Test.YtillgofjlpjbcaaGreatDoorG11
import Derived.Test.YtillgofjlpjbcaaGreatDoorG9
import Derived.Test.YtillgofjlpjbcaaGreatDoorG8
import Derived.Test.YtillgofjlpjbcaaGreatDoorG10
set_option linter.unusedVariables false
section
/- Fractions by their strings: plain Lean. -/
namespace Go.Proofs.YtillgofjlpjbcaaGreatDoor.Nm
open Go.RowKit Go.Shelf Go.Lib Go.Proofs.YtillgofjlpjbcaaGreatDoorW.PrintWords Go.Proofs.YtillgofjlpjbcaaGreatDoorW.PrintLast Go.Proofs.YtillgofjlpjbcaaGreatDoorW.PrintMore
set_option linter.unusedVariables false
set_option linter.unusedSimpArgs false

/-! ### a string cut at a byte -/
theorem index_end {c : UInt8} : ∀ (l r : List UInt8), c ∉ l → Lib.index (l ++ c :: r) [c] = (l.length : Int)
  | [], r, _ => by simp [Lib.index, List.isPrefixOf]
  | d :: l, r, h => by
    have h1 : c ≠ d := fun e => h (by simp [e])
    have h2 : c ∉ l := fun e => h (by simp [e])
    have ih := index_end l r h2
    show Lib.index (d :: (l ++ c :: r)) [c] = _
    unfold Lib.index
    have hp : List.isPrefixOf [c] (d :: (l ++ c :: r)) = false := by simp [List.isPrefixOf, h1]
    rw [hp, ih]
    have hn : (((l.length : Nat) : Int) == -1) = false := by rw [beq_eq_false_iff_ne]; omega
    simp [hn]
theorem byte_none {c : UInt8} : ∀ (l : List UInt8), c ∉ l → Lib.indexByte l c = -1
  | [], _ => rfl
  | d :: l, h => by
    have h1 : d ≠ c := fun e => h (by simp [e])
    have h2 : c ∉ l := fun e => h (by simp [e])
    unfold Lib.indexByte
    rw [byte_none l h2]
    simp [h1]
theorem cut_append {c : UInt8} (l r : List UInt8) (h : c ∉ l) : Lib.cut (l ++ c :: r) [c] = (l, r, true) := by
  unfold Lib.cut
  rw [index_end l r h, if_pos (by omega)]
  simp
theorem cut_join {c : UInt8} {s : List UInt8} (h : (Lib.cut s [c]).2.2 = true) : s = (Lib.cut s [c]).1 ++ c :: (Lib.cut s [c]).2.1 := by
  unfold Lib.cut at *
  rcases Lib.index_spec s [c] with ⟨h1, _⟩ | ⟨i, h1, h2, h3, _⟩
  · rw [h1] at h
    exact absurd h (by simp)
  · rw [h1, if_pos (by omega)]
    show s = s.take i ++ c :: s.drop (i + 1)
    unfold Lib.occAt at h3
    cases hd : s.drop i with
    | nil => rw [hd] at h3; simp [List.isPrefixOf] at h3
    | cons d t =>
      rw [hd] at h3
      have hc : c = d := by simpa [List.isPrefixOf] using h3
      subst hc
      have ht : s.drop (i + 1) = t := by rw [← List.drop_drop, hd]; rfl
      rw [ht, ← hd, List.take_append_drop]

/-! ### the string of a fraction -/
def frS (p q : Int) : ByteArray := strI p ++ ⟨#[47]⟩ ++ strI q
theorem frS_list (p q : Int) : (frS p q).data.toList = (strI p).data.toList ++ 47 :: (strI q).data.toList := by
  unfold frS
  simp
theorem no47 (x : Int) : (47 : UInt8) ∉ (strI x).data.toList := by
  rw [show (strI x).data.toList = Lib.itoa x from rfl, itoa_abs]
  intro h
  rcases List.mem_append.1 h with h | h
  · split at h <;> simp at h
  · have := dec_digits x.natAbs 47 h
    revert this
    decide
theorem fr_cut (p q : Int) : cutA 47 (frS p q) = strI p ∧ cutB 47 (frS p q) = strI q ∧ cutF 47 (frS p q) = true := by
  unfold cutA cutB cutF
  rw [frS_list, cut_append _ _ (no47 p)]
  exact ⟨rfl, rfl, rfl⟩
theorem fr_check {p q : Int} (hp : Dig 120 p) (hq : Dig 120 q) (h0 : 0 < q) (hg : Int.gcd p q = 1) : checkR (frS p q) = 0 ∧ numR (frS p q) = p ∧ denR (frS p q) = q := by
  obtain ⟨h1, h2, h3⟩ := fr_cut p q
  have hn : numR (frS p q) = p := by unfold numR; rw [h1, (strI_check hp).2]
  have hd : denR (frS p q) = q := by unfold denR; rw [h2, (strI_check hq).2]
  refine ⟨?_, hn, hd⟩
  have hb : hasB 47 (strI q) = false := by unfold hasB; rw [byte_none _ (no47 q)]; rfl
  unfold checkR
  rw [hn, hd, h1, h2, h3, hb, (strI_check hp).1, (strI_check hq).1, if_neg (by simp), if_neg (show ¬ firstI [0, 0] ≠ 0 by decide), if_neg (by omega)]
theorem fr_of {s : ByteArray} (h : checkR s = 0) : s = frS (numR s) (denR s) := by
  obtain ⟨h1, h2, h3, h4⟩ := checkR_ok h
  have hf : cutF 47 s = true := by
    unfold checkR at h
    split at h
    · omega
    · rename_i h5
      cases hc : cutF 47 s
      · exact absurd (.inl hc) h5
      · rfl
  have hj := cut_join (s := s.data.toList) (c := 47) hf
  have e1 : strI (numR s) = cutA 47 s := strI_intI h1
  have e2 : strI (denR s) = cutB 47 s := strI_intI h2
  have e : s.data.toList = (frS (numR s) (denR s)).data.toList := by
    rw [frS_list, e1, e2]
    exact hj
  apply ByteArray.ext
  exact Array.toList_inj.1 e
theorem fr_inj {p q r s : Int} (hp : Dig 120 p) (hq : Dig 120 q) (hr : Dig 120 r) (hs : Dig 120 s) (h : frS p q = frS r s) : p = r ∧ q = s := by
  obtain ⟨a1, a2, _⟩ := fr_cut p q
  obtain ⟨b1, b2, _⟩ := fr_cut r s
  rw [h] at a1 a2
  exact ⟨strI_inj hp hr (a1.symm.trans b1), strI_inj hq hs (a2.symm.trans b2)⟩
theorem fr_size {s : ByteArray} (h : checkR s = 0) {n : Nat} (hn : s.size ≤ n + 1) : ∃ i j : Nat, i + j ≤ n ∧ Dig i (numR s) ∧ Dig j (denR s) := by
  obtain ⟨h1, h2, h3, h4⟩ := checkR_ok h
  have e1 : strI (numR s) = cutA 47 s := strI_intI h1
  have e2 : strI (denR s) = cutB 47 s := strI_intI h2
  have hs : s.size = (cutA 47 s).size + 1 + (cutB 47 s).size := by
    have := congrArg List.length (congrArg (fun x => x.data.toList) (fr_of h))
    simp only [frS_list, e1, e2] at this
    have k : ∀ t : ByteArray, t.data.toList.length = t.size := fun t => by simp
    rw [List.length_append, List.length_cons, k, k, k] at this
    omega
  exact ⟨(cutA 47 s).size, (cutB 47 s).size, by omega, intI_digs h1 (Nat.le_refl _), intI_digs h2 (Nat.le_refl _)⟩

/-! ### lowest terms -/
theorem low_facts {y z : Int} (hz : z ≠ 0) : ∃ P Q : Int, y / lowD y z = P ∧ z / lowD y z = Q ∧ P * lowD y z = y ∧ Q * lowD y z = z ∧ 0 < Q ∧ Int.gcd P Q = 1 := by
  have hd := lowD_ne (p := y) hz
  have ha := lowD_abs y z
  have d1 : lowD y z ∣ y := Int.natAbs_dvd_natAbs.1 (by rw [ha]; exact Nat.gcd_dvd_left _ _)
  have d2 : lowD y z ∣ z := Int.natAbs_dvd_natAbs.1 (by rw [ha]; exact Nat.gcd_dvd_right _ _)
  have k1 : y / lowD y z * lowD y z = y := Int.ediv_mul_cancel d1
  have k2 : z / lowD y z * lowD y z = z := Int.ediv_mul_cancel d2
  have hs := lowD_neg (p := y) hz
  refine ⟨_, _, rfl, rfl, k1, k2, ?_, ?_⟩
  · generalize z / lowD y z = Q at *
    generalize lowD y z = d at *
    rcases Int.lt_trichotomy Q 0 with h | h | h
    · exfalso
      rcases Int.lt_or_lt_of_ne hd with h2 | h2
      · have h3 : z < 0 := by simpa [h2] using hs
        have := Int.mul_pos_of_neg_of_neg h h2
        omega
      · have h3 : ¬ z < 0 := by simpa [show ¬ d < 0 by omega] using hs
        have := Int.mul_neg_of_neg_of_pos h h2
        omega
    · subst h; simp at k2; omega
    · exact h
  · have g1 : y.natAbs = (y / lowD y z).natAbs * Nat.gcd y.natAbs z.natAbs := by rw [← ha, ← Int.natAbs_mul, k1]
    have g2 : z.natAbs = (z / lowD y z).natAbs * Nat.gcd y.natAbs z.natAbs := by rw [← ha, ← Int.natAbs_mul, k2]
    have hg : 0 < Nat.gcd y.natAbs z.natAbs := Nat.gcd_pos_of_pos_right _ (by omega)
    show Nat.gcd (y / lowD y z).natAbs (z / lowD y z).natAbs = 1
    generalize hG : Nat.gcd y.natAbs z.natAbs = G at *
    rw [g1, g2, Nat.gcd_mul_right] at hG
    exact Nat.eq_of_mul_eq_mul_right hg (by rw [hG, Nat.one_mul])
theorem low_unique {p q r s : Int} (hq : 0 < q) (hs : 0 < s) (h1 : Int.gcd p q = 1) (h2 : Int.gcd r s = 1) (h : p * s = r * q) : p = r ∧ q = s := by
  have e : p.natAbs * s.natAbs = r.natAbs * q.natAbs := by rw [← Int.natAbs_mul, h, Int.natAbs_mul]
  have c1 : Nat.Coprime q.natAbs p.natAbs := (Nat.Coprime.symm h1)
  have c2 : Nat.Coprime s.natAbs r.natAbs := (Nat.Coprime.symm h2)
  have d1 : q.natAbs ∣ s.natAbs := c1.dvd_of_dvd_mul_left (by rw [e]; exact Nat.dvd_mul_left _ _)
  have d2 : s.natAbs ∣ q.natAbs := c2.dvd_of_dvd_mul_left (by rw [← e]; exact Nat.dvd_mul_left _ _)
  have e2 : q = s := by have := Nat.dvd_antisymm d1 d2; omega
  subst e2
  exact ⟨Int.eq_of_mul_eq_mul_right (by omega) h, rfl⟩
theorem low_same {y z y' z' : Int} (hz : z ≠ 0) (hz' : z' ≠ 0) (h : y * z' = y' * z) : y / lowD y z = y' / lowD y' z' ∧ z / lowD y z = z' / lowD y' z' := by
  obtain ⟨P, Q, a1, a2, a3, a4, a5, a6⟩ := low_facts (y := y) hz
  obtain ⟨P', Q', b1, b2, b3, b4, b5, b6⟩ := low_facts (y := y') hz'
  rw [a1, a2, b1, b2]
  have hd := lowD_ne (p := y) hz
  have hd' := lowD_ne (p := y') hz'
  refine low_unique a5 b5 a6 b6 ?_
  generalize lowD y z = d at *
  generalize lowD y' z' = d' at *
  refine Int.eq_of_mul_eq_mul_right (a := d * d') (Int.mul_ne_zero hd hd') ?_
  calc P * Q' * (d * d') = (P * d) * (Q' * d') := by ac_rfl
    _ = (P' * d') * (Q * d) := by rw [a3, b4, b3, a4]; exact h
    _ = P' * Q * (d * d') := by ac_rfl
theorem rs_same {y z y' z' : Int} (hz : z ≠ 0) (hz' : z' ≠ 0) (h : y * z' = y' * z) : rsS y z = rsS y' z' ∧ rsE y z = rsE y' z' := by
  obtain ⟨h1, h2⟩ := low_same hz hz' h
  unfold rsS rsE
  rw [h1, h2]
  exact ⟨rfl, rfl⟩
theorem Dig.of_mul {k : Nat} {P d y : Int} (hy : Dig k y) (hd : d ≠ 0) (h : P * d = y) : Dig k P := by
  unfold Dig at *
  refine Nat.lt_of_le_of_lt ?_ hy
  rw [← h, Int.natAbs_mul]
  exact Nat.le_mul_of_pos_right _ (by omega)
theorem mul_swap {P Q d y z : Int} (a3 : P * d = y) (a4 : Q * d = z) : P * z = y * Q := by
  subst a3 a4
  ac_rfl
theorem rs_ok {y z : Int} (hy : Dig 120 y) (hz : Dig 120 z) (h0 : z ≠ 0) : ∃ P Q : Int, rsS y z = frS P Q ∧ rsE y z = 0 ∧ P * z = y * Q ∧ 0 < Q ∧ Int.gcd P Q = 1 ∧ Dig 120 P ∧ Dig 120 Q := by
  obtain ⟨P, Q, a1, a2, a3, a4, a5, a6⟩ := low_facts (y := y) h0
  have hd := lowD_ne (p := y) h0
  have dP := hy.of_mul hd a3
  have dQ := hz.of_mul hd a4
  refine ⟨P, Q, ?_, ?_, ?_, a5, a6, dP, dQ⟩
  · unfold rsS ftS ftE
    rw [a1, a2, (wr_dig dP).1, (wr_dig dP).2, (wr_dig dQ).1, (wr_dig dQ).2, if_pos (by decide)]
    rfl
  · unfold rsE ftE
    rw [a1, a2, (wr_dig dP).1, (wr_dig dQ).1]
    decide
  · exact mul_swap a3 a4
end Go.Proofs.YtillgofjlpjbcaaGreatDoor.Nm
end
section
/- Fractions: what NumField's steps answer, in plain Lean. -/
namespace Go.Proofs.YtillgofjlpjbcaaGreatDoor.Nm
open Go.RowKit Go.Shelf Go.Lib Go.Proofs.YtillgofjlpjbcaaGreatDoorW.PrintWords Go.Proofs.YtillgofjlpjbcaaGreatDoorW.PrintLast Go.Proofs.YtillgofjlpjbcaaGreatDoorW.PrintMore
set_option linter.unusedVariables false
set_option linter.unusedSimpArgs false

theorem re_zero {a b : ByteArray} (ha : checkR a = 0) (hb : checkR b = 0) : reE a b = 0 := by unfold reE; rw [ha, hb]; decide
theorem re_of {of : Int → Int → Int → Int → Int × Int} {a b : ByteArray} (ha : checkR a = 0) (hb : checkR b = 0) {p q r s : Int} (h1 : numR a = p) (h2 : denR a = q) (h3 : numR b = r) (h4 : denR b = s) :
    reS of a b = rsS (of p q r s).1 (of p q r s).2 ∧ reR of a b = rsE (of p q r s).1 (of p q r s).2 := by
  unfold reS reR
  rw [if_pos (re_zero ha hb), if_pos (re_zero ha hb), h1, h2, h3, h4]
  exact ⟨rfl, rfl⟩
theorem fr_sz {p q : Int} (hp : Dig 120 p) (hq : Dig 120 q) : (frS p q).size ≤ 80000 := by
  have h1 := strI_size hp
  have h2 := strI_size hq
  have h := congrArg List.length (frS_list p q)
  have k : ∀ t : ByteArray, t.data.toList.length = t.size := fun t => by simp
  rw [List.length_append, List.length_cons, k, k, k] at h
  omega
/-- A fraction in lowest terms, with its string. -/
structure Frc (s : ByteArray) (p q : Int) : Prop where
  str : s = frS p q
  pos : 0 < q
  low : Int.gcd p q = 1
  dp : Dig 120 p
  dq : Dig 120 q
section
variable {s a b : ByteArray} {p q p1 q1 p2 q2 : Int}
theorem Frc.check (h : Frc s p q) : checkR s = 0 ∧ numR s = p ∧ denR s = q := by rw [h.str]; exact fr_check h.dp h.dq h.pos h.low
theorem Frc.size (h : Frc s p q) : s.size ≤ 80000 := by rw [h.str]; exact fr_sz h.dp h.dq
theorem Frc.of (h : checkR s = 0) : Frc s (numR s) (denR s) := ⟨fr_of h, (checkR_ok h).2.2.1, (checkR_ok h).2.2.2, (real_dig h).1, (real_dig h).2.1⟩
theorem Frc.back (h : Frc s p q) : rsS p q = s ∧ rsE p q = 0 := by
  obtain ⟨P, Q, h1, h2, h3, h4, h5, _, _⟩ := rs_ok h.dp h.dq (show q ≠ 0 by have := h.pos; omega)
  obtain ⟨e1, e2⟩ := low_unique (p := P) (q := Q) (r := p) (s := q) h4 h.pos h5 h.low h3
  rw [h1, e1, e2, ← h.str]
  exact ⟨rfl, h2⟩
theorem Frc.op (h1 : Frc a p1 q1) (h2 : Frc b p2 q2) (of : Int → Int → Int → Int → Int × Int) : reS of a b = rsS (of p1 q1 p2 q2).1 (of p1 q1 p2 q2).2 ∧ reR of a b = rsE (of p1 q1 p2 q2).1 (of p1 q1 p2 q2).2 :=
  re_of h1.check.1 h2.check.1 h1.check.2.1 h1.check.2.2 h2.check.2.1 h2.check.2.2
theorem Frc.cmp (h1 : Frc a p1 q1) (h2 : Frc b p2 q2) : cmpR a b = cmpI (p1 * q2) (p2 * q1) ∧ reE a b = 0 := by
  have hz := re_zero h1.check.1 h2.check.1
  unfold cmpR
  rw [if_pos hz, h1.check.2.1, h1.check.2.2, h2.check.2.1, h2.check.2.2]
  exact ⟨rfl, hz⟩
theorem Frc.inj (h1 : Frc a p1 q1) (h2 : Frc b p2 q2) (h : p1 * q2 = p2 * q1) : a = b := by
  obtain ⟨e1, e2⟩ := low_unique h1.pos h2.pos h1.low h2.low h
  rw [h1.str, h2.str, e1, e2]
theorem Frc.res {y z : Int} (hy : Dig 120 y) (hz : Dig 120 z) (h0 : z ≠ 0) : ∃ s P Q, rsS y z = s ∧ rsE y z = 0 ∧ Frc s P Q ∧ P * z = y * Q := by
  obtain ⟨P, Q, h1, h2, h3, h4, h5, h6, h7⟩ := rs_ok hy hz h0
  exact ⟨_, P, Q, h1, h2, ⟨rfl, h4, h5, h6, h7⟩, h3⟩
end
theorem frc_int {n : Int} (h : Dig 120 n) : Frc (strI n ++ ⟨#[47, 49]⟩) n 1 := by
  refine ⟨?_, by decide, ?_, h, d1 119⟩
  · unfold frS
    rw [show strI 1 = ⟨#[49]⟩ by decide +kernel, ByteArray.append_assoc]
    rfl
  · show Nat.gcd n.natAbs 1 = 1
    exact Nat.gcd_one_right _
theorem frc_zero : Frc ⟨#[48, 47, 49]⟩ 0 1 := by
  have h := frc_int (d0 120)
  rwa [show strI 0 ++ ⟨#[47, 49]⟩ = ⟨#[48, 47, 49]⟩ by decide +kernel] at h
theorem cancel {a b c : Int} (hc : c ≠ 0) (h : a * c = b * c) : a = b := Int.eq_of_mul_eq_mul_right hc h
theorem cmp_scale {P Q u v k : Int} (hQ : 0 < Q) (hk : 0 < k) (h : P * k = (u - v) * Q) : cmpI (P * 1) (0 * Q) = cmpI u v := by
  rw [Int.mul_one, Int.zero_mul]
  rcases Int.lt_trichotomy P 0 with h1 | h1 | h1
  · have h2 := Int.mul_neg_of_neg_of_pos h1 hk
    have h3 : u - v < 0 := by
      refine Int.not_le.1 fun h4 => ?_
      have := Int.mul_nonneg h4 (Int.le_of_lt hQ)
      omega
    unfold cmpI
    rw [if_pos h1, if_pos (by omega)]
  · subst h1
    have h3 : u - v = 0 := by
      rw [Int.zero_mul] at h
      rcases Int.mul_eq_zero.1 h.symm with h | h
      · exact h
      · omega
    have : u = v := by omega
    subst this
    unfold cmpI
    simp
  · have h2 := Int.mul_pos h1 hk
    have h3 : 0 < u - v := by
      refine Int.not_le.1 fun h4 => ?_
      have := Int.mul_nonpos_of_nonpos_of_nonneg h4 (Int.le_of_lt hQ)
      omega
    unfold cmpI
    rw [if_neg (by omega), if_pos (by omega), if_neg (by omega), if_pos (by omega)]
theorem pos_ne {a b : Int} (ha : 0 < a) (hb : 0 < b) : a * b ≠ 0 := by have := Int.mul_pos ha hb; omega

theorem gr_add {P Q P' Q' p1 q1 p2 q2 p3 q3 : Int} (h : P * (q1 * q2) = (p1 * q2 + p2 * q1) * Q) (h' : P' * (q2 * q3) = (p2 * q3 + p3 * q2) * Q') : (P * q3 + p3 * Q) * (q1 * Q') * q2 = (p1 * Q' + P' * q1) * (Q * q3) * q2 := by grind
theorem gr_mul {P' Q' P5 Q5 P8 Q8 p1 q1 p2 q2 p3 q3 : Int} (h : P' * (q2 * q3) = (p2 * q3 + p3 * q2) * Q') (h5 : P5 * (q1 * q2) = p1 * p2 * Q5) (h8 : P8 * (q1 * q3) = p1 * p3 * Q8) : (P5 * Q8 + P8 * Q5) * (q1 * Q') * (q2 * q3) = (p1 * P') * (Q5 * Q8) * (q2 * q3) := by grind
theorem gr_div {P Q p1 q1 p2 q2 : Int} (h : P * (q1 * p2) = p1 * q2 * Q) : P * p2 * q1 = p1 * (Q * q2) := by grind
theorem field_facts {a b c : ByteArray} (ha : checkR a = 0) (hb : checkR b = 0) (hc : checkR c = 0) (sa : a.size ≤ 60) (sb : b.size ≤ 60) (sc : c.size ≤ 60) : ∃ AB BC PQ S MN : ByteArray,
    (AB.size ≤ 80000 ∧ BC.size ≤ 80000 ∧ PQ.size ≤ 80000 ∧ S.size ≤ 80000 ∧ MN.size ≤ 80000) ∧
    (reS ofAdd a b = AB ∧ reR ofAdd a b = 0) ∧ (reS ofAdd b c = BC ∧ reR ofAdd b c = 0) ∧ (reS ofAdd AB c = reS ofAdd a BC ∧ reR ofAdd AB c = reR ofAdd a BC) ∧
    (reS ofMul a b = PQ ∧ reR ofMul a b = 0) ∧ (reS ofMul b a = PQ ∧ reR ofMul b a = 0) ∧ (reS ofMul a c = S ∧ reR ofMul a c = 0) ∧ (reS ofAdd PQ S = reS ofMul a BC ∧ reR ofAdd PQ S = reR ofMul a BC) ∧
    (reS ofSub a b = MN ∧ reR ofSub a b = 0) ∧ (cmpR MN ⟨#[48, 47, 49]⟩ = cmpR a b ∧ reE MN ⟨#[48, 47, 49]⟩ = 0) ∧ (cmpR a b = 0 ↔ a = b) := by
  have fa := Frc.of ha
  have fb := Frc.of hb
  have fc := Frc.of hc
  obtain ⟨i1, j1, e1, x1, y1⟩ := fr_size (n := 59) ha sa
  obtain ⟨i2, j2, e2, x2, y2⟩ := fr_size (n := 59) hb sb
  obtain ⟨i3, j3, e3, x3, y3⟩ := fr_size (n := 59) hc sc
  generalize numR a = p1 at *
  generalize denR a = q1 at *
  generalize numR b = p2 at *
  generalize denR b = q2 at *
  generalize numR c = p3 at *
  generalize denR c = q3 at *
  have n1 := fa.pos
  have n2 := fb.pos
  have n3 := fc.pos
  obtain ⟨AB, P, Q, a1, a2, a3, a4⟩ := Frc.res (y := p1 * q2 + p2 * q1) (z := q1 * q2) ((x1.mul y2).add (x2.mul y1) 120 (by omega) (by omega)) ((y1.mul y2).more (by omega)) (pos_ne n1 n2)
  obtain ⟨BC, P', Q', b1, b2, b3, b4⟩ := Frc.res (y := p2 * q3 + p3 * q2) (z := q2 * q3) ((x2.mul y3).add (x3.mul y2) 120 (by omega) (by omega)) ((y2.mul y3).more (by omega)) (pos_ne n2 n3)
  obtain ⟨PQ, P5, Q5, c1, c2, c3, c4⟩ := Frc.res (y := p1 * p2) (z := q1 * q2) ((x1.mul x2).more (by omega)) ((y1.mul y2).more (by omega)) (pos_ne n1 n2)
  obtain ⟨S, P8, Q8, d1, d2, d3, d4⟩ := Frc.res (y := p1 * p3) (z := q1 * q3) ((x1.mul x3).more (by omega)) ((y1.mul y3).more (by omega)) (pos_ne n1 n3)
  obtain ⟨MN, P6, Q6, m1, m2, m3, m4⟩ := Frc.res (y := p1 * q2 - p2 * q1) (z := q1 * q2) ((x1.mul y2).sub (x2.mul y1) 120 (by omega) (by omega)) ((y1.mul y2).more (by omega)) (pos_ne n1 n2)
  refine ⟨AB, BC, PQ, S, MN, ⟨a3.size, b3.size, c3.size, d3.size, m3.size⟩, ?_, ?_, ?_, ?_, ?_, ?_, ?_, ?_, ?_, ?_⟩
  · rw [(fa.op fb ofAdd).1, (fa.op fb ofAdd).2]; exact ⟨a1, a2⟩
  · rw [(fb.op fc ofAdd).1, (fb.op fc ofAdd).2]; exact ⟨b1, b2⟩
  · rw [(a3.op fc ofAdd).1, (a3.op fc ofAdd).2, (fa.op b3 ofAdd).1, (fa.op b3 ofAdd).2]
    refine rs_same (pos_ne a3.pos n3) (pos_ne n1 b3.pos) ?_
    refine cancel (c := q2) (by omega) ?_
    show (P * q3 + p3 * Q) * (q1 * Q') * q2 = (p1 * Q' + P' * q1) * (Q * q3) * q2
    exact gr_add a4 b4
  · rw [(fa.op fb ofMul).1, (fa.op fb ofMul).2]; exact ⟨c1, c2⟩
  · rw [(fb.op fa ofMul).1, (fb.op fa ofMul).2]
    show rsS (p2 * p1) (q2 * q1) = PQ ∧ rsE (p2 * p1) (q2 * q1) = 0
    rw [Int.mul_comm p2, Int.mul_comm q2]
    exact ⟨c1, c2⟩
  · rw [(fa.op fc ofMul).1, (fa.op fc ofMul).2]; exact ⟨d1, d2⟩
  · rw [(c3.op d3 ofAdd).1, (c3.op d3 ofAdd).2, (fa.op b3 ofMul).1, (fa.op b3 ofMul).2]
    refine rs_same (pos_ne c3.pos d3.pos) (pos_ne n1 b3.pos) ?_
    refine cancel (c := q2 * q3) (pos_ne n2 n3) ?_
    show (P5 * Q8 + P8 * Q5) * (q1 * Q') * (q2 * q3) = (p1 * P') * (Q5 * Q8) * (q2 * q3)
    exact gr_mul b4 c4 d4
  · rw [(fa.op fb ofSub).1, (fa.op fb ofSub).2]; exact ⟨m1, m2⟩
  · rw [(m3.cmp frc_zero).1, (m3.cmp frc_zero).2, (fa.cmp fb).1]
    exact ⟨cmp_scale m3.pos (Int.mul_pos n1 n2) m4, rfl⟩
  · rw [(fa.cmp fb).1, cmp_zero]
    refine ⟨fun h => fa.inj fb h, fun h => ?_⟩
    subst h
    have h1 := fa.str
    rw [fb.str] at h1
    obtain ⟨e1, e2⟩ := fr_inj fb.dp fb.dq fa.dp fa.dq h1
    rw [e1, e2]
theorem field_div {a b : ByteArray} (ha : checkR a = 0) (hb : checkR b = 0) (sa : a.size ≤ 60) (sb : b.size ≤ 60) (h0 : b ≠ ⟨#[48, 47, 49]⟩) : ∃ D : ByteArray, D.size ≤ 80000 ∧ (drS a b = D ∧ drR a b = 0) ∧ (reS ofMul D b = a ∧ reR ofMul D b = 0) := by
  have fa := Frc.of ha
  have fb := Frc.of hb
  obtain ⟨i1, j1, e1, x1, y1⟩ := fr_size (n := 59) ha sa
  obtain ⟨i2, j2, e2, x2, y2⟩ := fr_size (n := 59) hb sb
  have hz := re_zero ha hb
  have hn : numR b ≠ 0 := by
    intro h
    refine h0 (fb.inj frc_zero ?_)
    rw [h]; simp
  have k1 : drS a b = rsS (numR a * denR b) (denR a * numR b) := by unfold drS drE; rw [if_pos hz, if_neg hn, if_pos rfl]
  have k2 : drR a b = rsE (numR a * denR b) (denR a * numR b) := by unfold drR drE; rw [if_pos hz, if_neg hn, if_pos rfl]
  rw [k1, k2]
  clear k1 k2
  generalize numR a = p1 at *
  generalize denR a = q1 at *
  generalize numR b = p2 at *
  generalize denR b = q2 at *
  have n1 := fa.pos
  have n2 := fb.pos
  have hne : q1 * p2 ≠ 0 := Int.mul_ne_zero (by omega) hn
  obtain ⟨D, P, Q, a1, a2, a3, a4⟩ := Frc.res (y := p1 * q2) (z := q1 * p2) ((x1.mul y2).more (by omega)) ((y1.mul x2).more (by omega)) hne
  refine ⟨D, a3.size, ⟨a1, a2⟩, ?_⟩
  rw [(a3.op fb ofMul).1, (a3.op fb ofMul).2]
  obtain ⟨h1, h2⟩ := rs_same (y := P * p2) (z := Q * q2) (y' := p1) (z' := q1) (pos_ne a3.pos n2) (by omega) (gr_div a4)
  show rsS (P * p2) (Q * q2) = a ∧ rsE (P * p2) (Q * q2) = 0
  rw [h1, h2]
  exact fa.back
theorem field_floor {a : ByteArray} (ha : checkR a = 0) (sa : a.size ≤ 60) : ∃ n : Int, Dig 120 n ∧ Dig 120 (n + 1) ∧ flS a = strI n ∧ flR a = 0 ∧ (cmpR (strI n ++ ⟨#[47, 49]⟩) a ≤ 0) ∧ cmpR (strI (n + 1) ++ ⟨#[47, 49]⟩) a = 1 := by
  have fa := Frc.of ha
  obtain ⟨i1, j1, e1, x1, y1⟩ := fr_size (n := 59) ha sa
  have n1 := fa.pos
  have hd : Dig 60 (numR a / denR a) := by
    have := Int.natAbs_ediv_le_natAbs (numR a) (denR a)
    have h := x1.more (k := 60) (by omega)
    unfold Dig at *
    omega
  have hd1 : Dig 120 (numR a / denR a + 1) := hd.add (d1 59) 120 (by omega) (by omega)
  have hd0 : Dig 120 (numR a / denR a) := hd.more (by omega)
  refine ⟨numR a / denR a, hd0, hd1, ?_, ?_, ?_, ?_⟩
  · unfold flS; rw [if_pos ha, (wr_dig hd0).2]
  · unfold flR; rw [if_pos ha, (wr_dig hd0).1]
  · rw [((frc_int hd0).cmp fa).1, Int.mul_one]
    have := Int.ediv_mul_le (numR a) (b := denR a) (by omega)
    unfold cmpI
    split
    · omega
    · split <;> omega
  · rw [((frc_int hd1).cmp fa).1, Int.mul_one]
    have := Int.lt_ediv_add_one_mul_self (numR a) n1
    unfold cmpI
    rw [if_neg (by omega), if_pos (by omega)]
end Go.Proofs.YtillgofjlpjbcaaGreatDoor.Nm
end
section
/- The law NumField walked. (Printed by genField.py.) -/
namespace Go.Proofs.YtillgofjlpjbcaaGreatDoor.Nm
open Go.RowKit Go.Shelf Go.Lib Go.Proofs.YtillgofjlpjbcaaGreatDoorW.PrintWords Go.Proofs.YtillgofjlpjbcaaGreatDoorW.PrintLast Go.Proofs.YtillgofjlpjbcaaGreatDoorW.PrintMore
set_option linter.unusedVariables false
set_option linter.unusedSimpArgs false

theorem same_calls (s : ByteArray) (k : Int) (w : World) :
    Calls Tryz.prog 52 #[.string s, .int .i64 k, .string s, .int .i64 k] w fun e w' => e = .returned (.bool true) ∧ w' = w := by
  have h0 : (s == s) = (s == s) := rfl
  by_cases h : k = 0
  · subst h
    go_enter Tryz.func52, Tryz.ntmps52
    go_wp2_with fail
    go_ret
    exact ⟨rfl, rfl⟩
  · have h1 : (k != 0) = true := by simp [h]
    go_enter Tryz.func52, Tryz.ntmps52
    go_wp2_with fail
    go_ret
    exact ⟨rfl, rfl⟩
set_option maxRecDepth 1000000 in
set_option maxHeartbeats 16000000 in
theorem field_long (a b c : ByteArray) (h : 60 < a.size ∨ (¬ 60 < a.size ∧ 60 < b.size) ∨ (¬ 60 < a.size ∧ ¬ 60 < b.size ∧ 60 < c.size)) (w : World) (hE : EN w) :
    Calls Tryz.prog 8 #[.string a, .string b, .string c] w fun e w' => e = .returned (.bool true) ∧ Below w.heap.size w w' := by
  have HA : Aside0 (∀ W, Below w.heap.size w W → Calls Tryz.prog 10 #[] W fun e w' => e = .returned (.bool true) ∧ Below W.heap.size W w') := ⟨fun W hb => awake_calls W (hE.below hb)⟩
  clear hE
  rcases h with h | ⟨h1, h⟩ | ⟨h1, h2, h⟩
  · have e1 : decide ((60 : Int) < (a.size : Int)) = true := decide_eq_true (by omega)
    clear h
    (have HC := Aside0.mk (Below.refl w.heap.size w); go_enter Tryz.func8, Tryz.ntmps8)
    go_wp2_with (first | (go_at_call 10; (with_reducible refine (HA.out _ HC.out).mono ?_); rintro e wx ⟨rfl, hbx⟩; have HC2 := Aside0.mk (HC.out.trans (hbx.mono HC.out.size)); clear HC; have HC := HC2; clear HC2 hbx))
    go_ret
    exact ⟨rfl, HC.out⟩
  · have e1 : decide ((60 : Int) < (a.size : Int)) = false := decide_eq_false (by omega)
    have e2 : decide ((60 : Int) < (b.size : Int)) = true := decide_eq_true (by omega)
    clear h h1
    (have HC := Aside0.mk (Below.refl w.heap.size w); go_enter Tryz.func8, Tryz.ntmps8)
    go_wp2_with (first | (go_at_call 10; (with_reducible refine (HA.out _ HC.out).mono ?_); rintro e wx ⟨rfl, hbx⟩; have HC2 := Aside0.mk (HC.out.trans (hbx.mono HC.out.size)); clear HC; have HC := HC2; clear HC2 hbx))
    go_ret
    exact ⟨rfl, HC.out⟩
  · have e1 : decide ((60 : Int) < (a.size : Int)) = false := decide_eq_false (by omega)
    have e2 : decide ((60 : Int) < (b.size : Int)) = false := decide_eq_false (by omega)
    have e3 : decide ((60 : Int) < (c.size : Int)) = true := decide_eq_true (by omega)
    clear h h1 h2
    (have HC := Aside0.mk (Below.refl w.heap.size w); go_enter Tryz.func8, Tryz.ntmps8)
    go_wp2_with (first | (go_at_call 10; (with_reducible refine (HA.out _ HC.out).mono ?_); rintro e wx ⟨rfl, hbx⟩; have HC2 := Aside0.mk (HC.out.trans (hbx.mono HC.out.size)); clear HC; have HC := HC2; clear HC2 hbx))
    go_ret
    exact ⟨rfl, HC.out⟩
set_option maxRecDepth 1000000 in
set_option maxHeartbeats 16000000 in
theorem field_wrong (a b c : ByteArray) (ha : a.size ≤ 60) (hb : b.size ≤ 60) (hc : c.size ≤ 60) (h : checkR a ≠ 0 ∨ (checkR a = 0 ∧ checkR b ≠ 0) ∨ (checkR a = 0 ∧ checkR b = 0 ∧ checkR c ≠ 0)) (w : World) (hE : EN w) :
    Calls Tryz.prog 8 #[.string a, .string b, .string c] w fun e w' => e = .returned (.bool true) ∧ Below w.heap.size w w' := by
  have HA : Aside0 (∀ W, Below w.heap.size w W → Calls Tryz.prog 10 #[] W fun e w' => e = .returned (.bool true) ∧ Below W.heap.size W w') := ⟨fun W hb => awake_calls W (hE.below hb)⟩
  have HKa := Aside0.mk (fun W (hb : Below w.heap.size w W) => checkR_calls a (by omega) W (hE.below hb))
  have HKb := Aside0.mk (fun W (hb : Below w.heap.size w W) => checkR_calls b (by omega) W (hE.below hb))
  have HKc := Aside0.mk (fun W (hb : Below w.heap.size w W) => checkR_calls c (by omega) W (hE.below hb))
  clear hE
  have e1 : decide ((60 : Int) < (a.size : Int)) = false := decide_eq_false (by omega)
  have e2 : decide ((60 : Int) < (b.size : Int)) = false := decide_eq_false (by omega)
  have e3 : decide ((60 : Int) < (c.size : Int)) = false := decide_eq_false (by omega)
  generalize checkR a = ca at *
  generalize checkR b = cb at *
  generalize checkR c = cc at *
  rcases h with h | ⟨h1, h⟩ | ⟨h1, h2, h⟩
  · have e4 : (ca != 0) = true := by simp [h]
    clear h
    (have HC := Aside0.mk (Below.refl w.heap.size w); go_enter Tryz.func8, Tryz.ntmps8)
    go_wp2_with (first | (go_at_call 10; (with_reducible refine (HA.out _ HC.out).mono ?_); rintro e wx ⟨rfl, hbx⟩; have HC2 := Aside0.mk (HC.out.trans (hbx.mono HC.out.size)); clear HC; have HC := HC2; clear HC2 hbx) | (go_at_call 51; (with_reducible refine (HKa.out _ HC.out).mono ?_); rintro e wx ⟨rfl, hbx⟩; have HC2 := Aside0.mk (HC.out.trans (hbx.mono HC.out.size)); clear HC; have HC := HC2; clear HC2 hbx) | (go_at_call 51; (with_reducible refine (HKb.out _ HC.out).mono ?_); rintro e wx ⟨rfl, hbx⟩; have HC2 := Aside0.mk (HC.out.trans (hbx.mono HC.out.size)); clear HC; have HC := HC2; clear HC2 hbx) | (go_at_call 51; (with_reducible refine (HKc.out _ HC.out).mono ?_); rintro e wx ⟨rfl, hbx⟩; have HC2 := Aside0.mk (HC.out.trans (hbx.mono HC.out.size)); clear HC; have HC := HC2; clear HC2 hbx))
    go_ret
    exact ⟨rfl, HC.out⟩
  · subst h1
    have e4 : (cb != 0) = true := by simp [h]
    clear h
    (have HC := Aside0.mk (Below.refl w.heap.size w); go_enter Tryz.func8, Tryz.ntmps8)
    go_wp2_with (first | (go_at_call 10; (with_reducible refine (HA.out _ HC.out).mono ?_); rintro e wx ⟨rfl, hbx⟩; have HC2 := Aside0.mk (HC.out.trans (hbx.mono HC.out.size)); clear HC; have HC := HC2; clear HC2 hbx) | (go_at_call 51; (with_reducible refine (HKa.out _ HC.out).mono ?_); rintro e wx ⟨rfl, hbx⟩; have HC2 := Aside0.mk (HC.out.trans (hbx.mono HC.out.size)); clear HC; have HC := HC2; clear HC2 hbx) | (go_at_call 51; (with_reducible refine (HKb.out _ HC.out).mono ?_); rintro e wx ⟨rfl, hbx⟩; have HC2 := Aside0.mk (HC.out.trans (hbx.mono HC.out.size)); clear HC; have HC := HC2; clear HC2 hbx) | (go_at_call 51; (with_reducible refine (HKc.out _ HC.out).mono ?_); rintro e wx ⟨rfl, hbx⟩; have HC2 := Aside0.mk (HC.out.trans (hbx.mono HC.out.size)); clear HC; have HC := HC2; clear HC2 hbx))
    go_ret
    exact ⟨rfl, HC.out⟩
  · subst h1 h2
    have e4 : (cc != 0) = true := by simp [h]
    clear h
    (have HC := Aside0.mk (Below.refl w.heap.size w); go_enter Tryz.func8, Tryz.ntmps8)
    go_wp2_with (first | (go_at_call 10; (with_reducible refine (HA.out _ HC.out).mono ?_); rintro e wx ⟨rfl, hbx⟩; have HC2 := Aside0.mk (HC.out.trans (hbx.mono HC.out.size)); clear HC; have HC := HC2; clear HC2 hbx) | (go_at_call 51; (with_reducible refine (HKa.out _ HC.out).mono ?_); rintro e wx ⟨rfl, hbx⟩; have HC2 := Aside0.mk (HC.out.trans (hbx.mono HC.out.size)); clear HC; have HC := HC2; clear HC2 hbx) | (go_at_call 51; (with_reducible refine (HKb.out _ HC.out).mono ?_); rintro e wx ⟨rfl, hbx⟩; have HC2 := Aside0.mk (HC.out.trans (hbx.mono HC.out.size)); clear HC; have HC := HC2; clear HC2 hbx) | (go_at_call 51; (with_reducible refine (HKc.out _ HC.out).mono ?_); rintro e wx ⟨rfl, hbx⟩; have HC2 := Aside0.mk (HC.out.trans (hbx.mono HC.out.size)); clear HC; have HC := HC2; clear HC2 hbx))
    go_ret
    exact ⟨rfl, HC.out⟩
set_option maxRecDepth 1000000 in
set_option maxHeartbeats 16000000 in
theorem field_zero (a b c : ByteArray) (ka : checkR a = 0) (kb : checkR b = 0) (kc : checkR c = 0) (ha : a.size ≤ 60) (hb : b.size ≤ 60) (hc : c.size ≤ 60) (h0 : b = ⟨#[48, 47, 49]⟩) (w : World) (hE : EN w) :
    Calls Tryz.prog 8 #[.string a, .string b, .string c] w fun e w' => e = .returned (.bool true) ∧ Below w.heap.size w w' := by
  have HA : Aside0 (∀ W, Below w.heap.size w W → Calls Tryz.prog 10 #[] W fun e w' => e = .returned (.bool true) ∧ Below W.heap.size W w') := ⟨fun W hb => awake_calls W (hE.below hb)⟩
  have HKa := Aside0.mk (fun W (hb : Below w.heap.size w W) => checkR_calls a (by omega) W (hE.below hb))
  have HKb := Aside0.mk (fun W (hb : Below w.heap.size w W) => checkR_calls b (by omega) W (hE.below hb))
  have HKc := Aside0.mk (fun W (hb : Below w.heap.size w W) => checkR_calls c (by omega) W (hE.below hb))
  rw [ka] at HKa
  rw [kb] at HKb
  rw [kc] at HKc
  obtain ⟨AB, BC, PQ, SS, MN, f0, f1, f2, fx, f4, f5, f6, f7, f8, f9, f10⟩ := field_facts ka kb kc ha hb hc
  have hs : AB.size ≤ 80000 ∧ BC.size ≤ 80000 ∧ PQ.size ≤ 80000 ∧ SS.size ≤ 80000 ∧ MN.size ≤ 80000 := f0
  obtain ⟨X, hX⟩ : ∃ X, reS ofAdd a BC = X := ⟨_, rfl⟩
  obtain ⟨kx, hkx⟩ : ∃ X, reR ofAdd a BC = X := ⟨_, rfl⟩
  obtain ⟨RR, hR⟩ : ∃ X, reS ofMul a BC = X := ⟨_, rfl⟩
  obtain ⟨kr, hkr⟩ : ∃ X, reR ofMul a BC = X := ⟨_, rfl⟩
  rw [hX, hkx] at fx
  rw [hR, hkr] at f7
  have fx4 := And.intro hX hkx
  have fr4 := And.intro hR hkr
  obtain ⟨n, dn, dn1, g1, g2, g3, g4⟩ := field_floor ka ha
  have sN := strI_size dn
  have sN1 := strI_size dn1
  obtain ⟨N, hN⟩ : ∃ N, strI n = N := ⟨_, rfl⟩
  obtain ⟨N1, hN1⟩ : ∃ N, strI (n + 1) = N := ⟨_, rfl⟩
  rw [hN] at g3 sN
  rw [hN1] at g4 sN1
  have hN2 : (N ++ ⟨#[47, 49]⟩ : ByteArray).size ≤ 90000 := by rw [ByteArray.size_append]; show N.size + 2 ≤ _; omega
  have hN3 : (N1 ++ ⟨#[47, 49]⟩ : ByteArray).size ≤ 90000 := by rw [ByteArray.size_append]; show N1.size + 2 ≤ _; omega
  obtain ⟨lo, hlo⟩ : ∃ lo, cmpR (N ++ ⟨#[47, 49]⟩) a = lo := ⟨_, rfl⟩
  obtain ⟨k3, hk3⟩ : ∃ k, reE (N ++ ⟨#[47, 49]⟩) a = k := ⟨_, rfl⟩
  obtain ⟨k4, hk4⟩ : ∃ k, reE (N1 ++ ⟨#[47, 49]⟩) a = k := ⟨_, rfl⟩
  rw [hlo] at g3
  have hlo1 : decide (lo ≤ 0) = true := decide_eq_true g3
  have hl1 : ¬ 9223372036854775807 < N.size + 2 := by omega
  have hl2 : ¬ 9223372036854775807 < N1.size + 2 := by omega
  have A1 : ∀ W, Below w.heap.size w W → Calls Tryz.prog 35 #[.string a, .string b] W fun e w' => e = .returned (.tuple #[.string AB, .int .i64 0]) ∧ Below W.heap.size W w' := fun W hb => by
    have h := addReal_calls a b (by omega) (by omega) W (hE.below hb)
    rwa [f1.1, f1.2] at h
  have A2 : ∀ W, Below w.heap.size w W → Calls Tryz.prog 35 #[.string b, .string c] W fun e w' => e = .returned (.tuple #[.string BC, .int .i64 0]) ∧ Below W.heap.size W w' := fun W hb => by
    have h := addReal_calls b c (by omega) (by omega) W (hE.below hb)
    rwa [f2.1, f2.2] at h
  have A3 : ∀ W, Below w.heap.size w W → Calls Tryz.prog 35 #[.string AB, .string c] W fun e w' => e = .returned (.tuple #[.string X, .int .i64 kx]) ∧ Below W.heap.size W w' := fun W hb => by
    have h := addReal_calls AB c (by omega) (by omega) W (hE.below hb)
    rwa [fx.1, fx.2] at h
  have A4 : ∀ W, Below w.heap.size w W → Calls Tryz.prog 35 #[.string a, .string BC] W fun e w' => e = .returned (.tuple #[.string X, .int .i64 kx]) ∧ Below W.heap.size W w' := fun W hb => by
    have h := addReal_calls a BC (by omega) (by omega) W (hE.below hb)
    rwa [fx4.1, fx4.2] at h
  have M1 : ∀ W, Below w.heap.size w W → Calls Tryz.prog 39 #[.string a, .string b] W fun e w' => e = .returned (.tuple #[.string PQ, .int .i64 0]) ∧ Below W.heap.size W w' := fun W hb => by
    have h := mulReal_calls a b (by omega) (by omega) W (hE.below hb)
    rwa [f4.1, f4.2] at h
  have M2 : ∀ W, Below w.heap.size w W → Calls Tryz.prog 39 #[.string b, .string a] W fun e w' => e = .returned (.tuple #[.string PQ, .int .i64 0]) ∧ Below W.heap.size W w' := fun W hb => by
    have h := mulReal_calls b a (by omega) (by omega) W (hE.below hb)
    rwa [f5.1, f5.2] at h
  have M3 : ∀ W, Below w.heap.size w W → Calls Tryz.prog 39 #[.string a, .string BC] W fun e w' => e = .returned (.tuple #[.string RR, .int .i64 kr]) ∧ Below W.heap.size W w' := fun W hb => by
    have h := mulReal_calls a BC (by omega) (by omega) W (hE.below hb)
    rwa [fr4.1, fr4.2] at h
  have M4 : ∀ W, Below w.heap.size w W → Calls Tryz.prog 39 #[.string a, .string c] W fun e w' => e = .returned (.tuple #[.string SS, .int .i64 0]) ∧ Below W.heap.size W w' := fun W hb => by
    have h := mulReal_calls a c (by omega) (by omega) W (hE.below hb)
    rwa [f6.1, f6.2] at h
  have A5 : ∀ W, Below w.heap.size w W → Calls Tryz.prog 35 #[.string PQ, .string SS] W fun e w' => e = .returned (.tuple #[.string RR, .int .i64 kr]) ∧ Below W.heap.size W w' := fun W hb => by
    have h := addReal_calls PQ SS (by omega) (by omega) W (hE.below hb)
    rwa [f7.1, f7.2] at h
  have S1 : ∀ W, Below w.heap.size w W → Calls Tryz.prog 37 #[.string a, .string b] W fun e w' => e = .returned (.tuple #[.string MN, .int .i64 0]) ∧ Below W.heap.size W w' := fun W hb => by
    have h := subReal_calls a b (by omega) (by omega) W (hE.below hb)
    rwa [f8.1, f8.2] at h
  obtain ⟨m, hm⟩ : ∃ m, cmpR a b = m := ⟨_, rfl⟩
  rw [hm] at f9 f10
  have hq : (a.toList == b.toList) = (m == 0) := beq_iff f10.symm
  have C1 : ∀ W, Below w.heap.size w W → Calls Tryz.prog 43 #[.string a, .string b] W fun e w' => e = .returned (.tuple #[.int .i64 m, .int .i64 0]) ∧ Below W.heap.size W w' := fun W hb => by
    have h := compareReal_calls a b (by omega) (by omega) W (hE.below hb)
    rwa [hm, re_zero ka kb] at h
  have C2 : ∀ W, Below w.heap.size w W → Calls Tryz.prog 43 #[.string MN, .string ⟨#[48, 47, 49]⟩] W fun e w' => e = .returned (.tuple #[.int .i64 m, .int .i64 0]) ∧ Below W.heap.size W w' := fun W hb => by
    have h := compareReal_calls MN ⟨#[48, 47, 49]⟩ (by omega) (by decide) W (hE.below hb)
    rwa [f9.1, f9.2] at h
  have KF : ∀ W, Below w.heap.size w W → Calls Tryz.prog 53 #[.string a] W fun e w' => e = .returned (.tuple #[.string N, .int .i64 0]) ∧ Below W.heap.size W w' := fun W hb => by
    have h := floor_calls a (by omega) W (hE.below hb)
    rwa [g1, g2, hN] at h
  have KN : ∀ W, Below w.heap.size w W → Calls Tryz.prog 21 #[.string N, .string ⟨#[49]⟩] W fun e w' => e = .returned (.tuple #[.string N1, .int .i64 0]) ∧ Below W.heap.size W w' := fun W hb => by
    have h := add_str dn (d1 119) rfl dn1 W (hE.below hb)
    rwa [hN, hN1, show strI 1 = ⟨#[49]⟩ by decide +kernel] at h
  have C3 : ∀ W, Below w.heap.size w W → Calls Tryz.prog 43 #[.string (N ++ ⟨#[47, 49]⟩), .string a] W fun e w' => e = .returned (.tuple #[.int .i64 lo, .int .i64 k3]) ∧ Below W.heap.size W w' := fun W hb => by
    have h := compareReal_calls (N ++ ⟨#[47, 49]⟩) a hN2 (by omega) W (hE.below hb)
    rwa [hlo, hk3] at h
  have C4 : ∀ W, Below w.heap.size w W → Calls Tryz.prog 43 #[.string (N1 ++ ⟨#[47, 49]⟩), .string a] W fun e w' => e = .returned (.tuple #[.int .i64 1, .int .i64 k4]) ∧ Below W.heap.size W w' := fun W hb => by
    have h := compareReal_calls (N1 ++ ⟨#[47, 49]⟩) a hN3 (by omega) W (hE.below hb)
    rwa [g4, hk4] at h
  have hsa : decide ((60 : Int) < (a.size : Int)) = false := decide_eq_false (by omega)
  have hsb : decide ((60 : Int) < (b.size : Int)) = false := decide_eq_false (by omega)
  have hsc : decide ((60 : Int) < (c.size : Int)) = false := decide_eq_false (by omega)
  clear f0 f1 f2 fx f4 f5 f6 f7 f8 f9 f10 fx4 fr4 hX hkx hR hkr hs hm g1 g2 g3 g4 hN hN1 dn dn1 hlo hk3 hk4 hN2 hN3 sN sN1 ka kb kc ha hb hc hE
  subst h0
  rw [show (⟨#[48, 47, 49]⟩ : ByteArray).toList = [48, 47, 49] by decide +kernel] at hq
  have A1 := Aside0.mk A1
  have A2 := Aside0.mk A2
  have A3 := Aside0.mk A3
  have A4 := Aside0.mk A4
  have M1 := Aside0.mk M1
  have M2 := Aside0.mk M2
  have M3 := Aside0.mk M3
  have M4 := Aside0.mk M4
  have A5 := Aside0.mk A5
  have S1 := Aside0.mk S1
  have C1 := Aside0.mk C1
  have C2 := Aside0.mk C2
  have C3 := Aside0.mk C3
  have C4 := Aside0.mk C4
  have KF := Aside0.mk KF
  have KN := Aside0.mk KN
  (have HC := Aside0.mk (Below.refl w.heap.size w); go_enter Tryz.func8, Tryz.ntmps8)
  go_wp2_with (first | (go_at_call 10; (with_reducible refine (HA.out _ HC.out).mono ?_); rintro e wx ⟨rfl, hbx⟩; have HC2 := Aside0.mk (HC.out.trans (hbx.mono HC.out.size)); clear HC; have HC := HC2; clear HC2 hbx) | (go_at_call 51; (with_reducible refine (HKa.out _ HC.out).mono ?_); rintro e wx ⟨rfl, hbx⟩; have HC2 := Aside0.mk (HC.out.trans (hbx.mono HC.out.size)); clear HC; have HC := HC2; clear HC2 hbx) | (go_at_call 51; (with_reducible refine (HKb.out _ HC.out).mono ?_); rintro e wx ⟨rfl, hbx⟩; have HC2 := Aside0.mk (HC.out.trans (hbx.mono HC.out.size)); clear HC; have HC := HC2; clear HC2 hbx) | (go_at_call 51; (with_reducible refine (HKc.out _ HC.out).mono ?_); rintro e wx ⟨rfl, hbx⟩; have HC2 := Aside0.mk (HC.out.trans (hbx.mono HC.out.size)); clear HC; have HC := HC2; clear HC2 hbx) | (go_at_call 35; (with_reducible refine (A1.out _ HC.out).mono ?_); rintro e wx ⟨rfl, hbx⟩; have HC2 := Aside0.mk (HC.out.trans (hbx.mono HC.out.size)); clear HC; have HC := HC2; clear HC2 hbx) | (go_at_call 35; (with_reducible refine (A2.out _ HC.out).mono ?_); rintro e wx ⟨rfl, hbx⟩; have HC2 := Aside0.mk (HC.out.trans (hbx.mono HC.out.size)); clear HC; have HC := HC2; clear HC2 hbx) | (go_at_call 35; (with_reducible refine (A3.out _ HC.out).mono ?_); rintro e wx ⟨rfl, hbx⟩; have HC2 := Aside0.mk (HC.out.trans (hbx.mono HC.out.size)); clear HC; have HC := HC2; clear HC2 hbx) | (go_at_call 35; (with_reducible refine (A4.out _ HC.out).mono ?_); rintro e wx ⟨rfl, hbx⟩; have HC2 := Aside0.mk (HC.out.trans (hbx.mono HC.out.size)); clear HC; have HC := HC2; clear HC2 hbx) | (go_at_call 39; (with_reducible refine (M1.out _ HC.out).mono ?_); rintro e wx ⟨rfl, hbx⟩; have HC2 := Aside0.mk (HC.out.trans (hbx.mono HC.out.size)); clear HC; have HC := HC2; clear HC2 hbx) | (go_at_call 39; (with_reducible refine (M2.out _ HC.out).mono ?_); rintro e wx ⟨rfl, hbx⟩; have HC2 := Aside0.mk (HC.out.trans (hbx.mono HC.out.size)); clear HC; have HC := HC2; clear HC2 hbx) | (go_at_call 39; (with_reducible refine (M3.out _ HC.out).mono ?_); rintro e wx ⟨rfl, hbx⟩; have HC2 := Aside0.mk (HC.out.trans (hbx.mono HC.out.size)); clear HC; have HC := HC2; clear HC2 hbx) | (go_at_call 39; (with_reducible refine (M4.out _ HC.out).mono ?_); rintro e wx ⟨rfl, hbx⟩; have HC2 := Aside0.mk (HC.out.trans (hbx.mono HC.out.size)); clear HC; have HC := HC2; clear HC2 hbx) | (go_at_call 35; (with_reducible refine (A5.out _ HC.out).mono ?_); rintro e wx ⟨rfl, hbx⟩; have HC2 := Aside0.mk (HC.out.trans (hbx.mono HC.out.size)); clear HC; have HC := HC2; clear HC2 hbx) | (go_at_call 37; (with_reducible refine (S1.out _ HC.out).mono ?_); rintro e wx ⟨rfl, hbx⟩; have HC2 := Aside0.mk (HC.out.trans (hbx.mono HC.out.size)); clear HC; have HC := HC2; clear HC2 hbx) | (go_at_call 43; (with_reducible refine (C1.out _ HC.out).mono ?_); rintro e wx ⟨rfl, hbx⟩; have HC2 := Aside0.mk (HC.out.trans (hbx.mono HC.out.size)); clear HC; have HC := HC2; clear HC2 hbx) | (go_at_call 43; (with_reducible refine (C2.out _ HC.out).mono ?_); rintro e wx ⟨rfl, hbx⟩; have HC2 := Aside0.mk (HC.out.trans (hbx.mono HC.out.size)); clear HC; have HC := HC2; clear HC2 hbx) | (go_at_call 43; (with_reducible refine (C3.out _ HC.out).mono ?_); rintro e wx ⟨rfl, hbx⟩; have HC2 := Aside0.mk (HC.out.trans (hbx.mono HC.out.size)); clear HC; have HC := HC2; clear HC2 hbx) | (go_at_call 43; (with_reducible refine (C4.out _ HC.out).mono ?_); rintro e wx ⟨rfl, hbx⟩; have HC2 := Aside0.mk (HC.out.trans (hbx.mono HC.out.size)); clear HC; have HC := HC2; clear HC2 hbx) | (go_at_call 53; (with_reducible refine (KF.out _ HC.out).mono ?_); rintro e wx ⟨rfl, hbx⟩; have HC2 := Aside0.mk (HC.out.trans (hbx.mono HC.out.size)); clear HC; have HC := HC2; clear HC2 hbx) | (go_at_call 21; (with_reducible refine (KN.out _ HC.out).mono ?_); rintro e wx ⟨rfl, hbx⟩; have HC2 := Aside0.mk (HC.out.trans (hbx.mono HC.out.size)); clear HC; have HC := HC2; clear HC2 hbx) | (go_at_call 52; (with_reducible refine (same_calls _ _ _).mono ?_); rintro e wx ⟨rfl, hwx⟩; rw [hwx]; clear hwx wx))
  go_ret
  exact ⟨rfl, HC.out⟩
set_option maxRecDepth 1000000 in
set_option maxHeartbeats 16000000 in
theorem field_more (a b c : ByteArray) (ka : checkR a = 0) (kb : checkR b = 0) (kc : checkR c = 0) (ha : a.size ≤ 60) (hb : b.size ≤ 60) (hc : c.size ≤ 60) (h0 : b ≠ ⟨#[48, 47, 49]⟩) (w : World) (hE : EN w) :
    Calls Tryz.prog 8 #[.string a, .string b, .string c] w fun e w' => e = .returned (.bool true) ∧ Below w.heap.size w w' := by
  have HA : Aside0 (∀ W, Below w.heap.size w W → Calls Tryz.prog 10 #[] W fun e w' => e = .returned (.bool true) ∧ Below W.heap.size W w') := ⟨fun W hb => awake_calls W (hE.below hb)⟩
  have HKa := Aside0.mk (fun W (hb : Below w.heap.size w W) => checkR_calls a (by omega) W (hE.below hb))
  have HKb := Aside0.mk (fun W (hb : Below w.heap.size w W) => checkR_calls b (by omega) W (hE.below hb))
  have HKc := Aside0.mk (fun W (hb : Below w.heap.size w W) => checkR_calls c (by omega) W (hE.below hb))
  rw [ka] at HKa
  rw [kb] at HKb
  rw [kc] at HKc
  obtain ⟨AB, BC, PQ, SS, MN, f0, f1, f2, fx, f4, f5, f6, f7, f8, f9, f10⟩ := field_facts ka kb kc ha hb hc
  have hs : AB.size ≤ 80000 ∧ BC.size ≤ 80000 ∧ PQ.size ≤ 80000 ∧ SS.size ≤ 80000 ∧ MN.size ≤ 80000 := f0
  obtain ⟨X, hX⟩ : ∃ X, reS ofAdd a BC = X := ⟨_, rfl⟩
  obtain ⟨kx, hkx⟩ : ∃ X, reR ofAdd a BC = X := ⟨_, rfl⟩
  obtain ⟨RR, hR⟩ : ∃ X, reS ofMul a BC = X := ⟨_, rfl⟩
  obtain ⟨kr, hkr⟩ : ∃ X, reR ofMul a BC = X := ⟨_, rfl⟩
  rw [hX, hkx] at fx
  rw [hR, hkr] at f7
  have fx4 := And.intro hX hkx
  have fr4 := And.intro hR hkr
  obtain ⟨n, dn, dn1, g1, g2, g3, g4⟩ := field_floor ka ha
  have sN := strI_size dn
  have sN1 := strI_size dn1
  obtain ⟨N, hN⟩ : ∃ N, strI n = N := ⟨_, rfl⟩
  obtain ⟨N1, hN1⟩ : ∃ N, strI (n + 1) = N := ⟨_, rfl⟩
  rw [hN] at g3 sN
  rw [hN1] at g4 sN1
  have hN2 : (N ++ ⟨#[47, 49]⟩ : ByteArray).size ≤ 90000 := by rw [ByteArray.size_append]; show N.size + 2 ≤ _; omega
  have hN3 : (N1 ++ ⟨#[47, 49]⟩ : ByteArray).size ≤ 90000 := by rw [ByteArray.size_append]; show N1.size + 2 ≤ _; omega
  obtain ⟨lo, hlo⟩ : ∃ lo, cmpR (N ++ ⟨#[47, 49]⟩) a = lo := ⟨_, rfl⟩
  obtain ⟨k3, hk3⟩ : ∃ k, reE (N ++ ⟨#[47, 49]⟩) a = k := ⟨_, rfl⟩
  obtain ⟨k4, hk4⟩ : ∃ k, reE (N1 ++ ⟨#[47, 49]⟩) a = k := ⟨_, rfl⟩
  rw [hlo] at g3
  have hlo1 : decide (lo ≤ 0) = true := decide_eq_true g3
  have hl1 : ¬ 9223372036854775807 < N.size + 2 := by omega
  have hl2 : ¬ 9223372036854775807 < N1.size + 2 := by omega
  have A1 : ∀ W, Below w.heap.size w W → Calls Tryz.prog 35 #[.string a, .string b] W fun e w' => e = .returned (.tuple #[.string AB, .int .i64 0]) ∧ Below W.heap.size W w' := fun W hb => by
    have h := addReal_calls a b (by omega) (by omega) W (hE.below hb)
    rwa [f1.1, f1.2] at h
  have A2 : ∀ W, Below w.heap.size w W → Calls Tryz.prog 35 #[.string b, .string c] W fun e w' => e = .returned (.tuple #[.string BC, .int .i64 0]) ∧ Below W.heap.size W w' := fun W hb => by
    have h := addReal_calls b c (by omega) (by omega) W (hE.below hb)
    rwa [f2.1, f2.2] at h
  have A3 : ∀ W, Below w.heap.size w W → Calls Tryz.prog 35 #[.string AB, .string c] W fun e w' => e = .returned (.tuple #[.string X, .int .i64 kx]) ∧ Below W.heap.size W w' := fun W hb => by
    have h := addReal_calls AB c (by omega) (by omega) W (hE.below hb)
    rwa [fx.1, fx.2] at h
  have A4 : ∀ W, Below w.heap.size w W → Calls Tryz.prog 35 #[.string a, .string BC] W fun e w' => e = .returned (.tuple #[.string X, .int .i64 kx]) ∧ Below W.heap.size W w' := fun W hb => by
    have h := addReal_calls a BC (by omega) (by omega) W (hE.below hb)
    rwa [fx4.1, fx4.2] at h
  have M1 : ∀ W, Below w.heap.size w W → Calls Tryz.prog 39 #[.string a, .string b] W fun e w' => e = .returned (.tuple #[.string PQ, .int .i64 0]) ∧ Below W.heap.size W w' := fun W hb => by
    have h := mulReal_calls a b (by omega) (by omega) W (hE.below hb)
    rwa [f4.1, f4.2] at h
  have M2 : ∀ W, Below w.heap.size w W → Calls Tryz.prog 39 #[.string b, .string a] W fun e w' => e = .returned (.tuple #[.string PQ, .int .i64 0]) ∧ Below W.heap.size W w' := fun W hb => by
    have h := mulReal_calls b a (by omega) (by omega) W (hE.below hb)
    rwa [f5.1, f5.2] at h
  have M3 : ∀ W, Below w.heap.size w W → Calls Tryz.prog 39 #[.string a, .string BC] W fun e w' => e = .returned (.tuple #[.string RR, .int .i64 kr]) ∧ Below W.heap.size W w' := fun W hb => by
    have h := mulReal_calls a BC (by omega) (by omega) W (hE.below hb)
    rwa [fr4.1, fr4.2] at h
  have M4 : ∀ W, Below w.heap.size w W → Calls Tryz.prog 39 #[.string a, .string c] W fun e w' => e = .returned (.tuple #[.string SS, .int .i64 0]) ∧ Below W.heap.size W w' := fun W hb => by
    have h := mulReal_calls a c (by omega) (by omega) W (hE.below hb)
    rwa [f6.1, f6.2] at h
  have A5 : ∀ W, Below w.heap.size w W → Calls Tryz.prog 35 #[.string PQ, .string SS] W fun e w' => e = .returned (.tuple #[.string RR, .int .i64 kr]) ∧ Below W.heap.size W w' := fun W hb => by
    have h := addReal_calls PQ SS (by omega) (by omega) W (hE.below hb)
    rwa [f7.1, f7.2] at h
  have S1 : ∀ W, Below w.heap.size w W → Calls Tryz.prog 37 #[.string a, .string b] W fun e w' => e = .returned (.tuple #[.string MN, .int .i64 0]) ∧ Below W.heap.size W w' := fun W hb => by
    have h := subReal_calls a b (by omega) (by omega) W (hE.below hb)
    rwa [f8.1, f8.2] at h
  obtain ⟨m, hm⟩ : ∃ m, cmpR a b = m := ⟨_, rfl⟩
  rw [hm] at f9 f10
  have hq : (a.toList == b.toList) = (m == 0) := beq_iff f10.symm
  have C1 : ∀ W, Below w.heap.size w W → Calls Tryz.prog 43 #[.string a, .string b] W fun e w' => e = .returned (.tuple #[.int .i64 m, .int .i64 0]) ∧ Below W.heap.size W w' := fun W hb => by
    have h := compareReal_calls a b (by omega) (by omega) W (hE.below hb)
    rwa [hm, re_zero ka kb] at h
  have C2 : ∀ W, Below w.heap.size w W → Calls Tryz.prog 43 #[.string MN, .string ⟨#[48, 47, 49]⟩] W fun e w' => e = .returned (.tuple #[.int .i64 m, .int .i64 0]) ∧ Below W.heap.size W w' := fun W hb => by
    have h := compareReal_calls MN ⟨#[48, 47, 49]⟩ (by omega) (by decide) W (hE.below hb)
    rwa [f9.1, f9.2] at h
  have KF : ∀ W, Below w.heap.size w W → Calls Tryz.prog 53 #[.string a] W fun e w' => e = .returned (.tuple #[.string N, .int .i64 0]) ∧ Below W.heap.size W w' := fun W hb => by
    have h := floor_calls a (by omega) W (hE.below hb)
    rwa [g1, g2, hN] at h
  have KN : ∀ W, Below w.heap.size w W → Calls Tryz.prog 21 #[.string N, .string ⟨#[49]⟩] W fun e w' => e = .returned (.tuple #[.string N1, .int .i64 0]) ∧ Below W.heap.size W w' := fun W hb => by
    have h := add_str dn (d1 119) rfl dn1 W (hE.below hb)
    rwa [hN, hN1, show strI 1 = ⟨#[49]⟩ by decide +kernel] at h
  have C3 : ∀ W, Below w.heap.size w W → Calls Tryz.prog 43 #[.string (N ++ ⟨#[47, 49]⟩), .string a] W fun e w' => e = .returned (.tuple #[.int .i64 lo, .int .i64 k3]) ∧ Below W.heap.size W w' := fun W hb => by
    have h := compareReal_calls (N ++ ⟨#[47, 49]⟩) a hN2 (by omega) W (hE.below hb)
    rwa [hlo, hk3] at h
  have C4 : ∀ W, Below w.heap.size w W → Calls Tryz.prog 43 #[.string (N1 ++ ⟨#[47, 49]⟩), .string a] W fun e w' => e = .returned (.tuple #[.int .i64 1, .int .i64 k4]) ∧ Below W.heap.size W w' := fun W hb => by
    have h := compareReal_calls (N1 ++ ⟨#[47, 49]⟩) a hN3 (by omega) W (hE.below hb)
    rwa [g4, hk4] at h
  obtain ⟨D, hD, j1, j2⟩ := field_div ka kb ha hb h0
  have KD : ∀ W, Below w.heap.size w W → Calls Tryz.prog 41 #[.string a, .string b] W fun e w' => e = .returned (.tuple #[.string D, .int .i64 0]) ∧ Below W.heap.size W w' := fun W hb => by
    have h := divReal_calls a b (by omega) (by omega) W (hE.below hb)
    rwa [j1.1, j1.2] at h
  have KB : ∀ W, Below w.heap.size w W → Calls Tryz.prog 39 #[.string D, .string b] W fun e w' => e = .returned (.tuple #[.string a, .int .i64 0]) ∧ Below W.heap.size W w' := fun W hb => by
    have h := mulReal_calls D b (by omega) (by omega) W (hE.below hb)
    rwa [j2.1, j2.2] at h
  have hb0 : (b.toList == [48, 47, 49]) = false := beq_no (b := ⟨#[48, 47, 49]⟩) rfl h0
  clear j1 j2 hD
  have hsa : decide ((60 : Int) < (a.size : Int)) = false := decide_eq_false (by omega)
  have hsb : decide ((60 : Int) < (b.size : Int)) = false := decide_eq_false (by omega)
  have hsc : decide ((60 : Int) < (c.size : Int)) = false := decide_eq_false (by omega)
  clear f0 f1 f2 fx f4 f5 f6 f7 f8 f9 f10 fx4 fr4 hX hkx hR hkr hs hm g1 g2 g3 g4 hN hN1 dn dn1 hlo hk3 hk4 hN2 hN3 sN sN1 ka kb kc ha hb hc hE
  clear h0
  have A1 := Aside0.mk A1
  have A2 := Aside0.mk A2
  have A3 := Aside0.mk A3
  have A4 := Aside0.mk A4
  have M1 := Aside0.mk M1
  have M2 := Aside0.mk M2
  have M3 := Aside0.mk M3
  have M4 := Aside0.mk M4
  have A5 := Aside0.mk A5
  have S1 := Aside0.mk S1
  have C1 := Aside0.mk C1
  have C2 := Aside0.mk C2
  have C3 := Aside0.mk C3
  have C4 := Aside0.mk C4
  have KF := Aside0.mk KF
  have KN := Aside0.mk KN
  have KD := Aside0.mk KD
  have KB := Aside0.mk KB
  (have HC := Aside0.mk (Below.refl w.heap.size w); go_enter Tryz.func8, Tryz.ntmps8)
  go_wp2_with (first | (go_at_call 10; (with_reducible refine (HA.out _ HC.out).mono ?_); rintro e wx ⟨rfl, hbx⟩; have HC2 := Aside0.mk (HC.out.trans (hbx.mono HC.out.size)); clear HC; have HC := HC2; clear HC2 hbx) | (go_at_call 51; (with_reducible refine (HKa.out _ HC.out).mono ?_); rintro e wx ⟨rfl, hbx⟩; have HC2 := Aside0.mk (HC.out.trans (hbx.mono HC.out.size)); clear HC; have HC := HC2; clear HC2 hbx) | (go_at_call 51; (with_reducible refine (HKb.out _ HC.out).mono ?_); rintro e wx ⟨rfl, hbx⟩; have HC2 := Aside0.mk (HC.out.trans (hbx.mono HC.out.size)); clear HC; have HC := HC2; clear HC2 hbx) | (go_at_call 51; (with_reducible refine (HKc.out _ HC.out).mono ?_); rintro e wx ⟨rfl, hbx⟩; have HC2 := Aside0.mk (HC.out.trans (hbx.mono HC.out.size)); clear HC; have HC := HC2; clear HC2 hbx) | (go_at_call 35; (with_reducible refine (A1.out _ HC.out).mono ?_); rintro e wx ⟨rfl, hbx⟩; have HC2 := Aside0.mk (HC.out.trans (hbx.mono HC.out.size)); clear HC; have HC := HC2; clear HC2 hbx) | (go_at_call 35; (with_reducible refine (A2.out _ HC.out).mono ?_); rintro e wx ⟨rfl, hbx⟩; have HC2 := Aside0.mk (HC.out.trans (hbx.mono HC.out.size)); clear HC; have HC := HC2; clear HC2 hbx) | (go_at_call 35; (with_reducible refine (A3.out _ HC.out).mono ?_); rintro e wx ⟨rfl, hbx⟩; have HC2 := Aside0.mk (HC.out.trans (hbx.mono HC.out.size)); clear HC; have HC := HC2; clear HC2 hbx) | (go_at_call 35; (with_reducible refine (A4.out _ HC.out).mono ?_); rintro e wx ⟨rfl, hbx⟩; have HC2 := Aside0.mk (HC.out.trans (hbx.mono HC.out.size)); clear HC; have HC := HC2; clear HC2 hbx) | (go_at_call 39; (with_reducible refine (M1.out _ HC.out).mono ?_); rintro e wx ⟨rfl, hbx⟩; have HC2 := Aside0.mk (HC.out.trans (hbx.mono HC.out.size)); clear HC; have HC := HC2; clear HC2 hbx) | (go_at_call 39; (with_reducible refine (M2.out _ HC.out).mono ?_); rintro e wx ⟨rfl, hbx⟩; have HC2 := Aside0.mk (HC.out.trans (hbx.mono HC.out.size)); clear HC; have HC := HC2; clear HC2 hbx) | (go_at_call 39; (with_reducible refine (M3.out _ HC.out).mono ?_); rintro e wx ⟨rfl, hbx⟩; have HC2 := Aside0.mk (HC.out.trans (hbx.mono HC.out.size)); clear HC; have HC := HC2; clear HC2 hbx) | (go_at_call 39; (with_reducible refine (M4.out _ HC.out).mono ?_); rintro e wx ⟨rfl, hbx⟩; have HC2 := Aside0.mk (HC.out.trans (hbx.mono HC.out.size)); clear HC; have HC := HC2; clear HC2 hbx) | (go_at_call 35; (with_reducible refine (A5.out _ HC.out).mono ?_); rintro e wx ⟨rfl, hbx⟩; have HC2 := Aside0.mk (HC.out.trans (hbx.mono HC.out.size)); clear HC; have HC := HC2; clear HC2 hbx) | (go_at_call 37; (with_reducible refine (S1.out _ HC.out).mono ?_); rintro e wx ⟨rfl, hbx⟩; have HC2 := Aside0.mk (HC.out.trans (hbx.mono HC.out.size)); clear HC; have HC := HC2; clear HC2 hbx) | (go_at_call 43; (with_reducible refine (C1.out _ HC.out).mono ?_); rintro e wx ⟨rfl, hbx⟩; have HC2 := Aside0.mk (HC.out.trans (hbx.mono HC.out.size)); clear HC; have HC := HC2; clear HC2 hbx) | (go_at_call 43; (with_reducible refine (C2.out _ HC.out).mono ?_); rintro e wx ⟨rfl, hbx⟩; have HC2 := Aside0.mk (HC.out.trans (hbx.mono HC.out.size)); clear HC; have HC := HC2; clear HC2 hbx) | (go_at_call 43; (with_reducible refine (C3.out _ HC.out).mono ?_); rintro e wx ⟨rfl, hbx⟩; have HC2 := Aside0.mk (HC.out.trans (hbx.mono HC.out.size)); clear HC; have HC := HC2; clear HC2 hbx) | (go_at_call 43; (with_reducible refine (C4.out _ HC.out).mono ?_); rintro e wx ⟨rfl, hbx⟩; have HC2 := Aside0.mk (HC.out.trans (hbx.mono HC.out.size)); clear HC; have HC := HC2; clear HC2 hbx) | (go_at_call 53; (with_reducible refine (KF.out _ HC.out).mono ?_); rintro e wx ⟨rfl, hbx⟩; have HC2 := Aside0.mk (HC.out.trans (hbx.mono HC.out.size)); clear HC; have HC := HC2; clear HC2 hbx) | (go_at_call 21; (with_reducible refine (KN.out _ HC.out).mono ?_); rintro e wx ⟨rfl, hbx⟩; have HC2 := Aside0.mk (HC.out.trans (hbx.mono HC.out.size)); clear HC; have HC := HC2; clear HC2 hbx) | (go_at_call 52; (with_reducible refine (same_calls _ _ _).mono ?_); rintro e wx ⟨rfl, hwx⟩; rw [hwx]; clear hwx wx) | (go_at_call 41; (with_reducible refine (KD.out _ HC.out).mono ?_); rintro e wx ⟨rfl, hbx⟩; have HC2 := Aside0.mk (HC.out.trans (hbx.mono HC.out.size)); clear HC; have HC := HC2; clear HC2 hbx) | (go_at_call 39; (with_reducible refine (KB.out _ HC.out).mono ?_); rintro e wx ⟨rfl, hbx⟩; have HC2 := Aside0.mk (HC.out.trans (hbx.mono HC.out.size)); clear HC; have HC := HC2; clear HC2 hbx))
  go_ret
  exact ⟨rfl, HC.out⟩
theorem field_calls (a b c : ByteArray) (w : World) (hE : EN w) :
    Calls Tryz.prog 8 #[.string a, .string b, .string c] w fun e w' => e = .returned (.bool true) ∧ Below w.heap.size w w' := by
  by_cases hl : 60 < a.size ∨ (¬ 60 < a.size ∧ 60 < b.size) ∨ (¬ 60 < a.size ∧ ¬ 60 < b.size ∧ 60 < c.size)
  · exact field_long a b c hl w hE
  · have h1 : a.size ≤ 60 := by omega
    have h2 : b.size ≤ 60 := by omega
    have h3 : c.size ≤ 60 := by omega
    by_cases hw : checkR a ≠ 0 ∨ (checkR a = 0 ∧ checkR b ≠ 0) ∨ (checkR a = 0 ∧ checkR b = 0 ∧ checkR c ≠ 0)
    · exact field_wrong a b c h1 h2 h3 hw w hE
    · by_cases h0 : b = ⟨#[48, 47, 49]⟩
      · exact field_zero a b c (by omega) (by omega) (by omega) h1 h2 h3 h0 w hE
      · exact field_more a b c (by omega) (by omega) (by omega) h1 h2 h3 h0 w hE
end Go.Proofs.YtillgofjlpjbcaaGreatDoor.Nm
end
