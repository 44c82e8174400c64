/- The reference's spaced has a contract in plain words. -/
import Derived.Test.YtmnnhbikdgpedaaDoorLjH
namespace Go.Proofs.YtmnnhbikdgpedaaDoor.Lx
open Go.RowKit Go.Proofs.YtmnnhbikdgpedaaDoorW.PrintWords Go.Proofs.YtmnnhbikdgpedaaDoorW.PrintLast Go.Proofs.YtmnnhbikdgpedaaDoorW.PrintMore
open Go.Proofs.YtmnnhbikdgpedaaDoor.PLexTokens
set_option linter.unusedVariables false
set_option linter.unusedSimpArgs false

theorem lit_C (w : World) (L : List ByteArray) (hl : L.length ≤ 9223372036854775807) : Kd.C Kd.string (w.alloc (.cells (L.map Value.string).toArray 9)) (some ⟨w.heap.size, 0, none⟩) L.length L := by
  refine ⟨rfl, hl, fun _ => ⟨_, rfl, fun j p hj => ⟨[.string p], rfl, rfl, fun i u hu => ?_⟩⟩⟩
  have hlt : j < L.length := (List.getElem?_eq_some_iff.1 hj).1
  have hi : i = 0 := by
    have := (List.getElem?_eq_some_iff.1 hu).1
    simpa using this
  subst hi
  obtain rfl : Value.string p = u := by simpa using hu
  have ha : (⟨w.heap.size, 0, none⟩ : Addr).add (j * 1 + 0) = ⟨w.heap.size, 0 + j, none⟩ := by rw [Nat.mul_one, Nat.add_zero, Nat.zero_add]; unfold Addr.add; split <;> simp_all
  show (w.alloc _).cell? ((⟨w.heap.size, 0, none⟩ : Addr).add (j * 1 + 0)) = _
  rw [ha, lit_row w L 9 j hlt, List.getD_eq_getElem?_getD, hj, Option.getD_some]

theorem hasWord2_l0 (L : List ByteArray) (t : ByteArray) (hL : L.length ≤ 100) : ∀ (d j k : Nat), j ≤ L.length → L.length - j = d → d < k →
    entailref02_HasWord.l0 k L t (j : Int) = some ((L.drop j).any fun z => z.toList == t.toList)
  | d, j, 0, _, _, h => by omega
  | d, j, k + 1, hj, hd, hk => by
    rw [entailref02_HasWord.l0]
    by_cases h : j < L.length
    · have e : rdOf ByteArray.empty L (j : Int) = L[j] := by rw [rdOf, Int.toNat_natCast, List.getD_eq_getElem?_getD, List.getElem?_eq_getElem h, Option.getD_some]
      rw [if_pos (by omega), if_pos (Int.natCast_nonneg _), e, List.drop_eq_getElem_cons h, List.any_cons]
      by_cases h2 : L[j].toList = t.toList
      · rw [if_pos h2, beq_iff_eq.mpr h2]; rfl
      · rw [if_neg h2, beq_eq_false_iff_ne.mpr h2, wrap_one j (by omega), hasWord2_l0 L t hL (d - 1) (j + 1) k (by omega) (by omega) (by omega)]
        rfl
    · rw [if_neg (by omega), List.drop_eq_nil_of_le (by omega)]
      rfl
theorem any_contains (L : List ByteArray) (t : ByteArray) : (L.any fun z => z.toList == t.toList) = Lib.containsS L t := by
  rw [Bool.eq_iff_iff, Lib.containsS_iff, List.any_eq_true]
  constructor
  · rintro ⟨z, hz, he⟩
    have : z = t := by
      have := beq_iff_eq.mp he
      rw [Lib.toList_data, Lib.toList_data] at this
      exact ba_ext this
    exact this ▸ hz
  · intro h
    exact ⟨t, h, by simp⟩
theorem hasWord2_f (L : List ByteArray) (t : ByteArray) (hL : L.length ≤ 100) : entailref02_HasWord.f 200 L t = some (Lib.containsS L t) := by
  unfold entailref02_HasWord.f
  have := hasWord2_l0 L t hL L.length 0 200 (by omega) rfl (by omega)
  rw [List.drop_zero, any_contains] at this
  exact this
theorem word_behind (w : World) (b : Nat) (t : ByteArray) (hb : b = w.heap.size) : Calls Tryd.prog 81 #[.slice (some ⟨b, 0, none⟩) 5 5, .string t] (w.alloc (.cells #[.string ⟨#[40]⟩, .string ⟨#[91]⟩, .string ⟨#[35]⟩, .string ⟨#[33]⟩, .string ⟨#[46]⟩] 9)) fun e w' => e = .returned (.bool (Lib.containsS behindL t)) ∧ Drawn0 (w.alloc (.cells #[.string ⟨#[40]⟩, .string ⟨#[91]⟩, .string ⟨#[35]⟩, .string ⟨#[33]⟩, .string ⟨#[46]⟩] 9)) w' := by
  subst hb
  exact entailref02_HasWord.calls 200 (some ⟨w.heap.size, 0, none⟩) 5 behindL t _ _ (lit_C w behindL (by decide)) (by decide) (hasWord2_f behindL t (by decide))
theorem word_ahead (w : World) (b : Nat) (t : ByteArray) (hb : b = w.heap.size) : Calls Tryd.prog 81 #[.slice (some ⟨b, 0, none⟩) 7 7, .string t] (w.alloc (.cells #[.string ⟨#[41]⟩, .string ⟨#[93]⟩, .string ⟨#[44]⟩, .string ⟨#[59]⟩, .string ⟨#[46]⟩, .string ⟨#[63]⟩, .string ⟨#[91]⟩] 9)) fun e w' => e = .returned (.bool (Lib.containsS aheadL t)) ∧ Drawn0 (w.alloc (.cells #[.string ⟨#[41]⟩, .string ⟨#[93]⟩, .string ⟨#[44]⟩, .string ⟨#[59]⟩, .string ⟨#[46]⟩, .string ⟨#[63]⟩, .string ⟨#[91]⟩] 9)) w' := by
  subst hb
  exact entailref02_HasWord.calls 200 (some ⟨w.heap.size, 0, none⟩) 7 aheadL t _ _ (lit_C w aheadL (by decide)) (by decide) (hasWord2_f aheadL t (by decide))

/-- What the reference's spaced says. -/
def spacedB (k1 : Int) (t1 : ByteArray) (k2 : Int) (t2 : ByteArray) : Bool :=
  if partB k1 t1 k2 t2 = true then true
  else if t1.toList = [46] ∧ (k2 = 2 ∨ k2 = 3) then true
  else !Lib.containsS behindL t1 && !Lib.containsS aheadL t2

set_option maxHeartbeats 4000000 in
set_option maxRecDepth 100000 in
theorem spaced_calls (k1 a1 k2 a2 : Int) (t1 t2 : ByteArray) (hs : t1.size + t2.size ≤ 9223372036854775807) (w : World) :
    Calls Tryd.prog 48 #[.agg #[.int .i64 k1, .string t1, .int .i64 a1], .agg #[.int .i64 k2, .string t2, .int .i64 a2]] w fun e w' => e = .returned (.bool (spacedB k1 t1 k2 t2)) ∧ Below w.heap.size w w' := by
  have HB := Aside0.mk (Below.refl w.heap.size w)
  have HP := Aside0.mk (fun w => part_calls k1 a1 k2 a2 t1 t2 hs w)
  unfold spacedB
  generalize partB k1 t1 k2 t2 = p at *
  cases p
  · rw [if_neg (by simp)]
    by_cases c1 : t1.toList = [46] ∧ (k2 = 2 ∨ k2 = 3)
    · rw [if_pos c1]
      obtain ⟨e1, e2⟩ := c1
      have f1 : (t1.toList == [46]) = true := by rw [e1]; rfl
      have e3 : (k2 == 2) = true ∨ ((k2 == 2) = false ∧ (k2 == 3) = true) := by
        rcases e2 with h | h
        · exact .inl (by simp [h])
        · exact .inr ⟨by simp [h], by simp [h]⟩
      clear e1 e2
      rcases e3 with g1 | ⟨g1, g2⟩
      all_goals
        go_enter Tryd.func48, Tryd.ntmps48
        go_wp2_with (first | (go_at_call 80; go_loud ((with_reducible refine (HP.out _).mono ?_); rintro e w1 ⟨rfl, hb1⟩; obtain ⟨hc1, hf1⟩ := bcell hb1; have z1 : w.heap.size + 1 < w1.heap.size := Nat.lt_of_lt_of_le (by simp) hb1.size; have r0 : w1.cell? ⟨w.heap.size, 0, none⟩ = some (.int .i64 k1) := (hc1 w.heap.size 0 (by simp; omega)).trans (by simp [go_sem, *]); have r1 : w1.cell? ⟨w.heap.size, 1, none⟩ = some (.string t1) := (hc1 w.heap.size 1 (by simp; omega)).trans (by simp [go_sem, *]); have r3 : w1.cell? ⟨w.heap.size + 1, 0, none⟩ = some (.int .i64 k2) := (hc1 (w.heap.size + 1) 0 (by simp)).trans (by simp [go_sem, *]); have r4 : w1.cell? ⟨w.heap.size + 1, 1, none⟩ = some (.string t2) := (hc1 (w.heap.size + 1) 1 (by simp)).trans (by simp [go_sem, *]); have HB1 : Aside0 (Below w.heap.size w w1) := ⟨below_step (by repeat (first | (with_reducible exact HB.out) | (with_reducible exact Below.refl _ _) | (with_reducible apply below_alloc) | (with_reducible apply pw_below_drewN) | (with_reducible apply below_drew1) | refine below_set ?_ (by omega))) hb1⟩; clear HB hc1 hf1 hb1; have y1 : ∀ o, (w1.alloc o).cell? ⟨w.heap.size, 1, none⟩ = some (.string t1) := (fun o => keepAt (below_alloc (Below.refl _ _) o) r1); have y4 : ∀ o, (w1.alloc o).cell? ⟨w.heap.size + 1, 1, none⟩ = some (.string t2) := (fun o => keepAt (below_alloc (Below.refl _ _) o) r4); have y5 : ∀ o n o', (((w1.alloc o).drewN n).alloc o').cell? ⟨w.heap.size + 1, 1, none⟩ = some (.string t2) := (fun o n o' => keepAt (below_alloc (pw_below_drewN (below_alloc (Below.refl _ _) o) n) o') r4); have y6 : ∀ o n, ((w1.alloc o).drewN n).cell? ⟨w.heap.size + 1, 1, none⟩ = some (.string t2) := (fun o n => keepAt (pw_below_drewN (below_alloc (Below.refl _ _) o) n) r4))))
        all_goals
        go_ret
        exact ⟨by first | rfl | (simp [*]; done), by repeat (first | exact HB1.out | apply below_alloc | apply below_drew1 | apply pw_below_drewN)⟩
    · rw [if_neg c1]
      have hcase : ((t1.toList == [46]) = false ∧ (t1.toList = [46]) = False) ∨ ((t1.toList == [46]) = true ∧ (k2 == 2) = false ∧ (k2 == 3) = false) := by
        by_cases e : t1.toList = [46]
        · refine .inr ⟨by simp [e], ?_, ?_⟩
          · simp; exact fun h => c1 ⟨e, .inl h⟩
          · simp; exact fun h => c1 ⟨e, .inr h⟩
        · exact .inl ⟨by simp [e], eq_false e⟩
      clear c1
      rcases hcase with ⟨f1, f2⟩ | ⟨f1, f2, f3⟩
      all_goals
        go_enter Tryd.func48, Tryd.ntmps48
        go_wp2_with (first | (go_at_call 80; go_loud ((with_reducible refine (HP.out _).mono ?_); rintro e w1 ⟨rfl, hb1⟩; obtain ⟨hc1, hf1⟩ := bcell hb1; have z1 : w.heap.size + 1 < w1.heap.size := Nat.lt_of_lt_of_le (by simp) hb1.size; have r0 : w1.cell? ⟨w.heap.size, 0, none⟩ = some (.int .i64 k1) := (hc1 w.heap.size 0 (by simp; omega)).trans (by simp [go_sem, *]); have r1 : w1.cell? ⟨w.heap.size, 1, none⟩ = some (.string t1) := (hc1 w.heap.size 1 (by simp; omega)).trans (by simp [go_sem, *]); have r3 : w1.cell? ⟨w.heap.size + 1, 0, none⟩ = some (.int .i64 k2) := (hc1 (w.heap.size + 1) 0 (by simp)).trans (by simp [go_sem, *]); have r4 : w1.cell? ⟨w.heap.size + 1, 1, none⟩ = some (.string t2) := (hc1 (w.heap.size + 1) 1 (by simp)).trans (by simp [go_sem, *]); have HB1 : Aside0 (Below w.heap.size w w1) := ⟨below_step (by repeat (first | (with_reducible exact HB.out) | (with_reducible exact Below.refl _ _) | (with_reducible apply below_alloc) | (with_reducible apply pw_below_drewN) | (with_reducible apply below_drew1) | refine below_set ?_ (by omega))) hb1⟩; clear HB hc1 hf1 hb1; have y1 : ∀ o, (w1.alloc o).cell? ⟨w.heap.size, 1, none⟩ = some (.string t1) := (fun o => keepAt (below_alloc (Below.refl _ _) o) r1); have y4 : ∀ o, (w1.alloc o).cell? ⟨w.heap.size + 1, 1, none⟩ = some (.string t2) := (fun o => keepAt (below_alloc (Below.refl _ _) o) r4); have y5 : ∀ o n o', (((w1.alloc o).drewN n).alloc o').cell? ⟨w.heap.size + 1, 1, none⟩ = some (.string t2) := (fun o n o' => keepAt (below_alloc (pw_below_drewN (below_alloc (Below.refl _ _) o) n) o') r4); have y6 : ∀ o n, ((w1.alloc o).drewN n).cell? ⟨w.heap.size + 1, 1, none⟩ = some (.string t2) := (fun o n => keepAt (pw_below_drewN (below_alloc (Below.refl _ _) o) n) r4))) | (go_at_call 81; go_loud ((with_reducible refine (word_behind _ _ t1 (by simp)).mono ?_); rintro e w5 ⟨rfl, ⟨nd, rfl⟩⟩)) | (go_at_call 81; go_loud ((with_reducible refine (word_ahead _ _ t2 (by simp)).mono ?_); rintro e w6 ⟨rfl, ⟨ne, rfl⟩⟩)))
        all_goals
        go_ret
        exact ⟨by first | rfl | (simp [*]; done), by repeat (first | exact HB1.out | apply below_alloc | apply below_drew1 | apply pw_below_drewN)⟩
  · rw [if_pos rfl]
    go_enter Tryd.func48, Tryd.ntmps48
    go_wp2_with (first | (go_at_call 80; go_loud ((with_reducible refine (HP.out _).mono ?_); rintro e w1 ⟨rfl, hb1⟩; obtain ⟨hc1, hf1⟩ := bcell hb1; have z1 : w.heap.size + 1 < w1.heap.size := Nat.lt_of_lt_of_le (by simp) hb1.size; have r0 : w1.cell? ⟨w.heap.size, 0, none⟩ = some (.int .i64 k1) := (hc1 w.heap.size 0 (by simp; omega)).trans (by simp [go_sem, *]); have r1 : w1.cell? ⟨w.heap.size, 1, none⟩ = some (.string t1) := (hc1 w.heap.size 1 (by simp; omega)).trans (by simp [go_sem, *]); have r3 : w1.cell? ⟨w.heap.size + 1, 0, none⟩ = some (.int .i64 k2) := (hc1 (w.heap.size + 1) 0 (by simp)).trans (by simp [go_sem, *]); have r4 : w1.cell? ⟨w.heap.size + 1, 1, none⟩ = some (.string t2) := (hc1 (w.heap.size + 1) 1 (by simp)).trans (by simp [go_sem, *]); have HB1 : Aside0 (Below w.heap.size w w1) := ⟨below_step (by repeat (first | (with_reducible exact HB.out) | (with_reducible exact Below.refl _ _) | (with_reducible apply below_alloc) | (with_reducible apply pw_below_drewN) | (with_reducible apply below_drew1) | refine below_set ?_ (by omega))) hb1⟩; clear HB hc1 hf1 hb1; have y1 : ∀ o, (w1.alloc o).cell? ⟨w.heap.size, 1, none⟩ = some (.string t1) := (fun o => keepAt (below_alloc (Below.refl _ _) o) r1); have y4 : ∀ o, (w1.alloc o).cell? ⟨w.heap.size + 1, 1, none⟩ = some (.string t2) := (fun o => keepAt (below_alloc (Below.refl _ _) o) r4); have y5 : ∀ o n o', (((w1.alloc o).drewN n).alloc o').cell? ⟨w.heap.size + 1, 1, none⟩ = some (.string t2) := (fun o n o' => keepAt (below_alloc (pw_below_drewN (below_alloc (Below.refl _ _) o) n) o') r4); have y6 : ∀ o n, ((w1.alloc o).drewN n).cell? ⟨w.heap.size + 1, 1, none⟩ = some (.string t2) := (fun o n => keepAt (pw_below_drewN (below_alloc (Below.refl _ _) o) n) r4))))
    all_goals
        go_ret
        exact ⟨by first | rfl | (simp [*]; done), by repeat (first | exact HB1.out | apply below_alloc | apply below_drew1 | apply pw_below_drewN)⟩
end Go.Proofs.YtmnnhbikdgpedaaDoor.Lx
