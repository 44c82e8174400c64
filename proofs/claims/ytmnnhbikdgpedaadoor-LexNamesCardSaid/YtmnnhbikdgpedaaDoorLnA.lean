/- lex.IsName, isUpper, parts, IsGlobal, Split have their contracts. -/
import Derived.Test.YtmnnhbikdgpedaaDoorLxS
import Derived.Test.YtmnnhbikdgpedaaDoorShelf
import Derived.Laws.StructEq
namespace Go.Proofs.YtmnnhbikdgpedaaDoor.Lx
open Go.RowKit Go.Proofs.YtmnnhbikdgpedaaDoorW.PrintWords Go.Proofs.YtmnnhbikdgpedaaDoorW.PrintLast Go.Proofs.YtmnnhbikdgpedaaDoorW.PrintMore
open Go.Proofs.YtmnnhbikdgpedaaDoor.PLexTokens
set_option linter.unusedVariables false
set_option linter.unusedSimpArgs false

theorem cut_self (s : ByteArray) (e : Nat) (he : e ≤ s.size) : s.extract 0 e = s ↔ e = s.size := by
  constructor
  · intro h
    have := congrArg ByteArray.size h
    simp at this
    omega
  · rintro rfl
    exact rest_zero s

set_option maxRecDepth 20000 in
theorem isName_calls (s : ByteArray) (hs : s.size ≤ 70000) (w : World) (hE : Env w) :
    Calls Tryd.prog 20 #[.string s] w fun e w' => e = .returned (.bool (isNameB s)) ∧ Below w.heap.size w w' := by
  have HE := Aside0.mk hE
  have HB := Aside0.mk (Below.refl w.heap.size w)
  have hw := Aside0.mk (fun w => word_calls s 0 (by omega) (by omega) w)
  have hwe : ((s.extract 0 (wordEnd s 0)).toList == s.toList) = decide (wordEnd s 0 = s.size) := by
    apply Bool.eq_iff_iff.mpr
    rw [beq_iff_eq, decide_eq_true_iff, toList_inj, cut_self _ _ (wordEnd_le s 0 (by omega))]
  by_cases h0 : s.size = 0
  · have hb : s.toList.isEmpty = true := by rw [(toList_nil s).mpr h0]; rfl
    have hb2 : (s.toList = []) = True := eq_true ((toList_nil s).mpr h0)
    have hN : isNameB s = false := by rw [isNameB, decide_eq_false (by omega)]; rfl
    rw [hN]
    clear h0
    go_enter Tryd.func20, Tryd.ntmps20
    go_wp2
    go_ret
    exact ⟨rfl, by repeat (first | exact Below.refl _ _ | apply below_alloc | apply pw_below_drewN)⟩
  have hb0 : ¬ s.toList = [] := fun h => h0 ((toList_nil s).mp h)
  have hb : s.toList.isEmpty = false := by rw [List.isEmpty_eq_false_iff]; exact hb0
  have hb2 : (s.toList = []) = False := eq_false hb0
  by_cases h1 : s.size ≤ 24
  · have hd : decide ((s.size : Int) ≤ 24) = true := by simp; omega
    by_cases h2 : wordEnd s 0 = s.size
    · have hN : isNameB s = !isKeyword s := by rw [isNameB, decide_eq_true (show 0 < s.size by omega), decide_eq_true h1, decide_eq_true h2]; rfl
      rw [hN]
      have hwe2 : ((s.extract 0 (wordEnd s 0)).toList == s.toList) = true := by rw [hwe, decide_eq_true h2]
      obtain ⟨x, hx⟩ : ∃ x, x = s.extract 0 (wordEnd s 0) := ⟨_, rfl⟩
      rw [← hx] at hwe2
      have hw2 := Aside0.mk (show ∀ w, Calls Tryd.prog 40 #[.agg #[.string s, .int .i64 (0 : Int)]] w fun e w' => e = .returned (.string x) ∧ Below w.heap.size w w' from fun w => by rw [hx]; exact hw.out w)
      clear h0 h1 h2 hwe hx hw hb0
      go_enter Tryd.func20, Tryd.ntmps20
      go_wp2_with (first | (go_at_call 40; go_loud ((with_reducible refine (hw2.out _).mono ?_); rintro e w1 ⟨rfl, hb1⟩; obtain ⟨hc1, hf1⟩ := bcell hb1; have nB1 : Aside0 (Below w.heap.size w w1) := ⟨below_step (by repeat (first | (with_reducible exact HB.out) | (with_reducible exact Below.refl _ _) | (with_reducible apply below_alloc) | (with_reducible apply pw_below_drewN) | (with_reducible apply below_drew1) | refine below_set ?_ (by omega))) hb1⟩; clear HB; have HB := nB1; clear nB1)) | (go_at_call 41; go_loud ((with_reducible refine (isKeyword_calls _ _ (HE.out.below (by repeat (first | (with_reducible exact HB.out) | (with_reducible exact Below.refl _ _) | (with_reducible apply below_alloc) | (with_reducible apply pw_below_drewN) | (with_reducible apply below_drew1) | refine below_set ?_ (by omega))))).mono ?_); rintro e w2 ⟨rfl, hb2⟩; obtain ⟨hc2, hf2⟩ := bcell hb2; have nB2 : Aside0 (Below w.heap.size w w2) := ⟨below_step (by repeat (first | (with_reducible exact HB.out) | (with_reducible exact Below.refl _ _) | (with_reducible apply below_alloc) | (with_reducible apply pw_below_drewN) | (with_reducible apply below_drew1) | refine below_set ?_ (by omega))) hb2⟩; clear HB; have HB := nB2; clear nB2)))
      go_ret
      exact ⟨rfl, (by repeat (first | (with_reducible exact HB.out) | (with_reducible exact Below.refl _ _) | (with_reducible apply below_alloc) | (with_reducible apply pw_below_drewN) | (with_reducible apply below_drew1) | refine below_set ?_ (by omega)))⟩
    · have hN : isNameB s = false := by rw [isNameB, decide_eq_false h2, Bool.and_false]; rfl
      rw [hN]
      have hwe2 : ((s.extract 0 (wordEnd s 0)).toList == s.toList) = false := by rw [hwe, decide_eq_false h2]
      obtain ⟨x, hx⟩ : ∃ x, x = s.extract 0 (wordEnd s 0) := ⟨_, rfl⟩
      rw [← hx] at hwe2
      have hw2 := Aside0.mk (show ∀ w, Calls Tryd.prog 40 #[.agg #[.string s, .int .i64 (0 : Int)]] w fun e w' => e = .returned (.string x) ∧ Below w.heap.size w w' from fun w => by rw [hx]; exact hw.out w)
      clear h0 h1 h2 hwe hx hw hb0
      go_enter Tryd.func20, Tryd.ntmps20
      go_wp2_with (first | (go_at_call 40; go_loud ((with_reducible refine (hw2.out _).mono ?_); rintro e w1 ⟨rfl, hb1⟩; obtain ⟨hc1, hf1⟩ := bcell hb1; have nB1 : Aside0 (Below w.heap.size w w1) := ⟨below_step (by repeat (first | (with_reducible exact HB.out) | (with_reducible exact Below.refl _ _) | (with_reducible apply below_alloc) | (with_reducible apply pw_below_drewN) | (with_reducible apply below_drew1) | refine below_set ?_ (by omega))) hb1⟩; clear HB; have HB := nB1; clear nB1)))
      go_ret
      exact ⟨rfl, (by repeat (first | (with_reducible exact HB.out) | (with_reducible exact Below.refl _ _) | (with_reducible apply below_alloc) | (with_reducible apply pw_below_drewN) | (with_reducible apply below_drew1) | refine below_set ?_ (by omega)))⟩
  · have hd : decide ((s.size : Int) ≤ 24) = false := by simp; omega
    have hN : isNameB s = false := by rw [isNameB, decide_eq_false h1, Bool.and_false]; rfl
    rw [hN]
    clear h0 h1
    go_enter Tryd.func20, Tryd.ntmps20
    go_wp2
    go_ret
    exact ⟨rfl, by repeat (first | exact Below.refl _ _ | apply below_alloc | apply pw_below_drewN)⟩

set_option maxRecDepth 20000 in
theorem isUpper_calls (s : ByteArray) (hs : s.size ≤ 70000) (w : World) (hE : Env w) :
    Calls Tryd.prog 43 #[.string s] w fun e w' => e = .returned (.bool (isUpperB s)) ∧ Below w.heap.size w w' := by
  have HE := Aside0.mk hE
  have HB := Aside0.mk (Below.refl w.heap.size w)
  by_cases h : isNameB s = true
  · have hn := Aside0.mk (show ∀ w, Env w → Calls Tryd.prog 20 #[.string s] w fun e w' => e = .returned (.bool true) ∧ Below w.heap.size w w' from fun w hE => by rw [← h]; exact isName_calls s hs w hE)
    have h2 : 0 < s.size := by
      rw [isNameB] at h
      simp only [Bool.and_eq_true, decide_eq_true_eq] at h
      omega
    have hx : ((s[0]'h2).toNat : Int) = bt s 0 := by have := bt_at s 0 (by simpa using h2); simpa using this
    have q4 : ((0 : Int) < (s.size : Int)) = True := eq_true (by omega)
    have hU : isUpperB s = decide (bt s 0 ≤ 90) := by rw [isUpperB, h]; rfl
    rw [hU]
    clear h hU
    go_enter Tryd.func43, Tryd.ntmps43
    go_wp2_with (first | (go_at_call 20; go_loud ((with_reducible refine (hn.out _ (HE.out.below (by repeat (first | (with_reducible exact HB.out) | (with_reducible exact Below.refl _ _) | (with_reducible apply below_alloc) | (with_reducible apply pw_below_drewN) | (with_reducible apply below_drew1) | refine below_set ?_ (by omega))))).mono ?_); rintro e w1 ⟨rfl, hb1⟩; obtain ⟨hc1, hf1⟩ := bcell hb1; have nB1 : Aside0 (Below w.heap.size w w1) := ⟨below_step (by repeat (first | (with_reducible exact HB.out) | (with_reducible exact Below.refl _ _) | (with_reducible apply below_alloc) | (with_reducible apply pw_below_drewN) | (with_reducible apply below_drew1) | refine below_set ?_ (by omega))) hb1⟩; clear HB; have HB := nB1; clear nB1)))
    all_goals
      go_ret
      exact ⟨by first | rfl | simp [*], (by repeat (first | (with_reducible exact HB.out) | (with_reducible exact Below.refl _ _) | (with_reducible apply below_alloc) | (with_reducible apply pw_below_drewN) | (with_reducible apply below_drew1) | refine below_set ?_ (by omega)))⟩
  · have hn := Aside0.mk (show ∀ w, Env w → Calls Tryd.prog 20 #[.string s] w fun e w' => e = .returned (.bool false) ∧ Below w.heap.size w w' from fun w hE => by rw [← Bool.eq_false_iff.mpr h]; exact isName_calls s hs w hE)
    have hU : isUpperB s = false := by rw [isUpperB, Bool.eq_false_iff.mpr h]; rfl
    rw [hU]
    clear h hU
    go_enter Tryd.func43, Tryd.ntmps43
    go_wp2_with (first | (go_at_call 20; go_loud ((with_reducible refine (hn.out _ (HE.out.below (by repeat (first | (with_reducible exact HB.out) | (with_reducible exact Below.refl _ _) | (with_reducible apply below_alloc) | (with_reducible apply pw_below_drewN) | (with_reducible apply below_drew1) | refine below_set ?_ (by omega))))).mono ?_); rintro e w1 ⟨rfl, hb1⟩; obtain ⟨hc1, hf1⟩ := bcell hb1; have nB1 : Aside0 (Below w.heap.size w w1) := ⟨below_step (by repeat (first | (with_reducible exact HB.out) | (with_reducible exact Below.refl _ _) | (with_reducible apply below_alloc) | (with_reducible apply pw_below_drewN) | (with_reducible apply below_drew1) | refine below_set ?_ (by omega))) hb1⟩; clear HB; have HB := nB1; clear nB1)))
    go_ret
    exact ⟨rfl, (by repeat (first | (with_reducible exact HB.out) | (with_reducible exact Below.refl _ _) | (with_reducible apply below_alloc) | (with_reducible apply pw_below_drewN) | (with_reducible apply below_drew1) | refine below_set ?_ (by omega)))⟩

/-- Where two colons stand first, or -1. -/
def colIdx (s : ByteArray) : Int := Lib.index s.data.toList [58, 58]
def partsB (s : ByteArray) : ByteArray × ByteArray := if 0 ≤ colIdx s then (s.extract 0 (colIdx s).toNat, s.extract ((colIdx s).toNat + 2) s.size) else (⟨#[]⟩, s)

theorem cut_colons (s : ByteArray) : Lib.cut s.data.toList [58, 58] = (if 0 ≤ colIdx s then (s.extract 0 (colIdx s).toNat).data.toList else s.data.toList, if 0 ≤ colIdx s then (s.extract ((colIdx s).toNat + 2) s.size).data.toList else [], decide (0 ≤ colIdx s)) := by
  rw [Lib.cut]
  show (if 0 ≤ colIdx s then _ else _) = _
  by_cases h : 0 ≤ colIdx s
  · rw [if_pos h, if_pos h, if_pos h, decide_eq_true h, Lib.extract_data, Lib.extract_data, List.drop_zero, Nat.sub_zero, List.take_of_length_le (l := List.drop _ _) (by rw [List.length_drop, Lib.size_eq]; exact Nat.le_refl _)]
    rfl
  · rw [if_neg h, if_neg h, if_neg h, decide_eq_false h]

theorem ba_list (x : ByteArray) : (⟨x.data.toList.toArray⟩ : ByteArray) = x := by
  apply ba_ext; rfl

theorem cut_calls (s : ByteArray) (hs : s.size ≤ 70000) (w : World) (hE : Env w) :
    Calls Tryd.prog 69 #[.string s, .string ⟨#[58, 58]⟩] w fun e w' => (e = .returned (if 0 ≤ colIdx s then .tuple #[.string (partsB s).1, .string (partsB s).2, .bool true] else .tuple #[.string s, .string ⟨#[]⟩, .bool false])) ∧ Below w.heap.size w w' := by
  obtain ⟨m, hm⟩ := hE.mln
  refine (Tryd.strings_Cut s ⟨#[58, 58]⟩ m w (by omega) hm).mono ?_
  rintro e w' ⟨rfl, ⟨n, rfl⟩⟩
  refine ⟨?_, pw_below_drewN (Below.refl _ _) n⟩
  rw [show (⟨#[58, 58]⟩ : ByteArray).data.toList = [58, 58] from rfl, cut_colons, partsB]
  by_cases h : 0 ≤ colIdx s
  · simp only [if_pos h, ba_list, decide_eq_true h]
  · simp only [if_neg h, ba_list, decide_eq_false h]

set_option maxRecDepth 20000 in
theorem parts_calls (s : ByteArray) (hs : s.size ≤ 70000) (w : World) (hE : Env w) :
    Calls Tryd.prog 39 #[.string s] w fun e w' => e = .returned (.agg #[.string (partsB s).1, .string (partsB s).2]) ∧ Below w.heap.size w w' := by
  have HE := Aside0.mk hE
  have HB := Aside0.mk (Below.refl w.heap.size w)
  have hc := Aside0.mk (fun w hE => cut_calls s hs w hE)
  by_cases h : 0 ≤ colIdx s
  · simp only [if_pos h] at hc
    generalize (partsB s).1 = a at *
    generalize (partsB s).2 = b at *
    clear h
    go_enter Tryd.func39, Tryd.ntmps39
    go_wp2_with (first | (go_at_call 69; go_loud ((with_reducible refine (hc.out _ (HE.out.below (by repeat (first | (with_reducible exact HB.out) | (with_reducible exact Below.refl _ _) | (with_reducible apply below_alloc) | (with_reducible apply pw_below_drewN) | (with_reducible apply below_drew1) | refine below_set ?_ (by omega))))).mono ?_); rintro e w1 ⟨rfl, hb1⟩; obtain ⟨hc1, hf1⟩ := bcell hb1; have z1_0 : (w.heap.size) < w1.heap.size := Nat.lt_of_lt_of_le (by first | (with_reducible assumption) | omega | (simp only [World.size_alloc, World.size_setCell, World.size_drew, World.size_drewN]; omega) | (simp; omega) | (simp; done)) hb1.size; have nB1 : Aside0 (Below w.heap.size w w1) := ⟨below_step (by repeat (first | (with_reducible exact HB.out) | (with_reducible exact Below.refl _ _) | (with_reducible apply below_alloc) | (with_reducible apply pw_below_drewN) | (with_reducible apply below_drew1) | refine below_set ?_ (by omega))) hb1⟩; clear HB; have HB := nB1; clear nB1; have k0 : w1.cell? ⟨w.heap.size, 0, none⟩ = some (.string ⟨#[]⟩) := (hc1 w.heap.size 0 (by simp)).trans (by simp [go_sem]); have k1 : w1.cell? ⟨w.heap.size, 1, none⟩ = some (.string ⟨#[]⟩) := (hc1 w.heap.size 1 (by simp)).trans (by simp [go_sem]); have f0 : w1.frozen? ⟨w.heap.size, 0, none⟩ = false := (hf1 w.heap.size 0 (by simp)).trans (by simp [go_sem]); have f1 : w1.frozen? ⟨w.heap.size, 1, none⟩ = false := (hf1 w.heap.size 1 (by simp)).trans (by simp [go_sem]); clear hc1 hf1)))
    all_goals
      refine bodyPost_ret (v := .agg #[.string a, .string b]) (by simp [results, Tryd.results39, go_sem, *]; done) rfl ?_
      exact ⟨rfl, (by repeat (first | (with_reducible exact HB.out) | (with_reducible exact Below.refl _ _) | (with_reducible apply below_alloc) | (with_reducible apply pw_below_drewN) | (with_reducible apply below_drew1) | refine below_set ?_ (by omega)))⟩
  · simp only [if_neg h] at hc
    have hp : partsB s = (⟨#[]⟩, s) := by rw [partsB, if_neg h]
    rw [hp]
    clear h hp
    go_enter Tryd.func39, Tryd.ntmps39
    go_wp2_with (first | (go_at_call 69; go_loud ((with_reducible refine (hc.out _ (HE.out.below (by repeat (first | (with_reducible exact HB.out) | (with_reducible exact Below.refl _ _) | (with_reducible apply below_alloc) | (with_reducible apply pw_below_drewN) | (with_reducible apply below_drew1) | refine below_set ?_ (by omega))))).mono ?_); rintro e w1 ⟨rfl, hb1⟩; obtain ⟨hc1, hf1⟩ := bcell hb1; have z1_0 : (w.heap.size) < w1.heap.size := Nat.lt_of_lt_of_le (by first | (with_reducible assumption) | omega | (simp only [World.size_alloc, World.size_setCell, World.size_drew, World.size_drewN]; omega) | (simp; omega) | (simp; done)) hb1.size; have nB1 : Aside0 (Below w.heap.size w w1) := ⟨below_step (by repeat (first | (with_reducible exact HB.out) | (with_reducible exact Below.refl _ _) | (with_reducible apply below_alloc) | (with_reducible apply pw_below_drewN) | (with_reducible apply below_drew1) | refine below_set ?_ (by omega))) hb1⟩; clear HB; have HB := nB1; clear nB1; have k0 : w1.cell? ⟨w.heap.size, 0, none⟩ = some (.string ⟨#[]⟩) := (hc1 w.heap.size 0 (by simp)).trans (by simp [go_sem]); have k1 : w1.cell? ⟨w.heap.size, 1, none⟩ = some (.string ⟨#[]⟩) := (hc1 w.heap.size 1 (by simp)).trans (by simp [go_sem]); have f0 : w1.frozen? ⟨w.heap.size, 0, none⟩ = false := (hf1 w.heap.size 0 (by simp)).trans (by simp [go_sem]); have f1 : w1.frozen? ⟨w.heap.size, 1, none⟩ = false := (hf1 w.heap.size 1 (by simp)).trans (by simp [go_sem]); clear hc1 hf1)))
    all_goals
      refine bodyPost_ret (v := .agg #[.string ⟨#[]⟩, .string s]) (by simp [results, Tryd.results39, go_sem, *]; done) rfl ?_
      exact ⟨rfl, (by repeat (first | (with_reducible exact HB.out) | (with_reducible exact Below.refl _ _) | (with_reducible apply below_alloc) | (with_reducible apply pw_below_drewN) | (with_reducible apply below_drew1) | refine below_set ?_ (by omega)))⟩

/-- Two pairs of strings compared. -/
theorem eq74 (a b c d : ByteArray) (w : World) : (Op.equalIn 10000 74 (.agg #[.string a, .string b]) (.agg #[.string c, .string d])).run Tryd.prog w = .ok (a.toList == c.toList && b.toList == d.toList) w := by
  rw [show (10000 : Nat) = 9998 + 1 + 1 from rfl]
  have hs : (sizeOf 9).run Tryd.prog w = .ok 1 w := by kernel_rfl
  rw [Op.equalIn]
  simp only [Sem.run_bind, run_underlying Tryd.underlying74, Result.andThen_ok, hs]
  simp only [Std.Legacy.Range.forIn_eq_forIn_range', Std.Legacy.Range.size]
  simp [List.range', go_sem, part]
  by_cases h1 : a.toList = c.toList <;> by_cases h2 : b.toList = d.toList <;> simp [h1, h2]

/-- What IsGlobal says. -/
def isGlobalB (s : ByteArray) : Bool := if 0 ≤ colIdx s then isUpperB (partsB s).1 && isNameB (partsB s).2 else isNameB s

theorem colIdx_lt (s : ByteArray) (h : 0 ≤ colIdx s) : (colIdx s).toNat + 2 ≤ s.size := by
  have := Lib.index_room s.data.toList [58, 58] h
  have h2 : colIdx s = Lib.index s.data.toList [58, 58] := rfl
  rw [← h2] at this
  simp only [List.length_cons, List.length_nil] at this
  rw [Lib.size_eq]
  omega
theorem parts_size (s : ByteArray) : (partsB s).1.size ≤ s.size ∧ (partsB s).2.size ≤ s.size ∧ (0 ≤ colIdx s → (partsB s).2.size < s.size) := by
  rw [partsB]
  split
  · next h =>
    have := colIdx_lt s h
    refine ⟨by simp; omega, by simp, fun _ => by simp; omega⟩
  · next h => exact ⟨Nat.zero_le _, Nat.le_refl _, fun h2 => absurd h2 h⟩

set_option maxRecDepth 20000 in
theorem isGlobal_calls (s : ByteArray) (hs : s.size ≤ 70000) (w : World) (hE : Env w) :
    Calls Tryd.prog 22 #[.string s] w fun e w' => e = .returned (.bool (isGlobalB s)) ∧ Below w.heap.size w w' := by
  have HE := Aside0.mk hE
  have HB := Aside0.mk (Below.refl w.heap.size w)
  have hp := Aside0.mk (fun w hE => parts_calls s hs w hE)
  obtain ⟨z1, z2, z3⟩ := parts_size s
  by_cases h : 0 ≤ colIdx s
  · have hn := z3 h
    have hne : ((partsB s).2.toList == s.toList) = false := by
      rw [beq_eq_false_iff_ne]; intro q; rw [toList_inj] at q; rw [q] at hn; omega
    have hG : isGlobalB s = (isUpperB (partsB s).1 && isNameB (partsB s).2) := by rw [isGlobalB, if_pos h]
    rw [hG]
    have heq : ∀ w, (Op.equalIn 10000 74 (.agg #[.string (partsB s).1, .string (partsB s).2]) (.agg #[.string ⟨#[]⟩, .string s])).run Tryd.prog w = .ok false w := fun w => by rw [eq74, hne, Bool.and_false]
    have hU := Aside0.mk (fun w hE => isUpper_calls (partsB s).1 (by omega) w hE)
    have hN := Aside0.mk (fun w hE => isName_calls (partsB s).2 (by omega) w hE)
    generalize (partsB s).1 = a at *
    generalize (partsB s).2 = b at *
    clear h hn hG z1 z2 z3
    cases hu : isUpperB a
    · go_enter Tryd.func22, Tryd.ntmps22
      go_wp2_with (first | (go_at_call 39; go_loud ((with_reducible refine (hp.out _ (HE.out.below (by repeat (first | (with_reducible exact HB.out) | (with_reducible exact Below.refl _ _) | (with_reducible apply below_alloc) | (with_reducible apply pw_below_drewN) | (with_reducible apply below_drew1) | refine below_set ?_ (by omega))))).mono ?_); rintro e w1 ⟨rfl, hb1⟩; obtain ⟨hc1, hf1⟩ := bcell hb1; have nB1 : Aside0 (Below w.heap.size w w1) := ⟨below_step (by repeat (first | (with_reducible exact HB.out) | (with_reducible exact Below.refl _ _) | (with_reducible apply below_alloc) | (with_reducible apply pw_below_drewN) | (with_reducible apply below_drew1) | refine below_set ?_ (by omega))) hb1⟩; clear HB; have HB := nB1; clear nB1; have z1_0 := hb1.size)) | (go_at_call 43; go_loud ((with_reducible refine (hU.out _ (HE.out.below (by repeat (first | (with_reducible exact HB.out) | (with_reducible exact Below.refl _ _) | (with_reducible apply below_alloc) | (with_reducible apply pw_below_drewN) | (with_reducible apply below_drew1) | refine below_set ?_ (by omega))))).mono ?_); rintro e w2 ⟨rfl, hb2⟩; obtain ⟨hc2, hf2⟩ := bcell hb2; have z2_0 : (w1.heap.size) < w2.heap.size := Nat.lt_of_lt_of_le (by first | (with_reducible assumption) | omega | (simp only [World.size_alloc, World.size_setCell, World.size_drew, World.size_drewN]; omega) | (simp; omega) | (simp; done)) hb2.size; have nB2 : Aside0 (Below w.heap.size w w2) := ⟨below_step (by repeat (first | (with_reducible exact HB.out) | (with_reducible exact Below.refl _ _) | (with_reducible apply below_alloc) | (with_reducible apply pw_below_drewN) | (with_reducible apply below_drew1) | refine below_set ?_ (by omega))) hb2⟩; clear HB; have HB := nB2; clear nB2)))
      go_ret
      exact ⟨rfl, (by repeat (first | (with_reducible exact HB.out) | (with_reducible exact Below.refl _ _) | (with_reducible apply below_alloc) | (with_reducible apply pw_below_drewN) | (with_reducible apply below_drew1) | refine below_set ?_ (by omega)))⟩
    · go_enter Tryd.func22, Tryd.ntmps22
      go_wp2_with (first | (go_at_call 39; go_loud ((with_reducible refine (hp.out _ (HE.out.below (by repeat (first | (with_reducible exact HB.out) | (with_reducible exact Below.refl _ _) | (with_reducible apply below_alloc) | (with_reducible apply pw_below_drewN) | (with_reducible apply below_drew1) | refine below_set ?_ (by omega))))).mono ?_); rintro e w1 ⟨rfl, hb1⟩; obtain ⟨hc1, hf1⟩ := bcell hb1; have nB1 : Aside0 (Below w.heap.size w w1) := ⟨below_step (by repeat (first | (with_reducible exact HB.out) | (with_reducible exact Below.refl _ _) | (with_reducible apply below_alloc) | (with_reducible apply pw_below_drewN) | (with_reducible apply below_drew1) | refine below_set ?_ (by omega))) hb1⟩; clear HB; have HB := nB1; clear nB1; have z1_0 := hb1.size)) | (go_at_call 43; go_loud ((with_reducible refine (hU.out _ (HE.out.below (by repeat (first | (with_reducible exact HB.out) | (with_reducible exact Below.refl _ _) | (with_reducible apply below_alloc) | (with_reducible apply pw_below_drewN) | (with_reducible apply below_drew1) | refine below_set ?_ (by omega))))).mono ?_); rintro e w2 ⟨rfl, hb2⟩; obtain ⟨hc2, hf2⟩ := bcell hb2; have z2_0 : (w1.heap.size) < w2.heap.size := Nat.lt_of_lt_of_le (by first | (with_reducible assumption) | omega | (simp only [World.size_alloc, World.size_setCell, World.size_drew, World.size_drewN]; omega) | (simp; omega) | (simp; done)) hb2.size; have nB2 : Aside0 (Below w.heap.size w w2) := ⟨below_step (by repeat (first | (with_reducible exact HB.out) | (with_reducible exact Below.refl _ _) | (with_reducible apply below_alloc) | (with_reducible apply pw_below_drewN) | (with_reducible apply below_drew1) | refine below_set ?_ (by omega))) hb2⟩; clear HB; have HB := nB2; clear nB2)) | (go_at_call 20; go_loud ((with_reducible refine (hN.out _ (HE.out.below (by repeat (first | (with_reducible exact HB.out) | (with_reducible exact Below.refl _ _) | (with_reducible apply below_alloc) | (with_reducible apply pw_below_drewN) | (with_reducible apply below_drew1) | refine below_set ?_ (by omega))))).mono ?_); rintro e w3 ⟨rfl, hb3⟩; obtain ⟨hc3, hf3⟩ := bcell hb3; have z3_0 : (w1.heap.size) < w3.heap.size := Nat.lt_of_lt_of_le (by first | (with_reducible assumption) | omega | (simp only [World.size_alloc, World.size_setCell, World.size_drew, World.size_drewN]; omega) | (simp; omega) | (simp; done)) hb3.size; have nB3 : Aside0 (Below w.heap.size w w3) := ⟨below_step (by repeat (first | (with_reducible exact HB.out) | (with_reducible exact Below.refl _ _) | (with_reducible apply below_alloc) | (with_reducible apply pw_below_drewN) | (with_reducible apply below_drew1) | refine below_set ?_ (by omega))) hb3⟩; clear HB; have HB := nB3; clear nB3)))
      go_ret
      exact ⟨rfl, (by repeat (first | (with_reducible exact HB.out) | (with_reducible exact Below.refl _ _) | (with_reducible apply below_alloc) | (with_reducible apply pw_below_drewN) | (with_reducible apply below_drew1) | refine below_set ?_ (by omega)))⟩
  · have hq : partsB s = (⟨#[]⟩, s) := by rw [partsB, if_neg h]
    have hG : isGlobalB s = isNameB s := by rw [isGlobalB, if_neg h]
    rw [hG]
    rw [hq] at hp
    have hN := Aside0.mk (fun w hE => isName_calls s hs w hE)
    have heq : ∀ w, (Op.equalIn 10000 74 (.agg #[.string ⟨#[]⟩, .string s]) (.agg #[.string ⟨#[]⟩, .string s])).run Tryd.prog w = .ok true w := fun w => by rw [eq74]; simp
    clear h hq hG z1 z2 z3
    go_enter Tryd.func22, Tryd.ntmps22
    go_wp2_with (first | (go_at_call 39; go_loud ((with_reducible refine (hp.out _ (HE.out.below (by repeat (first | (with_reducible exact HB.out) | (with_reducible exact Below.refl _ _) | (with_reducible apply below_alloc) | (with_reducible apply pw_below_drewN) | (with_reducible apply below_drew1) | refine below_set ?_ (by omega))))).mono ?_); rintro e w1 ⟨rfl, hb1⟩; obtain ⟨hc1, hf1⟩ := bcell hb1; have nB1 : Aside0 (Below w.heap.size w w1) := ⟨below_step (by repeat (first | (with_reducible exact HB.out) | (with_reducible exact Below.refl _ _) | (with_reducible apply below_alloc) | (with_reducible apply pw_below_drewN) | (with_reducible apply below_drew1) | refine below_set ?_ (by omega))) hb1⟩; clear HB; have HB := nB1; clear nB1; have z1_0 := hb1.size)) | (go_at_call 20; go_loud ((with_reducible refine (hN.out _ (HE.out.below (by repeat (first | (with_reducible exact HB.out) | (with_reducible exact Below.refl _ _) | (with_reducible apply below_alloc) | (with_reducible apply pw_below_drewN) | (with_reducible apply below_drew1) | refine below_set ?_ (by omega))))).mono ?_); rintro e w3 ⟨rfl, hb3⟩; obtain ⟨hc3, hf3⟩ := bcell hb3; have z3_0 : (w1.heap.size) < w3.heap.size := Nat.lt_of_lt_of_le (by first | (with_reducible assumption) | omega | (simp only [World.size_alloc, World.size_setCell, World.size_drew, World.size_drewN]; omega) | (simp; omega) | (simp; done)) hb3.size; have nB3 : Aside0 (Below w.heap.size w w3) := ⟨below_step (by repeat (first | (with_reducible exact HB.out) | (with_reducible exact Below.refl _ _) | (with_reducible apply below_alloc) | (with_reducible apply pw_below_drewN) | (with_reducible apply below_drew1) | refine below_set ?_ (by omega))) hb3⟩; clear HB; have HB := nB3; clear nB3)))
    go_ret
    exact ⟨rfl, (by repeat (first | (with_reducible exact HB.out) | (with_reducible exact Below.refl _ _) | (with_reducible apply below_alloc) | (with_reducible apply pw_below_drewN) | (with_reducible apply below_drew1) | refine below_set ?_ (by omega)))⟩

/-- What Split hands back. -/
def splitB (s : ByteArray) : ByteArray × ByteArray × Int := if isGlobalB s = true then ((partsB s).1, (partsB s).2, 0) else (⟨#[]⟩, ⟨#[]⟩, 6)

set_option maxRecDepth 20000 in
theorem split_calls (s : ByteArray) (hs : s.size ≤ 70000) (w : World) (hE : Env w) :
    Calls Tryd.prog 19 #[.string s] w fun e w' => e = .returned (.tuple #[.string (splitB s).1, .string (splitB s).2.1, .int .i64 (splitB s).2.2]) ∧ Below w.heap.size w w' := by
  have HE := Aside0.mk hE
  have HB := Aside0.mk (Below.refl w.heap.size w)
  have hp := Aside0.mk (fun w hE => parts_calls s hs w hE)
  have hg := Aside0.mk (fun w hE => isGlobal_calls s hs w hE)
  cases h : isGlobalB s
  · have hG : splitB s = (⟨#[]⟩, ⟨#[]⟩, 6) := by rw [splitB, h]; rfl
    rw [hG]
    rw [h] at hg
    go_enter Tryd.func19, Tryd.ntmps19
    go_wp2_with (first | (go_at_call 22; go_loud ((with_reducible refine (hg.out _ (HE.out.below (by repeat (first | (with_reducible exact HB.out) | (with_reducible exact Below.refl _ _) | (with_reducible apply below_alloc) | (with_reducible apply pw_below_drewN) | (with_reducible apply below_drew1) | refine below_set ?_ (by omega))))).mono ?_); rintro e w1 ⟨rfl, hb1⟩; obtain ⟨hc1, hf1⟩ := bcell hb1; have nB1 : Aside0 (Below w.heap.size w w1) := ⟨below_step (by repeat (first | (with_reducible exact HB.out) | (with_reducible exact Below.refl _ _) | (with_reducible apply below_alloc) | (with_reducible apply pw_below_drewN) | (with_reducible apply below_drew1) | refine below_set ?_ (by omega))) hb1⟩; clear HB; have HB := nB1; clear nB1)))
    go_returns
    exact ⟨rfl, (by repeat (first | (with_reducible exact HB.out) | (with_reducible exact Below.refl _ _) | (with_reducible apply below_alloc) | (with_reducible apply pw_below_drewN) | (with_reducible apply below_drew1) | refine below_set ?_ (by omega)))⟩
  · have hG : splitB s = ((partsB s).1, (partsB s).2, 0) := by rw [splitB, h]; rfl
    rw [hG]
    rw [h] at hg
    generalize (partsB s).1 = a at *
    generalize (partsB s).2 = b at *
    go_enter Tryd.func19, Tryd.ntmps19
    go_wp2_with (first | (go_at_call 22; go_loud ((with_reducible refine (hg.out _ (HE.out.below (by repeat (first | (with_reducible exact HB.out) | (with_reducible exact Below.refl _ _) | (with_reducible apply below_alloc) | (with_reducible apply pw_below_drewN) | (with_reducible apply below_drew1) | refine below_set ?_ (by omega))))).mono ?_); rintro e w1 ⟨rfl, hb1⟩; obtain ⟨hc1, hf1⟩ := bcell hb1; have nB1 : Aside0 (Below w.heap.size w w1) := ⟨below_step (by repeat (first | (with_reducible exact HB.out) | (with_reducible exact Below.refl _ _) | (with_reducible apply below_alloc) | (with_reducible apply pw_below_drewN) | (with_reducible apply below_drew1) | refine below_set ?_ (by omega))) hb1⟩; clear HB; have HB := nB1; clear nB1)) | (go_at_call 39; go_loud ((with_reducible refine (hp.out _ (HE.out.below (by repeat (first | (with_reducible exact HB.out) | (with_reducible exact Below.refl _ _) | (with_reducible apply below_alloc) | (with_reducible apply pw_below_drewN) | (with_reducible apply below_drew1) | refine below_set ?_ (by omega))))).mono ?_); rintro e w2 ⟨rfl, hb2⟩; obtain ⟨hc2, hf2⟩ := bcell hb2; have nB2 : Aside0 (Below w.heap.size w w2) := ⟨below_step (by repeat (first | (with_reducible exact HB.out) | (with_reducible exact Below.refl _ _) | (with_reducible apply below_alloc) | (with_reducible apply pw_below_drewN) | (with_reducible apply below_drew1) | refine below_set ?_ (by omega))) hb2⟩; clear HB; have HB := nB2; clear nB2; have z2_0 := hb2.size)))
    go_quiet (fail)
    all_goals
      try go_wp2
      go_returns
      exact ⟨rfl, (by repeat (first | (with_reducible exact HB.out) | (with_reducible exact Below.refl _ _) | (with_reducible apply below_alloc) | (with_reducible apply pw_below_drewN) | (with_reducible apply below_drew1) | refine below_set ?_ (by omega)))⟩
end Go.Proofs.YtmnnhbikdgpedaaDoor.Lx
