import Derived.Test.YtillgofjlpjbcaaGreatDoorG10
set_option linter.unusedVariables false
section
/- Numbers by their strings: calls at strings of integers. -/
namespace Go.Proofs.YtillgofjlpjbcaaGreatDoor.Nm
open Go.RowKit Go.Shelf Go.Lib Go.Proofs.YtillgofjlpjbcaaGreatDoorW.PrintWords Go.Proofs.YtillgofjlpjbcaaGreatDoorW.PrintLast Go.Proofs.YtillgofjlpjbcaaGreatDoorW.PrintMore
set_option linter.unusedVariables false
set_option linter.unusedSimpArgs false

theorem beqL (a b : ByteArray) : (a.toList == b.toList) = decide (a = b) := by
  rw [Lib.toList_data, Lib.toList_data, Bool.eq_iff_iff]
  simp only [beq_iff_eq, decide_eq_true_eq]
  constructor
  · intro h
    apply ByteArray.ext
    exact Array.toList_inj.1 h
  · intro h
    rw [h]
theorem beq_iff {a b : ByteArray} {m : Int} (h : a = b ↔ m = 0) : (a.toList == b.toList) = (m == 0) := by
  rw [beqL, Bool.eq_iff_iff]
  simpa using h
theorem beq_no {a : ByteArray} {l : List UInt8} {b : ByteArray} (hl : b.data.toList = l) (h : a ≠ b) : (a.toList == l) = false := by rw [← hl, ← Lib.toList_data b, beqL]; simp [h]
theorem d1 : ∀ k : Nat, Dig (k + 1) 1 := fun k => by unfold Dig; exact Nat.one_lt_pow (by omega) (by decide)
theorem d0 : ∀ k : Nat, Dig k 0 := fun k => by unfold Dig; exact (show 0 < 10 ^ k by first | exact Nat.pow_pos (by decide) | exact Nat.pos_pow_of_pos k (by decide) | exact Nat.one_le_pow k 10 (by decide))
theorem check_head {s : ByteArray} (h : checkI s = 0) : (bodyB s).data.toList.head? = some 48 → minusB s = false ∧ (bodyB s).data.toList.length = 1 := by
  intro h1
  have h0 := list_of h
  unfold checkI at h
  split at h
  · omega
  · split at h
    · omega
    · rename_i h2
      have e : (bodyB s).data.toList.length = (bodyB s).size := by simp
      have h3 : ¬ (minusB s = true ∨ 1 < (bodyB s).size) := fun h3 => h2 ⟨h1, h3⟩
      refine ⟨?_, ?_⟩
      · cases hm : minusB s
        · rfl
        · exact absurd (.inl hm) h3
      · have h4 : (bodyB s).data.toList.length ≠ 0 := fun h5 => h0.2.1 (List.length_eq_zero_iff.1 h5)
        have h6 : ¬ 1 < (bodyB s).size := fun h6 => h3 (.inr h6)
        omega
theorem strI_intI {s : ByteArray} (h : checkI s = 0) : strI (intI s) = s := by
  obtain ⟨h1, h2, h3⟩ := list_of h
  have hd := dec_dv _ h1 h2 (fun e => (check_head h e).2)
  have key : Lib.itoa (intI s) = s.data.toList := by
    rw [itoa_abs, h3]
    cases hm : minusB s
    · have e : intI s = dv (bodyB s).data.toList := by unfold intI; rw [if_neg (by simp [hm])]
      rw [e, if_neg (by omega), show ((dv (bodyB s).data.toList : Nat) : Int).natAbs = dv (bodyB s).data.toList from rfl, hd]
      simp
    · have e : intI s = -(dv (bodyB s).data.toList : Int) := by unfold intI; rw [if_pos hm]
      have hn := minus_neg h hm
      rw [if_pos hn, e, Int.natAbs_neg, show ((dv (bodyB s).data.toList : Nat) : Int).natAbs = dv (bodyB s).data.toList from rfl, hd]
      simp
  unfold strI
  rw [key]
theorem strI_inj {x y : Int} (hx : Dig 120 x) (hy : Dig 120 y) (h : strI x = strI y) : x = y := by
  rw [← (strI_check hx).2, h, (strI_check hy).2]
theorem biE_str {x y : Int} (hx : Dig 120 x) (hy : Dig 120 y) : biE (strI x) (strI y) = 0 := by
  unfold biE
  rw [(strI_check hx).1, (strI_check hy).1]; rfl
theorem bi_str {x y z : Int} {of : Int → Int → Int} (hx : Dig 120 x) (hy : Dig 120 y) (hz : of x y = z) (hd : Dig 120 z) : biS of (strI x) (strI y) = strI z ∧ biR of (strI x) (strI y) = 0 := by
  unfold biS biR
  rw [if_pos (biE_str hx hy), if_pos (biE_str hx hy), (strI_check hx).2, (strI_check hy).2, hz, (wr_dig hd).1, (wr_dig hd).2]
  exact ⟨rfl, rfl⟩
theorem str_size {x : Int} (hx : Dig 120 x) : (strI x).size ≤ 90000 := by have := strI_size hx; omega
theorem add_str {x y z : Int} (hx : Dig 120 x) (hy : Dig 120 y) (hz : x + y = z) (hd : Dig 120 z) (w : World) (hE : EN w) :
    Calls Tryz.prog 21 #[.string (strI x), .string (strI y)] w fun e w' => e = .returned (.tuple #[.string (strI z), .int .i64 0]) ∧ Below w.heap.size w w' := by
  have h := addN_calls (strI x) (strI y) (str_size hx) (str_size hy) w hE.tens
  obtain ⟨h1, h2⟩ := bi_str (of := fun x y => x + y) hx hy hz hd
  rwa [h1, h2] at h
theorem sub_str {x y z : Int} (hx : Dig 120 x) (hy : Dig 120 y) (hz : x - y = z) (hd : Dig 120 z) (w : World) (hE : EN w) :
    Calls Tryz.prog 23 #[.string (strI x), .string (strI y)] w fun e w' => e = .returned (.tuple #[.string (strI z), .int .i64 0]) ∧ Below w.heap.size w w' := by
  have h := subN_calls (strI x) (strI y) (str_size hx) (str_size hy) w hE.tens
  obtain ⟨h1, h2⟩ := bi_str (of := fun x y => x - y) hx hy hz hd
  rwa [h1, h2] at h
theorem mul_str {x y z : Int} (hx : Dig 120 x) (hy : Dig 120 y) (hz : x * y = z) (hd : Dig 120 z) (w : World) (hE : EN w) :
    Calls Tryz.prog 25 #[.string (strI x), .string (strI y)] w fun e w' => e = .returned (.tuple #[.string (strI z), .int .i64 0]) ∧ Below w.heap.size w w' := by
  have h := mulN_calls (strI x) (strI y) (str_size hx) (str_size hy) w hE.tens
  obtain ⟨h1, h2⟩ := bi_str (of := fun x y => x * y) hx hy hz hd
  rwa [h1, h2] at h
theorem cmp_str {x y m : Int} (hx : Dig 120 x) (hy : Dig 120 y) (hm : cmpI x y = m) (w : World) (hE : EN w) :
    Calls Tryz.prog 29 #[.string (strI x), .string (strI y)] w fun e w' => e = .returned (.tuple #[.int .i64 m, .int .i64 0]) ∧ Below w.heap.size w w' := by
  have h := compareN_calls (strI x) (strI y) (str_size hx) (str_size hy) w
  unfold cmpN at h
  rw [biE_str hx hy, if_pos rfl, (strI_check hx).2, (strI_check hy).2, hm] at h
  exact h
theorem div_str {x y q r : Int} (hx : Dig 120 x) (hy : Dig 120 y) (h0 : y ≠ 0) (hq : x / y = q) (hr : x % y = r) (w : World) (hE : EN w) :
    Calls Tryz.prog 27 #[.string (strI x), .string (strI y)] w fun e w' => e = .returned (.tuple #[.string (strI q), .string (strI r), .int .i64 0]) ∧ Below w.heap.size w w' := by
  have h := divMod_calls (strI x) (strI y) (str_size hx) (str_size hy) w hE.tens
  have hd : divE (strI x) (strI y) = 0 := by unfold divE; rw [biE_str hx hy, if_pos rfl, (strI_check hy).2, if_neg h0]
  have h1 : dmS (fun x y => x / y) (strI x) (strI y) = strI q := by unfold dmS; rw [if_pos hd, (strI_check hx).2, (strI_check hy).2, ← hq]
  have h2 : dmS (fun x y => x % y) (strI x) (strI y) = strI r := by unfold dmS; rw [if_pos hd, (strI_check hx).2, (strI_check hy).2, ← hr]
  rwa [h1, h2, hd] at h
theorem Dig.emod {k : Nat} {x y : Int} (hy : Dig k y) (h0 : y ≠ 0) : Dig k (x % y) := by
  unfold Dig at *
  have h1 := Int.emod_nonneg x h0
  have h2 := Int.emod_lt x h0
  omega
theorem abs_str (y : Int) (w : World) : Calls Tryz.prog 50 #[.string (strI y), .string ⟨#[45]⟩] w fun e w' => e = .returned (.string (strI (y.natAbs : Int))) ∧ w' = w := by
  rw [strI_nat]
  exact trim_str y w
theorem cmp_neg (x y : Int) : cmpI y x = -(cmpI x y) := by
  unfold cmpI
  split <;> (try split) <;> (try split) <;> omega
theorem cmp_add (x y z : Int) : cmpI (x + z) (y + z) = cmpI x y := by
  unfold cmpI
  split <;> (try split) <;> (try split) <;> omega
theorem cmp_bound (x y : Int) : -1 ≤ cmpI x y ∧ cmpI x y ≤ 1 := by
  unfold cmpI
  split
  · omega
  · split <;> omega
theorem cmp_zero {x y : Int} : cmpI x y = 0 ↔ x = y := by
  unfold cmpI
  split
  · omega
  · split <;> omega
theorem intI_digs {s : ByteArray} {n : Nat} (h : checkI s = 0) (hn : s.size ≤ n) : Dig n (intI s) := by
  obtain ⟨h1, h2⟩ := check_ok h
  unfold Dig
  rw [intI_abs]
  have hd : DG (bodyB s).data.toList := isDig_of (by unfold digitsB at h1; simp only [Bool.and_eq_true] at h1; exact h1.1)
  refine Nat.lt_of_lt_of_le (dv_lt _ hd) (Nat.pow_le_pow_right (by decide) ?_)
  have : (bodyB s).data.toList.length = (bodyB s).size := by simp
  have := bodyB_size s
  omega
end Go.Proofs.YtillgofjlpjbcaaGreatDoor.Nm
end
section
/- The law NumRing walked. (Printed by genRing.py.) -/
namespace Go.Proofs.YtillgofjlpjbcaaGreatDoor.Nm
open Go.RowKit Go.Shelf Go.Lib Go.Proofs.YtillgofjlpjbcaaGreatDoorW.PrintWords Go.Proofs.YtillgofjlpjbcaaGreatDoorW.PrintLast Go.Proofs.YtillgofjlpjbcaaGreatDoorW.PrintMore
set_option linter.unusedVariables false
set_option linter.unusedSimpArgs false

set_option maxRecDepth 1000000 in
set_option maxHeartbeats 8000000 in
theorem ring_long (a b c : ByteArray) (h : 41 < a.size ∨ (¬ 41 < a.size ∧ 41 < b.size) ∨ (¬ 41 < a.size ∧ ¬ 41 < b.size ∧ 41 < c.size)) (w : World) (hE : EN w) :
    Calls Tryz.prog 7 #[.string a, .string b, .string c] w fun e w' => e = .returned (.bool true) ∧ Below w.heap.size w w' := by
  have HA : Aside0 (∀ W, Below w.heap.size w W → Calls Tryz.prog 10 #[] W fun e w' => e = .returned (.bool true) ∧ Below W.heap.size W w') := ⟨fun W hb => awake_calls W (hE.below hb)⟩
  clear hE
  rcases h with h | ⟨h1, h⟩ | ⟨h1, h2, h⟩
  · have e1 : decide ((41 : Int) < (a.size : Int)) = true := decide_eq_true (by omega)
    have e1' : decide (41 < a.size) = true := decide_eq_true h
    clear h
    have HC := Aside0.mk (Below.refl w.heap.size w)
    go_enter Tryz.func7, Tryz.ntmps7
    go_wp2_with (first | (go_at_call 10; (with_reducible refine (HA.out _ HC.out).mono ?_); rintro e wx ⟨rfl, hbx⟩; have HC2 := Aside0.mk (HC.out.trans (hbx.mono HC.out.size)); clear HC; have HC := HC2; clear HC2 hbx))
    go_ret
    exact ⟨rfl, HC.out⟩
  · have e1 : decide ((41 : Int) < (a.size : Int)) = false := decide_eq_false (by omega)
    have e2 : decide ((41 : Int) < (b.size : Int)) = true := decide_eq_true (by omega)
    clear h h1
    have HC := Aside0.mk (Below.refl w.heap.size w)
    go_enter Tryz.func7, Tryz.ntmps7
    go_wp2_with (first | (go_at_call 10; (with_reducible refine (HA.out _ HC.out).mono ?_); rintro e wx ⟨rfl, hbx⟩; have HC2 := Aside0.mk (HC.out.trans (hbx.mono HC.out.size)); clear HC; have HC := HC2; clear HC2 hbx))
    go_ret
    exact ⟨rfl, HC.out⟩
  · have e1 : decide ((41 : Int) < (a.size : Int)) = false := decide_eq_false (by omega)
    have e2 : decide ((41 : Int) < (b.size : Int)) = false := decide_eq_false (by omega)
    have e3 : decide ((41 : Int) < (c.size : Int)) = true := decide_eq_true (by omega)
    clear h h1 h2
    have HC := Aside0.mk (Below.refl w.heap.size w)
    go_enter Tryz.func7, Tryz.ntmps7
    go_wp2_with (first | (go_at_call 10; (with_reducible refine (HA.out _ HC.out).mono ?_); rintro e wx ⟨rfl, hbx⟩; have HC2 := Aside0.mk (HC.out.trans (hbx.mono HC.out.size)); clear HC; have HC := HC2; clear HC2 hbx))
    go_ret
    exact ⟨rfl, HC.out⟩
set_option maxRecDepth 1000000 in
set_option maxHeartbeats 8000000 in
theorem ring_wrong (a b c : ByteArray) (ha : a.size ≤ 41) (hb : b.size ≤ 41) (hc : c.size ≤ 41) (h : checkI a ≠ 0 ∨ (checkI a = 0 ∧ checkI b ≠ 0) ∨ (checkI a = 0 ∧ checkI b = 0 ∧ checkI c ≠ 0)) (w : World) (hE : EN w) :
    Calls Tryz.prog 7 #[.string a, .string b, .string c] w fun e w' => e = .returned (.bool true) ∧ Below w.heap.size w w' := by
  have HA : Aside0 (∀ W, Below w.heap.size w W → Calls Tryz.prog 10 #[] W fun e w' => e = .returned (.bool true) ∧ Below W.heap.size W w') := ⟨fun W hb => awake_calls W (hE.below hb)⟩
  have HKa := Aside0.mk (check_calls a (by omega))
  have HKb := Aside0.mk (check_calls b (by omega))
  have HKc := Aside0.mk (check_calls c (by omega))
  clear hE
  have e1 : decide ((41 : Int) < (a.size : Int)) = false := decide_eq_false (by omega)
  have e2 : decide ((41 : Int) < (b.size : Int)) = false := decide_eq_false (by omega)
  have e3 : decide ((41 : Int) < (c.size : Int)) = false := decide_eq_false (by omega)
  generalize checkI a = ca at *
  generalize checkI b = cb at *
  generalize checkI c = cc at *
  rcases h with h | ⟨h1, h⟩ | ⟨h1, h2, h⟩
  · have e4 : (ca != 0) = true := by simp [h]
    clear h
    have HC := Aside0.mk (Below.refl w.heap.size w)
    go_enter Tryz.func7, Tryz.ntmps7
    go_wp2_with (first | (go_at_call 10; (with_reducible refine (HA.out _ HC.out).mono ?_); rintro e wx ⟨rfl, hbx⟩; have HC2 := Aside0.mk (HC.out.trans (hbx.mono HC.out.size)); clear HC; have HC := HC2; clear HC2 hbx) | (go_at_call 12; (with_reducible refine (HKa.out _).mono ?_); rintro e wx ⟨rfl, hbx⟩; have HC2 := Aside0.mk (HC.out.trans (hbx.mono HC.out.size)); clear HC; have HC := HC2; clear HC2 hbx) | (go_at_call 12; (with_reducible refine (HKb.out _).mono ?_); rintro e wx ⟨rfl, hbx⟩; have HC2 := Aside0.mk (HC.out.trans (hbx.mono HC.out.size)); clear HC; have HC := HC2; clear HC2 hbx) | (go_at_call 12; (with_reducible refine (HKc.out _).mono ?_); rintro e wx ⟨rfl, hbx⟩; have HC2 := Aside0.mk (HC.out.trans (hbx.mono HC.out.size)); clear HC; have HC := HC2; clear HC2 hbx))
    go_ret
    exact ⟨rfl, HC.out⟩
  · subst h1
    have e4 : (cb != 0) = true := by simp [h]
    clear h
    have HC := Aside0.mk (Below.refl w.heap.size w)
    go_enter Tryz.func7, Tryz.ntmps7
    go_wp2_with (first | (go_at_call 10; (with_reducible refine (HA.out _ HC.out).mono ?_); rintro e wx ⟨rfl, hbx⟩; have HC2 := Aside0.mk (HC.out.trans (hbx.mono HC.out.size)); clear HC; have HC := HC2; clear HC2 hbx) | (go_at_call 12; (with_reducible refine (HKa.out _).mono ?_); rintro e wx ⟨rfl, hbx⟩; have HC2 := Aside0.mk (HC.out.trans (hbx.mono HC.out.size)); clear HC; have HC := HC2; clear HC2 hbx) | (go_at_call 12; (with_reducible refine (HKb.out _).mono ?_); rintro e wx ⟨rfl, hbx⟩; have HC2 := Aside0.mk (HC.out.trans (hbx.mono HC.out.size)); clear HC; have HC := HC2; clear HC2 hbx) | (go_at_call 12; (with_reducible refine (HKc.out _).mono ?_); rintro e wx ⟨rfl, hbx⟩; have HC2 := Aside0.mk (HC.out.trans (hbx.mono HC.out.size)); clear HC; have HC := HC2; clear HC2 hbx))
    go_ret
    exact ⟨rfl, HC.out⟩
  · subst h1 h2
    have e4 : (cc != 0) = true := by simp [h]
    clear h
    have HC := Aside0.mk (Below.refl w.heap.size w)
    go_enter Tryz.func7, Tryz.ntmps7
    go_wp2_with (first | (go_at_call 10; (with_reducible refine (HA.out _ HC.out).mono ?_); rintro e wx ⟨rfl, hbx⟩; have HC2 := Aside0.mk (HC.out.trans (hbx.mono HC.out.size)); clear HC; have HC := HC2; clear HC2 hbx) | (go_at_call 12; (with_reducible refine (HKa.out _).mono ?_); rintro e wx ⟨rfl, hbx⟩; have HC2 := Aside0.mk (HC.out.trans (hbx.mono HC.out.size)); clear HC; have HC := HC2; clear HC2 hbx) | (go_at_call 12; (with_reducible refine (HKb.out _).mono ?_); rintro e wx ⟨rfl, hbx⟩; have HC2 := Aside0.mk (HC.out.trans (hbx.mono HC.out.size)); clear HC; have HC := HC2; clear HC2 hbx) | (go_at_call 12; (with_reducible refine (HKc.out _).mono ?_); rintro e wx ⟨rfl, hbx⟩; have HC2 := Aside0.mk (HC.out.trans (hbx.mono HC.out.size)); clear HC; have HC := HC2; clear HC2 hbx))
    go_ret
    exact ⟨rfl, HC.out⟩
set_option maxRecDepth 1000000 in
set_option maxHeartbeats 16000000 in
theorem ring_zero (x y z : Int) (hx : Dig 41 x) (hy : Dig 41 y) (hz : Dig 41 z) (h1 : (strI x).size ≤ 41) (h2 : (strI y).size ≤ 41) (h3 : (strI z).size ≤ 41) (h0 : y = 0) (w : World) (hE : EN w) :
    Calls Tryz.prog 7 #[.string (strI (x)), .string (strI (y)), .string (strI (z))] w fun e w' => e = .returned (.bool true) ∧ Below w.heap.size w w' := by
  have hA : ∀ W, Below w.heap.size w W → Calls Tryz.prog 10 #[] W fun e w' => e = .returned (.bool true) ∧ Below W.heap.size W w' := fun W hb => awake_calls W (hE.below hb)
  have hs1 : (strI (x)).size ≤ 41 := h1
  have hs2 : (strI (y)).size ≤ 41 := h2
  have hs3 : (strI (z)).size ≤ 41 := h3
  have e1 : decide ((41 : Int) < ((strI (x)).size : Int)) = false := decide_eq_false (by omega)
  have e2 : decide ((41 : Int) < ((strI (y)).size : Int)) = false := decide_eq_false (by omega)
  have e3 : decide ((41 : Int) < ((strI (z)).size : Int)) = false := decide_eq_false (by omega)
  have dA : Dig 120 x := hx.more (by omega)
  have dB : Dig 120 y := hy.more (by omega)
  have dC : Dig 120 z := hz.more (by omega)
  have dAB : Dig 120 (x + y) := hx.add hy 120 (by omega) (by omega)
  have dBC' : Dig 42 (y + z) := hy.add hz 42 (by omega) (by omega)
  have dBC : Dig 120 (y + z) := dBC'.more (by omega)
  have dAC : Dig 120 (x + z) := hx.add hz 120 (by omega) (by omega)
  have dABC : Dig 120 (x + y + z) := (hx.add hy 42 (by omega) (by omega)).add hz 120 (by omega) (by omega)
  have dP : Dig 120 (x * y) := (hx.mul hy).more (by omega)
  have dS : Dig 120 (x * z) := (hx.mul hz).more (by omega)
  have dR : Dig 120 (x * (y + z)) := (hx.mul dBC').more (by omega)
  have ka := Aside0.mk (fun W => (strI_check dA).1 ▸ check_calls (strI (x)) (by omega) W)
  have kb := Aside0.mk (fun W => (strI_check dB).1 ▸ check_calls (strI (y)) (by omega) W)
  have kc := Aside0.mk (fun W => (strI_check dC).1 ▸ check_calls (strI (z)) (by omega) W)
  have K0 : ∀ W, Below w.heap.size w W → Calls Tryz.prog 21 #[.string (strI (x)), .string (strI (y))] W fun e w' => e = .returned (.tuple #[.string (strI (x + y)), .int .i64 0]) ∧ Below W.heap.size W w' := fun W hb => add_str dA dB (rfl) dAB W (hE.below hb)
  have K1 : ∀ W, Below w.heap.size w W → Calls Tryz.prog 21 #[.string (strI (y)), .string (strI (x))] W fun e w' => e = .returned (.tuple #[.string (strI (x + y)), .int .i64 0]) ∧ Below W.heap.size W w' := fun W hb => add_str dB dA (Int.add_comm y x) dAB W (hE.below hb)
  have K2 : ∀ W, Below w.heap.size w W → Calls Tryz.prog 21 #[.string (strI (y)), .string (strI (z))] W fun e w' => e = .returned (.tuple #[.string (strI (y + z)), .int .i64 0]) ∧ Below W.heap.size W w' := fun W hb => add_str dB dC (rfl) dBC W (hE.below hb)
  have K3 : ∀ W, Below w.heap.size w W → Calls Tryz.prog 21 #[.string (strI (x + y)), .string (strI (z))] W fun e w' => e = .returned (.tuple #[.string (strI (x + y + z)), .int .i64 0]) ∧ Below W.heap.size W w' := fun W hb => add_str dAB dC (rfl) dABC W (hE.below hb)
  have K4 : ∀ W, Below w.heap.size w W → Calls Tryz.prog 21 #[.string (strI (x)), .string (strI (y + z))] W fun e w' => e = .returned (.tuple #[.string (strI (x + y + z)), .int .i64 0]) ∧ Below W.heap.size W w' := fun W hb => add_str dA dBC ((Int.add_assoc x y z).symm) dABC W (hE.below hb)
  have K5 : ∀ W, Below w.heap.size w W → Calls Tryz.prog 25 #[.string (strI (x)), .string (strI (y))] W fun e w' => e = .returned (.tuple #[.string (strI (x * y)), .int .i64 0]) ∧ Below W.heap.size W w' := fun W hb => mul_str dA dB (rfl) dP W (hE.below hb)
  have K6 : ∀ W, Below w.heap.size w W → Calls Tryz.prog 25 #[.string (strI (y)), .string (strI (x))] W fun e w' => e = .returned (.tuple #[.string (strI (x * y)), .int .i64 0]) ∧ Below W.heap.size W w' := fun W hb => mul_str dB dA (Int.mul_comm y x) dP W (hE.below hb)
  have K7 : ∀ W, Below w.heap.size w W → Calls Tryz.prog 25 #[.string (strI (x)), .string (strI (y + z))] W fun e w' => e = .returned (.tuple #[.string (strI (x * (y + z))), .int .i64 0]) ∧ Below W.heap.size W w' := fun W hb => mul_str dA dBC (rfl) dR W (hE.below hb)
  have K8 : ∀ W, Below w.heap.size w W → Calls Tryz.prog 25 #[.string (strI (x)), .string (strI (z))] W fun e w' => e = .returned (.tuple #[.string (strI (x * z)), .int .i64 0]) ∧ Below W.heap.size W w' := fun W hb => mul_str dA dC (rfl) dS W (hE.below hb)
  have K9 : ∀ W, Below w.heap.size w W → Calls Tryz.prog 21 #[.string (strI (x * y)), .string (strI (x * z))] W fun e w' => e = .returned (.tuple #[.string (strI (x * (y + z))), .int .i64 0]) ∧ Below W.heap.size W w' := fun W hb => add_str dP dS ((Int.mul_add x y z).symm) dR W (hE.below hb)
  have K10 : ∀ W, Below w.heap.size w W → Calls Tryz.prog 23 #[.string (strI (x + y)), .string (strI (y))] W fun e w' => e = .returned (.tuple #[.string (strI (x)), .int .i64 0]) ∧ Below W.heap.size W w' := fun W hb => sub_str dAB dB (by omega) dA W (hE.below hb)
  have K11 : ∀ W, Below w.heap.size w W → Calls Tryz.prog 21 #[.string (strI (x)), .string (strI (z))] W fun e w' => e = .returned (.tuple #[.string (strI (x + z)), .int .i64 0]) ∧ Below W.heap.size W w' := fun W hb => add_str dA dC (rfl) dAC W (hE.below hb)
  have C1 : ∀ W, Below w.heap.size w W → Calls Tryz.prog 29 #[.string (strI (x)), .string (strI (y))] W fun e w' => e = .returned (.tuple #[.int .i64 (cmpI x y), .int .i64 0]) ∧ Below W.heap.size W w' := fun W hb => cmp_str dA dB rfl W (hE.below hb)
  have C2 : ∀ W, Below w.heap.size w W → Calls Tryz.prog 29 #[.string (strI (y)), .string (strI (x))] W fun e w' => e = .returned (.tuple #[.int .i64 (-(cmpI x y)), .int .i64 0]) ∧ Below W.heap.size W w' := fun W hb => cmp_str dB dA (cmp_neg x y) W (hE.below hb)
  have C3 : ∀ W, Below w.heap.size w W → Calls Tryz.prog 29 #[.string (strI (x + z)), .string (strI (y + z))] W fun e w' => e = .returned (.tuple #[.int .i64 (cmpI x y), .int .i64 0]) ∧ Below W.heap.size W w' := fun W hb => cmp_str dAC dBC (cmp_add x y z) W (hE.below hb)
  have hmb := cmp_bound x y
  have hm0 : (strI (x) = strI (y)) ↔ cmpI x y = 0 := ⟨fun h => cmp_zero.2 (strI_inj dA dB h), fun h => by rw [cmp_zero.1 h]⟩
  have hy0 : ((strI (y)).toList == [48]) = true := by rw [show strI (y) = ⟨#[48]⟩ by rw [h0]; decide +kernel]; decide +kernel
  obtain ⟨m, hm⟩ : ∃ m, cmpI x y = m := ⟨_, rfl⟩
  rw [hm] at C1 C2 C3 hmb hm0
  have hq : ((strI (x)).toList == (strI (y)).toList) = (m == 0) := beq_iff hm0
  clear hE dA dB dC dAB dBC' dBC dAC dABC dP dS dR hx hy hz h1 h2 h3 hs1 hs2 hs3 hm0 hm h0
  generalize strI (x + y + z) = ABC at *
  generalize strI (x + y) = AB at *
  generalize strI (y + z) = BC at *
  generalize strI (x * (y + z)) = R at *
  generalize strI (x * y) = P at *
  generalize strI (x * z) = S at *
  generalize strI (x + z) = AC at *
  generalize strI (x) = A at *
  generalize strI (y) = B at *
  generalize strI (z) = C at *
  have K0 := Aside0.mk K0
  have K1 := Aside0.mk K1
  have K2 := Aside0.mk K2
  have K3 := Aside0.mk K3
  have K4 := Aside0.mk K4
  have K5 := Aside0.mk K5
  have K6 := Aside0.mk K6
  have K7 := Aside0.mk K7
  have K8 := Aside0.mk K8
  have K9 := Aside0.mk K9
  have K10 := Aside0.mk K10
  have K11 := Aside0.mk K11
  have C1 := Aside0.mk C1
  have C2 := Aside0.mk C2
  have C3 := Aside0.mk C3
  have HA := Aside0.mk hA
  clear hA
  have HC := Aside0.mk (Below.refl w.heap.size w)
  go_enter Tryz.func7, Tryz.ntmps7
  go_wp2_with (first | (go_at_call 10; (with_reducible refine (HA.out _ HC.out).mono ?_); rintro e wx ⟨rfl, hbx⟩; have HC2 := Aside0.mk (HC.out.trans (hbx.mono HC.out.size)); clear HC; have HC := HC2; clear HC2 hbx) | (go_at_call 12; (with_reducible refine (ka.out _).mono ?_); rintro e wx ⟨rfl, hbx⟩; have HC2 := Aside0.mk (HC.out.trans (hbx.mono HC.out.size)); clear HC; have HC := HC2; clear HC2 hbx) | (go_at_call 12; (with_reducible refine (kb.out _).mono ?_); rintro e wx ⟨rfl, hbx⟩; have HC2 := Aside0.mk (HC.out.trans (hbx.mono HC.out.size)); clear HC; have HC := HC2; clear HC2 hbx) | (go_at_call 12; (with_reducible refine (kc.out _).mono ?_); rintro e wx ⟨rfl, hbx⟩; have HC2 := Aside0.mk (HC.out.trans (hbx.mono HC.out.size)); clear HC; have HC := HC2; clear HC2 hbx) | (go_at_call 21; (with_reducible refine (K0.out _ HC.out).mono ?_); rintro e wx ⟨rfl, hbx⟩; have HC2 := Aside0.mk (HC.out.trans (hbx.mono HC.out.size)); clear HC; have HC := HC2; clear HC2 hbx) | (go_at_call 21; (with_reducible refine (K1.out _ HC.out).mono ?_); rintro e wx ⟨rfl, hbx⟩; have HC2 := Aside0.mk (HC.out.trans (hbx.mono HC.out.size)); clear HC; have HC := HC2; clear HC2 hbx) | (go_at_call 21; (with_reducible refine (K2.out _ HC.out).mono ?_); rintro e wx ⟨rfl, hbx⟩; have HC2 := Aside0.mk (HC.out.trans (hbx.mono HC.out.size)); clear HC; have HC := HC2; clear HC2 hbx) | (go_at_call 21; (with_reducible refine (K3.out _ HC.out).mono ?_); rintro e wx ⟨rfl, hbx⟩; have HC2 := Aside0.mk (HC.out.trans (hbx.mono HC.out.size)); clear HC; have HC := HC2; clear HC2 hbx) | (go_at_call 21; (with_reducible refine (K4.out _ HC.out).mono ?_); rintro e wx ⟨rfl, hbx⟩; have HC2 := Aside0.mk (HC.out.trans (hbx.mono HC.out.size)); clear HC; have HC := HC2; clear HC2 hbx) | (go_at_call 25; (with_reducible refine (K5.out _ HC.out).mono ?_); rintro e wx ⟨rfl, hbx⟩; have HC2 := Aside0.mk (HC.out.trans (hbx.mono HC.out.size)); clear HC; have HC := HC2; clear HC2 hbx) | (go_at_call 25; (with_reducible refine (K6.out _ HC.out).mono ?_); rintro e wx ⟨rfl, hbx⟩; have HC2 := Aside0.mk (HC.out.trans (hbx.mono HC.out.size)); clear HC; have HC := HC2; clear HC2 hbx) | (go_at_call 25; (with_reducible refine (K7.out _ HC.out).mono ?_); rintro e wx ⟨rfl, hbx⟩; have HC2 := Aside0.mk (HC.out.trans (hbx.mono HC.out.size)); clear HC; have HC := HC2; clear HC2 hbx) | (go_at_call 25; (with_reducible refine (K8.out _ HC.out).mono ?_); rintro e wx ⟨rfl, hbx⟩; have HC2 := Aside0.mk (HC.out.trans (hbx.mono HC.out.size)); clear HC; have HC := HC2; clear HC2 hbx) | (go_at_call 21; (with_reducible refine (K9.out _ HC.out).mono ?_); rintro e wx ⟨rfl, hbx⟩; have HC2 := Aside0.mk (HC.out.trans (hbx.mono HC.out.size)); clear HC; have HC := HC2; clear HC2 hbx) | (go_at_call 23; (with_reducible refine (K10.out _ HC.out).mono ?_); rintro e wx ⟨rfl, hbx⟩; have HC2 := Aside0.mk (HC.out.trans (hbx.mono HC.out.size)); clear HC; have HC := HC2; clear HC2 hbx) | (go_at_call 21; (with_reducible refine (K11.out _ HC.out).mono ?_); rintro e wx ⟨rfl, hbx⟩; have HC2 := Aside0.mk (HC.out.trans (hbx.mono HC.out.size)); clear HC; have HC := HC2; clear HC2 hbx) | (go_at_call 29; (with_reducible refine (C1.out _ HC.out).mono ?_); rintro e wx ⟨rfl, hbx⟩; have HC2 := Aside0.mk (HC.out.trans (hbx.mono HC.out.size)); clear HC; have HC := HC2; clear HC2 hbx) | (go_at_call 29; (with_reducible refine (C2.out _ HC.out).mono ?_); rintro e wx ⟨rfl, hbx⟩; have HC2 := Aside0.mk (HC.out.trans (hbx.mono HC.out.size)); clear HC; have HC := HC2; clear HC2 hbx) | (go_at_call 29; (with_reducible refine (C3.out _ HC.out).mono ?_); rintro e wx ⟨rfl, hbx⟩; have HC2 := Aside0.mk (HC.out.trans (hbx.mono HC.out.size)); clear HC; have HC := HC2; clear HC2 hbx))
  go_ret
  exact ⟨rfl, HC.out⟩
set_option maxRecDepth 1000000 in
set_option maxHeartbeats 16000000 in
theorem ring_div (x y z : Int) (hx : Dig 41 x) (hy : Dig 41 y) (hz : Dig 41 z) (h1 : (strI x).size ≤ 41) (h2 : (strI y).size ≤ 41) (h3 : (strI z).size ≤ 41) (h0 : y ≠ 0) (w : World) (hE : EN w) :
    Calls Tryz.prog 7 #[.string (strI (x)), .string (strI (y)), .string (strI (z))] w fun e w' => e = .returned (.bool true) ∧ Below w.heap.size w w' := by
  have hA : ∀ W, Below w.heap.size w W → Calls Tryz.prog 10 #[] W fun e w' => e = .returned (.bool true) ∧ Below W.heap.size W w' := fun W hb => awake_calls W (hE.below hb)
  have hs1 : (strI (x)).size ≤ 41 := h1
  have hs2 : (strI (y)).size ≤ 41 := h2
  have hs3 : (strI (z)).size ≤ 41 := h3
  have e1 : decide ((41 : Int) < ((strI (x)).size : Int)) = false := decide_eq_false (by omega)
  have e2 : decide ((41 : Int) < ((strI (y)).size : Int)) = false := decide_eq_false (by omega)
  have e3 : decide ((41 : Int) < ((strI (z)).size : Int)) = false := decide_eq_false (by omega)
  have dA : Dig 120 x := hx.more (by omega)
  have dB : Dig 120 y := hy.more (by omega)
  have dC : Dig 120 z := hz.more (by omega)
  have dAB : Dig 120 (x + y) := hx.add hy 120 (by omega) (by omega)
  have dBC' : Dig 42 (y + z) := hy.add hz 42 (by omega) (by omega)
  have dBC : Dig 120 (y + z) := dBC'.more (by omega)
  have dAC : Dig 120 (x + z) := hx.add hz 120 (by omega) (by omega)
  have dABC : Dig 120 (x + y + z) := (hx.add hy 42 (by omega) (by omega)).add hz 120 (by omega) (by omega)
  have dP : Dig 120 (x * y) := (hx.mul hy).more (by omega)
  have dS : Dig 120 (x * z) := (hx.mul hz).more (by omega)
  have dR : Dig 120 (x * (y + z)) := (hx.mul dBC').more (by omega)
  have ka := Aside0.mk (fun W => (strI_check dA).1 ▸ check_calls (strI (x)) (by omega) W)
  have kb := Aside0.mk (fun W => (strI_check dB).1 ▸ check_calls (strI (y)) (by omega) W)
  have kc := Aside0.mk (fun W => (strI_check dC).1 ▸ check_calls (strI (z)) (by omega) W)
  have K0 : ∀ W, Below w.heap.size w W → Calls Tryz.prog 21 #[.string (strI (x)), .string (strI (y))] W fun e w' => e = .returned (.tuple #[.string (strI (x + y)), .int .i64 0]) ∧ Below W.heap.size W w' := fun W hb => add_str dA dB (rfl) dAB W (hE.below hb)
  have K1 : ∀ W, Below w.heap.size w W → Calls Tryz.prog 21 #[.string (strI (y)), .string (strI (x))] W fun e w' => e = .returned (.tuple #[.string (strI (x + y)), .int .i64 0]) ∧ Below W.heap.size W w' := fun W hb => add_str dB dA (Int.add_comm y x) dAB W (hE.below hb)
  have K2 : ∀ W, Below w.heap.size w W → Calls Tryz.prog 21 #[.string (strI (y)), .string (strI (z))] W fun e w' => e = .returned (.tuple #[.string (strI (y + z)), .int .i64 0]) ∧ Below W.heap.size W w' := fun W hb => add_str dB dC (rfl) dBC W (hE.below hb)
  have K3 : ∀ W, Below w.heap.size w W → Calls Tryz.prog 21 #[.string (strI (x + y)), .string (strI (z))] W fun e w' => e = .returned (.tuple #[.string (strI (x + y + z)), .int .i64 0]) ∧ Below W.heap.size W w' := fun W hb => add_str dAB dC (rfl) dABC W (hE.below hb)
  have K4 : ∀ W, Below w.heap.size w W → Calls Tryz.prog 21 #[.string (strI (x)), .string (strI (y + z))] W fun e w' => e = .returned (.tuple #[.string (strI (x + y + z)), .int .i64 0]) ∧ Below W.heap.size W w' := fun W hb => add_str dA dBC ((Int.add_assoc x y z).symm) dABC W (hE.below hb)
  have K5 : ∀ W, Below w.heap.size w W → Calls Tryz.prog 25 #[.string (strI (x)), .string (strI (y))] W fun e w' => e = .returned (.tuple #[.string (strI (x * y)), .int .i64 0]) ∧ Below W.heap.size W w' := fun W hb => mul_str dA dB (rfl) dP W (hE.below hb)
  have K6 : ∀ W, Below w.heap.size w W → Calls Tryz.prog 25 #[.string (strI (y)), .string (strI (x))] W fun e w' => e = .returned (.tuple #[.string (strI (x * y)), .int .i64 0]) ∧ Below W.heap.size W w' := fun W hb => mul_str dB dA (Int.mul_comm y x) dP W (hE.below hb)
  have K7 : ∀ W, Below w.heap.size w W → Calls Tryz.prog 25 #[.string (strI (x)), .string (strI (y + z))] W fun e w' => e = .returned (.tuple #[.string (strI (x * (y + z))), .int .i64 0]) ∧ Below W.heap.size W w' := fun W hb => mul_str dA dBC (rfl) dR W (hE.below hb)
  have K8 : ∀ W, Below w.heap.size w W → Calls Tryz.prog 25 #[.string (strI (x)), .string (strI (z))] W fun e w' => e = .returned (.tuple #[.string (strI (x * z)), .int .i64 0]) ∧ Below W.heap.size W w' := fun W hb => mul_str dA dC (rfl) dS W (hE.below hb)
  have K9 : ∀ W, Below w.heap.size w W → Calls Tryz.prog 21 #[.string (strI (x * y)), .string (strI (x * z))] W fun e w' => e = .returned (.tuple #[.string (strI (x * (y + z))), .int .i64 0]) ∧ Below W.heap.size W w' := fun W hb => add_str dP dS ((Int.mul_add x y z).symm) dR W (hE.below hb)
  have K10 : ∀ W, Below w.heap.size w W → Calls Tryz.prog 23 #[.string (strI (x + y)), .string (strI (y))] W fun e w' => e = .returned (.tuple #[.string (strI (x)), .int .i64 0]) ∧ Below W.heap.size W w' := fun W hb => sub_str dAB dB (by omega) dA W (hE.below hb)
  have K11 : ∀ W, Below w.heap.size w W → Calls Tryz.prog 21 #[.string (strI (x)), .string (strI (z))] W fun e w' => e = .returned (.tuple #[.string (strI (x + z)), .int .i64 0]) ∧ Below W.heap.size W w' := fun W hb => add_str dA dC (rfl) dAC W (hE.below hb)
  have C1 : ∀ W, Below w.heap.size w W → Calls Tryz.prog 29 #[.string (strI (x)), .string (strI (y))] W fun e w' => e = .returned (.tuple #[.int .i64 (cmpI x y), .int .i64 0]) ∧ Below W.heap.size W w' := fun W hb => cmp_str dA dB rfl W (hE.below hb)
  have C2 : ∀ W, Below w.heap.size w W → Calls Tryz.prog 29 #[.string (strI (y)), .string (strI (x))] W fun e w' => e = .returned (.tuple #[.int .i64 (-(cmpI x y)), .int .i64 0]) ∧ Below W.heap.size W w' := fun W hb => cmp_str dB dA (cmp_neg x y) W (hE.below hb)
  have C3 : ∀ W, Below w.heap.size w W → Calls Tryz.prog 29 #[.string (strI (x + z)), .string (strI (y + z))] W fun e w' => e = .returned (.tuple #[.int .i64 (cmpI x y), .int .i64 0]) ∧ Below W.heap.size W w' := fun W hb => cmp_str dAC dBC (cmp_add x y z) W (hE.below hb)
  have hmb := cmp_bound x y
  have hm0 : (strI (x) = strI (y)) ↔ cmpI x y = 0 := ⟨fun h => cmp_zero.2 (strI_inj dA dB h), fun h => by rw [cmp_zero.1 h]⟩
  have dD : Dig 120 (x / y) := by
    have := Int.natAbs_ediv_le_natAbs x y
    have h1 : Dig 41 (x / y) := by unfold Dig at hx ⊢; omega
    exact h1.more (by omega)
  have dM' : Dig 41 (x % y) := hy.emod h0
  have dM : Dig 120 (x % y) := dM'.more (by omega)
  have dU : Dig 120 (y * (x / y)) := by
    have h1 : y * (x / y) = x - x % y := by have := Int.mul_ediv_add_emod x y; omega
    rw [h1]
    exact hx.sub dM' 120 (by omega) (by omega)
  have dY : Dig 120 ((y.natAbs : Nat) : Int) := by unfold Dig at dB ⊢; omega
  have hmn := Int.emod_nonneg x h0
  have hml := Int.emod_lt x h0
  have KD : ∀ W, Below w.heap.size w W → Calls Tryz.prog 27 #[.string (strI (x)), .string (strI (y))] W fun e w' => e = .returned (.tuple #[.string (strI (x / y)), .string (strI (x % y)), .int .i64 0]) ∧ Below W.heap.size W w' := fun W hb => div_str dA dB h0 rfl rfl W (hE.below hb)
  obtain ⟨lo, hlo, hlo0⟩ : ∃ lo, cmpI (x % y) 0 = lo ∧ 0 ≤ lo := ⟨_, rfl, by unfold cmpI; split <;> (try split) <;> omega⟩
  have C4 : ∀ W, Below w.heap.size w W → Calls Tryz.prog 29 #[.string (strI (x % y)), .string ⟨#[48]⟩] W fun e w' => e = .returned (.tuple #[.int .i64 lo, .int .i64 0]) ∧ Below W.heap.size W w' := fun W hb => by
    have h := cmp_str dM (d0 120) hlo W (hE.below hb)
    rwa [show strI 0 = ⟨#[48]⟩ by decide +kernel] at h
  have C5 : ∀ W, Below w.heap.size w W → Calls Tryz.prog 29 #[.string (strI (x % y)), .string (strI (y.natAbs : Int))] W fun e w' => e = .returned (.tuple #[.int .i64 (-1), .int .i64 0]) ∧ Below W.heap.size W w' := fun W hb => cmp_str dM dY (by unfold cmpI; rw [if_pos (by omega)]) W (hE.below hb)
  have KT : ∀ W, Calls Tryz.prog 50 #[.string (strI (y)), .string ⟨#[45]⟩] W fun e w' => e = .returned (.string (strI (y.natAbs : Int))) ∧ w' = W := fun W => abs_str y W
  have hlo1 : decide (0 ≤ lo) = true := decide_eq_true hlo0
  have hy0 : ((strI (y)).toList == [48]) = false := beq_no (b := ⟨#[48]⟩) rfl fun h => h0 (strI_inj dB (d0 120) (by rw [show strI 0 = ⟨#[48]⟩ by decide +kernel]; exact h))
  have K12 : ∀ W, Below w.heap.size w W → Calls Tryz.prog 25 #[.string (strI (y)), .string (strI (x / y))] W fun e w' => e = .returned (.tuple #[.string (strI (y * (x / y))), .int .i64 0]) ∧ Below W.heap.size W w' := fun W hb => mul_str dB dD (rfl) dU W (hE.below hb)
  have K13 : ∀ W, Below w.heap.size w W → Calls Tryz.prog 21 #[.string (strI (y * (x / y))), .string (strI (x % y))] W fun e w' => e = .returned (.tuple #[.string (strI (x)), .int .i64 0]) ∧ Below W.heap.size W w' := fun W hb => add_str dU dM (Int.mul_ediv_add_emod x y) dA W (hE.below hb)
  obtain ⟨m, hm⟩ : ∃ m, cmpI x y = m := ⟨_, rfl⟩
  rw [hm] at C1 C2 C3 hmb hm0
  have hq : ((strI (x)).toList == (strI (y)).toList) = (m == 0) := beq_iff hm0
  clear hE dA dB dC dAB dBC' dBC dAC dABC dP dS dR dD dM dM' dU dY hmn hml hx hy hz h1 h2 h3 hs1 hs2 hs3 hm0 hm h0 hlo hlo0
  generalize strI (y * (x / y)) = U at *
  generalize strI (x / y) = D at *
  generalize strI (x % y) = M at *
  generalize strI ((y.natAbs : Int)) = Y at *
  generalize strI (x + y + z) = ABC at *
  generalize strI (x + y) = AB at *
  generalize strI (y + z) = BC at *
  generalize strI (x * (y + z)) = R at *
  generalize strI (x * y) = P at *
  generalize strI (x * z) = S at *
  generalize strI (x + z) = AC at *
  generalize strI (x) = A at *
  generalize strI (y) = B at *
  generalize strI (z) = C at *
  have K0 := Aside0.mk K0
  have K1 := Aside0.mk K1
  have K2 := Aside0.mk K2
  have K3 := Aside0.mk K3
  have K4 := Aside0.mk K4
  have K5 := Aside0.mk K5
  have K6 := Aside0.mk K6
  have K7 := Aside0.mk K7
  have K8 := Aside0.mk K8
  have K9 := Aside0.mk K9
  have K10 := Aside0.mk K10
  have K11 := Aside0.mk K11
  have C1 := Aside0.mk C1
  have C2 := Aside0.mk C2
  have C3 := Aside0.mk C3
  have HA := Aside0.mk hA
  clear hA
  have K12 := Aside0.mk K12
  have K13 := Aside0.mk K13
  have C4 := Aside0.mk C4
  have C5 := Aside0.mk C5
  have KD := Aside0.mk KD
  have KT := Aside0.mk KT
  have HC := Aside0.mk (Below.refl w.heap.size w)
  go_enter Tryz.func7, Tryz.ntmps7
  go_wp2_with (first | (go_at_call 10; (with_reducible refine (HA.out _ HC.out).mono ?_); rintro e wx ⟨rfl, hbx⟩; have HC2 := Aside0.mk (HC.out.trans (hbx.mono HC.out.size)); clear HC; have HC := HC2; clear HC2 hbx) | (go_at_call 12; (with_reducible refine (ka.out _).mono ?_); rintro e wx ⟨rfl, hbx⟩; have HC2 := Aside0.mk (HC.out.trans (hbx.mono HC.out.size)); clear HC; have HC := HC2; clear HC2 hbx) | (go_at_call 12; (with_reducible refine (kb.out _).mono ?_); rintro e wx ⟨rfl, hbx⟩; have HC2 := Aside0.mk (HC.out.trans (hbx.mono HC.out.size)); clear HC; have HC := HC2; clear HC2 hbx) | (go_at_call 12; (with_reducible refine (kc.out _).mono ?_); rintro e wx ⟨rfl, hbx⟩; have HC2 := Aside0.mk (HC.out.trans (hbx.mono HC.out.size)); clear HC; have HC := HC2; clear HC2 hbx) | (go_at_call 21; (with_reducible refine (K0.out _ HC.out).mono ?_); rintro e wx ⟨rfl, hbx⟩; have HC2 := Aside0.mk (HC.out.trans (hbx.mono HC.out.size)); clear HC; have HC := HC2; clear HC2 hbx) | (go_at_call 21; (with_reducible refine (K1.out _ HC.out).mono ?_); rintro e wx ⟨rfl, hbx⟩; have HC2 := Aside0.mk (HC.out.trans (hbx.mono HC.out.size)); clear HC; have HC := HC2; clear HC2 hbx) | (go_at_call 21; (with_reducible refine (K2.out _ HC.out).mono ?_); rintro e wx ⟨rfl, hbx⟩; have HC2 := Aside0.mk (HC.out.trans (hbx.mono HC.out.size)); clear HC; have HC := HC2; clear HC2 hbx) | (go_at_call 21; (with_reducible refine (K3.out _ HC.out).mono ?_); rintro e wx ⟨rfl, hbx⟩; have HC2 := Aside0.mk (HC.out.trans (hbx.mono HC.out.size)); clear HC; have HC := HC2; clear HC2 hbx) | (go_at_call 21; (with_reducible refine (K4.out _ HC.out).mono ?_); rintro e wx ⟨rfl, hbx⟩; have HC2 := Aside0.mk (HC.out.trans (hbx.mono HC.out.size)); clear HC; have HC := HC2; clear HC2 hbx) | (go_at_call 25; (with_reducible refine (K5.out _ HC.out).mono ?_); rintro e wx ⟨rfl, hbx⟩; have HC2 := Aside0.mk (HC.out.trans (hbx.mono HC.out.size)); clear HC; have HC := HC2; clear HC2 hbx) | (go_at_call 25; (with_reducible refine (K6.out _ HC.out).mono ?_); rintro e wx ⟨rfl, hbx⟩; have HC2 := Aside0.mk (HC.out.trans (hbx.mono HC.out.size)); clear HC; have HC := HC2; clear HC2 hbx) | (go_at_call 25; (with_reducible refine (K7.out _ HC.out).mono ?_); rintro e wx ⟨rfl, hbx⟩; have HC2 := Aside0.mk (HC.out.trans (hbx.mono HC.out.size)); clear HC; have HC := HC2; clear HC2 hbx) | (go_at_call 25; (with_reducible refine (K8.out _ HC.out).mono ?_); rintro e wx ⟨rfl, hbx⟩; have HC2 := Aside0.mk (HC.out.trans (hbx.mono HC.out.size)); clear HC; have HC := HC2; clear HC2 hbx) | (go_at_call 21; (with_reducible refine (K9.out _ HC.out).mono ?_); rintro e wx ⟨rfl, hbx⟩; have HC2 := Aside0.mk (HC.out.trans (hbx.mono HC.out.size)); clear HC; have HC := HC2; clear HC2 hbx) | (go_at_call 23; (with_reducible refine (K10.out _ HC.out).mono ?_); rintro e wx ⟨rfl, hbx⟩; have HC2 := Aside0.mk (HC.out.trans (hbx.mono HC.out.size)); clear HC; have HC := HC2; clear HC2 hbx) | (go_at_call 21; (with_reducible refine (K11.out _ HC.out).mono ?_); rintro e wx ⟨rfl, hbx⟩; have HC2 := Aside0.mk (HC.out.trans (hbx.mono HC.out.size)); clear HC; have HC := HC2; clear HC2 hbx) | (go_at_call 29; (with_reducible refine (C1.out _ HC.out).mono ?_); rintro e wx ⟨rfl, hbx⟩; have HC2 := Aside0.mk (HC.out.trans (hbx.mono HC.out.size)); clear HC; have HC := HC2; clear HC2 hbx) | (go_at_call 29; (with_reducible refine (C2.out _ HC.out).mono ?_); rintro e wx ⟨rfl, hbx⟩; have HC2 := Aside0.mk (HC.out.trans (hbx.mono HC.out.size)); clear HC; have HC := HC2; clear HC2 hbx) | (go_at_call 29; (with_reducible refine (C3.out _ HC.out).mono ?_); rintro e wx ⟨rfl, hbx⟩; have HC2 := Aside0.mk (HC.out.trans (hbx.mono HC.out.size)); clear HC; have HC := HC2; clear HC2 hbx) | (go_at_call 25; (with_reducible refine (K12.out _ HC.out).mono ?_); rintro e wx ⟨rfl, hbx⟩; have HC2 := Aside0.mk (HC.out.trans (hbx.mono HC.out.size)); clear HC; have HC := HC2; clear HC2 hbx) | (go_at_call 21; (with_reducible refine (K13.out _ HC.out).mono ?_); rintro e wx ⟨rfl, hbx⟩; have HC2 := Aside0.mk (HC.out.trans (hbx.mono HC.out.size)); clear HC; have HC := HC2; clear HC2 hbx) | (go_at_call 29; (with_reducible refine (C4.out _ HC.out).mono ?_); rintro e wx ⟨rfl, hbx⟩; have HC2 := Aside0.mk (HC.out.trans (hbx.mono HC.out.size)); clear HC; have HC := HC2; clear HC2 hbx) | (go_at_call 29; (with_reducible refine (C5.out _ HC.out).mono ?_); rintro e wx ⟨rfl, hbx⟩; have HC2 := Aside0.mk (HC.out.trans (hbx.mono HC.out.size)); clear HC; have HC := HC2; clear HC2 hbx) | (go_at_call 27; (with_reducible refine (KD.out _ HC.out).mono ?_); rintro e wx ⟨rfl, hbx⟩; have HC2 := Aside0.mk (HC.out.trans (hbx.mono HC.out.size)); clear HC; have HC := HC2; clear HC2 hbx) | (go_at_call 50; (with_reducible refine (KT.out _).mono ?_); rintro e wx ⟨rfl, hwx⟩; rw [hwx]; clear hwx wx))
  go_ret
  exact ⟨rfl, HC.out⟩
theorem ring_calls (a b c : ByteArray) (w : World) (hE : EN w) :
    Calls Tryz.prog 7 #[.string a, .string b, .string c] w fun e w' => e = .returned (.bool true) ∧ Below w.heap.size w w' := by
  by_cases hl : 41 < a.size ∨ (¬ 41 < a.size ∧ 41 < b.size) ∨ (¬ 41 < a.size ∧ ¬ 41 < b.size ∧ 41 < c.size)
  · exact ring_long a b c hl w hE
  · have h1 : a.size ≤ 41 := by omega
    have h2 : b.size ≤ 41 := by omega
    have h3 : c.size ≤ 41 := by omega
    by_cases hw : checkI a ≠ 0 ∨ (checkI a = 0 ∧ checkI b ≠ 0) ∨ (checkI a = 0 ∧ checkI b = 0 ∧ checkI c ≠ 0)
    · exact ring_wrong a b c h1 h2 h3 hw w hE
    · have ka : checkI a = 0 := by omega
      have kb : checkI b = 0 := by omega
      have kc : checkI c = 0 := by omega
      have s1 := strI_intI ka
      have s2 := strI_intI kb
      have s3 := strI_intI kc
      by_cases h0 : intI b = 0
      · have h := ring_zero (intI a) (intI b) (intI c) (intI_digs ka h1) (intI_digs kb h2) (intI_digs kc h3) (by rw [s1]; exact h1) (by rw [s2]; exact h2) (by rw [s3]; exact h3) h0 w hE
        rwa [s1, s2, s3] at h
      · have h := ring_div (intI a) (intI b) (intI c) (intI_digs ka h1) (intI_digs kb h2) (intI_digs kc h3) (by rw [s1]; exact h1) (by rw [s2]; exact h2) (by rw [s3]; exact h3) h0 w hE
        rwa [s1, s2, s3] at h
end Go.Proofs.YtillgofjlpjbcaaGreatDoor.Nm
end
