import Derived.Test.YtnjbinpbkjdjpaaGreatDoorP7
import Derived.Test.YtnjbinpbkjdjpaaGreatDoorP3
import Derived.Laws.BitsLemmas
import Derived.Laws.MathBits
import Derived.Test.YtnjbinpbkjdjpaaGreatDoorP4
import Derived.Laws.RangeString
import Derived.Test.YtnjbinpbkjdjpaaGreatDoorP5
import Derived.Test.YtnjbinpbkjdjpaaGreatDoorP2
import Derived.Test.YtnjbinpbkjdjpaaGreatDoorP1
import Derived.Laws.EntriesVeiled
/- Own text: contracts and laws on which the card rests (NnS NnT NnU NoB NoC NoD FnI FnJ RaA RaB RaE RaF RaG RaL NoI NoL RaJ RaQ). -/
set_option linter.unusedVariables false
set_option linter.unusedSimpArgs false
set_option maxRecDepth 1000000
set_option maxHeartbeats 16000000
namespace Go.Proofs.YtnjbinpbkjdjpaaGreatDoor.Nm
section
open Go.Lib Go.Proofs.YtnjbinpbkjdjpaaGreatDoorW.PrintLast Go.Proofs.YtnjbinpbkjdjpaaGreatDoorW.PrintMore Go.Proofs.YtnjbinpbkjdjpaaGreatDoorW.PrintWords Go.RowKit Go.Shelf
/-- Numerator and denominator of a fraction's string. -/
def numR (s : ByteArray) : Int := intI (cutA 47 s)
def denR (s : ByteArray) : Int := intI (cutB 47 s)
/-- What CheckReal says. -/
def checkR (s : ByteArray) : Int :=
 if cutF 47 s = false ∨ hasB 47 (cutB 47 s) = true then 1
 else if firstI [checkI (cutA 47 s), checkI (cutB 47 s)] ≠ 0 then firstI [checkI (cutA 47 s), checkI (cutB 47 s)]
 else if denR s ≤ 0 ∨ Int.gcd (numR s) (denR s) ≠ 1 then 1 else 0
theorem checkR_ok {s : ByteArray} (h : checkR s = 0) : checkI (cutA 47 s) = 0 ∧ checkI (cutB 47 s) = 0 ∧ 0 < denR s ∧ Int.gcd (numR s) (denR s) = 1 := by
 unfold checkR at h
 split at h
 ·omega
 ·split at h
  ·rename_i h1; exact absurd h h1
  ·rename_i h1
   have h1 := Classical.not_not.1 h1
   obtain ⟨a, b⟩ := biE_zero (a := cutA 47 s) (b := cutB 47 s) h1
   split at h
   ·omega
   ·rename_i h2
    exact ⟨a, b, by omega, Classical.not_not.1 (fun h3 => h2 (.inr h3))⟩
theorem checkR_calls (s : ByteArray) (hs : s.size ≤ 90000) (w : World) (hE : EN w) :
 Calls Tryz.prog 58 #[.string s] w fun e w' => e = .returned (.int .i64 (checkR s)) ∧ Below w.heap.size w w' := by
 obtain ⟨hz1, hz2⟩ := cut_size 47 s
 have hC : ∀ W, Below w.heap.size w W → Calls Tryz.prog 121 #[.string s, .string ⟨#[47]⟩] W fun e w' => e = .returned (.tuple #[.string (cutA 47 s), .string (cutB 47 s), .bool (cutF 47 s)]) ∧ Below W.heap.size W w' := fun W hb => cut1_calls 47 s hs W (hE.below hb)
 have hH := contains_calls 47 (cutB 47 s)
 have HK1 := Aside0.mk (check_calls (cutA 47 s) (by omega))
 have HK2 := Aside0.mk (check_calls (cutB 47 s) (by omega))
 have HB := Aside0.mk (Below.refl w.heap.size w)
 unfold checkR
 by_cases h1 : cutF 47 s = true
 ·by_cases h2 : hasB 47 (cutB 47 s) = true
  ·rw [if_pos (.inr h2)]
   rw [h2] at hH
   rw [h1] at hC
   clear h1 h2
   generalize cutA 47 s = a at *
   generalize cutB 47 s = b at *
   have HC := Aside0.mk hC
   have HH := Aside0.mk hH
   clear hC hH hE
   go_enter Tryz.func58, Tryz.ntmps58
   go_wp2_with (first | (go_at_call 121; ((with_reducible refine (HC.out _ bl).mono ?_); rintro e w1 ⟨rfl, hb1⟩; obtain ⟨hc1, hf1⟩ := bcell hb1; have nB1 : Aside0 (Below w.heap.size w w1) := sb hb1; clear HB; have HB := nB1; clear nB1)) | (go_at_call 122; (with_reducible refine (HH.out _).mono ?_); rintro e w' ⟨rfl, rfl⟩))
   go_ret
   exact ⟨rfl, bl⟩
  ·rw [if_neg (by rintro (h | h); rw [h1] at h; cases h; exact h2 h)]
   have h2' : hasB 47 (cutB 47 s) = false := by simpa using h2
   rw [h2'] at hH
   rw [h1] at hC
   clear h1 h2 h2'
   by_cases h3 : firstI [checkI (cutA 47 s), checkI (cutB 47 s)] = 0
   ·rw [if_neg (fun h => h h3)]
    obtain ⟨c1, c2⟩ := biE_zero h3
    have hP1 := parseI_calls (cutA 47 s) (by omega) c1
    have hP2 := parseI_calls (cutB 47 s) (by omega) c2
    have d1 := intI_dig c1
    have d2 := intI_dig c2
    unfold numR denR
    rw [c1] at HK1
    rw [c2] at HK2
    clear h3 c1 c2
    generalize cutA 47 s = a at *
    generalize cutB 47 s = b at *
    generalize intI a = p at *
    generalize intI b = q at *
    have HC := Aside0.mk hC
    have HH := Aside0.mk hH
    have HF := F00
    clear hC hH hE
    by_cases h4 : q < 0
    ·rw [if_pos (.inl (by omega))]
     have e1 : decide (q < 0) = true := decide_eq_true h4
     rw [e1] at hP2
     have HP1 := Aside0.mk hP1
     have HP2 := Aside0.mk hP2
     clear hP1 hP2 h4 e1 d1 d2
     generalize decide (p < 0) = f at *
     generalize p.natAbs = m at *
     generalize q.natAbs = n at *
     go_enter Tryz.func58, Tryz.ntmps58
     go_wp2_with (first | (go_at_call 121; ((with_reducible refine (HC.out _ bl).mono ?_); rintro e w1 ⟨rfl, hb1⟩; obtain ⟨hc1, hf1⟩ := bcell hb1; have nB1 : Aside0 (Below w.heap.size w w1) := sb hb1; clear HB; have HB := nB1; clear nB1)) | (go_at_call 122; (with_reducible refine (HH.out _).mono ?_); rintro e w' ⟨rfl, rfl⟩) | (go_at_call 123; ((with_reducible refine (HK1.out _).mono ?_); rintro e w2 ⟨rfl, hb2⟩; obtain ⟨hc2, hf2⟩ := bcell hb2; have nB2 : Aside0 (Below w.heap.size w w2) := sb hb2; clear HB; have HB := nB2; clear nB2; clear HK1)) | (go_at_call 123; ((with_reducible refine (HK2.out _).mono ?_); rintro e w3 ⟨rfl, hb3⟩; obtain ⟨hc3, hf3⟩ := bcell hb3; have nB3 : Aside0 (Below w.heap.size w w3) := sb hb3; clear HB; have HB := nB3; clear nB3)) | (go_at_call 72; (with_reducible refine (first2_ret _ _ 0 HF.out _ _ (by simp) _).mono ?_); rintro e w' ⟨rfl, rfl⟩) | (go_at_call 124; ((with_reducible refine (HP1.out _).mono ?_); rintro e w4 ⟨A1, k1, rfl, hm1, hb4⟩; obtain ⟨hc4, hf4⟩ := bcell hb4; have nB4 : Aside0 (Below w.heap.size w w4) := sb hb4; clear HB; have HB := nB4; clear nB4; have HM1 := Aside0.mk hm1; clear hm1 HP1)) | (go_at_call 124; ((with_reducible refine (HP2.out _).mono ?_); rintro e w5 ⟨A2, k2, rfl, hm2, hb5⟩; obtain ⟨hc5, hf5⟩ := bcell hb5; have nB5 : Aside0 (Below w.heap.size w w5) := sb hb5; clear HB; have HB := nB5; clear nB5; have HM2 := Aside0.mk hm2; clear hm2; have HM1 := Aside0.mk (HM1.out.up hb5))) | (go_at_call 125; (with_reducible refine (when_calls _ _ _).mono ?_); rintro e w' ⟨rfl, rfl⟩))
     go_ret
     exact ⟨rfl, bl⟩
    ·have e1 : decide (q < 0) = false := decide_eq_false h4
     rw [e1] at hP2
     by_cases h5 : q = 0
     ·rw [if_pos (.inl (by omega))]
      have HZ : Aside0 (∀ (W : World) (A : Option Addr) (L : Nat), Mag W W.heap.size A L q.natAbs → Calls Tryz.prog 74 #[.agg #[.slice A L L]] W fun e w' => e = .returned (.bool true) ∧ Below W.heap.size W w') := ⟨fun W A L hm => isZero_any hm (Nat.le_refl _) (Below.refl _ _) (decide_eq_true (by omega))⟩
      have HP1 := Aside0.mk hP1
      have HP2 := Aside0.mk hP2
      clear hP1 hP2 h4 e1 h5 d1 d2
      generalize decide (p < 0) = f at *
      generalize p.natAbs = m at *
      generalize q.natAbs = n at *
      go_enter Tryz.func58, Tryz.ntmps58
      go_wp2_with (first | (go_at_call 121; ((with_reducible refine (HC.out _ bl).mono ?_); rintro e w1 ⟨rfl, hb1⟩; obtain ⟨hc1, hf1⟩ := bcell hb1; have nB1 : Aside0 (Below w.heap.size w w1) := sb hb1; clear HB; have HB := nB1; clear nB1)) | (go_at_call 122; (with_reducible refine (HH.out _).mono ?_); rintro e w' ⟨rfl, rfl⟩) | (go_at_call 123; ((with_reducible refine (HK1.out _).mono ?_); rintro e w2 ⟨rfl, hb2⟩; obtain ⟨hc2, hf2⟩ := bcell hb2; have nB2 : Aside0 (Below w.heap.size w w2) := sb hb2; clear HB; have HB := nB2; clear nB2; clear HK1)) | (go_at_call 123; ((with_reducible refine (HK2.out _).mono ?_); rintro e w3 ⟨rfl, hb3⟩; obtain ⟨hc3, hf3⟩ := bcell hb3; have nB3 : Aside0 (Below w.heap.size w w3) := sb hb3; clear HB; have HB := nB3; clear nB3)) | (go_at_call 72; (with_reducible refine (first2_ret _ _ 0 HF.out _ _ (by simp) _).mono ?_); rintro e w' ⟨rfl, rfl⟩) | (go_at_call 124; ((with_reducible refine (HP1.out _).mono ?_); rintro e w4 ⟨A1, k1, rfl, hm1, hb4⟩; obtain ⟨hc4, hf4⟩ := bcell hb4; have nB4 : Aside0 (Below w.heap.size w w4) := sb hb4; clear HB; have HB := nB4; clear nB4; have HM1 := Aside0.mk hm1; clear hm1 HP1)) | (go_at_call 124; ((with_reducible refine (HP2.out _).mono ?_); rintro e w5 ⟨A2, k2, rfl, hm2, hb5⟩; obtain ⟨hc5, hf5⟩ := bcell hb5; have nB5 : Aside0 (Below w.heap.size w w5) := sb hb5; clear HB; have HB := nB5; clear nB5; have HM2 := Aside0.mk hm2; clear hm2; have HM1 := Aside0.mk (HM1.out.up hb5))) | (go_at_call 125; (with_reducible refine (when_calls _ _ _).mono ?_); rintro e w' ⟨rfl, rfl⟩) | (go_at_call 74; ((with_reducible refine (HZ.out _ _ _ (HM2.out.up (by repeat (first | exact Below.refl _ _ | apply below_alloc)))).mono ?_); rintro e w6 ⟨rfl, hb6⟩; obtain ⟨hc6, hf6⟩ := bcell hb6; have nB6 : Aside0 (Below w.heap.size w w6) := sb hb6; clear HB; have HB := nB6; clear nB6)))
      go_ret
      exact ⟨rfl, bl⟩
     ·have HZ : Aside0 (∀ (W : World) (A : Option Addr) (L : Nat), Mag W W.heap.size A L q.natAbs → Calls Tryz.prog 74 #[.agg #[.slice A L L]] W fun e w' => e = .returned (.bool false) ∧ Below W.heap.size W w') := ⟨fun W A L hm => isZero_any hm (Nat.le_refl _) (Below.refl _ _) (decide_eq_false (by omega))⟩
      have HG : Aside0 (∀ (W : World) (A1 A2 : Option Addr) (L1 L2 : Nat), Mag W W.heap.size A1 L1 p.natAbs → Mag W W.heap.size A2 L2 q.natAbs → Calls Tryz.prog 126 #[.agg #[.slice A1 L1 L1], .agg #[.slice A2 L2 L2]] W fun e w' => ∃ A k, e = .returned (.agg #[.slice A k k]) ∧ Mag w' w'.heap.size A k (Int.gcd p q) ∧ Below W.heap.size W w') := ⟨fun W A1 A2 L1 L2 m1 m2 => by
       have l1 := d1.len m1 14 (by omega)
       have l2 := d2.len m2 14 (by omega)
       exact common_calls m1 m2 (Nat.le_refl _) (by omega) (by omega)⟩
      obtain ⟨g, hg⟩ : ∃ g, Int.gcd p q = g := ⟨_, rfl⟩
      rw [hg] at HG ⊢
      obtain ⟨r, hr⟩ : ∃ r, decide (g = 1) = r := ⟨_, rfl⟩
      have HO : Aside0 (∀ (W : World) (A : Option Addr) (L : Nat), Mag W W.heap.size A L g → Calls Tryz.prog 127 #[.agg #[.slice A L L]] W fun e w' => e = .returned (.bool r) ∧ Below W.heap.size W w') := ⟨fun W A L hm => by rw [← hr]; exact isOne_calls hm (Nat.le_refl _)⟩
      have hR : (if q ≤ 0 ∨ g ≠ 1 then (1 : Int) else 0) = if (!r) = true then 1 else 0 := by
       rw [← hr]
       by_cases h6 : g = 1
       ·rw [if_neg (by omega), if_neg (by simp [h6])]
       ·rw [if_pos (.inr h6), if_pos (by simp [h6])]
      rw [hR]
      have HP1 := Aside0.mk hP1
      have HP2 := Aside0.mk hP2
      clear hP1 hP2 h4 e1 h5 hg hr hR d1 d2
      generalize decide (p < 0) = f at *
      generalize p.natAbs = m at *
      generalize q.natAbs = n at *
      cases r
      all_goals
       go_enter Tryz.func58, Tryz.ntmps58
       go_wp2_with (first | (go_at_call 121; ((with_reducible refine (HC.out _ bl).mono ?_); rintro e w1 ⟨rfl, hb1⟩; obtain ⟨hc1, hf1⟩ := bcell hb1; have nB1 : Aside0 (Below w.heap.size w w1) := sb hb1; clear HB; have HB := nB1; clear nB1)) | (go_at_call 122; (with_reducible refine (HH.out _).mono ?_); rintro e w' ⟨rfl, rfl⟩) | (go_at_call 123; ((with_reducible refine (HK1.out _).mono ?_); rintro e w2 ⟨rfl, hb2⟩; obtain ⟨hc2, hf2⟩ := bcell hb2; have nB2 : Aside0 (Below w.heap.size w w2) := sb hb2; clear HB; have HB := nB2; clear nB2; clear HK1)) | (go_at_call 123; ((with_reducible refine (HK2.out _).mono ?_); rintro e w3 ⟨rfl, hb3⟩; obtain ⟨hc3, hf3⟩ := bcell hb3; have nB3 : Aside0 (Below w.heap.size w w3) := sb hb3; clear HB; have HB := nB3; clear nB3)) | (go_at_call 72; (with_reducible refine (first2_ret _ _ 0 HF.out _ _ (by simp) _).mono ?_); rintro e w' ⟨rfl, rfl⟩) | (go_at_call 124; ((with_reducible refine (HP1.out _).mono ?_); rintro e w4 ⟨A1, k1, rfl, hm1, hb4⟩; obtain ⟨hc4, hf4⟩ := bcell hb4; have nB4 : Aside0 (Below w.heap.size w w4) := sb hb4; clear HB; have HB := nB4; clear nB4; have HM1 := Aside0.mk hm1; clear hm1 HP1)) | (go_at_call 124; ((with_reducible refine (HP2.out _).mono ?_); rintro e w5 ⟨A2, k2, rfl, hm2, hb5⟩; obtain ⟨hc5, hf5⟩ := bcell hb5; have nB5 : Aside0 (Below w.heap.size w w5) := sb hb5; clear HB; have HB := nB5; clear nB5; have HM2 := Aside0.mk hm2; clear hm2; have HM1 := Aside0.mk (HM1.out.up hb5))) | (go_at_call 125; (with_reducible refine (when_calls _ _ _).mono ?_); rintro e w' ⟨rfl, rfl⟩) | (go_at_call 74; ((with_reducible refine (HZ.out _ _ _ (HM2.out.up (by repeat (first | exact Below.refl _ _ | apply below_alloc)))).mono ?_); rintro e w6 ⟨rfl, hb6⟩; obtain ⟨hc6, hf6⟩ := bcell hb6; have z6_0 : (w5.heap.size) < w6.heap.size := zb hb6; have nB6 : Aside0 (Below w.heap.size w w6) := sb hb6; clear HB; have HB := nB6; clear nB6; have HM2 := Aside0.mk ((HM2.out.up (by repeat (first | exact Below.refl _ _ | apply below_alloc))).up hb6); have HM1 := Aside0.mk ((HM1.out.up (by repeat (first | exact Below.refl _ _ | apply below_alloc))).up hb6))) | (go_at_call 126; ((with_reducible refine (HG.out _ _ _ _ _ HM1.out HM2.out).mono ?_); rintro e w7 ⟨Ag, kg, rfl, hmg, hb7⟩; obtain ⟨hc7, hf7⟩ := bcell hb7; have nB7 : Aside0 (Below w.heap.size w w7) := sb hb7; clear HB; have HB := nB7; clear nB7; have HMG := Aside0.mk hmg; clear hmg)) | (go_at_call 127; ((with_reducible refine (HO.out _ _ _ HMG.out).mono ?_); rintro e w8 ⟨rfl, hb8⟩; obtain ⟨hc8, hf8⟩ := bcell hb8; have nB8 : Aside0 (Below w.heap.size w w8) := sb hb8; clear HB; have HB := nB8; clear nB8)))
       go_ret
       exact ⟨rfl, bl⟩
   ·rw [if_pos h3]
    obtain ⟨E, hEE⟩ : ∃ E, firstI [checkI (cutA 47 s), checkI (cutB 47 s)] = E := ⟨_, rfl⟩
    rw [hEE] at h3 ⊢
    have HF := Aside0.mk hEE
    clear hEE
    generalize checkI (cutA 47 s) = e1 at *
    generalize checkI (cutB 47 s) = e2 at *
    generalize cutA 47 s = a at *
    generalize cutB 47 s = b at *
    have hbe : (E != 0) = true := by simp [h3]
    have HC := Aside0.mk hC
    have HH := Aside0.mk hH
    clear hC hH hE
    go_enter Tryz.func58, Tryz.ntmps58
    go_wp2_with (first | (go_at_call 121; ((with_reducible refine (HC.out _ bl).mono ?_); rintro e w1 ⟨rfl, hb1⟩; obtain ⟨hc1, hf1⟩ := bcell hb1; have nB1 : Aside0 (Below w.heap.size w w1) := sb hb1; clear HB; have HB := nB1; clear nB1)) | (go_at_call 122; (with_reducible refine (HH.out _).mono ?_); rintro e w' ⟨rfl, rfl⟩) | (go_at_call 123; ((with_reducible refine (HK1.out _).mono ?_); rintro e w2 ⟨rfl, hb2⟩; obtain ⟨hc2, hf2⟩ := bcell hb2; have nB2 : Aside0 (Below w.heap.size w w2) := sb hb2; clear HB; have HB := nB2; clear nB2; clear HK1)) | (go_at_call 123; ((with_reducible refine (HK2.out _).mono ?_); rintro e w3 ⟨rfl, hb3⟩; obtain ⟨hc3, hf3⟩ := bcell hb3; have nB3 : Aside0 (Below w.heap.size w w3) := sb hb3; clear HB; have HB := nB3; clear nB3)) | (go_at_call 72; (with_reducible refine (first2_ret _ _ E HF.out _ _ (by simp) _).mono ?_); rintro e w' ⟨rfl, rfl⟩))
    go_ret
    exact ⟨rfl, bl⟩
 ·have h1' : cutF 47 s = false := by simpa using h1
  rw [if_pos (.inl h1')]
  rw [h1'] at hC
  clear h1 h1' hH
  generalize cutA 47 s = a at *
  generalize cutB 47 s = b at *
  have HC := Aside0.mk hC
  clear hC hE
  go_enter Tryz.func58, Tryz.ntmps58
  go_wp2_with (first | (go_at_call 121; ((with_reducible refine (HC.out _ bl).mono ?_); rintro e w1 ⟨rfl, hb1⟩; obtain ⟨hc1, hf1⟩ := bcell hb1; have nB1 : Aside0 (Below w.heap.size w w1) := sb hb1; clear HB; have HB := nB1; clear nB1)))
  go_ret
  exact ⟨rfl, bl⟩
/-- The string and the error of a fraction that is brought into lowest terms. -/
def rsS (y z : Int) : ByteArray := ftS (y / lowD y z) (z / lowD y z)
def rsE (y z : Int) : Int := ftE (y / lowD y z) (z / lowD y z)
/-- The error of two fractions. -/
def reE (a b : ByteArray) : Int := firstI [checkR a, checkR b]
theorem reE_zero {a b : ByteArray} (h : reE a b = 0) : checkR a = 0 ∧ checkR b = 0 := by
 unfold reE firstI firstI firstI at h
 split at h
 ·rename_i h1
  split at h
  ·rename_i h2; exact ⟨h1, h2⟩
  ·rename_i h2; exact absurd h h2
 ·rename_i h1; exact absurd h h1
theorem real_dig {s : ByteArray} (h : checkR s = 0) : Dig 120 (numR s) ∧ Dig 120 (denR s) ∧ 0 < denR s := by
 obtain ⟨h1, h2, h3, h4⟩ := checkR_ok h
 exact ⟨intI_dig h1, intI_dig h2, h3⟩
theorem realN_calls (s : ByteArray) (hs : s.size ≤ 90000) (h : checkR s = 0) (w : World) (hE : EN w) :
 Calls Tryz.prog 73 #[.string s] w fun e w' => ∃ A1 k1 A2 k2, e = .returned (fV A1 k1 (numR s) A2 k2 (denR s)) ∧ Mag w' w'.heap.size A1 k1 (numR s).natAbs ∧ Mag w' w'.heap.size A2 k2 (denR s).natAbs ∧ Below w.heap.size w w' := by
 obtain ⟨h1, h2, h3, h4⟩ := checkR_ok h
 exact real_calls s hs h1 h2 w hE
theorem checkR_at {s : ByteArray} (hs : s.size ≤ 90000) {w : World} (hE : EN w) : ∀ W, Below w.heap.size w W → Calls Tryz.prog 58 #[.string s] W fun e w' => e = .returned (.int .i64 (checkR s)) ∧ Below W.heap.size W w' :=
 fun W hb => checkR_calls s hs W (hE.below hb)
theorem real_at {s : ByteArray} (hs : s.size ≤ 90000) (h : checkR s = 0) {w : World} (hE : EN w) : ∀ W, Below w.heap.size w W → Calls Tryz.prog 73 #[.string s] W fun e w' => ∃ A1 k1 A2 k2, e = .returned (fV A1 k1 (numR s) A2 k2 (denR s)) ∧ Mag w' w'.heap.size A1 k1 (numR s).natAbs ∧ Mag w' w'.heap.size A2 k2 (denR s).natAbs ∧ Below W.heap.size W w' :=
 fun W hb => realN_calls s hs h W (hE.below hb)
theorem reals_bad (a b : ByteArray) (ha : a.size ≤ 90000) (hb : b.size ≤ 90000) (h : reE a b ≠ 0) (F : FuncId) (w : World) (hE : EN w) :
 Calls Tryz.prog 66 #[.string a, .string b, .func (.func F) #[] #[]] w fun e w' => e = .returned (.tuple #[.string ⟨#[]⟩, .int .i64 (reE a b)]) ∧ Below w.heap.size w w' := by
 have hK1 := checkR_at ha hE
 have hK2 := checkR_at hb hE
 obtain ⟨E, hEE⟩ : ∃ E, reE a b = E := ⟨_, rfl⟩
 rw [hEE] at h ⊢
 unfold reE at hEE
 generalize checkR a = e1 at *
 generalize checkR b = e2 at *
 have HF := Aside0.mk hEE
 have HK1 := Aside0.mk hK1
 have HK2 := Aside0.mk hK2
 have HB := Aside0.mk (Below.refl w.heap.size w)
 have hbe : (E != 0) = true := by simp [h]
 clear hEE hK1 hK2 hE
 go_enter Tryz.func66, Tryz.ntmps66
 go_wp2_with (first | (go_at_call 58; ((with_reducible refine (HK1.out _ bl).mono ?_); rintro e w2 ⟨rfl, hb2⟩; obtain ⟨hc2, hf2⟩ := bcell hb2; have nB2 : Aside0 (Below w.heap.size w w2) := sb hb2; clear HB; have HB := nB2; clear nB2; clear HK1)) | (go_at_call 58; ((with_reducible refine (HK2.out _ bl).mono ?_); rintro e w3 ⟨rfl, hb3⟩; obtain ⟨hc3, hf3⟩ := bcell hb3; have nB3 : Aside0 (Below w.heap.size w w3) := sb hb3; clear HB; have HB := nB3; clear nB3)) | (go_at_call 72; (with_reducible refine (first2_ret _ _ E HF.out _ _ (by simp) _).mono ?_); rintro e w' ⟨rfl, rfl⟩))
 go_ret2
 exact ⟨rfl, bl⟩
theorem reals_ok (a b : ByteArray) (ha : a.size ≤ 90000) (hb : b.size ≤ 90000) (h : reE a b = 0) {F : FuncId} {y z : Int} (hF : OpF F (numR a) (denR a) (numR b) (denR b) y z) (hy : Dig 1000 y) (hz : Dig 1000 z) (hz0 : z ≠ 0) (eF : Enters Tryz.prog F) (w : World) (hE : EN w) :
 Calls Tryz.prog 66 #[.string a, .string b, .func (.func F) #[] #[]] w fun e w' => e = .returned (.tuple #[.string (rsS y z), .int .i64 (rsE y z)]) ∧ Below w.heap.size w w' := by
 obtain ⟨c1, c2⟩ := reE_zero h
 have hK1 := checkR_at ha hE
 have hK2 := checkR_at hb hE
 have hR1 := real_at ha c1 hE
 have hR2 := real_at hb c2 hE
 rw [c1] at hK1
 rw [c2] at hK2
 have hL : ∀ (W : World) (A1 A2 : Option Addr) (L1 L2 : Nat), Mag W W.heap.size A1 L1 y.natAbs → Mag W W.heap.size A2 L2 z.natAbs → Calls Tryz.prog 136 #[fV A1 L1 y A2 L2 z] W fun e w' => ∃ A k A' k', e = .returned (fV A k (y / lowD y z) A' k' (z / lowD y z)) ∧ Mag w' w'.heap.size A k (y / lowD y z).natAbs ∧ Mag w' w'.heap.size A' k' (z / lowD y z).natAbs ∧ Below W.heap.size W w' := fun W A1 A2 L1 L2 m1 m2 => lowest_calls m1 m2 hy hz hz0
 have hT : ∀ (W : World) (A1 A2 : Option Addr) (L1 L2 : Nat), Below w.heap.size w W → Mag W W.heap.size A1 L1 (y / lowD y z).natAbs → Mag W W.heap.size A2 L2 (z / lowD y z).natAbs → Calls Tryz.prog 137 #[fV A1 L1 (y / lowD y z) A2 L2 (z / lowD y z)] W fun e w' => e = .returned (.tuple #[.string (rsS y z), .int .i64 (rsE y z)]) ∧ Below W.heap.size W w' := fun W A1 A2 L1 L2 hb m1 m2 => ftext_calls m1 m2 (Nat.le_refl _) (hE.tens.below hb)
 have HF' := hF
 unfold OpF at HF'
 have eg : ∀ (args : Array Value) (w : World), (callFunc F args).run Tryz.prog w = .ok (.enter F args) w := eF
 clear hF eF c1 c2 hE hy hz hz0
 generalize rsS y z = S at *
 generalize rsE y z = R at *
 unfold fV at *
 generalize decide (y / lowD y z < 0) = g3 at *
 generalize (y / lowD y z).natAbs = n3 at *
 generalize decide (z / lowD y z < 0) = g4 at *
 generalize (z / lowD y z).natAbs = n4 at *
 generalize decide (y < 0) = g1 at *
 generalize y.natAbs = n1 at *
 generalize decide (z < 0) = g2 at *
 generalize z.natAbs = n2 at *
 generalize decide (numR a < 0) = f1 at *
 generalize (numR a).natAbs = m1 at *
 generalize decide (denR a < 0) = f2 at *
 generalize (denR a).natAbs = m2 at *
 generalize decide (numR b < 0) = f3 at *
 generalize (numR b).natAbs = m3 at *
 generalize decide (denR b < 0) = f4 at *
 generalize (denR b).natAbs = m4 at *
 have HK1 := Aside0.mk hK1
 have HK2 := Aside0.mk hK2
 have HR1 := Aside0.mk hR1
 have HR2 := Aside0.mk hR2
 have HL := Aside0.mk hL
 have HT := Aside0.mk hT
 have HFF := Aside0.mk HF'
 have HF := F00
 have HB := Aside0.mk (Below.refl w.heap.size w)
 clear hK1 hK2 hR1 hR2 hL hT HF' h
 go_enter Tryz.func66, Tryz.ntmps66
 go_wp2_with (first | (go_at_call 58; ((with_reducible refine (HK1.out _ bl).mono ?_); rintro e w2 ⟨rfl, hb2⟩; obtain ⟨hc2, hf2⟩ := bcell hb2; have nB2 : Aside0 (Below w.heap.size w w2) := sb hb2; clear HB; have HB := nB2; clear nB2; clear HK1)) | (go_at_call 58; ((with_reducible refine (HK2.out _ bl).mono ?_); rintro e w3 ⟨rfl, hb3⟩; obtain ⟨hc3, hf3⟩ := bcell hb3; have nB3 : Aside0 (Below w.heap.size w w3) := sb hb3; clear HB; have HB := nB3; clear nB3)) | (go_at_call 72; (with_reducible refine (first2_ret _ _ 0 HF.out _ _ (by simp) _).mono ?_); rintro e w' ⟨rfl, rfl⟩) | (go_at_call 73; ((with_reducible refine (HR1.out _ bl).mono ?_); rintro e w4 ⟨A1, k1, A2, k2, rfl, hm1, hm2, hb4⟩; obtain ⟨hc4, hf4⟩ := bcell hb4; have nB4 : Aside0 (Below w.heap.size w w4) := sb hb4; clear HB; have HB := nB4; clear nB4; have HM1 := Aside0.mk hm1; have HM2 := Aside0.mk hm2; clear hm1 hm2 HR1)) | (go_at_call 73; ((with_reducible refine (HR2.out _ bl).mono ?_); rintro e w5 ⟨A3, k3, A4, k4, rfl, hm3, hm4, hb5⟩; obtain ⟨hc5, hf5⟩ := bcell hb5; have nB5 : Aside0 (Below w.heap.size w w5) := sb hb5; clear HB; have HB := nB5; clear nB5; have HM3 := Aside0.mk hm3; have HM4 := Aside0.mk hm4; have HM1 := Aside0.mk (HM1.out.up hb5); have HM2 := Aside0.mk (HM2.out.up hb5); clear hm3 hm4)) | (go_at_fn F; ((with_reducible refine (HFF.out _ _ _ _ _ _ _ _ _ HM1.out HM2.out HM3.out HM4.out).mono ?_); rintro e w6 ⟨A5, k5, A6, k6, rfl, hm5, hm6, hb6⟩; have nB6 : Aside0 (Below w.heap.size w w6) := ⟨below_step bl hb6⟩; clear HB; have HB := nB6; clear nB6; have HM5 := Aside0.mk hm5; have HM6 := Aside0.mk hm6; clear hm5 hm6)) | (go_at_call 136; ((with_reducible refine (HL.out _ _ _ _ _ HM5.out HM6.out).mono ?_); rintro e w7 ⟨A7, k7, A8, k8, rfl, hm7, hm8, hb7⟩; obtain ⟨hc7, hf7⟩ := bcell hb7; have nB7 : Aside0 (Below w.heap.size w w7) := sb hb7; clear HB; have HB := nB7; clear nB7; have HM7 := Aside0.mk hm7; have HM8 := Aside0.mk hm8; clear hm7 hm8)) | (go_at_call 137; ((with_reducible refine (HT.out _ _ _ _ _ bl HM7.out HM8.out).mono ?_); rintro e w8 ⟨rfl, hb8⟩; obtain ⟨hc8, hf8⟩ := bcell hb8; have nB8 : Aside0 (Below w.heap.size w w8) := sb hb8; clear HB; have HB := nB8; clear nB8)))
 go_ret2
 exact ⟨rfl, bl⟩
/-- What an operation on two fractions answers; 'of' gives numerator and denominator. -/
def reS (of : Int → Int → Int → Int → Int × Int) (a b : ByteArray) : ByteArray := if reE a b = 0 then rsS (of (numR a) (denR a) (numR b) (denR b)).1 (of (numR a) (denR a) (numR b) (denR b)).2 else ⟨#[]⟩
def reR (of : Int → Int → Int → Int → Int × Int) (a b : ByteArray) : Int := if reE a b = 0 then rsE (of (numR a) (denR a) (numR b) (denR b)).1 (of (numR a) (denR a) (numR b) (denR b)).2 else reE a b
def ofAdd (p q r s : Int) : Int × Int := (p * s + r * q, q * s)
def ofSub (p q r s : Int) : Int × Int := (p * s - r * q, q * s)
def ofMul (p q r s : Int) : Int × Int := (p * r, q * s)
theorem reals_calls (a b : ByteArray) (ha : a.size ≤ 90000) (hb : b.size ≤ 90000) {F : FuncId} {of : Int → Int → Int → Int → Int × Int}
 (hF : ∀ p q r s, Dig 120 p → Dig 120 q → Dig 120 r → Dig 120 s → 0 < q → 0 < s → OpF F p q r s (of p q r s).1 (of p q r s).2 ∧ Dig 1000 (of p q r s).1 ∧ Dig 1000 (of p q r s).2 ∧ (of p q r s).2 ≠ 0) (eF : Enters Tryz.prog F) (w : World) (hE : EN w) :
 Calls Tryz.prog 66 #[.string a, .string b, .func (.func F) #[] #[]] w fun e w' => e = .returned (.tuple #[.string (reS of a b), .int .i64 (reR of a b)]) ∧ Below w.heap.size w w' := by
 unfold reS reR
 by_cases h : reE a b = 0
 ·rw [if_pos h, if_pos h]
  obtain ⟨h1, h2⟩ := reE_zero h
  obtain ⟨a1, a2, a3⟩ := real_dig h1
  obtain ⟨b1, b2, b3⟩ := real_dig h2
  obtain ⟨c1, c2, c3, c4⟩ := hF _ _ _ _ a1 a2 b1 b2 a3 b3
  exact reals_ok a b ha hb h c1 c2 c3 c4 eF w hE
 ·rw [if_neg h, if_neg h]
  exact reals_bad a b ha hb h F w hE
theorem mul_ne {a b : Int} (ha : 0 < a) (hb : 0 < b) : a * b ≠ 0 := by have := Int.mul_pos ha hb; omega
theorem law_add (p q r s : Int) (hp : Dig 120 p) (hq : Dig 120 q) (hr : Dig 120 r) (hs : Dig 120 s) (h1 : 0 < q) (h2 : 0 < s) : OpF 67 p q r s (ofAdd p q r s).1 (ofAdd p q r s).2 ∧ Dig 1000 (ofAdd p q r s).1 ∧ Dig 1000 (ofAdd p q r s).2 ∧ (ofAdd p q r s).2 ≠ 0 :=
 ⟨opF_plus (hp.more (by omega)) (hq.more (by omega)) (hr.more (by omega)) (hs.more (by omega)), (hp.mul hs).add (hr.mul hq) 1000 (by omega) (by omega), (hq.mul hs).more (by omega), mul_ne h1 h2⟩
theorem law_sub (p q r s : Int) (hp : Dig 120 p) (hq : Dig 120 q) (hr : Dig 120 r) (hs : Dig 120 s) (h1 : 0 < q) (h2 : 0 < s) : OpF 68 p q r s (ofSub p q r s).1 (ofSub p q r s).2 ∧ Dig 1000 (ofSub p q r s).1 ∧ Dig 1000 (ofSub p q r s).2 ∧ (ofSub p q r s).2 ≠ 0 :=
 ⟨opF_minus (hp.more (by omega)) (hq.more (by omega)) (hr.more (by omega)) (hs.more (by omega)), (hp.mul hs).sub (hr.mul hq) 1000 (by omega) (by omega), (hq.mul hs).more (by omega), mul_ne h1 h2⟩
theorem law_mul (p q r s : Int) (hp : Dig 120 p) (hq : Dig 120 q) (hr : Dig 120 r) (hs : Dig 120 s) (h1 : 0 < q) (h2 : 0 < s) : OpF 70 p q r s (ofMul p q r s).1 (ofMul p q r s).2 ∧ Dig 1000 (ofMul p q r s).1 ∧ Dig 1000 (ofMul p q r s).2 ∧ (ofMul p q r s).2 ≠ 0 :=
 ⟨opF_mul (hp.more (by omega)) (hq.more (by omega)) (hr.more (by omega)) (hs.more (by omega)), (hp.mul hr).more (by omega), (hq.mul hs).more (by omega), mul_ne h1 h2⟩
theorem addReal_calls (a b : ByteArray) (ha : a.size ≤ 90000) (hb : b.size ≤ 90000) (w : World) (hE : EN w) :
 Calls Tryz.prog 14 #[.string a, .string b] w fun e w' => e = .returned (.tuple #[.string (reS ofAdd a b), .int .i64 (reR ofAdd a b)]) ∧ Below w.heap.size w w' := by
 have H := Aside0.mk (reals_calls a b ha hb law_add (enters_of Tryz.func67 (by kernel_rfl) rfl) w hE)
 generalize reS ofAdd a b = S at *
 generalize reR ofAdd a b = R at *
 clear hE
 go_enter Tryz.func14, Tryz.ntmps14
 go_wp2_with (go_at_call 66; (with_reducible refine H.out.mono ?_); rintro e w1 ⟨rfl, hb1⟩)
 go_ret2
 exact ⟨rfl, hb1⟩
theorem subReal_calls (a b : ByteArray) (ha : a.size ≤ 90000) (hb : b.size ≤ 90000) (w : World) (hE : EN w) :
 Calls Tryz.prog 15 #[.string a, .string b] w fun e w' => e = .returned (.tuple #[.string (reS ofSub a b), .int .i64 (reR ofSub a b)]) ∧ Below w.heap.size w w' := by
 have H := Aside0.mk (reals_calls a b ha hb law_sub (enters_of Tryz.func68 (by kernel_rfl) rfl) w hE)
 generalize reS ofSub a b = S at *
 generalize reR ofSub a b = R at *
 clear hE
 go_enter Tryz.func15, Tryz.ntmps15
 go_wp2_with (go_at_call 66; (with_reducible refine H.out.mono ?_); rintro e w1 ⟨rfl, hb1⟩)
 go_ret2
 exact ⟨rfl, hb1⟩
theorem mulReal_calls (a b : ByteArray) (ha : a.size ≤ 90000) (hb : b.size ≤ 90000) (w : World) (hE : EN w) :
 Calls Tryz.prog 16 #[.string a, .string b] w fun e w' => e = .returned (.tuple #[.string (reS ofMul a b), .int .i64 (reR ofMul a b)]) ∧ Below w.heap.size w w' := by
 have H := Aside0.mk (reals_calls a b ha hb law_mul (enters_of Tryz.func70 (by kernel_rfl) rfl) w hE)
 generalize reS ofMul a b = S at *
 generalize reR ofMul a b = R at *
 clear hE
 go_enter Tryz.func16, Tryz.ntmps16
 go_wp2_with (go_at_call 66; (with_reducible refine H.out.mono ?_); rintro e w1 ⟨rfl, hb1⟩)
 go_ret2
 exact ⟨rfl, hb1⟩
/-- What DivReal answers. -/
def drE (a b : ByteArray) : Int := if reE a b = 0 then (if numR b = 0 then 30 else 0) else reE a b
def drS (a b : ByteArray) : ByteArray := if drE a b = 0 then rsS (numR a * denR b) (denR a * numR b) else ⟨#[]⟩
def drR (a b : ByteArray) : Int := if drE a b = 0 then rsE (numR a * denR b) (denR a * numR b) else drE a b
theorem divReal_calls (a b : ByteArray) (ha : a.size ≤ 90000) (hb : b.size ≤ 90000) (w : World) (hE : EN w) :
 Calls Tryz.prog 17 #[.string a, .string b] w fun e w' => e = .returned (.tuple #[.string (drS a b), .int .i64 (drR a b)]) ∧ Below w.heap.size w w' := by
 have hK1 := checkR_at ha hE
 have hK2 := checkR_at hb hE
 have HB := Aside0.mk (Below.refl w.heap.size w)
 unfold drS drR
 have hf1 : ∀ (A1 A2 : Option Addr) (k1 k2 : Nat) (f1 f2 : Bool) (w : World), (Instr.field 113 (.agg #[.slice A1 k1 k1, .bool f1, .slice A2 k2 k2, .bool f2]) 0).run Tryz.prog w = .ok (.agg #[.slice A1 k1 k1, .bool f1]) w := fun _ _ _ _ _ _ _ => by kernel_rfl
 have hf2 : ∀ (A : Option Addr) (k : Nat) (f : Bool) (w : World), (Instr.field 111 (.agg #[.slice A k k, .bool f]) 0).run Tryz.prog w = .ok (.agg #[.slice A k k]) w := fun _ _ _ _ => by kernel_rfl
 by_cases h : reE a b = 0
 ·obtain ⟨c1, c2⟩ := reE_zero h
  have hR1 := real_at hb c2 hE
  by_cases h5 : numR b = 0
  ·have e : drE a b = 30 := by unfold drE; rw [if_pos h, if_pos h5]
   rw [e, if_neg (by omega), if_neg (by omega)]
   have HZ : Aside0 (∀ (W : World) (A : Option Addr) (L : Nat), Mag W W.heap.size A L (numR b).natAbs → Calls Tryz.prog 74 #[.agg #[.slice A L L]] W fun e w' => e = .returned (.bool true) ∧ Below W.heap.size W w') := ⟨fun W A L hm => isZero_any hm (Nat.le_refl _) (Below.refl _ _) (decide_eq_true (by omega))⟩
   rw [c1] at hK1
   rw [c2] at hK2
   unfold fV at hR1
   generalize decide (numR b < 0) = f3 at *
   generalize (numR b).natAbs = m3 at *
   generalize decide (denR b < 0) = f4 at *
   generalize (denR b).natAbs = m4 at *
   have HK1 := Aside0.mk hK1
   have HK2 := Aside0.mk hK2
   have HR1 := Aside0.mk hR1
   have HF := F00
   clear hK1 hK2 hR1 e h h5 c1 c2 hE
   go_enter Tryz.func17, Tryz.ntmps17
   go_wp2_with (first | (go_at_call 58; ((with_reducible refine (HK1.out _ bl).mono ?_); rintro e w2 ⟨rfl, hb2⟩; obtain ⟨hc2, hf2⟩ := bcell hb2; have nB2 : Aside0 (Below w.heap.size w w2) := sb hb2; clear HB; have HB := nB2; clear nB2; clear HK1)) | (go_at_call 58; ((with_reducible refine (HK2.out _ bl).mono ?_); rintro e w3 ⟨rfl, hb3⟩; obtain ⟨hc3, hf3⟩ := bcell hb3; have nB3 : Aside0 (Below w.heap.size w w3) := sb hb3; clear HB; have HB := nB3; clear nB3)) | (go_at_call 72; (with_reducible refine (first2_ret _ _ 0 HF.out _ _ (by simp) _).mono ?_); rintro e w' ⟨rfl, rfl⟩) | (go_at_call 73; ((with_reducible refine (HR1.out _ bl).mono ?_); rintro e w4 ⟨A1, k1, A2, k2, rfl, hm1, hm2, hb4⟩; obtain ⟨hc4, hf4⟩ := bcell hb4; have nB4 : Aside0 (Below w.heap.size w w4) := sb hb4; clear HB; have HB := nB4; clear nB4; have HM1 := Aside0.mk hm1; clear hm1 hm2)) | (go_at_call 74; ((with_reducible refine (HZ.out _ _ _ HM1.out).mono ?_); rintro e w6 ⟨rfl, hb6⟩; obtain ⟨hc6, hf6⟩ := bcell hb6; have nB6 : Aside0 (Below w.heap.size w w6) := sb hb6; clear HB; have HB := nB6; clear nB6)))
   go_ret2
   exact ⟨rfl, bl⟩
  ·have e : drE a b = 0 := by unfold drE; rw [if_pos h, if_neg h5]
   rw [e, if_pos rfl, if_pos rfl]
   obtain ⟨a1, a2, a3⟩ := real_dig c1
   obtain ⟨b1, b2, b3⟩ := real_dig c2
   have hQ : ∀ W, Below w.heap.size w W → Calls Tryz.prog 66 #[.string a, .string b, .func (.func 75) #[] #[]] W fun e w' => e = .returned (.tuple #[.string (rsS (numR a * denR b) (denR a * numR b)), .int .i64 (rsE (numR a * denR b) (denR a * numR b))]) ∧ Below W.heap.size W w' := fun W hbw =>
    reals_ok a b ha hb h (opF_div (a1.more (by omega)) (a2.more (by omega)) (b1.more (by omega)) (b2.more (by omega))) ((a1.mul b2).more (by omega)) ((a2.mul b1).more (by omega)) (fun h0 => by rcases Int.mul_eq_zero.1 h0 with h0 | h0 <;> omega) (enters_of Tryz.func75 (by kernel_rfl) rfl) W (hE.below hbw)
   have HZ : Aside0 (∀ (W : World) (A : Option Addr) (L : Nat), Mag W W.heap.size A L (numR b).natAbs → Calls Tryz.prog 74 #[.agg #[.slice A L L]] W fun e w' => e = .returned (.bool false) ∧ Below W.heap.size W w') := ⟨fun W A L hm => isZero_any hm (Nat.le_refl _) (Below.refl _ _) (decide_eq_false (by omega))⟩
   rw [c1] at hK1
   rw [c2] at hK2
   unfold fV at hR1
   generalize rsS (numR a * denR b) (denR a * numR b) = S at *
   generalize rsE (numR a * denR b) (denR a * numR b) = R at *
   generalize decide (numR b < 0) = f3 at *
   generalize (numR b).natAbs = m3 at *
   generalize decide (denR b < 0) = f4 at *
   generalize (denR b).natAbs = m4 at *
   have HK1 := Aside0.mk hK1
   have HK2 := Aside0.mk hK2
   have HR1 := Aside0.mk hR1
   have HQ := Aside0.mk hQ
   have HF := F00
   clear hK1 hK2 hR1 hQ e h h5 c1 c2 hE a1 a2 a3 b1 b2 b3
   go_enter Tryz.func17, Tryz.ntmps17
   go_wp2_with (first | (go_at_call 58; ((with_reducible refine (HK1.out _ bl).mono ?_); rintro e w2 ⟨rfl, hb2⟩; obtain ⟨hc2, hf2⟩ := bcell hb2; have nB2 : Aside0 (Below w.heap.size w w2) := sb hb2; clear HB; have HB := nB2; clear nB2; clear HK1)) | (go_at_call 58; ((with_reducible refine (HK2.out _ bl).mono ?_); rintro e w3 ⟨rfl, hb3⟩; obtain ⟨hc3, hf3⟩ := bcell hb3; have nB3 : Aside0 (Below w.heap.size w w3) := sb hb3; clear HB; have HB := nB3; clear nB3)) | (go_at_call 72; (with_reducible refine (first2_ret _ _ 0 HF.out _ _ (by simp) _).mono ?_); rintro e w' ⟨rfl, rfl⟩) | (go_at_call 73; ((with_reducible refine (HR1.out _ bl).mono ?_); rintro e w4 ⟨A1, k1, A2, k2, rfl, hm1, hm2, hb4⟩; obtain ⟨hc4, hf4⟩ := bcell hb4; have nB4 : Aside0 (Below w.heap.size w w4) := sb hb4; clear HB; have HB := nB4; clear nB4; have HM1 := Aside0.mk hm1; clear hm1 hm2)) | (go_at_call 74; ((with_reducible refine (HZ.out _ _ _ HM1.out).mono ?_); rintro e w6 ⟨rfl, hb6⟩; obtain ⟨hc6, hf6⟩ := bcell hb6; have nB6 : Aside0 (Below w.heap.size w w6) := sb hb6; clear HB; have HB := nB6; clear nB6)) | (go_at_call 66; ((with_reducible refine (HQ.out _ bl).mono ?_); rintro e w7 ⟨rfl, hb7⟩; obtain ⟨hc7, hf7⟩ := bcell hb7; have nB7 : Aside0 (Below w.heap.size w w7) := sb hb7; clear HB; have HB := nB7; clear nB7)))
   go_ret2
   exact ⟨rfl, bl⟩
 ·have e : drE a b = reE a b := by unfold drE; rw [if_neg h]
  rw [e, if_neg h, if_neg h]
  obtain ⟨E, hEE⟩ : ∃ E, reE a b = E := ⟨_, rfl⟩
  rw [hEE] at h ⊢
  unfold reE at hEE
  clear e
  generalize checkR a = e1 at *
  generalize checkR b = e2 at *
  have HF := Aside0.mk hEE
  have HK1 := Aside0.mk hK1
  have HK2 := Aside0.mk hK2
  have hbe : (E != 0) = true := by simp [h]
  clear hEE hK1 hK2 hE
  go_enter Tryz.func17, Tryz.ntmps17
  go_wp2_with (first | (go_at_call 58; ((with_reducible refine (HK1.out _ bl).mono ?_); rintro e w2 ⟨rfl, hb2⟩; obtain ⟨hc2, hf2⟩ := bcell hb2; have nB2 : Aside0 (Below w.heap.size w w2) := sb hb2; clear HB; have HB := nB2; clear nB2; clear HK1)) | (go_at_call 58; ((with_reducible refine (HK2.out _ bl).mono ?_); rintro e w3 ⟨rfl, hb3⟩; obtain ⟨hc3, hf3⟩ := bcell hb3; have nB3 : Aside0 (Below w.heap.size w w3) := sb hb3; clear HB; have HB := nB3; clear nB3)) | (go_at_call 72; (with_reducible refine (first2_ret _ _ E HF.out _ _ (by simp) _).mono ?_); rintro e w' ⟨rfl, rfl⟩))
  go_ret2
  exact ⟨rfl, bl⟩
/-- What CompareReal answers. -/
def cmpR (a b : ByteArray) : Int := if reE a b = 0 then cmpI (numR a * denR b) (numR b * denR a) else 0
theorem compareReal_calls (a b : ByteArray) (ha : a.size ≤ 90000) (hb : b.size ≤ 90000) (w : World) (hE : EN w) :
 Calls Tryz.prog 59 #[.string a, .string b] w fun e w' => e = .returned (.tuple #[.int .i64 (cmpR a b), .int .i64 (reE a b)]) ∧ Below w.heap.size w w' := by
 have hK1 := checkR_at ha hE
 have hK2 := checkR_at hb hE
 have HB := Aside0.mk (Below.refl w.heap.size w)
 unfold cmpR
 by_cases h : reE a b = 0
 ·obtain ⟨c1, c2⟩ := reE_zero h
  have hR1 := real_at ha c1 hE
  have hR2 := real_at hb c2 hE
  obtain ⟨a1, a2, a3⟩ := real_dig c1
  obtain ⟨b1, b2, b3⟩ := real_dig c2
  have T1 : ∀ (W : World) (A1 A2 : Option Addr) (L1 L2 : Nat), Mag W W.heap.size A1 L1 (numR a).natAbs → Mag W W.heap.size A2 L2 (denR b).natAbs → Calls Tryz.prog 71 #[iV A1 L1 (numR a), iV A2 L2 (denR b)] W fun e w' => ∃ A k, e = .returned (iV A k (numR a * denR b)) ∧ Mag w' w'.heap.size A k (numR a * denR b).natAbs ∧ Below W.heap.size W w' := fun W A1 A2 L1 L2 => op2_times (a1.more (by omega)) (b2.more (by omega)) W A1 A2 L1 L2
  have T2 : ∀ (W : World) (A1 A2 : Option Addr) (L1 L2 : Nat), Mag W W.heap.size A1 L1 (numR b).natAbs → Mag W W.heap.size A2 L2 (denR a).natAbs → Calls Tryz.prog 71 #[iV A1 L1 (numR b), iV A2 L2 (denR a)] W fun e w' => ∃ A k, e = .returned (iV A k (numR b * denR a)) ∧ Mag w' w'.heap.size A k (numR b * denR a).natAbs ∧ Below W.heap.size W w' := fun W A1 A2 L1 L2 => op2_times (b1.more (by omega)) (a2.more (by omega)) W A1 A2 L1 L2
  have T3 : ∀ (W : World) (A1 A2 : Option Addr) (L1 L2 : Nat), Mag W W.heap.size A1 L1 (numR a * denR b).natAbs → Mag W W.heap.size A2 L2 (numR b * denR a).natAbs → Calls Tryz.prog 128 #[iV A1 L1 (numR a * denR b), iV A2 L2 (numR b * denR a)] W fun e w' => e = .returned (.int .i64 (cmpI (numR a * denR b) (numR b * denR a))) ∧ Below W.heap.size W w' := fun W A1 A2 L1 L2 h1 h2 => iorder_calls h1 h2 (Nat.le_refl _)
  rw [if_pos h, h]
  rw [c1] at hK1
  rw [c2] at hK2
  clear h c1 c2 hE a1 a2 a3 b1 b2 b3
  generalize cmpI (numR a * denR b) (numR b * denR a) = C at *
  unfold fV iV at *
  generalize decide (numR a * denR b < 0) = g1 at *
  generalize (numR a * denR b).natAbs = n1 at *
  generalize decide (numR b * denR a < 0) = g2 at *
  generalize (numR b * denR a).natAbs = n2 at *
  generalize decide (numR a < 0) = f1 at *
  generalize (numR a).natAbs = m1 at *
  generalize decide (denR a < 0) = f2 at *
  generalize (denR a).natAbs = m2 at *
  generalize decide (numR b < 0) = f3 at *
  generalize (numR b).natAbs = m3 at *
  generalize decide (denR b < 0) = f4 at *
  generalize (denR b).natAbs = m4 at *
  have HK1 := Aside0.mk hK1
  have HK2 := Aside0.mk hK2
  have HR1 := Aside0.mk hR1
  have HR2 := Aside0.mk hR2
  have T1 := Aside0.mk T1
  have T2 := Aside0.mk T2
  have T3 := Aside0.mk T3
  have HF := F00
  clear hK1 hK2 hR1 hR2
  go_enter Tryz.func59, Tryz.ntmps59
  go_wp2_with (first | (go_at_call 58; ((with_reducible refine (HK1.out _ bl).mono ?_); rintro e w2 ⟨rfl, hb2⟩; obtain ⟨hc2, hf2⟩ := bcell hb2; have nB2 : Aside0 (Below w.heap.size w w2) := sb hb2; clear HB; have HB := nB2; clear nB2; clear HK1)) | (go_at_call 58; ((with_reducible refine (HK2.out _ bl).mono ?_); rintro e w3 ⟨rfl, hb3⟩; obtain ⟨hc3, hf3⟩ := bcell hb3; have nB3 : Aside0 (Below w.heap.size w w3) := sb hb3; clear HB; have HB := nB3; clear nB3)) | (go_at_call 72; (with_reducible refine (first2_ret _ _ 0 HF.out _ _ (by simp) _).mono ?_); rintro e w' ⟨rfl, rfl⟩) | (go_at_call 73; ((with_reducible refine (HR1.out _ bl).mono ?_); rintro e w4 ⟨A1, k1, A2, k2, rfl, hm1, hm2, hb4⟩; obtain ⟨hc4, hf4⟩ := bcell hb4; have nB4 : Aside0 (Below w.heap.size w w4) := sb hb4; clear HB; have HB := nB4; clear nB4; have HM1 := Aside0.mk hm1; have HM2 := Aside0.mk hm2; clear hm1 hm2 HR1)) | (go_at_call 73; ((with_reducible refine (HR2.out _ bl).mono ?_); rintro e w5 ⟨A3, k3, A4, k4, rfl, hm3, hm4, hb5⟩; obtain ⟨hc5, hf5⟩ := bcell hb5; have nB5 : Aside0 (Below w.heap.size w w5) := sb hb5; clear HB; have HB := nB5; clear nB5; have HM3 := Aside0.mk hm3; have HM4 := Aside0.mk hm4; have HM1 := Aside0.mk (HM1.out.up hb5); have HM2 := Aside0.mk (HM2.out.up hb5); clear hm3 hm4)))
  have HZ : Aside0 (FB ((w5.alloc (.cells #[.slice A1 k1 k1, .bool f1, .slice A2 k2 k2, .bool f2] 113)).alloc (.cells #[.slice A3 k3 k3, .bool f3, .slice A4 k4 k4, .bool f4] 113)) w5.heap.size A1 k1 f1 A2 k2 f2 ∧ FB ((w5.alloc (.cells #[.slice A1 k1 k1, .bool f1, .slice A2 k2 k2, .bool f2] 113)).alloc (.cells #[.slice A3 k3 k3, .bool f3, .slice A4 k4 k4, .bool f4] 113)) (w5.heap.size + 1) A3 k3 f3 A4 k4 f4) := ⟨by
   refine ⟨(FB.new w5 _ _ _ _ _ _).alloc _, ?_⟩
   have h := FB.new (w5.alloc (.cells #[.slice A1 k1 k1, .bool f1, .slice A2 k2 k2, .bool f2] 113)) A3 k3 f3 A4 k4 f4
   simpa using h⟩
  have HA : Aside0 (Below w.heap.size w ((w5.alloc (.cells #[.slice A1 k1 k1, .bool f1, .slice A2 k2 k2, .bool f2] 113)).alloc (.cells #[.slice A3 k3 k3, .bool f3, .slice A4 k4 k4, .bool f4] 113)) ∧ w5.heap.size + 2 ≤ ((w5.alloc (.cells #[.slice A1 k1 k1, .bool f1, .slice A2 k2 k2, .bool f2] 113)).alloc (.cells #[.slice A3 k3 k3, .bool f3, .slice A4 k4 k4, .bool f4] 113)).heap.size ∧ w.heap.size ≤ w5.heap.size) := ⟨bl, by simp, HB.out.size⟩
  have HN1 := Aside0.mk (HM1.out.up ((by repeat (first | exact Below.refl _ _ | apply below_alloc)) : Below w5.heap.size w5 ((w5.alloc (.cells #[.slice A1 k1 k1, .bool f1, .slice A2 k2 k2, .bool f2] 113)).alloc (.cells #[.slice A3 k3 k3, .bool f3, .slice A4 k4 k4, .bool f4] 113))))
  have HN2 := Aside0.mk (HM2.out.up ((by repeat (first | exact Below.refl _ _ | apply below_alloc)) : Below w5.heap.size w5 ((w5.alloc (.cells #[.slice A1 k1 k1, .bool f1, .slice A2 k2 k2, .bool f2] 113)).alloc (.cells #[.slice A3 k3 k3, .bool f3, .slice A4 k4 k4, .bool f4] 113))))
  have HN3 := Aside0.mk (HM3.out.up ((by repeat (first | exact Below.refl _ _ | apply below_alloc)) : Below w5.heap.size w5 ((w5.alloc (.cells #[.slice A1 k1 k1, .bool f1, .slice A2 k2 k2, .bool f2] 113)).alloc (.cells #[.slice A3 k3 k3, .bool f3, .slice A4 k4 k4, .bool f4] 113))))
  have HN4 := Aside0.mk (HM4.out.up ((by repeat (first | exact Below.refl _ _ | apply below_alloc)) : Below w5.heap.size w5 ((w5.alloc (.cells #[.slice A1 k1 k1, .bool f1, .slice A2 k2 k2, .bool f2] 113)).alloc (.cells #[.slice A3 k3 k3, .bool f3, .slice A4 k4 k4, .bool f4] 113))))
  clear HM1 HM2 HM3 HM4
  generalize ((w5.alloc (.cells #[.slice A1 k1 k1, .bool f1, .slice A2 k2 k2, .bool f2] 113)).alloc (.cells #[.slice A3 k3 k3, .bool f3, .slice A4 k4 k4, .bool f4] 113)) = wr at *
  generalize w5.heap.size = b0 at *
  clear HB hc2 hc3 hc5 hf2 hf3 hf5 hb2 hb3 hb5
  have HX : Aside0 (wr.cell? ⟨b0, 0, none⟩ = some (.slice A1 k1 k1) ∧ wr.cell? ⟨b0, 1, none⟩ = some (.bool f1) ∧ wr.cell? ⟨b0, 2, none⟩ = some (.slice A2 k2 k2) ∧ wr.cell? ⟨b0, 3, none⟩ = some (.bool f2) ∧ wr.cell? ⟨b0 + 1, 0, none⟩ = some (.slice A3 k3 k3) ∧ wr.cell? ⟨b0 + 1, 1, none⟩ = some (.bool f3) ∧ wr.cell? ⟨b0 + 1, 2, none⟩ = some (.slice A4 k4 k4) ∧ wr.cell? ⟨b0 + 1, 3, none⟩ = some (.bool f4)) :=
   ⟨HZ.out.1.cell0, HZ.out.1.cell1, HZ.out.1.cell2, HZ.out.1.cell3, HZ.out.2.cell0, HZ.out.2.cell1, HZ.out.2.cell2, HZ.out.2.cell3⟩
  have KP : Aside0 (∀ V, Below (b0 + 2) wr V → (fun V => V.cell? ⟨b0, 0, none⟩ = some (.slice A1 k1 k1) ∧ V.cell? ⟨b0, 1, none⟩ = some (.bool f1) ∧ V.cell? ⟨b0, 2, none⟩ = some (.slice A2 k2 k2) ∧ V.cell? ⟨b0, 3, none⟩ = some (.bool f2) ∧ V.cell? ⟨b0 + 1, 0, none⟩ = some (.slice A3 k3 k3) ∧ V.cell? ⟨b0 + 1, 1, none⟩ = some (.bool f3) ∧ V.cell? ⟨b0 + 1, 2, none⟩ = some (.slice A4 k4 k4) ∧ V.cell? ⟨b0 + 1, 3, none⟩ = some (.bool f4) ∧ Below (b0 + 2) wr V) V) := ⟨fun V hBB => ⟨keepB hBB (by omega) HX.out.1, keepB hBB (by omega) HX.out.2.1, keepB hBB (by omega) HX.out.2.2.1, keepB hBB (by omega) HX.out.2.2.2.1, keepB hBB (by omega) HX.out.2.2.2.2.1, keepB hBB (by omega) HX.out.2.2.2.2.2.1, keepB hBB (by omega) HX.out.2.2.2.2.2.2.1, keepB hBB (by omega) HX.out.2.2.2.2.2.2.2, hBB⟩⟩
  refine wq KP fun hHeld => ?_
  refine tp 0 ?_
  try simp only [PU]
  refine tp 1 ?_
  try simp only [PU]
  refine tp 2 ?_
  try simp only [PU]
  refine tp 3 ?_
  try simp only [PU]
  refine tp 5 ?_
  try simp only [PU]
  refine tp 6 ?_
  try simp only [PU]
  refine tp 7 ?_
  try simp only [PU]
  refine tp 8 ?_
  try simp only [PU]
  refine tc 4 fun K hK => ?_
  go_simp
  (go_at_call 71; (with_reducible refine (T1.out _ _ _ _ _ (HN1.out.up (below_drew1 (Below.refl _ _))) (HN4.out.up (below_drew1 (Below.refl _ _)))).mono ?_); rintro e wm ⟨A5, k5, rfl, hm5, hbq⟩; have hm5 := Aside0.mk hm5; have hm3 := Aside0.mk ((HN3.out.up (below_drew1 (Below.refl _ _))).up hbq); have hm2 := Aside0.mk ((HN2.out.up (below_drew1 (Below.refl _ _))).up hbq))
  refine hK.out _ _ ?_ fun hHeld => ?_
  ·(first | exact KP.out _ (bKeep hbq hHeld.2.2.2.2.2.2.2.2 (by have := HA.out.2; omega)) | (refine KP.out _ ?_; repeat (first | exact hHeld.2.2.2.2.2.2.2.2 | refine Below.setCell ?_ (by first | (simp; done) | (simp; omega)) _)))
  clear hK K; try simp only [PU]
  refine tc 9 fun K hK => ?_
  go_simp
  (go_at_call 71; (with_reducible refine (T2.out _ _ _ _ _ hm3.out hm2.out).mono ?_); rintro e wm ⟨A6, k6, rfl, hm6, hbq⟩; have hm6 := Aside0.mk hm6; have hm5 := Aside0.mk (hm5.out.up hbq))
  refine hK.out _ _ ?_ fun hHeld => ?_
  ·(first | exact KP.out _ (bKeep hbq hHeld.2.2.2.2.2.2.2.2 (by have := HA.out.2; omega)) | (refine KP.out _ ?_; repeat (first | exact hHeld.2.2.2.2.2.2.2.2 | refine Below.setCell ?_ (by first | (simp; done) | (simp; omega)) _)))
  clear hK K; try simp only [PU]
  refine tc 10 fun K hK => ?_
  go_simp
  (go_at_call 128; (with_reducible refine (T3.out _ _ _ _ _ hm5.out hm6.out).mono ?_); rintro e wm ⟨rfl, hbq⟩)
  refine hK.out _ _ ?_ fun hHeld => ?_
  ·(first | exact KP.out _ (bKeep hbq hHeld.2.2.2.2.2.2.2.2 (by have := HA.out.2; omega)) | (refine KP.out _ ?_; repeat (first | exact hHeld.2.2.2.2.2.2.2.2 | refine Below.setCell ?_ (by first | (simp; done) | (simp; omega)) _)))
  clear hK K; try simp only [PU]
  refine tp 11 ?_
  try simp only [PU]
  refine tp 12 ?_
  try simp only [PU]
  refine wpAnyH_done (by kernel_rfl) ?_ _
  go_wp2
  go_ret2
  exact ⟨rfl, HA.out.1.trans (hHeld.2.2.2.2.2.2.2.2.mono (by have := HA.out.2.2; omega))⟩
 ·rw [if_neg h]
  obtain ⟨E, hEE⟩ : ∃ E, reE a b = E := ⟨_, rfl⟩
  rw [hEE] at h ⊢
  unfold reE at hEE
  generalize checkR a = e1 at *
  generalize checkR b = e2 at *
  have HF := Aside0.mk hEE
  have HK1 := Aside0.mk hK1
  have HK2 := Aside0.mk hK2
  have hbe : (E != 0) = true := by simp [h]
  clear hEE hK1 hK2 hE
  go_enter Tryz.func59, Tryz.ntmps59
  go_wp2_with (first | (go_at_call 58; ((with_reducible refine (HK1.out _ bl).mono ?_); rintro e w2 ⟨rfl, hb2⟩; obtain ⟨hc2, hf2⟩ := bcell hb2; have nB2 : Aside0 (Below w.heap.size w w2) := sb hb2; clear HB; have HB := nB2; clear nB2; clear HK1)) | (go_at_call 58; ((with_reducible refine (HK2.out _ bl).mono ?_); rintro e w3 ⟨rfl, hb3⟩; obtain ⟨hc3, hf3⟩ := bcell hb3; have nB3 : Aside0 (Below w.heap.size w w3) := sb hb3; clear HB; have HB := nB3; clear nB3)) | (go_at_call 72; (with_reducible refine (first2_ret _ _ E HF.out _ _ (by simp) _).mono ?_); rintro e w' ⟨rfl, rfl⟩))
  go_ret2
  exact ⟨rfl, bl⟩
/-- What lies in memory while Wrap runs: two's variable. -/
structure WP (w : World) (b7 : Nat) (A7 : Option Addr) (k7 n7 : Nat) (V : World) : Prop where
 t : IB V b7 A7 k7 false
 mt : Mag V V.heap.size A7 k7 n7
 bl : Below w.heap.size w V
 le : w.heap.size ≤ b7
theorem WP.below {w V Y : World} {b7 : Nat} {A7 : Option Addr} {k7 n7 : Nat} (h : WP w b7 A7 k7 n7 V) (hb : Below V.heap.size V Y) : WP w b7 A7 k7 n7 Y :=
 ⟨h.t.below hb, h.mt.up hb, h.bl.trans (hb.mono h.bl.size), h.le⟩
theorem WP.put {w V : World} {b7 : Nat} {A7 : Option Addr} {k7 n7 : Nat} (h : WP w b7 A7 k7 n7 V) {A : Option Addr} {L n : Nat} (hm : Mag V V.heap.size A L n) : WP w b7 A L n ((V.setCell ⟨b7, 0, none⟩ (.slice A L L)).setCell ⟨b7, 1, none⟩ (.bool false)) :=
 ⟨h.t.put _ _ _, (h.t.mag hm _ _).more (by simp), (h.bl.setCell (p := ⟨b7, 0, none⟩) h.le _).setCell (p := ⟨b7, 1, none⟩) h.le _, h.le⟩
/-- What FromDecimal answers. -/
def fdE (s : ByteArray) : Int := if cutF 46 s = false ∨ digitsB (cutA 46 s) = false ∨ digitsB (cutB 46 s) = false then 1 else if 120 < (cutA 46 s).size + (cutB 46 s).size then 4 else 0
def fdN (s : ByteArray) : Int := dv ((cutA 46 s).data.toList ++ (cutB 46 s).data.toList)
def fdS (s : ByteArray) : ByteArray := if fdE s = 0 then rsS (fdN s) (10 ^ (cutB 46 s).size) else ⟨#[]⟩
def fdR (s : ByteArray) : Int := if fdE s = 0 then rsE (fdN s) (10 ^ (cutB 46 s).size) else fdE s
theorem ten_dig (i : Nat) : Dig (i + 1) ((10 : Int) ^ i) := by
 unfold Dig
 rw [Int.natAbs_pow]
 exact Nat.pow_lt_pow_right (by decide) (by omega)
theorem small_ten (w : World) : Calls Tryz.prog 166 #[.int .u32 10] w fun e w' => ∃ A k, e = .returned (.agg #[.slice A k k, .bool false]) ∧ Mag w' w'.heap.size A k 10 ∧ Below w.heap.size w w' := small_calls (d := 10) (by decide) w
theorem digits_body {s : ByteArray} (h : digitsB s = true) : bodyB s = s ∧ minusB s = false := by
 have hd : DG s.data.toList := isDig_of (by unfold digitsB at h; simp only [Bool.and_eq_true] at h; exact h.1)
 have hp : Lib.hasPrefix s.data.toList [45] = false := by
  cases hl : s.data.toList with
  | nil => rfl
  | cons c cs =>
    have h1 := hd c (by rw [hl]; simp)
    have hc : ¬ (45 : UInt8) = c := by
     intro e
     subst e
     revert h1
     decide
    simp [Lib.hasPrefix, List.isPrefixOf, hc]
 unfold bodyB minusB Lib.trimPrefix
 rw [hp]
 exact ⟨by simp, rfl⟩
theorem digits_append {a b : ByteArray} (ha : digitsB a = true) (hb : digitsB b = true) : digitsB (a ++ b) = true := by
 unfold digitsB at *
 simp only [Bool.and_eq_true, decide_eq_true_eq] at *
 refine ⟨?_, ?_⟩
 ·rw [show (a ++ b).data.toList = a.data.toList ++ b.data.toList by simp, List.all_append, ha.1, hb.1]; rfl
 ·rw [ByteArray.size_append]; omega
theorem d10 : Dig 2 10 := by unfold Dig; decide
theorem fd_ok (s : ByteArray) (hs : s.size ≤ 90000) (h1 : cutF 46 s = true) (h2 : digitsB (cutA 46 s) = true) (h3 : digitsB (cutB 46 s) = true) (h4 : (cutA 46 s).size + (cutB 46 s).size ≤ 120) (w : World) (hE : EN w) :
 Calls Tryz.prog 91 #[.string s] w fun e w' => e = .returned (.tuple #[.string (rsS (fdN s) (10 ^ (cutB 46 s).size)), .int .i64 (rsE (fdN s) (10 ^ (cutB 46 s).size))]) ∧ Below w.heap.size w w' := by
 obtain ⟨hz1, hz2⟩ := cut_size 46 s
 have hC : ∀ W, Below w.heap.size w W → Calls Tryz.prog 121 #[.string s, .string ⟨#[46]⟩] W fun e w' => e = .returned (.tuple #[.string (cutA 46 s), .string (cutB 46 s), .bool (cutF 46 s)]) ∧ Below W.heap.size W w' := fun W hb => cut1_calls 46 s hs W (hE.below hb)
 rw [h1] at hC
 unfold fdN
 have hD1 := isDigits_calls (cutA 46 s) (by omega)
 have hD2 := isDigits_calls (cutB 46 s) (by omega)
 rw [h2] at hD1
 rw [h3] at hD2
 have hab := digits_append h2 h3
 generalize cutA 46 s = a at *
 generalize cutB 46 s = b at *
 have hP := parse_calls (a ++ b) (by rw [ByteArray.size_append]; omega) (by rw [(digits_body hab).1]; exact hab)
 rw [(digits_body hab).1, (digits_body hab).2, show (a ++ b).data.toList = a.data.toList ++ b.data.toList by simp] at hP
 have hdg : Dig 130 (dv (a.data.toList ++ b.data.toList) : Int) := by
  have hd : DG (a ++ b).data.toList := isDig_of (by unfold digitsB at hab; simp only [Bool.and_eq_true] at hab; exact hab.1)
  rw [show (a ++ b).data.toList = a.data.toList ++ b.data.toList by simp] at hd
  have := dv_lt _ hd
  unfold Dig
  refine Nat.lt_of_lt_of_le (show (dv (a.data.toList ++ b.data.toList) : Int).natAbs < _ from by simpa using this) (Nat.pow_le_pow_right (by decide) ?_)
  have e1 : a.data.toList.length = a.size := by simp
  have e2 : b.data.toList.length = b.size := by simp
  first | omega | (rw [List.length_append]; omega) | (simp; omega)
 simp only [Bool.false_and] at hP
 have hn : ∀ N : Nat, decide ((N : Int) < 0) = false := fun N => decide_eq_false (by omega)
 obtain ⟨N, hN⟩ : ∃ N, dv (a.data.toList ++ b.data.toList) = N := ⟨_, rfl⟩
 rw [hN] at hP hdg ⊢
 obtain ⟨n, hbn⟩ : ∃ n, b.size = n := ⟨_, rfl⟩
 rw [hbn] at h4 ⊢
 obtain ⟨mn, hmn⟩ : ∃ mn : Nat → Nat, ∀ i, mn i = ((10 : Int) ^ i).natAbs := ⟨_, fun _ => rfl⟩
 have hpos : ∀ i : Nat, decide ((10 : Int) ^ i < 0) = false := fun i => decide_eq_false (by have : (0 : Int) < 10 ^ i := Int.pow_pos (by decide); omega)
 have HT : Aside0 (∀ (W : World) (A1 A2 : Option Addr) (L1 L2 : Nat) (i : Nat), i < n → Mag W W.heap.size A1 L1 (mn i) → Mag W W.heap.size A2 L2 10 → Calls Tryz.prog 71 #[.agg #[.slice A1 L1 L1, .bool false], .agg #[.slice A2 L2 L2, .bool false]] W fun e w' => ∃ A k, e = .returned (.agg #[.slice A k k, .bool false]) ∧ Mag w' w'.heap.size A k (mn (i + 1)) ∧ Below W.heap.size W w') := ⟨fun W A1 A2 L1 L2 i hi h1 h2 => by
  rw [hmn] at h1
  have h := op2_times (x := 10 ^ i) (y := 10) ((ten_dig i).more (by omega)) (d10.more (by omega)) W A1 A2 L1 L2 h1 h2
  unfold iV at h
  rw [← Int.pow_succ, hpos, hpos] at h
  rw [hmn]
  exact h⟩
 have hL : ∀ (W : World) (A1 A2 : Option Addr) (L1 L2 : Nat), Mag W W.heap.size A1 L1 N → Mag W W.heap.size A2 L2 (mn n) → Calls Tryz.prog 136 #[fV A1 L1 N A2 L2 (10 ^ n)] W fun e w' => ∃ A k A' k', e = .returned (fV A k ((N : Int) / lowD N (10 ^ n)) A' k' ((10 : Int) ^ n / lowD N (10 ^ n))) ∧ Mag w' w'.heap.size A k ((N : Int) / lowD N (10 ^ n)).natAbs ∧ Mag w' w'.heap.size A' k' ((10 : Int) ^ n / lowD N (10 ^ n)).natAbs ∧ Below W.heap.size W w' := fun W A1 A2 L1 L2 m1 m2 =>
  lowest_calls (p := (N : Int)) m1 (hmn n ▸ m2) (hdg.more (by omega)) ((ten_dig n).more (by omega)) (by have : (0 : Int) < 10 ^ n := Int.pow_pos (by decide); omega)
 have hT : ∀ (W : World) (A1 A2 : Option Addr) (L1 L2 : Nat), Below w.heap.size w W → Mag W W.heap.size A1 L1 ((N : Int) / lowD N (10 ^ n)).natAbs → Mag W W.heap.size A2 L2 ((10 : Int) ^ n / lowD N (10 ^ n)).natAbs → Calls Tryz.prog 137 #[fV A1 L1 ((N : Int) / lowD N (10 ^ n)) A2 L2 ((10 : Int) ^ n / lowD N (10 ^ n))] W fun e w' => e = .returned (.tuple #[.string (rsS N (10 ^ n)), .int .i64 (rsE N (10 ^ n))]) ∧ Below W.heap.size W w' := fun W A1 A2 L1 L2 hb m1 m2 => ftext_calls m1 m2 (Nat.le_refl _) (hE.tens.below hb)
 have HS : Aside0 (∀ w, Calls Tryz.prog 166 #[.int .u32 1] w fun e w' => ∃ A k, e = .returned (.agg #[.slice A k k, .bool false]) ∧ Mag w' w'.heap.size A k (mn 0) ∧ Below w.heap.size w w') := ⟨fun w => by rw [hmn]; exact small_one w⟩
 have HST := Aside0.mk small_ten
 have hd4 : decide ((120 : Int) < (a.size : Int) + (b.size : Int)) = false := decide_eq_false (by omega)
 unfold fV at hL hT
 rw [hn, hpos] at hL
 generalize rsS N (10 ^ n) = S at *
 generalize rsE N (10 ^ n) = R at *
 generalize decide ((N : Int) / lowD N (10 ^ n) < 0) = g1 at *
 generalize ((N : Int) / lowD N (10 ^ n)).natAbs = n1 at *
 generalize decide ((10 : Int) ^ n / lowD N (10 ^ n) < 0) = g2 at *
 generalize ((10 : Int) ^ n / lowD N (10 ^ n)).natAbs = n2 at *
 have HP := Aside0.mk hP
 have HC := Aside0.mk hC
 have HD1 := Aside0.mk hD1
 have HD2 := Aside0.mk hD2
 have HL := Aside0.mk hL
 have HTX := Aside0.mk hT
 have HB := Aside0.mk (Below.refl w.heap.size w)
 clear hP hC hD1 hD2 hL hT hn hpos hmn hN hdg hab h1 h2 h3 hE
 go_enter Tryz.func91, Tryz.ntmps91
 go_wp2_with (first | (go_at_call 121; ((with_reducible refine (HC.out _ bl).mono ?_); rintro e w1 ⟨rfl, hb1⟩; obtain ⟨hc1, hf1⟩ := bcell hb1; have nB1 : Aside0 (Below w.heap.size w w1) := sb hb1; clear HB; have HB := nB1; clear nB1)) | (go_at_call 165; ((with_reducible refine (HD1.out _).mono ?_); rintro e w2 ⟨rfl, hb2⟩; obtain ⟨hc2, hf2⟩ := bcell hb2; have nB2 : Aside0 (Below w.heap.size w w2) := sb hb2; clear HB; have HB := nB2; clear nB2; clear HD1)) | (go_at_call 165; ((with_reducible refine (HD2.out _).mono ?_); rintro e w3 ⟨rfl, hb3⟩; obtain ⟨hc3, hf3⟩ := bcell hb3; have nB3 : Aside0 (Below w.heap.size w w3) := sb hb3; clear HB; have HB := nB3; clear nB3)) | (go_at_call 166; ((with_reducible refine (HS.out _).mono ?_); rintro e w4 ⟨Ao, ko, rfl, hmo, hb4⟩; obtain ⟨hc4, hf4⟩ := bcell hb4; have nB4 : Aside0 (Below w.heap.size w w4) := sb hb4; clear HB; have HB := nB4; clear nB4; have HMO := Aside0.mk hmo; clear hmo)))
 have I0 : Aside0 (WP w w4.heap.size Ao ko (mn 0) (w4.alloc (.cells #[.slice Ao ko ko, .bool false] 111))) := ⟨by
  have hb : Below w4.heap.size w4 (w4.alloc (.cells #[.slice Ao ko ko, .bool false] 111)) := (by repeat (first | exact Below.refl _ _ | apply below_alloc))
  exact ⟨IB.new w4 _ _ _, HMO.out.up hb, HB.out.trans (hb.mono HB.out.size), HB.out.size⟩⟩
 generalize (w4.alloc (.cells #[.slice Ao ko ko, .bool false] 111)) = W0 at *
 generalize w4.heap.size = b7 at *
 clear HMO HB hb4 hc1 hc2 hc3 hc4 hf1 hf2 hf3 hf4 hb1 hb2 hb3
 have hbs : (b.size : Int) = (n : Int) := by omega
 go_loopw [35] (fun v35 W => ∃ (i : Nat) (A : Option Addr) (L : Nat), v35 = .int .i64 (i : Int) ∧ i ≤ n ∧ Aside0 (WP w b7 A L (mn i) W)) (fun v35 _ => n - (RowKit.intOf v35).toNat)
 case atStart => exact ⟨0, Ao, ko, rfl, Nat.zero_le _, I0⟩
 case round =>
  obtain ⟨i, A7, k7, rfl, hi, HI⟩ := hrel
  have c0 := HI.out.t.cell0
  have c1 := HI.out.t.cell1
  have e1 : IntKind.i64.wrap ((i : Int) + 1) = ((i + 1 : Nat) : Int) := by rw [IntWalk.i64_in _ (by omega)]; omega
  have HA : Aside0 (Below w.heap.size w wr ∧ b7 + 1 ≤ wr.heap.size) := ⟨HI.out.bl, HI.out.t.lt⟩
  by_cases hlt : i < n
  ·have hlt' : (i : Int) < (n : Int) := by omega
   go_wp2_with fail
   refine wp_region_held_drew (S := (fun _ => True)) (by kernel_rfl) ?_ (fun hHeld => ?_)
   ·trivial
   obtain ⟨cur, hcur⟩ : ∃ cur, wr.drew = cur := ⟨_, rfl⟩
   rw [hcur]
   have HO : Aside0 (WP w b7 A7 k7 (mn i) cur) := ⟨by subst hcur; exact HI.out.below (below_drew1 (Below.refl _ _))⟩
   clear hcur c0 c1
   have c0 := HO.out.t.cell0
   have c1 := HO.out.t.cell1
   refine wpAnyH_ready (rs := [0, 1]) (by kernel_rfl) (by simp) ?_
   refine AllReadyH.cons rfl (fun K hK => ?_) (AllReadyH.cons rfl (fun K hK => ?_) (AllReadyH.nil))
   ·go_simp
    refine hK.out _ _ ?_ fun hHeld => ?_
    ·trivial
    clear hK K; try simp only [PU]
    refine tc 1 fun K hK => ?_
    go_simp
    (go_at_call 166; (with_reducible refine (HST.out _).mono ?_); rintro e cur1 ⟨As, ks, rfl, hms, hbq⟩; have HO := Aside0.mk (HO.out.below hbq); have HMS := Aside0.mk hms; clear hms; have c0 := HO.out.t.cell0; have c1 := HO.out.t.cell1)
    refine hK.out _ _ ?_ fun hHeld => ?_
    ·trivial
    clear hK K; try simp only [PU]
    refine tc 2 fun K hK => ?_
    go_simp
    (go_at_call 71; (with_reducible refine (HT.out _ _ _ _ _ i hlt HO.out.mt HMS.out).mono ?_); rintro e cur2 ⟨At, kt, rfl, hmt, hbq⟩; have HO := Aside0.mk (HO.out.below hbq); have HMT := Aside0.mk hmt; clear hmt; have c0 := HO.out.t.cell0; have c1 := HO.out.t.cell1; have f0 := HO.out.t.fr 0; have f1 := HO.out.t.fr 1)
    refine hK.out _ _ ?_ fun hHeld => ?_
    ·trivial
    clear hK K; try simp only [PU]
    refine tc 3 fun K hK => ?_
    go_simp
    (have HE := Aside0.mk (HO.out.put HMT.out))
    refine hK.out _ _ ?_ fun hHeld => ?_
    ·trivial
    clear hK K; try simp only [PU]
    refine wpAnyH_done (by kernel_rfl) ?_ _
    go_wp2
    go_roundw
    case rel => exact ⟨i + 1, At, kt, by first | rfl | go_num, hlt, HE⟩
    case measure => simp [RowKit.intOf]; omega
   ·go_simp
    (go_at_call 166; (with_reducible refine (HST.out _).mono ?_); rintro e cur1 ⟨As, ks, rfl, hms, hbq⟩; have HO := Aside0.mk (HO.out.below hbq); have HMS := Aside0.mk hms; clear hms; have c0 := HO.out.t.cell0; have c1 := HO.out.t.cell1)
    refine hK.out _ _ ?_ fun hHeld => ?_
    ·trivial
    clear hK K; try simp only [PU]
    refine tc 0 fun K hK => ?_
    go_simp
    refine hK.out _ _ ?_ fun hHeld => ?_
    ·trivial
    clear hK K; try simp only [PU]
    refine tc 2 fun K hK => ?_
    go_simp
    (go_at_call 71; (with_reducible refine (HT.out _ _ _ _ _ i hlt HO.out.mt HMS.out).mono ?_); rintro e cur2 ⟨At, kt, rfl, hmt, hbq⟩; have HO := Aside0.mk (HO.out.below hbq); have HMT := Aside0.mk hmt; clear hmt; have c0 := HO.out.t.cell0; have c1 := HO.out.t.cell1; have f0 := HO.out.t.fr 0; have f1 := HO.out.t.fr 1)
    refine hK.out _ _ ?_ fun hHeld => ?_
    ·trivial
    clear hK K; try simp only [PU]
    refine tc 3 fun K hK => ?_
    go_simp
    (have HE := Aside0.mk (HO.out.put HMT.out))
    refine hK.out _ _ ?_ fun hHeld => ?_
    ·trivial
    clear hK K; try simp only [PU]
    refine wpAnyH_done (by kernel_rfl) ?_ _
    go_wp2
    go_roundw
    case rel => exact ⟨i + 1, At, kt, by first | rfl | go_num, hlt, HE⟩
    case measure => simp [RowKit.intOf]; omega
  ·have hlt' : ¬ (i : Int) < (n : Int) := by omega
   obtain rfl : i = n := by omega
   have hcc : ¬ 9223372036854775807 < a.size + i := by omega
   go_wp2_with fail
   have HX : Aside0 (wr.cell? ⟨b7, 0, none⟩ = some (.slice A7 k7 k7) ∧ wr.cell? ⟨b7, 1, none⟩ = some (.bool false)) := ⟨c0, c1⟩
   clear c0 c1
   have KP : Aside0 (∀ V, Below (b7 + 1) wr V → (fun V => V.cell? ⟨b7, 0, none⟩ = some (.slice A7 k7 k7) ∧ V.cell? ⟨b7, 1, none⟩ = some (.bool false) ∧ Below (b7 + 1) wr V) V) := ⟨fun V hBB => ⟨keepB hBB (by omega) HX.out.1, keepB hBB (by omega) HX.out.2, hBB⟩⟩
   refine wq KP fun hHeld => ?_
   obtain ⟨cur, hcur⟩ : ∃ cur, wr.drew = cur := ⟨_, rfl⟩
   rw [hcur] at hHeld ⊢
   have HO : Aside0 (WP w b7 A7 k7 (mn i) cur) := ⟨by subst hcur; exact HI.out.below (below_drew1 (Below.refl _ _))⟩
   clear hcur
   refine tp 0 ?_
   try simp only [PU]
   refine tp 1 ?_
   try simp only [PU]
   refine tp 2 ?_
   try simp only [PU]
   refine tp 4 ?_
   try simp only [PU]
   refine tc 3 fun K hK => ?_
   go_simp
   (go_at_call 124; (with_reducible refine (HP.out _).mono ?_); rintro e cur1 ⟨Ap, kp, rfl, hm, hbq⟩; have HO := Aside0.mk (HO.out.below hbq); have HMP := Aside0.mk hm; clear hm)
   refine hK.out _ _ ?_ fun hHeld => ?_
   ·(first | exact KP.out _ (bKeep hbq hHeld.2.2 (by have := HA.out.2; omega)) | (refine KP.out _ ?_; repeat (first | exact hHeld.2.2 | refine Below.setCell ?_ (by first | (simp; done) | (simp; omega)) _)))
   clear hK K; try simp only [PU]
   refine tp 5 ?_
   try simp only [PU]
   refine tc 6 fun K hK => ?_
   go_simp
   (go_at_call 136; (with_reducible refine (HL.out _ _ _ _ _ HMP.out HO.out.mt).mono ?_); rintro e cur2 ⟨A5, k5, A6, k6, rfl, hm5, hm6, hbq⟩; have HO := Aside0.mk (HO.out.below hbq); have HM5 := Aside0.mk hm5; have HM6 := Aside0.mk hm6; clear hm5 hm6)
   refine hK.out _ _ ?_ fun hHeld => ?_
   ·(first | exact KP.out _ (bKeep hbq hHeld.2.2 (by have := HA.out.2; omega)) | (refine KP.out _ ?_; repeat (first | exact hHeld.2.2 | refine Below.setCell ?_ (by first | (simp; done) | (simp; omega)) _)))
   clear hK K; try simp only [PU]
   refine tc 7 fun K hK => ?_
   go_simp
   (go_at_call 137; (with_reducible refine (HTX.out _ _ _ _ _ HO.out.bl HM5.out HM6.out).mono ?_); rintro e cur3 ⟨rfl, hbq⟩; have HO := Aside0.mk (HO.out.below hbq))
   refine hK.out _ _ ?_ fun hHeld => ?_
   ·(first | exact KP.out _ (bKeep hbq hHeld.2.2 (by have := HA.out.2; omega)) | (refine KP.out _ ?_; repeat (first | exact hHeld.2.2 | refine Below.setCell ?_ (by first | (simp; done) | (simp; omega)) _)))
   clear hK K; try simp only [PU]
   refine tp 8 ?_
   try simp only [PU]
   refine tp 9 ?_
   try simp only [PU]
   refine tp 10 ?_
   try simp only [PU]
   refine tp 11 ?_
   try simp only [PU]
   refine wpAnyH_done (by kernel_rfl) ?_ _
   go_wp2
   go_ret2
   exact ⟨rfl, HO.out.bl⟩
theorem fd_bad (s : ByteArray) (hs : s.size ≤ 90000) (h : fdE s ≠ 0) (w : World) (hE : EN w) :
 Calls Tryz.prog 91 #[.string s] w fun e w' => e = .returned (.tuple #[.string ⟨#[]⟩, .int .i64 (fdE s)]) ∧ Below w.heap.size w w' := by
 obtain ⟨hz1, hz2⟩ := cut_size 46 s
 have hC : ∀ W, Below w.heap.size w W → Calls Tryz.prog 121 #[.string s, .string ⟨#[46]⟩] W fun e w' => e = .returned (.tuple #[.string (cutA 46 s), .string (cutB 46 s), .bool (cutF 46 s)]) ∧ Below W.heap.size W w' := fun W hb => cut1_calls 46 s hs W (hE.below hb)
 have hD1 := isDigits_calls (cutA 46 s) (by omega)
 have hD2 := isDigits_calls (cutB 46 s) (by omega)
 have HB := Aside0.mk (Below.refl w.heap.size w)
 unfold fdE at *
 generalize cutA 46 s = a at *
 generalize cutB 46 s = b at *
 generalize digitsB a = x at *
 generalize digitsB b = y at *
 generalize cutF 46 s = f at *
 have HC := Aside0.mk hC
 have HD1 := Aside0.mk hD1
 have HD2 := Aside0.mk hD2
 clear hC hD1 hD2 hE
 cases f
 ·rw [if_pos (.inl rfl)]
  clear h
  go_enter Tryz.func91, Tryz.ntmps91
  go_wp2_with (first | (go_at_call 121; ((with_reducible refine (HC.out _ bl).mono ?_); rintro e w1 ⟨rfl, hb1⟩; obtain ⟨hc1, hf1⟩ := bcell hb1; have nB1 : Aside0 (Below w.heap.size w w1) := sb hb1; clear HB; have HB := nB1; clear nB1)))
  go_ret2
  exact ⟨rfl, bl⟩
 ·cases x
  ·rw [if_pos (.inr (.inl rfl))]
   clear h
   go_enter Tryz.func91, Tryz.ntmps91
   go_wp2_with (first | (go_at_call 121; ((with_reducible refine (HC.out _ bl).mono ?_); rintro e w1 ⟨rfl, hb1⟩; obtain ⟨hc1, hf1⟩ := bcell hb1; have nB1 : Aside0 (Below w.heap.size w w1) := sb hb1; clear HB; have HB := nB1; clear nB1)) | (go_at_call 165; ((with_reducible refine (HD1.out _).mono ?_); rintro e w2 ⟨rfl, hb2⟩; obtain ⟨hc2, hf2⟩ := bcell hb2; have nB2 : Aside0 (Below w.heap.size w w2) := sb hb2; clear HB; have HB := nB2; clear nB2; clear HD1)) | (go_at_call 165; ((with_reducible refine (HD2.out _).mono ?_); rintro e w3 ⟨rfl, hb3⟩; obtain ⟨hc3, hf3⟩ := bcell hb3; have nB3 : Aside0 (Below w.heap.size w w3) := sb hb3; clear HB; have HB := nB3; clear nB3)))
   go_ret2
   exact ⟨rfl, bl⟩
  ·cases y
   ·rw [if_pos (.inr (.inr rfl))]
    clear h
    go_enter Tryz.func91, Tryz.ntmps91
    go_wp2_with (first | (go_at_call 121; ((with_reducible refine (HC.out _ bl).mono ?_); rintro e w1 ⟨rfl, hb1⟩; obtain ⟨hc1, hf1⟩ := bcell hb1; have nB1 : Aside0 (Below w.heap.size w w1) := sb hb1; clear HB; have HB := nB1; clear nB1)) | (go_at_call 165; ((with_reducible refine (HD1.out _).mono ?_); rintro e w2 ⟨rfl, hb2⟩; obtain ⟨hc2, hf2⟩ := bcell hb2; have nB2 : Aside0 (Below w.heap.size w w2) := sb hb2; clear HB; have HB := nB2; clear nB2; clear HD1)) | (go_at_call 165; ((with_reducible refine (HD2.out _).mono ?_); rintro e w3 ⟨rfl, hb3⟩; obtain ⟨hc3, hf3⟩ := bcell hb3; have nB3 : Aside0 (Below w.heap.size w w3) := sb hb3; clear HB; have HB := nB3; clear nB3)))
    go_ret2
    exact ⟨rfl, bl⟩
   ·rw [if_neg (by simp)] at h ⊢
    by_cases h4 : 120 < a.size + b.size
    ·rw [if_pos h4]
     have hd4 : decide ((120 : Int) < (a.size : Int) + (b.size : Int)) = true := decide_eq_true (by omega)
     clear h
     go_enter Tryz.func91, Tryz.ntmps91
     go_wp2_with (first | (go_at_call 121; ((with_reducible refine (HC.out _ bl).mono ?_); rintro e w1 ⟨rfl, hb1⟩; obtain ⟨hc1, hf1⟩ := bcell hb1; have nB1 : Aside0 (Below w.heap.size w w1) := sb hb1; clear HB; have HB := nB1; clear nB1)) | (go_at_call 165; ((with_reducible refine (HD1.out _).mono ?_); rintro e w2 ⟨rfl, hb2⟩; obtain ⟨hc2, hf2⟩ := bcell hb2; have nB2 : Aside0 (Below w.heap.size w w2) := sb hb2; clear HB; have HB := nB2; clear nB2; clear HD1)) | (go_at_call 165; ((with_reducible refine (HD2.out _).mono ?_); rintro e w3 ⟨rfl, hb3⟩; obtain ⟨hc3, hf3⟩ := bcell hb3; have nB3 : Aside0 (Below w.heap.size w w3) := sb hb3; clear HB; have HB := nB3; clear nB3)))
     go_ret2
     exact ⟨rfl, bl⟩
    ·rw [if_neg h4] at h
     exact absurd rfl h
theorem fromDecimal_calls (s : ByteArray) (hs : s.size ≤ 90000) (w : World) (hE : EN w) :
 Calls Tryz.prog 91 #[.string s] w fun e w' => e = .returned (.tuple #[.string (fdS s), .int .i64 (fdR s)]) ∧ Below w.heap.size w w' := by
 unfold fdS fdR
 by_cases h : fdE s = 0
 ·rw [if_pos h, if_pos h]
  unfold fdE at h
  split at h
  ·omega
  ·rename_i h1
   split at h
   ·omega
   ·rename_i h2
    refine fd_ok s hs ?_ ?_ ?_ (by omega) w hE
    ·cases hf : cutF 46 s
     ·exact absurd (.inl hf) h1
     ·rfl
    ·cases hf : digitsB (cutA 46 s)
     ·exact absurd (.inr (.inl hf)) h1
     ·rfl
    ·cases hf : digitsB (cutB 46 s)
     ·exact absurd (.inr (.inr hf)) h1
     ·rfl
 ·rw [if_neg h, if_neg h]
  exact fd_bad s hs h w hE
theorem minus_neg {s : ByteArray} (h : checkI s = 0) (hm : minusB s = true) : intI s < 0 := by
 have h1 := list_of h
 unfold intI
 rw [if_pos hm]
 rcases Nat.eq_zero_or_pos (dv (bodyB s).data.toList) with h0 | h0
 ·exfalso
  unfold checkI at h
  split at h
  ·omega
  ·split at h
   ·omega
   ·rename_i h2
    have h3 : (bodyB s).data.toList.head? ≠ some 48 := fun e => h2 ⟨e, .inl hm⟩
    have h4 := dec_dv _ h1.1 h1.2.1 (fun e => absurd e h3)
    rw [h0] at h4
    rw [← h4] at h3
    exact h3 (by rw [dec_small (by omega)]; rfl)
 ·omega
end
section
open Go.Proofs.YtnjbinpbkjdjpaaGreatDoorW.PrintLast Go.Proofs.YtnjbinpbkjdjpaaGreatDoorW.PrintMore Go.Proofs.YtnjbinpbkjdjpaaGreatDoorW.PrintWords Go.RowKit Go.Shelf
/-- A world whose iterator over a string stands at a place. -/
def wIt (W : World) (b : Nat) (s : ByteArray) (i : Nat) : World := { W with heap := W.heap.setIfInBounds b (.stringIter s i) }
theorem wIt_at {W : World} {b : Nat} {s : ByteArray} {i j : Nat} (h : W.heap[b]? = some (.stringIter s j)) : (wIt W b s i).heap[b]? = some (.stringIter s i) := by
 have hb : b < W.heap.size := (Array.getElem?_eq_some_iff.1 h).1
 simp [wIt, hb]
theorem wIt_below {w W : World} {b : Nat} {s : ByteArray} {i B : Nat} (h : Below B w W) (hb : B ≤ b) : Below B w (wIt W b s i) :=
 h.trans ⟨rfl, rfl, rfl, by simp [wIt], fun k hk => by
  show (W.heap.setIfInBounds b _)[k]? = _
  rw [Array.getElem?_setIfInBounds_ne (by omega)]⟩
theorem run_next_at (W : World) (b : Nat) (s : ByteArray) (i : Nat) (ty : TypeId) (hb : W.heap[b]? = some (.stringIter s i)) (h : i < s.size) (ha : (s[i]'h).toNat < 128) :
 (Instr.next (.pointer (some ⟨b, 0, none⟩)) true ty).run Tryz.prog W = .ok (.tuple #[.bool true, .int .i64 i, .int .i32 (s[i]'h).toNat]) (wIt W b s (i + 1)) := by
 simp [Instr.next, getObj, setObj, Sem.run_bind, Sem.run, hb, Result.andThen, h, if_true, decode_ascii s i h ha, goInt, wIt]
theorem run_next_none (W : World) (b : Nat) (s : ByteArray) (i : Nat) (ty : TypeId) (hb : W.heap[b]? = some (.stringIter s i)) (h : ¬ i < s.size) :
 (Instr.next (.pointer (some ⟨b, 0, none⟩)) true ty).run Tryz.prog W = .ok (.tuple #[.bool false]) W := by
 simp [Instr.next, getObj, Sem.run, hb, h]
theorem NN.it {W : World} {A : Option Addr} {L c n b i j : Nat} {s : ByteArray} (h : NN W A L c n) (hb : W.heap[b]? = some (.stringIter s j)) : NN (wIt W b s i) A L c n := by
 obtain ⟨h0, h1, h3⟩ := h
 refine ⟨h0, h1, fun hL => ?_⟩
 obtain ⟨b2, rfl, hlt, hc⟩ := h3 hL
 have hne : b2 ≠ b := fun e => by
  subst e
  have := hc 0 hL
  unfold World.cell? at this
  rw [hb] at this
  cases this
 refine ⟨b2, rfl, by simpa [wIt] using hlt, fun k hk => ?_⟩
 rw [← hc k hk]
 exact World.cell?_of_block (w := W) (by show (W.heap.setIfInBounds b _)[b2]? = _; rw [Array.getElem?_setIfInBounds_ne (fun e => hne e.symm)])
/-- What the loop over a string keeps. -/
structure ItS (w : World) (b : Nat) (s : ByteArray) (i : Nat) (W : World) : Prop where
 it : W.heap[b]? = some (.stringIter s i)
 bl : Below w.heap.size w W
theorem ItS.step {w W X : World} {b : Nat} {s : ByteArray} {i : Nat} (h : ItS w b s i W) (hb : Below W.heap.size W X) : ItS w b s i X :=
 ⟨(hb.block b (Array.getElem?_eq_some_iff.1 h.it).1).trans h.it, h.bl.trans (hb.mono h.bl.size)⟩
theorem nn_lit {d : Nat} (h0 : 0 < d) (h1 : d < UU) (W : World) (t : TypeId) : NN (W.alloc (.cells #[.int .u32 d] t)) (some ⟨W.heap.size, 0, none⟩) 1 1 d := by
 refine ⟨Nat.le_refl _, ?_⟩
 rw [show dg UU d = [d] from dg_one UU1 h0 h1]
 exact (lst_one W d t).more (by simp)
theorem dv_sz {l : List UInt8} (h : DG l) : Sz (4 * l.length) (dv l) := ⟨by
 have := dv_lt l h
 rw [Nat.pow_mul]
 exact Nat.lt_of_lt_of_le this (Nat.pow_le_pow_left (by decide) _)⟩
theorem read_calls (s : ByteArray) (hs : s.size ≤ 10000) (hd : DG s.data.toList) (w : World) :
 Calls Tryz.prog 146 #[.string s] w fun e w' => RN w (dv s.data.toList) e w' := by
 have hlen : s.data.toList.length = s.size := by simp
 have HDT : Aside0 (∀ i, DG (s.data.toList.take i)) := ⟨fun i c hc => hd c (List.mem_of_mem_take hc)⟩
 have HSZ : Aside0 (∀ i, Sz 40000 (dv (s.data.toList.take i))) := ⟨fun i => (dv_sz (HDT.out i)).more (by rw [List.length_take]; omega)⟩
 have HST : Aside0 (∀ (i : Nat) (h : i < s.size), 48 ≤ (s[i]'h).toNat ∧ (s[i]'h).toNat ≤ 57 ∧ dv (s.data.toList.take (i + 1)) = dv (s.data.toList.take i) * 10 + ((s[i]'h).toNat - 48)) := ⟨fun i h => by
  have hc := hd (s[i]'h) (by show s.data[i] ∈ _; exact Array.getElem_mem_toList _)
  refine ⟨hc.1, hc.2, ?_⟩
  rw [List.take_succ_eq_append_getElem (by rw [hlen]; exact h), dv_snoc, Nat.mul_comm]
  rfl⟩
 have HEND : Aside0 (s.data.toList.take s.size = s.data.toList) := ⟨List.take_of_length_le (by omega)⟩
 unfold RN
 clear hd hlen
 generalize s.data.toList = l at *
 go_enter Tryz.func146, Tryz.ntmps146
 go_wp2_with fail
 obtain ⟨wa, hwa⟩ : ∃ wa, w.iter s 0 = wa := ⟨_, rfl⟩
 have HI : Aside0 (ItS w w.heap.size s 0 wa) := ⟨by subst hwa; exact ⟨w.iter_heap s 0, below_alloc (Below.refl _ _) _⟩⟩
 rw [hwa]
 clear hwa
 go_loopg [3] s.size (fun k v3 W => ∃ (i : Nat) (A : Option Addr) (L c : Nat), v3 = .slice A L c ∧ i + k = s.size ∧ Aside0 (NN W A L c (dv (l.take i))) ∧ Aside0 (ItS w w.heap.size s i W))
 case atStart => exact ⟨0, none, 0, 0, rfl, by omega, ⟨by rw [List.take_zero]; exact NN.zero _ _ _⟩, HI⟩
 case round =>
  clear HI
  obtain ⟨i, A, L, c, rfl, hik, HN, HI⟩ := hrel
  by_cases hlt : i < s.size
  ·have hst := HST.out i hlt
   have hnx := fun ty => run_next_at wr w.heap.size s i ty HI.out.it hlt (by omega)
   have HN2 := Aside0.mk (HN.out.it (i := i + 1) HI.out.it)
   have HI2 : Aside0 (ItS w w.heap.size s (i + 1) (wIt wr w.heap.size s (i + 1))) := ⟨⟨wIt_at HI.out.it, wIt_below HI.out.bl (Nat.le_refl _)⟩⟩
   clear HN HI
   have HN := HN2
   have HI := HI2
   clear HN2 HI2
   obtain ⟨X, hX⟩ : ∃ X, wIt wr w.heap.size s (i + 1) = X := ⟨_, rfl⟩
   rw [hX] at HN HI
   simp only [hX] at hnx
   clear hX
   generalize (s[i]'hlt).toNat = ch at *
   have hsz := HSZ.out i
   have hsz2 := HSZ.out (i + 1)
   have HV := Aside0.mk hst.2.2
   obtain ⟨hc1, hc2, hc3⟩ := hst
   have HMU : Aside0 (∀ (W : World) (A : Option Addr) (L c g : Nat) (t : TypeId), NN W A L c (dv (l.take i)) → g = W.heap.size → Calls Tryz.prog 173 #[.slice A L c, .slice (some ⟨g, 0, none⟩) 1 1] (W.alloc (.cells #[.int .u32 10] t)) fun e w' => RF W (dv (l.take i) * 10) e w') := ⟨fun W A L c g t h hg => by
    subst hg
    have hb := below_alloc (Below.refl W.heap.size W) (.cells #[.int .u32 10] t)
    refine (natMul_calls (h.below hb) (nn_lit (d := 10) (by omega) (by decide) W t) (Nat.le_trans (h.sz hsz) (by omega)) (by omega)).mono ?_
    rintro e w' ⟨A, k, c, rfl, hm, hb2, hf⟩
    exact ⟨A, k, c, rfl, hm, hb.trans (hb2.mono hb.size), fun b h => Nat.le_trans hb.size (hf b h)⟩⟩
   have HSM : Aside0 (∀ W, Calls Tryz.prog 132 #[.int .u64 ((ch : Int) - 48)] W fun e w' => RF W (ch - 48) e w') := ⟨fun W => by
    have := small_calls32 (n := ch - 48) (by omega) W
    rw [show ((ch - 48 : Nat) : Int) = (ch : Int) - 48 by omega] at this
    exact this⟩
   have HAD : Aside0 (∀ (W : World) (A : Option Addr) (L c : Nat) (A' : Option Addr) (L' c' : Nat), NN W A L c (dv (l.take i) * 10) → NN W A' L' c' (ch - 48) → Calls Tryz.prog 174 #[.slice A L c, .slice A' L' c'] W fun e w' => RF W (dv (l.take (i + 1))) e w') := ⟨fun W A L c A' L' c' h h' => by
    rw [hc3]
    exact natAdd_calls h h' (Nat.le_trans (h.sz (hsz.mul (show Sz 4 10 from ⟨by decide⟩) (i := 40004))) (by omega)) (Nat.le_trans (h'.sz (show Sz 32 (ch - 48) from ⟨by have : (2 : Nat) ^ 32 = 4294967296 := (by decide); omega⟩)) (by omega))⟩
   clear hsz hsz2 hc3
   unfold RF at *
   have v1 : IntKind.i32.wrap ((ch : Int) - 48) = (ch : Int) - 48 := by
    simp only [IntKind.wrap, IntKind.bits, IntKind.signed]
    simp
    omega
   have v2 : IntKind.u64.wrap ((ch : Int) - 48) = (ch : Int) - 48 := IntWalk.u64_in _ (by omega)
   go_wp2_with (first | (go_at_call 173; (with_reducible refine (HMU.out _ _ _ _ _ _ HN.out (by first | rfl | simp)).mono ?_); rintro e W1 ⟨A3, k3, d3, rfl, hm3, hb3, _⟩; have HI2 := Aside0.mk (HI.out.step hb3); clear HI; have HI := HI2; clear HI2; have HN2 := Aside0.mk hm3; clear HN; have HN := HN2; clear HN2 hm3 hb3) | (go_at_call 132; (with_reducible refine (HSM.out _).mono ?_); rintro e W2 ⟨A4, k4, d4, rfl, hm3, hb3, _⟩; have HI2 := Aside0.mk (HI.out.step hb3); clear HI; have HI := HI2; clear HI2; have HN2 := Aside0.mk (And.intro (HN.out.below hb3) hm3); clear HN; have HN := HN2; clear HN2 hm3 hb3) | (go_at_call 174; (with_reducible refine (HAD.out _ _ _ _ _ _ _ HN.out.1 HN.out.2).mono ?_); rintro e W3 ⟨A5, k5, d5, rfl, hm3, hb3, _⟩; have HI2 := Aside0.mk (HI.out.step hb3); clear HI; have HI := HI2; clear HI2; have HN2 := Aside0.mk hm3; clear HN; have HN := HN2; clear HN2 hm3 hb3))
   go_roundg (gk - 1)
   case measure => omega
   case rel => exact ⟨i + 1, A5, k5, d5, rfl, by omega, HN, HI⟩
  ·obtain rfl : i = s.size := by omega
   have hnx := fun ty => run_next_none wr w.heap.size s s.size ty HI.out.it hlt
   have hHN := HN.out
   rw [HEND.out] at hHN
   have HN2 := Aside0.mk hHN
   clear hHN HN HST HSZ HDT HEND
   go_wp2_with fail
   go_ret
   exact ⟨_, _, _, rfl, HN2.out, HI.out.bl⟩
theorem cut_head {d : UInt8} (hd : d ≠ 47) (l : List UInt8) : Lib.cut (d :: l) [47] = if (Lib.cut l [47]).2.2 = true then (d :: (Lib.cut l [47]).1, (Lib.cut l [47]).2.1, true) else (d :: l, [], false) := by
 have hge := Lib.index_ge l [47]
 have hp : List.isPrefixOf [47] (d :: l) = false := by simp [List.isPrefixOf]; exact fun e => hd e.symm
 have hi : Lib.index (d :: l) [47] = if Lib.index l [47] == -1 then -1 else Lib.index l [47] + 1 := by
  rw [Lib.index, hp]; rfl
 unfold Lib.cut
 rw [hi]
 by_cases h : Lib.index l [47] = -1
 ·rw [h]; simp
 ·have h0 : 0 ≤ Lib.index l [47] := by omega
  have hb : ¬ (Lib.index l [47] == -1) = true := by simpa using h
  have e : (Lib.index l [47] + 1).toNat = (Lib.index l [47]).toNat + 1 := by omega
  rw [if_neg hb, if_pos (show 0 ≤ Lib.index l [47] + 1 by omega), e]
  simp only [if_pos h0]
  simp
theorem cut_body (s : ByteArray) : cutA 47 (bodyB s) = bodyB (cutA 47 s) ∧ cutB 47 (bodyB s) = cutB 47 s ∧ minusB (cutA 47 s) = minusB s := by
 unfold cutA cutB bodyB minusB
 dsimp only
 generalize s.data.toList = l
 unfold Lib.trimPrefix Lib.hasPrefix
 cases l with
 | nil => decide
 | cons d r =>
   by_cases hd : d = 45
   ·subst hd
    have h1 : List.isPrefixOf [45] ((45 : UInt8) :: r) = true := by simp [List.isPrefixOf]
    have hc := cut_head (d := 45) (by decide) r
    rw [hc]
    simp only [h1, if_true]
    show (⟨(Lib.cut r [47]).1.toArray⟩ : ByteArray) = _ ∧ (⟨(Lib.cut r [47]).2.1.toArray⟩ : ByteArray) = _ ∧ _
    split
    ·simp [List.isPrefixOf]
    ·rename_i hf
     have : Lib.cut r [47] = (r, [], false) := by
      unfold Lib.cut at hf ⊢
      split
      ·rename_i h; rw [if_pos h] at hf; simp at hf
      ·rfl
     rw [this]
     simp [List.isPrefixOf]
   ·have h1 : List.isPrefixOf [45] (d :: r) = false := by simp [List.isPrefixOf]; exact fun e => hd e.symm
    simp only [h1, Bool.false_eq_true, if_false]
    by_cases h47 : d = 47
    ·subst h47
     have : Lib.cut ((47 : UInt8) :: r) [47] = ([], r, true) := by
      unfold Lib.cut
      have : Lib.index ((47 : UInt8) :: r) [47] = 0 := by rw [Lib.index]; simp [List.isPrefixOf]
      rw [this]; simp
     simp [this, List.isPrefixOf]
    ·have hc := cut_head h47 r
     have h45 : ((45 : UInt8) == d) = false := by rw [beq_eq_false_iff_ne]; exact fun e => hd e.symm
     by_cases hf : (Lib.cut r [47]).2.2 = true
     ·rw [if_pos hf] at hc
      rw [hc]
      simp only [List.isPrefixOf, h45, Bool.false_and, Bool.false_eq_true, if_false, and_self]
     ·rw [if_neg hf] at hc
      rw [hc]
      simp only [List.isPrefixOf, h45, Bool.false_and, Bool.false_eq_true, if_false, and_self]
/-- parse at a fraction that is well-formed. -/
theorem parse_calls2 (s : ByteArray) (hs : s.size ≤ 10000) (h : checkR s = 0) (w : World) (hE : EN w) :
 Calls Tryz.prog 79 #[.string s] w fun e w' => QX w (minusB s) (numR s).natAbs (denR s).natAbs e w' := by
 obtain ⟨k1, k2, k3, k4⟩ := checkR_ok h
 obtain ⟨e1, e2, e3⟩ := cut_body s
 obtain ⟨z1, z2⟩ := cut_size 47 (bodyB s)
 have zb := bodyB_size s
 have d1 := (list_of k1).1
 have d2 := (list_of k2).1
 have hq : minusB (cutB 47 s) = false := by
  cases hm : minusB (cutB 47 s)
  ·rfl
  ·have := minus_neg k2 hm
   unfold denR at k3
   omega
 have b2 : bodyB (cutB 47 s) = cutB 47 s := by
  have := (list_of k2).2.2
  rw [hq] at this
  apply ByteArray.ext
  exact Array.toList_inj.1 (by simpa using this.symm)
 have v1 : (numR s).natAbs = dv (cutA 47 (bodyB s)).data.toList := by unfold numR; rw [intI_abs, e1]
 have v2 : (denR s).natAbs = dv (cutB 47 (bodyB s)).data.toList := by unfold denR; rw [intI_abs, e2, b2]
 rw [← e1] at d1
 rw [b2, ← e2] at d2
 have HC1 : Aside0 (∀ W, Calls Tryz.prog 90 #[.string s, .string ⟨#[45]⟩] W fun e w' => e = .returned (.tuple #[.string (bodyB s), .bool (minusB s)]) ∧ w' = W) := ⟨fun W => cut_calls s W⟩
 have HC2 : Aside0 (∀ W, Below w.heap.size w W → Calls Tryz.prog 121 #[.string (bodyB s), .string ⟨#[47]⟩] W fun e w' => e = .returned (.tuple #[.string (cutA 47 (bodyB s)), .string (cutB 47 (bodyB s)), .bool (cutF 47 (bodyB s))]) ∧ Below W.heap.size W w') := ⟨fun W hb => cut1_calls 47 (bodyB s) (by omega) W (hE.below hb)⟩
 have HR1 := Aside0.mk (fun W => read_calls (cutA 47 (bodyB s)) (by omega) d1 W)
 have HR2 := Aside0.mk (fun W => read_calls (cutB 47 (bodyB s)) (by omega) d2 W)
 rw [v1, v2]
 clear v1 v2 d1 d2 b2 hq z1 z2 zb e1 e2 e3 k1 k2 k3 k4 h
 unfold RN at *
 unfold QX qV
 generalize dv (cutA 47 (bodyB s)).data.toList = p at *
 generalize dv (cutB 47 (bodyB s)).data.toList = q at *
 generalize cutA 47 (bodyB s) = a at *
 generalize cutB 47 (bodyB s) = b at *
 generalize cutF 47 (bodyB s) = f at *
 generalize bodyB s = t at *
 generalize minusB s = z at *
 go_enter Tryz.func79, Tryz.ntmps79
 have HO := Aside0.mk (QF.new w _ rfl false none 0 0 none 0 0)
 have HB := Aside0.mk (below_alloc (Below.refl w.heap.size w) (.cells #[.bool false, .slice none 0 0, .slice none 0 0] 102))
 go_wp2_with (first
  | (go_at_call 90; (with_reducible refine (HC1.out _).mono ?_); rintro e W1 ⟨rfl, hww⟩; rw [hww]; clear hww)
  | (go_at_call 121; (with_reducible refine (HC2.out _ HB.out).mono ?_); rintro e W2 ⟨rfl, hbx⟩; have HO2 := Aside0.mk (HO.out.below hbx); have HB2 := Aside0.mk (HB.out.trans (hbx.mono HB.out.size)); clear HO HB; have HO := HO2; have HB := HB2; clear HO2 HB2; clear hbx)
  | (go_at_call 146; (with_reducible refine (HR1.out _).mono ?_); rintro e W3 ⟨A1, k1, c1, rfl, hm, hbx⟩; have HO2 := Aside0.mk (HO.out.below hbx); have HB2 := Aside0.mk (HB.out.trans (hbx.mono HB.out.size)); clear HO HB; have HO := HO2; have HB := HB2; clear HO2 HB2; have HM1 := Aside0.mk hm; clear hbx hm)
  | (go_at_call 146; (with_reducible refine (HR2.out _).mono ?_); rintro e W4 ⟨A2, k2, c2, rfl, hm, hbx⟩; have HO2 := Aside0.mk (HO.out.below hbx); have HB2 := Aside0.mk (HB.out.trans (hbx.mono HB.out.size)); clear HO HB; have HO := HO2; have HB := HB2; clear HO2 HB2; have HM2 := Aside0.mk (N2.mk (HM1.out.below hbx) hm); clear hbx hm; have q0 := HO.out.cell0; have q1 := HO.out.cell1; have q2 := HO.out.cell2; have q4 := HO.out.fr 0; have q5 := HO.out.fr 1; have q6 := HO.out.fr 2))
 exact q_ret Tryz.results79 rfl HO.out.put3 ⟨A1, k1, c1, A2, k2, c2, rfl, N2.put3 HO.out HM2.out, below_put3 (B := w.heap.size) HB.out (Nat.le_refl _)⟩
end
section
open Go.Proofs.YtnjbinpbkjdjpaaGreatDoor.Rf Go.Proofs.YtnjbinpbkjdjpaaGreatDoorW.PrintLast Go.Proofs.YtnjbinpbkjdjpaaGreatDoorW.PrintMore Go.Proofs.YtnjbinpbkjdjpaaGreatDoorW.PrintWords Go.RowKit Go.Shelf
attribute [local go_sem] Oper.semAt_some
/-- The number that a variable of type nat holds. -/
def natAt (W : World) (b : Nat) : Nat := match W.cell? ⟨b, 0, none⟩ with
 | some (.slice (some a) L _) => val UU ((List.range L).map fun j => match W.cell? ⟨a.block, j, none⟩ with
   | some (.int _ z) => z.toNat
   | _ => 0)
 | _ => 0
theorem natAt_eq {W : World} {b : Nat} {A : Option Addr} {L c n : Nat} (h : W.cell? ⟨b, 0, none⟩ = some (.slice A L c)) (hn : NN W A L c n) : natAt W b = n := by
 unfold natAt
 rw [h]
 rcases Nat.eq_zero_or_pos L with h0 | h0
 ·have hz := hn.len_zero.1 h0
  subst h0 hz
  cases A <;> rfl
 ·obtain ⟨b2, rfl, _, hc⟩ := hn.addr h0
  show val UU _ = n
  have e : ((List.range L).map fun j => match W.cell? ⟨b2, j, none⟩ with
   | some (.int _ z) => z.toNat
   | _ => 0) = dg UU n := by
   apply List.ext_getElem
   ·simp [hn.len]
   ·intro j h1 h2
    have hj : j < L := by simpa using h1
    simp only [List.getElem_map, List.getElem_range]
    rw [hc j hj]
    show ((_ : Nat) : Int).toNat = _
    rw [Int.toNat_natCast, getD_lt (by rw [hn.len]; exact hj)]
  rw [e, val_dg UU1]
def digV (d : Nat) : Array Value := #[.int .u8 (48 + (d : Int))]
theorem dg10 {m : Nat} (h : 0 < m) : dg 10 m = m % 10 :: dg 10 (m / 10) := dg_pos (by decide) h
/-- What the iterator's own variables hold between two rounds. -/
structure DgJ (n₀ Bs n : Nat) (pre : List Nat) (m : Nat) (own : List Nat) (A : Option Addr) (L c : Nat) (W : World) : Prop where
 cell : Boxed W Bs 100 (.slice A L c)
 nn : NN W A L c m
 dig : pre ++ dg 10 m = dg 10 n
 sz : Sz 200000 m
 mem : Bs ∈ own
 lt : ∀ r, r ∈ own → r < W.heap.size
 blk : ∀ b, A = some ⟨b, 0, none⟩ → 0 < L → b < n₀ ∨ b ∈ own
theorem NN.kept {n₀ : Nat} {own : List Nat} {W X : World} {A : Option Addr} {L c m : Nat} (h : NN W A L c m) (hk : Rf.Kept n₀ own W X) (hb : ∀ b, A = some ⟨b, 0, none⟩ → 0 < L → b < n₀ ∨ b ∈ own) : NN X A L c m := by
 obtain ⟨h0, h1, h3⟩ := h
 refine ⟨h0, h1, fun hL => ?_⟩
 obtain ⟨b, rfl, hlt, hc⟩ := h3 hL
 refine ⟨b, rfl, Nat.lt_of_lt_of_le hlt hk.below.size, fun j hj => ?_⟩
 have hbl : X.heap[b]? = W.heap[b]? := by
  rcases hb b rfl hL with h | h
  ·exact hk.below.block b h
  ·exact hk.own b h hlt
 exact (World.cell?_of_block (w := W) hbl).trans (hc j hj)
theorem NN.setBoxed {W : World} {A : Option Addr} {L c m Bs : Nat} (h : NN W A L c m) {v : Value} (hB : Boxed W Bs 100 (.slice A L c)) {A' : Option Addr} {L' c' m' : Nat} (h' : NN W A' L' c' m') : NN (W.setCell ⟨Bs, 0, none⟩ v) A' L' c' m' :=
 h'.setRow (fun b hA h0 e => by
  subst e
  obtain ⟨b2, hA2, _, hc⟩ := h'.addr h0
  rw [hA] at hA2
  injection hA2 with e2
  injection e2 with e2
  subst e2
  have := hc 0 h0
  rw [hB.cell] at this
  cases this) 0 v
theorem DgJ.kept {n₀ Bs n : Nat} {pre : List Nat} {m : Nat} {own : List Nat} {A : Option Addr} {L c : Nat} {W X : World} (h : DgJ n₀ Bs n pre m own A L c W) (hk : Rf.Kept n₀ own W X) : DgJ n₀ Bs n pre m own A L c X :=
 ⟨(hk.own Bs h.mem h.cell.lt).trans h.cell, h.nn.kept hk h.blk, h.dig, h.sz, h.mem, fun r hr => Nat.lt_of_lt_of_le (h.lt r hr) hk.below.size, h.blk⟩
theorem dig_round {n₀ Bs n : Nat} {J : List Nat → List Nat → World → Prop} (hJ : ∀ pre own A B, J pre own A → Step own A B → J pre own B) (hJa : ∀ pre own A r, J pre own A → A.heap.size ≤ r → J pre (r :: own) A)
 {pre : List Nat} {m : Nat} {own : List Nat} {A : Option Addr} {L c : Nat} {wr : World} (HJ : J pre own wr) (HX : DgJ n₀ Bs n pre m own A L c wr) (h0 : 0 < m) {w2 : World} {A5 : Option Addr} {k5 d5 : Nat}
 (hm5 : NN w2 A5 k5 d5 (m / 10)) (hb2 : Below wr.heap.size wr w2) (hf2 : ∀ b, A5 = some ⟨b, 0, none⟩ → wr.heap.size ≤ b) :
 ∃ own2, J pre own2 (w2.setCell ⟨Bs, 0, none⟩ (.slice A5 k5 d5)) ∧ DgJ n₀ Bs n (pre ++ [m % 10]) (m / 10) own2 A5 k5 d5 (w2.setCell ⟨Bs, 0, none⟩ (.slice A5 k5 d5)) := by
 have hB2 := boxed_below HX.cell hb2
 have hnn : NN (w2.setCell ⟨Bs, 0, none⟩ (.slice A5 k5 d5)) A5 k5 d5 (m / 10) := NN.setBoxed (m := m) (HX.nn.below hb2) hB2 hm5
 have hdig : (pre ++ [m % 10]) ++ dg 10 (m / 10) = dg 10 n := by rw [← HX.dig, dg10 h0]; simp
 have hsz : Sz 200000 (m / 10) := HX.sz.le (Nat.div_le_self _ _)
 have key : ∀ own2, J pre own2 wr → Bs ∈ own2 → (∀ r, r ∈ own2 → r < w2.heap.size) → (∀ b, A5 = some ⟨b, 0, none⟩ → 0 < k5 → b < n₀ ∨ b ∈ own2) → ∃ own2, J pre own2 (w2.setCell ⟨Bs, 0, none⟩ (.slice A5 k5 d5)) ∧ DgJ n₀ Bs n (pre ++ [m % 10]) (m / 10) own2 A5 k5 d5 (w2.setCell ⟨Bs, 0, none⟩ (.slice A5 k5 d5)) := fun own2 g1 g2 g3 g4 =>
  ⟨own2, hJ _ _ _ _ (hJ _ _ _ _ g1 (Step.of_below hb2)) (Step.set _ g2), hB2.set _, hnn, hdig, hsz, g2, fun r hr => by simpa using g3 r hr, g4⟩
 rcases Nat.eq_zero_or_pos k5 with hk | hk
 ·exact key own HJ HX.mem (fun r hr => Nat.lt_of_lt_of_le (HX.lt r hr) hb2.size) (fun b _ h => by omega)
 ·obtain ⟨b5, hA, hlt, _⟩ := hm5.addr hk
  refine key (b5 :: own) (hJa _ _ _ _ HJ (hf2 b5 hA)) (List.mem_cons_of_mem _ HX.mem) (fun r hr => ?_) (fun b hb _ => ?_)
  ·rcases List.mem_cons.1 hr with rfl | hr
   ·exact hlt
   ·exact Nat.lt_of_lt_of_le (HX.lt r hr) hb2.size
  ·rw [hA] at hb
   injection hb with e
   injection e with e
   subst e
   exact .inr (by simp)
theorem small_digit {W : World} {A : Option Addr} {k c d : Nat} (h : NN W A k c d) (h0 : 0 < d) (h1 : d < 10) : k = 1 ∧ ∃ b, A = some ⟨b, 0, none⟩ ∧ W.cell? ⟨b, 0, none⟩ = some (.int .u32 (d : Int)) := by
 have e : dg UU d = [d] := dg_one UU1 h0 (by unfold UU; omega)
 have hk : k = 1 := by rw [← h.len, e]; rfl
 subst hk
 obtain ⟨b, rfl, _, hc⟩ := h.addr (by omega)
 have := hc 0 (by omega)
 rw [e] at this
 exact ⟨rfl, b, rfl, this⟩
theorem digits_seq (k : Nat) (hk : 1 ≤ k) {A : Option Addr} {L c n : Nat} (hz : Sz 200000 n) {n₀ Bs : Nat} {w : World} (hBs : Boxed w Bs 100 (.slice A L c)) (hN : NN w A L c n) (hA : ∀ b, A = some ⟨b, 0, none⟩ → 0 < L → b < n₀) (hn₀ : n₀ ≤ Bs) :
 Seq Fence.wide k Tryz.prog 221 #[.pointer (some ⟨Bs, 0, none⟩)] digV (fun xs => xs = dg 10 n) (fun pre => ∃ m, pre ++ dg 10 m = dg 10 n) (fun pre x => ∃ m, 0 < m ∧ pre ++ dg 10 m = dg 10 n ∧ x = m % 10) n₀ [Bs] w := by
 intro l J Jx W hW hJ hJa hJx hY h0
 have hBW : Boxed W Bs 100 (.slice A L c) := boxed_below hBs hW
 have hNW := hN.below hW
 have HD : Aside0 (∀ (W : World) (A : Option Addr) (L c m g : Nat) (t : TypeId), NN W A L c m → Sz 200000 m → g = W.heap.size → Calls Tryz.prog 142 #[.slice A L c, .slice (some ⟨g, 0, none⟩) 1 1] (W.alloc (.cells #[.int .u32 10] t)) fun e w' => ∃ A k c A' k' c', e = .returned (.tuple #[.slice A k c, .slice A' k' c']) ∧ NN w' A k c (m / 10) ∧ NN w' A' k' c' (m % 10) ∧ Below W.heap.size W w' ∧ (∀ b, A = some ⟨b, 0, none⟩ → W.heap.size ≤ b)) := ⟨fun W A L c m g t h hm hg => by
  subst hg
  have hb := below_alloc (Below.refl W.heap.size W) (.cells #[.int .u32 10] t)
  refine (natDiv_calls (h.below hb) (nn_lit (d := 10) (by omega) (by decide) W t) (Nat.le_trans (h.sz hm) (by omega)) (by omega) (by omega)).mono ?_
  rintro e w' ⟨A, k, c, A', k', c', rfl, g1, g2, g3, g4⟩
  exact ⟨A, k, c, A', k', c', rfl, g1, g2, hb.trans (g3.mono hb.size), fun b h => Nat.le_trans hb.size (g4 b h)⟩⟩
 have HDJ : Aside0 (DgJ n₀ Bs n [] n [Bs] A L c W) := ⟨⟨hBW, hNW, rfl, hz, by simp, by intro r hr; rw [List.mem_singleton.1 hr]; exact hBW.lt, fun b h1 h2 => .inl (hA b h1 h2)⟩⟩
 clear hBs hN hA hBW hNW hz hW
 refine callsIn_of_wp Tryz.func221 rfl trivial ?_ rfl
 simp only [Tryz.ntmps221, List.size_toArray, List.length_cons, List.length_nil, Nat.reduceAdd, Nat.reduceSub, Array.replicate_succ, Array.replicate_zero, List.push_toArray, List.append_toArray, List.nil_append, List.cons_append]
 gi_wp2
 gi_loopw [] (fun wr => ∃ pre m own A L c, Aside0 (J pre own wr) ∧ Aside0 (DgJ n₀ Bs n pre m own A L c wr)) (fun wr => natAt wr Bs)
 case atStart => exact ⟨[], n, [Bs], A, L, c, ⟨h0⟩, HDJ⟩
 case round =>
  clear HDJ h0
  obtain ⟨pre, m, own, A, L, c, HJ, HX⟩ := hrel
  have cB := HX.out.cell.cell
  have fB := HX.out.cell.frozen
  have hz := HX.out.nn.len_zero
  rcases Nat.eq_zero_or_pos m with h0 | h0
  ·have hL0 : ¬ (0 : Int) < (L : Int) := by have := hz.2 h0; omega
   have HS : Aside0 (pre = dg 10 n) := ⟨by have := HX.out.dig; rwa [h0, dg_zero, List.append_nil] at this⟩
   clear hY hz h0
   gi_wp2
   go_end0
   exact ⟨⟨_, rfl⟩, .inl ⟨own, by have := HJ.out; rwa [HS.out] at this⟩⟩
  ·have hL0 : (0 : Int) < (L : Int) := by
    rcases Nat.eq_zero_or_pos L with h | h
    ·have := hz.1 h; omega
    ·omega
   have HDv : Aside0 (∀ (g : Nat) (t : TypeId), g = wr.heap.size → _) := ⟨fun g t hg => HD.out wr A L c m g t HX.out.nn HX.out.sz hg⟩
   have HM := Aside0.mk h0
   have hY' := Aside0.mk hY
   clear hz h0 hY
   by_cases h10 : m % 10 = 0
   ·gi_wp2_with (first | (refine ⟨trivial, ?_⟩; gi_at_call 142; go_loud ((with_reducible refine (callsIn_wide.2 (HDv.out _ _ (by first | rfl | simp))).mono ?_); rintro e w2 ⟨A5, k5, d5, A6, k6, d6, rfl, hm5, hm6, hb2, hf2⟩; have hB2 := boxed_below HX.out.cell hb2; have cB2 := hB2.cell; have fB2 := hB2.frozen; obtain ⟨own2, HJ2, HX2⟩ := dig_round hJ hJa HJ.out HX.out HM.out hm5 hb2 hf2; obtain ⟨fn, tmps, assign, body, hy, hR⟩ := hY'.out pre own2 (m % 10) _ HJ2 HX2.lt ⟨m, HM.out, HX.out.dig, rfl⟩; have HX3 := Aside0.mk HX2; have HR := Aside0.mk hR; simp only [digV] at hy; clear cB fB; rw [h10] at hm6 hy; rw [show (48 : Int) + ((0 : Nat) : Int) = 48 from rfl] at hy; have hk6 := hm6.len_zero.2 rfl; subst hk6)))
    have hRR := HR.out
    clear HR hy
    refine hRR.mono ?_
    rintro e W3 (⟨rfl, hJ3, hk3⟩ | ⟨rfl, hJx3⟩)
    ·have HX4 := Aside0.mk (HX3.out.kept hk3)
     have HJ4 := Aside0.mk hJ3
     clear hk3 hJ3
     gi_wp2
     go_roundw
     case rel => exact ⟨pre ++ [m % 10], m / 10, own2, A5, _, d5, HJ4, HX4⟩
     case measure =>
      rw [natAt_eq HX.out.cell.cell HX.out.nn, natAt_eq HX4.out.cell.cell HX4.out.nn]
      have := HM.out
      omega
    ·have HJX := Aside0.mk hJx3
     have HDX := Aside0.mk HX3.out.dig
     clear hJx3
     gi_wp2
     refine bodyPost_ret (results_none rfl _ _ _) rfl ?_
     exact ⟨⟨_, rfl⟩, .inr ⟨_, _, ⟨m / 10, HDX.out⟩, HJX.out⟩⟩
   ·have hlt10 : m % 10 < 10 := Nat.mod_lt _ (by decide)
    obtain ⟨d, hd⟩ : ∃ d, m % 10 = d := ⟨_, rfl⟩
    have hd1 : d < 10 := by omega
    have v1 : IntKind.u8.wrap (d : Int) = (d : Int) := by
     simp only [IntKind.wrap, IntKind.bits, IntKind.signed]
     simp
     omega
    have v2 : IntKind.u8.wrap (48 + (d : Int)) = 48 + (d : Int) := by
     simp only [IntKind.wrap, IntKind.bits, IntKind.signed]
     simp
     omega
    gi_wp2_with (first | (refine ⟨trivial, ?_⟩; gi_at_call 142; go_loud ((with_reducible refine (callsIn_wide.2 (HDv.out _ _ (by first | rfl | simp))).mono ?_); rintro e w2 ⟨A5, k5, d5, A6, k6, d6, rfl, hm5, hm6, hb2, hf2⟩; have hB2 := boxed_below HX.out.cell hb2; have cB2 := hB2.cell; have fB2 := hB2.frozen; obtain ⟨own2, HJ2, HX2⟩ := dig_round hJ hJa HJ.out HX.out HM.out hm5 hb2 hf2; obtain ⟨fn, tmps, assign, body, hy, hR⟩ := hY'.out pre own2 (m % 10) _ HJ2 HX2.lt ⟨m, HM.out, HX.out.dig, rfl⟩; have HX3 := Aside0.mk HX2; have HR := Aside0.mk hR; simp only [digV] at hy; clear cB fB; obtain ⟨hk6, b6, hA6, _⟩ := small_digit hm6 (by omega) hlt10; subst hk6; have hm7 := small_digit (NN.setBoxed (v := .slice A5 k5 d5) (HX.out.nn.below hb2) hB2 hm6) (by omega) hlt10; subst hA6; obtain ⟨_, b7, hA7, z7⟩ := hm7; injection hA7 with hA7; injection hA7 with hA7; subst hA7; rw [hd] at z7 hy)))
    have hRR := HR.out
    clear HR hy
    refine hRR.mono ?_
    rintro e W3 (⟨rfl, hJ3, hk3⟩ | ⟨rfl, hJx3⟩)
    ·have HX4 := Aside0.mk (HX3.out.kept hk3)
     have HJ4 := Aside0.mk hJ3
     clear hk3 hJ3
     gi_wp2
     go_roundw
     case rel => exact ⟨pre ++ [m % 10], m / 10, own2, A5, _, d5, HJ4, HX4⟩
     case measure =>
      rw [natAt_eq HX.out.cell.cell HX.out.nn, natAt_eq HX4.out.cell.cell HX4.out.nn]
      have := HM.out
      omega
    ·have HJX := Aside0.mk hJx3
     have HDX := Aside0.mk HX3.out.dig
     clear hJx3
     gi_wp2
     refine bodyPost_ret (results_none rfl _ _ _) rfl ?_
     exact ⟨⟨_, rfl⟩, .inr ⟨_, _, ⟨m / 10, HDX.out⟩, HJX.out⟩⟩
end
section
open Go.Proofs.YtnjbinpbkjdjpaaGreatDoorW.PrintLast Go.Proofs.YtnjbinpbkjdjpaaGreatDoorW.PrintMore Go.Proofs.YtnjbinpbkjdjpaaGreatDoorW.PrintWords Go.RowKit Go.Shelf
abbrev QQ : Nat := 10000
theorem QQ1 : 1 < QQ := by decide
/-- Limbs as ints. -/
def li (xs : List Nat) : List Int := xs.map fun d : Nat => (d : Int)
theorem li_len (xs : List Nat) : (li xs).length = xs.length := by simp [li]
theorem rd_li (xs : List Nat) (i : Nat) : rd (li xs) (i : Int) = (xs.getD i 0 : Nat) := by
 unfold rd li
 rw [Int.toNat_natCast, List.getD_eq_getElem?_getD, List.getD_eq_getElem?_getD, List.getElem?_map]
 cases xs[i]? <;> rfl
/-- A slice of ints that holds these limbs. -/
def RL (w : World) (A : Option Addr) (L : Nat) (xs : List Nat) : Prop := Kd.C (Kd.int .i64) w A L (li xs)
/-- A magnitude of the reference. -/
def RM (w : World) (A : Option Addr) (L n : Nat) : Prop := RL w A L (dg QQ n)
section
variable {w W : World} {A : Option Addr} {L n : Nat} {xs : List Nat}
theorem RL.len (h : RL w A L xs) : xs.length = L := by have := Kd.C_len h; rwa [li_len] at this
theorem RL.below (h : RL w A L xs) (hb : Below w.heap.size w W) : RL W A L xs := Kd.C_below h hb
theorem RM.below (h : RM w A L n) (hb : Below w.heap.size w W) : RM W A L n := RL.below h hb
theorem RM.keep {B : Nat} (h : RM w A L n) (hB : B = w.heap.size) (hb : Below B w W) : RM W A L n := by subst hB; exact h.below hb
theorem RL.at (h : RL w A L xs) {i : Nat} (hi : i < L) : ∃ ad, A = some ad ∧ w.cell? (ad.add i) = some (.int .i64 (xs.getD i 0 : Nat)) := by
 obtain ⟨ad, h1, h2⟩ := Kd.at_int h (i : Int) (by omega) (by omega)
 rw [rd_li, Int.toNat_natCast] at h2
 exact ⟨ad, h1, h2⟩
theorem RM.at (h : RM w A L n) {i : Nat} (hi : i < L) : ∃ ad, A = some ad ∧ w.cell? (ad.add i) = some (.int .i64 (n / QQ ^ i % QQ : Nat)) := by
 obtain ⟨ad, h1, h2⟩ := RL.at h hi
 rw [dg_getD QQ1] at h2
 exact ⟨ad, h1, h2⟩
theorem RM.len (h : RM w A L n) : (dg QQ n).length = L := RL.len h
theorem RM.zero (w : World) : RM w none 0 0 := by
 unfold RM RL
 rw [dg_zero]
 exact (Kd.C_nil (Kd.int .i64) w : (Kd.int .i64).C w none ([] : List Int).length [])
theorem RM.len_zero (h : RM w A L n) : L = 0 ↔ n = 0 := by
 rw [← h.len, List.length_eq_zero_iff, dg_nil QQ1]
theorem RM.over (h : RM w A L n) {i : Nat} (hi : ¬ i < L) : n / QQ ^ i % QQ = 0 := by
 rw [← dg_getD QQ1, List.getD_eq_getElem?_getD, List.getElem?_eq_none (by rw [h.len]; omega)]; rfl
theorem RM.bound (h : RM w A L n) {k : Nat} (hk : n < QQ ^ k) : L ≤ k := by rw [← h.len]; exact dg_length QQ1 _ _ hk
end
theorem RL.stripped {w : World} {A : Option Addr} {L k : Nat} {xs : List Nat} (h : RL w A L xs) (hd : ∀ d ∈ xs, d < QQ) (hk : k ≤ L)
 (hs : strip (xs.take k) = strip xs) (he : k = 0 ∨ xs.getD (k - 1) 0 ≠ 0) : RM w A k (val QQ xs) := by
 have hl := h.len
 have e : dg QQ (val QQ xs) = xs.take k := by
  rw [← strip_dg QQ1 xs hd, ← hs]
  rcases he with rfl | he
  ·rfl
  ·rcases Nat.eq_zero_or_pos k with rfl | h0
   ·rfl
   ·obtain ⟨k, rfl⟩ : ∃ j, k = j + 1 := ⟨k - 1, by omega⟩
    rw [take_snoc' xs (by omega)]
    exact strip_snoc (by simpa using he) _
 have h2 : (Kd.int .i64).C w A (li xs).length (li xs) := by rw [li_len, hl]; exact h
 have h3 := Kd.C_take h2 (m := k) (by rw [li_len, hl]; exact hk)
 have e2 : (li xs).take k = li (xs.take k) := by unfold li; rw [List.map_take]
 rw [e2, li_len, List.length_take, hl, Nat.min_eq_left hk] at h3
 show RL w A k (dg QQ (val QQ xs))
 rw [e]
 exact h3
theorem RM.short {w : World} {A1 A2 : Option Addr} {L1 L2 m n : Nat} (h1 : RM w A1 L1 m) (h2 : RM w A2 L2 n) (h : L1 < L2) : m < n := by
 have a := dg_lt_pow QQ1 m
 rw [h1.len] at a
 obtain ⟨k, rfl⟩ : ∃ k, L2 = k + 1 := ⟨L2 - 1, by omega⟩
 have b := dg_ge_pow QQ1 k n h2.len
 exact Nat.lt_of_lt_of_le a (Nat.le_trans (Nat.pow_le_pow_right (by decide) (by omega)) b)
/-- A variable of type Big. -/
def BG (W : World) (b : Nat) (f : Bool) (A : Option Addr) (L c : Nat) : Prop := W.heap[b]? = some (.cells #[.bool f, .slice A L c] 130 (0, 0))
section
variable {W X : World} {b : Nat} {f : Bool} {A : Option Addr} {L c n : Nat}
theorem BG.cell0 (h : BG W b f A L c) : W.cell? ⟨b, 0, none⟩ = some (.bool f) := by rw [Lib.cell_of_heap h]; rfl
theorem BG.cell1 (h : BG W b f A L c) : W.cell? ⟨b, 1, none⟩ = some (.slice A L c) := by rw [Lib.cell_of_heap h]; rfl
theorem BG.fr (h : BG W b f A L c) (o : Nat) : W.frozen? ⟨b, o, none⟩ = false := Lib.frozen_of_heap h o
theorem BG.lt (h : BG W b f A L c) : b < W.heap.size := (Array.getElem?_eq_some_iff.1 h).1
theorem BG.below (h : BG W b f A L c) (hb : Below W.heap.size W X) : BG X b f A L c := (hb.block b h.lt).trans h
theorem BG.alloc (h : BG W b f A L c) (o : Obj) : BG (W.alloc o) b f A L c := h.below (below_alloc (Below.refl _ _) _)
theorem BG.new (W : World) (f : Bool) (A : Option Addr) (L c : Nat) : BG (W.alloc (.cells #[.bool f, .slice A L c] 130)) W.heap.size f A L c := heap_alloc_new W _
end
theorem RM.le {w w' : World} {A A' : Option Addr} {L k : Nat} {xs : List Nat} (h : RL w A L xs) (hd : ∀ d ∈ xs, d < QQ) (hm : RM w' A' k (val QQ xs)) : k ≤ L := by
 have h2 := val_lt (by decide : 0 < QQ) xs hd
 rw [h.len] at h2
 exact hm.bound h2
/-- The value of an integer of the reference. -/
def rV (A : Option Addr) (L c : Nat) (x : Int) : Value := .agg #[.bool (decide (x < 0)), .slice A L c]
/-- What a function that gives an integer answers. -/
def RX (w : World) (x : Int) (e : Ending) (w' : World) : Prop := ∃ A k c, e = .returned (rV A k c x) ∧ k ≤ c ∧ RM w' A k x.natAbs ∧ Below w.heap.size w w'
theorem RX.of {w w' : World} {e : Ending} {x : Int} {A : Option Addr} {k c n : Nat} {g : Bool} (he : e = .returned (.agg #[.bool g, .slice A k c])) (hg : g = decide (x < 0)) (hk : k ≤ c) (hn : n = x.natAbs) (hm : RM w' A k n) (hb : Below w.heap.size w w') : RX w x e w' := by
 subst hg hn
 exact ⟨A, k, c, he, hk, hm, hb⟩
theorem BG.other {W : World} {b b' : Nat} {f : Bool} {A : Option Addr} {L c : Nat} (h : BG W b f A L c) (hne : b ≠ b') (o : Nat) (u : Value) : BG (W.setCell ⟨b', o, none⟩ u) b f A L c := by
 unfold BG at *
 rw [Below.heap_setCell _ _ _ _ hne]
 exact h
theorem BG.low {W X : World} {b B : Nat} {f : Bool} {A : Option Addr} {L c : Nat} (h : BG W b f A L c) (hl : b < B) (hb : Below B W X) : BG X b f A L c := (hb.block b hl).trans h
end
section
open Go.Lib Go.Proofs.YtnjbinpbkjdjpaaGreatDoorW.PrintLast Go.Proofs.YtnjbinpbkjdjpaaGreatDoorW.PrintMore Go.Proofs.YtnjbinpbkjdjpaaGreatDoorW.PrintWords Go.RowKit Go.Shelf
theorem strI_body (x : Int) : bodyB (strI x) = ⟨(Lib.decDigits x.natAbs).toArray⟩ := by
 unfold bodyB
 rw [show (strI x).data.toList = Lib.itoa x from rfl, trim_itoa]
theorem strI_minus (x : Int) : minusB (strI x) = decide (x < 0) := by
 unfold minusB
 rw [show (strI x).data.toList = Lib.itoa x from rfl, itoa_abs]
 by_cases h : x < 0
 ·rw [if_pos h, decide_eq_true h]; simp [Lib.hasPrefix]
 ·rw [if_neg h, decide_eq_false h, List.nil_append]
  have hd := dec_digits x.natAbs
  cases hl : Lib.decDigits x.natAbs with
  | nil => rfl
  | cons c cs =>
    have h1 := hd c (by rw [hl]; simp)
    have hc : ¬ (45 : UInt8) = c := by
     intro e
     subst e
     revert h1
     decide
    simp [Lib.hasPrefix, List.isPrefixOf, hc]
theorem dg_all {l : List UInt8} (h : DG l) : l.all isDig = true := by
 rw [List.all_eq_true]
 intro c hc
 have := h c hc
 simpa [isDig] using this
theorem strI_check {x : Int} (h : Dig 120 x) : checkI (strI x) = 0 ∧ intI (strI x) = x := by
 have hl : (Lib.decDigits x.natAbs).length ≤ 120 := dec_len 120 _ (by omega) h
 have hp := dec_pos x.natAbs
 have hs : (⟨(Lib.decDigits x.natAbs).toArray⟩ : ByteArray).size = (Lib.decDigits x.natAbs).length := rfl
 constructor
 ·unfold checkI
  rw [strI_body, strI_minus]
  rw [if_neg, if_neg, if_neg (by omega)]
  ·rintro ⟨h1, h2⟩
   have h3 := dec_head _ h1
   rcases h2 with h2 | h2
   ·have := of_decide_eq_true h2; omega
   ·rw [hs, h3, dec_small (by omega)] at h2
    simp at h2
  ·unfold digitsB
   rw [show (⟨(Lib.decDigits x.natAbs).toArray⟩ : ByteArray).data.toList = Lib.decDigits x.natAbs from rfl, dg_all (dec_digits _)]
   simp only [Bool.true_and]
   intro h0
   have := of_decide_eq_false h0
   omega
 ·unfold intI
  rw [strI_body, strI_minus, show (⟨(Lib.decDigits x.natAbs).toArray⟩ : ByteArray).data.toList = Lib.decDigits x.natAbs from rfl, dv_dec]
  by_cases hx : x < 0
  ·rw [if_pos (decide_eq_true hx)]; omega
  ·rw [if_neg (by simpa using hx)]; omega
theorem strI_size {x : Int} (h : Dig 120 x) : (strI x).size ≤ 130 := by
 have := wrS_size x
 rwa [(wr_dig h).2] at this
theorem beqL (a b : ByteArray) : (a.toList == b.toList) = decide (a = b) := by
 rw [Lib.toList_data, Lib.toList_data, Bool.eq_iff_iff]
 simp only [beq_iff_eq, decide_eq_true_eq]
 constructor
 ·intro h
  apply ByteArray.ext
  exact Array.toList_inj.1 h
 ·intro h
  rw [h]
theorem beq_iff {a b : ByteArray} {m : Int} (h : a = b ↔ m = 0) : (a.toList == b.toList) = (m == 0) := by
 rw [beqL, Bool.eq_iff_iff]
 simpa using h
theorem beq_no {a : ByteArray} {l : List UInt8} {b : ByteArray} (hl : b.data.toList = l) (h : a ≠ b) : (a.toList == l) = false := by rw [← hl, ← Lib.toList_data b, beqL]; simp [h]
theorem d1 : ∀ k : Nat, Dig (k + 1) 1 := fun k => by unfold Dig; exact Nat.one_lt_pow (by omega) (by decide)
theorem d0 : ∀ k : Nat, Dig k 0 := fun k => by unfold Dig; exact (show 0 < 10 ^ k by first | exact Nat.pow_pos (by decide) | exact Nat.pos_pow_of_pos k (by decide) | exact Nat.one_le_pow k 10 (by decide))
theorem check_head {s : ByteArray} (h : checkI s = 0) : (bodyB s).data.toList.head? = some 48 → minusB s = false ∧ (bodyB s).data.toList.length = 1 := by
 intro h1
 have h0 := list_of h
 unfold checkI at h
 split at h
 ·omega
 ·split at h
  ·omega
  ·rename_i h2
   have e : (bodyB s).data.toList.length = (bodyB s).size := by simp
   have h3 : ¬ (minusB s = true ∨ 1 < (bodyB s).size) := fun h3 => h2 ⟨h1, h3⟩
   refine ⟨?_, ?_⟩
   ·cases hm : minusB s
    ·rfl
    ·exact absurd (.inl hm) h3
   ·have h4 : (bodyB s).data.toList.length ≠ 0 := fun h5 => h0.2.1 (List.length_eq_zero_iff.1 h5)
    have h6 : ¬ 1 < (bodyB s).size := fun h6 => h3 (.inr h6)
    omega
theorem strI_intI {s : ByteArray} (h : checkI s = 0) : strI (intI s) = s := by
 obtain ⟨h1, h2, h3⟩ := list_of h
 have hd := dec_dv _ h1 h2 (fun e => (check_head h e).2)
 have key : Lib.itoa (intI s) = s.data.toList := by
  rw [itoa_abs, h3]
  cases hm : minusB s
  ·have e : intI s = dv (bodyB s).data.toList := by unfold intI; rw [if_neg (by simp [hm])]
   rw [e, if_neg (by omega), show ((dv (bodyB s).data.toList : Nat) : Int).natAbs = dv (bodyB s).data.toList from rfl, hd]
   simp
  ·have e : intI s = -(dv (bodyB s).data.toList : Int) := by unfold intI; rw [if_pos hm]
   have hn := minus_neg h hm
   rw [if_pos hn, e, Int.natAbs_neg, show ((dv (bodyB s).data.toList : Nat) : Int).natAbs = dv (bodyB s).data.toList from rfl, hd]
   simp
 unfold strI
 rw [key]
end
section
open Go.Proofs.YtnjbinpbkjdjpaaGreatDoorW.PrintLast Go.Proofs.YtnjbinpbkjdjpaaGreatDoorW.PrintMore Go.Proofs.YtnjbinpbkjdjpaaGreatDoorW.PrintWords Go.RowKit Go.Shelf
theorem minus_cons {s : ByteArray} (h : minusB s = true) : s.data.toList = 45 :: (bodyB s).data.toList := by
 unfold minusB Lib.hasPrefix at h
 unfold bodyB Lib.trimPrefix Lib.hasPrefix
 cases hl : s.data.toList with
 | nil => rw [hl] at h; simp at h
 | cons c l =>
   rw [hl] at h
   have hc : 45 = c := by simpa [List.isPrefixOf] using h
   subst hc
   simp [List.isPrefixOf]
theorem body_self {s : ByteArray} (h : minusB s = false) : bodyB s = s := by
 unfold minusB at h
 unfold bodyB Lib.trimPrefix
 rw [h]
 apply ByteArray.ext
 simp
theorem body_extract {s : ByteArray} (h : minusB s = true) : s.extract 1 s.size = bodyB s ∧ s.size = (bodyB s).size + 1 ∧ ∀ h0 : 0 < s.size, (s[0]'h0).toNat = 45 := by
 have hc := minus_cons h
 have hz : s.size = (bodyB s).size + 1 := by
  have := congrArg List.length hc
  simpa using this
 refine ⟨?_, hz, fun h0 => ?_⟩
 ·apply ByteArray.ext
  apply Array.toList_inj.1
  rw [ByteArray.data_extract, Array.toList_extract, hc]
  simp
  rw [hz]
  exact List.take_of_length_le (by simp)
 ·have hl : 0 < s.data.toList.length := by rw [hc]; simp
  have e : s[0]'h0 = s.data.toList[0]'hl := by simp; rfl
  rw [e]
  simp [hc]
theorem minus_not {s : ByteArray} (h : minusB s = false) (h0 : 0 < s.size) : (s[0]'h0).toNat ≠ 45 := by
 intro e
 unfold minusB Lib.hasPrefix at h
 have hl : 0 < s.data.toList.length := by simpa using h0
 have e1 : s[0]'h0 = s.data.toList[0]'hl := by simp; rfl
 cases hs : s.data.toList with
 | nil => rw [hs] at hl; simp at hl
 | cons c l =>
   rw [hs] at h
   have e2 : s.data.toList[0]'hl = c := by simp [hs]
   rw [e1, e2] at e
   have : c = 45 := UInt8.toNat_inj.1 e
   subst this
   simp [List.isPrefixOf] at h
end
section
open Go.Proofs.YtnjbinpbkjdjpaaGreatDoorW.PrintLast Go.Proofs.YtnjbinpbkjdjpaaGreatDoorW.PrintMore Go.Proofs.YtnjbinpbkjdjpaaGreatDoorW.PrintWords Go.RowKit Go.Shelf
open Go.Lib (decDigits itoa)
theorem rinfo8 : (Tryz.prog.info? 5).map (fun i => (i.zero, i.size, i.bytes)) = some (some (.int .u8 0), 1, 1) := by kernel_rfl
theorem dig_nat {r : Nat} (h : r < 10) : (UInt8.ofNat (48 + r)).toNat = 48 + r := by rw [UInt8.toNat_ofNat', Nat.mod_eq_of_lt (by omega)]
end
end Go.Proofs.YtnjbinpbkjdjpaaGreatDoor.Nm
