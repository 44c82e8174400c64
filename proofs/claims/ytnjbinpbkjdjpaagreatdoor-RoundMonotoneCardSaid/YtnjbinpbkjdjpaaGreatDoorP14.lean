import Derived.Test.YtnjbinpbkjdjpaaGreatDoorP13
import Derived.Test.YtnjbinpbkjdjpaaGreatDoorP7
import Derived.Test.YtnjbinpbkjdjpaaGreatDoorRows
import Derived.Deep.DeepHandedRow
import Derived.Deep.DeepWitnessRowRef
import Derived.Lib.LaidTab
import Derived.Lib.LaidU8
import Derived.Lib.LaidIn
import Derived.LaidHandle
import Derived.LaidMore
import Derived.ProofKit
import Derived.SizedLaws
import Derived.OpenShut
import Derived.Carry
/- Own text: contracts and laws on which the card rests (FmC FcW). -/
set_option linter.unusedVariables false
set_option linter.unusedSimpArgs false
set_option maxRecDepth 1000000
set_option maxHeartbeats 16000000
namespace Go.Proofs.YtnjbinpbkjdjpaaGreatDoor.Nm
section
open Go.Proofs.YtnjbinpbkjdjpaaGreatDoor.Rf Go.Proofs.YtnjbinpbkjdjpaaGreatDoorW.PrintLast Go.Proofs.YtnjbinpbkjdjpaaGreatDoorW.PrintMore Go.Proofs.YtnjbinpbkjdjpaaGreatDoorW.PrintWords Go.RowKit Go.Shelf Ieee
theorem mono_longA {a b : ByteArray} (h : 100 < a.size) (w : World) (hE : EN w) : Calls Tryz.prog 10 #[.string a, .string b] w fun e w' => e = .returned (.bool true) ∧ Below w.heap.size w w' := by
 have HA : Aside0 (∀ W, Below w.heap.size w W → Calls Tryz.prog 22 #[] W fun e w' => e = .returned (.bool true) ∧ Below W.heap.size W w') := ⟨fun W hb => awakeR_calls W (hE.below hb)⟩
 have HC := Aside0.mk (Below.refl w.heap.size w)
 have d1 : decide ((100 : Int) < (a.size : Int)) = true := decide_eq_true (by omega)
 clear hE h
 go_enter Tryz.func10, Tryz.ntmps10
 go_wp2_with (first | (go_at_call 22; (with_reducible refine (HA.out _ HC.out).mono ?_); rintro e VA ⟨rfl, hbx⟩; have HC2 := Aside0.mk (HC.out.trans (hbx.mono HC.out.size)); clear HC; have HC := HC2; clear HC2 hbx))
 go_ret
 exact ⟨by first | rfl | simp, HC.out⟩
theorem mono_longB {a b : ByteArray} (h : ¬ 100 < a.size) (h2 : 100 < b.size) (w : World) (hE : EN w) : Calls Tryz.prog 10 #[.string a, .string b] w fun e w' => e = .returned (.bool true) ∧ Below w.heap.size w w' := by
 have HA : Aside0 (∀ W, Below w.heap.size w W → Calls Tryz.prog 22 #[] W fun e w' => e = .returned (.bool true) ∧ Below W.heap.size W w') := ⟨fun W hb => awakeR_calls W (hE.below hb)⟩
 have HC := Aside0.mk (Below.refl w.heap.size w)
 have d1 : decide ((100 : Int) < (a.size : Int)) = false := decide_eq_false (by omega)
 have d2 : decide ((100 : Int) < (b.size : Int)) = true := decide_eq_true (by omega)
 clear hE h h2
 go_enter Tryz.func10, Tryz.ntmps10
 go_wp2_with (first | (go_at_call 22; (with_reducible refine (HA.out _ HC.out).mono ?_); rintro e VA ⟨rfl, hbx⟩; have HC2 := Aside0.mk (HC.out.trans (hbx.mono HC.out.size)); clear HC; have HC := HC2; clear HC2 hbx))
 go_ret
 exact ⟨by first | rfl | simp, HC.out⟩
theorem mono_badA {a b : ByteArray} (ha : a.size ≤ 100) (hb : b.size ≤ 100) (h : checkR a ≠ 0) (w : World) (hE : EN w) : Calls Tryz.prog 10 #[.string a, .string b] w fun e w' => e = .returned (.bool true) ∧ Below w.heap.size w w' := by
 have HA : Aside0 (∀ W, Below w.heap.size w W → Calls Tryz.prog 22 #[] W fun e w' => e = .returned (.bool true) ∧ Below W.heap.size W w') := ⟨fun W hb => awakeR_calls W (hE.below hb)⟩
 have HC := Aside0.mk (Below.refl w.heap.size w)
 have d1 : decide ((100 : Int) < (a.size : Int)) = false := decide_eq_false (by omega)
 have d2 : decide ((100 : Int) < (b.size : Int)) = false := decide_eq_false (by omega)
 have HKA : Aside0 (∀ W, Below w.heap.size w W → Calls Tryz.prog 58 #[.string a] W fun e w' => e = .returned (.int .i64 (checkR a)) ∧ Below W.heap.size W w') := ⟨fun W hb => checkR_calls a (by omega) W (hE.below hb)⟩
 have hne : (checkR a != 0) = true := by simp [h]
 clear hE h ha hb
 generalize checkR a = k at *
 go_enter Tryz.func10, Tryz.ntmps10
 go_wp2_with (first | (go_at_call 22; (with_reducible refine (HA.out _ HC.out).mono ?_); rintro e VA ⟨rfl, hbx⟩; have HC2 := Aside0.mk (HC.out.trans (hbx.mono HC.out.size)); clear HC; have HC := HC2; clear HC2 hbx) | (go_at_call 58; (with_reducible refine (HKA.out _ HC.out).mono ?_); rintro e VB ⟨rfl, hbx⟩; have HC2 := Aside0.mk (HC.out.trans (hbx.mono HC.out.size)); clear HC; have HC := HC2; clear HC2 hbx))
 go_ret
 exact ⟨by first | rfl | simp, HC.out⟩
theorem mono_badB {a b : ByteArray} (ha : a.size ≤ 100) (hb : b.size ≤ 100) (h1 : checkR a = 0) (h : checkR b ≠ 0) (w : World) (hE : EN w) : Calls Tryz.prog 10 #[.string a, .string b] w fun e w' => e = .returned (.bool true) ∧ Below w.heap.size w w' := by
 have HA : Aside0 (∀ W, Below w.heap.size w W → Calls Tryz.prog 22 #[] W fun e w' => e = .returned (.bool true) ∧ Below W.heap.size W w') := ⟨fun W hb => awakeR_calls W (hE.below hb)⟩
 have HC := Aside0.mk (Below.refl w.heap.size w)
 have d1 : decide ((100 : Int) < (a.size : Int)) = false := decide_eq_false (by omega)
 have d2 : decide ((100 : Int) < (b.size : Int)) = false := decide_eq_false (by omega)
 have HKA : Aside0 (∀ W, Below w.heap.size w W → Calls Tryz.prog 58 #[.string a] W fun e w' => e = .returned (.int .i64 0) ∧ Below W.heap.size W w') := ⟨fun W hb => by
  have := checkR_calls a (by omega) W (hE.below hb)
  rwa [h1] at this⟩
 have HKB : Aside0 (∀ W, Below w.heap.size w W → Calls Tryz.prog 58 #[.string b] W fun e w' => e = .returned (.int .i64 (checkR b)) ∧ Below W.heap.size W w') := ⟨fun W hb => checkR_calls b (by omega) W (hE.below hb)⟩
 have hne : (checkR b != 0) = true := by simp [h]
 clear hE h ha hb h1
 generalize checkR b = k at *
 go_enter Tryz.func10, Tryz.ntmps10
 go_wp2_with (first | (go_at_call 22; (with_reducible refine (HA.out _ HC.out).mono ?_); rintro e VA ⟨rfl, hbx⟩; have HC2 := Aside0.mk (HC.out.trans (hbx.mono HC.out.size)); clear HC; have HC := HC2; clear HC2 hbx) | (go_at_call 58; (with_reducible refine (HKA.out _ HC.out).mono ?_); rintro e VB ⟨rfl, hbx⟩; have HC2 := Aside0.mk (HC.out.trans (hbx.mono HC.out.size)); clear HC; have HC := HC2; clear HC2 hbx) | (go_at_call 58; (with_reducible refine (HKB.out _ HC.out).mono ?_); rintro e VC ⟨rfl, hbx⟩; have HC2 := Aside0.mk (HC.out.trans (hbx.mono HC.out.size)); clear HC; have HC := HC2; clear HC2 hbx))
 go_ret
 exact ⟨by first | rfl | simp, HC.out⟩
theorem mono_r30 {a b : ByteArray} (ha : a.size ≤ 100) (hb : b.size ≤ 100) (h1 : checkR a = 0) (h2 : checkR b = 0) (t1 : toE a = 3) (t2 : toE b = 0) (w : World) (hE : EN w) : Calls Tryz.prog 10 #[.string a, .string b] w fun e w' => e = .returned (.bool true) ∧ Below w.heap.size w w' := by
 have HA : Aside0 (∀ W, Below w.heap.size w W → Calls Tryz.prog 22 #[] W fun e w' => e = .returned (.bool true) ∧ Below W.heap.size W w') := ⟨fun W hb => awakeR_calls W (hE.below hb)⟩
 have HC := Aside0.mk (Below.refl w.heap.size w)
 have d1 : decide ((100 : Int) < (a.size : Int)) = false := decide_eq_false (by omega)
 have d2 : decide ((100 : Int) < (b.size : Int)) = false := decide_eq_false (by omega)
 have HKA : Aside0 (∀ W, Below w.heap.size w W → Calls Tryz.prog 58 #[.string a] W fun e w' => e = .returned (.int .i64 0) ∧ Below W.heap.size W w') := ⟨fun W hb => by
  have := checkR_calls a (by omega) W (hE.below hb)
  rwa [h1] at this⟩
 have HKB : Aside0 (∀ W, Below w.heap.size w W → Calls Tryz.prog 58 #[.string b] W fun e w' => e = .returned (.int .i64 0) ∧ Below W.heap.size W w') := ⟨fun W hb => by
  have := checkR_calls b (by omega) W (hE.below hb)
  rwa [h2] at this⟩
 have HTA : Aside0 (∀ W, Below w.heap.size w W → Calls Tryz.prog 23 #[.string a] W fun e w' => e = .returned (.tuple #[.float .f32 (toW a), .int .i64 (3)]) ∧ Below W.heap.size W w') := ⟨fun W hb => by
  have := to32_calls a (by omega) W (hE.below hb)
  rwa [t1] at this⟩
 have HTB : Aside0 (∀ W, Below w.heap.size w W → Calls Tryz.prog 23 #[.string b] W fun e w' => e = .returned (.tuple #[.float .f32 (toW b), .int .i64 (0)]) ∧ Below W.heap.size W w') := ⟨fun W hb => by
  have := to32_calls b (by omega) W (hE.below hb)
  rwa [t2] at this⟩
 clear hE ha hb h1 h2 t1 t2
 generalize toW a = x at *
 generalize toW b = y at *
 go_enter Tryz.func10, Tryz.ntmps10
 go_wp2_with (first | (go_at_call 22; (with_reducible refine (HA.out _ HC.out).mono ?_); rintro e VA ⟨rfl, hbx⟩; have HC2 := Aside0.mk (HC.out.trans (hbx.mono HC.out.size)); clear HC; have HC := HC2; clear HC2 hbx) | (go_at_call 58; (with_reducible refine (HKA.out _ HC.out).mono ?_); rintro e VB ⟨rfl, hbx⟩; have HC2 := Aside0.mk (HC.out.trans (hbx.mono HC.out.size)); clear HC; have HC := HC2; clear HC2 hbx) | (go_at_call 58; (with_reducible refine (HKB.out _ HC.out).mono ?_); rintro e VC ⟨rfl, hbx⟩; have HC2 := Aside0.mk (HC.out.trans (hbx.mono HC.out.size)); clear HC; have HC := HC2; clear HC2 hbx) | (go_at_call 23; (with_reducible refine (HTA.out _ HC.out).mono ?_); rintro e VD ⟨rfl, hbx⟩; have HC2 := Aside0.mk (HC.out.trans (hbx.mono HC.out.size)); clear HC; have HC := HC2; clear HC2 hbx) | (go_at_call 23; (with_reducible refine (HTB.out _ HC.out).mono ?_); rintro e VE ⟨rfl, hbx⟩; have HC2 := Aside0.mk (HC.out.trans (hbx.mono HC.out.size)); clear HC; have HC := HC2; clear HC2 hbx))
 go_ret
 exact ⟨by first | rfl | simp, HC.out⟩
theorem mono_r33 {a b : ByteArray} (ha : a.size ≤ 100) (hb : b.size ≤ 100) (h1 : checkR a = 0) (h2 : checkR b = 0) (t1 : toE a = 3) (t2 : toE b = 3) (w : World) (hE : EN w) : Calls Tryz.prog 10 #[.string a, .string b] w fun e w' => e = .returned (.bool true) ∧ Below w.heap.size w w' := by
 have HA : Aside0 (∀ W, Below w.heap.size w W → Calls Tryz.prog 22 #[] W fun e w' => e = .returned (.bool true) ∧ Below W.heap.size W w') := ⟨fun W hb => awakeR_calls W (hE.below hb)⟩
 have HC := Aside0.mk (Below.refl w.heap.size w)
 have d1 : decide ((100 : Int) < (a.size : Int)) = false := decide_eq_false (by omega)
 have d2 : decide ((100 : Int) < (b.size : Int)) = false := decide_eq_false (by omega)
 have HKA : Aside0 (∀ W, Below w.heap.size w W → Calls Tryz.prog 58 #[.string a] W fun e w' => e = .returned (.int .i64 0) ∧ Below W.heap.size W w') := ⟨fun W hb => by
  have := checkR_calls a (by omega) W (hE.below hb)
  rwa [h1] at this⟩
 have HKB : Aside0 (∀ W, Below w.heap.size w W → Calls Tryz.prog 58 #[.string b] W fun e w' => e = .returned (.int .i64 0) ∧ Below W.heap.size W w') := ⟨fun W hb => by
  have := checkR_calls b (by omega) W (hE.below hb)
  rwa [h2] at this⟩
 have HTA : Aside0 (∀ W, Below w.heap.size w W → Calls Tryz.prog 23 #[.string a] W fun e w' => e = .returned (.tuple #[.float .f32 (toW a), .int .i64 (3)]) ∧ Below W.heap.size W w') := ⟨fun W hb => by
  have := to32_calls a (by omega) W (hE.below hb)
  rwa [t1] at this⟩
 have HTB : Aside0 (∀ W, Below w.heap.size w W → Calls Tryz.prog 23 #[.string b] W fun e w' => e = .returned (.tuple #[.float .f32 (toW b), .int .i64 (3)]) ∧ Below W.heap.size W w') := ⟨fun W hb => by
  have := to32_calls b (by omega) W (hE.below hb)
  rwa [t2] at this⟩
 clear hE ha hb h1 h2 t1 t2
 generalize toW a = x at *
 generalize toW b = y at *
 go_enter Tryz.func10, Tryz.ntmps10
 go_wp2_with (first | (go_at_call 22; (with_reducible refine (HA.out _ HC.out).mono ?_); rintro e VA ⟨rfl, hbx⟩; have HC2 := Aside0.mk (HC.out.trans (hbx.mono HC.out.size)); clear HC; have HC := HC2; clear HC2 hbx) | (go_at_call 58; (with_reducible refine (HKA.out _ HC.out).mono ?_); rintro e VB ⟨rfl, hbx⟩; have HC2 := Aside0.mk (HC.out.trans (hbx.mono HC.out.size)); clear HC; have HC := HC2; clear HC2 hbx) | (go_at_call 58; (with_reducible refine (HKB.out _ HC.out).mono ?_); rintro e VC ⟨rfl, hbx⟩; have HC2 := Aside0.mk (HC.out.trans (hbx.mono HC.out.size)); clear HC; have HC := HC2; clear HC2 hbx) | (go_at_call 23; (with_reducible refine (HTA.out _ HC.out).mono ?_); rintro e VD ⟨rfl, hbx⟩; have HC2 := Aside0.mk (HC.out.trans (hbx.mono HC.out.size)); clear HC; have HC := HC2; clear HC2 hbx) | (go_at_call 23; (with_reducible refine (HTB.out _ HC.out).mono ?_); rintro e VE ⟨rfl, hbx⟩; have HC2 := Aside0.mk (HC.out.trans (hbx.mono HC.out.size)); clear HC; have HC := HC2; clear HC2 hbx))
 go_ret
 exact ⟨by first | rfl | simp, HC.out⟩
theorem mono_r03 {a b : ByteArray} (ha : a.size ≤ 100) (hb : b.size ≤ 100) (h1 : checkR a = 0) (h2 : checkR b = 0) (t1 : toE a = 0) (t2 : toE b = 3) (w : World) (hE : EN w) : Calls Tryz.prog 10 #[.string a, .string b] w fun e w' => e = .returned (.bool true) ∧ Below w.heap.size w w' := by
 have HA : Aside0 (∀ W, Below w.heap.size w W → Calls Tryz.prog 22 #[] W fun e w' => e = .returned (.bool true) ∧ Below W.heap.size W w') := ⟨fun W hb => awakeR_calls W (hE.below hb)⟩
 have HC := Aside0.mk (Below.refl w.heap.size w)
 have d1 : decide ((100 : Int) < (a.size : Int)) = false := decide_eq_false (by omega)
 have d2 : decide ((100 : Int) < (b.size : Int)) = false := decide_eq_false (by omega)
 have HKA : Aside0 (∀ W, Below w.heap.size w W → Calls Tryz.prog 58 #[.string a] W fun e w' => e = .returned (.int .i64 0) ∧ Below W.heap.size W w') := ⟨fun W hb => by
  have := checkR_calls a (by omega) W (hE.below hb)
  rwa [h1] at this⟩
 have HKB : Aside0 (∀ W, Below w.heap.size w W → Calls Tryz.prog 58 #[.string b] W fun e w' => e = .returned (.int .i64 0) ∧ Below W.heap.size W w') := ⟨fun W hb => by
  have := checkR_calls b (by omega) W (hE.below hb)
  rwa [h2] at this⟩
 have HTA : Aside0 (∀ W, Below w.heap.size w W → Calls Tryz.prog 23 #[.string a] W fun e w' => e = .returned (.tuple #[.float .f32 (toW a), .int .i64 (0)]) ∧ Below W.heap.size W w') := ⟨fun W hb => by
  have := to32_calls a (by omega) W (hE.below hb)
  rwa [t1] at this⟩
 have HTB : Aside0 (∀ W, Below w.heap.size w W → Calls Tryz.prog 23 #[.string b] W fun e w' => e = .returned (.tuple #[.float .f32 (toW b), .int .i64 (3)]) ∧ Below W.heap.size W w') := ⟨fun W hb => by
  have := to32_calls b (by omega) W (hE.below hb)
  rwa [t2] at this⟩
 clear hE ha hb h1 h2 t1 t2
 generalize toW a = x at *
 generalize toW b = y at *
 go_enter Tryz.func10, Tryz.ntmps10
 go_wp2_with (first | (go_at_call 22; (with_reducible refine (HA.out _ HC.out).mono ?_); rintro e VA ⟨rfl, hbx⟩; have HC2 := Aside0.mk (HC.out.trans (hbx.mono HC.out.size)); clear HC; have HC := HC2; clear HC2 hbx) | (go_at_call 58; (with_reducible refine (HKA.out _ HC.out).mono ?_); rintro e VB ⟨rfl, hbx⟩; have HC2 := Aside0.mk (HC.out.trans (hbx.mono HC.out.size)); clear HC; have HC := HC2; clear HC2 hbx) | (go_at_call 58; (with_reducible refine (HKB.out _ HC.out).mono ?_); rintro e VC ⟨rfl, hbx⟩; have HC2 := Aside0.mk (HC.out.trans (hbx.mono HC.out.size)); clear HC; have HC := HC2; clear HC2 hbx) | (go_at_call 23; (with_reducible refine (HTA.out _ HC.out).mono ?_); rintro e VD ⟨rfl, hbx⟩; have HC2 := Aside0.mk (HC.out.trans (hbx.mono HC.out.size)); clear HC; have HC := HC2; clear HC2 hbx) | (go_at_call 23; (with_reducible refine (HTB.out _ HC.out).mono ?_); rintro e VE ⟨rfl, hbx⟩; have HC2 := Aside0.mk (HC.out.trans (hbx.mono HC.out.size)); clear HC; have HC := HC2; clear HC2 hbx))
 go_ret
 exact ⟨by first | rfl | simp, HC.out⟩
/-- What the walk wants of the comparison. -/
structure CMo (c : Int) (x y : Nat) : Prop where
 h : (c = -1 ∧ (FloatKind.f32.format.order x y == some .gt) = false) ∨ (c = 1 ∧ (FloatKind.f32.format.order x y == some .lt) = false) ∨ (c = 0 ∧ (FloatKind.f32.format.order x y != some .eq) = false)
theorem mono_large {w : World} {a b : ByteArray} {c : Int} {x y : Nat} {d u : ByteArray}
 (HA : Aside0 (∀ W, Below w.heap.size w W → Calls Tryz.prog 22 #[] W fun e w' => e = .returned (.bool true) ∧ Below W.heap.size W w')) (ha : a.size ≤ 100) (hb : b.size ≤ 100)
 (HKA : Aside0 (∀ W, Below w.heap.size w W → Calls Tryz.prog 58 #[.string a] W fun e w' => e = .returned (.int .i64 0) ∧ Below W.heap.size W w')) (HKB : Aside0 (∀ W, Below w.heap.size w W → Calls Tryz.prog 58 #[.string b] W fun e w' => e = .returned (.int .i64 0) ∧ Below W.heap.size W w'))
 (HTA : Aside0 (∀ W, Below w.heap.size w W → Calls Tryz.prog 23 #[.string a] W fun e w' => e = .returned (.tuple #[.float .f32 x, .int .i64 0]) ∧ Below W.heap.size W w')) (HTB : Aside0 (∀ W, Below w.heap.size w W → Calls Tryz.prog 23 #[.string b] W fun e w' => e = .returned (.tuple #[.float .f32 y, .int .i64 0]) ∧ Below W.heap.size W w'))
 (HCM : Aside0 (∀ W, Below w.heap.size w W → Calls Tryz.prog 59 #[.string a, .string b] W fun e w' => e = .returned (.tuple #[.int .i64 c, .int .i64 0]) ∧ Below W.heap.size W w')) (hc : CMo c x y)
 (HER : Aside0 (∀ W, Below w.heap.size w W → Calls Tryz.prog 20 #[.string a] W fun e w' => e = .returned (.tuple #[.string d, .int .i64 4]) ∧ Below W.heap.size W w')) (HU : Aside0 (∀ W, Calls Tryz.prog 19 #[.float .f32 x] W fun e w' => e = .returned (.tuple #[.string u, .int .i64 0]) ∧ Below W.heap.size W w')) :
 Calls Tryz.prog 10 #[.string a, .string b] w fun e w' => e = .returned (.bool true) ∧ Below w.heap.size w w' := by
 have HC := Aside0.mk (Below.refl w.heap.size w)
 have d1 : decide ((100 : Int) < (a.size : Int)) = false := decide_eq_false (by omega)
 have d2 : decide ((100 : Int) < (b.size : Int)) = false := decide_eq_false (by omega)
 clear ha hb
 rcases hc.h with ⟨rfl, g⟩ | ⟨rfl, g⟩ | ⟨rfl, g⟩
 all_goals
  clear hc
  go_enter Tryz.func10, Tryz.ntmps10
  go_wp2_with (first | (go_at_call 22; (with_reducible refine (HA.out _ HC.out).mono ?_); rintro e VA ⟨rfl, hbx⟩; have HC2 := Aside0.mk (HC.out.trans (hbx.mono HC.out.size)); clear HC; have HC := HC2; clear HC2 hbx) | (go_at_call 58; (with_reducible refine (HKA.out _ HC.out).mono ?_); rintro e VB ⟨rfl, hbx⟩; have HC2 := Aside0.mk (HC.out.trans (hbx.mono HC.out.size)); clear HC; have HC := HC2; clear HC2 hbx) | (go_at_call 58; (with_reducible refine (HKB.out _ HC.out).mono ?_); rintro e VC ⟨rfl, hbx⟩; have HC2 := Aside0.mk (HC.out.trans (hbx.mono HC.out.size)); clear HC; have HC := HC2; clear HC2 hbx) | (go_at_call 23; (with_reducible refine (HTA.out _ HC.out).mono ?_); rintro e VD ⟨rfl, hbx⟩; have HC2 := Aside0.mk (HC.out.trans (hbx.mono HC.out.size)); clear HC; have HC := HC2; clear HC2 hbx) | (go_at_call 23; (with_reducible refine (HTB.out _ HC.out).mono ?_); rintro e VE ⟨rfl, hbx⟩; have HC2 := Aside0.mk (HC.out.trans (hbx.mono HC.out.size)); clear HC; have HC := HC2; clear HC2 hbx) | (go_at_call 59; (with_reducible refine (HCM.out _ HC.out).mono ?_); rintro e VF ⟨rfl, hbx⟩; have HC2 := Aside0.mk (HC.out.trans (hbx.mono HC.out.size)); clear HC; have HC := HC2; clear HC2 hbx) | (go_at_call 20; (with_reducible refine (HER.out _ HC.out).mono ?_); rintro e VG ⟨rfl, hbx⟩; have HC2 := Aside0.mk (HC.out.trans (hbx.mono HC.out.size)); clear HC; have HC := HC2; clear HC2 hbx) | (go_at_call 19; (with_reducible refine (HU.out _).mono ?_); rintro e VH ⟨rfl, hbx⟩; have HC2 := Aside0.mk (HC.out.trans (hbx.mono HC.out.size)); clear HC; have HC := HC2; clear HC2 hbx))
  go_ret
  exact ⟨by first | rfl | simp, HC.out⟩
theorem mono_plus {w : World} {a b : ByteArray} {c : Int} {x y : Nat} {d u h : ByteArray} {k : Int}
 (HA : Aside0 (∀ W, Below w.heap.size w W → Calls Tryz.prog 22 #[] W fun e w' => e = .returned (.bool true) ∧ Below W.heap.size W w')) (ha : a.size ≤ 100) (hb : b.size ≤ 100)
 (HKA : Aside0 (∀ W, Below w.heap.size w W → Calls Tryz.prog 58 #[.string a] W fun e w' => e = .returned (.int .i64 0) ∧ Below W.heap.size W w')) (HKB : Aside0 (∀ W, Below w.heap.size w W → Calls Tryz.prog 58 #[.string b] W fun e w' => e = .returned (.int .i64 0) ∧ Below W.heap.size W w'))
 (HTA : Aside0 (∀ W, Below w.heap.size w W → Calls Tryz.prog 23 #[.string a] W fun e w' => e = .returned (.tuple #[.float .f32 x, .int .i64 0]) ∧ Below W.heap.size W w')) (HTB : Aside0 (∀ W, Below w.heap.size w W → Calls Tryz.prog 23 #[.string b] W fun e w' => e = .returned (.tuple #[.float .f32 y, .int .i64 0]) ∧ Below W.heap.size W w'))
 (HCM : Aside0 (∀ W, Below w.heap.size w W → Calls Tryz.prog 59 #[.string a, .string b] W fun e w' => e = .returned (.tuple #[.int .i64 c, .int .i64 0]) ∧ Below W.heap.size W w')) (hc : CMo c x y)
 (HER : Aside0 (∀ W, Below w.heap.size w W → Calls Tryz.prog 20 #[.string a] W fun e w' => e = .returned (.tuple #[.string d, .int .i64 0]) ∧ Below W.heap.size W w')) (HU : Aside0 (∀ W, Calls Tryz.prog 19 #[.float .f32 x] W fun e w' => e = .returned (.tuple #[.string u, .int .i64 0]) ∧ Below W.heap.size W w'))
 (HM : Aside0 (∀ W, Below w.heap.size w W → Calls Tryz.prog 16 #[.string u, .string ⟨#[49, 47, 50]⟩] W fun e w' => e = .returned (.tuple #[.string h, .int .i64 0]) ∧ Below W.heap.size W w'))
 (HC2R : Aside0 (∀ W, Below w.heap.size w W → Calls Tryz.prog 59 #[.string d, .string h] W fun e w' => e = .returned (.tuple #[.int .i64 k, .int .i64 0]) ∧ Below W.heap.size W w')) (hk : k ≤ 0) (hne : d.toList.isEmpty = false) (hdp : 0 < d.size) {n : Nat} (hx0 : ∀ h : 0 < d.size, ((d[0]'h).toNat : Int) = (n : Int)) (hn : n ≠ 45) :
 Calls Tryz.prog 10 #[.string a, .string b] w fun e w' => e = .returned (.bool true) ∧ Below w.heap.size w w' := by
 have HC := Aside0.mk (Below.refl w.heap.size w)
 have d1 : decide ((100 : Int) < (a.size : Int)) = false := decide_eq_false (by omega)
 have d2 : decide ((100 : Int) < (b.size : Int)) = false := decide_eq_false (by omega)
 clear ha hb
 have g2 : ((n : Int) == 45) = false := by rw [beq_eq_false_iff_ne]; omega
 have q1 : (0 < d.size) = True := eq_true hdp
 have q2 : ((0 : Int) < (d.size : Int)) = True := eq_true (by omega)
 have hle : decide (k ≤ 0) = true := decide_eq_true hk
 clear hk hn
 rcases hc.h with ⟨rfl, g⟩ | ⟨rfl, g⟩ | ⟨rfl, g⟩
 all_goals
  clear hc
  go_enter Tryz.func10, Tryz.ntmps10
  go_wp2_with (first | (go_at_call 22; (with_reducible refine (HA.out _ HC.out).mono ?_); rintro e VA ⟨rfl, hbx⟩; have HC2 := Aside0.mk (HC.out.trans (hbx.mono HC.out.size)); clear HC; have HC := HC2; clear HC2 hbx) | (go_at_call 58; (with_reducible refine (HKA.out _ HC.out).mono ?_); rintro e VB ⟨rfl, hbx⟩; have HC2 := Aside0.mk (HC.out.trans (hbx.mono HC.out.size)); clear HC; have HC := HC2; clear HC2 hbx) | (go_at_call 58; (with_reducible refine (HKB.out _ HC.out).mono ?_); rintro e VC ⟨rfl, hbx⟩; have HC2 := Aside0.mk (HC.out.trans (hbx.mono HC.out.size)); clear HC; have HC := HC2; clear HC2 hbx) | (go_at_call 23; (with_reducible refine (HTA.out _ HC.out).mono ?_); rintro e VD ⟨rfl, hbx⟩; have HC2 := Aside0.mk (HC.out.trans (hbx.mono HC.out.size)); clear HC; have HC := HC2; clear HC2 hbx) | (go_at_call 23; (with_reducible refine (HTB.out _ HC.out).mono ?_); rintro e VE ⟨rfl, hbx⟩; have HC2 := Aside0.mk (HC.out.trans (hbx.mono HC.out.size)); clear HC; have HC := HC2; clear HC2 hbx) | (go_at_call 59; (with_reducible refine (HCM.out _ HC.out).mono ?_); rintro e VF ⟨rfl, hbx⟩; have HC2 := Aside0.mk (HC.out.trans (hbx.mono HC.out.size)); clear HC; have HC := HC2; clear HC2 hbx) | (go_at_call 20; (with_reducible refine (HER.out _ HC.out).mono ?_); rintro e VG ⟨rfl, hbx⟩; have HC2 := Aside0.mk (HC.out.trans (hbx.mono HC.out.size)); clear HC; have HC := HC2; clear HC2 hbx) | (go_at_call 19; (with_reducible refine (HU.out _).mono ?_); rintro e VH ⟨rfl, hbx⟩; have HC2 := Aside0.mk (HC.out.trans (hbx.mono HC.out.size)); clear HC; have HC := HC2; clear HC2 hbx) | (go_at_call 16; (with_reducible refine (HM.out _ HC.out).mono ?_); rintro e VI ⟨rfl, hbx⟩; have HC2 := Aside0.mk (HC.out.trans (hbx.mono HC.out.size)); clear HC; have HC := HC2; clear HC2 hbx) | (go_at_call 59; (with_reducible refine (HC2R.out _ HC.out).mono ?_); rintro e VJ ⟨rfl, hbx⟩; have HC2 := Aside0.mk (HC.out.trans (hbx.mono HC.out.size)); clear HC; have HC := HC2; clear HC2 hbx))
  go_ret
  exact ⟨by first | rfl | simp, HC.out⟩
theorem mono_minus {w : World} {a b : ByteArray} {c : Int} {x y : Nat} {d u h t : ByteArray} {k : Int}
 (HA : Aside0 (∀ W, Below w.heap.size w W → Calls Tryz.prog 22 #[] W fun e w' => e = .returned (.bool true) ∧ Below W.heap.size W w')) (ha : a.size ≤ 100) (hb : b.size ≤ 100)
 (HKA : Aside0 (∀ W, Below w.heap.size w W → Calls Tryz.prog 58 #[.string a] W fun e w' => e = .returned (.int .i64 0) ∧ Below W.heap.size W w')) (HKB : Aside0 (∀ W, Below w.heap.size w W → Calls Tryz.prog 58 #[.string b] W fun e w' => e = .returned (.int .i64 0) ∧ Below W.heap.size W w'))
 (HTA : Aside0 (∀ W, Below w.heap.size w W → Calls Tryz.prog 23 #[.string a] W fun e w' => e = .returned (.tuple #[.float .f32 x, .int .i64 0]) ∧ Below W.heap.size W w')) (HTB : Aside0 (∀ W, Below w.heap.size w W → Calls Tryz.prog 23 #[.string b] W fun e w' => e = .returned (.tuple #[.float .f32 y, .int .i64 0]) ∧ Below W.heap.size W w'))
 (HCM : Aside0 (∀ W, Below w.heap.size w W → Calls Tryz.prog 59 #[.string a, .string b] W fun e w' => e = .returned (.tuple #[.int .i64 c, .int .i64 0]) ∧ Below W.heap.size W w')) (hc : CMo c x y)
 (HER : Aside0 (∀ W, Below w.heap.size w W → Calls Tryz.prog 20 #[.string a] W fun e w' => e = .returned (.tuple #[.string d, .int .i64 0]) ∧ Below W.heap.size W w')) (HU : Aside0 (∀ W, Calls Tryz.prog 19 #[.float .f32 x] W fun e w' => e = .returned (.tuple #[.string u, .int .i64 0]) ∧ Below W.heap.size W w'))
 (HM : Aside0 (∀ W, Below w.heap.size w W → Calls Tryz.prog 16 #[.string u, .string ⟨#[49, 47, 50]⟩] W fun e w' => e = .returned (.tuple #[.string h, .int .i64 0]) ∧ Below W.heap.size W w'))
 (HC2R : Aside0 (∀ W, Below w.heap.size w W → Calls Tryz.prog 59 #[.string t, .string h] W fun e w' => e = .returned (.tuple #[.int .i64 k, .int .i64 0]) ∧ Below W.heap.size W w')) (hk : k ≤ 0) (hne : d.toList.isEmpty = false) (hdp : 0 < d.size) (hxt : d.extract 1 d.size = t) (hx0 : ∀ h : 0 < d.size, ((d[0]'h).toNat : Int) = 45) :
 Calls Tryz.prog 10 #[.string a, .string b] w fun e w' => e = .returned (.bool true) ∧ Below w.heap.size w w' := by
 have HC := Aside0.mk (Below.refl w.heap.size w)
 have d1 : decide ((100 : Int) < (a.size : Int)) = false := decide_eq_false (by omega)
 have d2 : decide ((100 : Int) < (b.size : Int)) = false := decide_eq_false (by omega)
 clear ha hb
 have q1 : (0 < d.size) = True := eq_true hdp
 have q2 : ((0 : Int) < (d.size : Int)) = True := eq_true (by omega)
 have q3 : (1 ≤ d.size) = True := eq_true (by omega)
 have hle : decide (k ≤ 0) = true := decide_eq_true hk
 clear hk
 rcases hc.h with ⟨rfl, g⟩ | ⟨rfl, g⟩ | ⟨rfl, g⟩
 all_goals
  clear hc
  go_enter Tryz.func10, Tryz.ntmps10
  go_wp2_with (first | (go_at_call 22; (with_reducible refine (HA.out _ HC.out).mono ?_); rintro e VA ⟨rfl, hbx⟩; have HC2 := Aside0.mk (HC.out.trans (hbx.mono HC.out.size)); clear HC; have HC := HC2; clear HC2 hbx) | (go_at_call 58; (with_reducible refine (HKA.out _ HC.out).mono ?_); rintro e VB ⟨rfl, hbx⟩; have HC2 := Aside0.mk (HC.out.trans (hbx.mono HC.out.size)); clear HC; have HC := HC2; clear HC2 hbx) | (go_at_call 58; (with_reducible refine (HKB.out _ HC.out).mono ?_); rintro e VC ⟨rfl, hbx⟩; have HC2 := Aside0.mk (HC.out.trans (hbx.mono HC.out.size)); clear HC; have HC := HC2; clear HC2 hbx) | (go_at_call 23; (with_reducible refine (HTA.out _ HC.out).mono ?_); rintro e VD ⟨rfl, hbx⟩; have HC2 := Aside0.mk (HC.out.trans (hbx.mono HC.out.size)); clear HC; have HC := HC2; clear HC2 hbx) | (go_at_call 23; (with_reducible refine (HTB.out _ HC.out).mono ?_); rintro e VE ⟨rfl, hbx⟩; have HC2 := Aside0.mk (HC.out.trans (hbx.mono HC.out.size)); clear HC; have HC := HC2; clear HC2 hbx) | (go_at_call 59; (with_reducible refine (HCM.out _ HC.out).mono ?_); rintro e VF ⟨rfl, hbx⟩; have HC2 := Aside0.mk (HC.out.trans (hbx.mono HC.out.size)); clear HC; have HC := HC2; clear HC2 hbx) | (go_at_call 20; (with_reducible refine (HER.out _ HC.out).mono ?_); rintro e VG ⟨rfl, hbx⟩; have HC2 := Aside0.mk (HC.out.trans (hbx.mono HC.out.size)); clear HC; have HC := HC2; clear HC2 hbx) | (go_at_call 19; (with_reducible refine (HU.out _).mono ?_); rintro e VH ⟨rfl, hbx⟩; have HC2 := Aside0.mk (HC.out.trans (hbx.mono HC.out.size)); clear HC; have HC := HC2; clear HC2 hbx) | (go_at_call 16; (with_reducible refine (HM.out _ HC.out).mono ?_); rintro e VI ⟨rfl, hbx⟩; have HC2 := Aside0.mk (HC.out.trans (hbx.mono HC.out.size)); clear HC; have HC := HC2; clear HC2 hbx) | (go_at_call 59; (with_reducible refine (HC2R.out _ HC.out).mono ?_); rintro e VJ ⟨rfl, hbx⟩; have HC2 := Aside0.mk (HC.out.trans (hbx.mono HC.out.size)); clear HC; have HC := HC2; clear HC2 hbx))
  go_ret
  exact ⟨by first | rfl | simp, HC.out⟩
theorem mono_main {a b : ByteArray} (ha : a.size ≤ 100) (hb : b.size ≤ 100) (h1 : checkR a = 0) (h2 : checkR b = 0) (t1 : toE a = 0) (t2 : toE b = 0) (w : World) (hE : EN w) :
 Calls Tryz.prog 10 #[.string a, .string b] w fun e w' => e = .returned (.bool true) ∧ Below w.heap.size w w' := by
 have HA : Aside0 (∀ W, Below w.heap.size w W → Calls Tryz.prog 22 #[] W fun e w' => e = .returned (.bool true) ∧ Below W.heap.size W w') := ⟨fun W hb => awakeR_calls W (hE.below hb)⟩
 have HKA : Aside0 (∀ W, Below w.heap.size w W → Calls Tryz.prog 58 #[.string a] W fun e w' => e = .returned (.int .i64 0) ∧ Below W.heap.size W w') := ⟨fun W hb => by
  have := checkR_calls a (by omega) W (hE.below hb)
  rwa [h1] at this⟩
 have HKB : Aside0 (∀ W, Below w.heap.size w W → Calls Tryz.prog 58 #[.string b] W fun e w' => e = .returned (.int .i64 0) ∧ Below W.heap.size W w') := ⟨fun W hb => by
  have := checkR_calls b (by omega) W (hE.below hb)
  rwa [h2] at this⟩
 have HTA : Aside0 (∀ W, Below w.heap.size w W → Calls Tryz.prog 23 #[.string a] W fun e w' => e = .returned (.tuple #[.float .f32 (toW a), .int .i64 (0)]) ∧ Below W.heap.size W w') := ⟨fun W hb => by
  have := to32_calls a (by omega) W (hE.below hb)
  rwa [t1] at this⟩
 have HTB : Aside0 (∀ W, Below w.heap.size w W → Calls Tryz.prog 23 #[.string b] W fun e w' => e = .returned (.tuple #[.float .f32 (toW b), .int .i64 (0)]) ∧ Below W.heap.size W w') := ⟨fun W hb => by
  have := to32_calls b (by omega) W (hE.below hb)
  rwa [t2] at this⟩
 have HCM : Aside0 (∀ W, Below w.heap.size w W → Calls Tryz.prog 59 #[.string a, .string b] W fun e w' => e = .returned (.tuple #[.int .i64 (cmpR a b), .int .i64 0]) ∧ Below W.heap.size W w') := ⟨fun W hw => by
  have := compareReal_calls a b (by omega) (by omega) W (hE.below hw)
  rwa [re_zero h1 h2] at this⟩
 have hc : CMo (cmpR a b) (toW a) (toW b) := ⟨mono_law h1 h2 t1 t2⟩
 obtain ⟨n1, n2⟩ := to_lt a t1
 have HU : Aside0 (∀ W, Calls Tryz.prog 19 #[.float .f32 (toW a)] W fun e w' => e = .returned (.tuple #[.string (fuS (toW a)), .int .i64 0]) ∧ Below W.heap.size W w') := ⟨fun W => by
  have := unit_calls n1 W
  unfold fmE at this
  rwa [if_pos n2] at this⟩
 have fa := Frc.of h1
 have hER : ∀ W, Below w.heap.size w W → Calls Tryz.prog 20 #[.string a] W fun e w' => e = .returned (.tuple #[.string (erS a), .int .i64 (erE a)]) ∧ Below W.heap.size W w' := fun W hw => error_calls a (by omega) W (hE.below hw)
 have h04 : erE a = 0 ∨ erE a = 4 := by rw [(er_rs fa t1).2]; exact rs_err _ _
 rcases h04 with h0 | h0
 ·obtain ⟨y1, Dn, Dd, H, G, fd, fh, k1, k2⟩ := er_half fa t1 h0
  rw [h0] at hER
  obtain ⟨_, _, fu, _⟩ := fu_frc n2
  have su := fu.size2
  have HM : Aside0 (∀ W, Below w.heap.size w W → Calls Tryz.prog 16 #[.string (fuS (toW a)), .string ⟨#[49, 47, 50]⟩] W fun e w' => e = .returned (.tuple #[.string (reS ofMul (fuS (toW a)) ⟨#[49, 47, 50]⟩), .int .i64 0]) ∧ Below W.heap.size W w') := ⟨fun W hw => by
   have := mulReal_calls (fuS (toW a)) ⟨#[49, 47, 50]⟩ (by omega) (by decide) W (hE.below hw)
   rwa [y1] at this⟩
  have fb := frc_body fd
  obtain ⟨c1, c2⟩ := fb.cmp fh
  have hk : cmpR (bodyB (erS a)) (reS ofMul (fuS (toW a)) ⟨#[49, 47, 50]⟩) ≤ 0 := by
   rw [c1]
   refine cmpI_le ?_
   rcases Int.lt_or_le Dn 0 with h5 | h5
   ·rw [show (Dn.natAbs : Int) = -Dn by omega]; exact k2
   ·rw [show (Dn.natAbs : Int) = Dn by omega]; exact k1
  have HCR : Aside0 (∀ W, Below w.heap.size w W → Calls Tryz.prog 59 #[.string (bodyB (erS a)), .string (reS ofMul (fuS (toW a)) ⟨#[49, 47, 50]⟩)] W fun e w' => e = .returned (.tuple #[.int .i64 (cmpR (bodyB (erS a)) (reS ofMul (fuS (toW a)) ⟨#[49, 47, 50]⟩)), .int .i64 0]) ∧ Below W.heap.size W w') := ⟨fun W hw => by
   have := compareReal_calls (bodyB (erS a)) (reS ofMul (fuS (toW a)) ⟨#[49, 47, 50]⟩) (Nat.le_trans fb.size (by omega)) (Nat.le_trans fh.size (by omega)) W (hE.below hw)
   rwa [c2] at this⟩
  have hdp := frc_pos fd
  have hne : (erS a).toList.isEmpty = false := by
   have hl : (erS a).data.toList.length = (erS a).size := by simp
   rw [Lib.toList_data]
   cases h : (erS a).data.toList with
   | nil => rw [h, List.length_nil] at hl; omega
   | cons a l => rfl
  cases hm : minusB (erS a)
  ·rw [body_self hm] at HCR hk
   have hno := minus_not hm hdp
   exact mono_plus HA ha hb HKA HKB HTA HTB HCM hc ⟨hER⟩ HU HM HCR hk hne hdp (fun h => rfl) hno
  ·obtain ⟨hx, hz, h0⟩ := body_extract hm
   exact mono_minus HA ha hb HKA HKB HTA HTB HCM hc ⟨hER⟩ HU HM HCR hk hne hdp hx (fun h => by have := h0 h; omega)
 ·rw [h0] at hER
  exact mono_large HA ha hb HKA HKB HTA HTB HCM hc ⟨hER⟩ HU
theorem monoR_calls (a b : ByteArray) (w : World) (hE : EN w) :
 Calls Tryz.prog 10 #[.string a, .string b] w fun e w' => e = .returned (.bool true) ∧ Below w.heap.size w w' := by
 by_cases ha : 100 < a.size
 ·exact mono_longA ha w hE
 by_cases hb : 100 < b.size
 ·exact mono_longB ha hb w hE
 by_cases h1 : checkR a = 0
 ·by_cases h2 : checkR b = 0
  ·rcases to_err h1 with t1 | t1
   ·rcases to_err h2 with t2 | t2
    ·exact mono_main (by omega) (by omega) h1 h2 t1 t2 w hE
    ·exact mono_r03 (by omega) (by omega) h1 h2 t1 t2 w hE
   ·rcases to_err h2 with t2 | t2
    ·exact mono_r30 (by omega) (by omega) h1 h2 t1 t2 w hE
    ·exact mono_r33 (by omega) (by omega) h1 h2 t1 t2 w hE
  ·exact mono_badB (by omega) (by omega) h1 h2 w hE
 ·exact mono_badA (by omega) (by omega) h1 w hE
end
section
open Go.ChangeAt Go.ChangeShapes Go.Proofs.YtnjbinpbkjdjpaaGreatDoorW.PrintLast Go.Proofs.YtnjbinpbkjdjpaaGreatDoorW.PrintMore Go.Proofs.YtnjbinpbkjdjpaaGreatDoorW.PrintWords Go.RowKit Go.WideShapes
/-- The variables that the rows list. -/
def laidL : List (String × DataW Unit) := [("math/bits.deBruijn32tab", Rows.laid_math_bits_deBruijn32tab), ("math/bits.deBruijn64tab", Rows.laid_math_bits_deBruijn64tab), ("internal/strconv.uint64pow10", Rows.laid_internal_strconv_uint64pow10)]
theorem mln_of {W : World} (h : W.ShapedOpen Tryz.prog) : ∃ m, W.cell? ⟨1, 0, none⟩ = some (.int .i64 m) := by
 obtain ⟨cs, hh, hs, hr⟩ := h.1 1 #[.int .i64 0] 3 (by decide +kernel) (by kernel_rfl)
 obtain ⟨ts, hts, _, hall⟩ := hr (by kernel_rfl)
 have hts2 : Tryz.prog.cellTypes Tryz.prog.depth 3 = some [3] := by kernel_rfl
 rw [hts2] at hts
 cases hts
 have h1 : 0 < cs.size := by rw [hs]; decide
 obtain ⟨u, hu', hok⟩ := hall 0 cs[0] (Array.getElem?_eq_getElem h1)
 have : u = 3 := (Option.some.inj (show some 3 = some u from hu')).symm
 subst this
 have hcell : W.cell? ⟨1, 0, none⟩ = some cs[0] := by
  unfold World.cell?
  rw [hh]
  exact Array.getElem?_eq_getElem h1
 rw [hcell]
 unfold Cell.ok at hok
 rw [Tryz.underlying3] at hok
 cases hv : cs[0] <;> rw [hv] at hok <;> first | (simp at hok; done) | (rename_i k a; simp at hok; exact ⟨a, by rw [hok.1]⟩) | skip
theorem tens_of {P : Program} {W : World} {n : String} {g t e m : Nat} {k : IntKind} {zs : List Int} (hn : P.globalNamed n = some g) (ht : (P.globals[g]?).map (·.type) = some t) (hu : P.underlying t = some (.array m e)) (he : P.underlying e = some (.int k)) (hce : P.cellsOf e = 1) (hct : P.cellsOf t = m)
 (h : Lib.VarReads P W n (Lib.tabData k zs)) : Lib.TabIs P W n k zs := by
 obtain ⟨g', t', cs, fuel, p, h1, h2, h3, h4⟩ := h
 obtain rfl := Option.some.inj (hn.symm.trans h1)
 obtain rfl := Option.some.inj (ht.symm.trans h2)
 have := Lib.cells_of_tab hu he hce hct h4
 unfold Lib.TabIs
 rw [h3, ← this]
theorem pow10D : (Rows.laid_internal_strconv_uint64pow10 : DataW Unit) = Lib.tabData .u64 Lib.pow10Tab := by kernel_rfl
theorem env_of {W : World} (hd : laidMet Tryz.prog laidL W) (hsh : W.ShapedOpen Tryz.prog) : EN W := by
 have r1 := Lib.laidMet.reads hd (n := "internal/strconv.uint64pow10") (d := Rows.laid_internal_strconv_uint64pow10) (by simp [laidL])
 rw [pow10D] at r1
 exact ⟨tens_of (P := Tryz.prog) (g := 2) (by kernel_rfl) (by kernel_rfl) Tryz.underlying292 Tryz.underlying53 (by kernel_rfl) (by kernel_rfl) r1, mln_of hsh⟩
theorem args_below {H : Type} {enc : TypeId × Value → H} {P : Program} (hl : laidOutB P = true) {W W' : World} (hb : Below W.heap.size W W') :
 ∀ {ts : List TypeId} {vs : List Value} {ds : List (DataW H)} {ps : List MemPlace}, (ts.all fun t => P.readableRec t && decide (t < P.types.size)) = true → (∀ x ∈ ps, x.block < W.heap.size) →
  DataW.TrodAll enc P W 0 (fun _ => true) true ts vs ds ps → DataW.TrodAll enc P W' 0 (fun b => decide (b < W.heap.size)) true ts vs ds ps
 | [], [], [], _, _, _, h => h
 | t :: ts, v :: vs, d :: ds, _, ht, hlt, ⟨p, q, h1, h2, e⟩ => by
   simp only [List.all_cons, Bool.and_eq_true, decide_eq_true_eq] at ht
   exact ⟨p, q, Below.trod hl ht.1.1 ht.1.2 h1 hb (fun x hx => hlt x (by rw [e]; exact List.mem_append_left _ hx)), args_below hl hb (by rw [List.all_eq_true]; intro x hx; simpa using List.all_eq_true.mp ht.2 x hx) (fun x hx => hlt x (by rw [e]; exact List.mem_append_right _ hx)) h2, e⟩
theorem post_law {H : Type} {enc : TypeId × Value → H} {P : Program} {f : Func} {s : ChangeSpec} {W W' : World} {args : Array Value} {ds gs : List (DataW H)} {before : List MemPlace} (hl : laidOutB P = true) (h4 : P.underlying 4 = some .bool)
 (hW : DataW.Whole enc P f.params.toList s.vars false W args.toList ds gs before) (ht : (f.params.toList.all fun t => P.readableRec t && decide (t < P.types.size)) = true)
 (hv : s.vars = []) (hs : s.fn H ds = { results := [.lit (.bool true)], args := ds }) (hr : f.resultTypes = #[4]) (hb : Below W.heap.size W W') :
 s.post enc P f false true false false W args (.bool true) W' := by
 have hlt : ∀ p ∈ before, p.block < W.heap.size := fun p hp => hW.lt p hp
 have hW' := hW
 obtain ⟨p, q, hA, hV, rfl, _, _⟩ := hW
 rw [hv] at hV
 obtain ⟨rfl, rfl⟩ := trodVars_none hV
 rw [List.append_nil] at hlt hW'
 refine ⟨ds, [], p, [], p, [], hW', ?_, ?_, ?_, World.keptBut_mono (fun x hx => ⟨hx, .inr (.inl hx)⟩) (hb.frame (· ∈ p)), fun h => by cases h⟩
 ·rw [List.append_nil, hs, hr]
  exact trodAll_cons_mk (shut_bool h4 _) trodAll_mk0
 ·rw [List.append_nil, hs]
  exact args_below hl hb ht hlt hA
 ·rw [List.append_nil, hs, hv]
  trivial
theorem laidOut : laidOutB Tryz.prog = true := by kernel_rfl
theorem ownK : ownKnob Tryz.prog.godebug = none := by kernel_rfl
end
end Go.Proofs.YtnjbinpbkjdjpaaGreatDoor.Nm
