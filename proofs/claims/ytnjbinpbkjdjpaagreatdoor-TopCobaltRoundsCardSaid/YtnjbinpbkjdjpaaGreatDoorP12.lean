import Derived.Test.YtnjbinpbkjdjpaaGreatDoorP11
import Derived.MapKept
import Derived.Carry
import Derived.Test.YtnjbinpbkjdjpaaGreatDoorP7
import Derived.Test.YtnjbinpbkjdjpaaGreatDoorRows
import Derived.Deep.DeepHandedRow
import Derived.Deep.DeepWitnessRowRef
import Derived.Lib.LaidTab
import Derived.Lib.LaidU8
import Derived.Lib.LaidIn
import Derived.LaidHandle
import Derived.LaidMore
import Derived.ProofKit
import Derived.SizedLaws
import Derived.OpenShut
/- Own text: contracts and laws on which the card rests (FcD FcE FcW). -/
set_option linter.unusedVariables false
set_option linter.unusedSimpArgs false
set_option maxRecDepth 1000000
set_option maxHeartbeats 16000000
namespace Go.Proofs.YtnjbinpbkjdjpaaGreatDoor.Nm
section
open Go.Proofs.YtnjbinpbkjdjpaaGreatDoor.Rf Go.Proofs.YtnjbinpbkjdjpaaGreatDoorW.PrintLast Go.Proofs.YtnjbinpbkjdjpaaGreatDoorW.PrintMore Go.Proofs.YtnjbinpbkjdjpaaGreatDoorW.PrintWords Go.RowKit Go.Shelf Ieee
def mE (k : Int) (f n : Nat) : MapEntry := { key := .int .i64 k, val := .func (.func f) #[] #[], born := n }
theorem wMap_alloc (W : World) (o : Obj) (es : Array MapEntry) (ck : Nat) : wMap (W.alloc o) W.heap.size es ck = W.alloc (.map es ck) := by
 have h : (W.heap.push o).setIfInBounds W.heap.size (.map es ck) = W.heap.push (.map es ck) := by
  apply Array.toList_inj.1
  rw [Array.toList_setIfInBounds, Array.toList_push, Array.toList_push, ← Array.length_toList, List.set_append_right _ _ (Nat.le_refl _)]
  simp
 show ({ W.alloc o with heap := (W.heap.push o).setIfInBounds W.heap.size (.map es ck) } : World) = _
 rw [h]
 rfl
theorem upd30g {X : World} {b : Nat} {es : Array MapEntry} {ck : Nat} {k : Int} (v : Value) (hb : X.heap[b]? = some (.map es ck)) (h : Instr.findNow (.int .i64) (.int .i64 k) es.toList 0 = some none) :
 (Instr.mapUpdate 30 (.map (some b)) (.int .i64 k) v).run Tryz.prog X = .ok () (wMap X b (es.push { key := .int .i64 k, val := v, born := ck }) (ck + 1)) := by
 have h2 := MapKept.run_findKey (P := Tryz.prog) (w := X) (kt := 3) Tryz.underlying3 h
 simp [Instr.mapUpdate, run_underlying Tryz.underlying30, MapKept.run_getObj_map hb, Result.andThen, MapKept.run_checkKey (P := Tryz.prog) (k := .int .i64 k) Tryz.underlying3 (by simp [MapKept.IsKey]), h2, setObj, Sem.run, hb, wMap]
theorem upd30 (W : World) {es : Array MapEntry} {ck : Nat} {k : Int} (v : Value) (h : Instr.findNow (.int .i64) (.int .i64 k) es.toList 0 = some none) :
 (Instr.mapUpdate 30 (.map (some W.heap.size)) (.int .i64 k) v).run Tryz.prog (W.alloc (.map es ck)) = .ok () (W.alloc (.map (es.push { key := .int .i64 k, val := v, born := ck }) (ck + 1))) := by
 rw [upd30g v (heap_alloc_new W _) h, wMap_alloc]
theorem look30 (W : World) {es : Array MapEntry} {ck j : Nat} {k : Int} {v : Value} (h : Instr.findNow (.int .i64) (.int .i64 k) es.toList 0 = some (some (j, v))) :
 (Instr.lookup 30 (.map (some W.heap.size)) (.int .i64 k) false).run Tryz.prog (W.alloc (.map es ck)) = .ok v (W.alloc (.map es ck)) := by
 have hb : (W.alloc (.map es ck)).heap[W.heap.size]? = some (.map es ck) := heap_alloc_new W _
 have h2 := MapKept.run_findKey (P := Tryz.prog) (w := W.alloc (.map es ck)) (kt := 3) Tryz.underlying3 h
 simp [Instr.lookup.eq_1, run_underlying Tryz.underlying30, MapKept.run_getObj_map hb, Result.andThen, MapKept.run_checkKey (P := Tryz.prog) (k := .int .i64 k) Tryz.underlying3 (by simp [MapKept.IsKey]), h2]
def es1 : Array MapEntry := #[mE 16 14 0]
def es2 : Array MapEntry := #[mE 16 14 0, mE 17 15 1]
def es3 : Array MapEntry := #[mE 16 14 0, mE 17 15 1, mE 18 16 2]
def es4 : Array MapEntry := #[mE 16 14 0, mE 17 15 1, mE 18 16 2, mE 19 17 3]
theorem hu1 (W : World) : (Instr.mapUpdate 30 (.map (some W.heap.size)) (.int .i64 16) (.func (.func 14) #[] #[])).run Tryz.prog (W.alloc (.map #[] 0)) = .ok () (W.alloc (.map es1 1)) := upd30 W _ rfl
theorem hu2 (W : World) : (Instr.mapUpdate 30 (.map (some W.heap.size)) (.int .i64 17) (.func (.func 15) #[] #[])).run Tryz.prog (W.alloc (.map es1 1)) = .ok () (W.alloc (.map es2 2)) := upd30 W _ rfl
theorem hu3 (W : World) : (Instr.mapUpdate 30 (.map (some W.heap.size)) (.int .i64 18) (.func (.func 16) #[] #[])).run Tryz.prog (W.alloc (.map es2 2)) = .ok () (W.alloc (.map es3 3)) := upd30 W _ rfl
theorem hu4 (W : World) : (Instr.mapUpdate 30 (.map (some W.heap.size)) (.int .i64 19) (.func (.func 17) #[] #[])).run Tryz.prog (W.alloc (.map es3 3)) = .ok () (W.alloc (.map es4 4)) := upd30 W _ rfl
/-- Where Apply answers with an error. -/
theorem cob_err {op : Int} {a b : Nat} {v : Nat} {k : Int} (hk : k ≠ 0) (w : World) (hE : EN w) (hp : ∀ W, Calls Tryz.prog 13 #[.int .i64 op, .float .f32 a, .float .f32 b] W fun e w' => e = .returned (.tuple #[.float .f32 v, .int .i64 k]) ∧ Below W.heap.size W w') :
 Calls Tryz.prog 3 #[.int .i64 op, .int .u32 (a : Int), .int .u32 (b : Int)] w fun e w' => e = .returned (.bool true) ∧ Below w.heap.size w w' := by
 have HA := Aside0.mk (cobalt_calls w hE)
 have HP := Aside0.mk hp
 have r1 := run_from32 (a : Int)
 have r2 := run_from32 (b : Int)
 simp only [Int.toNat_natCast] at r1 r2
 have hne : (k != 0) = true := by simp [hk]
 clear hp hE hk
 go_enter Tryz.func3, Tryz.ntmps3
 go_wp2_with (first | (go_at_call 11; (with_reducible refine HA.out.mono ?_); rintro e W0 ⟨rfl, hbx⟩; have HC := Aside0.mk hbx; clear hbx) | (go_at_call 13; (with_reducible refine (HP.out _).mono ?_); rintro e W1 ⟨rfl, hbx⟩; have HC2 : Aside0 (Below w.heap.size w W1) := ⟨by first | exact HC.out.trans (hbx.mono HC.out.size) | exact (below_alloc HC.out _).trans (hbx.mono (below_alloc HC.out _).size)⟩; clear HC; have HC := HC2; clear HC2 hbx))
 go_ret
 exact ⟨rfl, HC.out⟩
theorem cob_add {a b : Nat} (ha : a < 4294967296) (hf : fin32 a = true) (hb : b < 4294967296) (hg : fin32 b = true) (w : World) (hE : EN w) (hn : nrE (plS (fvS a) (fvP a * fvQ b) (fvS b) (fvP b * fvQ a)) (plN (fvS a) (fvP a * fvQ b) (fvS b) (fvP b * fvQ a)) (fvQ a * fvQ b) = 0) :
 Calls Tryz.prog 3 #[.int .i64 16, .int .u32 (a : Int), .int .u32 (b : Int)] w fun e w' => e = .returned (.bool true) ∧ Below w.heap.size w w' := by
 have HA := Aside0.mk (cobalt_calls w hE)
 have hp := fun W => apply_add ha hf hb hg  W
 have hq : 0 < (fvQ a * fvQ b) := Nat.mul_pos (fv_sz hf).2.2 (fv_sz hg).2.2
 unfold NrO at hp
 rw [hn] at hp
 obtain ⟨n1, n2⟩ := near_ok hq hn
 have HP := Aside0.mk hp
 have hmm := @run_makeMap Tryz.prog
 have hnil : ∀ W : World, (binOp .eql 29 (.func (.func 14) #[] #[]) .nilFunc).run Tryz.prog W = .ok (.bool false) W := fun W => by rfl
 have m1 := hu1
 have m2 := hu2
 have m3 := hu3
 have m4 := hu4
 have m5 : ∀ W : World, (Instr.lookup 30 (.map (some W.heap.size)) (.int .i64 16) false).run Tryz.prog (W.alloc (.map es4 4)) = .ok (.func (.func 14) #[] #[]) (W.alloc (.map es4 4)) := fun W => look30 W (j := 0) rfl
 have r1 := run_from32 (a : Int)
 have r2 := run_from32 (b : Int)
 simp only [Int.toNat_natCast] at r1 r2
 have HFA : Aside0 (∀ W, Calls Tryz.prog 18 #[.float .f32 a] W fun e w' => e = .returned (.tuple #[.string (fmS a), .int .i64 0]) ∧ Below W.heap.size W w') := ⟨fun W => by
  have := from32_any ha W
  unfold fmE at this
  rwa [if_pos hf] at this⟩
 have HFB : Aside0 (∀ W, Calls Tryz.prog 18 #[.float .f32 b] W fun e w' => e = .returned (.tuple #[.string (fmS b), .int .i64 0]) ∧ Below W.heap.size W w') := ⟨fun W => by
  have := from32_any hb W
  unfold fmE at this
  rwa [if_pos hg] at this⟩
 obtain ⟨z, hz⟩ : ∃ z, nrW (plS (fvS a) (fvP a * fvQ b) (fvS b) (fvP b * fvQ a)) (plN (fvS a) (fvP a * fvQ b) (fvS b) (fvP b * fvQ a)) (fvQ a * fvQ b) = z := ⟨_, rfl⟩
 rw [hz] at n1 n2 HP
 have HFZ : Aside0 (∀ W, Calls Tryz.prog 18 #[.float .f32 z] W fun e w' => e = .returned (.tuple #[.string (fmS z), .int .i64 0]) ∧ Below W.heap.size W w') := ⟨fun W => by
  have := from32_any n1 W
  unfold fmE at this
  rwa [if_pos n2] at this⟩
 have HU : Aside0 (∀ W, Calls Tryz.prog 19 #[.float .f32 z] W fun e w' => e = .returned (.tuple #[.string (fuS z), .int .i64 0]) ∧ Below W.heap.size W w') := ⟨fun W => by
  have := unit_calls n1 W
  unfold fmE at this
  rwa [if_pos n2] at this⟩
 obtain ⟨_, _, fa, _⟩ := fm_frc hf
 obtain ⟨_, _, fb, _⟩ := fm_frc hg
 obtain ⟨_, _, fz, _⟩ := fm_frc n2
 obtain ⟨_, _, fu, _⟩ := fu_frc n2
 have sa := fa.size2
 have sb := fb.size2
 have sz := fz.size2
 have su := fu.size2
 obtain ⟨i1, i2⟩ := ap_add hf hg
 have HN : Aside0 (∀ W, Below w.heap.size w W → Calls Tryz.prog 14 #[.string (fmS a), .string (fmS b)] W fun e w' => e = .returned (.tuple #[.string (rsS (sgI (plS (fvS a) (fvP a * fvQ b) (fvS b) (fvP b * fvQ a)) (plN (fvS a) (fvP a * fvQ b) (fvS b) (fvP b * fvQ a))) (fvQ a * fvQ b : Nat)), .int .i64 (rsE (sgI (plS (fvS a) (fvP a * fvQ b) (fvS b) (fvP b * fvQ a)) (plN (fvS a) (fvP a * fvQ b) (fvS b) (fvP b * fvQ a))) (fvQ a * fvQ b : Nat))]) ∧ Below W.heap.size W w') := ⟨fun W hw => by
  have := addReal_calls (fmS a) (fmS b) (by omega) (by omega) W (hE.below hw)
  rwa [i1, i2] at this⟩
 clear hp n1 fa fb fz fu sa sb i1 i2
 rcases rs_err (sgI (plS (fvS a) (fvP a * fvQ b) (fvS b) (fvP b * fvQ a)) (plN (fvS a) (fvP a * fvQ b) (fvS b) (fvP b * fvQ a))) ((fvQ a * fvQ b : Nat) : Int) with he | he
 ·obtain ⟨t0, t1, t2, P, Q, hx⟩ := cob_tail hq hn he
  rw [he] at HN
  rw [hz] at t2
  obtain ⟨X, hX⟩ : ∃ X, rsS (sgI (plS (fvS a) (fvP a * fvQ b) (fvS b) (fvP b * fvQ a)) (plN (fvS a) (fvP a * fvQ b) (fvS b) (fvP b * fvQ a))) ((fvQ a * fvQ b : Nat) : Int) = X := ⟨_, rfl⟩
  rw [hX] at t0 t1 t2 hx HN
  obtain ⟨g1, g2⟩ := er_same hx t1
  rw [t2] at g1 g2
  have HS : Aside0 (∀ W, Below w.heap.size w W → Calls Tryz.prog 15 #[.string X, .string (fmS z)] W fun e w' => e = .returned (.tuple #[.string (erS X), .int .i64 (erE X)]) ∧ Below W.heap.size W w') := ⟨fun W hw => by
   have := subReal_calls X (fmS z) (by omega) (by omega) W (hE.below hw)
   rwa [← g1, ← g2] at this⟩
  have HER : Aside0 (∀ W, Below w.heap.size w W → Calls Tryz.prog 20 #[.string X] W fun e w' => e = .returned (.tuple #[.string (erS X), .int .i64 (erE X)]) ∧ Below W.heap.size W w') := ⟨fun W hw => error_calls X (by omega) W (hE.below hw)⟩
  have h04 : erE X = 0 ∨ erE X = 4 := by rw [(er_rs hx t1).2]; exact rs_err _ _
  have hgo : erE X = 0 → Aside0 (∀ W, Below w.heap.size w W → Calls Tryz.prog 21 #[.string X, .string (fmS z), .string (fuS z)] W fun e w' => e = .returned (.bool true) ∧ Below W.heap.size W w') := fun h0 => ⟨fun W hw => by
   obtain ⟨y1, Dn, Dd, H, G, y2, y3, y4, y5⟩ := er_half hx t1 h0
   rw [t2] at y1 y3
   exact half_calls g1.symm (g2.symm.trans h0) rfl y1 y2 y3 y4 y5 (by omega) (by omega) (by omega) W (hE.below hw)⟩
  clear t0 t1 t2 hx hX he hn hz hq n2 sz su ha hf hb hg hE g1 g2
  generalize erS X = D at *
  generalize fmS a = s1 at *
  generalize fmS b = s2 at *
  generalize fmS z = s3 at *
  generalize fuS z = s4 at *
  rcases h04 with h0 | h0
  ·have HH := hgo h0
   rw [h0] at HS HER
   clear hgo h0
   go_enter Tryz.func3, Tryz.ntmps3
   go_wp2_with (first | (go_at_call 11; (with_reducible refine HA.out.mono ?_); rintro e W0 ⟨rfl, hbx⟩; have HC := Aside0.mk hbx; clear hbx) | (go_at_call 13; (with_reducible refine (HP.out _).mono ?_); rintro e W1 ⟨rfl, hbx⟩; have HC2 : Aside0 (Below w.heap.size w W1) := ⟨by first | exact HC.out.trans (hbx.mono HC.out.size) | exact (below_alloc HC.out _).trans (hbx.mono (below_alloc HC.out _).size)⟩; clear HC; have HC := HC2; clear HC2 hbx) | (go_at_call 18; (with_reducible refine (HFA.out _).mono ?_); rintro e W2 ⟨rfl, hbx⟩; have HC2 : Aside0 (Below w.heap.size w W2) := ⟨by first | exact HC.out.trans (hbx.mono HC.out.size) | exact (below_alloc HC.out _).trans (hbx.mono (below_alloc HC.out _).size)⟩; clear HC; have HC := HC2; clear HC2 hbx) | (go_at_call 18; (with_reducible refine (HFB.out _).mono ?_); rintro e W3 ⟨rfl, hbx⟩; have HC2 : Aside0 (Below w.heap.size w W3) := ⟨by first | exact HC.out.trans (hbx.mono HC.out.size) | exact (below_alloc HC.out _).trans (hbx.mono (below_alloc HC.out _).size)⟩; clear HC; have HC := HC2; clear HC2 hbx) | (go_at_call 18; (with_reducible refine (HFZ.out _).mono ?_); rintro e W4 ⟨rfl, hbx⟩; have HC2 : Aside0 (Below w.heap.size w W4) := ⟨by first | exact HC.out.trans (hbx.mono HC.out.size) | exact (below_alloc HC.out _).trans (hbx.mono (below_alloc HC.out _).size)⟩; clear HC; have HC := HC2; clear HC2 hbx) | (go_at_call 19; (with_reducible refine (HU.out _).mono ?_); rintro e W5 ⟨rfl, hbx⟩; have HC2 : Aside0 (Below w.heap.size w W5) := ⟨by first | exact HC.out.trans (hbx.mono HC.out.size) | exact (below_alloc HC.out _).trans (hbx.mono (below_alloc HC.out _).size)⟩; clear HC; have HC := HC2; clear HC2 hbx) | (go_at_call 14; (with_reducible refine (HN.out _ HC.out).mono ?_); rintro e W6 ⟨rfl, hbx⟩; have HC2 : Aside0 (Below w.heap.size w W6) := ⟨by first | exact HC.out.trans (hbx.mono HC.out.size) | exact (below_alloc HC.out _).trans (hbx.mono (below_alloc HC.out _).size)⟩; clear HC; have HC := HC2; clear HC2 hbx) | (go_at_call 15; (with_reducible refine (HS.out _ HC.out).mono ?_); rintro e W7 ⟨rfl, hbx⟩; have HC2 : Aside0 (Below w.heap.size w W7) := ⟨by first | exact HC.out.trans (hbx.mono HC.out.size) | exact (below_alloc HC.out _).trans (hbx.mono (below_alloc HC.out _).size)⟩; clear HC; have HC := HC2; clear HC2 hbx) | (go_at_call 20; (with_reducible refine (HER.out _ HC.out).mono ?_); rintro e W8 ⟨rfl, hbx⟩; have HC2 : Aside0 (Below w.heap.size w W8) := ⟨by first | exact HC.out.trans (hbx.mono HC.out.size) | exact (below_alloc HC.out _).trans (hbx.mono (below_alloc HC.out _).size)⟩; clear HC; have HC := HC2; clear HC2 hbx) | (go_at_call 21; (with_reducible refine (HH.out _ HC.out).mono ?_); rintro e W9 ⟨rfl, hbx⟩; have HC2 : Aside0 (Below w.heap.size w W9) := ⟨by first | exact HC.out.trans (hbx.mono HC.out.size) | exact (below_alloc HC.out _).trans (hbx.mono (below_alloc HC.out _).size)⟩; clear HC; have HC := HC2; clear HC2 hbx))
   go_ret
   exact ⟨by simp, HC.out⟩
  ·rw [h0] at HS HER
   clear hgo h0
   go_enter Tryz.func3, Tryz.ntmps3
   go_wp2_with (first | (go_at_call 11; (with_reducible refine HA.out.mono ?_); rintro e W0 ⟨rfl, hbx⟩; have HC := Aside0.mk hbx; clear hbx) | (go_at_call 13; (with_reducible refine (HP.out _).mono ?_); rintro e W1 ⟨rfl, hbx⟩; have HC2 : Aside0 (Below w.heap.size w W1) := ⟨by first | exact HC.out.trans (hbx.mono HC.out.size) | exact (below_alloc HC.out _).trans (hbx.mono (below_alloc HC.out _).size)⟩; clear HC; have HC := HC2; clear HC2 hbx) | (go_at_call 18; (with_reducible refine (HFA.out _).mono ?_); rintro e W2 ⟨rfl, hbx⟩; have HC2 : Aside0 (Below w.heap.size w W2) := ⟨by first | exact HC.out.trans (hbx.mono HC.out.size) | exact (below_alloc HC.out _).trans (hbx.mono (below_alloc HC.out _).size)⟩; clear HC; have HC := HC2; clear HC2 hbx) | (go_at_call 18; (with_reducible refine (HFB.out _).mono ?_); rintro e W3 ⟨rfl, hbx⟩; have HC2 : Aside0 (Below w.heap.size w W3) := ⟨by first | exact HC.out.trans (hbx.mono HC.out.size) | exact (below_alloc HC.out _).trans (hbx.mono (below_alloc HC.out _).size)⟩; clear HC; have HC := HC2; clear HC2 hbx) | (go_at_call 18; (with_reducible refine (HFZ.out _).mono ?_); rintro e W4 ⟨rfl, hbx⟩; have HC2 : Aside0 (Below w.heap.size w W4) := ⟨by first | exact HC.out.trans (hbx.mono HC.out.size) | exact (below_alloc HC.out _).trans (hbx.mono (below_alloc HC.out _).size)⟩; clear HC; have HC := HC2; clear HC2 hbx) | (go_at_call 19; (with_reducible refine (HU.out _).mono ?_); rintro e W5 ⟨rfl, hbx⟩; have HC2 : Aside0 (Below w.heap.size w W5) := ⟨by first | exact HC.out.trans (hbx.mono HC.out.size) | exact (below_alloc HC.out _).trans (hbx.mono (below_alloc HC.out _).size)⟩; clear HC; have HC := HC2; clear HC2 hbx) | (go_at_call 14; (with_reducible refine (HN.out _ HC.out).mono ?_); rintro e W6 ⟨rfl, hbx⟩; have HC2 : Aside0 (Below w.heap.size w W6) := ⟨by first | exact HC.out.trans (hbx.mono HC.out.size) | exact (below_alloc HC.out _).trans (hbx.mono (below_alloc HC.out _).size)⟩; clear HC; have HC := HC2; clear HC2 hbx) | (go_at_call 15; (with_reducible refine (HS.out _ HC.out).mono ?_); rintro e W7 ⟨rfl, hbx⟩; have HC2 : Aside0 (Below w.heap.size w W7) := ⟨by first | exact HC.out.trans (hbx.mono HC.out.size) | exact (below_alloc HC.out _).trans (hbx.mono (below_alloc HC.out _).size)⟩; clear HC; have HC := HC2; clear HC2 hbx) | (go_at_call 20; (with_reducible refine (HER.out _ HC.out).mono ?_); rintro e W8 ⟨rfl, hbx⟩; have HC2 : Aside0 (Below w.heap.size w W8) := ⟨by first | exact HC.out.trans (hbx.mono HC.out.size) | exact (below_alloc HC.out _).trans (hbx.mono (below_alloc HC.out _).size)⟩; clear HC; have HC := HC2; clear HC2 hbx))
   go_ret
   exact ⟨by simp, HC.out⟩
 ·rw [he] at HN
  clear hn hz hq n2 sz su ha hf hb hg hE he
  generalize rsS (sgI (plS (fvS a) (fvP a * fvQ b) (fvS b) (fvP b * fvQ a)) (plN (fvS a) (fvP a * fvQ b) (fvS b) (fvP b * fvQ a))) ((fvQ a * fvQ b : Nat) : Int) = X at *
  generalize fmS a = s1 at *
  generalize fmS b = s2 at *
  generalize fmS z = s3 at *
  generalize fuS z = s4 at *
  go_enter Tryz.func3, Tryz.ntmps3
  go_wp2_with (first | (go_at_call 11; (with_reducible refine HA.out.mono ?_); rintro e W0 ⟨rfl, hbx⟩; have HC := Aside0.mk hbx; clear hbx) | (go_at_call 13; (with_reducible refine (HP.out _).mono ?_); rintro e W1 ⟨rfl, hbx⟩; have HC2 : Aside0 (Below w.heap.size w W1) := ⟨by first | exact HC.out.trans (hbx.mono HC.out.size) | exact (below_alloc HC.out _).trans (hbx.mono (below_alloc HC.out _).size)⟩; clear HC; have HC := HC2; clear HC2 hbx) | (go_at_call 18; (with_reducible refine (HFA.out _).mono ?_); rintro e W2 ⟨rfl, hbx⟩; have HC2 : Aside0 (Below w.heap.size w W2) := ⟨by first | exact HC.out.trans (hbx.mono HC.out.size) | exact (below_alloc HC.out _).trans (hbx.mono (below_alloc HC.out _).size)⟩; clear HC; have HC := HC2; clear HC2 hbx) | (go_at_call 18; (with_reducible refine (HFB.out _).mono ?_); rintro e W3 ⟨rfl, hbx⟩; have HC2 : Aside0 (Below w.heap.size w W3) := ⟨by first | exact HC.out.trans (hbx.mono HC.out.size) | exact (below_alloc HC.out _).trans (hbx.mono (below_alloc HC.out _).size)⟩; clear HC; have HC := HC2; clear HC2 hbx) | (go_at_call 18; (with_reducible refine (HFZ.out _).mono ?_); rintro e W4 ⟨rfl, hbx⟩; have HC2 : Aside0 (Below w.heap.size w W4) := ⟨by first | exact HC.out.trans (hbx.mono HC.out.size) | exact (below_alloc HC.out _).trans (hbx.mono (below_alloc HC.out _).size)⟩; clear HC; have HC := HC2; clear HC2 hbx) | (go_at_call 19; (with_reducible refine (HU.out _).mono ?_); rintro e W5 ⟨rfl, hbx⟩; have HC2 : Aside0 (Below w.heap.size w W5) := ⟨by first | exact HC.out.trans (hbx.mono HC.out.size) | exact (below_alloc HC.out _).trans (hbx.mono (below_alloc HC.out _).size)⟩; clear HC; have HC := HC2; clear HC2 hbx) | (go_at_call 14; (with_reducible refine (HN.out _ HC.out).mono ?_); rintro e W6 ⟨rfl, hbx⟩; have HC2 : Aside0 (Below w.heap.size w W6) := ⟨by first | exact HC.out.trans (hbx.mono HC.out.size) | exact (below_alloc HC.out _).trans (hbx.mono (below_alloc HC.out _).size)⟩; clear HC; have HC := HC2; clear HC2 hbx))
  go_ret
  exact ⟨by simp, HC.out⟩
theorem cob_sub {a b : Nat} (ha : a < 4294967296) (hf : fin32 a = true) (hb : b < 4294967296) (hg : fin32 b = true) (w : World) (hE : EN w) (hn : nrE (plS (fvS a) (fvP a * fvQ b) (!(fvS b)) (fvP b * fvQ a)) (plN (fvS a) (fvP a * fvQ b) (!(fvS b)) (fvP b * fvQ a)) (fvQ a * fvQ b) = 0) :
 Calls Tryz.prog 3 #[.int .i64 17, .int .u32 (a : Int), .int .u32 (b : Int)] w fun e w' => e = .returned (.bool true) ∧ Below w.heap.size w w' := by
 have HA := Aside0.mk (cobalt_calls w hE)
 have hp := fun W => apply_sub ha hf hb hg  W
 have hq : 0 < (fvQ a * fvQ b) := Nat.mul_pos (fv_sz hf).2.2 (fv_sz hg).2.2
 unfold NrO at hp
 rw [hn] at hp
 obtain ⟨n1, n2⟩ := near_ok hq hn
 have HP := Aside0.mk hp
 have hmm := @run_makeMap Tryz.prog
 have hnil : ∀ W : World, (binOp .eql 29 (.func (.func 15) #[] #[]) .nilFunc).run Tryz.prog W = .ok (.bool false) W := fun W => by rfl
 have m1 := hu1
 have m2 := hu2
 have m3 := hu3
 have m4 := hu4
 have m5 : ∀ W : World, (Instr.lookup 30 (.map (some W.heap.size)) (.int .i64 17) false).run Tryz.prog (W.alloc (.map es4 4)) = .ok (.func (.func 15) #[] #[]) (W.alloc (.map es4 4)) := fun W => look30 W (j := 1) rfl
 have r1 := run_from32 (a : Int)
 have r2 := run_from32 (b : Int)
 simp only [Int.toNat_natCast] at r1 r2
 have HFA : Aside0 (∀ W, Calls Tryz.prog 18 #[.float .f32 a] W fun e w' => e = .returned (.tuple #[.string (fmS a), .int .i64 0]) ∧ Below W.heap.size W w') := ⟨fun W => by
  have := from32_any ha W
  unfold fmE at this
  rwa [if_pos hf] at this⟩
 have HFB : Aside0 (∀ W, Calls Tryz.prog 18 #[.float .f32 b] W fun e w' => e = .returned (.tuple #[.string (fmS b), .int .i64 0]) ∧ Below W.heap.size W w') := ⟨fun W => by
  have := from32_any hb W
  unfold fmE at this
  rwa [if_pos hg] at this⟩
 obtain ⟨z, hz⟩ : ∃ z, nrW (plS (fvS a) (fvP a * fvQ b) (!(fvS b)) (fvP b * fvQ a)) (plN (fvS a) (fvP a * fvQ b) (!(fvS b)) (fvP b * fvQ a)) (fvQ a * fvQ b) = z := ⟨_, rfl⟩
 rw [hz] at n1 n2 HP
 have HFZ : Aside0 (∀ W, Calls Tryz.prog 18 #[.float .f32 z] W fun e w' => e = .returned (.tuple #[.string (fmS z), .int .i64 0]) ∧ Below W.heap.size W w') := ⟨fun W => by
  have := from32_any n1 W
  unfold fmE at this
  rwa [if_pos n2] at this⟩
 have HU : Aside0 (∀ W, Calls Tryz.prog 19 #[.float .f32 z] W fun e w' => e = .returned (.tuple #[.string (fuS z), .int .i64 0]) ∧ Below W.heap.size W w') := ⟨fun W => by
  have := unit_calls n1 W
  unfold fmE at this
  rwa [if_pos n2] at this⟩
 obtain ⟨_, _, fa, _⟩ := fm_frc hf
 obtain ⟨_, _, fb, _⟩ := fm_frc hg
 obtain ⟨_, _, fz, _⟩ := fm_frc n2
 obtain ⟨_, _, fu, _⟩ := fu_frc n2
 have sa := fa.size2
 have sb := fb.size2
 have sz := fz.size2
 have su := fu.size2
 obtain ⟨i1, i2⟩ := ap_sub hf hg
 have HN : Aside0 (∀ W, Below w.heap.size w W → Calls Tryz.prog 15 #[.string (fmS a), .string (fmS b)] W fun e w' => e = .returned (.tuple #[.string (rsS (sgI (plS (fvS a) (fvP a * fvQ b) (!(fvS b)) (fvP b * fvQ a)) (plN (fvS a) (fvP a * fvQ b) (!(fvS b)) (fvP b * fvQ a))) (fvQ a * fvQ b : Nat)), .int .i64 (rsE (sgI (plS (fvS a) (fvP a * fvQ b) (!(fvS b)) (fvP b * fvQ a)) (plN (fvS a) (fvP a * fvQ b) (!(fvS b)) (fvP b * fvQ a))) (fvQ a * fvQ b : Nat))]) ∧ Below W.heap.size W w') := ⟨fun W hw => by
  have := subReal_calls (fmS a) (fmS b) (by omega) (by omega) W (hE.below hw)
  rwa [i1, i2] at this⟩
 clear hp n1 fa fb fz fu sa sb i1 i2
 rcases rs_err (sgI (plS (fvS a) (fvP a * fvQ b) (!(fvS b)) (fvP b * fvQ a)) (plN (fvS a) (fvP a * fvQ b) (!(fvS b)) (fvP b * fvQ a))) ((fvQ a * fvQ b : Nat) : Int) with he | he
 ·obtain ⟨t0, t1, t2, P, Q, hx⟩ := cob_tail hq hn he
  rw [he] at HN
  rw [hz] at t2
  obtain ⟨X, hX⟩ : ∃ X, rsS (sgI (plS (fvS a) (fvP a * fvQ b) (!(fvS b)) (fvP b * fvQ a)) (plN (fvS a) (fvP a * fvQ b) (!(fvS b)) (fvP b * fvQ a))) ((fvQ a * fvQ b : Nat) : Int) = X := ⟨_, rfl⟩
  rw [hX] at t0 t1 t2 hx HN
  obtain ⟨g1, g2⟩ := er_same hx t1
  rw [t2] at g1 g2
  have HS : Aside0 (∀ W, Below w.heap.size w W → Calls Tryz.prog 15 #[.string X, .string (fmS z)] W fun e w' => e = .returned (.tuple #[.string (erS X), .int .i64 (erE X)]) ∧ Below W.heap.size W w') := ⟨fun W hw => by
   have := subReal_calls X (fmS z) (by omega) (by omega) W (hE.below hw)
   rwa [← g1, ← g2] at this⟩
  have HER : Aside0 (∀ W, Below w.heap.size w W → Calls Tryz.prog 20 #[.string X] W fun e w' => e = .returned (.tuple #[.string (erS X), .int .i64 (erE X)]) ∧ Below W.heap.size W w') := ⟨fun W hw => error_calls X (by omega) W (hE.below hw)⟩
  have h04 : erE X = 0 ∨ erE X = 4 := by rw [(er_rs hx t1).2]; exact rs_err _ _
  have hgo : erE X = 0 → Aside0 (∀ W, Below w.heap.size w W → Calls Tryz.prog 21 #[.string X, .string (fmS z), .string (fuS z)] W fun e w' => e = .returned (.bool true) ∧ Below W.heap.size W w') := fun h0 => ⟨fun W hw => by
   obtain ⟨y1, Dn, Dd, H, G, y2, y3, y4, y5⟩ := er_half hx t1 h0
   rw [t2] at y1 y3
   exact half_calls g1.symm (g2.symm.trans h0) rfl y1 y2 y3 y4 y5 (by omega) (by omega) (by omega) W (hE.below hw)⟩
  clear t0 t1 t2 hx hX he hn hz hq n2 sz su ha hf hb hg hE g1 g2
  generalize erS X = D at *
  generalize fmS a = s1 at *
  generalize fmS b = s2 at *
  generalize fmS z = s3 at *
  generalize fuS z = s4 at *
  rcases h04 with h0 | h0
  ·have HH := hgo h0
   rw [h0] at HS HER
   clear hgo h0
   go_enter Tryz.func3, Tryz.ntmps3
   go_wp2_with (first | (go_at_call 11; (with_reducible refine HA.out.mono ?_); rintro e W0 ⟨rfl, hbx⟩; have HC := Aside0.mk hbx; clear hbx) | (go_at_call 13; (with_reducible refine (HP.out _).mono ?_); rintro e W1 ⟨rfl, hbx⟩; have HC2 : Aside0 (Below w.heap.size w W1) := ⟨by first | exact HC.out.trans (hbx.mono HC.out.size) | exact (below_alloc HC.out _).trans (hbx.mono (below_alloc HC.out _).size)⟩; clear HC; have HC := HC2; clear HC2 hbx) | (go_at_call 18; (with_reducible refine (HFA.out _).mono ?_); rintro e W2 ⟨rfl, hbx⟩; have HC2 : Aside0 (Below w.heap.size w W2) := ⟨by first | exact HC.out.trans (hbx.mono HC.out.size) | exact (below_alloc HC.out _).trans (hbx.mono (below_alloc HC.out _).size)⟩; clear HC; have HC := HC2; clear HC2 hbx) | (go_at_call 18; (with_reducible refine (HFB.out _).mono ?_); rintro e W3 ⟨rfl, hbx⟩; have HC2 : Aside0 (Below w.heap.size w W3) := ⟨by first | exact HC.out.trans (hbx.mono HC.out.size) | exact (below_alloc HC.out _).trans (hbx.mono (below_alloc HC.out _).size)⟩; clear HC; have HC := HC2; clear HC2 hbx) | (go_at_call 18; (with_reducible refine (HFZ.out _).mono ?_); rintro e W4 ⟨rfl, hbx⟩; have HC2 : Aside0 (Below w.heap.size w W4) := ⟨by first | exact HC.out.trans (hbx.mono HC.out.size) | exact (below_alloc HC.out _).trans (hbx.mono (below_alloc HC.out _).size)⟩; clear HC; have HC := HC2; clear HC2 hbx) | (go_at_call 19; (with_reducible refine (HU.out _).mono ?_); rintro e W5 ⟨rfl, hbx⟩; have HC2 : Aside0 (Below w.heap.size w W5) := ⟨by first | exact HC.out.trans (hbx.mono HC.out.size) | exact (below_alloc HC.out _).trans (hbx.mono (below_alloc HC.out _).size)⟩; clear HC; have HC := HC2; clear HC2 hbx) | (go_at_call 15; (with_reducible refine (HN.out _ HC.out).mono ?_); rintro e W6 ⟨rfl, hbx⟩; have HC2 : Aside0 (Below w.heap.size w W6) := ⟨by first | exact HC.out.trans (hbx.mono HC.out.size) | exact (below_alloc HC.out _).trans (hbx.mono (below_alloc HC.out _).size)⟩; clear HC; have HC := HC2; clear HC2 hbx) | (go_at_call 15; (with_reducible refine (HS.out _ HC.out).mono ?_); rintro e W7 ⟨rfl, hbx⟩; have HC2 : Aside0 (Below w.heap.size w W7) := ⟨by first | exact HC.out.trans (hbx.mono HC.out.size) | exact (below_alloc HC.out _).trans (hbx.mono (below_alloc HC.out _).size)⟩; clear HC; have HC := HC2; clear HC2 hbx) | (go_at_call 20; (with_reducible refine (HER.out _ HC.out).mono ?_); rintro e W8 ⟨rfl, hbx⟩; have HC2 : Aside0 (Below w.heap.size w W8) := ⟨by first | exact HC.out.trans (hbx.mono HC.out.size) | exact (below_alloc HC.out _).trans (hbx.mono (below_alloc HC.out _).size)⟩; clear HC; have HC := HC2; clear HC2 hbx) | (go_at_call 21; (with_reducible refine (HH.out _ HC.out).mono ?_); rintro e W9 ⟨rfl, hbx⟩; have HC2 : Aside0 (Below w.heap.size w W9) := ⟨by first | exact HC.out.trans (hbx.mono HC.out.size) | exact (below_alloc HC.out _).trans (hbx.mono (below_alloc HC.out _).size)⟩; clear HC; have HC := HC2; clear HC2 hbx))
   go_ret
   exact ⟨by simp, HC.out⟩
  ·rw [h0] at HS HER
   clear hgo h0
   go_enter Tryz.func3, Tryz.ntmps3
   go_wp2_with (first | (go_at_call 11; (with_reducible refine HA.out.mono ?_); rintro e W0 ⟨rfl, hbx⟩; have HC := Aside0.mk hbx; clear hbx) | (go_at_call 13; (with_reducible refine (HP.out _).mono ?_); rintro e W1 ⟨rfl, hbx⟩; have HC2 : Aside0 (Below w.heap.size w W1) := ⟨by first | exact HC.out.trans (hbx.mono HC.out.size) | exact (below_alloc HC.out _).trans (hbx.mono (below_alloc HC.out _).size)⟩; clear HC; have HC := HC2; clear HC2 hbx) | (go_at_call 18; (with_reducible refine (HFA.out _).mono ?_); rintro e W2 ⟨rfl, hbx⟩; have HC2 : Aside0 (Below w.heap.size w W2) := ⟨by first | exact HC.out.trans (hbx.mono HC.out.size) | exact (below_alloc HC.out _).trans (hbx.mono (below_alloc HC.out _).size)⟩; clear HC; have HC := HC2; clear HC2 hbx) | (go_at_call 18; (with_reducible refine (HFB.out _).mono ?_); rintro e W3 ⟨rfl, hbx⟩; have HC2 : Aside0 (Below w.heap.size w W3) := ⟨by first | exact HC.out.trans (hbx.mono HC.out.size) | exact (below_alloc HC.out _).trans (hbx.mono (below_alloc HC.out _).size)⟩; clear HC; have HC := HC2; clear HC2 hbx) | (go_at_call 18; (with_reducible refine (HFZ.out _).mono ?_); rintro e W4 ⟨rfl, hbx⟩; have HC2 : Aside0 (Below w.heap.size w W4) := ⟨by first | exact HC.out.trans (hbx.mono HC.out.size) | exact (below_alloc HC.out _).trans (hbx.mono (below_alloc HC.out _).size)⟩; clear HC; have HC := HC2; clear HC2 hbx) | (go_at_call 19; (with_reducible refine (HU.out _).mono ?_); rintro e W5 ⟨rfl, hbx⟩; have HC2 : Aside0 (Below w.heap.size w W5) := ⟨by first | exact HC.out.trans (hbx.mono HC.out.size) | exact (below_alloc HC.out _).trans (hbx.mono (below_alloc HC.out _).size)⟩; clear HC; have HC := HC2; clear HC2 hbx) | (go_at_call 15; (with_reducible refine (HN.out _ HC.out).mono ?_); rintro e W6 ⟨rfl, hbx⟩; have HC2 : Aside0 (Below w.heap.size w W6) := ⟨by first | exact HC.out.trans (hbx.mono HC.out.size) | exact (below_alloc HC.out _).trans (hbx.mono (below_alloc HC.out _).size)⟩; clear HC; have HC := HC2; clear HC2 hbx) | (go_at_call 15; (with_reducible refine (HS.out _ HC.out).mono ?_); rintro e W7 ⟨rfl, hbx⟩; have HC2 : Aside0 (Below w.heap.size w W7) := ⟨by first | exact HC.out.trans (hbx.mono HC.out.size) | exact (below_alloc HC.out _).trans (hbx.mono (below_alloc HC.out _).size)⟩; clear HC; have HC := HC2; clear HC2 hbx) | (go_at_call 20; (with_reducible refine (HER.out _ HC.out).mono ?_); rintro e W8 ⟨rfl, hbx⟩; have HC2 : Aside0 (Below w.heap.size w W8) := ⟨by first | exact HC.out.trans (hbx.mono HC.out.size) | exact (below_alloc HC.out _).trans (hbx.mono (below_alloc HC.out _).size)⟩; clear HC; have HC := HC2; clear HC2 hbx))
   go_ret
   exact ⟨by simp, HC.out⟩
 ·rw [he] at HN
  clear hn hz hq n2 sz su ha hf hb hg hE he
  generalize rsS (sgI (plS (fvS a) (fvP a * fvQ b) (!(fvS b)) (fvP b * fvQ a)) (plN (fvS a) (fvP a * fvQ b) (!(fvS b)) (fvP b * fvQ a))) ((fvQ a * fvQ b : Nat) : Int) = X at *
  generalize fmS a = s1 at *
  generalize fmS b = s2 at *
  generalize fmS z = s3 at *
  generalize fuS z = s4 at *
  go_enter Tryz.func3, Tryz.ntmps3
  go_wp2_with (first | (go_at_call 11; (with_reducible refine HA.out.mono ?_); rintro e W0 ⟨rfl, hbx⟩; have HC := Aside0.mk hbx; clear hbx) | (go_at_call 13; (with_reducible refine (HP.out _).mono ?_); rintro e W1 ⟨rfl, hbx⟩; have HC2 : Aside0 (Below w.heap.size w W1) := ⟨by first | exact HC.out.trans (hbx.mono HC.out.size) | exact (below_alloc HC.out _).trans (hbx.mono (below_alloc HC.out _).size)⟩; clear HC; have HC := HC2; clear HC2 hbx) | (go_at_call 18; (with_reducible refine (HFA.out _).mono ?_); rintro e W2 ⟨rfl, hbx⟩; have HC2 : Aside0 (Below w.heap.size w W2) := ⟨by first | exact HC.out.trans (hbx.mono HC.out.size) | exact (below_alloc HC.out _).trans (hbx.mono (below_alloc HC.out _).size)⟩; clear HC; have HC := HC2; clear HC2 hbx) | (go_at_call 18; (with_reducible refine (HFB.out _).mono ?_); rintro e W3 ⟨rfl, hbx⟩; have HC2 : Aside0 (Below w.heap.size w W3) := ⟨by first | exact HC.out.trans (hbx.mono HC.out.size) | exact (below_alloc HC.out _).trans (hbx.mono (below_alloc HC.out _).size)⟩; clear HC; have HC := HC2; clear HC2 hbx) | (go_at_call 18; (with_reducible refine (HFZ.out _).mono ?_); rintro e W4 ⟨rfl, hbx⟩; have HC2 : Aside0 (Below w.heap.size w W4) := ⟨by first | exact HC.out.trans (hbx.mono HC.out.size) | exact (below_alloc HC.out _).trans (hbx.mono (below_alloc HC.out _).size)⟩; clear HC; have HC := HC2; clear HC2 hbx) | (go_at_call 19; (with_reducible refine (HU.out _).mono ?_); rintro e W5 ⟨rfl, hbx⟩; have HC2 : Aside0 (Below w.heap.size w W5) := ⟨by first | exact HC.out.trans (hbx.mono HC.out.size) | exact (below_alloc HC.out _).trans (hbx.mono (below_alloc HC.out _).size)⟩; clear HC; have HC := HC2; clear HC2 hbx) | (go_at_call 15; (with_reducible refine (HN.out _ HC.out).mono ?_); rintro e W6 ⟨rfl, hbx⟩; have HC2 : Aside0 (Below w.heap.size w W6) := ⟨by first | exact HC.out.trans (hbx.mono HC.out.size) | exact (below_alloc HC.out _).trans (hbx.mono (below_alloc HC.out _).size)⟩; clear HC; have HC := HC2; clear HC2 hbx))
  go_ret
  exact ⟨by simp, HC.out⟩
theorem cob_mul {a b : Nat} (ha : a < 4294967296) (hf : fin32 a = true) (hb : b < 4294967296) (hg : fin32 b = true) (w : World) (hE : EN w) (hn : nrE (!(fvS a == fvS b)) (fvP a * fvP b) (fvQ a * fvQ b) = 0) :
 Calls Tryz.prog 3 #[.int .i64 18, .int .u32 (a : Int), .int .u32 (b : Int)] w fun e w' => e = .returned (.bool true) ∧ Below w.heap.size w w' := by
 have HA := Aside0.mk (cobalt_calls w hE)
 have hp := fun W => apply_mul ha hf hb hg  W
 have hq : 0 < (fvQ a * fvQ b) := Nat.mul_pos (fv_sz hf).2.2 (fv_sz hg).2.2
 unfold NrO at hp
 rw [hn] at hp
 obtain ⟨n1, n2⟩ := near_ok hq hn
 have HP := Aside0.mk hp
 have hmm := @run_makeMap Tryz.prog
 have hnil : ∀ W : World, (binOp .eql 29 (.func (.func 16) #[] #[]) .nilFunc).run Tryz.prog W = .ok (.bool false) W := fun W => by rfl
 have m1 := hu1
 have m2 := hu2
 have m3 := hu3
 have m4 := hu4
 have m5 : ∀ W : World, (Instr.lookup 30 (.map (some W.heap.size)) (.int .i64 18) false).run Tryz.prog (W.alloc (.map es4 4)) = .ok (.func (.func 16) #[] #[]) (W.alloc (.map es4 4)) := fun W => look30 W (j := 2) rfl
 have r1 := run_from32 (a : Int)
 have r2 := run_from32 (b : Int)
 simp only [Int.toNat_natCast] at r1 r2
 have HFA : Aside0 (∀ W, Calls Tryz.prog 18 #[.float .f32 a] W fun e w' => e = .returned (.tuple #[.string (fmS a), .int .i64 0]) ∧ Below W.heap.size W w') := ⟨fun W => by
  have := from32_any ha W
  unfold fmE at this
  rwa [if_pos hf] at this⟩
 have HFB : Aside0 (∀ W, Calls Tryz.prog 18 #[.float .f32 b] W fun e w' => e = .returned (.tuple #[.string (fmS b), .int .i64 0]) ∧ Below W.heap.size W w') := ⟨fun W => by
  have := from32_any hb W
  unfold fmE at this
  rwa [if_pos hg] at this⟩
 obtain ⟨z, hz⟩ : ∃ z, nrW (!(fvS a == fvS b)) (fvP a * fvP b) (fvQ a * fvQ b) = z := ⟨_, rfl⟩
 rw [hz] at n1 n2 HP
 have HFZ : Aside0 (∀ W, Calls Tryz.prog 18 #[.float .f32 z] W fun e w' => e = .returned (.tuple #[.string (fmS z), .int .i64 0]) ∧ Below W.heap.size W w') := ⟨fun W => by
  have := from32_any n1 W
  unfold fmE at this
  rwa [if_pos n2] at this⟩
 have HU : Aside0 (∀ W, Calls Tryz.prog 19 #[.float .f32 z] W fun e w' => e = .returned (.tuple #[.string (fuS z), .int .i64 0]) ∧ Below W.heap.size W w') := ⟨fun W => by
  have := unit_calls n1 W
  unfold fmE at this
  rwa [if_pos n2] at this⟩
 obtain ⟨_, _, fa, _⟩ := fm_frc hf
 obtain ⟨_, _, fb, _⟩ := fm_frc hg
 obtain ⟨_, _, fz, _⟩ := fm_frc n2
 obtain ⟨_, _, fu, _⟩ := fu_frc n2
 have sa := fa.size2
 have sb := fb.size2
 have sz := fz.size2
 have su := fu.size2
 obtain ⟨i1, i2⟩ := ap_mul hf hg
 have HN : Aside0 (∀ W, Below w.heap.size w W → Calls Tryz.prog 16 #[.string (fmS a), .string (fmS b)] W fun e w' => e = .returned (.tuple #[.string (rsS (sgI (!(fvS a == fvS b)) (fvP a * fvP b)) (fvQ a * fvQ b : Nat)), .int .i64 (rsE (sgI (!(fvS a == fvS b)) (fvP a * fvP b)) (fvQ a * fvQ b : Nat))]) ∧ Below W.heap.size W w') := ⟨fun W hw => by
  have := mulReal_calls (fmS a) (fmS b) (by omega) (by omega) W (hE.below hw)
  rwa [i1, i2] at this⟩
 clear hp n1 fa fb fz fu sa sb i1 i2
 rcases rs_err (sgI (!(fvS a == fvS b)) (fvP a * fvP b)) ((fvQ a * fvQ b : Nat) : Int) with he | he
 ·obtain ⟨t0, t1, t2, P, Q, hx⟩ := cob_tail hq hn he
  rw [he] at HN
  rw [hz] at t2
  obtain ⟨X, hX⟩ : ∃ X, rsS (sgI (!(fvS a == fvS b)) (fvP a * fvP b)) ((fvQ a * fvQ b : Nat) : Int) = X := ⟨_, rfl⟩
  rw [hX] at t0 t1 t2 hx HN
  obtain ⟨g1, g2⟩ := er_same hx t1
  rw [t2] at g1 g2
  have HS : Aside0 (∀ W, Below w.heap.size w W → Calls Tryz.prog 15 #[.string X, .string (fmS z)] W fun e w' => e = .returned (.tuple #[.string (erS X), .int .i64 (erE X)]) ∧ Below W.heap.size W w') := ⟨fun W hw => by
   have := subReal_calls X (fmS z) (by omega) (by omega) W (hE.below hw)
   rwa [← g1, ← g2] at this⟩
  have HER : Aside0 (∀ W, Below w.heap.size w W → Calls Tryz.prog 20 #[.string X] W fun e w' => e = .returned (.tuple #[.string (erS X), .int .i64 (erE X)]) ∧ Below W.heap.size W w') := ⟨fun W hw => error_calls X (by omega) W (hE.below hw)⟩
  have h04 : erE X = 0 ∨ erE X = 4 := by rw [(er_rs hx t1).2]; exact rs_err _ _
  have hgo : erE X = 0 → Aside0 (∀ W, Below w.heap.size w W → Calls Tryz.prog 21 #[.string X, .string (fmS z), .string (fuS z)] W fun e w' => e = .returned (.bool true) ∧ Below W.heap.size W w') := fun h0 => ⟨fun W hw => by
   obtain ⟨y1, Dn, Dd, H, G, y2, y3, y4, y5⟩ := er_half hx t1 h0
   rw [t2] at y1 y3
   exact half_calls g1.symm (g2.symm.trans h0) rfl y1 y2 y3 y4 y5 (by omega) (by omega) (by omega) W (hE.below hw)⟩
  clear t0 t1 t2 hx hX he hn hz hq n2 sz su ha hf hb hg hE g1 g2
  generalize erS X = D at *
  generalize fmS a = s1 at *
  generalize fmS b = s2 at *
  generalize fmS z = s3 at *
  generalize fuS z = s4 at *
  rcases h04 with h0 | h0
  ·have HH := hgo h0
   rw [h0] at HS HER
   clear hgo h0
   go_enter Tryz.func3, Tryz.ntmps3
   go_wp2_with (first | (go_at_call 11; (with_reducible refine HA.out.mono ?_); rintro e W0 ⟨rfl, hbx⟩; have HC := Aside0.mk hbx; clear hbx) | (go_at_call 13; (with_reducible refine (HP.out _).mono ?_); rintro e W1 ⟨rfl, hbx⟩; have HC2 : Aside0 (Below w.heap.size w W1) := ⟨by first | exact HC.out.trans (hbx.mono HC.out.size) | exact (below_alloc HC.out _).trans (hbx.mono (below_alloc HC.out _).size)⟩; clear HC; have HC := HC2; clear HC2 hbx) | (go_at_call 18; (with_reducible refine (HFA.out _).mono ?_); rintro e W2 ⟨rfl, hbx⟩; have HC2 : Aside0 (Below w.heap.size w W2) := ⟨by first | exact HC.out.trans (hbx.mono HC.out.size) | exact (below_alloc HC.out _).trans (hbx.mono (below_alloc HC.out _).size)⟩; clear HC; have HC := HC2; clear HC2 hbx) | (go_at_call 18; (with_reducible refine (HFB.out _).mono ?_); rintro e W3 ⟨rfl, hbx⟩; have HC2 : Aside0 (Below w.heap.size w W3) := ⟨by first | exact HC.out.trans (hbx.mono HC.out.size) | exact (below_alloc HC.out _).trans (hbx.mono (below_alloc HC.out _).size)⟩; clear HC; have HC := HC2; clear HC2 hbx) | (go_at_call 18; (with_reducible refine (HFZ.out _).mono ?_); rintro e W4 ⟨rfl, hbx⟩; have HC2 : Aside0 (Below w.heap.size w W4) := ⟨by first | exact HC.out.trans (hbx.mono HC.out.size) | exact (below_alloc HC.out _).trans (hbx.mono (below_alloc HC.out _).size)⟩; clear HC; have HC := HC2; clear HC2 hbx) | (go_at_call 19; (with_reducible refine (HU.out _).mono ?_); rintro e W5 ⟨rfl, hbx⟩; have HC2 : Aside0 (Below w.heap.size w W5) := ⟨by first | exact HC.out.trans (hbx.mono HC.out.size) | exact (below_alloc HC.out _).trans (hbx.mono (below_alloc HC.out _).size)⟩; clear HC; have HC := HC2; clear HC2 hbx) | (go_at_call 16; (with_reducible refine (HN.out _ HC.out).mono ?_); rintro e W6 ⟨rfl, hbx⟩; have HC2 : Aside0 (Below w.heap.size w W6) := ⟨by first | exact HC.out.trans (hbx.mono HC.out.size) | exact (below_alloc HC.out _).trans (hbx.mono (below_alloc HC.out _).size)⟩; clear HC; have HC := HC2; clear HC2 hbx) | (go_at_call 15; (with_reducible refine (HS.out _ HC.out).mono ?_); rintro e W7 ⟨rfl, hbx⟩; have HC2 : Aside0 (Below w.heap.size w W7) := ⟨by first | exact HC.out.trans (hbx.mono HC.out.size) | exact (below_alloc HC.out _).trans (hbx.mono (below_alloc HC.out _).size)⟩; clear HC; have HC := HC2; clear HC2 hbx) | (go_at_call 20; (with_reducible refine (HER.out _ HC.out).mono ?_); rintro e W8 ⟨rfl, hbx⟩; have HC2 : Aside0 (Below w.heap.size w W8) := ⟨by first | exact HC.out.trans (hbx.mono HC.out.size) | exact (below_alloc HC.out _).trans (hbx.mono (below_alloc HC.out _).size)⟩; clear HC; have HC := HC2; clear HC2 hbx) | (go_at_call 21; (with_reducible refine (HH.out _ HC.out).mono ?_); rintro e W9 ⟨rfl, hbx⟩; have HC2 : Aside0 (Below w.heap.size w W9) := ⟨by first | exact HC.out.trans (hbx.mono HC.out.size) | exact (below_alloc HC.out _).trans (hbx.mono (below_alloc HC.out _).size)⟩; clear HC; have HC := HC2; clear HC2 hbx))
   go_ret
   exact ⟨by simp, HC.out⟩
  ·rw [h0] at HS HER
   clear hgo h0
   go_enter Tryz.func3, Tryz.ntmps3
   go_wp2_with (first | (go_at_call 11; (with_reducible refine HA.out.mono ?_); rintro e W0 ⟨rfl, hbx⟩; have HC := Aside0.mk hbx; clear hbx) | (go_at_call 13; (with_reducible refine (HP.out _).mono ?_); rintro e W1 ⟨rfl, hbx⟩; have HC2 : Aside0 (Below w.heap.size w W1) := ⟨by first | exact HC.out.trans (hbx.mono HC.out.size) | exact (below_alloc HC.out _).trans (hbx.mono (below_alloc HC.out _).size)⟩; clear HC; have HC := HC2; clear HC2 hbx) | (go_at_call 18; (with_reducible refine (HFA.out _).mono ?_); rintro e W2 ⟨rfl, hbx⟩; have HC2 : Aside0 (Below w.heap.size w W2) := ⟨by first | exact HC.out.trans (hbx.mono HC.out.size) | exact (below_alloc HC.out _).trans (hbx.mono (below_alloc HC.out _).size)⟩; clear HC; have HC := HC2; clear HC2 hbx) | (go_at_call 18; (with_reducible refine (HFB.out _).mono ?_); rintro e W3 ⟨rfl, hbx⟩; have HC2 : Aside0 (Below w.heap.size w W3) := ⟨by first | exact HC.out.trans (hbx.mono HC.out.size) | exact (below_alloc HC.out _).trans (hbx.mono (below_alloc HC.out _).size)⟩; clear HC; have HC := HC2; clear HC2 hbx) | (go_at_call 18; (with_reducible refine (HFZ.out _).mono ?_); rintro e W4 ⟨rfl, hbx⟩; have HC2 : Aside0 (Below w.heap.size w W4) := ⟨by first | exact HC.out.trans (hbx.mono HC.out.size) | exact (below_alloc HC.out _).trans (hbx.mono (below_alloc HC.out _).size)⟩; clear HC; have HC := HC2; clear HC2 hbx) | (go_at_call 19; (with_reducible refine (HU.out _).mono ?_); rintro e W5 ⟨rfl, hbx⟩; have HC2 : Aside0 (Below w.heap.size w W5) := ⟨by first | exact HC.out.trans (hbx.mono HC.out.size) | exact (below_alloc HC.out _).trans (hbx.mono (below_alloc HC.out _).size)⟩; clear HC; have HC := HC2; clear HC2 hbx) | (go_at_call 16; (with_reducible refine (HN.out _ HC.out).mono ?_); rintro e W6 ⟨rfl, hbx⟩; have HC2 : Aside0 (Below w.heap.size w W6) := ⟨by first | exact HC.out.trans (hbx.mono HC.out.size) | exact (below_alloc HC.out _).trans (hbx.mono (below_alloc HC.out _).size)⟩; clear HC; have HC := HC2; clear HC2 hbx) | (go_at_call 15; (with_reducible refine (HS.out _ HC.out).mono ?_); rintro e W7 ⟨rfl, hbx⟩; have HC2 : Aside0 (Below w.heap.size w W7) := ⟨by first | exact HC.out.trans (hbx.mono HC.out.size) | exact (below_alloc HC.out _).trans (hbx.mono (below_alloc HC.out _).size)⟩; clear HC; have HC := HC2; clear HC2 hbx) | (go_at_call 20; (with_reducible refine (HER.out _ HC.out).mono ?_); rintro e W8 ⟨rfl, hbx⟩; have HC2 : Aside0 (Below w.heap.size w W8) := ⟨by first | exact HC.out.trans (hbx.mono HC.out.size) | exact (below_alloc HC.out _).trans (hbx.mono (below_alloc HC.out _).size)⟩; clear HC; have HC := HC2; clear HC2 hbx))
   go_ret
   exact ⟨by simp, HC.out⟩
 ·rw [he] at HN
  clear hn hz hq n2 sz su ha hf hb hg hE he
  generalize rsS (sgI (!(fvS a == fvS b)) (fvP a * fvP b)) ((fvQ a * fvQ b : Nat) : Int) = X at *
  generalize fmS a = s1 at *
  generalize fmS b = s2 at *
  generalize fmS z = s3 at *
  generalize fuS z = s4 at *
  go_enter Tryz.func3, Tryz.ntmps3
  go_wp2_with (first | (go_at_call 11; (with_reducible refine HA.out.mono ?_); rintro e W0 ⟨rfl, hbx⟩; have HC := Aside0.mk hbx; clear hbx) | (go_at_call 13; (with_reducible refine (HP.out _).mono ?_); rintro e W1 ⟨rfl, hbx⟩; have HC2 : Aside0 (Below w.heap.size w W1) := ⟨by first | exact HC.out.trans (hbx.mono HC.out.size) | exact (below_alloc HC.out _).trans (hbx.mono (below_alloc HC.out _).size)⟩; clear HC; have HC := HC2; clear HC2 hbx) | (go_at_call 18; (with_reducible refine (HFA.out _).mono ?_); rintro e W2 ⟨rfl, hbx⟩; have HC2 : Aside0 (Below w.heap.size w W2) := ⟨by first | exact HC.out.trans (hbx.mono HC.out.size) | exact (below_alloc HC.out _).trans (hbx.mono (below_alloc HC.out _).size)⟩; clear HC; have HC := HC2; clear HC2 hbx) | (go_at_call 18; (with_reducible refine (HFB.out _).mono ?_); rintro e W3 ⟨rfl, hbx⟩; have HC2 : Aside0 (Below w.heap.size w W3) := ⟨by first | exact HC.out.trans (hbx.mono HC.out.size) | exact (below_alloc HC.out _).trans (hbx.mono (below_alloc HC.out _).size)⟩; clear HC; have HC := HC2; clear HC2 hbx) | (go_at_call 18; (with_reducible refine (HFZ.out _).mono ?_); rintro e W4 ⟨rfl, hbx⟩; have HC2 : Aside0 (Below w.heap.size w W4) := ⟨by first | exact HC.out.trans (hbx.mono HC.out.size) | exact (below_alloc HC.out _).trans (hbx.mono (below_alloc HC.out _).size)⟩; clear HC; have HC := HC2; clear HC2 hbx) | (go_at_call 19; (with_reducible refine (HU.out _).mono ?_); rintro e W5 ⟨rfl, hbx⟩; have HC2 : Aside0 (Below w.heap.size w W5) := ⟨by first | exact HC.out.trans (hbx.mono HC.out.size) | exact (below_alloc HC.out _).trans (hbx.mono (below_alloc HC.out _).size)⟩; clear HC; have HC := HC2; clear HC2 hbx) | (go_at_call 16; (with_reducible refine (HN.out _ HC.out).mono ?_); rintro e W6 ⟨rfl, hbx⟩; have HC2 : Aside0 (Below w.heap.size w W6) := ⟨by first | exact HC.out.trans (hbx.mono HC.out.size) | exact (below_alloc HC.out _).trans (hbx.mono (below_alloc HC.out _).size)⟩; clear HC; have HC := HC2; clear HC2 hbx))
  go_ret
  exact ⟨by simp, HC.out⟩
theorem cob_quo {a b : Nat} (ha : a < 4294967296) (hf : fin32 a = true) (hb : b < 4294967296) (hg : fin32 b = true)(hz0 : b % 2147483648 ≠ 0) (hzp : 0 < fvP b) (w : World) (hE : EN w) (hn : nrE (!(fvS a == fvS b)) (fvP a * fvQ b) (fvQ a * fvP b) = 0) :
 Calls Tryz.prog 3 #[.int .i64 19, .int .u32 (a : Int), .int .u32 (b : Int)] w fun e w' => e = .returned (.bool true) ∧ Below w.heap.size w w' := by
 have HA := Aside0.mk (cobalt_calls w hE)
 have hp := fun W => apply_quo ha hf hb hg hz0 hzp W
 have hq : 0 < (fvQ a * fvP b) := Nat.mul_pos (fv_sz hf).2.2 hzp
 unfold NrO at hp
 rw [hn] at hp
 obtain ⟨n1, n2⟩ := near_ok hq hn
 have HP := Aside0.mk hp
 have hmm := @run_makeMap Tryz.prog
 have hnil : ∀ W : World, (binOp .eql 29 (.func (.func 17) #[] #[]) .nilFunc).run Tryz.prog W = .ok (.bool false) W := fun W => by rfl
 have m1 := hu1
 have m2 := hu2
 have m3 := hu3
 have m4 := hu4
 have m5 : ∀ W : World, (Instr.lookup 30 (.map (some W.heap.size)) (.int .i64 19) false).run Tryz.prog (W.alloc (.map es4 4)) = .ok (.func (.func 17) #[] #[]) (W.alloc (.map es4 4)) := fun W => look30 W (j := 3) rfl
 have r1 := run_from32 (a : Int)
 have r2 := run_from32 (b : Int)
 simp only [Int.toNat_natCast] at r1 r2
 have HFA : Aside0 (∀ W, Calls Tryz.prog 18 #[.float .f32 a] W fun e w' => e = .returned (.tuple #[.string (fmS a), .int .i64 0]) ∧ Below W.heap.size W w') := ⟨fun W => by
  have := from32_any ha W
  unfold fmE at this
  rwa [if_pos hf] at this⟩
 have HFB : Aside0 (∀ W, Calls Tryz.prog 18 #[.float .f32 b] W fun e w' => e = .returned (.tuple #[.string (fmS b), .int .i64 0]) ∧ Below W.heap.size W w') := ⟨fun W => by
  have := from32_any hb W
  unfold fmE at this
  rwa [if_pos hg] at this⟩
 obtain ⟨z, hz⟩ : ∃ z, nrW (!(fvS a == fvS b)) (fvP a * fvQ b) (fvQ a * fvP b) = z := ⟨_, rfl⟩
 rw [hz] at n1 n2 HP
 have HFZ : Aside0 (∀ W, Calls Tryz.prog 18 #[.float .f32 z] W fun e w' => e = .returned (.tuple #[.string (fmS z), .int .i64 0]) ∧ Below W.heap.size W w') := ⟨fun W => by
  have := from32_any n1 W
  unfold fmE at this
  rwa [if_pos n2] at this⟩
 have HU : Aside0 (∀ W, Calls Tryz.prog 19 #[.float .f32 z] W fun e w' => e = .returned (.tuple #[.string (fuS z), .int .i64 0]) ∧ Below W.heap.size W w') := ⟨fun W => by
  have := unit_calls n1 W
  unfold fmE at this
  rwa [if_pos n2] at this⟩
 obtain ⟨_, _, fa, _⟩ := fm_frc hf
 obtain ⟨_, _, fb, _⟩ := fm_frc hg
 obtain ⟨_, _, fz, _⟩ := fm_frc n2
 obtain ⟨_, _, fu, _⟩ := fu_frc n2
 have sa := fa.size2
 have sb := fb.size2
 have sz := fz.size2
 have su := fu.size2
 obtain ⟨i1, i2⟩ := ap_quo hf hg hzp
 have HN : Aside0 (∀ W, Below w.heap.size w W → Calls Tryz.prog 17 #[.string (fmS a), .string (fmS b)] W fun e w' => e = .returned (.tuple #[.string (rsS (sgI (!(fvS a == fvS b)) (fvP a * fvQ b)) (fvQ a * fvP b : Nat)), .int .i64 (rsE (sgI (!(fvS a == fvS b)) (fvP a * fvQ b)) (fvQ a * fvP b : Nat))]) ∧ Below W.heap.size W w') := ⟨fun W hw => by
  have := divReal_calls (fmS a) (fmS b) (by omega) (by omega) W (hE.below hw)
  rwa [i1, i2] at this⟩
 clear hp n1 fa fb fz fu sa sb i1 i2
 rcases rs_err (sgI (!(fvS a == fvS b)) (fvP a * fvQ b)) ((fvQ a * fvP b : Nat) : Int) with he | he
 ·obtain ⟨t0, t1, t2, P, Q, hx⟩ := cob_tail hq hn he
  rw [he] at HN
  rw [hz] at t2
  obtain ⟨X, hX⟩ : ∃ X, rsS (sgI (!(fvS a == fvS b)) (fvP a * fvQ b)) ((fvQ a * fvP b : Nat) : Int) = X := ⟨_, rfl⟩
  rw [hX] at t0 t1 t2 hx HN
  obtain ⟨g1, g2⟩ := er_same hx t1
  rw [t2] at g1 g2
  have HS : Aside0 (∀ W, Below w.heap.size w W → Calls Tryz.prog 15 #[.string X, .string (fmS z)] W fun e w' => e = .returned (.tuple #[.string (erS X), .int .i64 (erE X)]) ∧ Below W.heap.size W w') := ⟨fun W hw => by
   have := subReal_calls X (fmS z) (by omega) (by omega) W (hE.below hw)
   rwa [← g1, ← g2] at this⟩
  have HER : Aside0 (∀ W, Below w.heap.size w W → Calls Tryz.prog 20 #[.string X] W fun e w' => e = .returned (.tuple #[.string (erS X), .int .i64 (erE X)]) ∧ Below W.heap.size W w') := ⟨fun W hw => error_calls X (by omega) W (hE.below hw)⟩
  have h04 : erE X = 0 ∨ erE X = 4 := by rw [(er_rs hx t1).2]; exact rs_err _ _
  have hgo : erE X = 0 → Aside0 (∀ W, Below w.heap.size w W → Calls Tryz.prog 21 #[.string X, .string (fmS z), .string (fuS z)] W fun e w' => e = .returned (.bool true) ∧ Below W.heap.size W w') := fun h0 => ⟨fun W hw => by
   obtain ⟨y1, Dn, Dd, H, G, y2, y3, y4, y5⟩ := er_half hx t1 h0
   rw [t2] at y1 y3
   exact half_calls g1.symm (g2.symm.trans h0) rfl y1 y2 y3 y4 y5 (by omega) (by omega) (by omega) W (hE.below hw)⟩
  clear t0 t1 t2 hx hX he hn hz hq n2 sz su ha hf hb hg hE g1 g2 hz0 hzp
  generalize erS X = D at *
  generalize fmS a = s1 at *
  generalize fmS b = s2 at *
  generalize fmS z = s3 at *
  generalize fuS z = s4 at *
  rcases h04 with h0 | h0
  ·have HH := hgo h0
   rw [h0] at HS HER
   clear hgo h0
   go_enter Tryz.func3, Tryz.ntmps3
   go_wp2_with (first | (go_at_call 11; (with_reducible refine HA.out.mono ?_); rintro e W0 ⟨rfl, hbx⟩; have HC := Aside0.mk hbx; clear hbx) | (go_at_call 13; (with_reducible refine (HP.out _).mono ?_); rintro e W1 ⟨rfl, hbx⟩; have HC2 : Aside0 (Below w.heap.size w W1) := ⟨by first | exact HC.out.trans (hbx.mono HC.out.size) | exact (below_alloc HC.out _).trans (hbx.mono (below_alloc HC.out _).size)⟩; clear HC; have HC := HC2; clear HC2 hbx) | (go_at_call 18; (with_reducible refine (HFA.out _).mono ?_); rintro e W2 ⟨rfl, hbx⟩; have HC2 : Aside0 (Below w.heap.size w W2) := ⟨by first | exact HC.out.trans (hbx.mono HC.out.size) | exact (below_alloc HC.out _).trans (hbx.mono (below_alloc HC.out _).size)⟩; clear HC; have HC := HC2; clear HC2 hbx) | (go_at_call 18; (with_reducible refine (HFB.out _).mono ?_); rintro e W3 ⟨rfl, hbx⟩; have HC2 : Aside0 (Below w.heap.size w W3) := ⟨by first | exact HC.out.trans (hbx.mono HC.out.size) | exact (below_alloc HC.out _).trans (hbx.mono (below_alloc HC.out _).size)⟩; clear HC; have HC := HC2; clear HC2 hbx) | (go_at_call 18; (with_reducible refine (HFZ.out _).mono ?_); rintro e W4 ⟨rfl, hbx⟩; have HC2 : Aside0 (Below w.heap.size w W4) := ⟨by first | exact HC.out.trans (hbx.mono HC.out.size) | exact (below_alloc HC.out _).trans (hbx.mono (below_alloc HC.out _).size)⟩; clear HC; have HC := HC2; clear HC2 hbx) | (go_at_call 19; (with_reducible refine (HU.out _).mono ?_); rintro e W5 ⟨rfl, hbx⟩; have HC2 : Aside0 (Below w.heap.size w W5) := ⟨by first | exact HC.out.trans (hbx.mono HC.out.size) | exact (below_alloc HC.out _).trans (hbx.mono (below_alloc HC.out _).size)⟩; clear HC; have HC := HC2; clear HC2 hbx) | (go_at_call 17; (with_reducible refine (HN.out _ HC.out).mono ?_); rintro e W6 ⟨rfl, hbx⟩; have HC2 : Aside0 (Below w.heap.size w W6) := ⟨by first | exact HC.out.trans (hbx.mono HC.out.size) | exact (below_alloc HC.out _).trans (hbx.mono (below_alloc HC.out _).size)⟩; clear HC; have HC := HC2; clear HC2 hbx) | (go_at_call 15; (with_reducible refine (HS.out _ HC.out).mono ?_); rintro e W7 ⟨rfl, hbx⟩; have HC2 : Aside0 (Below w.heap.size w W7) := ⟨by first | exact HC.out.trans (hbx.mono HC.out.size) | exact (below_alloc HC.out _).trans (hbx.mono (below_alloc HC.out _).size)⟩; clear HC; have HC := HC2; clear HC2 hbx) | (go_at_call 20; (with_reducible refine (HER.out _ HC.out).mono ?_); rintro e W8 ⟨rfl, hbx⟩; have HC2 : Aside0 (Below w.heap.size w W8) := ⟨by first | exact HC.out.trans (hbx.mono HC.out.size) | exact (below_alloc HC.out _).trans (hbx.mono (below_alloc HC.out _).size)⟩; clear HC; have HC := HC2; clear HC2 hbx) | (go_at_call 21; (with_reducible refine (HH.out _ HC.out).mono ?_); rintro e W9 ⟨rfl, hbx⟩; have HC2 : Aside0 (Below w.heap.size w W9) := ⟨by first | exact HC.out.trans (hbx.mono HC.out.size) | exact (below_alloc HC.out _).trans (hbx.mono (below_alloc HC.out _).size)⟩; clear HC; have HC := HC2; clear HC2 hbx))
   go_ret
   exact ⟨by simp, HC.out⟩
  ·rw [h0] at HS HER
   clear hgo h0
   go_enter Tryz.func3, Tryz.ntmps3
   go_wp2_with (first | (go_at_call 11; (with_reducible refine HA.out.mono ?_); rintro e W0 ⟨rfl, hbx⟩; have HC := Aside0.mk hbx; clear hbx) | (go_at_call 13; (with_reducible refine (HP.out _).mono ?_); rintro e W1 ⟨rfl, hbx⟩; have HC2 : Aside0 (Below w.heap.size w W1) := ⟨by first | exact HC.out.trans (hbx.mono HC.out.size) | exact (below_alloc HC.out _).trans (hbx.mono (below_alloc HC.out _).size)⟩; clear HC; have HC := HC2; clear HC2 hbx) | (go_at_call 18; (with_reducible refine (HFA.out _).mono ?_); rintro e W2 ⟨rfl, hbx⟩; have HC2 : Aside0 (Below w.heap.size w W2) := ⟨by first | exact HC.out.trans (hbx.mono HC.out.size) | exact (below_alloc HC.out _).trans (hbx.mono (below_alloc HC.out _).size)⟩; clear HC; have HC := HC2; clear HC2 hbx) | (go_at_call 18; (with_reducible refine (HFB.out _).mono ?_); rintro e W3 ⟨rfl, hbx⟩; have HC2 : Aside0 (Below w.heap.size w W3) := ⟨by first | exact HC.out.trans (hbx.mono HC.out.size) | exact (below_alloc HC.out _).trans (hbx.mono (below_alloc HC.out _).size)⟩; clear HC; have HC := HC2; clear HC2 hbx) | (go_at_call 18; (with_reducible refine (HFZ.out _).mono ?_); rintro e W4 ⟨rfl, hbx⟩; have HC2 : Aside0 (Below w.heap.size w W4) := ⟨by first | exact HC.out.trans (hbx.mono HC.out.size) | exact (below_alloc HC.out _).trans (hbx.mono (below_alloc HC.out _).size)⟩; clear HC; have HC := HC2; clear HC2 hbx) | (go_at_call 19; (with_reducible refine (HU.out _).mono ?_); rintro e W5 ⟨rfl, hbx⟩; have HC2 : Aside0 (Below w.heap.size w W5) := ⟨by first | exact HC.out.trans (hbx.mono HC.out.size) | exact (below_alloc HC.out _).trans (hbx.mono (below_alloc HC.out _).size)⟩; clear HC; have HC := HC2; clear HC2 hbx) | (go_at_call 17; (with_reducible refine (HN.out _ HC.out).mono ?_); rintro e W6 ⟨rfl, hbx⟩; have HC2 : Aside0 (Below w.heap.size w W6) := ⟨by first | exact HC.out.trans (hbx.mono HC.out.size) | exact (below_alloc HC.out _).trans (hbx.mono (below_alloc HC.out _).size)⟩; clear HC; have HC := HC2; clear HC2 hbx) | (go_at_call 15; (with_reducible refine (HS.out _ HC.out).mono ?_); rintro e W7 ⟨rfl, hbx⟩; have HC2 : Aside0 (Below w.heap.size w W7) := ⟨by first | exact HC.out.trans (hbx.mono HC.out.size) | exact (below_alloc HC.out _).trans (hbx.mono (below_alloc HC.out _).size)⟩; clear HC; have HC := HC2; clear HC2 hbx) | (go_at_call 20; (with_reducible refine (HER.out _ HC.out).mono ?_); rintro e W8 ⟨rfl, hbx⟩; have HC2 : Aside0 (Below w.heap.size w W8) := ⟨by first | exact HC.out.trans (hbx.mono HC.out.size) | exact (below_alloc HC.out _).trans (hbx.mono (below_alloc HC.out _).size)⟩; clear HC; have HC := HC2; clear HC2 hbx))
   go_ret
   exact ⟨by simp, HC.out⟩
 ·rw [he] at HN
  clear hn hz hq n2 sz su ha hf hb hg hE he hz0 hzp
  generalize rsS (sgI (!(fvS a == fvS b)) (fvP a * fvQ b)) ((fvQ a * fvP b : Nat) : Int) = X at *
  generalize fmS a = s1 at *
  generalize fmS b = s2 at *
  generalize fmS z = s3 at *
  generalize fuS z = s4 at *
  go_enter Tryz.func3, Tryz.ntmps3
  go_wp2_with (first | (go_at_call 11; (with_reducible refine HA.out.mono ?_); rintro e W0 ⟨rfl, hbx⟩; have HC := Aside0.mk hbx; clear hbx) | (go_at_call 13; (with_reducible refine (HP.out _).mono ?_); rintro e W1 ⟨rfl, hbx⟩; have HC2 : Aside0 (Below w.heap.size w W1) := ⟨by first | exact HC.out.trans (hbx.mono HC.out.size) | exact (below_alloc HC.out _).trans (hbx.mono (below_alloc HC.out _).size)⟩; clear HC; have HC := HC2; clear HC2 hbx) | (go_at_call 18; (with_reducible refine (HFA.out _).mono ?_); rintro e W2 ⟨rfl, hbx⟩; have HC2 : Aside0 (Below w.heap.size w W2) := ⟨by first | exact HC.out.trans (hbx.mono HC.out.size) | exact (below_alloc HC.out _).trans (hbx.mono (below_alloc HC.out _).size)⟩; clear HC; have HC := HC2; clear HC2 hbx) | (go_at_call 18; (with_reducible refine (HFB.out _).mono ?_); rintro e W3 ⟨rfl, hbx⟩; have HC2 : Aside0 (Below w.heap.size w W3) := ⟨by first | exact HC.out.trans (hbx.mono HC.out.size) | exact (below_alloc HC.out _).trans (hbx.mono (below_alloc HC.out _).size)⟩; clear HC; have HC := HC2; clear HC2 hbx) | (go_at_call 18; (with_reducible refine (HFZ.out _).mono ?_); rintro e W4 ⟨rfl, hbx⟩; have HC2 : Aside0 (Below w.heap.size w W4) := ⟨by first | exact HC.out.trans (hbx.mono HC.out.size) | exact (below_alloc HC.out _).trans (hbx.mono (below_alloc HC.out _).size)⟩; clear HC; have HC := HC2; clear HC2 hbx) | (go_at_call 19; (with_reducible refine (HU.out _).mono ?_); rintro e W5 ⟨rfl, hbx⟩; have HC2 : Aside0 (Below w.heap.size w W5) := ⟨by first | exact HC.out.trans (hbx.mono HC.out.size) | exact (below_alloc HC.out _).trans (hbx.mono (below_alloc HC.out _).size)⟩; clear HC; have HC := HC2; clear HC2 hbx) | (go_at_call 17; (with_reducible refine (HN.out _ HC.out).mono ?_); rintro e W6 ⟨rfl, hbx⟩; have HC2 : Aside0 (Below w.heap.size w W6) := ⟨by first | exact HC.out.trans (hbx.mono HC.out.size) | exact (below_alloc HC.out _).trans (hbx.mono (below_alloc HC.out _).size)⟩; clear HC; have HC := HC2; clear HC2 hbx))
  go_ret
  exact ⟨by simp, HC.out⟩
theorem fvP_pos {b : Nat} (hf : fin32 b = true) (hz : b % 2147483648 ≠ 0) : 0 < fvP b := by
 have h := fv_dy hf
 have h1 : 0 < sg32 (b % 2147483648) := by unfold sg32; split <;> omega
 have h2 : 0 < vp (sg32 (b % 2147483648)) (pl32 (b % 2147483648)) := Nat.mul_pos h1 (pp _)
 rcases Nat.eq_zero_or_pos (fvP b) with h3 | h3
 ·rw [h3, Nat.zero_mul] at h
  have := Nat.mul_pos h2 (fv_sz hf).2.2
  omega
 ·exact h3
theorem cob_calls (op : Int) (a b : Nat) (h1 : -9223372036854775808 ≤ op) (h2 : op ≤ 9223372036854775807) (ha : a < 4294967296) (hb : b < 4294967296) (w : World) (hE : EN w) :
 Calls Tryz.prog 3 #[.int .i64 op, .int .u32 (a : Int), .int .u32 (b : Int)] w fun e w' => e = .returned (.bool true) ∧ Below w.heap.size w w' := by
 rcases opI_cases op with h | ⟨i, hi, hlt, hop⟩
 ·exact cob_err (by decide) w hE (fun W => apply_kind h a b W)
 ·by_cases hf : fin32 a = true
  ·by_cases hg : fin32 b = true
   ·obtain rfl | rfl | rfl | rfl : i = 0 ∨ i = 1 ∨ i = 2 ∨ i = 3 := by omega
    ·obtain rfl : op = 16 := by omega
     exact if hn : _ = 0 then cob_add ha hf hb hg w hE hn else cob_err hn w hE (fun W => apply_add ha hf hb hg W)
    ·obtain rfl : op = 17 := by omega
     exact if hn : _ = 0 then cob_sub ha hf hb hg w hE hn else cob_err hn w hE (fun W => apply_sub ha hf hb hg W)
    ·obtain rfl : op = 18 := by omega
     exact if hn : _ = 0 then cob_mul ha hf hb hg w hE hn else cob_err hn w hE (fun W => apply_mul ha hf hb hg W)
    ·obtain rfl : op = 19 := by omega
     by_cases hz : b % 2147483648 = 0
     ·exact cob_err (by decide) w hE (fun W => apply_div ha hf hb hg hz W)
     ·have hzp := fvP_pos hg hz
      exact if hn : _ = 0 then cob_quo ha hf hb hg hz hzp w hE hn else cob_err hn w hE (fun W => apply_quo ha hf hb hg hz hzp W)
   ·exact cob_err (by decide) w hE (fun W => apply_formB hi ha hf hb hg W)
  ·exact cob_err (by decide) w hE (fun W => apply_formA hi b ha hf W)
end
section
open Go.ChangeAt Go.ChangeShapes Go.Proofs.YtnjbinpbkjdjpaaGreatDoorW.PrintLast Go.Proofs.YtnjbinpbkjdjpaaGreatDoorW.PrintMore Go.Proofs.YtnjbinpbkjdjpaaGreatDoorW.PrintWords Go.RowKit Go.WideShapes
/-- The variables that the rows list. -/
def laidL : List (String × DataW Unit) := [("math/bits.deBruijn32tab", Rows.laid_math_bits_deBruijn32tab), ("math/bits.deBruijn64tab", Rows.laid_math_bits_deBruijn64tab), ("internal/strconv.uint64pow10", Rows.laid_internal_strconv_uint64pow10)]
theorem mln_of {W : World} (h : W.ShapedOpen Tryz.prog) : ∃ m, W.cell? ⟨1, 0, none⟩ = some (.int .i64 m) := by
 obtain ⟨cs, hh, hs, hr⟩ := h.1 1 #[.int .i64 0] 3 (by decide +kernel) (by kernel_rfl)
 obtain ⟨ts, hts, _, hall⟩ := hr (by kernel_rfl)
 have hts2 : Tryz.prog.cellTypes Tryz.prog.depth 3 = some [3] := by kernel_rfl
 rw [hts2] at hts
 cases hts
 have h1 : 0 < cs.size := by rw [hs]; decide
 obtain ⟨u, hu', hok⟩ := hall 0 cs[0] (Array.getElem?_eq_getElem h1)
 have : u = 3 := (Option.some.inj (show some 3 = some u from hu')).symm
 subst this
 have hcell : W.cell? ⟨1, 0, none⟩ = some cs[0] := by
  unfold World.cell?
  rw [hh]
  exact Array.getElem?_eq_getElem h1
 rw [hcell]
 unfold Cell.ok at hok
 rw [Tryz.underlying3] at hok
 cases hv : cs[0] <;> rw [hv] at hok <;> first | (simp at hok; done) | (rename_i k a; simp at hok; exact ⟨a, by rw [hok.1]⟩) | skip
theorem tens_of {P : Program} {W : World} {n : String} {g t e m : Nat} {k : IntKind} {zs : List Int} (hn : P.globalNamed n = some g) (ht : (P.globals[g]?).map (·.type) = some t) (hu : P.underlying t = some (.array m e)) (he : P.underlying e = some (.int k)) (hce : P.cellsOf e = 1) (hct : P.cellsOf t = m)
 (h : Lib.VarReads P W n (Lib.tabData k zs)) : Lib.TabIs P W n k zs := by
 obtain ⟨g', t', cs, fuel, p, h1, h2, h3, h4⟩ := h
 obtain rfl := Option.some.inj (hn.symm.trans h1)
 obtain rfl := Option.some.inj (ht.symm.trans h2)
 have := Lib.cells_of_tab hu he hce hct h4
 unfold Lib.TabIs
 rw [h3, ← this]
theorem pow10D : (Rows.laid_internal_strconv_uint64pow10 : DataW Unit) = Lib.tabData .u64 Lib.pow10Tab := by kernel_rfl
theorem env_of {W : World} (hd : laidMet Tryz.prog laidL W) (hsh : W.ShapedOpen Tryz.prog) : EN W := by
 have r1 := Lib.laidMet.reads hd (n := "internal/strconv.uint64pow10") (d := Rows.laid_internal_strconv_uint64pow10) (by simp [laidL])
 rw [pow10D] at r1
 exact ⟨tens_of (P := Tryz.prog) (g := 2) (by kernel_rfl) (by kernel_rfl) Tryz.underlying292 Tryz.underlying53 (by kernel_rfl) (by kernel_rfl) r1, mln_of hsh⟩
theorem args_below {H : Type} {enc : TypeId × Value → H} {P : Program} (hl : laidOutB P = true) {W W' : World} (hb : Below W.heap.size W W') :
 ∀ {ts : List TypeId} {vs : List Value} {ds : List (DataW H)} {ps : List MemPlace}, (ts.all fun t => P.readableRec t && decide (t < P.types.size)) = true → (∀ x ∈ ps, x.block < W.heap.size) →
  DataW.TrodAll enc P W 0 (fun _ => true) true ts vs ds ps → DataW.TrodAll enc P W' 0 (fun b => decide (b < W.heap.size)) true ts vs ds ps
 | [], [], [], _, _, _, h => h
 | t :: ts, v :: vs, d :: ds, _, ht, hlt, ⟨p, q, h1, h2, e⟩ => by
   simp only [List.all_cons, Bool.and_eq_true, decide_eq_true_eq] at ht
   exact ⟨p, q, Below.trod hl ht.1.1 ht.1.2 h1 hb (fun x hx => hlt x (by rw [e]; exact List.mem_append_left _ hx)), args_below hl hb (by rw [List.all_eq_true]; intro x hx; simpa using List.all_eq_true.mp ht.2 x hx) (fun x hx => hlt x (by rw [e]; exact List.mem_append_right _ hx)) h2, e⟩
theorem post_law {H : Type} {enc : TypeId × Value → H} {P : Program} {f : Func} {s : ChangeSpec} {W W' : World} {args : Array Value} {ds gs : List (DataW H)} {before : List MemPlace} (hl : laidOutB P = true) (h4 : P.underlying 4 = some .bool)
 (hW : DataW.Whole enc P f.params.toList s.vars false W args.toList ds gs before) (ht : (f.params.toList.all fun t => P.readableRec t && decide (t < P.types.size)) = true)
 (hv : s.vars = []) (hs : s.fn H ds = { results := [.lit (.bool true)], args := ds }) (hr : f.resultTypes = #[4]) (hb : Below W.heap.size W W') :
 s.post enc P f false true false false W args (.bool true) W' := by
 have hlt : ∀ p ∈ before, p.block < W.heap.size := fun p hp => hW.lt p hp
 have hW' := hW
 obtain ⟨p, q, hA, hV, rfl, _, _⟩ := hW
 rw [hv] at hV
 obtain ⟨rfl, rfl⟩ := trodVars_none hV
 rw [List.append_nil] at hlt hW'
 refine ⟨ds, [], p, [], p, [], hW', ?_, ?_, ?_, World.keptBut_mono (fun x hx => ⟨hx, .inr (.inl hx)⟩) (hb.frame (· ∈ p)), fun h => by cases h⟩
 ·rw [List.append_nil, hs, hr]
  exact trodAll_cons_mk (shut_bool h4 _) trodAll_mk0
 ·rw [List.append_nil, hs]
  exact args_below hl hb ht hlt hA
 ·rw [List.append_nil, hs, hv]
  trivial
theorem laidOut : laidOutB Tryz.prog = true := by kernel_rfl
theorem ownK : ownKnob Tryz.prog.godebug = none := by kernel_rfl
end
end Go.Proofs.YtnjbinpbkjdjpaaGreatDoor.Nm
