import Derived.Test.YtnjbinpbkjdjpaaGreatDoorP12
import Derived.Test.YtnjbinpbkjdjpaaGreatDoorP10
import Derived.Test.YtnjbinpbkjdjpaaGreatDoorP11
import Derived.Test.YtnjbinpbkjdjpaaGreatDoorP8
import Derived.MapKept
import Derived.Carry
import Derived.Maps.RangeRun
import Derived.Maps.RangeWalk
/- Own text: contracts and laws on which the card rests (GaD FmA FoA FoB FbC FcA FcB FcC FcD FoC). -/
set_option linter.unusedVariables false
set_option linter.unusedSimpArgs false
set_option maxRecDepth 1000000
set_option maxHeartbeats 16000000
namespace Go.Proofs.YtnjbinpbkjdjpaaGreatDoor.Nm
section
open Go.Proofs.YtnjbinpbkjdjpaaGreatDoor.Rf Go.Proofs.YtnjbinpbkjdjpaaGreatDoorW.PrintLast Go.Proofs.YtnjbinpbkjdjpaaGreatDoorW.PrintMore Go.Proofs.YtnjbinpbkjdjpaaGreatDoorW.PrintWords Go.RowKit Go.Shelf Ieee
/-- A float32 that is not finite, made a float64, in every world. -/
structure BadC (x : Nat) (Y : World → Nat) (D : World → World) : Prop where
 run : ∀ W, (convert 24 65 (.float .f32 x)).run Tryz.prog W = .ok (.float .f64 (Y W)) (D W)
 below : ∀ W, Below W.heap.size W (D W)
 fin : ∀ W V, Calls Tryz.prog 63 #[.float .f64 (Y W)] V fun e w' => e = .returned (.bool false) ∧ w' = V
theorem bad_conv {b : Nat} (h : b < 4294967296) (hf : ¬ fin32 b = true) : ∃ Y D, BadC b Y D := by
 have h3 : ¬ b % 2147483648 < 2139095040 := fun h4 => hf (decide_eq_true h4)
 have hc := fun W => conv_bad (neg32 b) (r := b % 2147483648) (by omega) (Nat.mod_lt _ (by decide)) W
 rw [← split32 h] at hc
 refine ⟨fun W => (hc W).choose, fun W => (hc W).choose_spec.choose, ⟨fun W => ?_, fun W => ?_, fun W V => ?_⟩⟩
 ·exact (hc W).choose_spec.choose_spec.1
 ·exact (hc W).choose_spec.choose_spec.2.1
 ·exact (hc W).choose_spec.choose_spec.2.2 V
theorem good_conv {b : Nat} (h : b < 4294967296) (hf : fin32 b = true) :
 (∀ W, (convert 24 65 (.float .f32 b)).run Tryz.prog W = .ok (.float .f64 (S64 (neg32 b) + w32 (b % 2147483648))) W) ∧
 Aside0 (∀ V, Calls Tryz.prog 63 #[.float .f64 (S64 (neg32 b) + w32 (b % 2147483648))] V fun e w' => e = .returned (.bool true) ∧ w' = V) ∧
 Aside0 (∀ W, Calls Tryz.prog 64 #[.float .f64 (S64 (neg32 b) + w32 (b % 2147483648))] W fun e w' => QX W (fvS b) (fvP b) (fvQ b) e w') := by
 have hcv := conv_good (neg32 b) (r := b % 2147483648) (of_decide_eq_true hf)
 rw [← split32 h] at hcv
 exact ⟨hcv, ⟨fun V => isFinite_good (neg32 b) (of_decide_eq_true hf) V⟩, ⟨fun W => exactly32 h hf W⟩⟩
theorem apply_kind {op : Int} (h : opI op = -1) (a b : Nat) (w : World) :
 Calls Tryz.prog 13 #[.int .i64 op, .float .f32 a, .float .f32 b] w fun e w' => e = .returned (.tuple #[.float .f32 0, .int .i64 11]) ∧ Below w.heap.size w w' := by
 have HB0 := Aside0.mk (below_alloc (Below.refl w.heap.size w) (.cells #[.int .i64 op] 3))
 have HL : Aside0 (w.heap.size < (w.alloc (.cells #[.int .i64 op] 3)).heap.size) := ⟨by simp⟩
 have HC0 : Aside0 ((w.alloc (.cells #[.int .i64 op] 3)).cell? ⟨w.heap.size, 0, none⟩ = some (.int .i64 op)) := ⟨by simp⟩
 have HI : Aside0 (∀ W b, OpsAt W b → W.cell? ⟨w.heap.size, 0, none⟩ = some (.int .i64 op) → w.heap.size < W.heap.size → Calls Tryz.prog 60 #[.slice (some ⟨b, 0, none⟩) 4 4, .func (.func 62) #[] #[.pointer (some ⟨w.heap.size, 0, none⟩)]] W fun e w' => e = .returned (.int .i64 (opI op)) ∧ Below W.heap.size W w') := ⟨fun W b h1 h2 h3 => index_calls h1 h2 h3⟩
 rw [h] at HI
 clear h
 go_enter Tryz.func13, Tryz.ntmps13
 go_wp2_with (first | (go_at_call 61; (with_reducible refine (operations_calls _).mono ?_); rintro e W1 ⟨b1, rfl, ho, hb1⟩; have HO := Aside0.mk ho; have HB := Aside0.mk (HB0.out.trans (hb1.mono HB0.out.size)); have HC := Aside0.mk ((hb1.cell (p := ⟨w.heap.size, 0, none⟩) HL.out).trans HC0.out); have HP := Aside0.mk (Nat.lt_of_lt_of_le HL.out hb1.size); clear ho hb1) | (go_at_call 60; (with_reducible refine (HI.out _ _ HO.out HC.out HP.out).mono ?_); rintro e W2 ⟨rfl, hb2⟩; have HB2 := Aside0.mk (HB.out.trans (hb2.mono HB.out.size)); have hc2 := (hb2.cell (p := ⟨w.heap.size, 0, none⟩) HP.out).trans HC.out; clear hb2))
 go_ret2
 exact ⟨rfl, HB2.out⟩
theorem opI_cases (op : Int) : opI op = -1 ∨ (∃ i : Nat, opI op = (i : Int) ∧ i < 4 ∧ op = 16 + (i : Int)) := by
 unfold opI
 by_cases h0 : op = 16
 ·rw [if_pos h0]; exact .inr ⟨0, rfl, by omega, by omega⟩
 ·by_cases h1 : op = 17
  ·rw [if_neg h0, if_pos h1]; exact .inr ⟨1, rfl, by omega, by omega⟩
  ·by_cases h2 : op = 18
   ·rw [if_neg h0, if_neg h1, if_pos h2]; exact .inr ⟨2, rfl, by omega, by omega⟩
   ·by_cases h3 : op = 19
    ·rw [if_neg h0, if_neg h1, if_neg h2, if_pos h3]; exact .inr ⟨3, rfl, by omega, by omega⟩
    ·rw [if_neg h0, if_neg h1, if_neg h2, if_neg h3]; exact .inl rfl
theorem apply_formA {op : Int} {i : Nat} (h : opI op = (i : Int)) {a : Nat} (b : Nat) (ha : a < 4294967296) (hf : ¬ fin32 a = true) (w : World) :
 Calls Tryz.prog 13 #[.int .i64 op, .float .f32 a, .float .f32 b] w fun e w' => e = .returned (.tuple #[.float .f32 0, .int .i64 1]) ∧ Below w.heap.size w w' := by
 have HB0 := Aside0.mk (below_alloc (Below.refl w.heap.size w) (.cells #[.int .i64 op] 3))
 have HL : Aside0 (w.heap.size < (w.alloc (.cells #[.int .i64 op] 3)).heap.size) := ⟨by simp⟩
 have HC0 : Aside0 ((w.alloc (.cells #[.int .i64 op] 3)).cell? ⟨w.heap.size, 0, none⟩ = some (.int .i64 op)) := ⟨by simp⟩
 have HI : Aside0 (∀ W b, OpsAt W b → W.cell? ⟨w.heap.size, 0, none⟩ = some (.int .i64 op) → w.heap.size < W.heap.size → Calls Tryz.prog 60 #[.slice (some ⟨b, 0, none⟩) 4 4, .func (.func 62) #[] #[.pointer (some ⟨w.heap.size, 0, none⟩)]] W fun e w' => e = .returned (.int .i64 (opI op)) ∧ Below W.heap.size W w') := ⟨fun W b h1 h2 h3 => index_calls h1 h2 h3⟩
 rw [h] at HI
 obtain ⟨Y, D, hd⟩ := bad_conv ha hf
 have hcv := hd.run
 have HD := Aside0.mk hd.below
 have HFA := Aside0.mk hd.fin
 have hnn : decide ((i : Int) < 0) = false := decide_eq_false (by omega)
 clear h hd ha hf
 go_enter Tryz.func13, Tryz.ntmps13
 go_wp2_with (first | (go_at_call 61; (with_reducible refine (operations_calls _).mono ?_); rintro e W1 ⟨b1, rfl, ho, hb1⟩; have HO := Aside0.mk ho; have HB := Aside0.mk (HB0.out.trans (hb1.mono HB0.out.size)); have HC := Aside0.mk ((hb1.cell (p := ⟨w.heap.size, 0, none⟩) HL.out).trans HC0.out); have HP := Aside0.mk (Nat.lt_of_lt_of_le HL.out hb1.size); clear ho hb1) | (go_at_call 60; (with_reducible refine (HI.out _ _ HO.out HC.out HP.out).mono ?_); rintro e W2 ⟨rfl, hb2⟩; have HB2 := Aside0.mk (HB.out.trans (hb2.mono HB.out.size)); have hc2 := (hb2.cell (p := ⟨w.heap.size, 0, none⟩) HP.out).trans HC.out; clear hb2) | (go_at_call 63; (with_reducible refine (HFA.out _ _).mono ?_); rintro e W3 ⟨rfl, hwq⟩; rw [hwq]; clear hwq))
 go_ret2
 exact ⟨rfl, HB2.out.trans ((HD.out _).mono HB2.out.size)⟩
theorem apply_formB {op : Int} {i : Nat} (h : opI op = (i : Int)) {a b : Nat} (ha : a < 4294967296) (hf : fin32 a = true) (hb : b < 4294967296) (hg : ¬ fin32 b = true) (w : World) :
 Calls Tryz.prog 13 #[.int .i64 op, .float .f32 a, .float .f32 b] w fun e w' => e = .returned (.tuple #[.float .f32 0, .int .i64 1]) ∧ Below w.heap.size w w' := by
 have HB0 := Aside0.mk (below_alloc (Below.refl w.heap.size w) (.cells #[.int .i64 op] 3))
 have HL : Aside0 (w.heap.size < (w.alloc (.cells #[.int .i64 op] 3)).heap.size) := ⟨by simp⟩
 have HC0 : Aside0 ((w.alloc (.cells #[.int .i64 op] 3)).cell? ⟨w.heap.size, 0, none⟩ = some (.int .i64 op)) := ⟨by simp⟩
 have HI : Aside0 (∀ W b, OpsAt W b → W.cell? ⟨w.heap.size, 0, none⟩ = some (.int .i64 op) → w.heap.size < W.heap.size → Calls Tryz.prog 60 #[.slice (some ⟨b, 0, none⟩) 4 4, .func (.func 62) #[] #[.pointer (some ⟨w.heap.size, 0, none⟩)]] W fun e w' => e = .returned (.int .i64 (opI op)) ∧ Below W.heap.size W w') := ⟨fun W b h1 h2 h3 => index_calls h1 h2 h3⟩
 rw [h] at HI
 obtain ⟨Y, D, hd⟩ := bad_conv hb hg
 have hcv := hd.run
 have HD := Aside0.mk hd.below
 have HFA := Aside0.mk hd.fin
 obtain ⟨hcg, HFG, _⟩ := good_conv ha hf
 have hnn : decide ((i : Int) < 0) = false := decide_eq_false (by omega)
 have hne : a ≠ b := by rintro rfl; exact hg hf
 clear h hd ha hf hb hg
 generalize S64 (neg32 a) + w32 (a % 2147483648) = ya at *
 clear hne
 go_enter Tryz.func13, Tryz.ntmps13
 go_wp2_with (first | (go_at_call 61; (with_reducible refine (operations_calls _).mono ?_); rintro e W1 ⟨b1, rfl, ho, hb1⟩; have HO := Aside0.mk ho; have HB := Aside0.mk (HB0.out.trans (hb1.mono HB0.out.size)); have HC := Aside0.mk ((hb1.cell (p := ⟨w.heap.size, 0, none⟩) HL.out).trans HC0.out); have HP := Aside0.mk (Nat.lt_of_lt_of_le HL.out hb1.size); clear ho hb1) | (go_at_call 60; (with_reducible refine (HI.out _ _ HO.out HC.out HP.out).mono ?_); rintro e W2 ⟨rfl, hb2⟩; have HB2 := Aside0.mk (HB.out.trans (hb2.mono HB.out.size)); have hc2 := (hb2.cell (p := ⟨w.heap.size, 0, none⟩) HP.out).trans HC.out; clear hb2) | (go_at_call 63; (with_reducible refine (HFG.out _).mono ?_); rintro e W3 ⟨rfl, hwq⟩; rw [hwq]; clear hwq) | (go_at_call 63; (with_reducible refine (HFA.out _ _).mono ?_); rintro e W3 ⟨rfl, hwq⟩; rw [hwq]; clear hwq))
 go_ret2
 exact ⟨rfl, HB2.out.trans ((HD.out _).mono HB2.out.size)⟩
theorem ordz32 {b : Nat} (hb : b < 4294967296) (fb : fin32 b = true) : (FloatKind.f32.format.order b 0 == some .eq) = decide (b % 2147483648 = 0) := by
 rw [ord32_w hb (by decide) fb (by decide), show sw 0 = 0 by decide]
 unfold sw sr
 by_cases h : b % 2147483648 = 0
 ·rw [h, decide_eq_true rfl]; cases neg32 b <;> rfl
 ·rw [decide_eq_false h]
  cases neg32 b
  ·rw [cpi_gt (by simp; omega)]; rfl
  ·rw [cpi_lt (by simp; omega)]; rfl
theorem apply_div {a b : Nat} (ha : a < 4294967296) (hf : fin32 a = true) (hb : b < 4294967296) (hg : fin32 b = true) (hz : b % 2147483648 = 0) (w : World) :
 Calls Tryz.prog 13 #[.int .i64 19, .float .f32 a, .float .f32 b] w fun e w' => e = .returned (.tuple #[.float .f32 0, .int .i64 30]) ∧ Below w.heap.size w w' := by
 obtain ⟨op, hop⟩ : ∃ op : Int, op = 19 := ⟨_, rfl⟩
 rw [← hop]
 have HB0 := Aside0.mk (below_alloc (Below.refl w.heap.size w) (.cells #[.int .i64 op] 3))
 have HL : Aside0 (w.heap.size < (w.alloc (.cells #[.int .i64 op] 3)).heap.size) := ⟨by simp⟩
 have HC0 : Aside0 ((w.alloc (.cells #[.int .i64 op] 3)).cell? ⟨w.heap.size, 0, none⟩ = some (.int .i64 op)) := ⟨by simp⟩
 have HI : Aside0 (∀ W b, OpsAt W b → W.cell? ⟨w.heap.size, 0, none⟩ = some (.int .i64 op) → w.heap.size < W.heap.size → Calls Tryz.prog 60 #[.slice (some ⟨b, 0, none⟩) 4 4, .func (.func 62) #[] #[.pointer (some ⟨w.heap.size, 0, none⟩)]] W fun e w' => e = .returned (.int .i64 (opI op)) ∧ Below W.heap.size W w') := ⟨fun W b h1 h2 h3 => index_calls h1 h2 h3⟩
 have hi : opI op = 3 := by rw [hop]; rfl
 rw [hi] at HI
 obtain ⟨hcg, HFG, _⟩ := good_conv ha hf
 obtain ⟨hch, HFH, _⟩ := good_conv hb hg
 have ho := ordz32 hb hg
 rw [decide_eq_true hz] at ho
 clear ha hf hb hg hz hi
 generalize S64 (neg32 a) + w32 (a % 2147483648) = ya at *
 generalize S64 (neg32 b) + w32 (b % 2147483648) = yb at *
 subst hop
 go_enter Tryz.func13, Tryz.ntmps13
 go_wp2_with (first | (go_at_call 61; (with_reducible refine (operations_calls _).mono ?_); rintro e W1 ⟨b1, rfl, ho, hb1⟩; have HO := Aside0.mk ho; have HB := Aside0.mk (HB0.out.trans (hb1.mono HB0.out.size)); have HC := Aside0.mk ((hb1.cell (p := ⟨w.heap.size, 0, none⟩) HL.out).trans HC0.out); have HP := Aside0.mk (Nat.lt_of_lt_of_le HL.out hb1.size); clear ho hb1) | (go_at_call 60; (with_reducible refine (HI.out _ _ HO.out HC.out HP.out).mono ?_); rintro e W2 ⟨rfl, hb2⟩; have HB2 := Aside0.mk (HB.out.trans (hb2.mono HB.out.size)); have hc2 := (hb2.cell (p := ⟨w.heap.size, 0, none⟩) HP.out).trans HC.out; clear hb2) | (go_at_call 63; (with_reducible refine (HFG.out _).mono ?_); rintro e W3 ⟨rfl, hwq⟩; rw [hwq]; clear hwq) | (go_at_call 63; (with_reducible refine (HFH.out _).mono ?_); rintro e W3 ⟨rfl, hwq⟩; rw [hwq]; clear hwq))
 go_ret2
 exact ⟨rfl, HB2.out⟩
theorem plN_szk {s z : Bool} {a b k : Nat} (j : Nat) (ha : Sz k a) (hb : Sz k b) (h : k + 1 ≤ j) : Sz j (plN s a z b) := (plN_sz ha hb).more h
theorem apply_add {a b : Nat} (ha : a < 4294967296) (hf : fin32 a = true) (hb : b < 4294967296) (hg : fin32 b = true) (w : World) :
 Calls Tryz.prog 13 #[.int .i64 16, .float .f32 a, .float .f32 b] w fun e w' => NrO w (plS (fvS a) (fvP a * fvQ b) (fvS b) (fvP b * fvQ a)) (plN (fvS a) (fvP a * fvQ b) (fvS b) (fvP b * fvQ a)) (fvQ a * fvQ b) e w' := by
 obtain ⟨op, hop⟩ : ∃ op : Int, op = 16 := ⟨_, rfl⟩
 rw [← hop]
 have HB0 := Aside0.mk (below_alloc (Below.refl w.heap.size w) (.cells #[.int .i64 op] 3))
 have HL : Aside0 (w.heap.size < (w.alloc (.cells #[.int .i64 op] 3)).heap.size) := ⟨by simp⟩
 have HC0 : Aside0 ((w.alloc (.cells #[.int .i64 op] 3)).cell? ⟨w.heap.size, 0, none⟩ = some (.int .i64 op)) := ⟨by simp⟩
 have HI : Aside0 (∀ W b, OpsAt W b → W.cell? ⟨w.heap.size, 0, none⟩ = some (.int .i64 op) → w.heap.size < W.heap.size → Calls Tryz.prog 60 #[.slice (some ⟨b, 0, none⟩) 4 4, .func (.func 62) #[] #[.pointer (some ⟨w.heap.size, 0, none⟩)]] W fun e w' => e = .returned (.int .i64 (opI op)) ∧ Below W.heap.size W w') := ⟨fun W b h1 h2 h3 => index_calls h1 h2 h3⟩
 have hi : opI op = 0 := by rw [hop]; rfl
 rw [hi] at HI
 obtain ⟨hcg, HFG, HXA⟩ := good_conv ha hf
 obtain ⟨hch, HFH, HXB⟩ := good_conv hb hg
 skip
 obtain ⟨x1, x2, x3⟩ := fv_sz hf
 obtain ⟨z1, z2, z3⟩ := fv_sz hg
 have m1 : Sz 6000 (fvP a * fvQ b) := x1.mul z2
 have m2 : Sz 6000 (fvP b * fvQ a) := z1.mul x2
 have m3 : Sz 6000 (fvQ a * fvQ b) := x2.mul z2
 have m4 : Sz 6000 (fvP a * fvP b) := x1.mul z1
 have m5 : Sz 6000 (fvQ a * fvP b) := x2.mul z1
 have p1 : Sz 90000 (plN (fvS a) (fvP a * fvQ b) (fvS b) (fvP b * fvQ a)) := plN_szk _ m1 m2 (by omega)
 have p2 : Sz 90000 (fvQ a * fvQ b) := Sz.more m3 (by omega)
 have p3 : 0 < (fvQ a * fvQ b) := Nat.mul_pos x3 z3
 have HDO : Aside0 (∀ W A1 L1 c1 A2 L2 c2 A3 L3 c3 A4 L4 c4, N2 W A1 L1 c1 (fvP a) A2 L2 c2 (fvQ a) → N2 W A3 L3 c3 (fvP b) A4 L4 c4 (fvQ b) → Calls Tryz.prog 118 #[qV (fvS a) A1 L1 c1 A2 L2 c2, qV (fvS b) A3 L3 c3 A4 L4 c4] W fun e w' => QX W (plS (fvS a) (fvP a * fvQ b) (fvS b) (fvP b * fvQ a)) (plN (fvS a) (fvP a * fvQ b) (fvS b) (fvP b * fvQ a)) (fvQ a * fvQ b) e w') :=
  ⟨fun W A1 L1 c1 A2 L2 c2 A3 L3 c3 A4 L4 c4 h1 h2 => qPlus_calls h1 h2 (x1.more (by omega)) (x2.more (by omega)) (z1.more (by omega)) (z2.more (by omega))⟩
 have HNR : Aside0 (∀ W A1 L1 c1 A2 L2 c2, N2 W A1 L1 c1 (plN (fvS a) (fvP a * fvQ b) (fvS b) (fvP b * fvQ a)) A2 L2 c2 (fvQ a * fvQ b) → Calls Tryz.prog 65 #[qV (plS (fvS a) (fvP a * fvQ b) (fvS b) (fvP b * fvQ a)) A1 L1 c1 A2 L2 c2] W fun e w' => NrO W (plS (fvS a) (fvP a * fvQ b) (fvS b) (fvP b * fvQ a)) (plN (fvS a) (fvP a * fvQ b) (fvS b) (fvP b * fvQ a)) (fvQ a * fvQ b) e w') := ⟨fun W A1 L1 c1 A2 L2 c2 hn => nearest_calls hn p1 p2 p3⟩
 clear ha hf hb hg hi m1 m2 m3 m4 m5 p1 p2 p3 x1 x2 x3 z1 z2 z3
 unfold QX NrO at *
 generalize nrW (plS (fvS a) (fvP a * fvQ b) (fvS b) (fvP b * fvQ a)) (plN (fvS a) (fvP a * fvQ b) (fvS b) (fvP b * fvQ a)) (fvQ a * fvQ b) = R at *
 generalize nrE (plS (fvS a) (fvP a * fvQ b) (fvS b) (fvP b * fvQ a)) (plN (fvS a) (fvP a * fvQ b) (fvS b) (fvP b * fvQ a)) (fvQ a * fvQ b) = T at *
 generalize (plN (fvS a) (fvP a * fvQ b) (fvS b) (fvP b * fvQ a)) = P at *
 generalize (fvQ a * fvQ b) = Q at *
 generalize (plS (fvS a) (fvP a * fvQ b) (fvS b) (fvP b * fvQ a)) = sg at *
 generalize fvS a = sa at *
 generalize fvS b = sb at *
 generalize fvP a = pa at *
 generalize fvP b = pb at *
 generalize fvQ a = qa at *
 generalize fvQ b = qb at *
 generalize S64 (neg32 a) + w32 (a % 2147483648) = ya at *
 generalize S64 (neg32 b) + w32 (b % 2147483648) = yb at *
 subst hop
 go_enter Tryz.func13, Tryz.ntmps13
 go_upto_region 8 with (first | (go_at_call 61; (with_reducible refine (operations_calls _).mono ?_); rintro e W1 ⟨b1, rfl, ho, hb1⟩; have HO := Aside0.mk ho; have HB := Aside0.mk (HB0.out.trans (hb1.mono HB0.out.size)); have HC := Aside0.mk ((hb1.cell (p := ⟨w.heap.size, 0, none⟩) HL.out).trans HC0.out); have HP := Aside0.mk (Nat.lt_of_lt_of_le HL.out hb1.size); clear ho hb1) | (go_at_call 60; (with_reducible refine (HI.out _ _ HO.out HC.out HP.out).mono ?_); rintro e W2 ⟨rfl, hb2⟩; have HB2 := Aside0.mk (HB.out.trans (hb2.mono HB.out.size)); have hc2 := (hb2.cell (p := ⟨w.heap.size, 0, none⟩) HP.out).trans HC.out; clear hb2) | (go_at_call 63; (with_reducible refine (HFG.out _).mono ?_); rintro e W3 ⟨rfl, hwq⟩; rw [hwq]; clear hwq) | (go_at_call 63; (with_reducible refine (HFH.out _).mono ?_); rintro e W3 ⟨rfl, hwq⟩; rw [hwq]; clear hwq))
 clear HO HB HC HP HI HC0 HL HB0 hc2
 rename_i Q' K hK
 refine wp_region_held_drew (S := (fun _ => True)) (by kernel_rfl) ?_ (fun hHeld => ?_)
 ·trivial
 (obtain ⟨Z, hZ⟩ : ∃ Z, W2.drew = Z := ⟨_, rfl⟩; have HBZ : Aside0 (Below w.heap.size w Z) := (by subst hZ; exact ⟨HB2.out.drew⟩); rw [hZ]; clear hZ)
 refine tp 1 ?_
 try simp only [PU]
 refine tp 5 ?_
 try simp only [PU]
 refine tp 6 ?_
 try simp only [PU]
 refine tp 8 ?_
 try simp only [PU]
 refine tp 9 ?_
 try simp only [PU]
 refine tc 0 fun K hK => ?_
 go_simp
 (go_at_call 61; (with_reducible refine (operations_calls _).mono ?_); rintro e W4 ⟨b4, rfl, ho, hbq⟩; have HO := Aside0.mk ho; have HBC := Aside0.mk (HBZ.out.trans (hbq.mono HBZ.out.size)); clear ho; have q4 := HO.out.cell 1)
 refine hK.out _ _ ?_ fun hHeld => ?_
 ·trivial
 clear hK K; try simp only [PU]
 refine tp 2 ?_
 try simp only [PU]
 refine tp 3 ?_
 try simp only [PU]
 refine wpAnyH_ready (rs := [4, 7]) (by kernel_rfl) (by simp) ?_
 refine AllReadyH.cons rfl (fun K hK => ?_) (AllReadyH.cons rfl (fun K hK => ?_) (AllReadyH.nil))
 ·go_simp
  refine hK.out _ _ ?_ fun hHeld => ?_
  ·trivial
  clear hK K; try simp only [PU]
  refine tc 7 fun K hK => ?_
  go_simp
  (go_at_call 64; (with_reducible refine (HXA.out _).mono ?_); rintro e W5 ⟨A1, k1, c1, A2, k2, c2, rfl, hn, hbq⟩; have HNA := Aside0.mk hn; clear hn; have HO2 := Aside0.mk (HO.out.below hbq); clear HO; have HO := HO2; clear HO2; have HBC2 := Aside0.mk (HBC.out.trans (hbq.mono HBC.out.size)); clear HBC; have HBC := HBC2; clear HBC2; have q5 := HO.out.cell 1)
  refine hK.out _ _ ?_ fun hHeld => ?_
  ·trivial
  clear hK K; try simp only [PU]
  refine tc 10 fun K hK => ?_
  go_simp
  (go_at_call 64; (with_reducible refine (HXB.out _).mono ?_); rintro e W6 ⟨A3, k3, c3, A4, k4, c4, rfl, hn, hbq⟩; have HNB := Aside0.mk hn; clear hn; have HNA2 := Aside0.mk (HNA.out.below hbq); have HO2 := Aside0.mk (HO.out.below hbq); clear HO; have HO := HO2; clear HO2; have HBC2 := Aside0.mk (HBC.out.trans (hbq.mono HBC.out.size)); clear HBC; have HBC := HBC2; clear HBC2; have q6 := HO.out.cell 1)
  refine hK.out _ _ ?_ fun hHeld => ?_
  ·trivial
  clear hK K; try simp only [PU]
  refine tc 11 fun K hK => ?_
  go_simp
  (go_at_call 118; (with_reducible refine (HDO.out _ _ _ _ _ _ _ _ _ _ _ _ _ HNA2.out HNB.out).mono ?_); rintro e W7 ⟨A5, k5, c5, A6, k6, c6, rfl, hn, hbq⟩; have HNC := Aside0.mk hn; clear hn; have HO2 := Aside0.mk (HO.out.below hbq); clear HO; have HO := HO2; clear HO2; have HBC2 := Aside0.mk (HBC.out.trans (hbq.mono HBC.out.size)); clear HBC; have HBC := HBC2; clear HBC2)
  refine hK.out _ _ ?_ fun hHeld => ?_
  ·trivial
  clear hK K; try simp only [PU]
  refine tc 12 fun K hK => ?_
  go_simp
  (go_at_call 65; (with_reducible refine (HNR.out _ _ _ _ _ _ _ HNC.out).mono ?_); rintro e W8 ⟨rfl, hbq⟩; have HO2 := Aside0.mk (HO.out.below hbq); clear HO; have HO := HO2; clear HO2; have HBC2 := Aside0.mk (HBC.out.trans (hbq.mono HBC.out.size)); clear HBC; have HBC := HBC2; clear HBC2)
  refine hK.out _ _ ?_ fun hHeld => ?_
  ·trivial
  clear hK K; try simp only [PU]
  refine tp 13 ?_
  try simp only [PU]
  refine tp 14 ?_
  try simp only [PU]
  refine tp 15 ?_
  try simp only [PU]
  refine tp 16 ?_
  try simp only [PU]
  refine wpAnyH_done (by kernel_rfl) ?_ _
  refine hK _ _ ?_
  clear hK
  go_wp2
  go_ret2
  exact ⟨rfl, HBC.out⟩
 ·go_simp
  (go_at_call 64; (with_reducible refine (HXA.out _).mono ?_); rintro e W5 ⟨A1, k1, c1, A2, k2, c2, rfl, hn, hbq⟩; have HNA := Aside0.mk hn; clear hn; have HO2 := Aside0.mk (HO.out.below hbq); clear HO; have HO := HO2; clear HO2; have HBC2 := Aside0.mk (HBC.out.trans (hbq.mono HBC.out.size)); clear HBC; have HBC := HBC2; clear HBC2; have q5 := HO.out.cell 1)
  refine hK.out _ _ ?_ fun hHeld => ?_
  ·trivial
  clear hK K; try simp only [PU]
  refine wpAnyH_ready (rs := [4, 10]) (by kernel_rfl) (by simp) ?_
  refine AllReadyH.cons rfl (fun K hK => ?_) (AllReadyH.cons rfl (fun K hK => ?_) (AllReadyH.nil))
  ·go_simp
   refine hK.out _ _ ?_ fun hHeld => ?_
   ·trivial
   clear hK K; try simp only [PU]
   refine tc 10 fun K hK => ?_
   go_simp
   (go_at_call 64; (with_reducible refine (HXB.out _).mono ?_); rintro e W6 ⟨A3, k3, c3, A4, k4, c4, rfl, hn, hbq⟩; have HNB := Aside0.mk hn; clear hn; have HNA2 := Aside0.mk (HNA.out.below hbq); have HO2 := Aside0.mk (HO.out.below hbq); clear HO; have HO := HO2; clear HO2; have HBC2 := Aside0.mk (HBC.out.trans (hbq.mono HBC.out.size)); clear HBC; have HBC := HBC2; clear HBC2; have q6 := HO.out.cell 1)
   refine hK.out _ _ ?_ fun hHeld => ?_
   ·trivial
   clear hK K; try simp only [PU]
   refine tc 11 fun K hK => ?_
   go_simp
   (go_at_call 118; (with_reducible refine (HDO.out _ _ _ _ _ _ _ _ _ _ _ _ _ HNA2.out HNB.out).mono ?_); rintro e W7 ⟨A5, k5, c5, A6, k6, c6, rfl, hn, hbq⟩; have HNC := Aside0.mk hn; clear hn; have HO2 := Aside0.mk (HO.out.below hbq); clear HO; have HO := HO2; clear HO2; have HBC2 := Aside0.mk (HBC.out.trans (hbq.mono HBC.out.size)); clear HBC; have HBC := HBC2; clear HBC2)
   refine hK.out _ _ ?_ fun hHeld => ?_
   ·trivial
   clear hK K; try simp only [PU]
   refine tc 12 fun K hK => ?_
   go_simp
   (go_at_call 65; (with_reducible refine (HNR.out _ _ _ _ _ _ _ HNC.out).mono ?_); rintro e W8 ⟨rfl, hbq⟩; have HO2 := Aside0.mk (HO.out.below hbq); clear HO; have HO := HO2; clear HO2; have HBC2 := Aside0.mk (HBC.out.trans (hbq.mono HBC.out.size)); clear HBC; have HBC := HBC2; clear HBC2)
   refine hK.out _ _ ?_ fun hHeld => ?_
   ·trivial
   clear hK K; try simp only [PU]
   refine tp 13 ?_
   try simp only [PU]
   refine tp 14 ?_
   try simp only [PU]
   refine tp 15 ?_
   try simp only [PU]
   refine tp 16 ?_
   try simp only [PU]
   refine wpAnyH_done (by kernel_rfl) ?_ _
   refine hK _ _ ?_
   clear hK
   go_wp2
   go_ret2
   exact ⟨rfl, HBC.out⟩
  ·go_simp
   (go_at_call 64; (with_reducible refine (HXB.out _).mono ?_); rintro e W6 ⟨A3, k3, c3, A4, k4, c4, rfl, hn, hbq⟩; have HNB := Aside0.mk hn; clear hn; have HNA2 := Aside0.mk (HNA.out.below hbq); have HO2 := Aside0.mk (HO.out.below hbq); clear HO; have HO := HO2; clear HO2; have HBC2 := Aside0.mk (HBC.out.trans (hbq.mono HBC.out.size)); clear HBC; have HBC := HBC2; clear HBC2; have q6 := HO.out.cell 1)
   refine hK.out _ _ ?_ fun hHeld => ?_
   ·trivial
   clear hK K; try simp only [PU]
   refine tc 4 fun K hK => ?_
   go_simp
   refine hK.out _ _ ?_ fun hHeld => ?_
   ·trivial
   clear hK K; try simp only [PU]
   refine tc 11 fun K hK => ?_
   go_simp
   (go_at_call 118; (with_reducible refine (HDO.out _ _ _ _ _ _ _ _ _ _ _ _ _ HNA2.out HNB.out).mono ?_); rintro e W7 ⟨A5, k5, c5, A6, k6, c6, rfl, hn, hbq⟩; have HNC := Aside0.mk hn; clear hn; have HO2 := Aside0.mk (HO.out.below hbq); clear HO; have HO := HO2; clear HO2; have HBC2 := Aside0.mk (HBC.out.trans (hbq.mono HBC.out.size)); clear HBC; have HBC := HBC2; clear HBC2)
   refine hK.out _ _ ?_ fun hHeld => ?_
   ·trivial
   clear hK K; try simp only [PU]
   refine tc 12 fun K hK => ?_
   go_simp
   (go_at_call 65; (with_reducible refine (HNR.out _ _ _ _ _ _ _ HNC.out).mono ?_); rintro e W8 ⟨rfl, hbq⟩; have HO2 := Aside0.mk (HO.out.below hbq); clear HO; have HO := HO2; clear HO2; have HBC2 := Aside0.mk (HBC.out.trans (hbq.mono HBC.out.size)); clear HBC; have HBC := HBC2; clear HBC2)
   refine hK.out _ _ ?_ fun hHeld => ?_
   ·trivial
   clear hK K; try simp only [PU]
   refine tp 13 ?_
   try simp only [PU]
   refine tp 14 ?_
   try simp only [PU]
   refine tp 15 ?_
   try simp only [PU]
   refine tp 16 ?_
   try simp only [PU]
   refine wpAnyH_done (by kernel_rfl) ?_ _
   refine hK _ _ ?_
   clear hK
   go_wp2
   go_ret2
   exact ⟨rfl, HBC.out⟩
theorem apply_sub {a b : Nat} (ha : a < 4294967296) (hf : fin32 a = true) (hb : b < 4294967296) (hg : fin32 b = true) (w : World) :
 Calls Tryz.prog 13 #[.int .i64 17, .float .f32 a, .float .f32 b] w fun e w' => NrO w (plS (fvS a) (fvP a * fvQ b) (!(fvS b)) (fvP b * fvQ a)) (plN (fvS a) (fvP a * fvQ b) (!(fvS b)) (fvP b * fvQ a)) (fvQ a * fvQ b) e w' := by
 obtain ⟨op, hop⟩ : ∃ op : Int, op = 17 := ⟨_, rfl⟩
 rw [← hop]
 have HB0 := Aside0.mk (below_alloc (Below.refl w.heap.size w) (.cells #[.int .i64 op] 3))
 have HL : Aside0 (w.heap.size < (w.alloc (.cells #[.int .i64 op] 3)).heap.size) := ⟨by simp⟩
 have HC0 : Aside0 ((w.alloc (.cells #[.int .i64 op] 3)).cell? ⟨w.heap.size, 0, none⟩ = some (.int .i64 op)) := ⟨by simp⟩
 have HI : Aside0 (∀ W b, OpsAt W b → W.cell? ⟨w.heap.size, 0, none⟩ = some (.int .i64 op) → w.heap.size < W.heap.size → Calls Tryz.prog 60 #[.slice (some ⟨b, 0, none⟩) 4 4, .func (.func 62) #[] #[.pointer (some ⟨w.heap.size, 0, none⟩)]] W fun e w' => e = .returned (.int .i64 (opI op)) ∧ Below W.heap.size W w') := ⟨fun W b h1 h2 h3 => index_calls h1 h2 h3⟩
 have hi : opI op = 1 := by rw [hop]; rfl
 rw [hi] at HI
 obtain ⟨hcg, HFG, HXA⟩ := good_conv ha hf
 obtain ⟨hch, HFH, HXB⟩ := good_conv hb hg
 skip
 obtain ⟨x1, x2, x3⟩ := fv_sz hf
 obtain ⟨z1, z2, z3⟩ := fv_sz hg
 have m1 : Sz 6000 (fvP a * fvQ b) := x1.mul z2
 have m2 : Sz 6000 (fvP b * fvQ a) := z1.mul x2
 have m3 : Sz 6000 (fvQ a * fvQ b) := x2.mul z2
 have m4 : Sz 6000 (fvP a * fvP b) := x1.mul z1
 have m5 : Sz 6000 (fvQ a * fvP b) := x2.mul z1
 have p1 : Sz 90000 (plN (fvS a) (fvP a * fvQ b) (!(fvS b)) (fvP b * fvQ a)) := plN_szk _ m1 m2 (by omega)
 have p2 : Sz 90000 (fvQ a * fvQ b) := Sz.more m3 (by omega)
 have p3 : 0 < (fvQ a * fvQ b) := Nat.mul_pos x3 z3
 have HDO : Aside0 (∀ W A1 L1 c1 A2 L2 c2 A3 L3 c3 A4 L4 c4, N2 W A1 L1 c1 (fvP a) A2 L2 c2 (fvQ a) → N2 W A3 L3 c3 (fvP b) A4 L4 c4 (fvQ b) → Calls Tryz.prog 80 #[qV (fvS a) A1 L1 c1 A2 L2 c2, qV (fvS b) A3 L3 c3 A4 L4 c4] W fun e w' => QX W (plS (fvS a) (fvP a * fvQ b) (!(fvS b)) (fvP b * fvQ a)) (plN (fvS a) (fvP a * fvQ b) (!(fvS b)) (fvP b * fvQ a)) (fvQ a * fvQ b) e w') :=
  ⟨fun W A1 L1 c1 A2 L2 c2 A3 L3 c3 A4 L4 c4 h1 h2 => qMinus_calls h1 h2 (x1.more (by omega)) (x2.more (by omega)) (z1.more (by omega)) (z2.more (by omega))⟩
 have HNR : Aside0 (∀ W A1 L1 c1 A2 L2 c2, N2 W A1 L1 c1 (plN (fvS a) (fvP a * fvQ b) (!(fvS b)) (fvP b * fvQ a)) A2 L2 c2 (fvQ a * fvQ b) → Calls Tryz.prog 65 #[qV (plS (fvS a) (fvP a * fvQ b) (!(fvS b)) (fvP b * fvQ a)) A1 L1 c1 A2 L2 c2] W fun e w' => NrO W (plS (fvS a) (fvP a * fvQ b) (!(fvS b)) (fvP b * fvQ a)) (plN (fvS a) (fvP a * fvQ b) (!(fvS b)) (fvP b * fvQ a)) (fvQ a * fvQ b) e w') := ⟨fun W A1 L1 c1 A2 L2 c2 hn => nearest_calls hn p1 p2 p3⟩
 clear ha hf hb hg hi m1 m2 m3 m4 m5 p1 p2 p3 x1 x2 x3 z1 z2 z3
 unfold QX NrO at *
 generalize nrW (plS (fvS a) (fvP a * fvQ b) (!(fvS b)) (fvP b * fvQ a)) (plN (fvS a) (fvP a * fvQ b) (!(fvS b)) (fvP b * fvQ a)) (fvQ a * fvQ b) = R at *
 generalize nrE (plS (fvS a) (fvP a * fvQ b) (!(fvS b)) (fvP b * fvQ a)) (plN (fvS a) (fvP a * fvQ b) (!(fvS b)) (fvP b * fvQ a)) (fvQ a * fvQ b) = T at *
 generalize (plN (fvS a) (fvP a * fvQ b) (!(fvS b)) (fvP b * fvQ a)) = P at *
 generalize (fvQ a * fvQ b) = Q at *
 generalize (plS (fvS a) (fvP a * fvQ b) (!(fvS b)) (fvP b * fvQ a)) = sg at *
 generalize fvS a = sa at *
 generalize fvS b = sb at *
 generalize fvP a = pa at *
 generalize fvP b = pb at *
 generalize fvQ a = qa at *
 generalize fvQ b = qb at *
 generalize S64 (neg32 a) + w32 (a % 2147483648) = ya at *
 generalize S64 (neg32 b) + w32 (b % 2147483648) = yb at *
 subst hop
 go_enter Tryz.func13, Tryz.ntmps13
 go_upto_region 8 with (first | (go_at_call 61; (with_reducible refine (operations_calls _).mono ?_); rintro e W1 ⟨b1, rfl, ho, hb1⟩; have HO := Aside0.mk ho; have HB := Aside0.mk (HB0.out.trans (hb1.mono HB0.out.size)); have HC := Aside0.mk ((hb1.cell (p := ⟨w.heap.size, 0, none⟩) HL.out).trans HC0.out); have HP := Aside0.mk (Nat.lt_of_lt_of_le HL.out hb1.size); clear ho hb1) | (go_at_call 60; (with_reducible refine (HI.out _ _ HO.out HC.out HP.out).mono ?_); rintro e W2 ⟨rfl, hb2⟩; have HB2 := Aside0.mk (HB.out.trans (hb2.mono HB.out.size)); have hc2 := (hb2.cell (p := ⟨w.heap.size, 0, none⟩) HP.out).trans HC.out; clear hb2) | (go_at_call 63; (with_reducible refine (HFG.out _).mono ?_); rintro e W3 ⟨rfl, hwq⟩; rw [hwq]; clear hwq) | (go_at_call 63; (with_reducible refine (HFH.out _).mono ?_); rintro e W3 ⟨rfl, hwq⟩; rw [hwq]; clear hwq))
 clear HO HB HC HP HI HC0 HL HB0 hc2
 rename_i Q' K hK
 refine wp_region_held_drew (S := (fun _ => True)) (by kernel_rfl) ?_ (fun hHeld => ?_)
 ·trivial
 (obtain ⟨Z, hZ⟩ : ∃ Z, W2.drew = Z := ⟨_, rfl⟩; have HBZ : Aside0 (Below w.heap.size w Z) := (by subst hZ; exact ⟨HB2.out.drew⟩); rw [hZ]; clear hZ)
 refine tp 1 ?_
 try simp only [PU]
 refine tp 5 ?_
 try simp only [PU]
 refine tp 6 ?_
 try simp only [PU]
 refine tp 8 ?_
 try simp only [PU]
 refine tp 9 ?_
 try simp only [PU]
 refine tc 0 fun K hK => ?_
 go_simp
 (go_at_call 61; (with_reducible refine (operations_calls _).mono ?_); rintro e W4 ⟨b4, rfl, ho, hbq⟩; have HO := Aside0.mk ho; have HBC := Aside0.mk (HBZ.out.trans (hbq.mono HBZ.out.size)); clear ho; have q4 := HO.out.cell 3)
 refine hK.out _ _ ?_ fun hHeld => ?_
 ·trivial
 clear hK K; try simp only [PU]
 refine tp 2 ?_
 try simp only [PU]
 refine tp 3 ?_
 try simp only [PU]
 refine wpAnyH_ready (rs := [4, 7]) (by kernel_rfl) (by simp) ?_
 refine AllReadyH.cons rfl (fun K hK => ?_) (AllReadyH.cons rfl (fun K hK => ?_) (AllReadyH.nil))
 ·go_simp
  refine hK.out _ _ ?_ fun hHeld => ?_
  ·trivial
  clear hK K; try simp only [PU]
  refine tc 7 fun K hK => ?_
  go_simp
  (go_at_call 64; (with_reducible refine (HXA.out _).mono ?_); rintro e W5 ⟨A1, k1, c1, A2, k2, c2, rfl, hn, hbq⟩; have HNA := Aside0.mk hn; clear hn; have HO2 := Aside0.mk (HO.out.below hbq); clear HO; have HO := HO2; clear HO2; have HBC2 := Aside0.mk (HBC.out.trans (hbq.mono HBC.out.size)); clear HBC; have HBC := HBC2; clear HBC2; have q5 := HO.out.cell 3)
  refine hK.out _ _ ?_ fun hHeld => ?_
  ·trivial
  clear hK K; try simp only [PU]
  refine tc 10 fun K hK => ?_
  go_simp
  (go_at_call 64; (with_reducible refine (HXB.out _).mono ?_); rintro e W6 ⟨A3, k3, c3, A4, k4, c4, rfl, hn, hbq⟩; have HNB := Aside0.mk hn; clear hn; have HNA2 := Aside0.mk (HNA.out.below hbq); have HO2 := Aside0.mk (HO.out.below hbq); clear HO; have HO := HO2; clear HO2; have HBC2 := Aside0.mk (HBC.out.trans (hbq.mono HBC.out.size)); clear HBC; have HBC := HBC2; clear HBC2; have q6 := HO.out.cell 3)
  refine hK.out _ _ ?_ fun hHeld => ?_
  ·trivial
  clear hK K; try simp only [PU]
  refine tc 11 fun K hK => ?_
  go_simp
  (go_at_call 80; (with_reducible refine (HDO.out _ _ _ _ _ _ _ _ _ _ _ _ _ HNA2.out HNB.out).mono ?_); rintro e W7 ⟨A5, k5, c5, A6, k6, c6, rfl, hn, hbq⟩; have HNC := Aside0.mk hn; clear hn; have HO2 := Aside0.mk (HO.out.below hbq); clear HO; have HO := HO2; clear HO2; have HBC2 := Aside0.mk (HBC.out.trans (hbq.mono HBC.out.size)); clear HBC; have HBC := HBC2; clear HBC2)
  refine hK.out _ _ ?_ fun hHeld => ?_
  ·trivial
  clear hK K; try simp only [PU]
  refine tc 12 fun K hK => ?_
  go_simp
  (go_at_call 65; (with_reducible refine (HNR.out _ _ _ _ _ _ _ HNC.out).mono ?_); rintro e W8 ⟨rfl, hbq⟩; have HO2 := Aside0.mk (HO.out.below hbq); clear HO; have HO := HO2; clear HO2; have HBC2 := Aside0.mk (HBC.out.trans (hbq.mono HBC.out.size)); clear HBC; have HBC := HBC2; clear HBC2)
  refine hK.out _ _ ?_ fun hHeld => ?_
  ·trivial
  clear hK K; try simp only [PU]
  refine tp 13 ?_
  try simp only [PU]
  refine tp 14 ?_
  try simp only [PU]
  refine tp 15 ?_
  try simp only [PU]
  refine tp 16 ?_
  try simp only [PU]
  refine wpAnyH_done (by kernel_rfl) ?_ _
  refine hK _ _ ?_
  clear hK
  go_wp2
  go_ret2
  exact ⟨rfl, HBC.out⟩
 ·go_simp
  (go_at_call 64; (with_reducible refine (HXA.out _).mono ?_); rintro e W5 ⟨A1, k1, c1, A2, k2, c2, rfl, hn, hbq⟩; have HNA := Aside0.mk hn; clear hn; have HO2 := Aside0.mk (HO.out.below hbq); clear HO; have HO := HO2; clear HO2; have HBC2 := Aside0.mk (HBC.out.trans (hbq.mono HBC.out.size)); clear HBC; have HBC := HBC2; clear HBC2; have q5 := HO.out.cell 3)
  refine hK.out _ _ ?_ fun hHeld => ?_
  ·trivial
  clear hK K; try simp only [PU]
  refine wpAnyH_ready (rs := [4, 10]) (by kernel_rfl) (by simp) ?_
  refine AllReadyH.cons rfl (fun K hK => ?_) (AllReadyH.cons rfl (fun K hK => ?_) (AllReadyH.nil))
  ·go_simp
   refine hK.out _ _ ?_ fun hHeld => ?_
   ·trivial
   clear hK K; try simp only [PU]
   refine tc 10 fun K hK => ?_
   go_simp
   (go_at_call 64; (with_reducible refine (HXB.out _).mono ?_); rintro e W6 ⟨A3, k3, c3, A4, k4, c4, rfl, hn, hbq⟩; have HNB := Aside0.mk hn; clear hn; have HNA2 := Aside0.mk (HNA.out.below hbq); have HO2 := Aside0.mk (HO.out.below hbq); clear HO; have HO := HO2; clear HO2; have HBC2 := Aside0.mk (HBC.out.trans (hbq.mono HBC.out.size)); clear HBC; have HBC := HBC2; clear HBC2; have q6 := HO.out.cell 3)
   refine hK.out _ _ ?_ fun hHeld => ?_
   ·trivial
   clear hK K; try simp only [PU]
   refine tc 11 fun K hK => ?_
   go_simp
   (go_at_call 80; (with_reducible refine (HDO.out _ _ _ _ _ _ _ _ _ _ _ _ _ HNA2.out HNB.out).mono ?_); rintro e W7 ⟨A5, k5, c5, A6, k6, c6, rfl, hn, hbq⟩; have HNC := Aside0.mk hn; clear hn; have HO2 := Aside0.mk (HO.out.below hbq); clear HO; have HO := HO2; clear HO2; have HBC2 := Aside0.mk (HBC.out.trans (hbq.mono HBC.out.size)); clear HBC; have HBC := HBC2; clear HBC2)
   refine hK.out _ _ ?_ fun hHeld => ?_
   ·trivial
   clear hK K; try simp only [PU]
   refine tc 12 fun K hK => ?_
   go_simp
   (go_at_call 65; (with_reducible refine (HNR.out _ _ _ _ _ _ _ HNC.out).mono ?_); rintro e W8 ⟨rfl, hbq⟩; have HO2 := Aside0.mk (HO.out.below hbq); clear HO; have HO := HO2; clear HO2; have HBC2 := Aside0.mk (HBC.out.trans (hbq.mono HBC.out.size)); clear HBC; have HBC := HBC2; clear HBC2)
   refine hK.out _ _ ?_ fun hHeld => ?_
   ·trivial
   clear hK K; try simp only [PU]
   refine tp 13 ?_
   try simp only [PU]
   refine tp 14 ?_
   try simp only [PU]
   refine tp 15 ?_
   try simp only [PU]
   refine tp 16 ?_
   try simp only [PU]
   refine wpAnyH_done (by kernel_rfl) ?_ _
   refine hK _ _ ?_
   clear hK
   go_wp2
   go_ret2
   exact ⟨rfl, HBC.out⟩
  ·go_simp
   (go_at_call 64; (with_reducible refine (HXB.out _).mono ?_); rintro e W6 ⟨A3, k3, c3, A4, k4, c4, rfl, hn, hbq⟩; have HNB := Aside0.mk hn; clear hn; have HNA2 := Aside0.mk (HNA.out.below hbq); have HO2 := Aside0.mk (HO.out.below hbq); clear HO; have HO := HO2; clear HO2; have HBC2 := Aside0.mk (HBC.out.trans (hbq.mono HBC.out.size)); clear HBC; have HBC := HBC2; clear HBC2; have q6 := HO.out.cell 3)
   refine hK.out _ _ ?_ fun hHeld => ?_
   ·trivial
   clear hK K; try simp only [PU]
   refine tc 4 fun K hK => ?_
   go_simp
   refine hK.out _ _ ?_ fun hHeld => ?_
   ·trivial
   clear hK K; try simp only [PU]
   refine tc 11 fun K hK => ?_
   go_simp
   (go_at_call 80; (with_reducible refine (HDO.out _ _ _ _ _ _ _ _ _ _ _ _ _ HNA2.out HNB.out).mono ?_); rintro e W7 ⟨A5, k5, c5, A6, k6, c6, rfl, hn, hbq⟩; have HNC := Aside0.mk hn; clear hn; have HO2 := Aside0.mk (HO.out.below hbq); clear HO; have HO := HO2; clear HO2; have HBC2 := Aside0.mk (HBC.out.trans (hbq.mono HBC.out.size)); clear HBC; have HBC := HBC2; clear HBC2)
   refine hK.out _ _ ?_ fun hHeld => ?_
   ·trivial
   clear hK K; try simp only [PU]
   refine tc 12 fun K hK => ?_
   go_simp
   (go_at_call 65; (with_reducible refine (HNR.out _ _ _ _ _ _ _ HNC.out).mono ?_); rintro e W8 ⟨rfl, hbq⟩; have HO2 := Aside0.mk (HO.out.below hbq); clear HO; have HO := HO2; clear HO2; have HBC2 := Aside0.mk (HBC.out.trans (hbq.mono HBC.out.size)); clear HBC; have HBC := HBC2; clear HBC2)
   refine hK.out _ _ ?_ fun hHeld => ?_
   ·trivial
   clear hK K; try simp only [PU]
   refine tp 13 ?_
   try simp only [PU]
   refine tp 14 ?_
   try simp only [PU]
   refine tp 15 ?_
   try simp only [PU]
   refine tp 16 ?_
   try simp only [PU]
   refine wpAnyH_done (by kernel_rfl) ?_ _
   refine hK _ _ ?_
   clear hK
   go_wp2
   go_ret2
   exact ⟨rfl, HBC.out⟩
theorem apply_mul {a b : Nat} (ha : a < 4294967296) (hf : fin32 a = true) (hb : b < 4294967296) (hg : fin32 b = true) (w : World) :
 Calls Tryz.prog 13 #[.int .i64 18, .float .f32 a, .float .f32 b] w fun e w' => NrO w (!(fvS a == fvS b)) (fvP a * fvP b) (fvQ a * fvQ b) e w' := by
 obtain ⟨op, hop⟩ : ∃ op : Int, op = 18 := ⟨_, rfl⟩
 rw [← hop]
 have HB0 := Aside0.mk (below_alloc (Below.refl w.heap.size w) (.cells #[.int .i64 op] 3))
 have HL : Aside0 (w.heap.size < (w.alloc (.cells #[.int .i64 op] 3)).heap.size) := ⟨by simp⟩
 have HC0 : Aside0 ((w.alloc (.cells #[.int .i64 op] 3)).cell? ⟨w.heap.size, 0, none⟩ = some (.int .i64 op)) := ⟨by simp⟩
 have HI : Aside0 (∀ W b, OpsAt W b → W.cell? ⟨w.heap.size, 0, none⟩ = some (.int .i64 op) → w.heap.size < W.heap.size → Calls Tryz.prog 60 #[.slice (some ⟨b, 0, none⟩) 4 4, .func (.func 62) #[] #[.pointer (some ⟨w.heap.size, 0, none⟩)]] W fun e w' => e = .returned (.int .i64 (opI op)) ∧ Below W.heap.size W w') := ⟨fun W b h1 h2 h3 => index_calls h1 h2 h3⟩
 have hi : opI op = 2 := by rw [hop]; rfl
 rw [hi] at HI
 obtain ⟨hcg, HFG, HXA⟩ := good_conv ha hf
 obtain ⟨hch, HFH, HXB⟩ := good_conv hb hg
 skip
 obtain ⟨x1, x2, x3⟩ := fv_sz hf
 obtain ⟨z1, z2, z3⟩ := fv_sz hg
 have m1 : Sz 6000 (fvP a * fvQ b) := x1.mul z2
 have m2 : Sz 6000 (fvP b * fvQ a) := z1.mul x2
 have m3 : Sz 6000 (fvQ a * fvQ b) := x2.mul z2
 have m4 : Sz 6000 (fvP a * fvP b) := x1.mul z1
 have m5 : Sz 6000 (fvQ a * fvP b) := x2.mul z1
 have p1 : Sz 90000 (fvP a * fvP b) := m4.more (by omega)
 have p2 : Sz 90000 (fvQ a * fvQ b) := Sz.more m3 (by omega)
 have p3 : 0 < (fvQ a * fvQ b) := Nat.mul_pos x3 z3
 have HDO : Aside0 (∀ W A1 L1 c1 A2 L2 c2 A3 L3 c3 A4 L4 c4, N2 W A1 L1 c1 (fvP a) A2 L2 c2 (fvQ a) → N2 W A3 L3 c3 (fvP b) A4 L4 c4 (fvQ b) → Calls Tryz.prog 129 #[qV (fvS a) A1 L1 c1 A2 L2 c2, qV (fvS b) A3 L3 c3 A4 L4 c4] W fun e w' => QX W (!(fvS a == fvS b)) (fvP a * fvP b) (fvQ a * fvQ b) e w') :=
  ⟨fun W A1 L1 c1 A2 L2 c2 A3 L3 c3 A4 L4 c4 h1 h2 => qTimes_calls h1 h2 (x1.more (by omega)) (x2.more (by omega)) (z1.more (by omega)) (z2.more (by omega))⟩
 have HNR : Aside0 (∀ W A1 L1 c1 A2 L2 c2, N2 W A1 L1 c1 (fvP a * fvP b) A2 L2 c2 (fvQ a * fvQ b) → Calls Tryz.prog 65 #[qV (!(fvS a == fvS b)) A1 L1 c1 A2 L2 c2] W fun e w' => NrO W (!(fvS a == fvS b)) (fvP a * fvP b) (fvQ a * fvQ b) e w') := ⟨fun W A1 L1 c1 A2 L2 c2 hn => nearest_calls hn p1 p2 p3⟩
 clear ha hf hb hg hi m1 m2 m3 m4 m5 p1 p2 p3 x1 x2 x3 z1 z2 z3
 unfold QX NrO at *
 generalize nrW (!(fvS a == fvS b)) (fvP a * fvP b) (fvQ a * fvQ b) = R at *
 generalize nrE (!(fvS a == fvS b)) (fvP a * fvP b) (fvQ a * fvQ b) = T at *
 generalize (fvP a * fvP b) = P at *
 generalize (fvQ a * fvQ b) = Q at *
 generalize (!(fvS a == fvS b)) = sg at *
 generalize fvS a = sa at *
 generalize fvS b = sb at *
 generalize fvP a = pa at *
 generalize fvP b = pb at *
 generalize fvQ a = qa at *
 generalize fvQ b = qb at *
 generalize S64 (neg32 a) + w32 (a % 2147483648) = ya at *
 generalize S64 (neg32 b) + w32 (b % 2147483648) = yb at *
 subst hop
 go_enter Tryz.func13, Tryz.ntmps13
 go_upto_region 8 with (first | (go_at_call 61; (with_reducible refine (operations_calls _).mono ?_); rintro e W1 ⟨b1, rfl, ho, hb1⟩; have HO := Aside0.mk ho; have HB := Aside0.mk (HB0.out.trans (hb1.mono HB0.out.size)); have HC := Aside0.mk ((hb1.cell (p := ⟨w.heap.size, 0, none⟩) HL.out).trans HC0.out); have HP := Aside0.mk (Nat.lt_of_lt_of_le HL.out hb1.size); clear ho hb1) | (go_at_call 60; (with_reducible refine (HI.out _ _ HO.out HC.out HP.out).mono ?_); rintro e W2 ⟨rfl, hb2⟩; have HB2 := Aside0.mk (HB.out.trans (hb2.mono HB.out.size)); have hc2 := (hb2.cell (p := ⟨w.heap.size, 0, none⟩) HP.out).trans HC.out; clear hb2) | (go_at_call 63; (with_reducible refine (HFG.out _).mono ?_); rintro e W3 ⟨rfl, hwq⟩; rw [hwq]; clear hwq) | (go_at_call 63; (with_reducible refine (HFH.out _).mono ?_); rintro e W3 ⟨rfl, hwq⟩; rw [hwq]; clear hwq))
 clear HO HB HC HP HI HC0 HL HB0 hc2
 rename_i Q' K hK
 refine wp_region_held_drew (S := (fun _ => True)) (by kernel_rfl) ?_ (fun hHeld => ?_)
 ·trivial
 (obtain ⟨Z, hZ⟩ : ∃ Z, W2.drew = Z := ⟨_, rfl⟩; have HBZ : Aside0 (Below w.heap.size w Z) := (by subst hZ; exact ⟨HB2.out.drew⟩); rw [hZ]; clear hZ)
 refine tp 1 ?_
 try simp only [PU]
 refine tp 5 ?_
 try simp only [PU]
 refine tp 6 ?_
 try simp only [PU]
 refine tp 8 ?_
 try simp only [PU]
 refine tp 9 ?_
 try simp only [PU]
 refine tc 0 fun K hK => ?_
 go_simp
 (go_at_call 61; (with_reducible refine (operations_calls _).mono ?_); rintro e W4 ⟨b4, rfl, ho, hbq⟩; have HO := Aside0.mk ho; have HBC := Aside0.mk (HBZ.out.trans (hbq.mono HBZ.out.size)); clear ho; have q4 := HO.out.cell 5)
 refine hK.out _ _ ?_ fun hHeld => ?_
 ·trivial
 clear hK K; try simp only [PU]
 refine tp 2 ?_
 try simp only [PU]
 refine tp 3 ?_
 try simp only [PU]
 refine wpAnyH_ready (rs := [4, 7]) (by kernel_rfl) (by simp) ?_
 refine AllReadyH.cons rfl (fun K hK => ?_) (AllReadyH.cons rfl (fun K hK => ?_) (AllReadyH.nil))
 ·go_simp
  refine hK.out _ _ ?_ fun hHeld => ?_
  ·trivial
  clear hK K; try simp only [PU]
  refine tc 7 fun K hK => ?_
  go_simp
  (go_at_call 64; (with_reducible refine (HXA.out _).mono ?_); rintro e W5 ⟨A1, k1, c1, A2, k2, c2, rfl, hn, hbq⟩; have HNA := Aside0.mk hn; clear hn; have HO2 := Aside0.mk (HO.out.below hbq); clear HO; have HO := HO2; clear HO2; have HBC2 := Aside0.mk (HBC.out.trans (hbq.mono HBC.out.size)); clear HBC; have HBC := HBC2; clear HBC2; have q5 := HO.out.cell 5)
  refine hK.out _ _ ?_ fun hHeld => ?_
  ·trivial
  clear hK K; try simp only [PU]
  refine tc 10 fun K hK => ?_
  go_simp
  (go_at_call 64; (with_reducible refine (HXB.out _).mono ?_); rintro e W6 ⟨A3, k3, c3, A4, k4, c4, rfl, hn, hbq⟩; have HNB := Aside0.mk hn; clear hn; have HNA2 := Aside0.mk (HNA.out.below hbq); have HO2 := Aside0.mk (HO.out.below hbq); clear HO; have HO := HO2; clear HO2; have HBC2 := Aside0.mk (HBC.out.trans (hbq.mono HBC.out.size)); clear HBC; have HBC := HBC2; clear HBC2; have q6 := HO.out.cell 5)
  refine hK.out _ _ ?_ fun hHeld => ?_
  ·trivial
  clear hK K; try simp only [PU]
  refine tc 11 fun K hK => ?_
  go_simp
  (go_at_call 129; (with_reducible refine (HDO.out _ _ _ _ _ _ _ _ _ _ _ _ _ HNA2.out HNB.out).mono ?_); rintro e W7 ⟨A5, k5, c5, A6, k6, c6, rfl, hn, hbq⟩; have HNC := Aside0.mk hn; clear hn; have HO2 := Aside0.mk (HO.out.below hbq); clear HO; have HO := HO2; clear HO2; have HBC2 := Aside0.mk (HBC.out.trans (hbq.mono HBC.out.size)); clear HBC; have HBC := HBC2; clear HBC2)
  refine hK.out _ _ ?_ fun hHeld => ?_
  ·trivial
  clear hK K; try simp only [PU]
  refine tc 12 fun K hK => ?_
  go_simp
  (go_at_call 65; (with_reducible refine (HNR.out _ _ _ _ _ _ _ HNC.out).mono ?_); rintro e W8 ⟨rfl, hbq⟩; have HO2 := Aside0.mk (HO.out.below hbq); clear HO; have HO := HO2; clear HO2; have HBC2 := Aside0.mk (HBC.out.trans (hbq.mono HBC.out.size)); clear HBC; have HBC := HBC2; clear HBC2)
  refine hK.out _ _ ?_ fun hHeld => ?_
  ·trivial
  clear hK K; try simp only [PU]
  refine tp 13 ?_
  try simp only [PU]
  refine tp 14 ?_
  try simp only [PU]
  refine tp 15 ?_
  try simp only [PU]
  refine tp 16 ?_
  try simp only [PU]
  refine wpAnyH_done (by kernel_rfl) ?_ _
  refine hK _ _ ?_
  clear hK
  go_wp2
  go_ret2
  exact ⟨rfl, HBC.out⟩
 ·go_simp
  (go_at_call 64; (with_reducible refine (HXA.out _).mono ?_); rintro e W5 ⟨A1, k1, c1, A2, k2, c2, rfl, hn, hbq⟩; have HNA := Aside0.mk hn; clear hn; have HO2 := Aside0.mk (HO.out.below hbq); clear HO; have HO := HO2; clear HO2; have HBC2 := Aside0.mk (HBC.out.trans (hbq.mono HBC.out.size)); clear HBC; have HBC := HBC2; clear HBC2; have q5 := HO.out.cell 5)
  refine hK.out _ _ ?_ fun hHeld => ?_
  ·trivial
  clear hK K; try simp only [PU]
  refine wpAnyH_ready (rs := [4, 10]) (by kernel_rfl) (by simp) ?_
  refine AllReadyH.cons rfl (fun K hK => ?_) (AllReadyH.cons rfl (fun K hK => ?_) (AllReadyH.nil))
  ·go_simp
   refine hK.out _ _ ?_ fun hHeld => ?_
   ·trivial
   clear hK K; try simp only [PU]
   refine tc 10 fun K hK => ?_
   go_simp
   (go_at_call 64; (with_reducible refine (HXB.out _).mono ?_); rintro e W6 ⟨A3, k3, c3, A4, k4, c4, rfl, hn, hbq⟩; have HNB := Aside0.mk hn; clear hn; have HNA2 := Aside0.mk (HNA.out.below hbq); have HO2 := Aside0.mk (HO.out.below hbq); clear HO; have HO := HO2; clear HO2; have HBC2 := Aside0.mk (HBC.out.trans (hbq.mono HBC.out.size)); clear HBC; have HBC := HBC2; clear HBC2; have q6 := HO.out.cell 5)
   refine hK.out _ _ ?_ fun hHeld => ?_
   ·trivial
   clear hK K; try simp only [PU]
   refine tc 11 fun K hK => ?_
   go_simp
   (go_at_call 129; (with_reducible refine (HDO.out _ _ _ _ _ _ _ _ _ _ _ _ _ HNA2.out HNB.out).mono ?_); rintro e W7 ⟨A5, k5, c5, A6, k6, c6, rfl, hn, hbq⟩; have HNC := Aside0.mk hn; clear hn; have HO2 := Aside0.mk (HO.out.below hbq); clear HO; have HO := HO2; clear HO2; have HBC2 := Aside0.mk (HBC.out.trans (hbq.mono HBC.out.size)); clear HBC; have HBC := HBC2; clear HBC2)
   refine hK.out _ _ ?_ fun hHeld => ?_
   ·trivial
   clear hK K; try simp only [PU]
   refine tc 12 fun K hK => ?_
   go_simp
   (go_at_call 65; (with_reducible refine (HNR.out _ _ _ _ _ _ _ HNC.out).mono ?_); rintro e W8 ⟨rfl, hbq⟩; have HO2 := Aside0.mk (HO.out.below hbq); clear HO; have HO := HO2; clear HO2; have HBC2 := Aside0.mk (HBC.out.trans (hbq.mono HBC.out.size)); clear HBC; have HBC := HBC2; clear HBC2)
   refine hK.out _ _ ?_ fun hHeld => ?_
   ·trivial
   clear hK K; try simp only [PU]
   refine tp 13 ?_
   try simp only [PU]
   refine tp 14 ?_
   try simp only [PU]
   refine tp 15 ?_
   try simp only [PU]
   refine tp 16 ?_
   try simp only [PU]
   refine wpAnyH_done (by kernel_rfl) ?_ _
   refine hK _ _ ?_
   clear hK
   go_wp2
   go_ret2
   exact ⟨rfl, HBC.out⟩
  ·go_simp
   (go_at_call 64; (with_reducible refine (HXB.out _).mono ?_); rintro e W6 ⟨A3, k3, c3, A4, k4, c4, rfl, hn, hbq⟩; have HNB := Aside0.mk hn; clear hn; have HNA2 := Aside0.mk (HNA.out.below hbq); have HO2 := Aside0.mk (HO.out.below hbq); clear HO; have HO := HO2; clear HO2; have HBC2 := Aside0.mk (HBC.out.trans (hbq.mono HBC.out.size)); clear HBC; have HBC := HBC2; clear HBC2; have q6 := HO.out.cell 5)
   refine hK.out _ _ ?_ fun hHeld => ?_
   ·trivial
   clear hK K; try simp only [PU]
   refine tc 4 fun K hK => ?_
   go_simp
   refine hK.out _ _ ?_ fun hHeld => ?_
   ·trivial
   clear hK K; try simp only [PU]
   refine tc 11 fun K hK => ?_
   go_simp
   (go_at_call 129; (with_reducible refine (HDO.out _ _ _ _ _ _ _ _ _ _ _ _ _ HNA2.out HNB.out).mono ?_); rintro e W7 ⟨A5, k5, c5, A6, k6, c6, rfl, hn, hbq⟩; have HNC := Aside0.mk hn; clear hn; have HO2 := Aside0.mk (HO.out.below hbq); clear HO; have HO := HO2; clear HO2; have HBC2 := Aside0.mk (HBC.out.trans (hbq.mono HBC.out.size)); clear HBC; have HBC := HBC2; clear HBC2)
   refine hK.out _ _ ?_ fun hHeld => ?_
   ·trivial
   clear hK K; try simp only [PU]
   refine tc 12 fun K hK => ?_
   go_simp
   (go_at_call 65; (with_reducible refine (HNR.out _ _ _ _ _ _ _ HNC.out).mono ?_); rintro e W8 ⟨rfl, hbq⟩; have HO2 := Aside0.mk (HO.out.below hbq); clear HO; have HO := HO2; clear HO2; have HBC2 := Aside0.mk (HBC.out.trans (hbq.mono HBC.out.size)); clear HBC; have HBC := HBC2; clear HBC2)
   refine hK.out _ _ ?_ fun hHeld => ?_
   ·trivial
   clear hK K; try simp only [PU]
   refine tp 13 ?_
   try simp only [PU]
   refine tp 14 ?_
   try simp only [PU]
   refine tp 15 ?_
   try simp only [PU]
   refine tp 16 ?_
   try simp only [PU]
   refine wpAnyH_done (by kernel_rfl) ?_ _
   refine hK _ _ ?_
   clear hK
   go_wp2
   go_ret2
   exact ⟨rfl, HBC.out⟩
theorem apply_quo {a b : Nat} (ha : a < 4294967296) (hf : fin32 a = true) (hb : b < 4294967296) (hg : fin32 b = true)(hz : b % 2147483648 ≠ 0) (hzp : 0 < fvP b) (w : World) :
 Calls Tryz.prog 13 #[.int .i64 19, .float .f32 a, .float .f32 b] w fun e w' => NrO w (!(fvS a == fvS b)) (fvP a * fvQ b) (fvQ a * fvP b) e w' := by
 obtain ⟨op, hop⟩ : ∃ op : Int, op = 19 := ⟨_, rfl⟩
 rw [← hop]
 have HB0 := Aside0.mk (below_alloc (Below.refl w.heap.size w) (.cells #[.int .i64 op] 3))
 have HL : Aside0 (w.heap.size < (w.alloc (.cells #[.int .i64 op] 3)).heap.size) := ⟨by simp⟩
 have HC0 : Aside0 ((w.alloc (.cells #[.int .i64 op] 3)).cell? ⟨w.heap.size, 0, none⟩ = some (.int .i64 op)) := ⟨by simp⟩
 have HI : Aside0 (∀ W b, OpsAt W b → W.cell? ⟨w.heap.size, 0, none⟩ = some (.int .i64 op) → w.heap.size < W.heap.size → Calls Tryz.prog 60 #[.slice (some ⟨b, 0, none⟩) 4 4, .func (.func 62) #[] #[.pointer (some ⟨w.heap.size, 0, none⟩)]] W fun e w' => e = .returned (.int .i64 (opI op)) ∧ Below W.heap.size W w') := ⟨fun W b h1 h2 h3 => index_calls h1 h2 h3⟩
 have hi : opI op = 3 := by rw [hop]; rfl
 rw [hi] at HI
 obtain ⟨hcg, HFG, HXA⟩ := good_conv ha hf
 obtain ⟨hch, HFH, HXB⟩ := good_conv hb hg
 have ho := ordz32 hb hg; rw [decide_eq_false hz] at ho
 obtain ⟨x1, x2, x3⟩ := fv_sz hf
 obtain ⟨z1, z2, z3⟩ := fv_sz hg
 have m1 : Sz 6000 (fvP a * fvQ b) := x1.mul z2
 have m2 : Sz 6000 (fvP b * fvQ a) := z1.mul x2
 have m3 : Sz 6000 (fvQ a * fvQ b) := x2.mul z2
 have m4 : Sz 6000 (fvP a * fvP b) := x1.mul z1
 have m5 : Sz 6000 (fvQ a * fvP b) := x2.mul z1
 have p1 : Sz 90000 (fvP a * fvQ b) := m1.more (by omega)
 have p2 : Sz 90000 (fvQ a * fvP b) := Sz.more m5 (by omega)
 have p3 : 0 < (fvQ a * fvP b) := Nat.mul_pos x3 hzp
 have HDO : Aside0 (∀ W A1 L1 c1 A2 L2 c2 A3 L3 c3 A4 L4 c4, N2 W A1 L1 c1 (fvP a) A2 L2 c2 (fvQ a) → N2 W A3 L3 c3 (fvP b) A4 L4 c4 (fvQ b) → Calls Tryz.prog 117 #[qV (fvS a) A1 L1 c1 A2 L2 c2, qV (fvS b) A3 L3 c3 A4 L4 c4] W fun e w' => QX W (!(fvS a == fvS b)) (fvP a * fvQ b) (fvQ a * fvP b) e w') :=
  ⟨fun W A1 L1 c1 A2 L2 c2 A3 L3 c3 A4 L4 c4 h1 h2 => qOver_calls h1 h2 (x1.more (by omega)) (x2.more (by omega)) (z1.more (by omega)) (z2.more (by omega))⟩
 have HNR : Aside0 (∀ W A1 L1 c1 A2 L2 c2, N2 W A1 L1 c1 (fvP a * fvQ b) A2 L2 c2 (fvQ a * fvP b) → Calls Tryz.prog 65 #[qV (!(fvS a == fvS b)) A1 L1 c1 A2 L2 c2] W fun e w' => NrO W (!(fvS a == fvS b)) (fvP a * fvQ b) (fvQ a * fvP b) e w') := ⟨fun W A1 L1 c1 A2 L2 c2 hn => nearest_calls hn p1 p2 p3⟩
 clear ha hf hb hg hi m1 m2 m3 m4 m5 p1 p2 p3 x1 x2 x3 z1 z2 z3 hz hzp
 unfold QX NrO at *
 generalize nrW (!(fvS a == fvS b)) (fvP a * fvQ b) (fvQ a * fvP b) = R at *
 generalize nrE (!(fvS a == fvS b)) (fvP a * fvQ b) (fvQ a * fvP b) = T at *
 generalize (fvP a * fvQ b) = P at *
 generalize (fvQ a * fvP b) = Q at *
 generalize (!(fvS a == fvS b)) = sg at *
 generalize fvS a = sa at *
 generalize fvS b = sb at *
 generalize fvP a = pa at *
 generalize fvP b = pb at *
 generalize fvQ a = qa at *
 generalize fvQ b = qb at *
 generalize S64 (neg32 a) + w32 (a % 2147483648) = ya at *
 generalize S64 (neg32 b) + w32 (b % 2147483648) = yb at *
 subst hop
 go_enter Tryz.func13, Tryz.ntmps13
 go_upto_region 8 with (first | (go_at_call 61; (with_reducible refine (operations_calls _).mono ?_); rintro e W1 ⟨b1, rfl, ho, hb1⟩; have HO := Aside0.mk ho; have HB := Aside0.mk (HB0.out.trans (hb1.mono HB0.out.size)); have HC := Aside0.mk ((hb1.cell (p := ⟨w.heap.size, 0, none⟩) HL.out).trans HC0.out); have HP := Aside0.mk (Nat.lt_of_lt_of_le HL.out hb1.size); clear ho hb1) | (go_at_call 60; (with_reducible refine (HI.out _ _ HO.out HC.out HP.out).mono ?_); rintro e W2 ⟨rfl, hb2⟩; have HB2 := Aside0.mk (HB.out.trans (hb2.mono HB.out.size)); have hc2 := (hb2.cell (p := ⟨w.heap.size, 0, none⟩) HP.out).trans HC.out; clear hb2) | (go_at_call 63; (with_reducible refine (HFG.out _).mono ?_); rintro e W3 ⟨rfl, hwq⟩; rw [hwq]; clear hwq) | (go_at_call 63; (with_reducible refine (HFH.out _).mono ?_); rintro e W3 ⟨rfl, hwq⟩; rw [hwq]; clear hwq))
 clear HO HB HC HP HI HC0 HL HB0 hc2
 rename_i Q' K hK
 refine wp_region_held_drew (S := (fun _ => True)) (by kernel_rfl) ?_ (fun hHeld => ?_)
 ·trivial
 (obtain ⟨Z, hZ⟩ : ∃ Z, W2.drew = Z := ⟨_, rfl⟩; have HBZ : Aside0 (Below w.heap.size w Z) := (by subst hZ; exact ⟨HB2.out.drew⟩); rw [hZ]; clear hZ)
 refine tp 1 ?_
 try simp only [PU]
 refine tp 5 ?_
 try simp only [PU]
 refine tp 6 ?_
 try simp only [PU]
 refine tp 8 ?_
 try simp only [PU]
 refine tp 9 ?_
 try simp only [PU]
 refine tc 0 fun K hK => ?_
 go_simp
 (go_at_call 61; (with_reducible refine (operations_calls _).mono ?_); rintro e W4 ⟨b4, rfl, ho, hbq⟩; have HO := Aside0.mk ho; have HBC := Aside0.mk (HBZ.out.trans (hbq.mono HBZ.out.size)); clear ho; have q4 := HO.out.cell 7)
 refine hK.out _ _ ?_ fun hHeld => ?_
 ·trivial
 clear hK K; try simp only [PU]
 refine tp 2 ?_
 try simp only [PU]
 refine tp 3 ?_
 try simp only [PU]
 refine wpAnyH_ready (rs := [4, 7]) (by kernel_rfl) (by simp) ?_
 refine AllReadyH.cons rfl (fun K hK => ?_) (AllReadyH.cons rfl (fun K hK => ?_) (AllReadyH.nil))
 ·go_simp
  refine hK.out _ _ ?_ fun hHeld => ?_
  ·trivial
  clear hK K; try simp only [PU]
  refine tc 7 fun K hK => ?_
  go_simp
  (go_at_call 64; (with_reducible refine (HXA.out _).mono ?_); rintro e W5 ⟨A1, k1, c1, A2, k2, c2, rfl, hn, hbq⟩; have HNA := Aside0.mk hn; clear hn; have HO2 := Aside0.mk (HO.out.below hbq); clear HO; have HO := HO2; clear HO2; have HBC2 := Aside0.mk (HBC.out.trans (hbq.mono HBC.out.size)); clear HBC; have HBC := HBC2; clear HBC2; have q5 := HO.out.cell 7)
  refine hK.out _ _ ?_ fun hHeld => ?_
  ·trivial
  clear hK K; try simp only [PU]
  refine tc 10 fun K hK => ?_
  go_simp
  (go_at_call 64; (with_reducible refine (HXB.out _).mono ?_); rintro e W6 ⟨A3, k3, c3, A4, k4, c4, rfl, hn, hbq⟩; have HNB := Aside0.mk hn; clear hn; have HNA2 := Aside0.mk (HNA.out.below hbq); have HO2 := Aside0.mk (HO.out.below hbq); clear HO; have HO := HO2; clear HO2; have HBC2 := Aside0.mk (HBC.out.trans (hbq.mono HBC.out.size)); clear HBC; have HBC := HBC2; clear HBC2; have q6 := HO.out.cell 7)
  refine hK.out _ _ ?_ fun hHeld => ?_
  ·trivial
  clear hK K; try simp only [PU]
  refine tc 11 fun K hK => ?_
  go_simp
  (go_at_call 117; (with_reducible refine (HDO.out _ _ _ _ _ _ _ _ _ _ _ _ _ HNA2.out HNB.out).mono ?_); rintro e W7 ⟨A5, k5, c5, A6, k6, c6, rfl, hn, hbq⟩; have HNC := Aside0.mk hn; clear hn; have HO2 := Aside0.mk (HO.out.below hbq); clear HO; have HO := HO2; clear HO2; have HBC2 := Aside0.mk (HBC.out.trans (hbq.mono HBC.out.size)); clear HBC; have HBC := HBC2; clear HBC2)
  refine hK.out _ _ ?_ fun hHeld => ?_
  ·trivial
  clear hK K; try simp only [PU]
  refine tc 12 fun K hK => ?_
  go_simp
  (go_at_call 65; (with_reducible refine (HNR.out _ _ _ _ _ _ _ HNC.out).mono ?_); rintro e W8 ⟨rfl, hbq⟩; have HO2 := Aside0.mk (HO.out.below hbq); clear HO; have HO := HO2; clear HO2; have HBC2 := Aside0.mk (HBC.out.trans (hbq.mono HBC.out.size)); clear HBC; have HBC := HBC2; clear HBC2)
  refine hK.out _ _ ?_ fun hHeld => ?_
  ·trivial
  clear hK K; try simp only [PU]
  refine tp 13 ?_
  try simp only [PU]
  refine tp 14 ?_
  try simp only [PU]
  refine tp 15 ?_
  try simp only [PU]
  refine tp 16 ?_
  try simp only [PU]
  refine wpAnyH_done (by kernel_rfl) ?_ _
  refine hK _ _ ?_
  clear hK
  go_wp2
  go_ret2
  exact ⟨rfl, HBC.out⟩
 ·go_simp
  (go_at_call 64; (with_reducible refine (HXA.out _).mono ?_); rintro e W5 ⟨A1, k1, c1, A2, k2, c2, rfl, hn, hbq⟩; have HNA := Aside0.mk hn; clear hn; have HO2 := Aside0.mk (HO.out.below hbq); clear HO; have HO := HO2; clear HO2; have HBC2 := Aside0.mk (HBC.out.trans (hbq.mono HBC.out.size)); clear HBC; have HBC := HBC2; clear HBC2; have q5 := HO.out.cell 7)
  refine hK.out _ _ ?_ fun hHeld => ?_
  ·trivial
  clear hK K; try simp only [PU]
  refine wpAnyH_ready (rs := [4, 10]) (by kernel_rfl) (by simp) ?_
  refine AllReadyH.cons rfl (fun K hK => ?_) (AllReadyH.cons rfl (fun K hK => ?_) (AllReadyH.nil))
  ·go_simp
   refine hK.out _ _ ?_ fun hHeld => ?_
   ·trivial
   clear hK K; try simp only [PU]
   refine tc 10 fun K hK => ?_
   go_simp
   (go_at_call 64; (with_reducible refine (HXB.out _).mono ?_); rintro e W6 ⟨A3, k3, c3, A4, k4, c4, rfl, hn, hbq⟩; have HNB := Aside0.mk hn; clear hn; have HNA2 := Aside0.mk (HNA.out.below hbq); have HO2 := Aside0.mk (HO.out.below hbq); clear HO; have HO := HO2; clear HO2; have HBC2 := Aside0.mk (HBC.out.trans (hbq.mono HBC.out.size)); clear HBC; have HBC := HBC2; clear HBC2; have q6 := HO.out.cell 7)
   refine hK.out _ _ ?_ fun hHeld => ?_
   ·trivial
   clear hK K; try simp only [PU]
   refine tc 11 fun K hK => ?_
   go_simp
   (go_at_call 117; (with_reducible refine (HDO.out _ _ _ _ _ _ _ _ _ _ _ _ _ HNA2.out HNB.out).mono ?_); rintro e W7 ⟨A5, k5, c5, A6, k6, c6, rfl, hn, hbq⟩; have HNC := Aside0.mk hn; clear hn; have HO2 := Aside0.mk (HO.out.below hbq); clear HO; have HO := HO2; clear HO2; have HBC2 := Aside0.mk (HBC.out.trans (hbq.mono HBC.out.size)); clear HBC; have HBC := HBC2; clear HBC2)
   refine hK.out _ _ ?_ fun hHeld => ?_
   ·trivial
   clear hK K; try simp only [PU]
   refine tc 12 fun K hK => ?_
   go_simp
   (go_at_call 65; (with_reducible refine (HNR.out _ _ _ _ _ _ _ HNC.out).mono ?_); rintro e W8 ⟨rfl, hbq⟩; have HO2 := Aside0.mk (HO.out.below hbq); clear HO; have HO := HO2; clear HO2; have HBC2 := Aside0.mk (HBC.out.trans (hbq.mono HBC.out.size)); clear HBC; have HBC := HBC2; clear HBC2)
   refine hK.out _ _ ?_ fun hHeld => ?_
   ·trivial
   clear hK K; try simp only [PU]
   refine tp 13 ?_
   try simp only [PU]
   refine tp 14 ?_
   try simp only [PU]
   refine tp 15 ?_
   try simp only [PU]
   refine tp 16 ?_
   try simp only [PU]
   refine wpAnyH_done (by kernel_rfl) ?_ _
   refine hK _ _ ?_
   clear hK
   go_wp2
   go_ret2
   exact ⟨rfl, HBC.out⟩
  ·go_simp
   (go_at_call 64; (with_reducible refine (HXB.out _).mono ?_); rintro e W6 ⟨A3, k3, c3, A4, k4, c4, rfl, hn, hbq⟩; have HNB := Aside0.mk hn; clear hn; have HNA2 := Aside0.mk (HNA.out.below hbq); have HO2 := Aside0.mk (HO.out.below hbq); clear HO; have HO := HO2; clear HO2; have HBC2 := Aside0.mk (HBC.out.trans (hbq.mono HBC.out.size)); clear HBC; have HBC := HBC2; clear HBC2; have q6 := HO.out.cell 7)
   refine hK.out _ _ ?_ fun hHeld => ?_
   ·trivial
   clear hK K; try simp only [PU]
   refine tc 4 fun K hK => ?_
   go_simp
   refine hK.out _ _ ?_ fun hHeld => ?_
   ·trivial
   clear hK K; try simp only [PU]
   refine tc 11 fun K hK => ?_
   go_simp
   (go_at_call 117; (with_reducible refine (HDO.out _ _ _ _ _ _ _ _ _ _ _ _ _ HNA2.out HNB.out).mono ?_); rintro e W7 ⟨A5, k5, c5, A6, k6, c6, rfl, hn, hbq⟩; have HNC := Aside0.mk hn; clear hn; have HO2 := Aside0.mk (HO.out.below hbq); clear HO; have HO := HO2; clear HO2; have HBC2 := Aside0.mk (HBC.out.trans (hbq.mono HBC.out.size)); clear HBC; have HBC := HBC2; clear HBC2)
   refine hK.out _ _ ?_ fun hHeld => ?_
   ·trivial
   clear hK K; try simp only [PU]
   refine tc 12 fun K hK => ?_
   go_simp
   (go_at_call 65; (with_reducible refine (HNR.out _ _ _ _ _ _ _ HNC.out).mono ?_); rintro e W8 ⟨rfl, hbq⟩; have HO2 := Aside0.mk (HO.out.below hbq); clear HO; have HO := HO2; clear HO2; have HBC2 := Aside0.mk (HBC.out.trans (hbq.mono HBC.out.size)); clear HBC; have HBC := HBC2; clear HBC2)
   refine hK.out _ _ ?_ fun hHeld => ?_
   ·trivial
   clear hK K; try simp only [PU]
   refine tp 13 ?_
   try simp only [PU]
   refine tp 14 ?_
   try simp only [PU]
   refine tp 15 ?_
   try simp only [PU]
   refine tp 16 ?_
   try simp only [PU]
   refine wpAnyH_done (by kernel_rfl) ?_ _
   refine hK _ _ ?_
   clear hK
   go_wp2
   go_ret2
   exact ⟨rfl, HBC.out⟩
theorem same32_calls (a b : Nat) (w : World) : Calls Tryz.prog 85 #[.float .f32 a, .float .f32 b] w fun e w' => e = .returned (.bool ((a : Int) == (b : Int))) ∧ w' = w := by
 have h1 := run_bits32 a
 have h2 := run_bits32 b
 go_enter Tryz.func85, Tryz.ntmps85
 go_wp2
 go_ret
 exact ⟨rfl, rfl⟩
theorem same_calls (a b : Nat) (w : World) : Calls Tryz.prog 25 #[.float .f32 a, .float .f32 b] w fun e w' => e = .returned (.bool ((a : Int) == (b : Int))) ∧ w' = w := by
 go_enter Tryz.func25, Tryz.ntmps25
 go_wp2_with (go_at_call 85; (with_reducible refine (same32_calls _ _ _).mono ?_); rintro e w1 ⟨rfl, hww⟩; rw [hww]; clear hww w1)
 go_ret
 exact ⟨rfl, rfl⟩
theorem aw1 : toW ⟨#[49, 47, 51]⟩ = 1051372203 ∧ toE ⟨#[49, 47, 51]⟩ = 0 := by decide +kernel
theorem aw2 : toW ⟨#[49, 54, 55, 55, 55, 50, 49, 55, 47, 49]⟩ = 1266679808 ∧ toE ⟨#[49, 54, 55, 55, 55, 50, 49, 55, 47, 49]⟩ = 0 := by decide +kernel
theorem aw3 : toW ⟨#[49, 54, 55, 55, 55, 50, 49, 57, 47, 49]⟩ = 1266679810 ∧ toE ⟨#[49, 54, 55, 55, 55, 50, 49, 57, 47, 49]⟩ = 0 := by decide +kernel
theorem aw4 : erS ⟨#[49, 47, 51]⟩ = ⟨#[45, 49, 47, 49, 48, 48, 54, 54, 51, 50, 57, 54]⟩ ∧ erE ⟨#[49, 47, 51]⟩ = 0 := by decide +kernel
theorem aw5 : liW ⟨#[48, 46, 49]⟩ = 1036831949 ∧ liX ⟨#[48, 46, 49]⟩ = false ∧ liE ⟨#[48, 46, 49]⟩ = 0 := by decide +kernel
theorem aw6 : liW ⟨#[45, 50, 46, 53, 48]⟩ = 3223322624 ∧ liX ⟨#[45, 50, 46, 53, 48]⟩ = true ∧ liE ⟨#[45, 50, 46, 53, 48]⟩ = 0 := by decide +kernel
theorem aw7 : fmS 1036831949 = ⟨#[49, 51, 52, 50, 49, 55, 55, 51, 47, 49, 51, 52, 50, 49, 55, 55, 50, 56]⟩ ∧ fmE 1036831949 = 0 := by decide +kernel
theorem aw8 : fuS 1065353216 = ⟨#[49, 47, 56, 51, 56, 56, 54, 48, 56]⟩ ∧ fmE 1065353216 = 0 := by decide +kernel
theorem aw9 : nrW (!(fvS 1065353216 == fvS 1077936128)) (fvP 1065353216 * fvQ 1077936128) (fvQ 1065353216 * fvP 1077936128) = 1051372203 ∧ nrE (!(fvS 1065353216 == fvS 1077936128)) (fvP 1065353216 * fvQ 1077936128) (fvQ 1065353216 * fvP 1077936128) = 0 := by decide +kernel
theorem aw10 : ckX ⟨#[49, 47, 50]⟩ ⟨#[49, 47, 49]⟩ = 0 ∧ ckX ⟨#[49, 47, 50]⟩ ⟨#[45, 49, 47, 49]⟩ = 0 := by decide +kernel
theorem aw11 : exA (mulC (ofS ⟨#[49, 47, 50]⟩ ⟨#[49, 47, 49]⟩) (ofS ⟨#[49, 47, 50]⟩ ⟨#[45, 49, 47, 49]⟩)) = ⟨#[53, 47, 52]⟩ ∧ exB (mulC (ofS ⟨#[49, 47, 50]⟩ ⟨#[49, 47, 49]⟩) (ofS ⟨#[49, 47, 50]⟩ ⟨#[45, 49, 47, 49]⟩)) = ⟨#[48, 47, 49]⟩ ∧ exR (mulC (ofS ⟨#[49, 47, 50]⟩ ⟨#[49, 47, 49]⟩) (ofS ⟨#[49, 47, 50]⟩ ⟨#[45, 49, 47, 49]⟩)) = 0 := by decide +kernel
theorem aw12 : ckX ⟨#[49, 47, 49]⟩ ⟨#[48, 47, 49]⟩ = 0 ∧ ckX ⟨#[48, 47, 49]⟩ ⟨#[49, 47, 49]⟩ = 0 := by decide +kernel
theorem aw13 : exA (dvC (ofS ⟨#[49, 47, 49]⟩ ⟨#[48, 47, 49]⟩) (ofS ⟨#[48, 47, 49]⟩ ⟨#[49, 47, 49]⟩)) = ⟨#[48, 47, 49]⟩ ∧ exB (dvC (ofS ⟨#[49, 47, 49]⟩ ⟨#[48, 47, 49]⟩) (ofS ⟨#[48, 47, 49]⟩ ⟨#[49, 47, 49]⟩)) = ⟨#[45, 49, 47, 49]⟩ ∧ exR (dvC (ofS ⟨#[49, 47, 49]⟩ ⟨#[48, 47, 49]⟩) (ofS ⟨#[48, 47, 49]⟩ ⟨#[49, 47, 49]⟩)) = 0 := by decide +kernel
theorem aw14 : noS ⟨#[51, 47, 49]⟩ ⟨#[52, 47, 49]⟩ = ⟨#[50, 53, 47, 49]⟩ ∧ noE ⟨#[51, 47, 49]⟩ ⟨#[52, 47, 49]⟩ = 0 := by decide +kernel
theorem aw15 : sxA (mulC (cxC (neg32 1065353216) (w32 (1065353216 % 2147483648)) (neg32 1073741824) (w32 (1073741824 % 2147483648))) (cxC (neg32 1077936128) (w32 (1077936128 % 2147483648)) (neg32 3212836864) (w32 (3212836864 % 2147483648)))) = 1084227584 ∧ sxB (mulC (cxC (neg32 1065353216) (w32 (1065353216 % 2147483648)) (neg32 1073741824) (w32 (1073741824 % 2147483648))) (cxC (neg32 1077936128) (w32 (1077936128 % 2147483648)) (neg32 3212836864) (w32 (3212836864 % 2147483648)))) = 1084227584 ∧ sxE (mulC (cxC (neg32 1065353216) (w32 (1065353216 % 2147483648)) (neg32 1073741824) (w32 (1073741824 % 2147483648))) (cxC (neg32 1077936128) (w32 (1077936128 % 2147483648)) (neg32 3212836864) (w32 (3212836864 % 2147483648)))) = 0 := by decide +kernel
theorem aw16 : exA (cxC false 4602678819172646912 true 4607182418800017408) = ⟨#[49, 47, 50]⟩ ∧ exB (cxC false 4602678819172646912 true 4607182418800017408) = ⟨#[45, 49, 47, 49]⟩ ∧ exR (cxC false 4602678819172646912 true 4607182418800017408) = 0 := by decide +kernel
theorem awakeR_calls (w : World) (hE : EN w) : Calls Tryz.prog 22 #[] w fun e w' => e = .returned (.bool true) ∧ Below w.heap.size w w' := by
 have K1 : Aside0 (∀ W, Below w.heap.size w W → Calls Tryz.prog 23 #[.string ⟨#[49, 47, 51]⟩] W fun e w' => e = .returned (.tuple #[.float .f32 1051372203, .int .i64 0]) ∧ Below W.heap.size W w') := ⟨fun W hb => by
  have h := to32_calls ⟨#[49, 47, 51]⟩ (by decide) W (hE.below hb)
  rw [aw1.1, aw1.2] at h
  exact h⟩
 have K2 : Aside0 (∀ W, Below w.heap.size w W → Calls Tryz.prog 23 #[.string ⟨#[49, 54, 55, 55, 55, 50, 49, 55, 47, 49]⟩] W fun e w' => e = .returned (.tuple #[.float .f32 1266679808, .int .i64 0]) ∧ Below W.heap.size W w') := ⟨fun W hb => by
  have h := to32_calls ⟨#[49, 54, 55, 55, 55, 50, 49, 55, 47, 49]⟩ (by decide) W (hE.below hb)
  rw [aw2.1, aw2.2] at h
  exact h⟩
 have K3 : Aside0 (∀ W, Below w.heap.size w W → Calls Tryz.prog 23 #[.string ⟨#[49, 54, 55, 55, 55, 50, 49, 57, 47, 49]⟩] W fun e w' => e = .returned (.tuple #[.float .f32 1266679810, .int .i64 0]) ∧ Below W.heap.size W w') := ⟨fun W hb => by
  have h := to32_calls ⟨#[49, 54, 55, 55, 55, 50, 49, 57, 47, 49]⟩ (by decide) W (hE.below hb)
  rw [aw3.1, aw3.2] at h
  exact h⟩
 have K4 : Aside0 (∀ W, Below w.heap.size w W → Calls Tryz.prog 20 #[.string ⟨#[49, 47, 51]⟩] W fun e w' => e = .returned (.tuple #[.string ⟨#[45, 49, 47, 49, 48, 48, 54, 54, 51, 50, 57, 54]⟩, .int .i64 0]) ∧ Below W.heap.size W w') := ⟨fun W hb => by
  have h := error_calls ⟨#[49, 47, 51]⟩ (by decide) W (hE.below hb)
  rw [aw4.1, aw4.2] at h
  exact h⟩
 have K5 : Aside0 (∀ W, Below w.heap.size w W → Calls Tryz.prog 27 #[.string ⟨#[48, 46, 49]⟩] W fun e w' => e = .returned (.tuple #[.float .f32 1036831949, .bool false, .int .i64 0]) ∧ Below W.heap.size W w') := ⟨fun W hb => by
  have h := literal_calls ⟨#[48, 46, 49]⟩ (by decide) W (hE.below hb)
  rw [aw5.1, aw5.2.1, aw5.2.2] at h
  exact h⟩
 have K6 : Aside0 (∀ W, Below w.heap.size w W → Calls Tryz.prog 27 #[.string ⟨#[45, 50, 46, 53, 48]⟩] W fun e w' => e = .returned (.tuple #[.float .f32 3223322624, .bool true, .int .i64 0]) ∧ Below W.heap.size W w') := ⟨fun W hb => by
  have h := literal_calls ⟨#[45, 50, 46, 53, 48]⟩ (by decide) W (hE.below hb)
  rw [aw6.1, aw6.2.1, aw6.2.2] at h
  exact h⟩
 have K7 : Aside0 (∀ W, Below w.heap.size w W → Calls Tryz.prog 18 #[.float .f32 1036831949] W fun e w' => e = .returned (.tuple #[.string ⟨#[49, 51, 52, 50, 49, 55, 55, 51, 47, 49, 51, 52, 50, 49, 55, 55, 50, 56]⟩, .int .i64 0]) ∧ Below W.heap.size W w') := ⟨fun W hb => by
  have h := from32_any (b := 1036831949) (by decide) W
  rw [aw7.1, aw7.2] at h
  exact h⟩
 have K8 : Aside0 (∀ W, Below w.heap.size w W → Calls Tryz.prog 19 #[.float .f32 1065353216] W fun e w' => e = .returned (.tuple #[.string ⟨#[49, 47, 56, 51, 56, 56, 54, 48, 56]⟩, .int .i64 0]) ∧ Below W.heap.size W w') := ⟨fun W hb => by
  have h := unit_calls (b := 1065353216) (by decide) W
  rw [aw8.1, aw8.2] at h
  exact h⟩
 have K9 : Aside0 (∀ W, Below w.heap.size w W → Calls Tryz.prog 13 #[.int .i64 19, .float .f32 1065353216, .float .f32 1077936128] W fun e w' => e = .returned (.tuple #[.float .f32 1051372203, .int .i64 0]) ∧ Below W.heap.size W w') := ⟨fun W hb => by
  have h := apply_quo (a := 1065353216) (b := 1077936128) (by decide) (by decide) (by decide) (by decide) (by decide) (by decide +kernel) W
  unfold NrO at h
  rw [aw9.1, aw9.2] at h
  exact h⟩
 have K10 : Aside0 (∀ W, Below w.heap.size w W → Calls Tryz.prog 13 #[.int .i64 19, .float .f32 1065353216, .float .f32 0] W fun e w' => e = .returned (.tuple #[.float .f32 0, .int .i64 30]) ∧ Below W.heap.size W w') := ⟨fun W hb => by
  have h := apply_div (a := 1065353216) (b := 0) (by decide) (by decide) (by decide) (by decide) (by decide) W
  exact h⟩
 have K11 : Aside0 (∀ W, Below w.heap.size w W → Calls Tryz.prog 43 #[.agg #[.string ⟨#[49, 47, 50]⟩, .string ⟨#[49, 47, 49]⟩], .agg #[.string ⟨#[49, 47, 50]⟩, .string ⟨#[45, 49, 47, 49]⟩]] W fun e w' => e = .returned (.tuple #[.agg #[.string ⟨#[53, 47, 52]⟩, .string ⟨#[48, 47, 49]⟩], .int .i64 0]) ∧ Below W.heap.size W w') := ⟨fun W hb => by
  have h := mulX_good (by decide) (by decide) (by decide) (by decide) aw10.1 aw10.2 W (hE.below hb)
  unfold EO at h
  rw [aw11.1, aw11.2.1, aw11.2.2] at h
  exact h⟩
 have K12 : Aside0 (∀ W, Below w.heap.size w W → Calls Tryz.prog 46 #[.agg #[.string ⟨#[49, 47, 49]⟩, .string ⟨#[48, 47, 49]⟩], .agg #[.string ⟨#[48, 47, 49]⟩, .string ⟨#[49, 47, 49]⟩]] W fun e w' => e = .returned (.tuple #[.agg #[.string ⟨#[48, 47, 49]⟩, .string ⟨#[45, 49, 47, 49]⟩], .int .i64 0]) ∧ Below W.heap.size W w') := ⟨fun W hb => by
  have h := divX_good (by decide) (by decide) (by decide) (by decide) aw12.1 aw12.2 (by decide +kernel) W (hE.below hb)
  unfold EO at h
  rw [aw13.1, aw13.2.1, aw13.2.2] at h
  exact h⟩
 have K13 : Aside0 (∀ W, Below w.heap.size w W → Calls Tryz.prog 45 #[.agg #[.string ⟨#[51, 47, 49]⟩, .string ⟨#[52, 47, 49]⟩]] W fun e w' => e = .returned (.tuple #[.string ⟨#[50, 53, 47, 49]⟩, .int .i64 0]) ∧ Below W.heap.size W w') := ⟨fun W hb => by
  have h := normX_calls ⟨#[51, 47, 49]⟩ ⟨#[52, 47, 49]⟩ (by decide) (by decide) W (hE.below hb)
  rw [aw14.1, aw14.2] at h
  exact h⟩
 have K14 : Aside0 (∀ W, Below w.heap.size w W → Calls Tryz.prog 39 #[.complex .f32 1065353216 1073741824, .complex .f32 1077936128 3212836864] W fun e w' => e = .returned (.tuple #[.complex .f32 1084227584 1084227584, .int .i64 0]) ∧ Below W.heap.size W w') := ⟨fun W hb => by
  have h := mulR_good (a0 := 1065353216) (a1 := 1073741824) (b0 := 1077936128) (b1 := 3212836864) (by decide) (by decide) (by decide) (by decide) (by decide) (by decide) (by decide) (by decide) W
  unfold SO at h
  rw [aw15.1, aw15.2.1, aw15.2.2] at h
  exact h⟩
 have K15 : Aside0 (∀ W, Below w.heap.size w W → Calls Tryz.prog 37 #[.complex .f64 4602678819172646912 13830554455654793216] W fun e w' => e = .returned (.tuple #[.agg #[.string ⟨#[49, 47, 50]⟩, .string ⟨#[45, 49, 47, 49]⟩], .int .i64 0]) ∧ Below W.heap.size W w') := ⟨fun W hb => by
  have h := from128_good false true (r := 4602678819172646912) (q := 4607182418800017408) (by decide) (by decide) W (hE.below hb)
  unfold EO at h
  rw [aw16.1, aw16.2.1, aw16.2.2] at h
  exact h⟩
 have e1 := eql_ex ⟨#[53, 47, 52]⟩ ⟨#[48, 47, 49]⟩ ⟨#[53, 47, 52]⟩ ⟨#[48, 47, 49]⟩
 have e2 := eql_ex ⟨#[48, 47, 49]⟩ ⟨#[45, 49, 47, 49]⟩ ⟨#[48, 47, 49]⟩ ⟨#[45, 49, 47, 49]⟩
 have e3 := eql_ex ⟨#[49, 47, 50]⟩ ⟨#[45, 49, 47, 49]⟩ ⟨#[49, 47, 50]⟩ ⟨#[45, 49, 47, 49]⟩
 rw [show (((⟨#[53, 47, 52]⟩ : ByteArray) == ⟨#[53, 47, 52]⟩) && ((⟨#[48, 47, 49]⟩ : ByteArray) == ⟨#[48, 47, 49]⟩)) = true by decide +kernel] at e1
 rw [show (((⟨#[48, 47, 49]⟩ : ByteArray) == ⟨#[48, 47, 49]⟩) && ((⟨#[45, 49, 47, 49]⟩ : ByteArray) == ⟨#[45, 49, 47, 49]⟩)) = true by decide +kernel] at e2
 rw [show (((⟨#[49, 47, 50]⟩ : ByteArray) == ⟨#[49, 47, 50]⟩) && ((⟨#[45, 49, 47, 49]⟩ : ByteArray) == ⟨#[45, 49, 47, 49]⟩)) = true by decide +kernel] at e3
 have qs1 : ((⟨#[45, 49, 47, 49, 48, 48, 54, 54, 51, 50, 57, 54]⟩ : ByteArray).toList == [45, 49, 47, 49, 48, 48, 54, 54, 51, 50, 57, 54]) = true := by rw [Lib.toList_data]; decide
 have qs2 : ((⟨#[49, 51, 52, 50, 49, 55, 55, 51, 47, 49, 51, 52, 50, 49, 55, 55, 50, 56]⟩ : ByteArray).toList == [49, 51, 52, 50, 49, 55, 55, 51, 47, 49, 51, 52, 50, 49, 55, 55, 50, 56]) = true := by rw [Lib.toList_data]; decide
 have qs3 : ((⟨#[49, 47, 56, 51, 56, 56, 54, 48, 56]⟩ : ByteArray).toList == [49, 47, 56, 51, 56, 56, 54, 48, 56]) = true := by rw [Lib.toList_data]; decide
 have qs4 : ((⟨#[50, 53, 47, 49]⟩ : ByteArray).toList == [50, 53, 47, 49]) = true := by rw [Lib.toList_data]; decide
 have o1 : (FloatKind.f32.format.order 1266679808 1266679808 == some .eq) = true := by decide +kernel
 have o2 : (FloatKind.f32.format.order 1266679810 1266679810 == some .eq) = true := by decide +kernel
 have o3 : (FloatKind.f32.format.order 3223322624 3223322624 == some .eq) = true := by decide +kernel
 have o4 : (FloatKind.f32.format.order 1084227584 1084227584 == some .eq) = true := by decide +kernel
 have hbt := run_bits32 1051372203
 clear hE
 obtain ⟨s1, hs1⟩ : ∃ s1 : ByteArray, ⟨#[45, 49, 47, 49, 48, 48, 54, 54, 51, 50, 57, 54]⟩ = s1 := ⟨_, rfl⟩
 obtain ⟨s2, hs2⟩ : ∃ s2 : ByteArray, ⟨#[49, 51, 52, 50, 49, 55, 55, 51, 47, 49, 51, 52, 50, 49, 55, 55, 50, 56]⟩ = s2 := ⟨_, rfl⟩
 obtain ⟨s3, hs3⟩ : ∃ s3 : ByteArray, ⟨#[49, 47, 56, 51, 56, 56, 54, 48, 56]⟩ = s3 := ⟨_, rfl⟩
 obtain ⟨s4, hs4⟩ : ∃ s4 : ByteArray, ⟨#[50, 53, 47, 49]⟩ = s4 := ⟨_, rfl⟩
 rw [hs1] at K4 qs1
 rw [hs2] at K7 qs2
 rw [hs3] at K8 qs3
 rw [hs4] at K13 qs4
 clear hs1 hs2 hs3 hs4
 have HC := Aside0.mk (Below.refl w.heap.size w)
 go_enter Tryz.func22, Tryz.ntmps22
 go_upto_region 12 with (first | (go_at_call 23; (with_reducible refine (K1.out _ HC.out).mono ?_); rintro e VK1 ⟨rfl, hbx⟩; have HC2 := Aside0.mk (HC.out.trans (hbx.mono HC.out.size)); clear HC; have HC := HC2; clear HC2 hbx) | (go_at_call 23; (with_reducible refine (K2.out _ HC.out).mono ?_); rintro e VK2 ⟨rfl, hbx⟩; have HC2 := Aside0.mk (HC.out.trans (hbx.mono HC.out.size)); clear HC; have HC := HC2; clear HC2 hbx) | (go_at_call 23; (with_reducible refine (K3.out _ HC.out).mono ?_); rintro e VK3 ⟨rfl, hbx⟩; have HC2 := Aside0.mk (HC.out.trans (hbx.mono HC.out.size)); clear HC; have HC := HC2; clear HC2 hbx) | (go_at_call 20; (with_reducible refine (K4.out _ HC.out).mono ?_); rintro e VK4 ⟨rfl, hbx⟩; have HC2 := Aside0.mk (HC.out.trans (hbx.mono HC.out.size)); clear HC; have HC := HC2; clear HC2 hbx) | (go_at_call 27; (with_reducible refine (K5.out _ HC.out).mono ?_); rintro e VK5 ⟨rfl, hbx⟩; have HC2 := Aside0.mk (HC.out.trans (hbx.mono HC.out.size)); clear HC; have HC := HC2; clear HC2 hbx) | (go_at_call 27; (with_reducible refine (K6.out _ HC.out).mono ?_); rintro e VK6 ⟨rfl, hbx⟩; have HC2 := Aside0.mk (HC.out.trans (hbx.mono HC.out.size)); clear HC; have HC := HC2; clear HC2 hbx) | (go_at_call 18; (with_reducible refine (K7.out _ HC.out).mono ?_); rintro e VK7 ⟨rfl, hbx⟩; have HC2 := Aside0.mk (HC.out.trans (hbx.mono HC.out.size)); clear HC; have HC := HC2; clear HC2 hbx) | (go_at_call 19; (with_reducible refine (K8.out _ HC.out).mono ?_); rintro e VK8 ⟨rfl, hbx⟩; have HC2 := Aside0.mk (HC.out.trans (hbx.mono HC.out.size)); clear HC; have HC := HC2; clear HC2 hbx) | (go_at_call 13; (with_reducible refine (K9.out _ HC.out).mono ?_); rintro e VK9 ⟨rfl, hbx⟩; have HC2 := Aside0.mk (HC.out.trans (hbx.mono HC.out.size)); clear HC; have HC := HC2; clear HC2 hbx) | (go_at_call 13; (with_reducible refine (K10.out _ HC.out).mono ?_); rintro e VK10 ⟨rfl, hbx⟩; have HC2 := Aside0.mk (HC.out.trans (hbx.mono HC.out.size)); clear HC; have HC := HC2; clear HC2 hbx) | (go_at_call 43; (with_reducible refine (K11.out _ HC.out).mono ?_); rintro e VK11 ⟨rfl, hbx⟩; have HC2 := Aside0.mk (HC.out.trans (hbx.mono HC.out.size)); clear HC; have HC := HC2; clear HC2 hbx))
 obtain ⟨X1, hX1⟩ : ∃ X, VK11.alloc (.cells #[.string ⟨#[53, 47, 52]⟩, .string ⟨#[48, 47, 49]⟩] 57) = X := ⟨_, rfl⟩
 obtain ⟨g1, hg1⟩ : ∃ g, VK11.heap.size = g := ⟨_, rfl⟩
 have HE1 : Aside0 (EF X1 g1 ⟨#[53, 47, 52]⟩ ⟨#[48, 47, 49]⟩ ∧ Below w.heap.size w X1) := ⟨by
  have b0 := below_alloc (Below.refl VK11.heap.size VK11) (.cells #[.string ⟨#[53, 47, 52]⟩, .string ⟨#[48, 47, 49]⟩] 57)
  rw [hX1] at b0
  have n0 : EF X1 g1 ⟨#[53, 47, 52]⟩ ⟨#[48, 47, 49]⟩ := by rw [← hX1, ← hg1]; exact heap_alloc_new VK11 _
  exact ⟨n0, HC.out.trans (b0.mono HC.out.size)⟩⟩
 rw [hX1, hg1]
 clear hX1 hg1
 clear HC
 have HC := Aside0.mk HE1.out.2
 go_upto_region 13 with (go_at_call 46; (with_reducible refine (K12.out _ HC.out).mono ?_); rintro e VK12 ⟨rfl, hbx⟩; have HC2 := Aside0.mk (HC.out.trans (hbx.mono HC.out.size)); have HD2 : Aside0 (Below X1.heap.size X1 VK12) := ⟨by first | exact HD.out.trans (hbx.mono HD.out.size) | exact hbx⟩; clear HC; (try clear HD); have HC := HC2; have HD := HD2; clear HC2 HD2 hbx)
 obtain ⟨X2, hX2⟩ : ∃ X, VK12.alloc (.cells #[.string ⟨#[48, 47, 49]⟩, .string ⟨#[45, 49, 47, 49]⟩] 57) = X := ⟨_, rfl⟩
 obtain ⟨g2, hg2⟩ : ∃ g, VK12.heap.size = g := ⟨_, rfl⟩
 have HE2 : Aside0 (EF X2 g1 ⟨#[53, 47, 52]⟩ ⟨#[48, 47, 49]⟩ ∧ EF X2 g2 ⟨#[48, 47, 49]⟩ ⟨#[45, 49, 47, 49]⟩ ∧ Below w.heap.size w X2) := ⟨by
  have b0 := below_alloc (Below.refl VK12.heap.size VK12) (.cells #[.string ⟨#[48, 47, 49]⟩, .string ⟨#[45, 49, 47, 49]⟩] 57)
  rw [hX2] at b0
  have n0 : EF X2 g2 ⟨#[48, 47, 49]⟩ ⟨#[45, 49, 47, 49]⟩ := by rw [← hX2, ← hg2]; exact heap_alloc_new VK12 _
  exact ⟨((HE1.out.1.below HD.out).below b0), n0, HC.out.trans (b0.mono HC.out.size)⟩⟩
 rw [hX2, hg2]
 clear hX2 hg2
 clear HC
 have HC := Aside0.mk HE2.out.2.2
 clear HD
 go_upto_region 16 with (first | (go_at_call 45; (with_reducible refine (K13.out _ HC.out).mono ?_); rintro e VK13 ⟨rfl, hbx⟩; have HC2 := Aside0.mk (HC.out.trans (hbx.mono HC.out.size)); have HD2 : Aside0 (Below X2.heap.size X2 VK13) := ⟨by first | exact HD.out.trans (hbx.mono HD.out.size) | exact hbx⟩; clear HC; (try clear HD); have HC := HC2; have HD := HD2; clear HC2 HD2 hbx) | (go_at_call 39; (with_reducible refine (K14.out _ HC.out).mono ?_); rintro e VK14 ⟨rfl, hbx⟩; have HC2 := Aside0.mk (HC.out.trans (hbx.mono HC.out.size)); have HD2 : Aside0 (Below X2.heap.size X2 VK14) := ⟨by first | exact HD.out.trans (hbx.mono HD.out.size) | exact hbx⟩; clear HC; (try clear HD); have HC := HC2; have HD := HD2; clear HC2 HD2 hbx) | (go_at_call 37; (with_reducible refine (K15.out _ HC.out).mono ?_); rintro e VK15 ⟨rfl, hbx⟩; have HC2 := Aside0.mk (HC.out.trans (hbx.mono HC.out.size)); have HD2 : Aside0 (Below X2.heap.size X2 VK15) := ⟨by first | exact HD.out.trans (hbx.mono HD.out.size) | exact hbx⟩; clear HC; (try clear HD); have HC := HC2; have HD := HD2; clear HC2 HD2 hbx))
 obtain ⟨X3, hX3⟩ : ∃ X, VK15.alloc (.cells #[.string ⟨#[49, 47, 50]⟩, .string ⟨#[45, 49, 47, 49]⟩] 57) = X := ⟨_, rfl⟩
 obtain ⟨g3, hg3⟩ : ∃ g, VK15.heap.size = g := ⟨_, rfl⟩
 have HE3 : Aside0 (EF X3 g1 ⟨#[53, 47, 52]⟩ ⟨#[48, 47, 49]⟩ ∧ EF X3 g2 ⟨#[48, 47, 49]⟩ ⟨#[45, 49, 47, 49]⟩ ∧ EF X3 g3 ⟨#[49, 47, 50]⟩ ⟨#[45, 49, 47, 49]⟩ ∧ Below w.heap.size w X3) := ⟨by
  have b0 := below_alloc (Below.refl VK15.heap.size VK15) (.cells #[.string ⟨#[49, 47, 50]⟩, .string ⟨#[45, 49, 47, 49]⟩] 57)
  rw [hX3] at b0
  have n0 : EF X3 g3 ⟨#[49, 47, 50]⟩ ⟨#[45, 49, 47, 49]⟩ := by rw [← hX3, ← hg3]; exact heap_alloc_new VK15 _
  exact ⟨((HE2.out.1.below HD.out).below b0), ((HE2.out.2.1.below HD.out).below b0), n0, HC.out.trans (b0.mono HC.out.size)⟩⟩
 rw [hX3, hg3]
 clear hX3 hg3
 clear HC
 have HC := Aside0.mk HE3.out.2.2.2
 have c1 := HE3.out.1.cell0
 have c2 := HE3.out.1.cell1
 have c3 := HE3.out.2.1.cell0
 have c4 := HE3.out.2.1.cell1
 have c5 := HE3.out.2.2.1.cell0
 have c6 := HE3.out.2.2.1.cell1
 clear HD HE1 HE2
 go_wp2_with (go_at_call 25; (with_reducible refine (same_calls _ _ _).mono ?_); rintro e w1 ⟨rfl, hww⟩; rw [hww]; clear hww w1)
 go_ret
 exact ⟨by first | rfl | simp, HC.out⟩
theorem cut_evnO (neg : Bool) (m d : Nat) : Toward.even.cut neg m d = evn m (2 ^ d) := by
 rcases Nat.lt_or_ge (m.log2 + 2) d with h | h
 ·have hm : m < 2 ^ (m.log2 + 1) := Nat.lt_log2_self
  have h2 : 2 ^ (m.log2 + 2) = 2 * 2 ^ (m.log2 + 1) := by rw [Nat.pow_succ, Nat.mul_comm]
  have h3 : 2 ^ (m.log2 + 2) ≤ 2 ^ d := Nat.pow_le_pow_right (by omega) (by omega)
  rw [evn_small (by omega)]
  unfold Toward.cut
  rw [Nat.min_eq_right (by omega), Nat.one_shiftLeft]
  dsimp only
  rw [Nat.div_eq_of_lt (by omega), Nat.mod_eq_of_lt (by omega), decide_eq_false (by omega)]
  have : (2 ^ (m.log2 + 2) == 2 * m) = false := by rw [beq_eq_false_iff_ne]; omega
  rw [this]; rfl
 ·unfold Toward.cut evn
  rw [Nat.min_eq_left h, Nat.one_shiftLeft]
  dsimp only
  congr 1
  generalize m / 2 ^ d = L
  generalize m % 2 ^ d = R
  generalize 2 ^ d = G
  by_cases h1 : G < 2 * R
  ·rw [decide_eq_true h1, if_pos (.inl h1)]; rfl
  ·by_cases h2 : G = 2 * R
   ·by_cases h3 : L % 2 = 1
    ·rw [if_pos (.inr ⟨h2.symm, h3⟩)]; simp [h2, h3]
    ·rw [if_neg (by omega)]; simp [h2, h3]
   ·rw [if_neg (by omega), decide_eq_false h1]
    have : (G == 2 * R) = false := by rw [beq_eq_false_iff_ne]; exact h2
    rw [this]; rfl
theorem lgf_dyO {m : Nat} (hm : 0 < m) (e : Int) : lgf (vp m e) (vq e) = e + m.log2 := by
 have a1 := Nat.log2_self_le (Nat.pos_iff_ne_zero.1 hm)
 have a2 : m < 2 ^ (m.log2 + 1) := Nat.lt_log2_self
 symm
 refine lgf_unique (Nat.mul_pos hm (pp _)) (vq_pos _) ?_ ?_
 ·rw [le2_iff (e.toNat + m.log2) (-e).toNat (by omega)]
  unfold vq
  rw [Nat.mul_comm, Nat.pow_add, Nat.mul_comm (2 ^ e.toNat)]
  exact Nat.mul_le_mul_right _ (Nat.mul_le_mul_right _ a1)
 ·rw [le2_iff (e.toNat + (m.log2 + 1)) (-e).toNat (by omega)]
  unfold vq
  rw [Nat.mul_comm, Nat.pow_add, Nat.mul_comm (2 ^ e.toNat), Nat.not_le]
  exact Nat.mul_lt_mul_of_pos_right (Nat.mul_lt_mul_of_pos_right a2 (pp _)) (pp _)
/-- The nearest float32 of a number with a power of two. -/
theorem nearest_nearO (s : Bool) {m : Nat} (hm : 0 < m) (e : Int) :
 single.nearest s m e = match near s (vp m e) (vq e) with
  | none => S32 s + 2139095040
  | some b => if b = 0 then S32 s else b := by
 have hp : 0 < vp m e := Nat.mul_pos hm (pp _)
 have hq := vq_pos e
 have hE : expE (vp m e) (vq e) = max (e + m.log2 - 23) (-149) := by
  unfold expE
  rw [if_neg (by omega), lgf_dyO hm]
 have hrm : rm (vp m e) (vq e) = Toward.even.cut s (m <<< (e - expE (vp m e) (vq e)).toNat) (expE (vp m e) (vq e) - e).toNat := by
  unfold rm
  generalize expE (vp m e) (vq e) = E
  rw [cut_evnO, Nat.shiftLeft_eq]
  refine evn_same (upB_pos hq _) (pp _) ?_
  unfold upA upB vp vq
  rw [Nat.mul_assoc, Nat.mul_assoc, Nat.mul_assoc, ← Nat.pow_add, ← Nat.pow_add, ← Nat.pow_add, ← Nat.pow_add]
  congr 2
  omega
 have hle := rm_le (p := vp m e) hq
 have hge := rm_ge (p := vp m e) hq
 have hlow := expE_low (vp m e) (vq e)
 unfold Format.nearest
 rw [if_neg (by omega), slp, show ((single.fractionBits : Nat) : Int) = 23 from rfl, ← hE]
 dsimp only
 rw [← hrm, sword, sinf, sbin]
 unfold near
 by_cases h0 : rm (vp m e) (vq e) = 0
 ·rw [if_pos h0, h0]
  have : expE (vp m e) (vq e) = -149 := by
   rcases Int.lt_or_le (-149) (expE (vp m e) (vq e)) with h | h
   ·have := hge h; omega
   ·omega
  rw [this]; simp
 ·rw [if_neg h0]
  have hw1 : wid (rm (vp m e) (vq e)) ≤ 24 ↔ rm (vp m e) (vq e) < 16777216 := by rw [wid_le]
  have hw2 : 23 < wid (rm (vp m e) (vq e)) ↔ 8388608 ≤ rm (vp m e) (vq e) := by rw [wid_gt]
  have hw3 : wid (rm (vp m e) (vq e)) ≤ 25 := by
   rw [wid_le]
   have e : (2 : Nat) ^ 25 = 33554432 := by decide
   omega
  generalize rm (vp m e) (vq e) = R at *
  generalize expE (vp m e) (vq e) = E at *
  have hsub : (E - -149).toNat = (E + 149).toNat := by omega
  rw [hsub]
  have hiff : ((wid R : Int) + E > 128) ↔ 2139095040 ≤ (E + 149).toNat * 8388608 + R := by
   rcases Int.lt_or_le (-149) E with h | h
   ·have := hge h
    by_cases h6 : R < 16777216 <;> omega
   ·omega
  by_cases h1 : (wid R : Int) + E > 128
  ·rw [if_pos h1, Nat.min_eq_right (hiff.1 h1)]
  ·rw [if_neg h1, Nat.min_eq_left (by omega)]
   show _ = if _ = 0 then _ else _
   rw [if_neg (by omega)]
   rfl
/-- A word of Go's own beside what Apply answers: finite and the same number, or infinite and out of range. -/
structure OkOp (s : Bool) (p q z : Nat) : Prop where
 lt : z < 4294967296
 or : (fin32 z = true ∧ nrE s p q = 0 ∧ nrW s p q < 4294967296 ∧ fin32 (nrW s p q) = true ∧ sw (nrW s p q) = sw z) ∨ (fin32 z = false ∧ nrE s p q = 3)
theorem fin_zero (S : Bool) : S32 S < 4294967296 ∧ fin32 (S32 S) = true ∧ sw (S32 S) = 0 := by cases S <;> decide
theorem near_zeroP (s : Bool) (q : Nat) : near s 0 q = some 0 := by
 unfold near rm
 rw [if_pos]
 unfold evn upA
 simp [Nat.zero_mod]
theorem op_near {S : Bool} {M p q : Nat} {E : Int} (hq : 0 < q) (hM : 0 < M) (e : near S (vp M E) (vq E) = near S p q) : OkOp S p q (single.nearest S M E) := by
 rw [nearest_nearO S hM E, e]
 cases hn : near S p q with
 | none =>
   refine ⟨?_, .inr ⟨?_, ?_⟩⟩
   ·cases S <;> decide
   ·cases S <;> decide
   ·unfold nrE; rw [hn]; rfl
 | some c =>
   obtain ⟨g1, g2⟩ := near_lt hq hn
   have hW : nrW S p q = c := by unfold nrW; rw [hn]; rfl
   have hE : nrE S p q = 0 := by unfold nrE; rw [hn]; rfl
   have hf : fin32 c = true := decide_eq_true g1
   show OkOp S p q (if c = 0 then S32 S else c)
   by_cases hc : c = 0
   ·rw [if_pos hc]
    obtain ⟨k1, k2, k3⟩ := fin_zero S
    subst hc
    exact ⟨k1, .inl ⟨k2, hE, by rw [hW]; decide, by rw [hW]; decide, by rw [hW, k3]; decide⟩⟩
   ·rw [if_neg hc]
    exact ⟨g2, .inl ⟨hf, hE, by rw [hW]; exact g2, by rw [hW]; exact hf, by rw [hW]⟩⟩
theorem op_core {S s : Bool} {M p q : Nat} {E : Int} (hq : 0 < q) (h : p * vq E = vp M E * q) (hs : 0 < M → S = s) : OkOp s p q (single.nearest S M E) := by
 by_cases hM : M = 0
 ·subst hM
  have hp : p = 0 := by
   rw [vp_zero, Nat.zero_mul] at h
   rcases Nat.mul_eq_zero.1 h with h | h
   ·exact h
   ·have := vq_pos E; omega
  subst hp
  have e : single.nearest S 0 E = S32 S := by
   unfold Format.nearest
   rw [if_pos rfl, sword]
   rfl
  obtain ⟨k1, k2, k3⟩ := fin_zero S
  rw [e]
  refine ⟨k1, .inl ⟨k2, ?_, ?_, ?_, ?_⟩⟩
  ·unfold nrE; rw [near_zeroP]; rfl
  ·unfold nrW; rw [near_zeroP]; decide
  ·unfold nrW; rw [near_zeroP]; decide
  ·unfold nrW; rw [near_zeroP, k3]; decide
 ·have hS := hs (Nat.pos_of_ne_zero hM)
  subst hS
  exact op_near hq (Nat.pos_of_ne_zero hM) (near_same (vq_pos E) hq h.symm)
theorem units {p q M : Nat} {E : Int} (k : Nat) (hE : -(k : Int) ≤ E) (h : p * 2 ^ k = M * 2 ^ (E + k).toNat * q) : p * vq E = vp M E * q := by
 refine Nat.eq_of_mul_eq_mul_right (pp k) ?_
 unfold vq vp
 have e : (E + k).toNat + (-E).toNat = E.toNat + k := by omega
 calc p * 2 ^ (-E).toNat * 2 ^ k = p * 2 ^ k * 2 ^ (-E).toNat := Nat.mul_right_comm ..
  _ = M * q * (2 ^ (E + k).toNat * 2 ^ (-E).toNat) := by rw [h]; ac_rfl
  _ = M * q * (2 ^ E.toNat * 2 ^ k) := by rw [← Nat.pow_add, e, Nat.pow_add]
  _ = M * 2 ^ E.toNat * q * 2 ^ k := by ac_rfl
/-- A finite word in units of the least place. -/
theorem fv_nat {b : Nat} (hf : fin32 b = true) : fvP b * 2 ^ 149 = sg32 (b % 2147483648) * 2 ^ (pl32 (b % 2147483648) + 149).toNat * fvQ b ∧ (0 < sg32 (b % 2147483648) → fvS b = neg32 b) ∧ (sg32 (b % 2147483648) = 0 → fvP b = 0) := by
 have hr : b % 2147483648 < 2139095040 := of_decide_eq_true hf
 unfold fvP fvQ fvS
 generalize b % 2147483648 = r at *
 have hl := pl32_ge r
 have hm := sg32_lt r
 have hx : sg32 r ≠ 0 → -1022 ≤ pl32 r + (sg32 r).log2 := fun h => by omega
 have h1 : -1022 ≤ pl32 r + (sg32 r).log2 := by omega
 have key : exP (w32 r) * vq (pl32 r) = vp (sg32 r) (pl32 r) * exQ (w32 r) := ex_dbl (by omega) h1
 refine ⟨?_, ?_, ?_⟩
 ·refine Nat.eq_of_mul_eq_mul_right (vq_pos (pl32 r)) ?_
  have e : (pl32 r).toNat + 149 = (pl32 r + 149).toNat + (-(pl32 r)).toNat := by omega
  calc exP (w32 r) * 2 ^ 149 * vq (pl32 r) = exP (w32 r) * vq (pl32 r) * 2 ^ 149 := Nat.mul_right_comm ..
   _ = sg32 r * exQ (w32 r) * (2 ^ (pl32 r).toNat * 2 ^ 149) := by rw [key]; unfold vp; ac_rfl
   _ = sg32 r * exQ (w32 r) * (2 ^ (pl32 r + 149).toNat * 2 ^ (-(pl32 r)).toNat) := by rw [← Nat.pow_add, e, Nat.pow_add]
   _ = sg32 r * 2 ^ (pl32 r + 149).toNat * exQ (w32 r) * vq (pl32 r) := by unfold vq; ac_rfl
 ·intro h0
  unfold exS
  have : w32 r ≠ 0 := by
   intro e
   rw [e] at key
   have z : exP 0 = 0 := by unfold exP exm; rw [if_pos rfl, vp_zero]
   rw [z, Nat.zero_mul] at key
   have q0 : 0 < exQ 0 := vq_pos _
   have := Nat.mul_pos (Nat.mul_pos h0 (pp (pl32 r).toNat)) q0
   unfold vp at key
   omega
  rw [decide_eq_true this, Bool.and_true]
 ·intro h0
  rw [h0, vp_zero, Nat.zero_mul] at key
  rcases Nat.mul_eq_zero.1 key with h | h
  ·exact h
  ·have := vq_pos (pl32 r); omega
/-- .. with its sign. -/
theorem fv_int {b : Nat} (hf : fin32 b = true) : sgI (fvS b) (fvP b) * 2 ^ 149 = sgI (neg32 b) (sg32 (b % 2147483648) * 2 ^ (pl32 (b % 2147483648) + 149).toNat) * fvQ b := by
 obtain ⟨h1, h2, h3⟩ := fv_nat hf
 have h1' : (fvP b : Int) * 2 ^ 149 = (sg32 (b % 2147483648) * 2 ^ (pl32 (b % 2147483648) + 149).toNat : Nat) * fvQ b := by exact_mod_cast h1
 by_cases h0 : sg32 (b % 2147483648) = 0
 ·rw [h3 h0, h0, Nat.zero_mul]
  unfold sgI
  cases fvS b <;> cases neg32 b <;> simp
 ·rw [h2 (Nat.pos_of_ne_zero h0), sgI_one, sgI_one, Int.mul_assoc, h1', Int.mul_assoc]
theorem signed_sgI (s : Bool) (m k : Nat) : signed s m k = sgI s (m * 2 ^ k) := by
 unfold signed sgI
 rw [Nat.shiftLeft_eq]
theorem sgI_lt {s : Bool} {p : Nat} (h : sgI s p ≠ 0) : s = decide (sgI s p < 0) := by
 unfold sgI at *
 cases s
 ·simp at h ⊢
 ·simp at h ⊢; omega
theorem sum_core {s t : Bool} {m n : Nat} {i j : Int} (hi : -149 ≤ i) (hj : -149 ≤ j) {va vb : Int} {qa qb : Nat} (ha : 0 < qa) (hb : 0 < qb)
 (h1 : va * 2 ^ 149 = sgI s (m * 2 ^ (i + 149).toNat) * qa) (h2 : vb * 2 ^ 149 = sgI t (n * 2 ^ (j + 149).toNat) * qb) {z : Bool} {p : Nat} (hv : sgI z p = va * qb + vb * qa) :
 ∃ r, ((Datum.number s m i).sum (Datum.number t n j)).map single.write = some r ∧ OkOp z p (qa * qb) r := by
 refine ⟨_, rfl, ?_⟩
 show OkOp z p (qa * qb) (single.nearest _ _ _)
 rw [signed_sgI, signed_sgI]
 obtain ⟨B, hB⟩ : ∃ B, min i j = B := ⟨_, rfl⟩
 rw [hB]
 have hBl : -149 ≤ B := by omega
 obtain ⟨T, hT⟩ : ∃ T, sgI s (m * 2 ^ (i - B).toNat) + sgI t (n * 2 ^ (j - B).toNat) = T := ⟨_, rfl⟩
 rw [hT]
 have up : ∀ (s : Bool) (m : Nat) (i : Int), B ≤ i → sgI s (m * 2 ^ (i + 149).toNat) = sgI s (m * 2 ^ (i - B).toNat) * (2 ^ (B + 149).toNat : Nat) := fun s m i h => by
  rw [← sgI_mul, Nat.mul_assoc, ← Nat.pow_add]
  congr 3
  omega
 rw [up s m i (by omega)] at h1
 rw [up t n j (by omega)] at h2
 have key : sgI z p * 2 ^ 149 = T * (2 ^ (B + 149).toNat : Nat) * (qa * qb : Nat) := by
  rw [hv, ← hT]
  push_cast at h1 h2 ⊢
  generalize ((2 : Int) ^ (B + 149).toNat) = C at *
  generalize ((2 : Int) ^ 149) = D at *
  grind
 have keyN : p * 2 ^ 149 = T.natAbs * 2 ^ (B + 149).toNat * (qa * qb) := by
  have := congrArg Int.natAbs key
  rw [Int.natAbs_mul, Int.natAbs_mul, Int.natAbs_mul, sgI_abs, Int.natAbs_natCast, Int.natAbs_natCast] at this
  exact this
 refine op_core (Nat.mul_pos ha hb) (units 149 (by omega) keyN) (fun hM => ?_)
 have hT0 : T ≠ 0 := by omega
 rw [if_neg hT0]
 have c1 : (0 : Int) < (2 ^ (B + 149).toNat : Nat) * (qa * qb : Nat) := by
  have := Nat.mul_pos (pp (B + 149).toNat) (Nat.mul_pos ha hb)
  exact_mod_cast this
 rw [Int.mul_assoc] at key
 generalize ((2 ^ (B + 149).toNat : Nat) : Int) * (qa * qb : Nat) = C at *
 have c2 : (0 : Int) < 2 ^ 149 := by decide
 generalize ((2 : Int) ^ 149) = D at *
 rcases Int.lt_or_gt_of_ne hT0 with h | h
 ·have k1 : T * C < 0 := Int.mul_neg_of_neg_of_pos h c1
  rw [← key] at k1
  have k2 : sgI z p < 0 := by
   rcases Int.lt_or_le (sgI z p) 0 with h5 | h5
   ·exact h5
   ·have := Int.mul_nonneg h5 (Int.le_of_lt c2); omega
  rw [sgI_lt (s := z) (p := p) (by omega), decide_eq_true h, decide_eq_true k2]
 ·have k1 : 0 < T * C := Int.mul_pos h c1
  rw [← key] at k1
  have k2 : 0 < sgI z p := by
   rcases Int.lt_or_le 0 (sgI z p) with h5 | h5
   ·exact h5
   ·have : sgI z p * D ≤ 0 * D := Int.mul_le_mul_of_nonneg_right h5 (Int.le_of_lt c2)
    omega
  rw [sgI_lt (s := z) (p := p) (by omega), decide_eq_false (by omega), decide_eq_false (by omega)]
section
variable {a b : Nat}
theorem read_w {a : Nat} (ha : a < 4294967296) (hf : fin32 a = true) : single.read a = .number (neg32 a) (sg32 (a % 2147483648)) (pl32 (a % 2147483648)) := by
 have e := split32 ha
 have := read32 (neg32 a) (r := a % 2147483648) (of_decide_eq_true hf)
 rw [← e] at this
 exact this
theorem go_add (ha : a < 4294967296) (hf : fin32 a = true) (hb : b < 4294967296) (hg : fin32 b = true) :
 ∃ r, floatBits .add .f32 a b = some r ∧ OkOp (plS (fvS a) (fvP a * fvQ b) (fvS b) (fvP b * fvQ a)) (plN (fvS a) (fvP a * fvQ b) (fvS b) (fvP b * fvQ a)) (fvQ a * fvQ b) r := by
 show ∃ r, single.add a b = some r ∧ _
 unfold Format.add
 rw [read_w ha hf, read_w hb hg]
 refine sum_core (pl32_ge _) (pl32_ge _) (fv_sz hf).2.2 (fv_sz hg).2.2 (fv_int hf) (fv_int hg) ?_
 rw [pl_int, sgI_mul, sgI_mul]
theorem go_sub (ha : a < 4294967296) (hf : fin32 a = true) (hb : b < 4294967296) (hg : fin32 b = true) :
 ∃ r, floatBits .sub .f32 a b = some r ∧ OkOp (plS (fvS a) (fvP a * fvQ b) (!(fvS b)) (fvP b * fvQ a)) (plN (fvS a) (fvP a * fvQ b) (!(fvS b)) (fvP b * fvQ a)) (fvQ a * fvQ b) r := by
 show ∃ r, single.sub a b = some r ∧ _
 unfold Format.sub
 rw [read_w ha hf, read_w hb hg]
 refine sum_core (pl32_ge _) (pl32_ge _) (fv_sz hf).2.2 (fv_sz hg).2.2 (fv_int hf) (vb := sgI (!(fvS b)) (fvP b)) ?_ ?_
 ·rw [sgI_not, sgI_not, Int.neg_mul, Int.neg_mul, fv_int hg]
 ·rw [pl_int, sgI_mul, sgI_mul]
set_option exponentiation.threshold 400 in
theorem go_mul (ha : a < 4294967296) (hf : fin32 a = true) (hb : b < 4294967296) (hg : fin32 b = true) :
 ∃ r, floatBits .mul .f32 a b = some r ∧ OkOp (!(fvS a == fvS b)) (fvP a * fvP b) (fvQ a * fvQ b) r := by
 show ∃ r, single.mul a b = some r ∧ _
 unfold Format.mul
 rw [read_w ha hf, read_w hb hg]
 refine ⟨_, rfl, ?_⟩
 show OkOp _ _ _ (single.nearest _ _ _)
 obtain ⟨a1, a2, a3⟩ := fv_nat hf
 obtain ⟨b1, b2, b3⟩ := fv_nat hg
 have la := pl32_ge (a % 2147483648)
 have lb := pl32_ge (b % 2147483648)
 generalize sg32 (a % 2147483648) = m at *
 generalize sg32 (b % 2147483648) = n at *
 generalize pl32 (a % 2147483648) = i at *
 generalize pl32 (b % 2147483648) = j at *
 refine op_core (Nat.mul_pos (fv_sz hf).2.2 (fv_sz hg).2.2) (units (149 + 149) (by omega) ?_) (fun hM => ?_)
 ·have e : (i + j + ((149 + 149 : Nat) : Int)).toNat = (i + 149).toNat + (j + 149).toNat := by omega
  calc fvP a * fvP b * 2 ^ (149 + 149) = (fvP a * 2 ^ 149) * (fvP b * 2 ^ 149) := by rw [Nat.pow_add]; ac_rfl
   _ = m * n * (2 ^ (i + 149).toNat * 2 ^ (j + 149).toNat) * (fvQ a * fvQ b) := by rw [a1, b1]; ac_rfl
   _ = m * n * 2 ^ (i + j + ((149 + 149 : Nat) : Int)).toNat * (fvQ a * fvQ b) := by rw [← Nat.pow_add, e]
 ·have hm : 0 < m := Nat.pos_of_mul_pos_right hM
  have hn : 0 < n := Nat.pos_of_mul_pos_left hM
  rw [a2 hm, b2 hn]
  cases neg32 a <;> cases neg32 b <;> rfl
end
/-- Rounding asks of what lies below the whole part only whether it is nought. -/
theorem evn_stick {f n r u : Nat} (hr : r < n) (hu : 0 < u) : evn (f * n + r) (n * (2 * u)) = f / (2 * u) + (if (u < f % (2 * u) ∨ (f % (2 * u) = u ∧ 0 < r)) ∨ (f % (2 * u) = u ∧ r = 0 ∧ f / (2 * u) % 2 = 1) then 1 else 0) := by
 have hn : 0 < n := by omega
 have e1 : (f * n + r) / n = f := by
  rw [Nat.add_comm, Nat.add_mul_div_right _ _ hn, Nat.div_eq_of_lt hr, Nat.zero_add]
 have e2 : (f * n + r) % n = r := by
  rw [Nat.add_comm, Nat.add_mul_mod_self_right, Nat.mod_eq_of_lt hr]
 have h1 : (f * n + r) / (n * (2 * u)) = f / (2 * u) := by rw [← Nat.div_div_eq_div_mul, e1]
 have h2 : (f * n + r) % (n * (2 * u)) = n * (f % (2 * u)) + r := by rw [Nat.mod_mul, e1, e2, Nat.add_comm]
 unfold evn
 rw [h1, h2]
 generalize f % (2 * u) = g
 generalize f / (2 * u) = d
 congr 1
 have k1 : n * (2 * u) = 2 * (n * u) := Nat.mul_left_comm ..
 rw [k1]
 rcases Nat.lt_trichotomy g u with h | h | h
 ·have := Nat.mul_le_mul_left n (show g + 1 ≤ u from h)
  rw [Nat.mul_add, Nat.mul_one] at this
  rw [if_neg (by omega), if_neg (by omega)]
 ·subst h
  by_cases hr0 : r = 0
  ·subst hr0
   by_cases hd : d % 2 = 1
   ·rw [if_pos (by omega), if_pos (by omega)]
   ·rw [if_neg (by omega), if_neg (by omega)]
  ·rw [if_pos (by omega), if_pos (by omega)]
 ·have := Nat.mul_le_mul_left n (show u + 1 ≤ g from h)
  rw [Nat.mul_add, Nat.mul_one] at this
  rw [if_pos (by omega), if_pos (by omega)]
theorem log2_stick {f st : Nat} (hf : f ≠ 0) (hs : st < 2) : (2 * f + st).log2 = f.log2 + 1 := by
 have a := Nat.log2_self_le hf
 have b := Nat.lt_log2_self (n := f)
 refine (Nat.log2_eq_iff (by omega)).2 ⟨?_, ?_⟩
 ·rw [Nat.pow_succ]; omega
 ·rw [Nat.pow_succ]; omega
theorem near_stick {S : Bool} {D n : Nat} {F : Int} (hn : 0 < n) (hf : 16777216 ≤ D / n) :
 near S (vp (2 * (D / n) + (D % n != 0).toNat) (F - 1)) (vq (F - 1)) = near S (vp D F) (n * vq F) := by
 have hdm : D / n * n + D % n = D := Nat.div_add_mod' D n
 have hr : D % n < n := Nat.mod_lt _ hn
 obtain ⟨f, hf'⟩ : ∃ f, D / n = f := ⟨_, rfl⟩
 obtain ⟨r, hr'⟩ : ∃ r, D % n = r := ⟨_, rfl⟩
 rw [hf'] at hdm hf ⊢
 rw [hr'] at hdm hr ⊢
 clear hf' hr'
 obtain ⟨st, hst⟩ : ∃ st, (r != 0).toNat = st := ⟨_, rfl⟩
 have hs2 : st < 2 := by rw [← hst]; cases (r != 0) <;> decide
 have hs0 : 0 < st ↔ 0 < r := by
  rw [← hst]
  by_cases h : r = 0
  ·subst h; decide
  ·have : (r != 0) = true := by simp [h]
   rw [this]
   exact ⟨fun _ => by omega, fun _ => by decide⟩
 rw [hst]
 have hf0 : f ≠ 0 := by omega
 have hL : 24 ≤ f.log2 := (Nat.le_log2 hf0).2 (by omega)
 have a1 := Nat.log2_self_le hf0
 have b1 := Nat.lt_log2_self (n := f)
 have hD : 0 < D := by
  rw [← hdm]
  have := Nat.mul_pos (Nat.pos_of_ne_zero hf0) hn
  omega
 have hM : 0 < 2 * f + st := by omega
 have c1 : lgf (vp (2 * f + st) (F - 1)) (vq (F - 1)) = F + f.log2 := by
  rw [lgf_dyO hM, log2_stick hf0 hs2]; omega
 have hp : 0 < vp D F := Nat.mul_pos hD (pp _)
 have hq : 0 < n * vq F := Nat.mul_pos hn (vq_pos F)
 have w : ∀ j : Nat, le2 (F + j) (vp D F) (n * vq F) ↔ n * 2 ^ j ≤ D := fun j => by
  rw [le2_iff (F.toNat + j) (-F).toNat (by omega)]
  unfold vp vq
  rw [Nat.mul_assoc, ← Nat.pow_add, Nat.mul_assoc, ← Nat.pow_add, show (-F).toNat + (F.toNat + j) = j + (F.toNat + (-F).toNat) by omega, Nat.pow_add, ← Nat.mul_assoc]
  exact Nat.mul_le_mul_right_iff (pp _)
 have c2 : lgf (vp D F) (n * vq F) = F + f.log2 := by
  refine (lgf_unique hp hq ((w _).2 ?_) (fun h => ?_)).symm
  ·rw [← hdm]
   have := Nat.mul_le_mul_right n a1
   rw [Nat.mul_comm n]
   omega
  ·rw [Int.add_assoc, show ((f.log2 : Int) + 1) = ((f.log2 + 1 : Nat) : Int) by omega] at h
   have h := (w _).1 h
   have := Nat.mul_le_mul_left n (show f + 1 ≤ 2 ^ (f.log2 + 1) from b1)
   rw [Nat.mul_add, Nat.mul_one, Nat.mul_comm n f] at this
   omega
 obtain ⟨e, he⟩ : ∃ e, max (F + f.log2 - 23) (-149) = e := ⟨_, rfl⟩
 have x1 : expE (vp (2 * f + st) (F - 1)) (vq (F - 1)) = e := by
  unfold expE
  rw [if_neg (by have : 0 < vp (2 * f + st) (F - 1) := Nat.mul_pos hM (pp _); omega), c1, he]
 have x2 : expE (vp D F) (n * vq F) = e := by
  unfold expE
  rw [if_neg (by omega), c2, he]
 obtain ⟨U, hU⟩ : ∃ U : Nat, e - F = U + 1 := ⟨(e - F - 1).toNat, by omega⟩
 have r1 : rm (vp (2 * f + st) (F - 1)) (vq (F - 1)) = evn (f * 2 + st) (2 * (2 * 2 ^ U)) := by
  unfold rm
  rw [x1]
  refine evn_same (upB_pos (vq_pos _) _) (Nat.mul_pos (by decide) (Nat.mul_pos (by decide) (pp _))) ?_
  unfold upA upB vp vq
  have t : (F - 1).toNat + (-e).toNat + (U + 2) = (-(F - 1)).toNat + e.toNat := by omega
  have t2 : 2 * (2 * 2 ^ U) = 2 ^ (U + 2) := by rw [Nat.pow_add]; omega
  rw [t2, Nat.mul_assoc, Nat.mul_assoc, ← Nat.pow_add, ← Nat.pow_add, Nat.mul_comm f 2, ← Nat.pow_add, ← Nat.add_assoc, t]
 have r2 : rm (vp D F) (n * vq F) = evn (f * n + r) (n * (2 * 2 ^ U)) := by
  unfold rm
  rw [x2]
  refine evn_same (upB_pos hq _) (Nat.mul_pos hn (Nat.mul_pos (by decide) (pp _))) ?_
  unfold upA upB vp vq
  rw [hdm]
  have t : F.toNat + (-e).toNat + (U + 1) = (-F).toNat + e.toNat := by omega
  have t2 : 2 * 2 ^ U = 2 ^ (U + 1) := by rw [Nat.pow_add]; omega
  rw [t2]
  calc D * 2 ^ F.toNat * 2 ^ (-e).toNat * (n * 2 ^ (U + 1)) = D * n * (2 ^ F.toNat * 2 ^ (-e).toNat * 2 ^ (U + 1)) := by ac_rfl
   _ = D * n * (2 ^ (-F).toNat * 2 ^ e.toNat) := by rw [← Nat.pow_add, ← Nat.pow_add, t, Nat.pow_add]
   _ = D * (n * 2 ^ (-F).toNat * 2 ^ e.toNat) := by ac_rfl
 have rr : rm (vp (2 * f + st) (F - 1)) (vq (F - 1)) = rm (vp D F) (n * vq F) := by
  rw [r1, r2, evn_stick hs2 (pp U), evn_stick hr (pp U)]
  congr 1
  have e0 : st = 0 ↔ r = 0 := by omega
  simp only [hs0, e0]
 unfold near
 rw [rr, x1, x2]
theorem go_quo {a b : Nat} (ha : a < 4294967296) (hf : fin32 a = true) (hb : b < 4294967296) (hg : fin32 b = true) (hz : b % 2147483648 ≠ 0) :
 ∃ r, floatBits .quo .f32 a b = some r ∧ OkOp (!(fvS a == fvS b)) (fvP a * fvQ b) (fvQ a * fvP b) r := by
 show ∃ r, single.div a b = some r ∧ _
 unfold Format.div
 rw [read_w ha hf, read_w hb hg]
 obtain ⟨a1, a2, a3⟩ := fv_nat hf
 obtain ⟨b1, b2, b3⟩ := fv_nat hg
 have la := pl32_ge (a % 2147483648)
 have lb := pl32_ge (b % 2147483648)
 have ua := sg32_lt (a % 2147483648)
 have ub := sg32_lt (b % 2147483648)
 have qa := (fv_sz hf).2.2
 have qb := (fv_sz hg).2.2
 have hn0 : sg32 (b % 2147483648) ≠ 0 := by unfold sg32; split <;> omega
 generalize sg32 (a % 2147483648) = m at *
 generalize sg32 (b % 2147483648) = n at *
 generalize pl32 (a % 2147483648) = i at *
 generalize pl32 (b % 2147483648) = j at *
 have hn : 0 < n := Nat.pos_of_ne_zero hn0
 have hb2 := b2 hn
 have pb : 0 < fvP b := by
  rcases Nat.eq_zero_or_pos (fvP b) with h | h
  ·rw [h, Nat.zero_mul] at b1
   have := Nat.mul_pos (Nat.mul_pos hn (pp (j + 149).toNat)) qb
   omega
  ·exact h
 show ∃ r, (Datum.quotient 25 (.number (neg32 a) m i) (.number (neg32 b) n j)).map single.write = some r ∧ _
 unfold Datum.quotient
 dsimp only
 rw [if_neg hn0]
 refine ⟨_, rfl, ?_⟩
 show OkOp _ _ _ (single.nearest _ _ _)
 rw [Nat.shiftLeft_eq]
 by_cases hm0 : m = 0
 ·rw [a3 hm0]
  subst hm0
  rw [Nat.zero_mul, Nat.zero_mul, Nat.zero_div, Nat.zero_mod]
  refine op_core (Nat.mul_pos qa pb) ?_ (fun h => ?_)
  ·show 0 * _ = vp 0 _ * _
   rw [vp_zero, Nat.zero_mul, Nat.zero_mul]
  ·exact absurd h (by decide)
 ·have hm : 0 < m := Nat.pos_of_ne_zero hm0
  have hs : (neg32 a ^^ neg32 b) = !(fvS a == fvS b) := by
   rw [a2 hm, hb2]
   cases neg32 a <;> cases neg32 b <;> rfl
  rw [hs]
  have lm : m.log2 < 24 := (Nat.log2_lt hm0).2 (by omega)
  have l1 := Nat.log2_self_le hm0
  have l2 := Nat.lt_log2_self (n := n)
  obtain ⟨k, hk⟩ : ∃ k, 25 + n.log2 - m.log2 = k := ⟨_, rfl⟩
  rw [hk]
  have hf24 : 16777216 ≤ m * 2 ^ k / n := by
   rw [Nat.le_div_iff_mul_le hn]
   have h1 := Nat.mul_le_mul_right (2 ^ k) l1
   rw [← Nat.pow_add, show m.log2 + k = 24 + (n.log2 + 1) by omega, Nat.pow_add] at h1
   have h2 := Nat.mul_le_mul_left (2 ^ 24) (Nat.le_of_lt l2)
   exact Nat.le_trans h2 h1
  refine op_near (Nat.mul_pos qa pb) (by omega) ?_
  rw [near_stick hn hf24]
  refine near_same (Nat.mul_pos hn (vq_pos _)) (Nat.mul_pos qa pb) ?_
  refine Nat.eq_of_mul_eq_mul_right (pp 149) ?_
  have t : k + (i - j - k).toNat + (j + 149).toNat = (i + 149).toNat + (-(i - j - k)).toNat := by omega
  unfold vp vq
  calc m * 2 ^ k * 2 ^ (i - j - k).toNat * (fvQ a * fvP b) * 2 ^ 149 = m * 2 ^ k * 2 ^ (i - j - k).toNat * fvQ a * (fvP b * 2 ^ 149) := by ac_rfl
   _ = m * n * fvQ a * fvQ b * (2 ^ k * 2 ^ (i - j - k).toNat * 2 ^ (j + 149).toNat) := by rw [b1]; ac_rfl
   _ = m * n * fvQ a * fvQ b * (2 ^ (i + 149).toNat * 2 ^ (-(i - j - k)).toNat) := by rw [← Nat.pow_add, ← Nat.pow_add, t, Nat.pow_add]
   _ = fvP a * 2 ^ 149 * fvQ b * (n * 2 ^ (-(i - j - k)).toNat) := by rw [a1]; ac_rfl
   _ = fvP a * fvQ b * (n * 2 ^ (-(i - j - k)).toNat) * 2 ^ 149 := by ac_rfl
theorem un_half {U V : Int} {uP uQ : Nat} (hV : 0 < V) (u0 : 0 < uQ) (hur : U * uQ = uP * V) : rsE (U * 1) (V * 2) = rsE (uP : Int) ((uQ * 2 : Nat) : Int) := by
 exact (rs_same (y := U * 1) (z := V * 2) (y' := (uP : Int)) (z' := ((uQ * 2 : Nat) : Int)) (by omega) (by omega) (by
  rw [Int.natCast_mul]
  generalize (uQ : Int) = u at *
  generalize (uP : Int) = v at *
  grind)).2
theorem un_half0 {uP uQ : Nat} (u0 : 0 < uQ) (y1 : Sz 140 uP) (y2 : Sz 210 uQ) : rsE (uP : Int) ((uQ * 2 : Nat) : Int) = 0 := by
 have k2 : Sz 212 (uQ * 2) := (y2.mul (n := 2) (k := 2) ⟨by decide⟩)
 obtain ⟨_, _, _, r2, _⟩ := rs_ok (y := (uP : Int)) (z := ((uQ * 2 : Nat) : Int)) (Sz.dig (y1.more (by omega))) (Sz.dig (k2.more (by omega))) (by omega)
 exact r2
/-- The error is at most half of the unit of the nearest number. -/
theorem er_half {x : ByteArray} {P Q : Int} (hx : Frc x P Q) (h : toE x = 0) (he : erE x = 0) : reR ofMul (fuS (toW x)) ⟨#[49, 47, 50]⟩ = 0 ∧
 ∃ Dn Dd H G, Frc (erS x) Dn Dd ∧ Frc (reS ofMul (fuS (toW x)) ⟨#[49, 47, 50]⟩) H G ∧ Dn * G ≤ H * Dd ∧ (-Dn) * G ≤ H * Dd := by
 obtain ⟨t1, t2⟩ := to_lt x h
 obtain ⟨R, T, hz, hr⟩ := fm_frc t2
 obtain ⟨U, V, hu, hur⟩ := fu_frc t2
 obtain ⟨f1, f2⟩ := hx.op hz ofSub
 obtain ⟨g1, g2⟩ := hu.op frc_half ofMul
 obtain ⟨e1, e2⟩ := er_same hx h
 obtain ⟨c1, c2, c3⟩ := hx.check
 have hQ := hx.pos
 have hn : near (minusB x) (numR x).natAbs (denR x).natAbs = some (toW x) := by
  unfold toE nrE at h
  unfold toW nrW
  rw [if_pos c1] at h ⊢
  cases hn : near (minusB x) (numR x).natAbs (denR x).natAbs with
  | none => rw [hn] at h; exact absurd h (by decide)
  | some b => rfl
 rw [minus_sgn c1, c2, c3] at hn
 obtain ⟨n1, n2, n3, c, d, M, m1, m2, m3, m4, m5⟩ := near_half (by omega) hn
 have f3 := (fv_sz t2).2.2
 have u0 := unQ_pos (toW x)
 obtain ⟨y1, y2⟩ := un_small t2
 rw [e2, f2] at he
 rw [g1, g2, e1, f1]
 clear e1 e2 f1 f2 g1 g2 h c1 c2 c3 hn t1 t2 n1 n2
 generalize unP (toW x) = uP at *
 generalize unQ (toW x) = uQ at *
 generalize sgI (fvS (toW x)) (fvP (toW x)) = vz at *
 generalize fvP (toW x) = fP at *
 generalize fvQ (toW x) = fQ at *
 generalize fmS (toW x) = sm at *
 generalize fuS (toW x) = su at *
 clear hx
 have hT := hz.pos
 have hV := hu.pos
 clear hz hu
 unfold ofMul
 unfold ofSub at he ⊢
 simp only [] at he ⊢
 have hm : rsE (U * 1) (V * 2) = 0 := by
  rw [un_half hV u0 hur]
  exact un_half0 u0 y1 y2
 refine ⟨hm, ?_⟩
 obtain ⟨H, G, hH, hHG⟩ := rs_frc (y := U * 1) (z := V * 2) (by omega) hm
 obtain ⟨Dn, Dd, hD, hDD⟩ := rs_frc (pos_ne hQ hT) he
 refine ⟨Dn, Dd, H, G, hD, hH, ?_⟩
 refine half_int (P := P) (Q := Q) (R := R) (T := T) (U := U) (V := V) (σ := if decide (P < 0) = true then -1 else 1) (p := P.natAbs) (q := Q.natAbs) (c := c) (d := d) (M := M) (fP := fP) (fQ := fQ) (uP := uP) (uQ := uQ) hQ hT hV hH.pos hD.pos (by omega) m1 f3 u0 (by split <;> simp) ?_ ?_ m2 m3 m4 hur m5 ?_ hDD
 ·rw [← sgI_one, show (Q.natAbs : Int) = Q by omega]
  have h1 : sgI (decide (P < 0)) P.natAbs = P := by unfold sgI; by_cases h0 : P < 0 <;> simp [h0] <;> omega
  rw [h1]
 ·rw [← sgI_one, ← n3]
  exact hr
 ·rw [Int.mul_one] at hHG
  exact hHG
theorem frc_body {d : ByteArray} {P Q : Int} (h : Frc d P Q) : Frc (bodyB d) (P.natAbs : Int) Q := by
 have hm := minus_sgn h.check.1
 rw [h.check.2.1] at hm
 have hg : Int.gcd (P.natAbs : Int) Q = 1 := h.low
 rcases Int.lt_or_le P 0 with hp | hp
 ·refine ⟨?_, h.pos, hg, h.dp, h.dq⟩
  have e : d.data.toList = 45 :: (frS (P.natAbs : Int) Q).data.toList := by
   rw [h.str, frS_list, frS_list]
   show Lib.itoa P ++ _ = 45 :: (Lib.itoa (P.natAbs : Int) ++ _)
   rw [itoa_abs P, itoa_abs (P.natAbs : Int), if_pos hp, if_neg (by omega)]
   simp
  unfold bodyB
  rw [e]
  show (⟨(Lib.trimPrefix (45 :: (frS (P.natAbs : Int) Q).data.toList) [45]).toArray⟩ : ByteArray) = _
  have : Lib.trimPrefix (45 :: (frS (P.natAbs : Int) Q).data.toList) [45] = (frS (P.natAbs : Int) Q).data.toList := by simp [Lib.trimPrefix, Lib.hasPrefix]
  rw [this]
 ·have e : (P.natAbs : Int) = P := by omega
  rw [e, body_self (by rw [hm, decide_eq_false (by omega)])]
  exact h
theorem frc_pos {d : ByteArray} {P Q : Int} (h : Frc d P Q) : 0 < d.size := by
 rw [h.str]
 have h3 := congrArg List.length (frS_list P Q)
 have k : ∀ t : ByteArray, t.data.toList.length = t.size := fun t => by simp
 rw [List.length_append, List.length_cons, k] at h3
 omega
theorem cmpI_le {a b : Int} (h : a ≤ b) : cmpI a b ≤ 0 := by unfold cmpI; split <;> (try split) <;> omega
theorem run_from32 (b : Int) (w : World) : (callFunc 12 #[.int .u32 b]).run Tryz.prog w = .ok (.value (.float .f32 b.toNat)) w := by
 rw [run_callFunc_extern (e := Extern.MathFloatBits.float32frombits) Tryz.func12 (by kernel_rfl) (by kernel_rfl) (by kernel_rfl) (by kernel_rfl)]
 rfl
section
variable {a b : Nat}
end
def mE (k : Int) (f n : Nat) : MapEntry := { key := .int .i64 k, val := .func (.func f) #[] #[], born := n }
theorem wMap_alloc (W : World) (o : Obj) (es : Array MapEntry) (ck : Nat) : wMap (W.alloc o) W.heap.size es ck = W.alloc (.map es ck) := by
 have h : (W.heap.push o).setIfInBounds W.heap.size (.map es ck) = W.heap.push (.map es ck) := by
  apply Array.toList_inj.1
  rw [Array.toList_setIfInBounds, Array.toList_push, Array.toList_push, ← Array.length_toList, List.set_append_right _ _ (Nat.le_refl _)]
  simp
 show ({ W.alloc o with heap := (W.heap.push o).setIfInBounds W.heap.size (.map es ck) } : World) = _
 rw [h]
 rfl
theorem upd30g {X : World} {b : Nat} {es : Array MapEntry} {ck : Nat} {k : Int} (v : Value) (hb : X.heap[b]? = some (.map es ck)) (h : Instr.findNow (.int .i64) (.int .i64 k) es.toList 0 = some none) :
 (Instr.mapUpdate 30 (.map (some b)) (.int .i64 k) v).run Tryz.prog X = .ok () (wMap X b (es.push { key := .int .i64 k, val := v, born := ck }) (ck + 1)) := by
 have h2 := MapKept.run_findKey (P := Tryz.prog) (w := X) (kt := 3) Tryz.underlying3 h
 simp [Instr.mapUpdate, run_underlying Tryz.underlying30, MapKept.run_getObj_map hb, Result.andThen, MapKept.run_checkKey (P := Tryz.prog) (k := .int .i64 k) Tryz.underlying3 (by simp [MapKept.IsKey]), h2, setObj, Sem.run, hb, wMap]
theorem upd30 (W : World) {es : Array MapEntry} {ck : Nat} {k : Int} (v : Value) (h : Instr.findNow (.int .i64) (.int .i64 k) es.toList 0 = some none) :
 (Instr.mapUpdate 30 (.map (some W.heap.size)) (.int .i64 k) v).run Tryz.prog (W.alloc (.map es ck)) = .ok () (W.alloc (.map (es.push { key := .int .i64 k, val := v, born := ck }) (ck + 1))) := by
 rw [upd30g v (heap_alloc_new W _) h, wMap_alloc]
def es1 : Array MapEntry := #[mE 16 14 0]
theorem hu1 (W : World) : (Instr.mapUpdate 30 (.map (some W.heap.size)) (.int .i64 16) (.func (.func 14) #[] #[])).run Tryz.prog (W.alloc (.map #[] 0)) = .ok () (W.alloc (.map es1 1)) := upd30 W _ rfl
theorem finL_word {x y : Nat} {n i : Bool} (hc : ∀ W, (convert 24 65 (.float .f32 x)).run Tryz.prog W = .ok (.float .f64 y) W)
 (hn : ∀ W, Calls Tryz.prog 101 #[.float .f64 y] W fun e w' => e = .returned (.bool n) ∧ w' = W) (hi : ∀ W, Calls Tryz.prog 102 #[.float .f64 y, .int .i64 0] W fun e w' => e = .returned (.bool i) ∧ w' = W) (w : World) :
 Calls Tryz.prog 32 #[.float .f32 x] w fun e w' => e = .returned (.bool (!n && !i)) ∧ Below w.heap.size w w' := by
 have HN := Aside0.mk hn
 have HI := Aside0.mk hi
 have HB := Aside0.mk (Below.refl w.heap.size w)
 clear hn hi
 cases n <;> cases i
 all_goals
  go_enter Tryz.func32, Tryz.ntmps32
  go_wp2_with (first | (go_at_call 101; (with_reducible refine (HN.out _).mono ?_); rintro e W1 ⟨rfl, hwq⟩; rw [hwq]; clear hwq) | (go_at_call 102; (with_reducible refine (HI.out _).mono ?_); rintro e W2 ⟨rfl, hwr⟩; rw [hwr]; clear hwr))
  go_ret
  exact ⟨rfl, HB.out⟩
theorem finL_nan {s : Bool} {r : Nat} (h : 2139095040 < r) (h2 : r < 2147483648) (w : World) :
 Calls Tryz.prog 32 #[.float .f32 (S32 s + r)] w fun e w' => e = .returned (.bool false) ∧ Below w.heap.size w w' := by
 have hc := run_conv_nan s h h2 w
 obtain ⟨z, t, h4, h5, h6⟩ := nanW_is (S32 s + r) w
 have hn : ∀ W, Calls Tryz.prog 101 #[.float .f64 (nanW (S32 s + r) w)] W fun e w' => e = .returned (.bool true) ∧ w' = W := fun W => by
  have := isNaN_calls (s := z) (r := t) h6 W
  rw [decide_eq_true h5, ← h4] at this
  exact this
 have HN := Aside0.mk hn
 have HB := Aside0.mk ((Below.refl w.heap.size w).drew)
 clear hn h h2 h4 h5 h6
 generalize nanW (S32 s + r) w = y at *
 generalize S32 s + r = x at *
 obtain ⟨Wd, hWd⟩ : ∃ Wd, w.drew = Wd := ⟨_, rfl⟩
 rw [hWd] at hc HB
 clear hWd
 go_enter Tryz.func32, Tryz.ntmps32
 go_wp2_with (first | (go_at_call 101; (with_reducible refine (HN.out _).mono ?_); rintro e W1 ⟨rfl, hwq⟩; rw [hwq]; clear hwq))
 go_ret
 exact ⟨rfl, HB.out⟩
theorem finL_calls {b : Nat} (h : b < 4294967296) (w : World) :
 Calls Tryz.prog 32 #[.float .f32 b] w fun e w' => e = .returned (.bool (fin32 b)) ∧ Below w.heap.size w w' := by
 have hs := split32 h
 have hm : b % 2147483648 < 2147483648 := Nat.mod_lt _ (by decide)
 unfold fin32
 generalize b % 2147483648 = r at *
 generalize neg32 b = s at *
 subst hs
 rcases Nat.lt_trichotomy r 2139095040 with h1 | h1 | h1
 ·rw [decide_eq_true h1]
  have k := (w32_lt h1).1
  have f := finL_word (n := false) (i := false) (conv_good s h1) (fun W => by
   have := isNaN_calls (s := s) (r := w32 r) (by omega) W
   rw [decide_eq_false (by omega)] at this
   exact this) (fun W => by
   have := isInf_calls (s := s) (r := w32 r) (by omega) W
   rw [decide_eq_false (by omega)] at this
   exact this) w
  exact f
 ·rw [decide_eq_false (by omega), h1]
  have f := finL_word (x := S32 s + 2139095040) (y := S64 s + 9218868437227405312) (n := false) (i := true)
   (fun W => run_convert_float_float (P := Tryz.prog) W 24 65 .f32 .f64 _ _ rfl Tryz.underlying65 (conv_inf s)) (fun W => by
   have := isNaN_calls (s := s) (r := 9218868437227405312) (by omega) W
   rw [decide_eq_false (by omega)] at this
   exact this) (fun W => by
   have := isInf_calls (s := s) (r := 9218868437227405312) (by omega) W
   rw [decide_eq_true rfl] at this
   exact this) w
  exact f
 ·rw [decide_eq_false (by omega)]
  exact finL_nan h1 hm w
/-- A map of three entries that is ranged over, in whatever order. -/
structure RgM (W : World) (b r : Nat) (es : Array MapEntry) (k cnt : Nat) : Prop where
 m : W.heap[b]? = some (.map es k)
 i : ∃ seen c0, W.heap[r]? = some (.mapIter (some b) k seen c0) ∧ k ≤ c0 ∧ (leftOf es seen).size = cnt
 oldx : ∀ x ∈ es.toList, x.born < k
 nd : (es.toList.map (·.born)).Nodup
theorem RgM.ltb {W : World} {b r k cnt : Nat} {es : Array MapEntry} (h : RgM W b r es k cnt) : b < W.heap.size := (Array.getElem?_eq_some_iff.1 h.m).1
theorem RgM.ltr {W : World} {b r k cnt : Nat} {es : Array MapEntry} (h : RgM W b r es k cnt) : r < W.heap.size := by
 obtain ⟨seen, c0, h1, _⟩ := h.i
 exact (Array.getElem?_eq_some_iff.1 h1).1
theorem RgM.ne {W : World} {b r k cnt : Nat} {es : Array MapEntry} (h : RgM W b r es k cnt) : r ≠ b := by
 obtain ⟨seen, c0, h1, _⟩ := h.i
 intro e
 rw [e, h.m] at h1
 cases h1
theorem RgM.below {W X : World} {b r k cnt : Nat} {es : Array MapEntry} (h : RgM W b r es k cnt) (hb : Below W.heap.size W X) : RgM X b r es k cnt := by
 have h1 := h.ltb
 have h2 := h.ltr
 obtain ⟨seen, c0, e1, e2, e3⟩ := h.i
 exact ⟨(hb.block b h1).trans h.m, ⟨seen, c0, (hb.block r h2).trans e1, e2, e3⟩, h.oldx, h.nd⟩
theorem RgM.left {W : World} {b r k cnt : Nat} {es : Array MapEntry} (h : RgM W b r es k cnt) : W.rangeLeft b r = cnt := by
 obtain ⟨seen, c0, e1, e2, e3⟩ := h.i
 simp only [World.rangeLeft, h.m, e1]
 exact e3
theorem RgM.next {W : World} {b r k cnt : Nat} {es : Array MapEntry} (h : RgM W b r es k cnt) (ty : TypeId) :
 (Instr.next (.pointer (some ⟨r, 0, none⟩)) false ty).run Tryz.prog W = .ok (.tuple #[.bool false]) W ∨
 ∃ e ∈ es.toList, ∃ X c, (Instr.next (.pointer (some ⟨r, 0, none⟩)) false ty).run Tryz.prog W = .ok (.tuple #[.bool true, e.key, e.val]) X ∧ RgM X b r es k c ∧ c < cnt ∧ (∀ B w, B ≤ r → Below B w W → Below B w X) ∧
  (Instr.entry (.pointer (some ⟨r, 0, none⟩))).run Tryz.prog X = .ok (.tuple #[e.key, e.val]) X := by
 have hne := h.ne
 obtain ⟨seen, c0, e1, e2, rfl⟩ := h.i
 rcases Go.run_next_at (P := Tryz.prog) W ty r b k c0 seen es k e1 h.m h.oldx e2 with ⟨h0, hrun⟩ | ⟨e, he, w1, hal, hrun⟩
 ·exact .inl hrun
 ·obtain ⟨hem, hes⟩ := mem_left he
  have hr1 : w1.heap[r]? = some (.mapIter (some b) k seen c0) := by rcases hal with rfl | rfl <;> exact e1
  have hb1 : w1.heap[b]? = some (.map es k) := by rcases hal with rfl | rfl <;> exact h.m
  have hset := MapKept.heap_set (o' := .mapIter (some b) k (seen.push e.born) k) hr1
  have hb' : (ChangeMaps.setBlock w1 r (.mapIter (some b) k (seen.push e.born) k)).heap[b]? = some (.map es k) := (hset.2 b (fun q => hne q.symm)).trans hb1
  refine .inr ⟨e, hem, _, _, hrun, ⟨hb', ⟨seen.push e.born, k, hset.1, Nat.le_refl _, rfl⟩, h.oldx, h.nd⟩, left_shrinks es seen e he, fun B w hB hw => ?_, run_entry_at _ r b k seen es k e hset.1 hb' hem h.nd⟩
  rcases hal with rfl | rfl
  ·exact ⟨hw.os, hw.tape, hw.output, by simpa [ChangeMaps.setBlock] using hw.size, fun j hj => (hset.2 j (by omega)).trans (hw.block j hj)⟩
  ·exact ⟨hw.os, hw.tape, hw.output, by simpa [ChangeMaps.setBlock] using hw.size, fun j hj => (hset.2 j (by omega)).trans (hw.block j hj)⟩
end
end Go.Proofs.YtnjbinpbkjdjpaaGreatDoor.Nm
