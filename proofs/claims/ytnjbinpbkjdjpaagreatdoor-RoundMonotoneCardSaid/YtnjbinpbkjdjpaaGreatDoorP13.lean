import Derived.Test.YtnjbinpbkjdjpaaGreatDoorP12
import Derived.Test.YtnjbinpbkjdjpaaGreatDoorP10
import Derived.Test.YtnjbinpbkjdjpaaGreatDoorP11
import Derived.Test.YtnjbinpbkjdjpaaGreatDoorP3
import Derived.Test.YtnjbinpbkjdjpaaGreatDoorP8
/- Own text: contracts and laws on which the card rests (GaD FmA FbC FaF FmB FcA). -/
set_option linter.unusedVariables false
set_option linter.unusedSimpArgs false
set_option maxRecDepth 1000000
set_option maxHeartbeats 16000000
namespace Go.Proofs.YtnjbinpbkjdjpaaGreatDoor.Nm
section
open Go.Proofs.YtnjbinpbkjdjpaaGreatDoor.Rf Go.Proofs.YtnjbinpbkjdjpaaGreatDoorW.PrintLast Go.Proofs.YtnjbinpbkjdjpaaGreatDoorW.PrintMore Go.Proofs.YtnjbinpbkjdjpaaGreatDoorW.PrintWords Go.RowKit Go.Shelf Ieee
/-- A float32 that is not finite, made a float64, in every world. -/
structure BadC (x : Nat) (Y : World → Nat) (D : World → World) : Prop where
 run : ∀ W, (convert 24 65 (.float .f32 x)).run Tryz.prog W = .ok (.float .f64 (Y W)) (D W)
 below : ∀ W, Below W.heap.size W (D W)
 fin : ∀ W V, Calls Tryz.prog 63 #[.float .f64 (Y W)] V fun e w' => e = .returned (.bool false) ∧ w' = V
theorem bad_conv {b : Nat} (h : b < 4294967296) (hf : ¬ fin32 b = true) : ∃ Y D, BadC b Y D := by
 have h3 : ¬ b % 2147483648 < 2139095040 := fun h4 => hf (decide_eq_true h4)
 have hc := fun W => conv_bad (neg32 b) (r := b % 2147483648) (by omega) (Nat.mod_lt _ (by decide)) W
 rw [← split32 h] at hc
 refine ⟨fun W => (hc W).choose, fun W => (hc W).choose_spec.choose, ⟨fun W => ?_, fun W => ?_, fun W V => ?_⟩⟩
 ·exact (hc W).choose_spec.choose_spec.1
 ·exact (hc W).choose_spec.choose_spec.2.1
 ·exact (hc W).choose_spec.choose_spec.2.2 V
theorem good_conv {b : Nat} (h : b < 4294967296) (hf : fin32 b = true) :
 (∀ W, (convert 24 65 (.float .f32 b)).run Tryz.prog W = .ok (.float .f64 (S64 (neg32 b) + w32 (b % 2147483648))) W) ∧
 Aside0 (∀ V, Calls Tryz.prog 63 #[.float .f64 (S64 (neg32 b) + w32 (b % 2147483648))] V fun e w' => e = .returned (.bool true) ∧ w' = V) ∧
 Aside0 (∀ W, Calls Tryz.prog 64 #[.float .f64 (S64 (neg32 b) + w32 (b % 2147483648))] W fun e w' => QX W (fvS b) (fvP b) (fvQ b) e w') := by
 have hcv := conv_good (neg32 b) (r := b % 2147483648) (of_decide_eq_true hf)
 rw [← split32 h] at hcv
 exact ⟨hcv, ⟨fun V => isFinite_good (neg32 b) (of_decide_eq_true hf) V⟩, ⟨fun W => exactly32 h hf W⟩⟩
theorem apply_kind {op : Int} (h : opI op = -1) (a b : Nat) (w : World) :
 Calls Tryz.prog 13 #[.int .i64 op, .float .f32 a, .float .f32 b] w fun e w' => e = .returned (.tuple #[.float .f32 0, .int .i64 11]) ∧ Below w.heap.size w w' := by
 have HB0 := Aside0.mk (below_alloc (Below.refl w.heap.size w) (.cells #[.int .i64 op] 3))
 have HL : Aside0 (w.heap.size < (w.alloc (.cells #[.int .i64 op] 3)).heap.size) := ⟨by simp⟩
 have HC0 : Aside0 ((w.alloc (.cells #[.int .i64 op] 3)).cell? ⟨w.heap.size, 0, none⟩ = some (.int .i64 op)) := ⟨by simp⟩
 have HI : Aside0 (∀ W b, OpsAt W b → W.cell? ⟨w.heap.size, 0, none⟩ = some (.int .i64 op) → w.heap.size < W.heap.size → Calls Tryz.prog 60 #[.slice (some ⟨b, 0, none⟩) 4 4, .func (.func 62) #[] #[.pointer (some ⟨w.heap.size, 0, none⟩)]] W fun e w' => e = .returned (.int .i64 (opI op)) ∧ Below W.heap.size W w') := ⟨fun W b h1 h2 h3 => index_calls h1 h2 h3⟩
 rw [h] at HI
 clear h
 go_enter Tryz.func13, Tryz.ntmps13
 go_wp2_with (first | (go_at_call 61; (with_reducible refine (operations_calls _).mono ?_); rintro e W1 ⟨b1, rfl, ho, hb1⟩; have HO := Aside0.mk ho; have HB := Aside0.mk (HB0.out.trans (hb1.mono HB0.out.size)); have HC := Aside0.mk ((hb1.cell (p := ⟨w.heap.size, 0, none⟩) HL.out).trans HC0.out); have HP := Aside0.mk (Nat.lt_of_lt_of_le HL.out hb1.size); clear ho hb1) | (go_at_call 60; (with_reducible refine (HI.out _ _ HO.out HC.out HP.out).mono ?_); rintro e W2 ⟨rfl, hb2⟩; have HB2 := Aside0.mk (HB.out.trans (hb2.mono HB.out.size)); have hc2 := (hb2.cell (p := ⟨w.heap.size, 0, none⟩) HP.out).trans HC.out; clear hb2))
 go_ret2
 exact ⟨rfl, HB2.out⟩
theorem opI_cases (op : Int) : opI op = -1 ∨ (∃ i : Nat, opI op = (i : Int) ∧ i < 4 ∧ op = 16 + (i : Int)) := by
 unfold opI
 by_cases h0 : op = 16
 ·rw [if_pos h0]; exact .inr ⟨0, rfl, by omega, by omega⟩
 ·by_cases h1 : op = 17
  ·rw [if_neg h0, if_pos h1]; exact .inr ⟨1, rfl, by omega, by omega⟩
  ·by_cases h2 : op = 18
   ·rw [if_neg h0, if_neg h1, if_pos h2]; exact .inr ⟨2, rfl, by omega, by omega⟩
   ·by_cases h3 : op = 19
    ·rw [if_neg h0, if_neg h1, if_neg h2, if_pos h3]; exact .inr ⟨3, rfl, by omega, by omega⟩
    ·rw [if_neg h0, if_neg h1, if_neg h2, if_neg h3]; exact .inl rfl
theorem apply_formA {op : Int} {i : Nat} (h : opI op = (i : Int)) {a : Nat} (b : Nat) (ha : a < 4294967296) (hf : ¬ fin32 a = true) (w : World) :
 Calls Tryz.prog 13 #[.int .i64 op, .float .f32 a, .float .f32 b] w fun e w' => e = .returned (.tuple #[.float .f32 0, .int .i64 1]) ∧ Below w.heap.size w w' := by
 have HB0 := Aside0.mk (below_alloc (Below.refl w.heap.size w) (.cells #[.int .i64 op] 3))
 have HL : Aside0 (w.heap.size < (w.alloc (.cells #[.int .i64 op] 3)).heap.size) := ⟨by simp⟩
 have HC0 : Aside0 ((w.alloc (.cells #[.int .i64 op] 3)).cell? ⟨w.heap.size, 0, none⟩ = some (.int .i64 op)) := ⟨by simp⟩
 have HI : Aside0 (∀ W b, OpsAt W b → W.cell? ⟨w.heap.size, 0, none⟩ = some (.int .i64 op) → w.heap.size < W.heap.size → Calls Tryz.prog 60 #[.slice (some ⟨b, 0, none⟩) 4 4, .func (.func 62) #[] #[.pointer (some ⟨w.heap.size, 0, none⟩)]] W fun e w' => e = .returned (.int .i64 (opI op)) ∧ Below W.heap.size W w') := ⟨fun W b h1 h2 h3 => index_calls h1 h2 h3⟩
 rw [h] at HI
 obtain ⟨Y, D, hd⟩ := bad_conv ha hf
 have hcv := hd.run
 have HD := Aside0.mk hd.below
 have HFA := Aside0.mk hd.fin
 have hnn : decide ((i : Int) < 0) = false := decide_eq_false (by omega)
 clear h hd ha hf
 go_enter Tryz.func13, Tryz.ntmps13
 go_wp2_with (first | (go_at_call 61; (with_reducible refine (operations_calls _).mono ?_); rintro e W1 ⟨b1, rfl, ho, hb1⟩; have HO := Aside0.mk ho; have HB := Aside0.mk (HB0.out.trans (hb1.mono HB0.out.size)); have HC := Aside0.mk ((hb1.cell (p := ⟨w.heap.size, 0, none⟩) HL.out).trans HC0.out); have HP := Aside0.mk (Nat.lt_of_lt_of_le HL.out hb1.size); clear ho hb1) | (go_at_call 60; (with_reducible refine (HI.out _ _ HO.out HC.out HP.out).mono ?_); rintro e W2 ⟨rfl, hb2⟩; have HB2 := Aside0.mk (HB.out.trans (hb2.mono HB.out.size)); have hc2 := (hb2.cell (p := ⟨w.heap.size, 0, none⟩) HP.out).trans HC.out; clear hb2) | (go_at_call 63; (with_reducible refine (HFA.out _ _).mono ?_); rintro e W3 ⟨rfl, hwq⟩; rw [hwq]; clear hwq))
 go_ret2
 exact ⟨rfl, HB2.out.trans ((HD.out _).mono HB2.out.size)⟩
theorem apply_formB {op : Int} {i : Nat} (h : opI op = (i : Int)) {a b : Nat} (ha : a < 4294967296) (hf : fin32 a = true) (hb : b < 4294967296) (hg : ¬ fin32 b = true) (w : World) :
 Calls Tryz.prog 13 #[.int .i64 op, .float .f32 a, .float .f32 b] w fun e w' => e = .returned (.tuple #[.float .f32 0, .int .i64 1]) ∧ Below w.heap.size w w' := by
 have HB0 := Aside0.mk (below_alloc (Below.refl w.heap.size w) (.cells #[.int .i64 op] 3))
 have HL : Aside0 (w.heap.size < (w.alloc (.cells #[.int .i64 op] 3)).heap.size) := ⟨by simp⟩
 have HC0 : Aside0 ((w.alloc (.cells #[.int .i64 op] 3)).cell? ⟨w.heap.size, 0, none⟩ = some (.int .i64 op)) := ⟨by simp⟩
 have HI : Aside0 (∀ W b, OpsAt W b → W.cell? ⟨w.heap.size, 0, none⟩ = some (.int .i64 op) → w.heap.size < W.heap.size → Calls Tryz.prog 60 #[.slice (some ⟨b, 0, none⟩) 4 4, .func (.func 62) #[] #[.pointer (some ⟨w.heap.size, 0, none⟩)]] W fun e w' => e = .returned (.int .i64 (opI op)) ∧ Below W.heap.size W w') := ⟨fun W b h1 h2 h3 => index_calls h1 h2 h3⟩
 rw [h] at HI
 obtain ⟨Y, D, hd⟩ := bad_conv hb hg
 have hcv := hd.run
 have HD := Aside0.mk hd.below
 have HFA := Aside0.mk hd.fin
 obtain ⟨hcg, HFG, _⟩ := good_conv ha hf
 have hnn : decide ((i : Int) < 0) = false := decide_eq_false (by omega)
 have hne : a ≠ b := by rintro rfl; exact hg hf
 clear h hd ha hf hb hg
 generalize S64 (neg32 a) + w32 (a % 2147483648) = ya at *
 clear hne
 go_enter Tryz.func13, Tryz.ntmps13
 go_wp2_with (first | (go_at_call 61; (with_reducible refine (operations_calls _).mono ?_); rintro e W1 ⟨b1, rfl, ho, hb1⟩; have HO := Aside0.mk ho; have HB := Aside0.mk (HB0.out.trans (hb1.mono HB0.out.size)); have HC := Aside0.mk ((hb1.cell (p := ⟨w.heap.size, 0, none⟩) HL.out).trans HC0.out); have HP := Aside0.mk (Nat.lt_of_lt_of_le HL.out hb1.size); clear ho hb1) | (go_at_call 60; (with_reducible refine (HI.out _ _ HO.out HC.out HP.out).mono ?_); rintro e W2 ⟨rfl, hb2⟩; have HB2 := Aside0.mk (HB.out.trans (hb2.mono HB.out.size)); have hc2 := (hb2.cell (p := ⟨w.heap.size, 0, none⟩) HP.out).trans HC.out; clear hb2) | (go_at_call 63; (with_reducible refine (HFG.out _).mono ?_); rintro e W3 ⟨rfl, hwq⟩; rw [hwq]; clear hwq) | (go_at_call 63; (with_reducible refine (HFA.out _ _).mono ?_); rintro e W3 ⟨rfl, hwq⟩; rw [hwq]; clear hwq))
 go_ret2
 exact ⟨rfl, HB2.out.trans ((HD.out _).mono HB2.out.size)⟩
theorem ordz32 {b : Nat} (hb : b < 4294967296) (fb : fin32 b = true) : (FloatKind.f32.format.order b 0 == some .eq) = decide (b % 2147483648 = 0) := by
 rw [ord32_w hb (by decide) fb (by decide), show sw 0 = 0 by decide]
 unfold sw sr
 by_cases h : b % 2147483648 = 0
 ·rw [h, decide_eq_true rfl]; cases neg32 b <;> rfl
 ·rw [decide_eq_false h]
  cases neg32 b
  ·rw [cpi_gt (by simp; omega)]; rfl
  ·rw [cpi_lt (by simp; omega)]; rfl
theorem apply_div {a b : Nat} (ha : a < 4294967296) (hf : fin32 a = true) (hb : b < 4294967296) (hg : fin32 b = true) (hz : b % 2147483648 = 0) (w : World) :
 Calls Tryz.prog 13 #[.int .i64 19, .float .f32 a, .float .f32 b] w fun e w' => e = .returned (.tuple #[.float .f32 0, .int .i64 30]) ∧ Below w.heap.size w w' := by
 obtain ⟨op, hop⟩ : ∃ op : Int, op = 19 := ⟨_, rfl⟩
 rw [← hop]
 have HB0 := Aside0.mk (below_alloc (Below.refl w.heap.size w) (.cells #[.int .i64 op] 3))
 have HL : Aside0 (w.heap.size < (w.alloc (.cells #[.int .i64 op] 3)).heap.size) := ⟨by simp⟩
 have HC0 : Aside0 ((w.alloc (.cells #[.int .i64 op] 3)).cell? ⟨w.heap.size, 0, none⟩ = some (.int .i64 op)) := ⟨by simp⟩
 have HI : Aside0 (∀ W b, OpsAt W b → W.cell? ⟨w.heap.size, 0, none⟩ = some (.int .i64 op) → w.heap.size < W.heap.size → Calls Tryz.prog 60 #[.slice (some ⟨b, 0, none⟩) 4 4, .func (.func 62) #[] #[.pointer (some ⟨w.heap.size, 0, none⟩)]] W fun e w' => e = .returned (.int .i64 (opI op)) ∧ Below W.heap.size W w') := ⟨fun W b h1 h2 h3 => index_calls h1 h2 h3⟩
 have hi : opI op = 3 := by rw [hop]; rfl
 rw [hi] at HI
 obtain ⟨hcg, HFG, _⟩ := good_conv ha hf
 obtain ⟨hch, HFH, _⟩ := good_conv hb hg
 have ho := ordz32 hb hg
 rw [decide_eq_true hz] at ho
 clear ha hf hb hg hz hi
 generalize S64 (neg32 a) + w32 (a % 2147483648) = ya at *
 generalize S64 (neg32 b) + w32 (b % 2147483648) = yb at *
 subst hop
 go_enter Tryz.func13, Tryz.ntmps13
 go_wp2_with (first | (go_at_call 61; (with_reducible refine (operations_calls _).mono ?_); rintro e W1 ⟨b1, rfl, ho, hb1⟩; have HO := Aside0.mk ho; have HB := Aside0.mk (HB0.out.trans (hb1.mono HB0.out.size)); have HC := Aside0.mk ((hb1.cell (p := ⟨w.heap.size, 0, none⟩) HL.out).trans HC0.out); have HP := Aside0.mk (Nat.lt_of_lt_of_le HL.out hb1.size); clear ho hb1) | (go_at_call 60; (with_reducible refine (HI.out _ _ HO.out HC.out HP.out).mono ?_); rintro e W2 ⟨rfl, hb2⟩; have HB2 := Aside0.mk (HB.out.trans (hb2.mono HB.out.size)); have hc2 := (hb2.cell (p := ⟨w.heap.size, 0, none⟩) HP.out).trans HC.out; clear hb2) | (go_at_call 63; (with_reducible refine (HFG.out _).mono ?_); rintro e W3 ⟨rfl, hwq⟩; rw [hwq]; clear hwq) | (go_at_call 63; (with_reducible refine (HFH.out _).mono ?_); rintro e W3 ⟨rfl, hwq⟩; rw [hwq]; clear hwq))
 go_ret2
 exact ⟨rfl, HB2.out⟩
theorem plN_szk {s z : Bool} {a b k : Nat} (j : Nat) (ha : Sz k a) (hb : Sz k b) (h : k + 1 ≤ j) : Sz j (plN s a z b) := (plN_sz ha hb).more h
theorem apply_add {a b : Nat} (ha : a < 4294967296) (hf : fin32 a = true) (hb : b < 4294967296) (hg : fin32 b = true) (w : World) :
 Calls Tryz.prog 13 #[.int .i64 16, .float .f32 a, .float .f32 b] w fun e w' => NrO w (plS (fvS a) (fvP a * fvQ b) (fvS b) (fvP b * fvQ a)) (plN (fvS a) (fvP a * fvQ b) (fvS b) (fvP b * fvQ a)) (fvQ a * fvQ b) e w' := by
 obtain ⟨op, hop⟩ : ∃ op : Int, op = 16 := ⟨_, rfl⟩
 rw [← hop]
 have HB0 := Aside0.mk (below_alloc (Below.refl w.heap.size w) (.cells #[.int .i64 op] 3))
 have HL : Aside0 (w.heap.size < (w.alloc (.cells #[.int .i64 op] 3)).heap.size) := ⟨by simp⟩
 have HC0 : Aside0 ((w.alloc (.cells #[.int .i64 op] 3)).cell? ⟨w.heap.size, 0, none⟩ = some (.int .i64 op)) := ⟨by simp⟩
 have HI : Aside0 (∀ W b, OpsAt W b → W.cell? ⟨w.heap.size, 0, none⟩ = some (.int .i64 op) → w.heap.size < W.heap.size → Calls Tryz.prog 60 #[.slice (some ⟨b, 0, none⟩) 4 4, .func (.func 62) #[] #[.pointer (some ⟨w.heap.size, 0, none⟩)]] W fun e w' => e = .returned (.int .i64 (opI op)) ∧ Below W.heap.size W w') := ⟨fun W b h1 h2 h3 => index_calls h1 h2 h3⟩
 have hi : opI op = 0 := by rw [hop]; rfl
 rw [hi] at HI
 obtain ⟨hcg, HFG, HXA⟩ := good_conv ha hf
 obtain ⟨hch, HFH, HXB⟩ := good_conv hb hg
 skip
 obtain ⟨x1, x2, x3⟩ := fv_sz hf
 obtain ⟨z1, z2, z3⟩ := fv_sz hg
 have m1 : Sz 6000 (fvP a * fvQ b) := x1.mul z2
 have m2 : Sz 6000 (fvP b * fvQ a) := z1.mul x2
 have m3 : Sz 6000 (fvQ a * fvQ b) := x2.mul z2
 have m4 : Sz 6000 (fvP a * fvP b) := x1.mul z1
 have m5 : Sz 6000 (fvQ a * fvP b) := x2.mul z1
 have p1 : Sz 90000 (plN (fvS a) (fvP a * fvQ b) (fvS b) (fvP b * fvQ a)) := plN_szk _ m1 m2 (by omega)
 have p2 : Sz 90000 (fvQ a * fvQ b) := Sz.more m3 (by omega)
 have p3 : 0 < (fvQ a * fvQ b) := Nat.mul_pos x3 z3
 have HDO : Aside0 (∀ W A1 L1 c1 A2 L2 c2 A3 L3 c3 A4 L4 c4, N2 W A1 L1 c1 (fvP a) A2 L2 c2 (fvQ a) → N2 W A3 L3 c3 (fvP b) A4 L4 c4 (fvQ b) → Calls Tryz.prog 118 #[qV (fvS a) A1 L1 c1 A2 L2 c2, qV (fvS b) A3 L3 c3 A4 L4 c4] W fun e w' => QX W (plS (fvS a) (fvP a * fvQ b) (fvS b) (fvP b * fvQ a)) (plN (fvS a) (fvP a * fvQ b) (fvS b) (fvP b * fvQ a)) (fvQ a * fvQ b) e w') :=
  ⟨fun W A1 L1 c1 A2 L2 c2 A3 L3 c3 A4 L4 c4 h1 h2 => qPlus_calls h1 h2 (x1.more (by omega)) (x2.more (by omega)) (z1.more (by omega)) (z2.more (by omega))⟩
 have HNR : Aside0 (∀ W A1 L1 c1 A2 L2 c2, N2 W A1 L1 c1 (plN (fvS a) (fvP a * fvQ b) (fvS b) (fvP b * fvQ a)) A2 L2 c2 (fvQ a * fvQ b) → Calls Tryz.prog 65 #[qV (plS (fvS a) (fvP a * fvQ b) (fvS b) (fvP b * fvQ a)) A1 L1 c1 A2 L2 c2] W fun e w' => NrO W (plS (fvS a) (fvP a * fvQ b) (fvS b) (fvP b * fvQ a)) (plN (fvS a) (fvP a * fvQ b) (fvS b) (fvP b * fvQ a)) (fvQ a * fvQ b) e w') := ⟨fun W A1 L1 c1 A2 L2 c2 hn => nearest_calls hn p1 p2 p3⟩
 clear ha hf hb hg hi m1 m2 m3 m4 m5 p1 p2 p3 x1 x2 x3 z1 z2 z3
 unfold QX NrO at *
 generalize nrW (plS (fvS a) (fvP a * fvQ b) (fvS b) (fvP b * fvQ a)) (plN (fvS a) (fvP a * fvQ b) (fvS b) (fvP b * fvQ a)) (fvQ a * fvQ b) = R at *
 generalize nrE (plS (fvS a) (fvP a * fvQ b) (fvS b) (fvP b * fvQ a)) (plN (fvS a) (fvP a * fvQ b) (fvS b) (fvP b * fvQ a)) (fvQ a * fvQ b) = T at *
 generalize (plN (fvS a) (fvP a * fvQ b) (fvS b) (fvP b * fvQ a)) = P at *
 generalize (fvQ a * fvQ b) = Q at *
 generalize (plS (fvS a) (fvP a * fvQ b) (fvS b) (fvP b * fvQ a)) = sg at *
 generalize fvS a = sa at *
 generalize fvS b = sb at *
 generalize fvP a = pa at *
 generalize fvP b = pb at *
 generalize fvQ a = qa at *
 generalize fvQ b = qb at *
 generalize S64 (neg32 a) + w32 (a % 2147483648) = ya at *
 generalize S64 (neg32 b) + w32 (b % 2147483648) = yb at *
 subst hop
 go_enter Tryz.func13, Tryz.ntmps13
 go_upto_region 8 with (first | (go_at_call 61; (with_reducible refine (operations_calls _).mono ?_); rintro e W1 ⟨b1, rfl, ho, hb1⟩; have HO := Aside0.mk ho; have HB := Aside0.mk (HB0.out.trans (hb1.mono HB0.out.size)); have HC := Aside0.mk ((hb1.cell (p := ⟨w.heap.size, 0, none⟩) HL.out).trans HC0.out); have HP := Aside0.mk (Nat.lt_of_lt_of_le HL.out hb1.size); clear ho hb1) | (go_at_call 60; (with_reducible refine (HI.out _ _ HO.out HC.out HP.out).mono ?_); rintro e W2 ⟨rfl, hb2⟩; have HB2 := Aside0.mk (HB.out.trans (hb2.mono HB.out.size)); have hc2 := (hb2.cell (p := ⟨w.heap.size, 0, none⟩) HP.out).trans HC.out; clear hb2) | (go_at_call 63; (with_reducible refine (HFG.out _).mono ?_); rintro e W3 ⟨rfl, hwq⟩; rw [hwq]; clear hwq) | (go_at_call 63; (with_reducible refine (HFH.out _).mono ?_); rintro e W3 ⟨rfl, hwq⟩; rw [hwq]; clear hwq))
 clear HO HB HC HP HI HC0 HL HB0 hc2
 rename_i Q' K hK
 refine wp_region_held_drew (S := (fun _ => True)) (by kernel_rfl) ?_ (fun hHeld => ?_)
 ·trivial
 (obtain ⟨Z, hZ⟩ : ∃ Z, W2.drew = Z := ⟨_, rfl⟩; have HBZ : Aside0 (Below w.heap.size w Z) := (by subst hZ; exact ⟨HB2.out.drew⟩); rw [hZ]; clear hZ)
 refine tp 1 ?_
 try simp only [PU]
 refine tp 5 ?_
 try simp only [PU]
 refine tp 6 ?_
 try simp only [PU]
 refine tp 8 ?_
 try simp only [PU]
 refine tp 9 ?_
 try simp only [PU]
 refine tc 0 fun K hK => ?_
 go_simp
 (go_at_call 61; (with_reducible refine (operations_calls _).mono ?_); rintro e W4 ⟨b4, rfl, ho, hbq⟩; have HO := Aside0.mk ho; have HBC := Aside0.mk (HBZ.out.trans (hbq.mono HBZ.out.size)); clear ho; have q4 := HO.out.cell 1)
 refine hK.out _ _ ?_ fun hHeld => ?_
 ·trivial
 clear hK K; try simp only [PU]
 refine tp 2 ?_
 try simp only [PU]
 refine tp 3 ?_
 try simp only [PU]
 refine wpAnyH_ready (rs := [4, 7]) (by kernel_rfl) (by simp) ?_
 refine AllReadyH.cons rfl (fun K hK => ?_) (AllReadyH.cons rfl (fun K hK => ?_) (AllReadyH.nil))
 ·go_simp
  refine hK.out _ _ ?_ fun hHeld => ?_
  ·trivial
  clear hK K; try simp only [PU]
  refine tc 7 fun K hK => ?_
  go_simp
  (go_at_call 64; (with_reducible refine (HXA.out _).mono ?_); rintro e W5 ⟨A1, k1, c1, A2, k2, c2, rfl, hn, hbq⟩; have HNA := Aside0.mk hn; clear hn; have HO2 := Aside0.mk (HO.out.below hbq); clear HO; have HO := HO2; clear HO2; have HBC2 := Aside0.mk (HBC.out.trans (hbq.mono HBC.out.size)); clear HBC; have HBC := HBC2; clear HBC2; have q5 := HO.out.cell 1)
  refine hK.out _ _ ?_ fun hHeld => ?_
  ·trivial
  clear hK K; try simp only [PU]
  refine tc 10 fun K hK => ?_
  go_simp
  (go_at_call 64; (with_reducible refine (HXB.out _).mono ?_); rintro e W6 ⟨A3, k3, c3, A4, k4, c4, rfl, hn, hbq⟩; have HNB := Aside0.mk hn; clear hn; have HNA2 := Aside0.mk (HNA.out.below hbq); have HO2 := Aside0.mk (HO.out.below hbq); clear HO; have HO := HO2; clear HO2; have HBC2 := Aside0.mk (HBC.out.trans (hbq.mono HBC.out.size)); clear HBC; have HBC := HBC2; clear HBC2; have q6 := HO.out.cell 1)
  refine hK.out _ _ ?_ fun hHeld => ?_
  ·trivial
  clear hK K; try simp only [PU]
  refine tc 11 fun K hK => ?_
  go_simp
  (go_at_call 118; (with_reducible refine (HDO.out _ _ _ _ _ _ _ _ _ _ _ _ _ HNA2.out HNB.out).mono ?_); rintro e W7 ⟨A5, k5, c5, A6, k6, c6, rfl, hn, hbq⟩; have HNC := Aside0.mk hn; clear hn; have HO2 := Aside0.mk (HO.out.below hbq); clear HO; have HO := HO2; clear HO2; have HBC2 := Aside0.mk (HBC.out.trans (hbq.mono HBC.out.size)); clear HBC; have HBC := HBC2; clear HBC2)
  refine hK.out _ _ ?_ fun hHeld => ?_
  ·trivial
  clear hK K; try simp only [PU]
  refine tc 12 fun K hK => ?_
  go_simp
  (go_at_call 65; (with_reducible refine (HNR.out _ _ _ _ _ _ _ HNC.out).mono ?_); rintro e W8 ⟨rfl, hbq⟩; have HO2 := Aside0.mk (HO.out.below hbq); clear HO; have HO := HO2; clear HO2; have HBC2 := Aside0.mk (HBC.out.trans (hbq.mono HBC.out.size)); clear HBC; have HBC := HBC2; clear HBC2)
  refine hK.out _ _ ?_ fun hHeld => ?_
  ·trivial
  clear hK K; try simp only [PU]
  refine tp 13 ?_
  try simp only [PU]
  refine tp 14 ?_
  try simp only [PU]
  refine tp 15 ?_
  try simp only [PU]
  refine tp 16 ?_
  try simp only [PU]
  refine wpAnyH_done (by kernel_rfl) ?_ _
  refine hK _ _ ?_
  clear hK
  go_wp2
  go_ret2
  exact ⟨rfl, HBC.out⟩
 ·go_simp
  (go_at_call 64; (with_reducible refine (HXA.out _).mono ?_); rintro e W5 ⟨A1, k1, c1, A2, k2, c2, rfl, hn, hbq⟩; have HNA := Aside0.mk hn; clear hn; have HO2 := Aside0.mk (HO.out.below hbq); clear HO; have HO := HO2; clear HO2; have HBC2 := Aside0.mk (HBC.out.trans (hbq.mono HBC.out.size)); clear HBC; have HBC := HBC2; clear HBC2; have q5 := HO.out.cell 1)
  refine hK.out _ _ ?_ fun hHeld => ?_
  ·trivial
  clear hK K; try simp only [PU]
  refine wpAnyH_ready (rs := [4, 10]) (by kernel_rfl) (by simp) ?_
  refine AllReadyH.cons rfl (fun K hK => ?_) (AllReadyH.cons rfl (fun K hK => ?_) (AllReadyH.nil))
  ·go_simp
   refine hK.out _ _ ?_ fun hHeld => ?_
   ·trivial
   clear hK K; try simp only [PU]
   refine tc 10 fun K hK => ?_
   go_simp
   (go_at_call 64; (with_reducible refine (HXB.out _).mono ?_); rintro e W6 ⟨A3, k3, c3, A4, k4, c4, rfl, hn, hbq⟩; have HNB := Aside0.mk hn; clear hn; have HNA2 := Aside0.mk (HNA.out.below hbq); have HO2 := Aside0.mk (HO.out.below hbq); clear HO; have HO := HO2; clear HO2; have HBC2 := Aside0.mk (HBC.out.trans (hbq.mono HBC.out.size)); clear HBC; have HBC := HBC2; clear HBC2; have q6 := HO.out.cell 1)
   refine hK.out _ _ ?_ fun hHeld => ?_
   ·trivial
   clear hK K; try simp only [PU]
   refine tc 11 fun K hK => ?_
   go_simp
   (go_at_call 118; (with_reducible refine (HDO.out _ _ _ _ _ _ _ _ _ _ _ _ _ HNA2.out HNB.out).mono ?_); rintro e W7 ⟨A5, k5, c5, A6, k6, c6, rfl, hn, hbq⟩; have HNC := Aside0.mk hn; clear hn; have HO2 := Aside0.mk (HO.out.below hbq); clear HO; have HO := HO2; clear HO2; have HBC2 := Aside0.mk (HBC.out.trans (hbq.mono HBC.out.size)); clear HBC; have HBC := HBC2; clear HBC2)
   refine hK.out _ _ ?_ fun hHeld => ?_
   ·trivial
   clear hK K; try simp only [PU]
   refine tc 12 fun K hK => ?_
   go_simp
   (go_at_call 65; (with_reducible refine (HNR.out _ _ _ _ _ _ _ HNC.out).mono ?_); rintro e W8 ⟨rfl, hbq⟩; have HO2 := Aside0.mk (HO.out.below hbq); clear HO; have HO := HO2; clear HO2; have HBC2 := Aside0.mk (HBC.out.trans (hbq.mono HBC.out.size)); clear HBC; have HBC := HBC2; clear HBC2)
   refine hK.out _ _ ?_ fun hHeld => ?_
   ·trivial
   clear hK K; try simp only [PU]
   refine tp 13 ?_
   try simp only [PU]
   refine tp 14 ?_
   try simp only [PU]
   refine tp 15 ?_
   try simp only [PU]
   refine tp 16 ?_
   try simp only [PU]
   refine wpAnyH_done (by kernel_rfl) ?_ _
   refine hK _ _ ?_
   clear hK
   go_wp2
   go_ret2
   exact ⟨rfl, HBC.out⟩
  ·go_simp
   (go_at_call 64; (with_reducible refine (HXB.out _).mono ?_); rintro e W6 ⟨A3, k3, c3, A4, k4, c4, rfl, hn, hbq⟩; have HNB := Aside0.mk hn; clear hn; have HNA2 := Aside0.mk (HNA.out.below hbq); have HO2 := Aside0.mk (HO.out.below hbq); clear HO; have HO := HO2; clear HO2; have HBC2 := Aside0.mk (HBC.out.trans (hbq.mono HBC.out.size)); clear HBC; have HBC := HBC2; clear HBC2; have q6 := HO.out.cell 1)
   refine hK.out _ _ ?_ fun hHeld => ?_
   ·trivial
   clear hK K; try simp only [PU]
   refine tc 4 fun K hK => ?_
   go_simp
   refine hK.out _ _ ?_ fun hHeld => ?_
   ·trivial
   clear hK K; try simp only [PU]
   refine tc 11 fun K hK => ?_
   go_simp
   (go_at_call 118; (with_reducible refine (HDO.out _ _ _ _ _ _ _ _ _ _ _ _ _ HNA2.out HNB.out).mono ?_); rintro e W7 ⟨A5, k5, c5, A6, k6, c6, rfl, hn, hbq⟩; have HNC := Aside0.mk hn; clear hn; have HO2 := Aside0.mk (HO.out.below hbq); clear HO; have HO := HO2; clear HO2; have HBC2 := Aside0.mk (HBC.out.trans (hbq.mono HBC.out.size)); clear HBC; have HBC := HBC2; clear HBC2)
   refine hK.out _ _ ?_ fun hHeld => ?_
   ·trivial
   clear hK K; try simp only [PU]
   refine tc 12 fun K hK => ?_
   go_simp
   (go_at_call 65; (with_reducible refine (HNR.out _ _ _ _ _ _ _ HNC.out).mono ?_); rintro e W8 ⟨rfl, hbq⟩; have HO2 := Aside0.mk (HO.out.below hbq); clear HO; have HO := HO2; clear HO2; have HBC2 := Aside0.mk (HBC.out.trans (hbq.mono HBC.out.size)); clear HBC; have HBC := HBC2; clear HBC2)
   refine hK.out _ _ ?_ fun hHeld => ?_
   ·trivial
   clear hK K; try simp only [PU]
   refine tp 13 ?_
   try simp only [PU]
   refine tp 14 ?_
   try simp only [PU]
   refine tp 15 ?_
   try simp only [PU]
   refine tp 16 ?_
   try simp only [PU]
   refine wpAnyH_done (by kernel_rfl) ?_ _
   refine hK _ _ ?_
   clear hK
   go_wp2
   go_ret2
   exact ⟨rfl, HBC.out⟩
theorem apply_sub {a b : Nat} (ha : a < 4294967296) (hf : fin32 a = true) (hb : b < 4294967296) (hg : fin32 b = true) (w : World) :
 Calls Tryz.prog 13 #[.int .i64 17, .float .f32 a, .float .f32 b] w fun e w' => NrO w (plS (fvS a) (fvP a * fvQ b) (!(fvS b)) (fvP b * fvQ a)) (plN (fvS a) (fvP a * fvQ b) (!(fvS b)) (fvP b * fvQ a)) (fvQ a * fvQ b) e w' := by
 obtain ⟨op, hop⟩ : ∃ op : Int, op = 17 := ⟨_, rfl⟩
 rw [← hop]
 have HB0 := Aside0.mk (below_alloc (Below.refl w.heap.size w) (.cells #[.int .i64 op] 3))
 have HL : Aside0 (w.heap.size < (w.alloc (.cells #[.int .i64 op] 3)).heap.size) := ⟨by simp⟩
 have HC0 : Aside0 ((w.alloc (.cells #[.int .i64 op] 3)).cell? ⟨w.heap.size, 0, none⟩ = some (.int .i64 op)) := ⟨by simp⟩
 have HI : Aside0 (∀ W b, OpsAt W b → W.cell? ⟨w.heap.size, 0, none⟩ = some (.int .i64 op) → w.heap.size < W.heap.size → Calls Tryz.prog 60 #[.slice (some ⟨b, 0, none⟩) 4 4, .func (.func 62) #[] #[.pointer (some ⟨w.heap.size, 0, none⟩)]] W fun e w' => e = .returned (.int .i64 (opI op)) ∧ Below W.heap.size W w') := ⟨fun W b h1 h2 h3 => index_calls h1 h2 h3⟩
 have hi : opI op = 1 := by rw [hop]; rfl
 rw [hi] at HI
 obtain ⟨hcg, HFG, HXA⟩ := good_conv ha hf
 obtain ⟨hch, HFH, HXB⟩ := good_conv hb hg
 skip
 obtain ⟨x1, x2, x3⟩ := fv_sz hf
 obtain ⟨z1, z2, z3⟩ := fv_sz hg
 have m1 : Sz 6000 (fvP a * fvQ b) := x1.mul z2
 have m2 : Sz 6000 (fvP b * fvQ a) := z1.mul x2
 have m3 : Sz 6000 (fvQ a * fvQ b) := x2.mul z2
 have m4 : Sz 6000 (fvP a * fvP b) := x1.mul z1
 have m5 : Sz 6000 (fvQ a * fvP b) := x2.mul z1
 have p1 : Sz 90000 (plN (fvS a) (fvP a * fvQ b) (!(fvS b)) (fvP b * fvQ a)) := plN_szk _ m1 m2 (by omega)
 have p2 : Sz 90000 (fvQ a * fvQ b) := Sz.more m3 (by omega)
 have p3 : 0 < (fvQ a * fvQ b) := Nat.mul_pos x3 z3
 have HDO : Aside0 (∀ W A1 L1 c1 A2 L2 c2 A3 L3 c3 A4 L4 c4, N2 W A1 L1 c1 (fvP a) A2 L2 c2 (fvQ a) → N2 W A3 L3 c3 (fvP b) A4 L4 c4 (fvQ b) → Calls Tryz.prog 80 #[qV (fvS a) A1 L1 c1 A2 L2 c2, qV (fvS b) A3 L3 c3 A4 L4 c4] W fun e w' => QX W (plS (fvS a) (fvP a * fvQ b) (!(fvS b)) (fvP b * fvQ a)) (plN (fvS a) (fvP a * fvQ b) (!(fvS b)) (fvP b * fvQ a)) (fvQ a * fvQ b) e w') :=
  ⟨fun W A1 L1 c1 A2 L2 c2 A3 L3 c3 A4 L4 c4 h1 h2 => qMinus_calls h1 h2 (x1.more (by omega)) (x2.more (by omega)) (z1.more (by omega)) (z2.more (by omega))⟩
 have HNR : Aside0 (∀ W A1 L1 c1 A2 L2 c2, N2 W A1 L1 c1 (plN (fvS a) (fvP a * fvQ b) (!(fvS b)) (fvP b * fvQ a)) A2 L2 c2 (fvQ a * fvQ b) → Calls Tryz.prog 65 #[qV (plS (fvS a) (fvP a * fvQ b) (!(fvS b)) (fvP b * fvQ a)) A1 L1 c1 A2 L2 c2] W fun e w' => NrO W (plS (fvS a) (fvP a * fvQ b) (!(fvS b)) (fvP b * fvQ a)) (plN (fvS a) (fvP a * fvQ b) (!(fvS b)) (fvP b * fvQ a)) (fvQ a * fvQ b) e w') := ⟨fun W A1 L1 c1 A2 L2 c2 hn => nearest_calls hn p1 p2 p3⟩
 clear ha hf hb hg hi m1 m2 m3 m4 m5 p1 p2 p3 x1 x2 x3 z1 z2 z3
 unfold QX NrO at *
 generalize nrW (plS (fvS a) (fvP a * fvQ b) (!(fvS b)) (fvP b * fvQ a)) (plN (fvS a) (fvP a * fvQ b) (!(fvS b)) (fvP b * fvQ a)) (fvQ a * fvQ b) = R at *
 generalize nrE (plS (fvS a) (fvP a * fvQ b) (!(fvS b)) (fvP b * fvQ a)) (plN (fvS a) (fvP a * fvQ b) (!(fvS b)) (fvP b * fvQ a)) (fvQ a * fvQ b) = T at *
 generalize (plN (fvS a) (fvP a * fvQ b) (!(fvS b)) (fvP b * fvQ a)) = P at *
 generalize (fvQ a * fvQ b) = Q at *
 generalize (plS (fvS a) (fvP a * fvQ b) (!(fvS b)) (fvP b * fvQ a)) = sg at *
 generalize fvS a = sa at *
 generalize fvS b = sb at *
 generalize fvP a = pa at *
 generalize fvP b = pb at *
 generalize fvQ a = qa at *
 generalize fvQ b = qb at *
 generalize S64 (neg32 a) + w32 (a % 2147483648) = ya at *
 generalize S64 (neg32 b) + w32 (b % 2147483648) = yb at *
 subst hop
 go_enter Tryz.func13, Tryz.ntmps13
 go_upto_region 8 with (first | (go_at_call 61; (with_reducible refine (operations_calls _).mono ?_); rintro e W1 ⟨b1, rfl, ho, hb1⟩; have HO := Aside0.mk ho; have HB := Aside0.mk (HB0.out.trans (hb1.mono HB0.out.size)); have HC := Aside0.mk ((hb1.cell (p := ⟨w.heap.size, 0, none⟩) HL.out).trans HC0.out); have HP := Aside0.mk (Nat.lt_of_lt_of_le HL.out hb1.size); clear ho hb1) | (go_at_call 60; (with_reducible refine (HI.out _ _ HO.out HC.out HP.out).mono ?_); rintro e W2 ⟨rfl, hb2⟩; have HB2 := Aside0.mk (HB.out.trans (hb2.mono HB.out.size)); have hc2 := (hb2.cell (p := ⟨w.heap.size, 0, none⟩) HP.out).trans HC.out; clear hb2) | (go_at_call 63; (with_reducible refine (HFG.out _).mono ?_); rintro e W3 ⟨rfl, hwq⟩; rw [hwq]; clear hwq) | (go_at_call 63; (with_reducible refine (HFH.out _).mono ?_); rintro e W3 ⟨rfl, hwq⟩; rw [hwq]; clear hwq))
 clear HO HB HC HP HI HC0 HL HB0 hc2
 rename_i Q' K hK
 refine wp_region_held_drew (S := (fun _ => True)) (by kernel_rfl) ?_ (fun hHeld => ?_)
 ·trivial
 (obtain ⟨Z, hZ⟩ : ∃ Z, W2.drew = Z := ⟨_, rfl⟩; have HBZ : Aside0 (Below w.heap.size w Z) := (by subst hZ; exact ⟨HB2.out.drew⟩); rw [hZ]; clear hZ)
 refine tp 1 ?_
 try simp only [PU]
 refine tp 5 ?_
 try simp only [PU]
 refine tp 6 ?_
 try simp only [PU]
 refine tp 8 ?_
 try simp only [PU]
 refine tp 9 ?_
 try simp only [PU]
 refine tc 0 fun K hK => ?_
 go_simp
 (go_at_call 61; (with_reducible refine (operations_calls _).mono ?_); rintro e W4 ⟨b4, rfl, ho, hbq⟩; have HO := Aside0.mk ho; have HBC := Aside0.mk (HBZ.out.trans (hbq.mono HBZ.out.size)); clear ho; have q4 := HO.out.cell 3)
 refine hK.out _ _ ?_ fun hHeld => ?_
 ·trivial
 clear hK K; try simp only [PU]
 refine tp 2 ?_
 try simp only [PU]
 refine tp 3 ?_
 try simp only [PU]
 refine wpAnyH_ready (rs := [4, 7]) (by kernel_rfl) (by simp) ?_
 refine AllReadyH.cons rfl (fun K hK => ?_) (AllReadyH.cons rfl (fun K hK => ?_) (AllReadyH.nil))
 ·go_simp
  refine hK.out _ _ ?_ fun hHeld => ?_
  ·trivial
  clear hK K; try simp only [PU]
  refine tc 7 fun K hK => ?_
  go_simp
  (go_at_call 64; (with_reducible refine (HXA.out _).mono ?_); rintro e W5 ⟨A1, k1, c1, A2, k2, c2, rfl, hn, hbq⟩; have HNA := Aside0.mk hn; clear hn; have HO2 := Aside0.mk (HO.out.below hbq); clear HO; have HO := HO2; clear HO2; have HBC2 := Aside0.mk (HBC.out.trans (hbq.mono HBC.out.size)); clear HBC; have HBC := HBC2; clear HBC2; have q5 := HO.out.cell 3)
  refine hK.out _ _ ?_ fun hHeld => ?_
  ·trivial
  clear hK K; try simp only [PU]
  refine tc 10 fun K hK => ?_
  go_simp
  (go_at_call 64; (with_reducible refine (HXB.out _).mono ?_); rintro e W6 ⟨A3, k3, c3, A4, k4, c4, rfl, hn, hbq⟩; have HNB := Aside0.mk hn; clear hn; have HNA2 := Aside0.mk (HNA.out.below hbq); have HO2 := Aside0.mk (HO.out.below hbq); clear HO; have HO := HO2; clear HO2; have HBC2 := Aside0.mk (HBC.out.trans (hbq.mono HBC.out.size)); clear HBC; have HBC := HBC2; clear HBC2; have q6 := HO.out.cell 3)
  refine hK.out _ _ ?_ fun hHeld => ?_
  ·trivial
  clear hK K; try simp only [PU]
  refine tc 11 fun K hK => ?_
  go_simp
  (go_at_call 80; (with_reducible refine (HDO.out _ _ _ _ _ _ _ _ _ _ _ _ _ HNA2.out HNB.out).mono ?_); rintro e W7 ⟨A5, k5, c5, A6, k6, c6, rfl, hn, hbq⟩; have HNC := Aside0.mk hn; clear hn; have HO2 := Aside0.mk (HO.out.below hbq); clear HO; have HO := HO2; clear HO2; have HBC2 := Aside0.mk (HBC.out.trans (hbq.mono HBC.out.size)); clear HBC; have HBC := HBC2; clear HBC2)
  refine hK.out _ _ ?_ fun hHeld => ?_
  ·trivial
  clear hK K; try simp only [PU]
  refine tc 12 fun K hK => ?_
  go_simp
  (go_at_call 65; (with_reducible refine (HNR.out _ _ _ _ _ _ _ HNC.out).mono ?_); rintro e W8 ⟨rfl, hbq⟩; have HO2 := Aside0.mk (HO.out.below hbq); clear HO; have HO := HO2; clear HO2; have HBC2 := Aside0.mk (HBC.out.trans (hbq.mono HBC.out.size)); clear HBC; have HBC := HBC2; clear HBC2)
  refine hK.out _ _ ?_ fun hHeld => ?_
  ·trivial
  clear hK K; try simp only [PU]
  refine tp 13 ?_
  try simp only [PU]
  refine tp 14 ?_
  try simp only [PU]
  refine tp 15 ?_
  try simp only [PU]
  refine tp 16 ?_
  try simp only [PU]
  refine wpAnyH_done (by kernel_rfl) ?_ _
  refine hK _ _ ?_
  clear hK
  go_wp2
  go_ret2
  exact ⟨rfl, HBC.out⟩
 ·go_simp
  (go_at_call 64; (with_reducible refine (HXA.out _).mono ?_); rintro e W5 ⟨A1, k1, c1, A2, k2, c2, rfl, hn, hbq⟩; have HNA := Aside0.mk hn; clear hn; have HO2 := Aside0.mk (HO.out.below hbq); clear HO; have HO := HO2; clear HO2; have HBC2 := Aside0.mk (HBC.out.trans (hbq.mono HBC.out.size)); clear HBC; have HBC := HBC2; clear HBC2; have q5 := HO.out.cell 3)
  refine hK.out _ _ ?_ fun hHeld => ?_
  ·trivial
  clear hK K; try simp only [PU]
  refine wpAnyH_ready (rs := [4, 10]) (by kernel_rfl) (by simp) ?_
  refine AllReadyH.cons rfl (fun K hK => ?_) (AllReadyH.cons rfl (fun K hK => ?_) (AllReadyH.nil))
  ·go_simp
   refine hK.out _ _ ?_ fun hHeld => ?_
   ·trivial
   clear hK K; try simp only [PU]
   refine tc 10 fun K hK => ?_
   go_simp
   (go_at_call 64; (with_reducible refine (HXB.out _).mono ?_); rintro e W6 ⟨A3, k3, c3, A4, k4, c4, rfl, hn, hbq⟩; have HNB := Aside0.mk hn; clear hn; have HNA2 := Aside0.mk (HNA.out.below hbq); have HO2 := Aside0.mk (HO.out.below hbq); clear HO; have HO := HO2; clear HO2; have HBC2 := Aside0.mk (HBC.out.trans (hbq.mono HBC.out.size)); clear HBC; have HBC := HBC2; clear HBC2; have q6 := HO.out.cell 3)
   refine hK.out _ _ ?_ fun hHeld => ?_
   ·trivial
   clear hK K; try simp only [PU]
   refine tc 11 fun K hK => ?_
   go_simp
   (go_at_call 80; (with_reducible refine (HDO.out _ _ _ _ _ _ _ _ _ _ _ _ _ HNA2.out HNB.out).mono ?_); rintro e W7 ⟨A5, k5, c5, A6, k6, c6, rfl, hn, hbq⟩; have HNC := Aside0.mk hn; clear hn; have HO2 := Aside0.mk (HO.out.below hbq); clear HO; have HO := HO2; clear HO2; have HBC2 := Aside0.mk (HBC.out.trans (hbq.mono HBC.out.size)); clear HBC; have HBC := HBC2; clear HBC2)
   refine hK.out _ _ ?_ fun hHeld => ?_
   ·trivial
   clear hK K; try simp only [PU]
   refine tc 12 fun K hK => ?_
   go_simp
   (go_at_call 65; (with_reducible refine (HNR.out _ _ _ _ _ _ _ HNC.out).mono ?_); rintro e W8 ⟨rfl, hbq⟩; have HO2 := Aside0.mk (HO.out.below hbq); clear HO; have HO := HO2; clear HO2; have HBC2 := Aside0.mk (HBC.out.trans (hbq.mono HBC.out.size)); clear HBC; have HBC := HBC2; clear HBC2)
   refine hK.out _ _ ?_ fun hHeld => ?_
   ·trivial
   clear hK K; try simp only [PU]
   refine tp 13 ?_
   try simp only [PU]
   refine tp 14 ?_
   try simp only [PU]
   refine tp 15 ?_
   try simp only [PU]
   refine tp 16 ?_
   try simp only [PU]
   refine wpAnyH_done (by kernel_rfl) ?_ _
   refine hK _ _ ?_
   clear hK
   go_wp2
   go_ret2
   exact ⟨rfl, HBC.out⟩
  ·go_simp
   (go_at_call 64; (with_reducible refine (HXB.out _).mono ?_); rintro e W6 ⟨A3, k3, c3, A4, k4, c4, rfl, hn, hbq⟩; have HNB := Aside0.mk hn; clear hn; have HNA2 := Aside0.mk (HNA.out.below hbq); have HO2 := Aside0.mk (HO.out.below hbq); clear HO; have HO := HO2; clear HO2; have HBC2 := Aside0.mk (HBC.out.trans (hbq.mono HBC.out.size)); clear HBC; have HBC := HBC2; clear HBC2; have q6 := HO.out.cell 3)
   refine hK.out _ _ ?_ fun hHeld => ?_
   ·trivial
   clear hK K; try simp only [PU]
   refine tc 4 fun K hK => ?_
   go_simp
   refine hK.out _ _ ?_ fun hHeld => ?_
   ·trivial
   clear hK K; try simp only [PU]
   refine tc 11 fun K hK => ?_
   go_simp
   (go_at_call 80; (with_reducible refine (HDO.out _ _ _ _ _ _ _ _ _ _ _ _ _ HNA2.out HNB.out).mono ?_); rintro e W7 ⟨A5, k5, c5, A6, k6, c6, rfl, hn, hbq⟩; have HNC := Aside0.mk hn; clear hn; have HO2 := Aside0.mk (HO.out.below hbq); clear HO; have HO := HO2; clear HO2; have HBC2 := Aside0.mk (HBC.out.trans (hbq.mono HBC.out.size)); clear HBC; have HBC := HBC2; clear HBC2)
   refine hK.out _ _ ?_ fun hHeld => ?_
   ·trivial
   clear hK K; try simp only [PU]
   refine tc 12 fun K hK => ?_
   go_simp
   (go_at_call 65; (with_reducible refine (HNR.out _ _ _ _ _ _ _ HNC.out).mono ?_); rintro e W8 ⟨rfl, hbq⟩; have HO2 := Aside0.mk (HO.out.below hbq); clear HO; have HO := HO2; clear HO2; have HBC2 := Aside0.mk (HBC.out.trans (hbq.mono HBC.out.size)); clear HBC; have HBC := HBC2; clear HBC2)
   refine hK.out _ _ ?_ fun hHeld => ?_
   ·trivial
   clear hK K; try simp only [PU]
   refine tp 13 ?_
   try simp only [PU]
   refine tp 14 ?_
   try simp only [PU]
   refine tp 15 ?_
   try simp only [PU]
   refine tp 16 ?_
   try simp only [PU]
   refine wpAnyH_done (by kernel_rfl) ?_ _
   refine hK _ _ ?_
   clear hK
   go_wp2
   go_ret2
   exact ⟨rfl, HBC.out⟩
theorem apply_mul {a b : Nat} (ha : a < 4294967296) (hf : fin32 a = true) (hb : b < 4294967296) (hg : fin32 b = true) (w : World) :
 Calls Tryz.prog 13 #[.int .i64 18, .float .f32 a, .float .f32 b] w fun e w' => NrO w (!(fvS a == fvS b)) (fvP a * fvP b) (fvQ a * fvQ b) e w' := by
 obtain ⟨op, hop⟩ : ∃ op : Int, op = 18 := ⟨_, rfl⟩
 rw [← hop]
 have HB0 := Aside0.mk (below_alloc (Below.refl w.heap.size w) (.cells #[.int .i64 op] 3))
 have HL : Aside0 (w.heap.size < (w.alloc (.cells #[.int .i64 op] 3)).heap.size) := ⟨by simp⟩
 have HC0 : Aside0 ((w.alloc (.cells #[.int .i64 op] 3)).cell? ⟨w.heap.size, 0, none⟩ = some (.int .i64 op)) := ⟨by simp⟩
 have HI : Aside0 (∀ W b, OpsAt W b → W.cell? ⟨w.heap.size, 0, none⟩ = some (.int .i64 op) → w.heap.size < W.heap.size → Calls Tryz.prog 60 #[.slice (some ⟨b, 0, none⟩) 4 4, .func (.func 62) #[] #[.pointer (some ⟨w.heap.size, 0, none⟩)]] W fun e w' => e = .returned (.int .i64 (opI op)) ∧ Below W.heap.size W w') := ⟨fun W b h1 h2 h3 => index_calls h1 h2 h3⟩
 have hi : opI op = 2 := by rw [hop]; rfl
 rw [hi] at HI
 obtain ⟨hcg, HFG, HXA⟩ := good_conv ha hf
 obtain ⟨hch, HFH, HXB⟩ := good_conv hb hg
 skip
 obtain ⟨x1, x2, x3⟩ := fv_sz hf
 obtain ⟨z1, z2, z3⟩ := fv_sz hg
 have m1 : Sz 6000 (fvP a * fvQ b) := x1.mul z2
 have m2 : Sz 6000 (fvP b * fvQ a) := z1.mul x2
 have m3 : Sz 6000 (fvQ a * fvQ b) := x2.mul z2
 have m4 : Sz 6000 (fvP a * fvP b) := x1.mul z1
 have m5 : Sz 6000 (fvQ a * fvP b) := x2.mul z1
 have p1 : Sz 90000 (fvP a * fvP b) := m4.more (by omega)
 have p2 : Sz 90000 (fvQ a * fvQ b) := Sz.more m3 (by omega)
 have p3 : 0 < (fvQ a * fvQ b) := Nat.mul_pos x3 z3
 have HDO : Aside0 (∀ W A1 L1 c1 A2 L2 c2 A3 L3 c3 A4 L4 c4, N2 W A1 L1 c1 (fvP a) A2 L2 c2 (fvQ a) → N2 W A3 L3 c3 (fvP b) A4 L4 c4 (fvQ b) → Calls Tryz.prog 129 #[qV (fvS a) A1 L1 c1 A2 L2 c2, qV (fvS b) A3 L3 c3 A4 L4 c4] W fun e w' => QX W (!(fvS a == fvS b)) (fvP a * fvP b) (fvQ a * fvQ b) e w') :=
  ⟨fun W A1 L1 c1 A2 L2 c2 A3 L3 c3 A4 L4 c4 h1 h2 => qTimes_calls h1 h2 (x1.more (by omega)) (x2.more (by omega)) (z1.more (by omega)) (z2.more (by omega))⟩
 have HNR : Aside0 (∀ W A1 L1 c1 A2 L2 c2, N2 W A1 L1 c1 (fvP a * fvP b) A2 L2 c2 (fvQ a * fvQ b) → Calls Tryz.prog 65 #[qV (!(fvS a == fvS b)) A1 L1 c1 A2 L2 c2] W fun e w' => NrO W (!(fvS a == fvS b)) (fvP a * fvP b) (fvQ a * fvQ b) e w') := ⟨fun W A1 L1 c1 A2 L2 c2 hn => nearest_calls hn p1 p2 p3⟩
 clear ha hf hb hg hi m1 m2 m3 m4 m5 p1 p2 p3 x1 x2 x3 z1 z2 z3
 unfold QX NrO at *
 generalize nrW (!(fvS a == fvS b)) (fvP a * fvP b) (fvQ a * fvQ b) = R at *
 generalize nrE (!(fvS a == fvS b)) (fvP a * fvP b) (fvQ a * fvQ b) = T at *
 generalize (fvP a * fvP b) = P at *
 generalize (fvQ a * fvQ b) = Q at *
 generalize (!(fvS a == fvS b)) = sg at *
 generalize fvS a = sa at *
 generalize fvS b = sb at *
 generalize fvP a = pa at *
 generalize fvP b = pb at *
 generalize fvQ a = qa at *
 generalize fvQ b = qb at *
 generalize S64 (neg32 a) + w32 (a % 2147483648) = ya at *
 generalize S64 (neg32 b) + w32 (b % 2147483648) = yb at *
 subst hop
 go_enter Tryz.func13, Tryz.ntmps13
 go_upto_region 8 with (first | (go_at_call 61; (with_reducible refine (operations_calls _).mono ?_); rintro e W1 ⟨b1, rfl, ho, hb1⟩; have HO := Aside0.mk ho; have HB := Aside0.mk (HB0.out.trans (hb1.mono HB0.out.size)); have HC := Aside0.mk ((hb1.cell (p := ⟨w.heap.size, 0, none⟩) HL.out).trans HC0.out); have HP := Aside0.mk (Nat.lt_of_lt_of_le HL.out hb1.size); clear ho hb1) | (go_at_call 60; (with_reducible refine (HI.out _ _ HO.out HC.out HP.out).mono ?_); rintro e W2 ⟨rfl, hb2⟩; have HB2 := Aside0.mk (HB.out.trans (hb2.mono HB.out.size)); have hc2 := (hb2.cell (p := ⟨w.heap.size, 0, none⟩) HP.out).trans HC.out; clear hb2) | (go_at_call 63; (with_reducible refine (HFG.out _).mono ?_); rintro e W3 ⟨rfl, hwq⟩; rw [hwq]; clear hwq) | (go_at_call 63; (with_reducible refine (HFH.out _).mono ?_); rintro e W3 ⟨rfl, hwq⟩; rw [hwq]; clear hwq))
 clear HO HB HC HP HI HC0 HL HB0 hc2
 rename_i Q' K hK
 refine wp_region_held_drew (S := (fun _ => True)) (by kernel_rfl) ?_ (fun hHeld => ?_)
 ·trivial
 (obtain ⟨Z, hZ⟩ : ∃ Z, W2.drew = Z := ⟨_, rfl⟩; have HBZ : Aside0 (Below w.heap.size w Z) := (by subst hZ; exact ⟨HB2.out.drew⟩); rw [hZ]; clear hZ)
 refine tp 1 ?_
 try simp only [PU]
 refine tp 5 ?_
 try simp only [PU]
 refine tp 6 ?_
 try simp only [PU]
 refine tp 8 ?_
 try simp only [PU]
 refine tp 9 ?_
 try simp only [PU]
 refine tc 0 fun K hK => ?_
 go_simp
 (go_at_call 61; (with_reducible refine (operations_calls _).mono ?_); rintro e W4 ⟨b4, rfl, ho, hbq⟩; have HO := Aside0.mk ho; have HBC := Aside0.mk (HBZ.out.trans (hbq.mono HBZ.out.size)); clear ho; have q4 := HO.out.cell 5)
 refine hK.out _ _ ?_ fun hHeld => ?_
 ·trivial
 clear hK K; try simp only [PU]
 refine tp 2 ?_
 try simp only [PU]
 refine tp 3 ?_
 try simp only [PU]
 refine wpAnyH_ready (rs := [4, 7]) (by kernel_rfl) (by simp) ?_
 refine AllReadyH.cons rfl (fun K hK => ?_) (AllReadyH.cons rfl (fun K hK => ?_) (AllReadyH.nil))
 ·go_simp
  refine hK.out _ _ ?_ fun hHeld => ?_
  ·trivial
  clear hK K; try simp only [PU]
  refine tc 7 fun K hK => ?_
  go_simp
  (go_at_call 64; (with_reducible refine (HXA.out _).mono ?_); rintro e W5 ⟨A1, k1, c1, A2, k2, c2, rfl, hn, hbq⟩; have HNA := Aside0.mk hn; clear hn; have HO2 := Aside0.mk (HO.out.below hbq); clear HO; have HO := HO2; clear HO2; have HBC2 := Aside0.mk (HBC.out.trans (hbq.mono HBC.out.size)); clear HBC; have HBC := HBC2; clear HBC2; have q5 := HO.out.cell 5)
  refine hK.out _ _ ?_ fun hHeld => ?_
  ·trivial
  clear hK K; try simp only [PU]
  refine tc 10 fun K hK => ?_
  go_simp
  (go_at_call 64; (with_reducible refine (HXB.out _).mono ?_); rintro e W6 ⟨A3, k3, c3, A4, k4, c4, rfl, hn, hbq⟩; have HNB := Aside0.mk hn; clear hn; have HNA2 := Aside0.mk (HNA.out.below hbq); have HO2 := Aside0.mk (HO.out.below hbq); clear HO; have HO := HO2; clear HO2; have HBC2 := Aside0.mk (HBC.out.trans (hbq.mono HBC.out.size)); clear HBC; have HBC := HBC2; clear HBC2; have q6 := HO.out.cell 5)
  refine hK.out _ _ ?_ fun hHeld => ?_
  ·trivial
  clear hK K; try simp only [PU]
  refine tc 11 fun K hK => ?_
  go_simp
  (go_at_call 129; (with_reducible refine (HDO.out _ _ _ _ _ _ _ _ _ _ _ _ _ HNA2.out HNB.out).mono ?_); rintro e W7 ⟨A5, k5, c5, A6, k6, c6, rfl, hn, hbq⟩; have HNC := Aside0.mk hn; clear hn; have HO2 := Aside0.mk (HO.out.below hbq); clear HO; have HO := HO2; clear HO2; have HBC2 := Aside0.mk (HBC.out.trans (hbq.mono HBC.out.size)); clear HBC; have HBC := HBC2; clear HBC2)
  refine hK.out _ _ ?_ fun hHeld => ?_
  ·trivial
  clear hK K; try simp only [PU]
  refine tc 12 fun K hK => ?_
  go_simp
  (go_at_call 65; (with_reducible refine (HNR.out _ _ _ _ _ _ _ HNC.out).mono ?_); rintro e W8 ⟨rfl, hbq⟩; have HO2 := Aside0.mk (HO.out.below hbq); clear HO; have HO := HO2; clear HO2; have HBC2 := Aside0.mk (HBC.out.trans (hbq.mono HBC.out.size)); clear HBC; have HBC := HBC2; clear HBC2)
  refine hK.out _ _ ?_ fun hHeld => ?_
  ·trivial
  clear hK K; try simp only [PU]
  refine tp 13 ?_
  try simp only [PU]
  refine tp 14 ?_
  try simp only [PU]
  refine tp 15 ?_
  try simp only [PU]
  refine tp 16 ?_
  try simp only [PU]
  refine wpAnyH_done (by kernel_rfl) ?_ _
  refine hK _ _ ?_
  clear hK
  go_wp2
  go_ret2
  exact ⟨rfl, HBC.out⟩
 ·go_simp
  (go_at_call 64; (with_reducible refine (HXA.out _).mono ?_); rintro e W5 ⟨A1, k1, c1, A2, k2, c2, rfl, hn, hbq⟩; have HNA := Aside0.mk hn; clear hn; have HO2 := Aside0.mk (HO.out.below hbq); clear HO; have HO := HO2; clear HO2; have HBC2 := Aside0.mk (HBC.out.trans (hbq.mono HBC.out.size)); clear HBC; have HBC := HBC2; clear HBC2; have q5 := HO.out.cell 5)
  refine hK.out _ _ ?_ fun hHeld => ?_
  ·trivial
  clear hK K; try simp only [PU]
  refine wpAnyH_ready (rs := [4, 10]) (by kernel_rfl) (by simp) ?_
  refine AllReadyH.cons rfl (fun K hK => ?_) (AllReadyH.cons rfl (fun K hK => ?_) (AllReadyH.nil))
  ·go_simp
   refine hK.out _ _ ?_ fun hHeld => ?_
   ·trivial
   clear hK K; try simp only [PU]
   refine tc 10 fun K hK => ?_
   go_simp
   (go_at_call 64; (with_reducible refine (HXB.out _).mono ?_); rintro e W6 ⟨A3, k3, c3, A4, k4, c4, rfl, hn, hbq⟩; have HNB := Aside0.mk hn; clear hn; have HNA2 := Aside0.mk (HNA.out.below hbq); have HO2 := Aside0.mk (HO.out.below hbq); clear HO; have HO := HO2; clear HO2; have HBC2 := Aside0.mk (HBC.out.trans (hbq.mono HBC.out.size)); clear HBC; have HBC := HBC2; clear HBC2; have q6 := HO.out.cell 5)
   refine hK.out _ _ ?_ fun hHeld => ?_
   ·trivial
   clear hK K; try simp only [PU]
   refine tc 11 fun K hK => ?_
   go_simp
   (go_at_call 129; (with_reducible refine (HDO.out _ _ _ _ _ _ _ _ _ _ _ _ _ HNA2.out HNB.out).mono ?_); rintro e W7 ⟨A5, k5, c5, A6, k6, c6, rfl, hn, hbq⟩; have HNC := Aside0.mk hn; clear hn; have HO2 := Aside0.mk (HO.out.below hbq); clear HO; have HO := HO2; clear HO2; have HBC2 := Aside0.mk (HBC.out.trans (hbq.mono HBC.out.size)); clear HBC; have HBC := HBC2; clear HBC2)
   refine hK.out _ _ ?_ fun hHeld => ?_
   ·trivial
   clear hK K; try simp only [PU]
   refine tc 12 fun K hK => ?_
   go_simp
   (go_at_call 65; (with_reducible refine (HNR.out _ _ _ _ _ _ _ HNC.out).mono ?_); rintro e W8 ⟨rfl, hbq⟩; have HO2 := Aside0.mk (HO.out.below hbq); clear HO; have HO := HO2; clear HO2; have HBC2 := Aside0.mk (HBC.out.trans (hbq.mono HBC.out.size)); clear HBC; have HBC := HBC2; clear HBC2)
   refine hK.out _ _ ?_ fun hHeld => ?_
   ·trivial
   clear hK K; try simp only [PU]
   refine tp 13 ?_
   try simp only [PU]
   refine tp 14 ?_
   try simp only [PU]
   refine tp 15 ?_
   try simp only [PU]
   refine tp 16 ?_
   try simp only [PU]
   refine wpAnyH_done (by kernel_rfl) ?_ _
   refine hK _ _ ?_
   clear hK
   go_wp2
   go_ret2
   exact ⟨rfl, HBC.out⟩
  ·go_simp
   (go_at_call 64; (with_reducible refine (HXB.out _).mono ?_); rintro e W6 ⟨A3, k3, c3, A4, k4, c4, rfl, hn, hbq⟩; have HNB := Aside0.mk hn; clear hn; have HNA2 := Aside0.mk (HNA.out.below hbq); have HO2 := Aside0.mk (HO.out.below hbq); clear HO; have HO := HO2; clear HO2; have HBC2 := Aside0.mk (HBC.out.trans (hbq.mono HBC.out.size)); clear HBC; have HBC := HBC2; clear HBC2; have q6 := HO.out.cell 5)
   refine hK.out _ _ ?_ fun hHeld => ?_
   ·trivial
   clear hK K; try simp only [PU]
   refine tc 4 fun K hK => ?_
   go_simp
   refine hK.out _ _ ?_ fun hHeld => ?_
   ·trivial
   clear hK K; try simp only [PU]
   refine tc 11 fun K hK => ?_
   go_simp
   (go_at_call 129; (with_reducible refine (HDO.out _ _ _ _ _ _ _ _ _ _ _ _ _ HNA2.out HNB.out).mono ?_); rintro e W7 ⟨A5, k5, c5, A6, k6, c6, rfl, hn, hbq⟩; have HNC := Aside0.mk hn; clear hn; have HO2 := Aside0.mk (HO.out.below hbq); clear HO; have HO := HO2; clear HO2; have HBC2 := Aside0.mk (HBC.out.trans (hbq.mono HBC.out.size)); clear HBC; have HBC := HBC2; clear HBC2)
   refine hK.out _ _ ?_ fun hHeld => ?_
   ·trivial
   clear hK K; try simp only [PU]
   refine tc 12 fun K hK => ?_
   go_simp
   (go_at_call 65; (with_reducible refine (HNR.out _ _ _ _ _ _ _ HNC.out).mono ?_); rintro e W8 ⟨rfl, hbq⟩; have HO2 := Aside0.mk (HO.out.below hbq); clear HO; have HO := HO2; clear HO2; have HBC2 := Aside0.mk (HBC.out.trans (hbq.mono HBC.out.size)); clear HBC; have HBC := HBC2; clear HBC2)
   refine hK.out _ _ ?_ fun hHeld => ?_
   ·trivial
   clear hK K; try simp only [PU]
   refine tp 13 ?_
   try simp only [PU]
   refine tp 14 ?_
   try simp only [PU]
   refine tp 15 ?_
   try simp only [PU]
   refine tp 16 ?_
   try simp only [PU]
   refine wpAnyH_done (by kernel_rfl) ?_ _
   refine hK _ _ ?_
   clear hK
   go_wp2
   go_ret2
   exact ⟨rfl, HBC.out⟩
theorem apply_quo {a b : Nat} (ha : a < 4294967296) (hf : fin32 a = true) (hb : b < 4294967296) (hg : fin32 b = true)(hz : b % 2147483648 ≠ 0) (hzp : 0 < fvP b) (w : World) :
 Calls Tryz.prog 13 #[.int .i64 19, .float .f32 a, .float .f32 b] w fun e w' => NrO w (!(fvS a == fvS b)) (fvP a * fvQ b) (fvQ a * fvP b) e w' := by
 obtain ⟨op, hop⟩ : ∃ op : Int, op = 19 := ⟨_, rfl⟩
 rw [← hop]
 have HB0 := Aside0.mk (below_alloc (Below.refl w.heap.size w) (.cells #[.int .i64 op] 3))
 have HL : Aside0 (w.heap.size < (w.alloc (.cells #[.int .i64 op] 3)).heap.size) := ⟨by simp⟩
 have HC0 : Aside0 ((w.alloc (.cells #[.int .i64 op] 3)).cell? ⟨w.heap.size, 0, none⟩ = some (.int .i64 op)) := ⟨by simp⟩
 have HI : Aside0 (∀ W b, OpsAt W b → W.cell? ⟨w.heap.size, 0, none⟩ = some (.int .i64 op) → w.heap.size < W.heap.size → Calls Tryz.prog 60 #[.slice (some ⟨b, 0, none⟩) 4 4, .func (.func 62) #[] #[.pointer (some ⟨w.heap.size, 0, none⟩)]] W fun e w' => e = .returned (.int .i64 (opI op)) ∧ Below W.heap.size W w') := ⟨fun W b h1 h2 h3 => index_calls h1 h2 h3⟩
 have hi : opI op = 3 := by rw [hop]; rfl
 rw [hi] at HI
 obtain ⟨hcg, HFG, HXA⟩ := good_conv ha hf
 obtain ⟨hch, HFH, HXB⟩ := good_conv hb hg
 have ho := ordz32 hb hg; rw [decide_eq_false hz] at ho
 obtain ⟨x1, x2, x3⟩ := fv_sz hf
 obtain ⟨z1, z2, z3⟩ := fv_sz hg
 have m1 : Sz 6000 (fvP a * fvQ b) := x1.mul z2
 have m2 : Sz 6000 (fvP b * fvQ a) := z1.mul x2
 have m3 : Sz 6000 (fvQ a * fvQ b) := x2.mul z2
 have m4 : Sz 6000 (fvP a * fvP b) := x1.mul z1
 have m5 : Sz 6000 (fvQ a * fvP b) := x2.mul z1
 have p1 : Sz 90000 (fvP a * fvQ b) := m1.more (by omega)
 have p2 : Sz 90000 (fvQ a * fvP b) := Sz.more m5 (by omega)
 have p3 : 0 < (fvQ a * fvP b) := Nat.mul_pos x3 hzp
 have HDO : Aside0 (∀ W A1 L1 c1 A2 L2 c2 A3 L3 c3 A4 L4 c4, N2 W A1 L1 c1 (fvP a) A2 L2 c2 (fvQ a) → N2 W A3 L3 c3 (fvP b) A4 L4 c4 (fvQ b) → Calls Tryz.prog 117 #[qV (fvS a) A1 L1 c1 A2 L2 c2, qV (fvS b) A3 L3 c3 A4 L4 c4] W fun e w' => QX W (!(fvS a == fvS b)) (fvP a * fvQ b) (fvQ a * fvP b) e w') :=
  ⟨fun W A1 L1 c1 A2 L2 c2 A3 L3 c3 A4 L4 c4 h1 h2 => qOver_calls h1 h2 (x1.more (by omega)) (x2.more (by omega)) (z1.more (by omega)) (z2.more (by omega))⟩
 have HNR : Aside0 (∀ W A1 L1 c1 A2 L2 c2, N2 W A1 L1 c1 (fvP a * fvQ b) A2 L2 c2 (fvQ a * fvP b) → Calls Tryz.prog 65 #[qV (!(fvS a == fvS b)) A1 L1 c1 A2 L2 c2] W fun e w' => NrO W (!(fvS a == fvS b)) (fvP a * fvQ b) (fvQ a * fvP b) e w') := ⟨fun W A1 L1 c1 A2 L2 c2 hn => nearest_calls hn p1 p2 p3⟩
 clear ha hf hb hg hi m1 m2 m3 m4 m5 p1 p2 p3 x1 x2 x3 z1 z2 z3 hz hzp
 unfold QX NrO at *
 generalize nrW (!(fvS a == fvS b)) (fvP a * fvQ b) (fvQ a * fvP b) = R at *
 generalize nrE (!(fvS a == fvS b)) (fvP a * fvQ b) (fvQ a * fvP b) = T at *
 generalize (fvP a * fvQ b) = P at *
 generalize (fvQ a * fvP b) = Q at *
 generalize (!(fvS a == fvS b)) = sg at *
 generalize fvS a = sa at *
 generalize fvS b = sb at *
 generalize fvP a = pa at *
 generalize fvP b = pb at *
 generalize fvQ a = qa at *
 generalize fvQ b = qb at *
 generalize S64 (neg32 a) + w32 (a % 2147483648) = ya at *
 generalize S64 (neg32 b) + w32 (b % 2147483648) = yb at *
 subst hop
 go_enter Tryz.func13, Tryz.ntmps13
 go_upto_region 8 with (first | (go_at_call 61; (with_reducible refine (operations_calls _).mono ?_); rintro e W1 ⟨b1, rfl, ho, hb1⟩; have HO := Aside0.mk ho; have HB := Aside0.mk (HB0.out.trans (hb1.mono HB0.out.size)); have HC := Aside0.mk ((hb1.cell (p := ⟨w.heap.size, 0, none⟩) HL.out).trans HC0.out); have HP := Aside0.mk (Nat.lt_of_lt_of_le HL.out hb1.size); clear ho hb1) | (go_at_call 60; (with_reducible refine (HI.out _ _ HO.out HC.out HP.out).mono ?_); rintro e W2 ⟨rfl, hb2⟩; have HB2 := Aside0.mk (HB.out.trans (hb2.mono HB.out.size)); have hc2 := (hb2.cell (p := ⟨w.heap.size, 0, none⟩) HP.out).trans HC.out; clear hb2) | (go_at_call 63; (with_reducible refine (HFG.out _).mono ?_); rintro e W3 ⟨rfl, hwq⟩; rw [hwq]; clear hwq) | (go_at_call 63; (with_reducible refine (HFH.out _).mono ?_); rintro e W3 ⟨rfl, hwq⟩; rw [hwq]; clear hwq))
 clear HO HB HC HP HI HC0 HL HB0 hc2
 rename_i Q' K hK
 refine wp_region_held_drew (S := (fun _ => True)) (by kernel_rfl) ?_ (fun hHeld => ?_)
 ·trivial
 (obtain ⟨Z, hZ⟩ : ∃ Z, W2.drew = Z := ⟨_, rfl⟩; have HBZ : Aside0 (Below w.heap.size w Z) := (by subst hZ; exact ⟨HB2.out.drew⟩); rw [hZ]; clear hZ)
 refine tp 1 ?_
 try simp only [PU]
 refine tp 5 ?_
 try simp only [PU]
 refine tp 6 ?_
 try simp only [PU]
 refine tp 8 ?_
 try simp only [PU]
 refine tp 9 ?_
 try simp only [PU]
 refine tc 0 fun K hK => ?_
 go_simp
 (go_at_call 61; (with_reducible refine (operations_calls _).mono ?_); rintro e W4 ⟨b4, rfl, ho, hbq⟩; have HO := Aside0.mk ho; have HBC := Aside0.mk (HBZ.out.trans (hbq.mono HBZ.out.size)); clear ho; have q4 := HO.out.cell 7)
 refine hK.out _ _ ?_ fun hHeld => ?_
 ·trivial
 clear hK K; try simp only [PU]
 refine tp 2 ?_
 try simp only [PU]
 refine tp 3 ?_
 try simp only [PU]
 refine wpAnyH_ready (rs := [4, 7]) (by kernel_rfl) (by simp) ?_
 refine AllReadyH.cons rfl (fun K hK => ?_) (AllReadyH.cons rfl (fun K hK => ?_) (AllReadyH.nil))
 ·go_simp
  refine hK.out _ _ ?_ fun hHeld => ?_
  ·trivial
  clear hK K; try simp only [PU]
  refine tc 7 fun K hK => ?_
  go_simp
  (go_at_call 64; (with_reducible refine (HXA.out _).mono ?_); rintro e W5 ⟨A1, k1, c1, A2, k2, c2, rfl, hn, hbq⟩; have HNA := Aside0.mk hn; clear hn; have HO2 := Aside0.mk (HO.out.below hbq); clear HO; have HO := HO2; clear HO2; have HBC2 := Aside0.mk (HBC.out.trans (hbq.mono HBC.out.size)); clear HBC; have HBC := HBC2; clear HBC2; have q5 := HO.out.cell 7)
  refine hK.out _ _ ?_ fun hHeld => ?_
  ·trivial
  clear hK K; try simp only [PU]
  refine tc 10 fun K hK => ?_
  go_simp
  (go_at_call 64; (with_reducible refine (HXB.out _).mono ?_); rintro e W6 ⟨A3, k3, c3, A4, k4, c4, rfl, hn, hbq⟩; have HNB := Aside0.mk hn; clear hn; have HNA2 := Aside0.mk (HNA.out.below hbq); have HO2 := Aside0.mk (HO.out.below hbq); clear HO; have HO := HO2; clear HO2; have HBC2 := Aside0.mk (HBC.out.trans (hbq.mono HBC.out.size)); clear HBC; have HBC := HBC2; clear HBC2; have q6 := HO.out.cell 7)
  refine hK.out _ _ ?_ fun hHeld => ?_
  ·trivial
  clear hK K; try simp only [PU]
  refine tc 11 fun K hK => ?_
  go_simp
  (go_at_call 117; (with_reducible refine (HDO.out _ _ _ _ _ _ _ _ _ _ _ _ _ HNA2.out HNB.out).mono ?_); rintro e W7 ⟨A5, k5, c5, A6, k6, c6, rfl, hn, hbq⟩; have HNC := Aside0.mk hn; clear hn; have HO2 := Aside0.mk (HO.out.below hbq); clear HO; have HO := HO2; clear HO2; have HBC2 := Aside0.mk (HBC.out.trans (hbq.mono HBC.out.size)); clear HBC; have HBC := HBC2; clear HBC2)
  refine hK.out _ _ ?_ fun hHeld => ?_
  ·trivial
  clear hK K; try simp only [PU]
  refine tc 12 fun K hK => ?_
  go_simp
  (go_at_call 65; (with_reducible refine (HNR.out _ _ _ _ _ _ _ HNC.out).mono ?_); rintro e W8 ⟨rfl, hbq⟩; have HO2 := Aside0.mk (HO.out.below hbq); clear HO; have HO := HO2; clear HO2; have HBC2 := Aside0.mk (HBC.out.trans (hbq.mono HBC.out.size)); clear HBC; have HBC := HBC2; clear HBC2)
  refine hK.out _ _ ?_ fun hHeld => ?_
  ·trivial
  clear hK K; try simp only [PU]
  refine tp 13 ?_
  try simp only [PU]
  refine tp 14 ?_
  try simp only [PU]
  refine tp 15 ?_
  try simp only [PU]
  refine tp 16 ?_
  try simp only [PU]
  refine wpAnyH_done (by kernel_rfl) ?_ _
  refine hK _ _ ?_
  clear hK
  go_wp2
  go_ret2
  exact ⟨rfl, HBC.out⟩
 ·go_simp
  (go_at_call 64; (with_reducible refine (HXA.out _).mono ?_); rintro e W5 ⟨A1, k1, c1, A2, k2, c2, rfl, hn, hbq⟩; have HNA := Aside0.mk hn; clear hn; have HO2 := Aside0.mk (HO.out.below hbq); clear HO; have HO := HO2; clear HO2; have HBC2 := Aside0.mk (HBC.out.trans (hbq.mono HBC.out.size)); clear HBC; have HBC := HBC2; clear HBC2; have q5 := HO.out.cell 7)
  refine hK.out _ _ ?_ fun hHeld => ?_
  ·trivial
  clear hK K; try simp only [PU]
  refine wpAnyH_ready (rs := [4, 10]) (by kernel_rfl) (by simp) ?_
  refine AllReadyH.cons rfl (fun K hK => ?_) (AllReadyH.cons rfl (fun K hK => ?_) (AllReadyH.nil))
  ·go_simp
   refine hK.out _ _ ?_ fun hHeld => ?_
   ·trivial
   clear hK K; try simp only [PU]
   refine tc 10 fun K hK => ?_
   go_simp
   (go_at_call 64; (with_reducible refine (HXB.out _).mono ?_); rintro e W6 ⟨A3, k3, c3, A4, k4, c4, rfl, hn, hbq⟩; have HNB := Aside0.mk hn; clear hn; have HNA2 := Aside0.mk (HNA.out.below hbq); have HO2 := Aside0.mk (HO.out.below hbq); clear HO; have HO := HO2; clear HO2; have HBC2 := Aside0.mk (HBC.out.trans (hbq.mono HBC.out.size)); clear HBC; have HBC := HBC2; clear HBC2; have q6 := HO.out.cell 7)
   refine hK.out _ _ ?_ fun hHeld => ?_
   ·trivial
   clear hK K; try simp only [PU]
   refine tc 11 fun K hK => ?_
   go_simp
   (go_at_call 117; (with_reducible refine (HDO.out _ _ _ _ _ _ _ _ _ _ _ _ _ HNA2.out HNB.out).mono ?_); rintro e W7 ⟨A5, k5, c5, A6, k6, c6, rfl, hn, hbq⟩; have HNC := Aside0.mk hn; clear hn; have HO2 := Aside0.mk (HO.out.below hbq); clear HO; have HO := HO2; clear HO2; have HBC2 := Aside0.mk (HBC.out.trans (hbq.mono HBC.out.size)); clear HBC; have HBC := HBC2; clear HBC2)
   refine hK.out _ _ ?_ fun hHeld => ?_
   ·trivial
   clear hK K; try simp only [PU]
   refine tc 12 fun K hK => ?_
   go_simp
   (go_at_call 65; (with_reducible refine (HNR.out _ _ _ _ _ _ _ HNC.out).mono ?_); rintro e W8 ⟨rfl, hbq⟩; have HO2 := Aside0.mk (HO.out.below hbq); clear HO; have HO := HO2; clear HO2; have HBC2 := Aside0.mk (HBC.out.trans (hbq.mono HBC.out.size)); clear HBC; have HBC := HBC2; clear HBC2)
   refine hK.out _ _ ?_ fun hHeld => ?_
   ·trivial
   clear hK K; try simp only [PU]
   refine tp 13 ?_
   try simp only [PU]
   refine tp 14 ?_
   try simp only [PU]
   refine tp 15 ?_
   try simp only [PU]
   refine tp 16 ?_
   try simp only [PU]
   refine wpAnyH_done (by kernel_rfl) ?_ _
   refine hK _ _ ?_
   clear hK
   go_wp2
   go_ret2
   exact ⟨rfl, HBC.out⟩
  ·go_simp
   (go_at_call 64; (with_reducible refine (HXB.out _).mono ?_); rintro e W6 ⟨A3, k3, c3, A4, k4, c4, rfl, hn, hbq⟩; have HNB := Aside0.mk hn; clear hn; have HNA2 := Aside0.mk (HNA.out.below hbq); have HO2 := Aside0.mk (HO.out.below hbq); clear HO; have HO := HO2; clear HO2; have HBC2 := Aside0.mk (HBC.out.trans (hbq.mono HBC.out.size)); clear HBC; have HBC := HBC2; clear HBC2; have q6 := HO.out.cell 7)
   refine hK.out _ _ ?_ fun hHeld => ?_
   ·trivial
   clear hK K; try simp only [PU]
   refine tc 4 fun K hK => ?_
   go_simp
   refine hK.out _ _ ?_ fun hHeld => ?_
   ·trivial
   clear hK K; try simp only [PU]
   refine tc 11 fun K hK => ?_
   go_simp
   (go_at_call 117; (with_reducible refine (HDO.out _ _ _ _ _ _ _ _ _ _ _ _ _ HNA2.out HNB.out).mono ?_); rintro e W7 ⟨A5, k5, c5, A6, k6, c6, rfl, hn, hbq⟩; have HNC := Aside0.mk hn; clear hn; have HO2 := Aside0.mk (HO.out.below hbq); clear HO; have HO := HO2; clear HO2; have HBC2 := Aside0.mk (HBC.out.trans (hbq.mono HBC.out.size)); clear HBC; have HBC := HBC2; clear HBC2)
   refine hK.out _ _ ?_ fun hHeld => ?_
   ·trivial
   clear hK K; try simp only [PU]
   refine tc 12 fun K hK => ?_
   go_simp
   (go_at_call 65; (with_reducible refine (HNR.out _ _ _ _ _ _ _ HNC.out).mono ?_); rintro e W8 ⟨rfl, hbq⟩; have HO2 := Aside0.mk (HO.out.below hbq); clear HO; have HO := HO2; clear HO2; have HBC2 := Aside0.mk (HBC.out.trans (hbq.mono HBC.out.size)); clear HBC; have HBC := HBC2; clear HBC2)
   refine hK.out _ _ ?_ fun hHeld => ?_
   ·trivial
   clear hK K; try simp only [PU]
   refine tp 13 ?_
   try simp only [PU]
   refine tp 14 ?_
   try simp only [PU]
   refine tp 15 ?_
   try simp only [PU]
   refine tp 16 ?_
   try simp only [PU]
   refine wpAnyH_done (by kernel_rfl) ?_ _
   refine hK _ _ ?_
   clear hK
   go_wp2
   go_ret2
   exact ⟨rfl, HBC.out⟩
theorem same32_calls (a b : Nat) (w : World) : Calls Tryz.prog 85 #[.float .f32 a, .float .f32 b] w fun e w' => e = .returned (.bool ((a : Int) == (b : Int))) ∧ w' = w := by
 have h1 := run_bits32 a
 have h2 := run_bits32 b
 go_enter Tryz.func85, Tryz.ntmps85
 go_wp2
 go_ret
 exact ⟨rfl, rfl⟩
theorem same_calls (a b : Nat) (w : World) : Calls Tryz.prog 25 #[.float .f32 a, .float .f32 b] w fun e w' => e = .returned (.bool ((a : Int) == (b : Int))) ∧ w' = w := by
 go_enter Tryz.func25, Tryz.ntmps25
 go_wp2_with (go_at_call 85; (with_reducible refine (same32_calls _ _ _).mono ?_); rintro e w1 ⟨rfl, hww⟩; rw [hww]; clear hww w1)
 go_ret
 exact ⟨rfl, rfl⟩
theorem aw1 : toW ⟨#[49, 47, 51]⟩ = 1051372203 ∧ toE ⟨#[49, 47, 51]⟩ = 0 := by decide +kernel
theorem aw2 : toW ⟨#[49, 54, 55, 55, 55, 50, 49, 55, 47, 49]⟩ = 1266679808 ∧ toE ⟨#[49, 54, 55, 55, 55, 50, 49, 55, 47, 49]⟩ = 0 := by decide +kernel
theorem aw3 : toW ⟨#[49, 54, 55, 55, 55, 50, 49, 57, 47, 49]⟩ = 1266679810 ∧ toE ⟨#[49, 54, 55, 55, 55, 50, 49, 57, 47, 49]⟩ = 0 := by decide +kernel
theorem aw4 : erS ⟨#[49, 47, 51]⟩ = ⟨#[45, 49, 47, 49, 48, 48, 54, 54, 51, 50, 57, 54]⟩ ∧ erE ⟨#[49, 47, 51]⟩ = 0 := by decide +kernel
theorem aw5 : liW ⟨#[48, 46, 49]⟩ = 1036831949 ∧ liX ⟨#[48, 46, 49]⟩ = false ∧ liE ⟨#[48, 46, 49]⟩ = 0 := by decide +kernel
theorem aw6 : liW ⟨#[45, 50, 46, 53, 48]⟩ = 3223322624 ∧ liX ⟨#[45, 50, 46, 53, 48]⟩ = true ∧ liE ⟨#[45, 50, 46, 53, 48]⟩ = 0 := by decide +kernel
theorem aw7 : fmS 1036831949 = ⟨#[49, 51, 52, 50, 49, 55, 55, 51, 47, 49, 51, 52, 50, 49, 55, 55, 50, 56]⟩ ∧ fmE 1036831949 = 0 := by decide +kernel
theorem aw8 : fuS 1065353216 = ⟨#[49, 47, 56, 51, 56, 56, 54, 48, 56]⟩ ∧ fmE 1065353216 = 0 := by decide +kernel
theorem aw9 : nrW (!(fvS 1065353216 == fvS 1077936128)) (fvP 1065353216 * fvQ 1077936128) (fvQ 1065353216 * fvP 1077936128) = 1051372203 ∧ nrE (!(fvS 1065353216 == fvS 1077936128)) (fvP 1065353216 * fvQ 1077936128) (fvQ 1065353216 * fvP 1077936128) = 0 := by decide +kernel
theorem aw10 : ckX ⟨#[49, 47, 50]⟩ ⟨#[49, 47, 49]⟩ = 0 ∧ ckX ⟨#[49, 47, 50]⟩ ⟨#[45, 49, 47, 49]⟩ = 0 := by decide +kernel
theorem aw11 : exA (mulC (ofS ⟨#[49, 47, 50]⟩ ⟨#[49, 47, 49]⟩) (ofS ⟨#[49, 47, 50]⟩ ⟨#[45, 49, 47, 49]⟩)) = ⟨#[53, 47, 52]⟩ ∧ exB (mulC (ofS ⟨#[49, 47, 50]⟩ ⟨#[49, 47, 49]⟩) (ofS ⟨#[49, 47, 50]⟩ ⟨#[45, 49, 47, 49]⟩)) = ⟨#[48, 47, 49]⟩ ∧ exR (mulC (ofS ⟨#[49, 47, 50]⟩ ⟨#[49, 47, 49]⟩) (ofS ⟨#[49, 47, 50]⟩ ⟨#[45, 49, 47, 49]⟩)) = 0 := by decide +kernel
theorem aw12 : ckX ⟨#[49, 47, 49]⟩ ⟨#[48, 47, 49]⟩ = 0 ∧ ckX ⟨#[48, 47, 49]⟩ ⟨#[49, 47, 49]⟩ = 0 := by decide +kernel
theorem aw13 : exA (dvC (ofS ⟨#[49, 47, 49]⟩ ⟨#[48, 47, 49]⟩) (ofS ⟨#[48, 47, 49]⟩ ⟨#[49, 47, 49]⟩)) = ⟨#[48, 47, 49]⟩ ∧ exB (dvC (ofS ⟨#[49, 47, 49]⟩ ⟨#[48, 47, 49]⟩) (ofS ⟨#[48, 47, 49]⟩ ⟨#[49, 47, 49]⟩)) = ⟨#[45, 49, 47, 49]⟩ ∧ exR (dvC (ofS ⟨#[49, 47, 49]⟩ ⟨#[48, 47, 49]⟩) (ofS ⟨#[48, 47, 49]⟩ ⟨#[49, 47, 49]⟩)) = 0 := by decide +kernel
theorem aw14 : noS ⟨#[51, 47, 49]⟩ ⟨#[52, 47, 49]⟩ = ⟨#[50, 53, 47, 49]⟩ ∧ noE ⟨#[51, 47, 49]⟩ ⟨#[52, 47, 49]⟩ = 0 := by decide +kernel
theorem aw15 : sxA (mulC (cxC (neg32 1065353216) (w32 (1065353216 % 2147483648)) (neg32 1073741824) (w32 (1073741824 % 2147483648))) (cxC (neg32 1077936128) (w32 (1077936128 % 2147483648)) (neg32 3212836864) (w32 (3212836864 % 2147483648)))) = 1084227584 ∧ sxB (mulC (cxC (neg32 1065353216) (w32 (1065353216 % 2147483648)) (neg32 1073741824) (w32 (1073741824 % 2147483648))) (cxC (neg32 1077936128) (w32 (1077936128 % 2147483648)) (neg32 3212836864) (w32 (3212836864 % 2147483648)))) = 1084227584 ∧ sxE (mulC (cxC (neg32 1065353216) (w32 (1065353216 % 2147483648)) (neg32 1073741824) (w32 (1073741824 % 2147483648))) (cxC (neg32 1077936128) (w32 (1077936128 % 2147483648)) (neg32 3212836864) (w32 (3212836864 % 2147483648)))) = 0 := by decide +kernel
theorem aw16 : exA (cxC false 4602678819172646912 true 4607182418800017408) = ⟨#[49, 47, 50]⟩ ∧ exB (cxC false 4602678819172646912 true 4607182418800017408) = ⟨#[45, 49, 47, 49]⟩ ∧ exR (cxC false 4602678819172646912 true 4607182418800017408) = 0 := by decide +kernel
theorem awakeR_calls (w : World) (hE : EN w) : Calls Tryz.prog 22 #[] w fun e w' => e = .returned (.bool true) ∧ Below w.heap.size w w' := by
 have K1 : Aside0 (∀ W, Below w.heap.size w W → Calls Tryz.prog 23 #[.string ⟨#[49, 47, 51]⟩] W fun e w' => e = .returned (.tuple #[.float .f32 1051372203, .int .i64 0]) ∧ Below W.heap.size W w') := ⟨fun W hb => by
  have h := to32_calls ⟨#[49, 47, 51]⟩ (by decide) W (hE.below hb)
  rw [aw1.1, aw1.2] at h
  exact h⟩
 have K2 : Aside0 (∀ W, Below w.heap.size w W → Calls Tryz.prog 23 #[.string ⟨#[49, 54, 55, 55, 55, 50, 49, 55, 47, 49]⟩] W fun e w' => e = .returned (.tuple #[.float .f32 1266679808, .int .i64 0]) ∧ Below W.heap.size W w') := ⟨fun W hb => by
  have h := to32_calls ⟨#[49, 54, 55, 55, 55, 50, 49, 55, 47, 49]⟩ (by decide) W (hE.below hb)
  rw [aw2.1, aw2.2] at h
  exact h⟩
 have K3 : Aside0 (∀ W, Below w.heap.size w W → Calls Tryz.prog 23 #[.string ⟨#[49, 54, 55, 55, 55, 50, 49, 57, 47, 49]⟩] W fun e w' => e = .returned (.tuple #[.float .f32 1266679810, .int .i64 0]) ∧ Below W.heap.size W w') := ⟨fun W hb => by
  have h := to32_calls ⟨#[49, 54, 55, 55, 55, 50, 49, 57, 47, 49]⟩ (by decide) W (hE.below hb)
  rw [aw3.1, aw3.2] at h
  exact h⟩
 have K4 : Aside0 (∀ W, Below w.heap.size w W → Calls Tryz.prog 20 #[.string ⟨#[49, 47, 51]⟩] W fun e w' => e = .returned (.tuple #[.string ⟨#[45, 49, 47, 49, 48, 48, 54, 54, 51, 50, 57, 54]⟩, .int .i64 0]) ∧ Below W.heap.size W w') := ⟨fun W hb => by
  have h := error_calls ⟨#[49, 47, 51]⟩ (by decide) W (hE.below hb)
  rw [aw4.1, aw4.2] at h
  exact h⟩
 have K5 : Aside0 (∀ W, Below w.heap.size w W → Calls Tryz.prog 27 #[.string ⟨#[48, 46, 49]⟩] W fun e w' => e = .returned (.tuple #[.float .f32 1036831949, .bool false, .int .i64 0]) ∧ Below W.heap.size W w') := ⟨fun W hb => by
  have h := literal_calls ⟨#[48, 46, 49]⟩ (by decide) W (hE.below hb)
  rw [aw5.1, aw5.2.1, aw5.2.2] at h
  exact h⟩
 have K6 : Aside0 (∀ W, Below w.heap.size w W → Calls Tryz.prog 27 #[.string ⟨#[45, 50, 46, 53, 48]⟩] W fun e w' => e = .returned (.tuple #[.float .f32 3223322624, .bool true, .int .i64 0]) ∧ Below W.heap.size W w') := ⟨fun W hb => by
  have h := literal_calls ⟨#[45, 50, 46, 53, 48]⟩ (by decide) W (hE.below hb)
  rw [aw6.1, aw6.2.1, aw6.2.2] at h
  exact h⟩
 have K7 : Aside0 (∀ W, Below w.heap.size w W → Calls Tryz.prog 18 #[.float .f32 1036831949] W fun e w' => e = .returned (.tuple #[.string ⟨#[49, 51, 52, 50, 49, 55, 55, 51, 47, 49, 51, 52, 50, 49, 55, 55, 50, 56]⟩, .int .i64 0]) ∧ Below W.heap.size W w') := ⟨fun W hb => by
  have h := from32_any (b := 1036831949) (by decide) W
  rw [aw7.1, aw7.2] at h
  exact h⟩
 have K8 : Aside0 (∀ W, Below w.heap.size w W → Calls Tryz.prog 19 #[.float .f32 1065353216] W fun e w' => e = .returned (.tuple #[.string ⟨#[49, 47, 56, 51, 56, 56, 54, 48, 56]⟩, .int .i64 0]) ∧ Below W.heap.size W w') := ⟨fun W hb => by
  have h := unit_calls (b := 1065353216) (by decide) W
  rw [aw8.1, aw8.2] at h
  exact h⟩
 have K9 : Aside0 (∀ W, Below w.heap.size w W → Calls Tryz.prog 13 #[.int .i64 19, .float .f32 1065353216, .float .f32 1077936128] W fun e w' => e = .returned (.tuple #[.float .f32 1051372203, .int .i64 0]) ∧ Below W.heap.size W w') := ⟨fun W hb => by
  have h := apply_quo (a := 1065353216) (b := 1077936128) (by decide) (by decide) (by decide) (by decide) (by decide) (by decide +kernel) W
  unfold NrO at h
  rw [aw9.1, aw9.2] at h
  exact h⟩
 have K10 : Aside0 (∀ W, Below w.heap.size w W → Calls Tryz.prog 13 #[.int .i64 19, .float .f32 1065353216, .float .f32 0] W fun e w' => e = .returned (.tuple #[.float .f32 0, .int .i64 30]) ∧ Below W.heap.size W w') := ⟨fun W hb => by
  have h := apply_div (a := 1065353216) (b := 0) (by decide) (by decide) (by decide) (by decide) (by decide) W
  exact h⟩
 have K11 : Aside0 (∀ W, Below w.heap.size w W → Calls Tryz.prog 43 #[.agg #[.string ⟨#[49, 47, 50]⟩, .string ⟨#[49, 47, 49]⟩], .agg #[.string ⟨#[49, 47, 50]⟩, .string ⟨#[45, 49, 47, 49]⟩]] W fun e w' => e = .returned (.tuple #[.agg #[.string ⟨#[53, 47, 52]⟩, .string ⟨#[48, 47, 49]⟩], .int .i64 0]) ∧ Below W.heap.size W w') := ⟨fun W hb => by
  have h := mulX_good (by decide) (by decide) (by decide) (by decide) aw10.1 aw10.2 W (hE.below hb)
  unfold EO at h
  rw [aw11.1, aw11.2.1, aw11.2.2] at h
  exact h⟩
 have K12 : Aside0 (∀ W, Below w.heap.size w W → Calls Tryz.prog 46 #[.agg #[.string ⟨#[49, 47, 49]⟩, .string ⟨#[48, 47, 49]⟩], .agg #[.string ⟨#[48, 47, 49]⟩, .string ⟨#[49, 47, 49]⟩]] W fun e w' => e = .returned (.tuple #[.agg #[.string ⟨#[48, 47, 49]⟩, .string ⟨#[45, 49, 47, 49]⟩], .int .i64 0]) ∧ Below W.heap.size W w') := ⟨fun W hb => by
  have h := divX_good (by decide) (by decide) (by decide) (by decide) aw12.1 aw12.2 (by decide +kernel) W (hE.below hb)
  unfold EO at h
  rw [aw13.1, aw13.2.1, aw13.2.2] at h
  exact h⟩
 have K13 : Aside0 (∀ W, Below w.heap.size w W → Calls Tryz.prog 45 #[.agg #[.string ⟨#[51, 47, 49]⟩, .string ⟨#[52, 47, 49]⟩]] W fun e w' => e = .returned (.tuple #[.string ⟨#[50, 53, 47, 49]⟩, .int .i64 0]) ∧ Below W.heap.size W w') := ⟨fun W hb => by
  have h := normX_calls ⟨#[51, 47, 49]⟩ ⟨#[52, 47, 49]⟩ (by decide) (by decide) W (hE.below hb)
  rw [aw14.1, aw14.2] at h
  exact h⟩
 have K14 : Aside0 (∀ W, Below w.heap.size w W → Calls Tryz.prog 39 #[.complex .f32 1065353216 1073741824, .complex .f32 1077936128 3212836864] W fun e w' => e = .returned (.tuple #[.complex .f32 1084227584 1084227584, .int .i64 0]) ∧ Below W.heap.size W w') := ⟨fun W hb => by
  have h := mulR_good (a0 := 1065353216) (a1 := 1073741824) (b0 := 1077936128) (b1 := 3212836864) (by decide) (by decide) (by decide) (by decide) (by decide) (by decide) (by decide) (by decide) W
  unfold SO at h
  rw [aw15.1, aw15.2.1, aw15.2.2] at h
  exact h⟩
 have K15 : Aside0 (∀ W, Below w.heap.size w W → Calls Tryz.prog 37 #[.complex .f64 4602678819172646912 13830554455654793216] W fun e w' => e = .returned (.tuple #[.agg #[.string ⟨#[49, 47, 50]⟩, .string ⟨#[45, 49, 47, 49]⟩], .int .i64 0]) ∧ Below W.heap.size W w') := ⟨fun W hb => by
  have h := from128_good false true (r := 4602678819172646912) (q := 4607182418800017408) (by decide) (by decide) W (hE.below hb)
  unfold EO at h
  rw [aw16.1, aw16.2.1, aw16.2.2] at h
  exact h⟩
 have e1 := eql_ex ⟨#[53, 47, 52]⟩ ⟨#[48, 47, 49]⟩ ⟨#[53, 47, 52]⟩ ⟨#[48, 47, 49]⟩
 have e2 := eql_ex ⟨#[48, 47, 49]⟩ ⟨#[45, 49, 47, 49]⟩ ⟨#[48, 47, 49]⟩ ⟨#[45, 49, 47, 49]⟩
 have e3 := eql_ex ⟨#[49, 47, 50]⟩ ⟨#[45, 49, 47, 49]⟩ ⟨#[49, 47, 50]⟩ ⟨#[45, 49, 47, 49]⟩
 rw [show (((⟨#[53, 47, 52]⟩ : ByteArray) == ⟨#[53, 47, 52]⟩) && ((⟨#[48, 47, 49]⟩ : ByteArray) == ⟨#[48, 47, 49]⟩)) = true by decide +kernel] at e1
 rw [show (((⟨#[48, 47, 49]⟩ : ByteArray) == ⟨#[48, 47, 49]⟩) && ((⟨#[45, 49, 47, 49]⟩ : ByteArray) == ⟨#[45, 49, 47, 49]⟩)) = true by decide +kernel] at e2
 rw [show (((⟨#[49, 47, 50]⟩ : ByteArray) == ⟨#[49, 47, 50]⟩) && ((⟨#[45, 49, 47, 49]⟩ : ByteArray) == ⟨#[45, 49, 47, 49]⟩)) = true by decide +kernel] at e3
 have qs1 : ((⟨#[45, 49, 47, 49, 48, 48, 54, 54, 51, 50, 57, 54]⟩ : ByteArray).toList == [45, 49, 47, 49, 48, 48, 54, 54, 51, 50, 57, 54]) = true := by rw [Lib.toList_data]; decide
 have qs2 : ((⟨#[49, 51, 52, 50, 49, 55, 55, 51, 47, 49, 51, 52, 50, 49, 55, 55, 50, 56]⟩ : ByteArray).toList == [49, 51, 52, 50, 49, 55, 55, 51, 47, 49, 51, 52, 50, 49, 55, 55, 50, 56]) = true := by rw [Lib.toList_data]; decide
 have qs3 : ((⟨#[49, 47, 56, 51, 56, 56, 54, 48, 56]⟩ : ByteArray).toList == [49, 47, 56, 51, 56, 56, 54, 48, 56]) = true := by rw [Lib.toList_data]; decide
 have qs4 : ((⟨#[50, 53, 47, 49]⟩ : ByteArray).toList == [50, 53, 47, 49]) = true := by rw [Lib.toList_data]; decide
 have o1 : (FloatKind.f32.format.order 1266679808 1266679808 == some .eq) = true := by decide +kernel
 have o2 : (FloatKind.f32.format.order 1266679810 1266679810 == some .eq) = true := by decide +kernel
 have o3 : (FloatKind.f32.format.order 3223322624 3223322624 == some .eq) = true := by decide +kernel
 have o4 : (FloatKind.f32.format.order 1084227584 1084227584 == some .eq) = true := by decide +kernel
 have hbt := run_bits32 1051372203
 clear hE
 obtain ⟨s1, hs1⟩ : ∃ s1 : ByteArray, ⟨#[45, 49, 47, 49, 48, 48, 54, 54, 51, 50, 57, 54]⟩ = s1 := ⟨_, rfl⟩
 obtain ⟨s2, hs2⟩ : ∃ s2 : ByteArray, ⟨#[49, 51, 52, 50, 49, 55, 55, 51, 47, 49, 51, 52, 50, 49, 55, 55, 50, 56]⟩ = s2 := ⟨_, rfl⟩
 obtain ⟨s3, hs3⟩ : ∃ s3 : ByteArray, ⟨#[49, 47, 56, 51, 56, 56, 54, 48, 56]⟩ = s3 := ⟨_, rfl⟩
 obtain ⟨s4, hs4⟩ : ∃ s4 : ByteArray, ⟨#[50, 53, 47, 49]⟩ = s4 := ⟨_, rfl⟩
 rw [hs1] at K4 qs1
 rw [hs2] at K7 qs2
 rw [hs3] at K8 qs3
 rw [hs4] at K13 qs4
 clear hs1 hs2 hs3 hs4
 have HC := Aside0.mk (Below.refl w.heap.size w)
 go_enter Tryz.func22, Tryz.ntmps22
 go_upto_region 12 with (first | (go_at_call 23; (with_reducible refine (K1.out _ HC.out).mono ?_); rintro e VK1 ⟨rfl, hbx⟩; have HC2 := Aside0.mk (HC.out.trans (hbx.mono HC.out.size)); clear HC; have HC := HC2; clear HC2 hbx) | (go_at_call 23; (with_reducible refine (K2.out _ HC.out).mono ?_); rintro e VK2 ⟨rfl, hbx⟩; have HC2 := Aside0.mk (HC.out.trans (hbx.mono HC.out.size)); clear HC; have HC := HC2; clear HC2 hbx) | (go_at_call 23; (with_reducible refine (K3.out _ HC.out).mono ?_); rintro e VK3 ⟨rfl, hbx⟩; have HC2 := Aside0.mk (HC.out.trans (hbx.mono HC.out.size)); clear HC; have HC := HC2; clear HC2 hbx) | (go_at_call 20; (with_reducible refine (K4.out _ HC.out).mono ?_); rintro e VK4 ⟨rfl, hbx⟩; have HC2 := Aside0.mk (HC.out.trans (hbx.mono HC.out.size)); clear HC; have HC := HC2; clear HC2 hbx) | (go_at_call 27; (with_reducible refine (K5.out _ HC.out).mono ?_); rintro e VK5 ⟨rfl, hbx⟩; have HC2 := Aside0.mk (HC.out.trans (hbx.mono HC.out.size)); clear HC; have HC := HC2; clear HC2 hbx) | (go_at_call 27; (with_reducible refine (K6.out _ HC.out).mono ?_); rintro e VK6 ⟨rfl, hbx⟩; have HC2 := Aside0.mk (HC.out.trans (hbx.mono HC.out.size)); clear HC; have HC := HC2; clear HC2 hbx) | (go_at_call 18; (with_reducible refine (K7.out _ HC.out).mono ?_); rintro e VK7 ⟨rfl, hbx⟩; have HC2 := Aside0.mk (HC.out.trans (hbx.mono HC.out.size)); clear HC; have HC := HC2; clear HC2 hbx) | (go_at_call 19; (with_reducible refine (K8.out _ HC.out).mono ?_); rintro e VK8 ⟨rfl, hbx⟩; have HC2 := Aside0.mk (HC.out.trans (hbx.mono HC.out.size)); clear HC; have HC := HC2; clear HC2 hbx) | (go_at_call 13; (with_reducible refine (K9.out _ HC.out).mono ?_); rintro e VK9 ⟨rfl, hbx⟩; have HC2 := Aside0.mk (HC.out.trans (hbx.mono HC.out.size)); clear HC; have HC := HC2; clear HC2 hbx) | (go_at_call 13; (with_reducible refine (K10.out _ HC.out).mono ?_); rintro e VK10 ⟨rfl, hbx⟩; have HC2 := Aside0.mk (HC.out.trans (hbx.mono HC.out.size)); clear HC; have HC := HC2; clear HC2 hbx) | (go_at_call 43; (with_reducible refine (K11.out _ HC.out).mono ?_); rintro e VK11 ⟨rfl, hbx⟩; have HC2 := Aside0.mk (HC.out.trans (hbx.mono HC.out.size)); clear HC; have HC := HC2; clear HC2 hbx))
 obtain ⟨X1, hX1⟩ : ∃ X, VK11.alloc (.cells #[.string ⟨#[53, 47, 52]⟩, .string ⟨#[48, 47, 49]⟩] 57) = X := ⟨_, rfl⟩
 obtain ⟨g1, hg1⟩ : ∃ g, VK11.heap.size = g := ⟨_, rfl⟩
 have HE1 : Aside0 (EF X1 g1 ⟨#[53, 47, 52]⟩ ⟨#[48, 47, 49]⟩ ∧ Below w.heap.size w X1) := ⟨by
  have b0 := below_alloc (Below.refl VK11.heap.size VK11) (.cells #[.string ⟨#[53, 47, 52]⟩, .string ⟨#[48, 47, 49]⟩] 57)
  rw [hX1] at b0
  have n0 : EF X1 g1 ⟨#[53, 47, 52]⟩ ⟨#[48, 47, 49]⟩ := by rw [← hX1, ← hg1]; exact heap_alloc_new VK11 _
  exact ⟨n0, HC.out.trans (b0.mono HC.out.size)⟩⟩
 rw [hX1, hg1]
 clear hX1 hg1
 clear HC
 have HC := Aside0.mk HE1.out.2
 go_upto_region 13 with (go_at_call 46; (with_reducible refine (K12.out _ HC.out).mono ?_); rintro e VK12 ⟨rfl, hbx⟩; have HC2 := Aside0.mk (HC.out.trans (hbx.mono HC.out.size)); have HD2 : Aside0 (Below X1.heap.size X1 VK12) := ⟨by first | exact HD.out.trans (hbx.mono HD.out.size) | exact hbx⟩; clear HC; (try clear HD); have HC := HC2; have HD := HD2; clear HC2 HD2 hbx)
 obtain ⟨X2, hX2⟩ : ∃ X, VK12.alloc (.cells #[.string ⟨#[48, 47, 49]⟩, .string ⟨#[45, 49, 47, 49]⟩] 57) = X := ⟨_, rfl⟩
 obtain ⟨g2, hg2⟩ : ∃ g, VK12.heap.size = g := ⟨_, rfl⟩
 have HE2 : Aside0 (EF X2 g1 ⟨#[53, 47, 52]⟩ ⟨#[48, 47, 49]⟩ ∧ EF X2 g2 ⟨#[48, 47, 49]⟩ ⟨#[45, 49, 47, 49]⟩ ∧ Below w.heap.size w X2) := ⟨by
  have b0 := below_alloc (Below.refl VK12.heap.size VK12) (.cells #[.string ⟨#[48, 47, 49]⟩, .string ⟨#[45, 49, 47, 49]⟩] 57)
  rw [hX2] at b0
  have n0 : EF X2 g2 ⟨#[48, 47, 49]⟩ ⟨#[45, 49, 47, 49]⟩ := by rw [← hX2, ← hg2]; exact heap_alloc_new VK12 _
  exact ⟨((HE1.out.1.below HD.out).below b0), n0, HC.out.trans (b0.mono HC.out.size)⟩⟩
 rw [hX2, hg2]
 clear hX2 hg2
 clear HC
 have HC := Aside0.mk HE2.out.2.2
 clear HD
 go_upto_region 16 with (first | (go_at_call 45; (with_reducible refine (K13.out _ HC.out).mono ?_); rintro e VK13 ⟨rfl, hbx⟩; have HC2 := Aside0.mk (HC.out.trans (hbx.mono HC.out.size)); have HD2 : Aside0 (Below X2.heap.size X2 VK13) := ⟨by first | exact HD.out.trans (hbx.mono HD.out.size) | exact hbx⟩; clear HC; (try clear HD); have HC := HC2; have HD := HD2; clear HC2 HD2 hbx) | (go_at_call 39; (with_reducible refine (K14.out _ HC.out).mono ?_); rintro e VK14 ⟨rfl, hbx⟩; have HC2 := Aside0.mk (HC.out.trans (hbx.mono HC.out.size)); have HD2 : Aside0 (Below X2.heap.size X2 VK14) := ⟨by first | exact HD.out.trans (hbx.mono HD.out.size) | exact hbx⟩; clear HC; (try clear HD); have HC := HC2; have HD := HD2; clear HC2 HD2 hbx) | (go_at_call 37; (with_reducible refine (K15.out _ HC.out).mono ?_); rintro e VK15 ⟨rfl, hbx⟩; have HC2 := Aside0.mk (HC.out.trans (hbx.mono HC.out.size)); have HD2 : Aside0 (Below X2.heap.size X2 VK15) := ⟨by first | exact HD.out.trans (hbx.mono HD.out.size) | exact hbx⟩; clear HC; (try clear HD); have HC := HC2; have HD := HD2; clear HC2 HD2 hbx))
 obtain ⟨X3, hX3⟩ : ∃ X, VK15.alloc (.cells #[.string ⟨#[49, 47, 50]⟩, .string ⟨#[45, 49, 47, 49]⟩] 57) = X := ⟨_, rfl⟩
 obtain ⟨g3, hg3⟩ : ∃ g, VK15.heap.size = g := ⟨_, rfl⟩
 have HE3 : Aside0 (EF X3 g1 ⟨#[53, 47, 52]⟩ ⟨#[48, 47, 49]⟩ ∧ EF X3 g2 ⟨#[48, 47, 49]⟩ ⟨#[45, 49, 47, 49]⟩ ∧ EF X3 g3 ⟨#[49, 47, 50]⟩ ⟨#[45, 49, 47, 49]⟩ ∧ Below w.heap.size w X3) := ⟨by
  have b0 := below_alloc (Below.refl VK15.heap.size VK15) (.cells #[.string ⟨#[49, 47, 50]⟩, .string ⟨#[45, 49, 47, 49]⟩] 57)
  rw [hX3] at b0
  have n0 : EF X3 g3 ⟨#[49, 47, 50]⟩ ⟨#[45, 49, 47, 49]⟩ := by rw [← hX3, ← hg3]; exact heap_alloc_new VK15 _
  exact ⟨((HE2.out.1.below HD.out).below b0), ((HE2.out.2.1.below HD.out).below b0), n0, HC.out.trans (b0.mono HC.out.size)⟩⟩
 rw [hX3, hg3]
 clear hX3 hg3
 clear HC
 have HC := Aside0.mk HE3.out.2.2.2
 have c1 := HE3.out.1.cell0
 have c2 := HE3.out.1.cell1
 have c3 := HE3.out.2.1.cell0
 have c4 := HE3.out.2.1.cell1
 have c5 := HE3.out.2.2.1.cell0
 have c6 := HE3.out.2.2.1.cell1
 clear HD HE1 HE2
 go_wp2_with (go_at_call 25; (with_reducible refine (same_calls _ _ _).mono ?_); rintro e w1 ⟨rfl, hww⟩; rw [hww]; clear hww w1)
 go_ret
 exact ⟨by first | rfl | simp, HC.out⟩
theorem un_half {U V : Int} {uP uQ : Nat} (hV : 0 < V) (u0 : 0 < uQ) (hur : U * uQ = uP * V) : rsE (U * 1) (V * 2) = rsE (uP : Int) ((uQ * 2 : Nat) : Int) := by
 exact (rs_same (y := U * 1) (z := V * 2) (y' := (uP : Int)) (z' := ((uQ * 2 : Nat) : Int)) (by omega) (by omega) (by
  rw [Int.natCast_mul]
  generalize (uQ : Int) = u at *
  generalize (uP : Int) = v at *
  grind)).2
theorem un_half0 {uP uQ : Nat} (u0 : 0 < uQ) (y1 : Sz 140 uP) (y2 : Sz 210 uQ) : rsE (uP : Int) ((uQ * 2 : Nat) : Int) = 0 := by
 have k2 : Sz 212 (uQ * 2) := (y2.mul (n := 2) (k := 2) ⟨by decide⟩)
 obtain ⟨_, _, _, r2, _⟩ := rs_ok (y := (uP : Int)) (z := ((uQ * 2 : Nat) : Int)) (Sz.dig (y1.more (by omega))) (Sz.dig (k2.more (by omega))) (by omega)
 exact r2
/-- The error is at most half of the unit of the nearest number. -/
theorem er_half {x : ByteArray} {P Q : Int} (hx : Frc x P Q) (h : toE x = 0) (he : erE x = 0) : reR ofMul (fuS (toW x)) ⟨#[49, 47, 50]⟩ = 0 ∧
 ∃ Dn Dd H G, Frc (erS x) Dn Dd ∧ Frc (reS ofMul (fuS (toW x)) ⟨#[49, 47, 50]⟩) H G ∧ Dn * G ≤ H * Dd ∧ (-Dn) * G ≤ H * Dd := by
 obtain ⟨t1, t2⟩ := to_lt x h
 obtain ⟨R, T, hz, hr⟩ := fm_frc t2
 obtain ⟨U, V, hu, hur⟩ := fu_frc t2
 obtain ⟨f1, f2⟩ := hx.op hz ofSub
 obtain ⟨g1, g2⟩ := hu.op frc_half ofMul
 obtain ⟨e1, e2⟩ := er_same hx h
 obtain ⟨c1, c2, c3⟩ := hx.check
 have hQ := hx.pos
 have hn : near (minusB x) (numR x).natAbs (denR x).natAbs = some (toW x) := by
  unfold toE nrE at h
  unfold toW nrW
  rw [if_pos c1] at h ⊢
  cases hn : near (minusB x) (numR x).natAbs (denR x).natAbs with
  | none => rw [hn] at h; exact absurd h (by decide)
  | some b => rfl
 rw [minus_sgn c1, c2, c3] at hn
 obtain ⟨n1, n2, n3, c, d, M, m1, m2, m3, m4, m5⟩ := near_half (by omega) hn
 have f3 := (fv_sz t2).2.2
 have u0 := unQ_pos (toW x)
 obtain ⟨y1, y2⟩ := un_small t2
 rw [e2, f2] at he
 rw [g1, g2, e1, f1]
 clear e1 e2 f1 f2 g1 g2 h c1 c2 c3 hn t1 t2 n1 n2
 generalize unP (toW x) = uP at *
 generalize unQ (toW x) = uQ at *
 generalize sgI (fvS (toW x)) (fvP (toW x)) = vz at *
 generalize fvP (toW x) = fP at *
 generalize fvQ (toW x) = fQ at *
 generalize fmS (toW x) = sm at *
 generalize fuS (toW x) = su at *
 clear hx
 have hT := hz.pos
 have hV := hu.pos
 clear hz hu
 unfold ofMul
 unfold ofSub at he ⊢
 simp only [] at he ⊢
 have hm : rsE (U * 1) (V * 2) = 0 := by
  rw [un_half hV u0 hur]
  exact un_half0 u0 y1 y2
 refine ⟨hm, ?_⟩
 obtain ⟨H, G, hH, hHG⟩ := rs_frc (y := U * 1) (z := V * 2) (by omega) hm
 obtain ⟨Dn, Dd, hD, hDD⟩ := rs_frc (pos_ne hQ hT) he
 refine ⟨Dn, Dd, H, G, hD, hH, ?_⟩
 refine half_int (P := P) (Q := Q) (R := R) (T := T) (U := U) (V := V) (σ := if decide (P < 0) = true then -1 else 1) (p := P.natAbs) (q := Q.natAbs) (c := c) (d := d) (M := M) (fP := fP) (fQ := fQ) (uP := uP) (uQ := uQ) hQ hT hV hH.pos hD.pos (by omega) m1 f3 u0 (by split <;> simp) ?_ ?_ m2 m3 m4 hur m5 ?_ hDD
 ·rw [← sgI_one, show (Q.natAbs : Int) = Q by omega]
  have h1 : sgI (decide (P < 0)) P.natAbs = P := by unfold sgI; by_cases h0 : P < 0 <;> simp [h0] <;> omega
  rw [h1]
 ·rw [← sgI_one, ← n3]
  exact hr
 ·rw [Int.mul_one] at hHG
  exact hHG
end
section
theorem evn_mono {A C B : Nat} (hB : 0 < B) (h : A ≤ C) : evn A B ≤ evn C B := by
 have h1 := Nat.div_le_div_right (c := B) h
 rcases Nat.lt_or_eq_of_le h1 with h2 | h2
 ·have := evn_le A B
  have := evn_ge C B
  omega
 ·have h3 := Nat.div_add_mod A B
  have h4 := Nat.div_add_mod C B
  have h5 : A % B ≤ C % B := by rw [h2] at h3; omega
  have h6 := Nat.mod_lt C hB
  unfold evn
  rw [h2]
  split
  ·rw [if_pos (by omega)]; omega
  ·omega
theorem evn_mono2 {A B C D : Nat} (hB : 0 < B) (hD : 0 < D) (h : A * D ≤ C * B) : evn A B ≤ evn C D := by
 rw [← evn_scale (A := A) (B := B) hD, ← evn_scale (A := C) (B := D) hB, Nat.mul_comm D B]
 exact evn_mono (Nat.mul_pos hB hD) h
theorem le2_up {k : Int} {p q r s : Nat} (hq : 0 < q) (hs : 0 < s) (h : p * s ≤ r * q) (h1 : le2 k p q) : le2 k r s := by
 unfold le2 at *
 refine Nat.le_of_mul_le_mul_right ?_ hq
 calc s * 2 ^ k.toNat * q = (q * 2 ^ k.toNat) * s := by ac_rfl
  _ ≤ (p * 2 ^ (-k).toNat) * s := Nat.mul_le_mul_right _ h1
  _ = (p * s) * 2 ^ (-k).toNat := by ac_rfl
  _ ≤ (r * q) * 2 ^ (-k).toNat := Nat.mul_le_mul_right _ h
  _ = r * 2 ^ (-k).toNat * q := by ac_rfl
theorem expE_mono {p q r s : Nat} (hq : 0 < q) (hs : 0 < s) (h : p * s ≤ r * q) : expE p q ≤ expE r s := by
 unfold expE
 by_cases hp : p = 0
 ·rw [if_pos hp]; split <;> omega
 ·have hr : r ≠ 0 := by
   intro e; subst e
   have := Nat.mul_pos (Nat.pos_of_ne_zero hp) hs
   omega
  rw [if_neg hp, if_neg hr]
  have := (lgf_le (k := lgf p q) (Nat.pos_of_ne_zero hr) hs).1 (le2_up hq hs h (lgf_spec (Nat.pos_of_ne_zero hp) hq).1)
  omega
/-- The rung of the nearest float32. -/
def rung (p q : Nat) : Nat := (expE p q + 149).toNat * 8388608 + rm p q
theorem rung_mono {p q r s : Nat} (hq : 0 < q) (hs : 0 < s) (h : p * s ≤ r * q) : rung p q ≤ rung r s := by
 have h1 := expE_mono hq hs h
 have h2 := expE_low p q
 unfold rung
 rcases Int.lt_or_eq_of_le h1 with h3 | h3
 ·have h4 := rm_le (p := p) hq
  have h5 := rm_ge hs (show -149 < expE r s by omega)
  omega
 ·have h4 : rm p q ≤ rm r s := by
   unfold rm
   rw [h3]
   refine evn_mono2 (upB_pos hq _) (upB_pos hs _) ?_
   unfold upA upB
   calc p * 2 ^ (-expE r s).toNat * (s * 2 ^ (expE r s).toNat) = (p * s) * (2 ^ (-expE r s).toNat * 2 ^ (expE r s).toNat) := by ac_rfl
    _ ≤ (r * q) * (2 ^ (-expE r s).toNat * 2 ^ (expE r s).toNat) := Nat.mul_le_mul_right _ h
    _ = r * 2 ^ (-expE r s).toNat * (q * 2 ^ (expE r s).toNat) := by ac_rfl
  rw [h3]; omega
end
section
open Go.Proofs.YtnjbinpbkjdjpaaGreatDoor.Rf Go.Proofs.YtnjbinpbkjdjpaaGreatDoorW.PrintLast Go.Proofs.YtnjbinpbkjdjpaaGreatDoorW.PrintMore Go.Proofs.YtnjbinpbkjdjpaaGreatDoorW.PrintWords Go.RowKit Go.Shelf Ieee
theorem rung_zero {p q : Nat} (hq : 0 < q) (h : rm p q = 0) : rung p q = 0 := by
 have h1 := expE_low p q
 have h2 : expE p q = -149 := by
  rcases Int.lt_or_le (-149) (expE p q) with h7 | h7
  ·have := rm_ge hq h7; omega
  ·omega
 unfold rung
 rw [h, h2]
 rfl
theorem near_sw {s : Bool} {p q z : Nat} (hq : 0 < q) (h : near s p q = some z) : sw z = sr s (rung p q) := by
 have h' := h
 unfold near at h
 by_cases h0 : rm p q = 0
 ·rw [if_pos h0] at h
  injection h with h
  subst h
  rw [rung_zero hq h0]
  cases s <;> decide
 ·rw [if_neg h0] at h
  by_cases h1 : (wid (rm p q) : Int) + expE p q > 128
  ·rw [if_pos h1] at h; cases h
  ·rw [if_neg h1] at h
   injection h with h
   have hr : rung p q = (expE p q + 149).toNat * 8388608 + rm p q := rfl
   rw [← hr] at h
   have hlt : rung p q < 2139095040 := by
    obtain ⟨t, hz, ht, _⟩ := near_rung hq h'
    rw [decide_eq_true h0, Bool.and_true] at hz
    have : S32 s + rung p q = S32 s + t := by rw [← hz]; exact h
    omega
   have hz : z = S32 s + rung p q := by unfold S32; exact h.symm
   obtain ⟨e1, e2, _, _⟩ := rung_split (s := s) hlt
   unfold sw
   rw [hz, e1, e2]
theorem sr_mono {P R : Int} {Q S : Nat} (hQ : 0 < Q) (hS : 0 < S) (h : P * S ≤ R * Q) : sr (decide (P < 0)) (rung P.natAbs Q) ≤ sr (decide (R < 0)) (rung R.natAbs S) := by
 have hQ' : (0 : Int) < Q := by omega
 have hS' : (0 : Int) < S := by omega
 unfold sr
 rcases Int.lt_or_le P 0 with h1 | h1
 ·rw [decide_eq_true h1, if_pos rfl]
  rcases Int.lt_or_le R 0 with h2 | h2
  ·rw [decide_eq_true h2, if_pos rfl]
   have : R.natAbs * Q ≤ P.natAbs * S := by
    have e1 : (R.natAbs : Int) = -R := by omega
    have e2 : (P.natAbs : Int) = -P := by omega
    have : (R.natAbs : Int) * Q ≤ P.natAbs * S := by rw [e1, e2, Int.neg_mul, Int.neg_mul]; omega
    exact_mod_cast this
   have := rung_mono hS hQ this
   omega
  ·rw [decide_eq_false (by omega), if_neg (by decide)]; omega
 ·rw [decide_eq_false (by omega), if_neg (by decide)]
  rcases Int.lt_or_le R 0 with h2 | h2
  ·exfalso
   have a1 := Int.mul_nonneg h1 (Int.le_of_lt hS')
   have a2 := Int.mul_neg_of_neg_of_pos h2 hQ'
   omega
  ·rw [decide_eq_false (by omega), if_neg (by decide)]
   have : P.natAbs * S ≤ R.natAbs * Q := by
    have e1 : (R.natAbs : Int) = R := by omega
    have e2 : (P.natAbs : Int) = P := by omega
    have : (P.natAbs : Int) * S ≤ R.natAbs * Q := by rw [e1, e2]; exact h
    exact_mod_cast this
   have := rung_mono hQ hS this
   omega
theorem to_sw {x : ByteArray} {P Q : Int} (hx : Frc x P Q) (h : toE x = 0) : sw (toW x) = sr (decide (P < 0)) (rung P.natAbs Q.natAbs) := by
 obtain ⟨c1, c2, c3⟩ := hx.check
 have hQ := hx.pos
 have hn : near (minusB x) (numR x).natAbs (denR x).natAbs = some (toW x) := by
  unfold toE nrE at h
  unfold toW nrW
  rw [if_pos c1] at h ⊢
  cases hn : near (minusB x) (numR x).natAbs (denR x).natAbs with
  | none => rw [hn] at h; exact absurd h (by decide)
  | some b => rfl
 rw [minus_sgn c1, c2, c3] at hn
 exact near_sw (by omega) hn
theorem to_err {x : ByteArray} (h : checkR x = 0) : toE x = 0 ∨ toE x = 3 := by
 unfold toE nrE
 rw [if_pos h]
 split
 ·exact .inl rfl
 ·exact .inr rfl
theorem mono_le {a b : ByteArray} (ha : checkR a = 0) (hb : checkR b = 0) (h1 : toE a = 0) (h2 : toE b = 0) (h : numR a * denR b ≤ numR b * denR a) : sw (toW a) ≤ sw (toW b) := by
 have fa := Frc.of ha
 have fb := Frc.of hb
 rw [to_sw fa h1, to_sw fb h2]
 have pa := fa.pos
 have pb := fb.pos
 refine sr_mono (by omega) (by omega) ?_
 rw [show ((denR b).natAbs : Int) = denR b by omega, show ((denR a).natAbs : Int) = denR a by omega]
 exact h
/-- What the comparison of the rounded numbers says. -/
theorem mono_law {a b : ByteArray} (ha : checkR a = 0) (hb : checkR b = 0) (h1 : toE a = 0) (h2 : toE b = 0) :
 (cmpR a b = -1 ∧ (FloatKind.f32.format.order (toW a) (toW b) == some .gt) = false) ∨ (cmpR a b = 1 ∧ (FloatKind.f32.format.order (toW a) (toW b) == some .lt) = false) ∨ (cmpR a b = 0 ∧ (FloatKind.f32.format.order (toW a) (toW b) != some .eq) = false) := by
 have hc : cmpR a b = cmpI (numR a * denR b) (numR b * denR a) := ((Frc.of ha).cmp (Frc.of hb)).1
 obtain ⟨t1, t2⟩ := to_lt a h1
 obtain ⟨u1, u2⟩ := to_lt b h2
 rw [ord32_w t1 u1 t2 u2, hc]
 unfold cmpI
 rcases Int.lt_trichotomy (numR a * denR b) (numR b * denR a) with h | h | h
 ·refine .inl ⟨if_pos h, ?_⟩
  have := mono_le ha hb h1 h2 (by omega)
  rcases Int.lt_or_eq_of_le this with h3 | h3
  ·rw [cpi_lt h3]; rfl
  ·rw [cpi_eq h3]; rfl
 ·refine .inr (.inr ⟨by rw [if_neg (by omega), if_neg (by omega)], ?_⟩)
  have k1 := mono_le ha hb h1 h2 (by omega)
  have k2 := mono_le hb ha h2 h1 (by omega)
  rw [cpi_eq (by omega)]
  rfl
 ·refine .inr (.inl ⟨by rw [if_neg (by omega), if_pos h], ?_⟩)
  have := mono_le hb ha h2 h1 (by omega)
  rcases Int.lt_or_eq_of_le this with h3 | h3
  ·rw [cpi_gt h3]; rfl
  ·rw [cpi_eq h3.symm]; rfl
theorem frc_body {d : ByteArray} {P Q : Int} (h : Frc d P Q) : Frc (bodyB d) (P.natAbs : Int) Q := by
 have hm := minus_sgn h.check.1
 rw [h.check.2.1] at hm
 have hg : Int.gcd (P.natAbs : Int) Q = 1 := h.low
 rcases Int.lt_or_le P 0 with hp | hp
 ·refine ⟨?_, h.pos, hg, h.dp, h.dq⟩
  have e : d.data.toList = 45 :: (frS (P.natAbs : Int) Q).data.toList := by
   rw [h.str, frS_list, frS_list]
   show Lib.itoa P ++ _ = 45 :: (Lib.itoa (P.natAbs : Int) ++ _)
   rw [itoa_abs P, itoa_abs (P.natAbs : Int), if_pos hp, if_neg (by omega)]
   simp
  unfold bodyB
  rw [e]
  show (⟨(Lib.trimPrefix (45 :: (frS (P.natAbs : Int) Q).data.toList) [45]).toArray⟩ : ByteArray) = _
  have : Lib.trimPrefix (45 :: (frS (P.natAbs : Int) Q).data.toList) [45] = (frS (P.natAbs : Int) Q).data.toList := by simp [Lib.trimPrefix, Lib.hasPrefix]
  rw [this]
 ·have e : (P.natAbs : Int) = P := by omega
  rw [e, body_self (by rw [hm, decide_eq_false (by omega)])]
  exact h
theorem frc_pos {d : ByteArray} {P Q : Int} (h : Frc d P Q) : 0 < d.size := by
 rw [h.str]
 have h3 := congrArg List.length (frS_list P Q)
 have k : ∀ t : ByteArray, t.data.toList.length = t.size := fun t => by simp
 rw [List.length_append, List.length_cons, k] at h3
 omega
theorem cmpI_le {a b : Int} (h : a ≤ b) : cmpI a b ≤ 0 := by unfold cmpI; split <;> (try split) <;> omega
end
end Go.Proofs.YtnjbinpbkjdjpaaGreatDoor.Nm
