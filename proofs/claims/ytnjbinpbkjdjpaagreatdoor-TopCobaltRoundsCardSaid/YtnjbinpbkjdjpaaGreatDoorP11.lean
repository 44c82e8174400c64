import Derived.Test.YtnjbinpbkjdjpaaGreatDoorP10
/- Own text: contracts and laws on which the card rests (GaD FcC). -/
set_option linter.unusedVariables false
set_option linter.unusedSimpArgs false
set_option maxRecDepth 1000000
set_option maxHeartbeats 16000000
namespace Go.Proofs.YtnjbinpbkjdjpaaGreatDoor.Nm
section
open Go.Proofs.YtnjbinpbkjdjpaaGreatDoor.Rf Go.Proofs.YtnjbinpbkjdjpaaGreatDoorW.PrintLast Go.Proofs.YtnjbinpbkjdjpaaGreatDoorW.PrintMore Go.Proofs.YtnjbinpbkjdjpaaGreatDoorW.PrintWords Go.RowKit Go.Shelf Ieee
/-- A float32 that is not finite, made a float64, in every world. -/
structure BadC (x : Nat) (Y : World → Nat) (D : World → World) : Prop where
 run : ∀ W, (convert 24 65 (.float .f32 x)).run Tryz.prog W = .ok (.float .f64 (Y W)) (D W)
 below : ∀ W, Below W.heap.size W (D W)
 fin : ∀ W V, Calls Tryz.prog 63 #[.float .f64 (Y W)] V fun e w' => e = .returned (.bool false) ∧ w' = V
theorem bad_conv {b : Nat} (h : b < 4294967296) (hf : ¬ fin32 b = true) : ∃ Y D, BadC b Y D := by
 have h3 : ¬ b % 2147483648 < 2139095040 := fun h4 => hf (decide_eq_true h4)
 have hc := fun W => conv_bad (neg32 b) (r := b % 2147483648) (by omega) (Nat.mod_lt _ (by decide)) W
 rw [← split32 h] at hc
 refine ⟨fun W => (hc W).choose, fun W => (hc W).choose_spec.choose, ⟨fun W => ?_, fun W => ?_, fun W V => ?_⟩⟩
 ·exact (hc W).choose_spec.choose_spec.1
 ·exact (hc W).choose_spec.choose_spec.2.1
 ·exact (hc W).choose_spec.choose_spec.2.2 V
theorem good_conv {b : Nat} (h : b < 4294967296) (hf : fin32 b = true) :
 (∀ W, (convert 24 65 (.float .f32 b)).run Tryz.prog W = .ok (.float .f64 (S64 (neg32 b) + w32 (b % 2147483648))) W) ∧
 Aside0 (∀ V, Calls Tryz.prog 63 #[.float .f64 (S64 (neg32 b) + w32 (b % 2147483648))] V fun e w' => e = .returned (.bool true) ∧ w' = V) ∧
 Aside0 (∀ W, Calls Tryz.prog 64 #[.float .f64 (S64 (neg32 b) + w32 (b % 2147483648))] W fun e w' => QX W (fvS b) (fvP b) (fvQ b) e w') := by
 have hcv := conv_good (neg32 b) (r := b % 2147483648) (of_decide_eq_true hf)
 rw [← split32 h] at hcv
 exact ⟨hcv, ⟨fun V => isFinite_good (neg32 b) (of_decide_eq_true hf) V⟩, ⟨fun W => exactly32 h hf W⟩⟩
theorem apply_kind {op : Int} (h : opI op = -1) (a b : Nat) (w : World) :
 Calls Tryz.prog 13 #[.int .i64 op, .float .f32 a, .float .f32 b] w fun e w' => e = .returned (.tuple #[.float .f32 0, .int .i64 11]) ∧ Below w.heap.size w w' := by
 have HB0 := Aside0.mk (below_alloc (Below.refl w.heap.size w) (.cells #[.int .i64 op] 3))
 have HL : Aside0 (w.heap.size < (w.alloc (.cells #[.int .i64 op] 3)).heap.size) := ⟨by simp⟩
 have HC0 : Aside0 ((w.alloc (.cells #[.int .i64 op] 3)).cell? ⟨w.heap.size, 0, none⟩ = some (.int .i64 op)) := ⟨by simp⟩
 have HI : Aside0 (∀ W b, OpsAt W b → W.cell? ⟨w.heap.size, 0, none⟩ = some (.int .i64 op) → w.heap.size < W.heap.size → Calls Tryz.prog 60 #[.slice (some ⟨b, 0, none⟩) 4 4, .func (.func 62) #[] #[.pointer (some ⟨w.heap.size, 0, none⟩)]] W fun e w' => e = .returned (.int .i64 (opI op)) ∧ Below W.heap.size W w') := ⟨fun W b h1 h2 h3 => index_calls h1 h2 h3⟩
 rw [h] at HI
 clear h
 go_enter Tryz.func13, Tryz.ntmps13
 go_wp2_with (first | (go_at_call 61; (with_reducible refine (operations_calls _).mono ?_); rintro e W1 ⟨b1, rfl, ho, hb1⟩; have HO := Aside0.mk ho; have HB := Aside0.mk (HB0.out.trans (hb1.mono HB0.out.size)); have HC := Aside0.mk ((hb1.cell (p := ⟨w.heap.size, 0, none⟩) HL.out).trans HC0.out); have HP := Aside0.mk (Nat.lt_of_lt_of_le HL.out hb1.size); clear ho hb1) | (go_at_call 60; (with_reducible refine (HI.out _ _ HO.out HC.out HP.out).mono ?_); rintro e W2 ⟨rfl, hb2⟩; have HB2 := Aside0.mk (HB.out.trans (hb2.mono HB.out.size)); have hc2 := (hb2.cell (p := ⟨w.heap.size, 0, none⟩) HP.out).trans HC.out; clear hb2))
 go_ret2
 exact ⟨rfl, HB2.out⟩
theorem opI_cases (op : Int) : opI op = -1 ∨ (∃ i : Nat, opI op = (i : Int) ∧ i < 4 ∧ op = 16 + (i : Int)) := by
 unfold opI
 by_cases h0 : op = 16
 ·rw [if_pos h0]; exact .inr ⟨0, rfl, by omega, by omega⟩
 ·by_cases h1 : op = 17
  ·rw [if_neg h0, if_pos h1]; exact .inr ⟨1, rfl, by omega, by omega⟩
  ·by_cases h2 : op = 18
   ·rw [if_neg h0, if_neg h1, if_pos h2]; exact .inr ⟨2, rfl, by omega, by omega⟩
   ·by_cases h3 : op = 19
    ·rw [if_neg h0, if_neg h1, if_neg h2, if_pos h3]; exact .inr ⟨3, rfl, by omega, by omega⟩
    ·rw [if_neg h0, if_neg h1, if_neg h2, if_neg h3]; exact .inl rfl
theorem apply_formA {op : Int} {i : Nat} (h : opI op = (i : Int)) {a : Nat} (b : Nat) (ha : a < 4294967296) (hf : ¬ fin32 a = true) (w : World) :
 Calls Tryz.prog 13 #[.int .i64 op, .float .f32 a, .float .f32 b] w fun e w' => e = .returned (.tuple #[.float .f32 0, .int .i64 1]) ∧ Below w.heap.size w w' := by
 have HB0 := Aside0.mk (below_alloc (Below.refl w.heap.size w) (.cells #[.int .i64 op] 3))
 have HL : Aside0 (w.heap.size < (w.alloc (.cells #[.int .i64 op] 3)).heap.size) := ⟨by simp⟩
 have HC0 : Aside0 ((w.alloc (.cells #[.int .i64 op] 3)).cell? ⟨w.heap.size, 0, none⟩ = some (.int .i64 op)) := ⟨by simp⟩
 have HI : Aside0 (∀ W b, OpsAt W b → W.cell? ⟨w.heap.size, 0, none⟩ = some (.int .i64 op) → w.heap.size < W.heap.size → Calls Tryz.prog 60 #[.slice (some ⟨b, 0, none⟩) 4 4, .func (.func 62) #[] #[.pointer (some ⟨w.heap.size, 0, none⟩)]] W fun e w' => e = .returned (.int .i64 (opI op)) ∧ Below W.heap.size W w') := ⟨fun W b h1 h2 h3 => index_calls h1 h2 h3⟩
 rw [h] at HI
 obtain ⟨Y, D, hd⟩ := bad_conv ha hf
 have hcv := hd.run
 have HD := Aside0.mk hd.below
 have HFA := Aside0.mk hd.fin
 have hnn : decide ((i : Int) < 0) = false := decide_eq_false (by omega)
 clear h hd ha hf
 go_enter Tryz.func13, Tryz.ntmps13
 go_wp2_with (first | (go_at_call 61; (with_reducible refine (operations_calls _).mono ?_); rintro e W1 ⟨b1, rfl, ho, hb1⟩; have HO := Aside0.mk ho; have HB := Aside0.mk (HB0.out.trans (hb1.mono HB0.out.size)); have HC := Aside0.mk ((hb1.cell (p := ⟨w.heap.size, 0, none⟩) HL.out).trans HC0.out); have HP := Aside0.mk (Nat.lt_of_lt_of_le HL.out hb1.size); clear ho hb1) | (go_at_call 60; (with_reducible refine (HI.out _ _ HO.out HC.out HP.out).mono ?_); rintro e W2 ⟨rfl, hb2⟩; have HB2 := Aside0.mk (HB.out.trans (hb2.mono HB.out.size)); have hc2 := (hb2.cell (p := ⟨w.heap.size, 0, none⟩) HP.out).trans HC.out; clear hb2) | (go_at_call 63; (with_reducible refine (HFA.out _ _).mono ?_); rintro e W3 ⟨rfl, hwq⟩; rw [hwq]; clear hwq))
 go_ret2
 exact ⟨rfl, HB2.out.trans ((HD.out _).mono HB2.out.size)⟩
theorem apply_formB {op : Int} {i : Nat} (h : opI op = (i : Int)) {a b : Nat} (ha : a < 4294967296) (hf : fin32 a = true) (hb : b < 4294967296) (hg : ¬ fin32 b = true) (w : World) :
 Calls Tryz.prog 13 #[.int .i64 op, .float .f32 a, .float .f32 b] w fun e w' => e = .returned (.tuple #[.float .f32 0, .int .i64 1]) ∧ Below w.heap.size w w' := by
 have HB0 := Aside0.mk (below_alloc (Below.refl w.heap.size w) (.cells #[.int .i64 op] 3))
 have HL : Aside0 (w.heap.size < (w.alloc (.cells #[.int .i64 op] 3)).heap.size) := ⟨by simp⟩
 have HC0 : Aside0 ((w.alloc (.cells #[.int .i64 op] 3)).cell? ⟨w.heap.size, 0, none⟩ = some (.int .i64 op)) := ⟨by simp⟩
 have HI : Aside0 (∀ W b, OpsAt W b → W.cell? ⟨w.heap.size, 0, none⟩ = some (.int .i64 op) → w.heap.size < W.heap.size → Calls Tryz.prog 60 #[.slice (some ⟨b, 0, none⟩) 4 4, .func (.func 62) #[] #[.pointer (some ⟨w.heap.size, 0, none⟩)]] W fun e w' => e = .returned (.int .i64 (opI op)) ∧ Below W.heap.size W w') := ⟨fun W b h1 h2 h3 => index_calls h1 h2 h3⟩
 rw [h] at HI
 obtain ⟨Y, D, hd⟩ := bad_conv hb hg
 have hcv := hd.run
 have HD := Aside0.mk hd.below
 have HFA := Aside0.mk hd.fin
 obtain ⟨hcg, HFG, _⟩ := good_conv ha hf
 have hnn : decide ((i : Int) < 0) = false := decide_eq_false (by omega)
 have hne : a ≠ b := by rintro rfl; exact hg hf
 clear h hd ha hf hb hg
 generalize S64 (neg32 a) + w32 (a % 2147483648) = ya at *
 clear hne
 go_enter Tryz.func13, Tryz.ntmps13
 go_wp2_with (first | (go_at_call 61; (with_reducible refine (operations_calls _).mono ?_); rintro e W1 ⟨b1, rfl, ho, hb1⟩; have HO := Aside0.mk ho; have HB := Aside0.mk (HB0.out.trans (hb1.mono HB0.out.size)); have HC := Aside0.mk ((hb1.cell (p := ⟨w.heap.size, 0, none⟩) HL.out).trans HC0.out); have HP := Aside0.mk (Nat.lt_of_lt_of_le HL.out hb1.size); clear ho hb1) | (go_at_call 60; (with_reducible refine (HI.out _ _ HO.out HC.out HP.out).mono ?_); rintro e W2 ⟨rfl, hb2⟩; have HB2 := Aside0.mk (HB.out.trans (hb2.mono HB.out.size)); have hc2 := (hb2.cell (p := ⟨w.heap.size, 0, none⟩) HP.out).trans HC.out; clear hb2) | (go_at_call 63; (with_reducible refine (HFG.out _).mono ?_); rintro e W3 ⟨rfl, hwq⟩; rw [hwq]; clear hwq) | (go_at_call 63; (with_reducible refine (HFA.out _ _).mono ?_); rintro e W3 ⟨rfl, hwq⟩; rw [hwq]; clear hwq))
 go_ret2
 exact ⟨rfl, HB2.out.trans ((HD.out _).mono HB2.out.size)⟩
theorem ordz32 {b : Nat} (hb : b < 4294967296) (fb : fin32 b = true) : (FloatKind.f32.format.order b 0 == some .eq) = decide (b % 2147483648 = 0) := by
 rw [ord32_w hb (by decide) fb (by decide), show sw 0 = 0 by decide]
 unfold sw sr
 by_cases h : b % 2147483648 = 0
 ·rw [h, decide_eq_true rfl]; cases neg32 b <;> rfl
 ·rw [decide_eq_false h]
  cases neg32 b
  ·rw [cpi_gt (by simp; omega)]; rfl
  ·rw [cpi_lt (by simp; omega)]; rfl
theorem apply_div {a b : Nat} (ha : a < 4294967296) (hf : fin32 a = true) (hb : b < 4294967296) (hg : fin32 b = true) (hz : b % 2147483648 = 0) (w : World) :
 Calls Tryz.prog 13 #[.int .i64 19, .float .f32 a, .float .f32 b] w fun e w' => e = .returned (.tuple #[.float .f32 0, .int .i64 30]) ∧ Below w.heap.size w w' := by
 obtain ⟨op, hop⟩ : ∃ op : Int, op = 19 := ⟨_, rfl⟩
 rw [← hop]
 have HB0 := Aside0.mk (below_alloc (Below.refl w.heap.size w) (.cells #[.int .i64 op] 3))
 have HL : Aside0 (w.heap.size < (w.alloc (.cells #[.int .i64 op] 3)).heap.size) := ⟨by simp⟩
 have HC0 : Aside0 ((w.alloc (.cells #[.int .i64 op] 3)).cell? ⟨w.heap.size, 0, none⟩ = some (.int .i64 op)) := ⟨by simp⟩
 have HI : Aside0 (∀ W b, OpsAt W b → W.cell? ⟨w.heap.size, 0, none⟩ = some (.int .i64 op) → w.heap.size < W.heap.size → Calls Tryz.prog 60 #[.slice (some ⟨b, 0, none⟩) 4 4, .func (.func 62) #[] #[.pointer (some ⟨w.heap.size, 0, none⟩)]] W fun e w' => e = .returned (.int .i64 (opI op)) ∧ Below W.heap.size W w') := ⟨fun W b h1 h2 h3 => index_calls h1 h2 h3⟩
 have hi : opI op = 3 := by rw [hop]; rfl
 rw [hi] at HI
 obtain ⟨hcg, HFG, _⟩ := good_conv ha hf
 obtain ⟨hch, HFH, _⟩ := good_conv hb hg
 have ho := ordz32 hb hg
 rw [decide_eq_true hz] at ho
 clear ha hf hb hg hz hi
 generalize S64 (neg32 a) + w32 (a % 2147483648) = ya at *
 generalize S64 (neg32 b) + w32 (b % 2147483648) = yb at *
 subst hop
 go_enter Tryz.func13, Tryz.ntmps13
 go_wp2_with (first | (go_at_call 61; (with_reducible refine (operations_calls _).mono ?_); rintro e W1 ⟨b1, rfl, ho, hb1⟩; have HO := Aside0.mk ho; have HB := Aside0.mk (HB0.out.trans (hb1.mono HB0.out.size)); have HC := Aside0.mk ((hb1.cell (p := ⟨w.heap.size, 0, none⟩) HL.out).trans HC0.out); have HP := Aside0.mk (Nat.lt_of_lt_of_le HL.out hb1.size); clear ho hb1) | (go_at_call 60; (with_reducible refine (HI.out _ _ HO.out HC.out HP.out).mono ?_); rintro e W2 ⟨rfl, hb2⟩; have HB2 := Aside0.mk (HB.out.trans (hb2.mono HB.out.size)); have hc2 := (hb2.cell (p := ⟨w.heap.size, 0, none⟩) HP.out).trans HC.out; clear hb2) | (go_at_call 63; (with_reducible refine (HFG.out _).mono ?_); rintro e W3 ⟨rfl, hwq⟩; rw [hwq]; clear hwq) | (go_at_call 63; (with_reducible refine (HFH.out _).mono ?_); rintro e W3 ⟨rfl, hwq⟩; rw [hwq]; clear hwq))
 go_ret2
 exact ⟨rfl, HB2.out⟩
theorem plN_szk {s z : Bool} {a b k : Nat} (j : Nat) (ha : Sz k a) (hb : Sz k b) (h : k + 1 ≤ j) : Sz j (plN s a z b) := (plN_sz ha hb).more h
theorem apply_add {a b : Nat} (ha : a < 4294967296) (hf : fin32 a = true) (hb : b < 4294967296) (hg : fin32 b = true) (w : World) :
 Calls Tryz.prog 13 #[.int .i64 16, .float .f32 a, .float .f32 b] w fun e w' => NrO w (plS (fvS a) (fvP a * fvQ b) (fvS b) (fvP b * fvQ a)) (plN (fvS a) (fvP a * fvQ b) (fvS b) (fvP b * fvQ a)) (fvQ a * fvQ b) e w' := by
 obtain ⟨op, hop⟩ : ∃ op : Int, op = 16 := ⟨_, rfl⟩
 rw [← hop]
 have HB0 := Aside0.mk (below_alloc (Below.refl w.heap.size w) (.cells #[.int .i64 op] 3))
 have HL : Aside0 (w.heap.size < (w.alloc (.cells #[.int .i64 op] 3)).heap.size) := ⟨by simp⟩
 have HC0 : Aside0 ((w.alloc (.cells #[.int .i64 op] 3)).cell? ⟨w.heap.size, 0, none⟩ = some (.int .i64 op)) := ⟨by simp⟩
 have HI : Aside0 (∀ W b, OpsAt W b → W.cell? ⟨w.heap.size, 0, none⟩ = some (.int .i64 op) → w.heap.size < W.heap.size → Calls Tryz.prog 60 #[.slice (some ⟨b, 0, none⟩) 4 4, .func (.func 62) #[] #[.pointer (some ⟨w.heap.size, 0, none⟩)]] W fun e w' => e = .returned (.int .i64 (opI op)) ∧ Below W.heap.size W w') := ⟨fun W b h1 h2 h3 => index_calls h1 h2 h3⟩
 have hi : opI op = 0 := by rw [hop]; rfl
 rw [hi] at HI
 obtain ⟨hcg, HFG, HXA⟩ := good_conv ha hf
 obtain ⟨hch, HFH, HXB⟩ := good_conv hb hg
 skip
 obtain ⟨x1, x2, x3⟩ := fv_sz hf
 obtain ⟨z1, z2, z3⟩ := fv_sz hg
 have m1 : Sz 6000 (fvP a * fvQ b) := x1.mul z2
 have m2 : Sz 6000 (fvP b * fvQ a) := z1.mul x2
 have m3 : Sz 6000 (fvQ a * fvQ b) := x2.mul z2
 have m4 : Sz 6000 (fvP a * fvP b) := x1.mul z1
 have m5 : Sz 6000 (fvQ a * fvP b) := x2.mul z1
 have p1 : Sz 90000 (plN (fvS a) (fvP a * fvQ b) (fvS b) (fvP b * fvQ a)) := plN_szk _ m1 m2 (by omega)
 have p2 : Sz 90000 (fvQ a * fvQ b) := Sz.more m3 (by omega)
 have p3 : 0 < (fvQ a * fvQ b) := Nat.mul_pos x3 z3
 have HDO : Aside0 (∀ W A1 L1 c1 A2 L2 c2 A3 L3 c3 A4 L4 c4, N2 W A1 L1 c1 (fvP a) A2 L2 c2 (fvQ a) → N2 W A3 L3 c3 (fvP b) A4 L4 c4 (fvQ b) → Calls Tryz.prog 118 #[qV (fvS a) A1 L1 c1 A2 L2 c2, qV (fvS b) A3 L3 c3 A4 L4 c4] W fun e w' => QX W (plS (fvS a) (fvP a * fvQ b) (fvS b) (fvP b * fvQ a)) (plN (fvS a) (fvP a * fvQ b) (fvS b) (fvP b * fvQ a)) (fvQ a * fvQ b) e w') :=
  ⟨fun W A1 L1 c1 A2 L2 c2 A3 L3 c3 A4 L4 c4 h1 h2 => qPlus_calls h1 h2 (x1.more (by omega)) (x2.more (by omega)) (z1.more (by omega)) (z2.more (by omega))⟩
 have HNR : Aside0 (∀ W A1 L1 c1 A2 L2 c2, N2 W A1 L1 c1 (plN (fvS a) (fvP a * fvQ b) (fvS b) (fvP b * fvQ a)) A2 L2 c2 (fvQ a * fvQ b) → Calls Tryz.prog 65 #[qV (plS (fvS a) (fvP a * fvQ b) (fvS b) (fvP b * fvQ a)) A1 L1 c1 A2 L2 c2] W fun e w' => NrO W (plS (fvS a) (fvP a * fvQ b) (fvS b) (fvP b * fvQ a)) (plN (fvS a) (fvP a * fvQ b) (fvS b) (fvP b * fvQ a)) (fvQ a * fvQ b) e w') := ⟨fun W A1 L1 c1 A2 L2 c2 hn => nearest_calls hn p1 p2 p3⟩
 clear ha hf hb hg hi m1 m2 m3 m4 m5 p1 p2 p3 x1 x2 x3 z1 z2 z3
 unfold QX NrO at *
 generalize nrW (plS (fvS a) (fvP a * fvQ b) (fvS b) (fvP b * fvQ a)) (plN (fvS a) (fvP a * fvQ b) (fvS b) (fvP b * fvQ a)) (fvQ a * fvQ b) = R at *
 generalize nrE (plS (fvS a) (fvP a * fvQ b) (fvS b) (fvP b * fvQ a)) (plN (fvS a) (fvP a * fvQ b) (fvS b) (fvP b * fvQ a)) (fvQ a * fvQ b) = T at *
 generalize (plN (fvS a) (fvP a * fvQ b) (fvS b) (fvP b * fvQ a)) = P at *
 generalize (fvQ a * fvQ b) = Q at *
 generalize (plS (fvS a) (fvP a * fvQ b) (fvS b) (fvP b * fvQ a)) = sg at *
 generalize fvS a = sa at *
 generalize fvS b = sb at *
 generalize fvP a = pa at *
 generalize fvP b = pb at *
 generalize fvQ a = qa at *
 generalize fvQ b = qb at *
 generalize S64 (neg32 a) + w32 (a % 2147483648) = ya at *
 generalize S64 (neg32 b) + w32 (b % 2147483648) = yb at *
 subst hop
 go_enter Tryz.func13, Tryz.ntmps13
 go_upto_region 8 with (first | (go_at_call 61; (with_reducible refine (operations_calls _).mono ?_); rintro e W1 ⟨b1, rfl, ho, hb1⟩; have HO := Aside0.mk ho; have HB := Aside0.mk (HB0.out.trans (hb1.mono HB0.out.size)); have HC := Aside0.mk ((hb1.cell (p := ⟨w.heap.size, 0, none⟩) HL.out).trans HC0.out); have HP := Aside0.mk (Nat.lt_of_lt_of_le HL.out hb1.size); clear ho hb1) | (go_at_call 60; (with_reducible refine (HI.out _ _ HO.out HC.out HP.out).mono ?_); rintro e W2 ⟨rfl, hb2⟩; have HB2 := Aside0.mk (HB.out.trans (hb2.mono HB.out.size)); have hc2 := (hb2.cell (p := ⟨w.heap.size, 0, none⟩) HP.out).trans HC.out; clear hb2) | (go_at_call 63; (with_reducible refine (HFG.out _).mono ?_); rintro e W3 ⟨rfl, hwq⟩; rw [hwq]; clear hwq) | (go_at_call 63; (with_reducible refine (HFH.out _).mono ?_); rintro e W3 ⟨rfl, hwq⟩; rw [hwq]; clear hwq))
 clear HO HB HC HP HI HC0 HL HB0 hc2
 rename_i Q' K hK
 refine wp_region_held_drew (S := (fun _ => True)) (by kernel_rfl) ?_ (fun hHeld => ?_)
 ·trivial
 (obtain ⟨Z, hZ⟩ : ∃ Z, W2.drew = Z := ⟨_, rfl⟩; have HBZ : Aside0 (Below w.heap.size w Z) := (by subst hZ; exact ⟨HB2.out.drew⟩); rw [hZ]; clear hZ)
 refine tp 1 ?_
 try simp only [PU]
 refine tp 5 ?_
 try simp only [PU]
 refine tp 6 ?_
 try simp only [PU]
 refine tp 8 ?_
 try simp only [PU]
 refine tp 9 ?_
 try simp only [PU]
 refine tc 0 fun K hK => ?_
 go_simp
 (go_at_call 61; (with_reducible refine (operations_calls _).mono ?_); rintro e W4 ⟨b4, rfl, ho, hbq⟩; have HO := Aside0.mk ho; have HBC := Aside0.mk (HBZ.out.trans (hbq.mono HBZ.out.size)); clear ho; have q4 := HO.out.cell 1)
 refine hK.out _ _ ?_ fun hHeld => ?_
 ·trivial
 clear hK K; try simp only [PU]
 refine tp 2 ?_
 try simp only [PU]
 refine tp 3 ?_
 try simp only [PU]
 refine wpAnyH_ready (rs := [4, 7]) (by kernel_rfl) (by simp) ?_
 refine AllReadyH.cons rfl (fun K hK => ?_) (AllReadyH.cons rfl (fun K hK => ?_) (AllReadyH.nil))
 ·go_simp
  refine hK.out _ _ ?_ fun hHeld => ?_
  ·trivial
  clear hK K; try simp only [PU]
  refine tc 7 fun K hK => ?_
  go_simp
  (go_at_call 64; (with_reducible refine (HXA.out _).mono ?_); rintro e W5 ⟨A1, k1, c1, A2, k2, c2, rfl, hn, hbq⟩; have HNA := Aside0.mk hn; clear hn; have HO2 := Aside0.mk (HO.out.below hbq); clear HO; have HO := HO2; clear HO2; have HBC2 := Aside0.mk (HBC.out.trans (hbq.mono HBC.out.size)); clear HBC; have HBC := HBC2; clear HBC2; have q5 := HO.out.cell 1)
  refine hK.out _ _ ?_ fun hHeld => ?_
  ·trivial
  clear hK K; try simp only [PU]
  refine tc 10 fun K hK => ?_
  go_simp
  (go_at_call 64; (with_reducible refine (HXB.out _).mono ?_); rintro e W6 ⟨A3, k3, c3, A4, k4, c4, rfl, hn, hbq⟩; have HNB := Aside0.mk hn; clear hn; have HNA2 := Aside0.mk (HNA.out.below hbq); have HO2 := Aside0.mk (HO.out.below hbq); clear HO; have HO := HO2; clear HO2; have HBC2 := Aside0.mk (HBC.out.trans (hbq.mono HBC.out.size)); clear HBC; have HBC := HBC2; clear HBC2; have q6 := HO.out.cell 1)
  refine hK.out _ _ ?_ fun hHeld => ?_
  ·trivial
  clear hK K; try simp only [PU]
  refine tc 11 fun K hK => ?_
  go_simp
  (go_at_call 118; (with_reducible refine (HDO.out _ _ _ _ _ _ _ _ _ _ _ _ _ HNA2.out HNB.out).mono ?_); rintro e W7 ⟨A5, k5, c5, A6, k6, c6, rfl, hn, hbq⟩; have HNC := Aside0.mk hn; clear hn; have HO2 := Aside0.mk (HO.out.below hbq); clear HO; have HO := HO2; clear HO2; have HBC2 := Aside0.mk (HBC.out.trans (hbq.mono HBC.out.size)); clear HBC; have HBC := HBC2; clear HBC2)
  refine hK.out _ _ ?_ fun hHeld => ?_
  ·trivial
  clear hK K; try simp only [PU]
  refine tc 12 fun K hK => ?_
  go_simp
  (go_at_call 65; (with_reducible refine (HNR.out _ _ _ _ _ _ _ HNC.out).mono ?_); rintro e W8 ⟨rfl, hbq⟩; have HO2 := Aside0.mk (HO.out.below hbq); clear HO; have HO := HO2; clear HO2; have HBC2 := Aside0.mk (HBC.out.trans (hbq.mono HBC.out.size)); clear HBC; have HBC := HBC2; clear HBC2)
  refine hK.out _ _ ?_ fun hHeld => ?_
  ·trivial
  clear hK K; try simp only [PU]
  refine tp 13 ?_
  try simp only [PU]
  refine tp 14 ?_
  try simp only [PU]
  refine tp 15 ?_
  try simp only [PU]
  refine tp 16 ?_
  try simp only [PU]
  refine wpAnyH_done (by kernel_rfl) ?_ _
  refine hK _ _ ?_
  clear hK
  go_wp2
  go_ret2
  exact ⟨rfl, HBC.out⟩
 ·go_simp
  (go_at_call 64; (with_reducible refine (HXA.out _).mono ?_); rintro e W5 ⟨A1, k1, c1, A2, k2, c2, rfl, hn, hbq⟩; have HNA := Aside0.mk hn; clear hn; have HO2 := Aside0.mk (HO.out.below hbq); clear HO; have HO := HO2; clear HO2; have HBC2 := Aside0.mk (HBC.out.trans (hbq.mono HBC.out.size)); clear HBC; have HBC := HBC2; clear HBC2; have q5 := HO.out.cell 1)
  refine hK.out _ _ ?_ fun hHeld => ?_
  ·trivial
  clear hK K; try simp only [PU]
  refine wpAnyH_ready (rs := [4, 10]) (by kernel_rfl) (by simp) ?_
  refine AllReadyH.cons rfl (fun K hK => ?_) (AllReadyH.cons rfl (fun K hK => ?_) (AllReadyH.nil))
  ·go_simp
   refine hK.out _ _ ?_ fun hHeld => ?_
   ·trivial
   clear hK K; try simp only [PU]
   refine tc 10 fun K hK => ?_
   go_simp
   (go_at_call 64; (with_reducible refine (HXB.out _).mono ?_); rintro e W6 ⟨A3, k3, c3, A4, k4, c4, rfl, hn, hbq⟩; have HNB := Aside0.mk hn; clear hn; have HNA2 := Aside0.mk (HNA.out.below hbq); have HO2 := Aside0.mk (HO.out.below hbq); clear HO; have HO := HO2; clear HO2; have HBC2 := Aside0.mk (HBC.out.trans (hbq.mono HBC.out.size)); clear HBC; have HBC := HBC2; clear HBC2; have q6 := HO.out.cell 1)
   refine hK.out _ _ ?_ fun hHeld => ?_
   ·trivial
   clear hK K; try simp only [PU]
   refine tc 11 fun K hK => ?_
   go_simp
   (go_at_call 118; (with_reducible refine (HDO.out _ _ _ _ _ _ _ _ _ _ _ _ _ HNA2.out HNB.out).mono ?_); rintro e W7 ⟨A5, k5, c5, A6, k6, c6, rfl, hn, hbq⟩; have HNC := Aside0.mk hn; clear hn; have HO2 := Aside0.mk (HO.out.below hbq); clear HO; have HO := HO2; clear HO2; have HBC2 := Aside0.mk (HBC.out.trans (hbq.mono HBC.out.size)); clear HBC; have HBC := HBC2; clear HBC2)
   refine hK.out _ _ ?_ fun hHeld => ?_
   ·trivial
   clear hK K; try simp only [PU]
   refine tc 12 fun K hK => ?_
   go_simp
   (go_at_call 65; (with_reducible refine (HNR.out _ _ _ _ _ _ _ HNC.out).mono ?_); rintro e W8 ⟨rfl, hbq⟩; have HO2 := Aside0.mk (HO.out.below hbq); clear HO; have HO := HO2; clear HO2; have HBC2 := Aside0.mk (HBC.out.trans (hbq.mono HBC.out.size)); clear HBC; have HBC := HBC2; clear HBC2)
   refine hK.out _ _ ?_ fun hHeld => ?_
   ·trivial
   clear hK K; try simp only [PU]
   refine tp 13 ?_
   try simp only [PU]
   refine tp 14 ?_
   try simp only [PU]
   refine tp 15 ?_
   try simp only [PU]
   refine tp 16 ?_
   try simp only [PU]
   refine wpAnyH_done (by kernel_rfl) ?_ _
   refine hK _ _ ?_
   clear hK
   go_wp2
   go_ret2
   exact ⟨rfl, HBC.out⟩
  ·go_simp
   (go_at_call 64; (with_reducible refine (HXB.out _).mono ?_); rintro e W6 ⟨A3, k3, c3, A4, k4, c4, rfl, hn, hbq⟩; have HNB := Aside0.mk hn; clear hn; have HNA2 := Aside0.mk (HNA.out.below hbq); have HO2 := Aside0.mk (HO.out.below hbq); clear HO; have HO := HO2; clear HO2; have HBC2 := Aside0.mk (HBC.out.trans (hbq.mono HBC.out.size)); clear HBC; have HBC := HBC2; clear HBC2; have q6 := HO.out.cell 1)
   refine hK.out _ _ ?_ fun hHeld => ?_
   ·trivial
   clear hK K; try simp only [PU]
   refine tc 4 fun K hK => ?_
   go_simp
   refine hK.out _ _ ?_ fun hHeld => ?_
   ·trivial
   clear hK K; try simp only [PU]
   refine tc 11 fun K hK => ?_
   go_simp
   (go_at_call 118; (with_reducible refine (HDO.out _ _ _ _ _ _ _ _ _ _ _ _ _ HNA2.out HNB.out).mono ?_); rintro e W7 ⟨A5, k5, c5, A6, k6, c6, rfl, hn, hbq⟩; have HNC := Aside0.mk hn; clear hn; have HO2 := Aside0.mk (HO.out.below hbq); clear HO; have HO := HO2; clear HO2; have HBC2 := Aside0.mk (HBC.out.trans (hbq.mono HBC.out.size)); clear HBC; have HBC := HBC2; clear HBC2)
   refine hK.out _ _ ?_ fun hHeld => ?_
   ·trivial
   clear hK K; try simp only [PU]
   refine tc 12 fun K hK => ?_
   go_simp
   (go_at_call 65; (with_reducible refine (HNR.out _ _ _ _ _ _ _ HNC.out).mono ?_); rintro e W8 ⟨rfl, hbq⟩; have HO2 := Aside0.mk (HO.out.below hbq); clear HO; have HO := HO2; clear HO2; have HBC2 := Aside0.mk (HBC.out.trans (hbq.mono HBC.out.size)); clear HBC; have HBC := HBC2; clear HBC2)
   refine hK.out _ _ ?_ fun hHeld => ?_
   ·trivial
   clear hK K; try simp only [PU]
   refine tp 13 ?_
   try simp only [PU]
   refine tp 14 ?_
   try simp only [PU]
   refine tp 15 ?_
   try simp only [PU]
   refine tp 16 ?_
   try simp only [PU]
   refine wpAnyH_done (by kernel_rfl) ?_ _
   refine hK _ _ ?_
   clear hK
   go_wp2
   go_ret2
   exact ⟨rfl, HBC.out⟩
theorem apply_sub {a b : Nat} (ha : a < 4294967296) (hf : fin32 a = true) (hb : b < 4294967296) (hg : fin32 b = true) (w : World) :
 Calls Tryz.prog 13 #[.int .i64 17, .float .f32 a, .float .f32 b] w fun e w' => NrO w (plS (fvS a) (fvP a * fvQ b) (!(fvS b)) (fvP b * fvQ a)) (plN (fvS a) (fvP a * fvQ b) (!(fvS b)) (fvP b * fvQ a)) (fvQ a * fvQ b) e w' := by
 obtain ⟨op, hop⟩ : ∃ op : Int, op = 17 := ⟨_, rfl⟩
 rw [← hop]
 have HB0 := Aside0.mk (below_alloc (Below.refl w.heap.size w) (.cells #[.int .i64 op] 3))
 have HL : Aside0 (w.heap.size < (w.alloc (.cells #[.int .i64 op] 3)).heap.size) := ⟨by simp⟩
 have HC0 : Aside0 ((w.alloc (.cells #[.int .i64 op] 3)).cell? ⟨w.heap.size, 0, none⟩ = some (.int .i64 op)) := ⟨by simp⟩
 have HI : Aside0 (∀ W b, OpsAt W b → W.cell? ⟨w.heap.size, 0, none⟩ = some (.int .i64 op) → w.heap.size < W.heap.size → Calls Tryz.prog 60 #[.slice (some ⟨b, 0, none⟩) 4 4, .func (.func 62) #[] #[.pointer (some ⟨w.heap.size, 0, none⟩)]] W fun e w' => e = .returned (.int .i64 (opI op)) ∧ Below W.heap.size W w') := ⟨fun W b h1 h2 h3 => index_calls h1 h2 h3⟩
 have hi : opI op = 1 := by rw [hop]; rfl
 rw [hi] at HI
 obtain ⟨hcg, HFG, HXA⟩ := good_conv ha hf
 obtain ⟨hch, HFH, HXB⟩ := good_conv hb hg
 skip
 obtain ⟨x1, x2, x3⟩ := fv_sz hf
 obtain ⟨z1, z2, z3⟩ := fv_sz hg
 have m1 : Sz 6000 (fvP a * fvQ b) := x1.mul z2
 have m2 : Sz 6000 (fvP b * fvQ a) := z1.mul x2
 have m3 : Sz 6000 (fvQ a * fvQ b) := x2.mul z2
 have m4 : Sz 6000 (fvP a * fvP b) := x1.mul z1
 have m5 : Sz 6000 (fvQ a * fvP b) := x2.mul z1
 have p1 : Sz 90000 (plN (fvS a) (fvP a * fvQ b) (!(fvS b)) (fvP b * fvQ a)) := plN_szk _ m1 m2 (by omega)
 have p2 : Sz 90000 (fvQ a * fvQ b) := Sz.more m3 (by omega)
 have p3 : 0 < (fvQ a * fvQ b) := Nat.mul_pos x3 z3
 have HDO : Aside0 (∀ W A1 L1 c1 A2 L2 c2 A3 L3 c3 A4 L4 c4, N2 W A1 L1 c1 (fvP a) A2 L2 c2 (fvQ a) → N2 W A3 L3 c3 (fvP b) A4 L4 c4 (fvQ b) → Calls Tryz.prog 80 #[qV (fvS a) A1 L1 c1 A2 L2 c2, qV (fvS b) A3 L3 c3 A4 L4 c4] W fun e w' => QX W (plS (fvS a) (fvP a * fvQ b) (!(fvS b)) (fvP b * fvQ a)) (plN (fvS a) (fvP a * fvQ b) (!(fvS b)) (fvP b * fvQ a)) (fvQ a * fvQ b) e w') :=
  ⟨fun W A1 L1 c1 A2 L2 c2 A3 L3 c3 A4 L4 c4 h1 h2 => qMinus_calls h1 h2 (x1.more (by omega)) (x2.more (by omega)) (z1.more (by omega)) (z2.more (by omega))⟩
 have HNR : Aside0 (∀ W A1 L1 c1 A2 L2 c2, N2 W A1 L1 c1 (plN (fvS a) (fvP a * fvQ b) (!(fvS b)) (fvP b * fvQ a)) A2 L2 c2 (fvQ a * fvQ b) → Calls Tryz.prog 65 #[qV (plS (fvS a) (fvP a * fvQ b) (!(fvS b)) (fvP b * fvQ a)) A1 L1 c1 A2 L2 c2] W fun e w' => NrO W (plS (fvS a) (fvP a * fvQ b) (!(fvS b)) (fvP b * fvQ a)) (plN (fvS a) (fvP a * fvQ b) (!(fvS b)) (fvP b * fvQ a)) (fvQ a * fvQ b) e w') := ⟨fun W A1 L1 c1 A2 L2 c2 hn => nearest_calls hn p1 p2 p3⟩
 clear ha hf hb hg hi m1 m2 m3 m4 m5 p1 p2 p3 x1 x2 x3 z1 z2 z3
 unfold QX NrO at *
 generalize nrW (plS (fvS a) (fvP a * fvQ b) (!(fvS b)) (fvP b * fvQ a)) (plN (fvS a) (fvP a * fvQ b) (!(fvS b)) (fvP b * fvQ a)) (fvQ a * fvQ b) = R at *
 generalize nrE (plS (fvS a) (fvP a * fvQ b) (!(fvS b)) (fvP b * fvQ a)) (plN (fvS a) (fvP a * fvQ b) (!(fvS b)) (fvP b * fvQ a)) (fvQ a * fvQ b) = T at *
 generalize (plN (fvS a) (fvP a * fvQ b) (!(fvS b)) (fvP b * fvQ a)) = P at *
 generalize (fvQ a * fvQ b) = Q at *
 generalize (plS (fvS a) (fvP a * fvQ b) (!(fvS b)) (fvP b * fvQ a)) = sg at *
 generalize fvS a = sa at *
 generalize fvS b = sb at *
 generalize fvP a = pa at *
 generalize fvP b = pb at *
 generalize fvQ a = qa at *
 generalize fvQ b = qb at *
 generalize S64 (neg32 a) + w32 (a % 2147483648) = ya at *
 generalize S64 (neg32 b) + w32 (b % 2147483648) = yb at *
 subst hop
 go_enter Tryz.func13, Tryz.ntmps13
 go_upto_region 8 with (first | (go_at_call 61; (with_reducible refine (operations_calls _).mono ?_); rintro e W1 ⟨b1, rfl, ho, hb1⟩; have HO := Aside0.mk ho; have HB := Aside0.mk (HB0.out.trans (hb1.mono HB0.out.size)); have HC := Aside0.mk ((hb1.cell (p := ⟨w.heap.size, 0, none⟩) HL.out).trans HC0.out); have HP := Aside0.mk (Nat.lt_of_lt_of_le HL.out hb1.size); clear ho hb1) | (go_at_call 60; (with_reducible refine (HI.out _ _ HO.out HC.out HP.out).mono ?_); rintro e W2 ⟨rfl, hb2⟩; have HB2 := Aside0.mk (HB.out.trans (hb2.mono HB.out.size)); have hc2 := (hb2.cell (p := ⟨w.heap.size, 0, none⟩) HP.out).trans HC.out; clear hb2) | (go_at_call 63; (with_reducible refine (HFG.out _).mono ?_); rintro e W3 ⟨rfl, hwq⟩; rw [hwq]; clear hwq) | (go_at_call 63; (with_reducible refine (HFH.out _).mono ?_); rintro e W3 ⟨rfl, hwq⟩; rw [hwq]; clear hwq))
 clear HO HB HC HP HI HC0 HL HB0 hc2
 rename_i Q' K hK
 refine wp_region_held_drew (S := (fun _ => True)) (by kernel_rfl) ?_ (fun hHeld => ?_)
 ·trivial
 (obtain ⟨Z, hZ⟩ : ∃ Z, W2.drew = Z := ⟨_, rfl⟩; have HBZ : Aside0 (Below w.heap.size w Z) := (by subst hZ; exact ⟨HB2.out.drew⟩); rw [hZ]; clear hZ)
 refine tp 1 ?_
 try simp only [PU]
 refine tp 5 ?_
 try simp only [PU]
 refine tp 6 ?_
 try simp only [PU]
 refine tp 8 ?_
 try simp only [PU]
 refine tp 9 ?_
 try simp only [PU]
 refine tc 0 fun K hK => ?_
 go_simp
 (go_at_call 61; (with_reducible refine (operations_calls _).mono ?_); rintro e W4 ⟨b4, rfl, ho, hbq⟩; have HO := Aside0.mk ho; have HBC := Aside0.mk (HBZ.out.trans (hbq.mono HBZ.out.size)); clear ho; have q4 := HO.out.cell 3)
 refine hK.out _ _ ?_ fun hHeld => ?_
 ·trivial
 clear hK K; try simp only [PU]
 refine tp 2 ?_
 try simp only [PU]
 refine tp 3 ?_
 try simp only [PU]
 refine wpAnyH_ready (rs := [4, 7]) (by kernel_rfl) (by simp) ?_
 refine AllReadyH.cons rfl (fun K hK => ?_) (AllReadyH.cons rfl (fun K hK => ?_) (AllReadyH.nil))
 ·go_simp
  refine hK.out _ _ ?_ fun hHeld => ?_
  ·trivial
  clear hK K; try simp only [PU]
  refine tc 7 fun K hK => ?_
  go_simp
  (go_at_call 64; (with_reducible refine (HXA.out _).mono ?_); rintro e W5 ⟨A1, k1, c1, A2, k2, c2, rfl, hn, hbq⟩; have HNA := Aside0.mk hn; clear hn; have HO2 := Aside0.mk (HO.out.below hbq); clear HO; have HO := HO2; clear HO2; have HBC2 := Aside0.mk (HBC.out.trans (hbq.mono HBC.out.size)); clear HBC; have HBC := HBC2; clear HBC2; have q5 := HO.out.cell 3)
  refine hK.out _ _ ?_ fun hHeld => ?_
  ·trivial
  clear hK K; try simp only [PU]
  refine tc 10 fun K hK => ?_
  go_simp
  (go_at_call 64; (with_reducible refine (HXB.out _).mono ?_); rintro e W6 ⟨A3, k3, c3, A4, k4, c4, rfl, hn, hbq⟩; have HNB := Aside0.mk hn; clear hn; have HNA2 := Aside0.mk (HNA.out.below hbq); have HO2 := Aside0.mk (HO.out.below hbq); clear HO; have HO := HO2; clear HO2; have HBC2 := Aside0.mk (HBC.out.trans (hbq.mono HBC.out.size)); clear HBC; have HBC := HBC2; clear HBC2; have q6 := HO.out.cell 3)
  refine hK.out _ _ ?_ fun hHeld => ?_
  ·trivial
  clear hK K; try simp only [PU]
  refine tc 11 fun K hK => ?_
  go_simp
  (go_at_call 80; (with_reducible refine (HDO.out _ _ _ _ _ _ _ _ _ _ _ _ _ HNA2.out HNB.out).mono ?_); rintro e W7 ⟨A5, k5, c5, A6, k6, c6, rfl, hn, hbq⟩; have HNC := Aside0.mk hn; clear hn; have HO2 := Aside0.mk (HO.out.below hbq); clear HO; have HO := HO2; clear HO2; have HBC2 := Aside0.mk (HBC.out.trans (hbq.mono HBC.out.size)); clear HBC; have HBC := HBC2; clear HBC2)
  refine hK.out _ _ ?_ fun hHeld => ?_
  ·trivial
  clear hK K; try simp only [PU]
  refine tc 12 fun K hK => ?_
  go_simp
  (go_at_call 65; (with_reducible refine (HNR.out _ _ _ _ _ _ _ HNC.out).mono ?_); rintro e W8 ⟨rfl, hbq⟩; have HO2 := Aside0.mk (HO.out.below hbq); clear HO; have HO := HO2; clear HO2; have HBC2 := Aside0.mk (HBC.out.trans (hbq.mono HBC.out.size)); clear HBC; have HBC := HBC2; clear HBC2)
  refine hK.out _ _ ?_ fun hHeld => ?_
  ·trivial
  clear hK K; try simp only [PU]
  refine tp 13 ?_
  try simp only [PU]
  refine tp 14 ?_
  try simp only [PU]
  refine tp 15 ?_
  try simp only [PU]
  refine tp 16 ?_
  try simp only [PU]
  refine wpAnyH_done (by kernel_rfl) ?_ _
  refine hK _ _ ?_
  clear hK
  go_wp2
  go_ret2
  exact ⟨rfl, HBC.out⟩
 ·go_simp
  (go_at_call 64; (with_reducible refine (HXA.out _).mono ?_); rintro e W5 ⟨A1, k1, c1, A2, k2, c2, rfl, hn, hbq⟩; have HNA := Aside0.mk hn; clear hn; have HO2 := Aside0.mk (HO.out.below hbq); clear HO; have HO := HO2; clear HO2; have HBC2 := Aside0.mk (HBC.out.trans (hbq.mono HBC.out.size)); clear HBC; have HBC := HBC2; clear HBC2; have q5 := HO.out.cell 3)
  refine hK.out _ _ ?_ fun hHeld => ?_
  ·trivial
  clear hK K; try simp only [PU]
  refine wpAnyH_ready (rs := [4, 10]) (by kernel_rfl) (by simp) ?_
  refine AllReadyH.cons rfl (fun K hK => ?_) (AllReadyH.cons rfl (fun K hK => ?_) (AllReadyH.nil))
  ·go_simp
   refine hK.out _ _ ?_ fun hHeld => ?_
   ·trivial
   clear hK K; try simp only [PU]
   refine tc 10 fun K hK => ?_
   go_simp
   (go_at_call 64; (with_reducible refine (HXB.out _).mono ?_); rintro e W6 ⟨A3, k3, c3, A4, k4, c4, rfl, hn, hbq⟩; have HNB := Aside0.mk hn; clear hn; have HNA2 := Aside0.mk (HNA.out.below hbq); have HO2 := Aside0.mk (HO.out.below hbq); clear HO; have HO := HO2; clear HO2; have HBC2 := Aside0.mk (HBC.out.trans (hbq.mono HBC.out.size)); clear HBC; have HBC := HBC2; clear HBC2; have q6 := HO.out.cell 3)
   refine hK.out _ _ ?_ fun hHeld => ?_
   ·trivial
   clear hK K; try simp only [PU]
   refine tc 11 fun K hK => ?_
   go_simp
   (go_at_call 80; (with_reducible refine (HDO.out _ _ _ _ _ _ _ _ _ _ _ _ _ HNA2.out HNB.out).mono ?_); rintro e W7 ⟨A5, k5, c5, A6, k6, c6, rfl, hn, hbq⟩; have HNC := Aside0.mk hn; clear hn; have HO2 := Aside0.mk (HO.out.below hbq); clear HO; have HO := HO2; clear HO2; have HBC2 := Aside0.mk (HBC.out.trans (hbq.mono HBC.out.size)); clear HBC; have HBC := HBC2; clear HBC2)
   refine hK.out _ _ ?_ fun hHeld => ?_
   ·trivial
   clear hK K; try simp only [PU]
   refine tc 12 fun K hK => ?_
   go_simp
   (go_at_call 65; (with_reducible refine (HNR.out _ _ _ _ _ _ _ HNC.out).mono ?_); rintro e W8 ⟨rfl, hbq⟩; have HO2 := Aside0.mk (HO.out.below hbq); clear HO; have HO := HO2; clear HO2; have HBC2 := Aside0.mk (HBC.out.trans (hbq.mono HBC.out.size)); clear HBC; have HBC := HBC2; clear HBC2)
   refine hK.out _ _ ?_ fun hHeld => ?_
   ·trivial
   clear hK K; try simp only [PU]
   refine tp 13 ?_
   try simp only [PU]
   refine tp 14 ?_
   try simp only [PU]
   refine tp 15 ?_
   try simp only [PU]
   refine tp 16 ?_
   try simp only [PU]
   refine wpAnyH_done (by kernel_rfl) ?_ _
   refine hK _ _ ?_
   clear hK
   go_wp2
   go_ret2
   exact ⟨rfl, HBC.out⟩
  ·go_simp
   (go_at_call 64; (with_reducible refine (HXB.out _).mono ?_); rintro e W6 ⟨A3, k3, c3, A4, k4, c4, rfl, hn, hbq⟩; have HNB := Aside0.mk hn; clear hn; have HNA2 := Aside0.mk (HNA.out.below hbq); have HO2 := Aside0.mk (HO.out.below hbq); clear HO; have HO := HO2; clear HO2; have HBC2 := Aside0.mk (HBC.out.trans (hbq.mono HBC.out.size)); clear HBC; have HBC := HBC2; clear HBC2; have q6 := HO.out.cell 3)
   refine hK.out _ _ ?_ fun hHeld => ?_
   ·trivial
   clear hK K; try simp only [PU]
   refine tc 4 fun K hK => ?_
   go_simp
   refine hK.out _ _ ?_ fun hHeld => ?_
   ·trivial
   clear hK K; try simp only [PU]
   refine tc 11 fun K hK => ?_
   go_simp
   (go_at_call 80; (with_reducible refine (HDO.out _ _ _ _ _ _ _ _ _ _ _ _ _ HNA2.out HNB.out).mono ?_); rintro e W7 ⟨A5, k5, c5, A6, k6, c6, rfl, hn, hbq⟩; have HNC := Aside0.mk hn; clear hn; have HO2 := Aside0.mk (HO.out.below hbq); clear HO; have HO := HO2; clear HO2; have HBC2 := Aside0.mk (HBC.out.trans (hbq.mono HBC.out.size)); clear HBC; have HBC := HBC2; clear HBC2)
   refine hK.out _ _ ?_ fun hHeld => ?_
   ·trivial
   clear hK K; try simp only [PU]
   refine tc 12 fun K hK => ?_
   go_simp
   (go_at_call 65; (with_reducible refine (HNR.out _ _ _ _ _ _ _ HNC.out).mono ?_); rintro e W8 ⟨rfl, hbq⟩; have HO2 := Aside0.mk (HO.out.below hbq); clear HO; have HO := HO2; clear HO2; have HBC2 := Aside0.mk (HBC.out.trans (hbq.mono HBC.out.size)); clear HBC; have HBC := HBC2; clear HBC2)
   refine hK.out _ _ ?_ fun hHeld => ?_
   ·trivial
   clear hK K; try simp only [PU]
   refine tp 13 ?_
   try simp only [PU]
   refine tp 14 ?_
   try simp only [PU]
   refine tp 15 ?_
   try simp only [PU]
   refine tp 16 ?_
   try simp only [PU]
   refine wpAnyH_done (by kernel_rfl) ?_ _
   refine hK _ _ ?_
   clear hK
   go_wp2
   go_ret2
   exact ⟨rfl, HBC.out⟩
theorem apply_mul {a b : Nat} (ha : a < 4294967296) (hf : fin32 a = true) (hb : b < 4294967296) (hg : fin32 b = true) (w : World) :
 Calls Tryz.prog 13 #[.int .i64 18, .float .f32 a, .float .f32 b] w fun e w' => NrO w (!(fvS a == fvS b)) (fvP a * fvP b) (fvQ a * fvQ b) e w' := by
 obtain ⟨op, hop⟩ : ∃ op : Int, op = 18 := ⟨_, rfl⟩
 rw [← hop]
 have HB0 := Aside0.mk (below_alloc (Below.refl w.heap.size w) (.cells #[.int .i64 op] 3))
 have HL : Aside0 (w.heap.size < (w.alloc (.cells #[.int .i64 op] 3)).heap.size) := ⟨by simp⟩
 have HC0 : Aside0 ((w.alloc (.cells #[.int .i64 op] 3)).cell? ⟨w.heap.size, 0, none⟩ = some (.int .i64 op)) := ⟨by simp⟩
 have HI : Aside0 (∀ W b, OpsAt W b → W.cell? ⟨w.heap.size, 0, none⟩ = some (.int .i64 op) → w.heap.size < W.heap.size → Calls Tryz.prog 60 #[.slice (some ⟨b, 0, none⟩) 4 4, .func (.func 62) #[] #[.pointer (some ⟨w.heap.size, 0, none⟩)]] W fun e w' => e = .returned (.int .i64 (opI op)) ∧ Below W.heap.size W w') := ⟨fun W b h1 h2 h3 => index_calls h1 h2 h3⟩
 have hi : opI op = 2 := by rw [hop]; rfl
 rw [hi] at HI
 obtain ⟨hcg, HFG, HXA⟩ := good_conv ha hf
 obtain ⟨hch, HFH, HXB⟩ := good_conv hb hg
 skip
 obtain ⟨x1, x2, x3⟩ := fv_sz hf
 obtain ⟨z1, z2, z3⟩ := fv_sz hg
 have m1 : Sz 6000 (fvP a * fvQ b) := x1.mul z2
 have m2 : Sz 6000 (fvP b * fvQ a) := z1.mul x2
 have m3 : Sz 6000 (fvQ a * fvQ b) := x2.mul z2
 have m4 : Sz 6000 (fvP a * fvP b) := x1.mul z1
 have m5 : Sz 6000 (fvQ a * fvP b) := x2.mul z1
 have p1 : Sz 90000 (fvP a * fvP b) := m4.more (by omega)
 have p2 : Sz 90000 (fvQ a * fvQ b) := Sz.more m3 (by omega)
 have p3 : 0 < (fvQ a * fvQ b) := Nat.mul_pos x3 z3
 have HDO : Aside0 (∀ W A1 L1 c1 A2 L2 c2 A3 L3 c3 A4 L4 c4, N2 W A1 L1 c1 (fvP a) A2 L2 c2 (fvQ a) → N2 W A3 L3 c3 (fvP b) A4 L4 c4 (fvQ b) → Calls Tryz.prog 129 #[qV (fvS a) A1 L1 c1 A2 L2 c2, qV (fvS b) A3 L3 c3 A4 L4 c4] W fun e w' => QX W (!(fvS a == fvS b)) (fvP a * fvP b) (fvQ a * fvQ b) e w') :=
  ⟨fun W A1 L1 c1 A2 L2 c2 A3 L3 c3 A4 L4 c4 h1 h2 => qTimes_calls h1 h2 (x1.more (by omega)) (x2.more (by omega)) (z1.more (by omega)) (z2.more (by omega))⟩
 have HNR : Aside0 (∀ W A1 L1 c1 A2 L2 c2, N2 W A1 L1 c1 (fvP a * fvP b) A2 L2 c2 (fvQ a * fvQ b) → Calls Tryz.prog 65 #[qV (!(fvS a == fvS b)) A1 L1 c1 A2 L2 c2] W fun e w' => NrO W (!(fvS a == fvS b)) (fvP a * fvP b) (fvQ a * fvQ b) e w') := ⟨fun W A1 L1 c1 A2 L2 c2 hn => nearest_calls hn p1 p2 p3⟩
 clear ha hf hb hg hi m1 m2 m3 m4 m5 p1 p2 p3 x1 x2 x3 z1 z2 z3
 unfold QX NrO at *
 generalize nrW (!(fvS a == fvS b)) (fvP a * fvP b) (fvQ a * fvQ b) = R at *
 generalize nrE (!(fvS a == fvS b)) (fvP a * fvP b) (fvQ a * fvQ b) = T at *
 generalize (fvP a * fvP b) = P at *
 generalize (fvQ a * fvQ b) = Q at *
 generalize (!(fvS a == fvS b)) = sg at *
 generalize fvS a = sa at *
 generalize fvS b = sb at *
 generalize fvP a = pa at *
 generalize fvP b = pb at *
 generalize fvQ a = qa at *
 generalize fvQ b = qb at *
 generalize S64 (neg32 a) + w32 (a % 2147483648) = ya at *
 generalize S64 (neg32 b) + w32 (b % 2147483648) = yb at *
 subst hop
 go_enter Tryz.func13, Tryz.ntmps13
 go_upto_region 8 with (first | (go_at_call 61; (with_reducible refine (operations_calls _).mono ?_); rintro e W1 ⟨b1, rfl, ho, hb1⟩; have HO := Aside0.mk ho; have HB := Aside0.mk (HB0.out.trans (hb1.mono HB0.out.size)); have HC := Aside0.mk ((hb1.cell (p := ⟨w.heap.size, 0, none⟩) HL.out).trans HC0.out); have HP := Aside0.mk (Nat.lt_of_lt_of_le HL.out hb1.size); clear ho hb1) | (go_at_call 60; (with_reducible refine (HI.out _ _ HO.out HC.out HP.out).mono ?_); rintro e W2 ⟨rfl, hb2⟩; have HB2 := Aside0.mk (HB.out.trans (hb2.mono HB.out.size)); have hc2 := (hb2.cell (p := ⟨w.heap.size, 0, none⟩) HP.out).trans HC.out; clear hb2) | (go_at_call 63; (with_reducible refine (HFG.out _).mono ?_); rintro e W3 ⟨rfl, hwq⟩; rw [hwq]; clear hwq) | (go_at_call 63; (with_reducible refine (HFH.out _).mono ?_); rintro e W3 ⟨rfl, hwq⟩; rw [hwq]; clear hwq))
 clear HO HB HC HP HI HC0 HL HB0 hc2
 rename_i Q' K hK
 refine wp_region_held_drew (S := (fun _ => True)) (by kernel_rfl) ?_ (fun hHeld => ?_)
 ·trivial
 (obtain ⟨Z, hZ⟩ : ∃ Z, W2.drew = Z := ⟨_, rfl⟩; have HBZ : Aside0 (Below w.heap.size w Z) := (by subst hZ; exact ⟨HB2.out.drew⟩); rw [hZ]; clear hZ)
 refine tp 1 ?_
 try simp only [PU]
 refine tp 5 ?_
 try simp only [PU]
 refine tp 6 ?_
 try simp only [PU]
 refine tp 8 ?_
 try simp only [PU]
 refine tp 9 ?_
 try simp only [PU]
 refine tc 0 fun K hK => ?_
 go_simp
 (go_at_call 61; (with_reducible refine (operations_calls _).mono ?_); rintro e W4 ⟨b4, rfl, ho, hbq⟩; have HO := Aside0.mk ho; have HBC := Aside0.mk (HBZ.out.trans (hbq.mono HBZ.out.size)); clear ho; have q4 := HO.out.cell 5)
 refine hK.out _ _ ?_ fun hHeld => ?_
 ·trivial
 clear hK K; try simp only [PU]
 refine tp 2 ?_
 try simp only [PU]
 refine tp 3 ?_
 try simp only [PU]
 refine wpAnyH_ready (rs := [4, 7]) (by kernel_rfl) (by simp) ?_
 refine AllReadyH.cons rfl (fun K hK => ?_) (AllReadyH.cons rfl (fun K hK => ?_) (AllReadyH.nil))
 ·go_simp
  refine hK.out _ _ ?_ fun hHeld => ?_
  ·trivial
  clear hK K; try simp only [PU]
  refine tc 7 fun K hK => ?_
  go_simp
  (go_at_call 64; (with_reducible refine (HXA.out _).mono ?_); rintro e W5 ⟨A1, k1, c1, A2, k2, c2, rfl, hn, hbq⟩; have HNA := Aside0.mk hn; clear hn; have HO2 := Aside0.mk (HO.out.below hbq); clear HO; have HO := HO2; clear HO2; have HBC2 := Aside0.mk (HBC.out.trans (hbq.mono HBC.out.size)); clear HBC; have HBC := HBC2; clear HBC2; have q5 := HO.out.cell 5)
  refine hK.out _ _ ?_ fun hHeld => ?_
  ·trivial
  clear hK K; try simp only [PU]
  refine tc 10 fun K hK => ?_
  go_simp
  (go_at_call 64; (with_reducible refine (HXB.out _).mono ?_); rintro e W6 ⟨A3, k3, c3, A4, k4, c4, rfl, hn, hbq⟩; have HNB := Aside0.mk hn; clear hn; have HNA2 := Aside0.mk (HNA.out.below hbq); have HO2 := Aside0.mk (HO.out.below hbq); clear HO; have HO := HO2; clear HO2; have HBC2 := Aside0.mk (HBC.out.trans (hbq.mono HBC.out.size)); clear HBC; have HBC := HBC2; clear HBC2; have q6 := HO.out.cell 5)
  refine hK.out _ _ ?_ fun hHeld => ?_
  ·trivial
  clear hK K; try simp only [PU]
  refine tc 11 fun K hK => ?_
  go_simp
  (go_at_call 129; (with_reducible refine (HDO.out _ _ _ _ _ _ _ _ _ _ _ _ _ HNA2.out HNB.out).mono ?_); rintro e W7 ⟨A5, k5, c5, A6, k6, c6, rfl, hn, hbq⟩; have HNC := Aside0.mk hn; clear hn; have HO2 := Aside0.mk (HO.out.below hbq); clear HO; have HO := HO2; clear HO2; have HBC2 := Aside0.mk (HBC.out.trans (hbq.mono HBC.out.size)); clear HBC; have HBC := HBC2; clear HBC2)
  refine hK.out _ _ ?_ fun hHeld => ?_
  ·trivial
  clear hK K; try simp only [PU]
  refine tc 12 fun K hK => ?_
  go_simp
  (go_at_call 65; (with_reducible refine (HNR.out _ _ _ _ _ _ _ HNC.out).mono ?_); rintro e W8 ⟨rfl, hbq⟩; have HO2 := Aside0.mk (HO.out.below hbq); clear HO; have HO := HO2; clear HO2; have HBC2 := Aside0.mk (HBC.out.trans (hbq.mono HBC.out.size)); clear HBC; have HBC := HBC2; clear HBC2)
  refine hK.out _ _ ?_ fun hHeld => ?_
  ·trivial
  clear hK K; try simp only [PU]
  refine tp 13 ?_
  try simp only [PU]
  refine tp 14 ?_
  try simp only [PU]
  refine tp 15 ?_
  try simp only [PU]
  refine tp 16 ?_
  try simp only [PU]
  refine wpAnyH_done (by kernel_rfl) ?_ _
  refine hK _ _ ?_
  clear hK
  go_wp2
  go_ret2
  exact ⟨rfl, HBC.out⟩
 ·go_simp
  (go_at_call 64; (with_reducible refine (HXA.out _).mono ?_); rintro e W5 ⟨A1, k1, c1, A2, k2, c2, rfl, hn, hbq⟩; have HNA := Aside0.mk hn; clear hn; have HO2 := Aside0.mk (HO.out.below hbq); clear HO; have HO := HO2; clear HO2; have HBC2 := Aside0.mk (HBC.out.trans (hbq.mono HBC.out.size)); clear HBC; have HBC := HBC2; clear HBC2; have q5 := HO.out.cell 5)
  refine hK.out _ _ ?_ fun hHeld => ?_
  ·trivial
  clear hK K; try simp only [PU]
  refine wpAnyH_ready (rs := [4, 10]) (by kernel_rfl) (by simp) ?_
  refine AllReadyH.cons rfl (fun K hK => ?_) (AllReadyH.cons rfl (fun K hK => ?_) (AllReadyH.nil))
  ·go_simp
   refine hK.out _ _ ?_ fun hHeld => ?_
   ·trivial
   clear hK K; try simp only [PU]
   refine tc 10 fun K hK => ?_
   go_simp
   (go_at_call 64; (with_reducible refine (HXB.out _).mono ?_); rintro e W6 ⟨A3, k3, c3, A4, k4, c4, rfl, hn, hbq⟩; have HNB := Aside0.mk hn; clear hn; have HNA2 := Aside0.mk (HNA.out.below hbq); have HO2 := Aside0.mk (HO.out.below hbq); clear HO; have HO := HO2; clear HO2; have HBC2 := Aside0.mk (HBC.out.trans (hbq.mono HBC.out.size)); clear HBC; have HBC := HBC2; clear HBC2; have q6 := HO.out.cell 5)
   refine hK.out _ _ ?_ fun hHeld => ?_
   ·trivial
   clear hK K; try simp only [PU]
   refine tc 11 fun K hK => ?_
   go_simp
   (go_at_call 129; (with_reducible refine (HDO.out _ _ _ _ _ _ _ _ _ _ _ _ _ HNA2.out HNB.out).mono ?_); rintro e W7 ⟨A5, k5, c5, A6, k6, c6, rfl, hn, hbq⟩; have HNC := Aside0.mk hn; clear hn; have HO2 := Aside0.mk (HO.out.below hbq); clear HO; have HO := HO2; clear HO2; have HBC2 := Aside0.mk (HBC.out.trans (hbq.mono HBC.out.size)); clear HBC; have HBC := HBC2; clear HBC2)
   refine hK.out _ _ ?_ fun hHeld => ?_
   ·trivial
   clear hK K; try simp only [PU]
   refine tc 12 fun K hK => ?_
   go_simp
   (go_at_call 65; (with_reducible refine (HNR.out _ _ _ _ _ _ _ HNC.out).mono ?_); rintro e W8 ⟨rfl, hbq⟩; have HO2 := Aside0.mk (HO.out.below hbq); clear HO; have HO := HO2; clear HO2; have HBC2 := Aside0.mk (HBC.out.trans (hbq.mono HBC.out.size)); clear HBC; have HBC := HBC2; clear HBC2)
   refine hK.out _ _ ?_ fun hHeld => ?_
   ·trivial
   clear hK K; try simp only [PU]
   refine tp 13 ?_
   try simp only [PU]
   refine tp 14 ?_
   try simp only [PU]
   refine tp 15 ?_
   try simp only [PU]
   refine tp 16 ?_
   try simp only [PU]
   refine wpAnyH_done (by kernel_rfl) ?_ _
   refine hK _ _ ?_
   clear hK
   go_wp2
   go_ret2
   exact ⟨rfl, HBC.out⟩
  ·go_simp
   (go_at_call 64; (with_reducible refine (HXB.out _).mono ?_); rintro e W6 ⟨A3, k3, c3, A4, k4, c4, rfl, hn, hbq⟩; have HNB := Aside0.mk hn; clear hn; have HNA2 := Aside0.mk (HNA.out.below hbq); have HO2 := Aside0.mk (HO.out.below hbq); clear HO; have HO := HO2; clear HO2; have HBC2 := Aside0.mk (HBC.out.trans (hbq.mono HBC.out.size)); clear HBC; have HBC := HBC2; clear HBC2; have q6 := HO.out.cell 5)
   refine hK.out _ _ ?_ fun hHeld => ?_
   ·trivial
   clear hK K; try simp only [PU]
   refine tc 4 fun K hK => ?_
   go_simp
   refine hK.out _ _ ?_ fun hHeld => ?_
   ·trivial
   clear hK K; try simp only [PU]
   refine tc 11 fun K hK => ?_
   go_simp
   (go_at_call 129; (with_reducible refine (HDO.out _ _ _ _ _ _ _ _ _ _ _ _ _ HNA2.out HNB.out).mono ?_); rintro e W7 ⟨A5, k5, c5, A6, k6, c6, rfl, hn, hbq⟩; have HNC := Aside0.mk hn; clear hn; have HO2 := Aside0.mk (HO.out.below hbq); clear HO; have HO := HO2; clear HO2; have HBC2 := Aside0.mk (HBC.out.trans (hbq.mono HBC.out.size)); clear HBC; have HBC := HBC2; clear HBC2)
   refine hK.out _ _ ?_ fun hHeld => ?_
   ·trivial
   clear hK K; try simp only [PU]
   refine tc 12 fun K hK => ?_
   go_simp
   (go_at_call 65; (with_reducible refine (HNR.out _ _ _ _ _ _ _ HNC.out).mono ?_); rintro e W8 ⟨rfl, hbq⟩; have HO2 := Aside0.mk (HO.out.below hbq); clear HO; have HO := HO2; clear HO2; have HBC2 := Aside0.mk (HBC.out.trans (hbq.mono HBC.out.size)); clear HBC; have HBC := HBC2; clear HBC2)
   refine hK.out _ _ ?_ fun hHeld => ?_
   ·trivial
   clear hK K; try simp only [PU]
   refine tp 13 ?_
   try simp only [PU]
   refine tp 14 ?_
   try simp only [PU]
   refine tp 15 ?_
   try simp only [PU]
   refine tp 16 ?_
   try simp only [PU]
   refine wpAnyH_done (by kernel_rfl) ?_ _
   refine hK _ _ ?_
   clear hK
   go_wp2
   go_ret2
   exact ⟨rfl, HBC.out⟩
theorem apply_quo {a b : Nat} (ha : a < 4294967296) (hf : fin32 a = true) (hb : b < 4294967296) (hg : fin32 b = true)(hz : b % 2147483648 ≠ 0) (hzp : 0 < fvP b) (w : World) :
 Calls Tryz.prog 13 #[.int .i64 19, .float .f32 a, .float .f32 b] w fun e w' => NrO w (!(fvS a == fvS b)) (fvP a * fvQ b) (fvQ a * fvP b) e w' := by
 obtain ⟨op, hop⟩ : ∃ op : Int, op = 19 := ⟨_, rfl⟩
 rw [← hop]
 have HB0 := Aside0.mk (below_alloc (Below.refl w.heap.size w) (.cells #[.int .i64 op] 3))
 have HL : Aside0 (w.heap.size < (w.alloc (.cells #[.int .i64 op] 3)).heap.size) := ⟨by simp⟩
 have HC0 : Aside0 ((w.alloc (.cells #[.int .i64 op] 3)).cell? ⟨w.heap.size, 0, none⟩ = some (.int .i64 op)) := ⟨by simp⟩
 have HI : Aside0 (∀ W b, OpsAt W b → W.cell? ⟨w.heap.size, 0, none⟩ = some (.int .i64 op) → w.heap.size < W.heap.size → Calls Tryz.prog 60 #[.slice (some ⟨b, 0, none⟩) 4 4, .func (.func 62) #[] #[.pointer (some ⟨w.heap.size, 0, none⟩)]] W fun e w' => e = .returned (.int .i64 (opI op)) ∧ Below W.heap.size W w') := ⟨fun W b h1 h2 h3 => index_calls h1 h2 h3⟩
 have hi : opI op = 3 := by rw [hop]; rfl
 rw [hi] at HI
 obtain ⟨hcg, HFG, HXA⟩ := good_conv ha hf
 obtain ⟨hch, HFH, HXB⟩ := good_conv hb hg
 have ho := ordz32 hb hg; rw [decide_eq_false hz] at ho
 obtain ⟨x1, x2, x3⟩ := fv_sz hf
 obtain ⟨z1, z2, z3⟩ := fv_sz hg
 have m1 : Sz 6000 (fvP a * fvQ b) := x1.mul z2
 have m2 : Sz 6000 (fvP b * fvQ a) := z1.mul x2
 have m3 : Sz 6000 (fvQ a * fvQ b) := x2.mul z2
 have m4 : Sz 6000 (fvP a * fvP b) := x1.mul z1
 have m5 : Sz 6000 (fvQ a * fvP b) := x2.mul z1
 have p1 : Sz 90000 (fvP a * fvQ b) := m1.more (by omega)
 have p2 : Sz 90000 (fvQ a * fvP b) := Sz.more m5 (by omega)
 have p3 : 0 < (fvQ a * fvP b) := Nat.mul_pos x3 hzp
 have HDO : Aside0 (∀ W A1 L1 c1 A2 L2 c2 A3 L3 c3 A4 L4 c4, N2 W A1 L1 c1 (fvP a) A2 L2 c2 (fvQ a) → N2 W A3 L3 c3 (fvP b) A4 L4 c4 (fvQ b) → Calls Tryz.prog 117 #[qV (fvS a) A1 L1 c1 A2 L2 c2, qV (fvS b) A3 L3 c3 A4 L4 c4] W fun e w' => QX W (!(fvS a == fvS b)) (fvP a * fvQ b) (fvQ a * fvP b) e w') :=
  ⟨fun W A1 L1 c1 A2 L2 c2 A3 L3 c3 A4 L4 c4 h1 h2 => qOver_calls h1 h2 (x1.more (by omega)) (x2.more (by omega)) (z1.more (by omega)) (z2.more (by omega))⟩
 have HNR : Aside0 (∀ W A1 L1 c1 A2 L2 c2, N2 W A1 L1 c1 (fvP a * fvQ b) A2 L2 c2 (fvQ a * fvP b) → Calls Tryz.prog 65 #[qV (!(fvS a == fvS b)) A1 L1 c1 A2 L2 c2] W fun e w' => NrO W (!(fvS a == fvS b)) (fvP a * fvQ b) (fvQ a * fvP b) e w') := ⟨fun W A1 L1 c1 A2 L2 c2 hn => nearest_calls hn p1 p2 p3⟩
 clear ha hf hb hg hi m1 m2 m3 m4 m5 p1 p2 p3 x1 x2 x3 z1 z2 z3 hz hzp
 unfold QX NrO at *
 generalize nrW (!(fvS a == fvS b)) (fvP a * fvQ b) (fvQ a * fvP b) = R at *
 generalize nrE (!(fvS a == fvS b)) (fvP a * fvQ b) (fvQ a * fvP b) = T at *
 generalize (fvP a * fvQ b) = P at *
 generalize (fvQ a * fvP b) = Q at *
 generalize (!(fvS a == fvS b)) = sg at *
 generalize fvS a = sa at *
 generalize fvS b = sb at *
 generalize fvP a = pa at *
 generalize fvP b = pb at *
 generalize fvQ a = qa at *
 generalize fvQ b = qb at *
 generalize S64 (neg32 a) + w32 (a % 2147483648) = ya at *
 generalize S64 (neg32 b) + w32 (b % 2147483648) = yb at *
 subst hop
 go_enter Tryz.func13, Tryz.ntmps13
 go_upto_region 8 with (first | (go_at_call 61; (with_reducible refine (operations_calls _).mono ?_); rintro e W1 ⟨b1, rfl, ho, hb1⟩; have HO := Aside0.mk ho; have HB := Aside0.mk (HB0.out.trans (hb1.mono HB0.out.size)); have HC := Aside0.mk ((hb1.cell (p := ⟨w.heap.size, 0, none⟩) HL.out).trans HC0.out); have HP := Aside0.mk (Nat.lt_of_lt_of_le HL.out hb1.size); clear ho hb1) | (go_at_call 60; (with_reducible refine (HI.out _ _ HO.out HC.out HP.out).mono ?_); rintro e W2 ⟨rfl, hb2⟩; have HB2 := Aside0.mk (HB.out.trans (hb2.mono HB.out.size)); have hc2 := (hb2.cell (p := ⟨w.heap.size, 0, none⟩) HP.out).trans HC.out; clear hb2) | (go_at_call 63; (with_reducible refine (HFG.out _).mono ?_); rintro e W3 ⟨rfl, hwq⟩; rw [hwq]; clear hwq) | (go_at_call 63; (with_reducible refine (HFH.out _).mono ?_); rintro e W3 ⟨rfl, hwq⟩; rw [hwq]; clear hwq))
 clear HO HB HC HP HI HC0 HL HB0 hc2
 rename_i Q' K hK
 refine wp_region_held_drew (S := (fun _ => True)) (by kernel_rfl) ?_ (fun hHeld => ?_)
 ·trivial
 (obtain ⟨Z, hZ⟩ : ∃ Z, W2.drew = Z := ⟨_, rfl⟩; have HBZ : Aside0 (Below w.heap.size w Z) := (by subst hZ; exact ⟨HB2.out.drew⟩); rw [hZ]; clear hZ)
 refine tp 1 ?_
 try simp only [PU]
 refine tp 5 ?_
 try simp only [PU]
 refine tp 6 ?_
 try simp only [PU]
 refine tp 8 ?_
 try simp only [PU]
 refine tp 9 ?_
 try simp only [PU]
 refine tc 0 fun K hK => ?_
 go_simp
 (go_at_call 61; (with_reducible refine (operations_calls _).mono ?_); rintro e W4 ⟨b4, rfl, ho, hbq⟩; have HO := Aside0.mk ho; have HBC := Aside0.mk (HBZ.out.trans (hbq.mono HBZ.out.size)); clear ho; have q4 := HO.out.cell 7)
 refine hK.out _ _ ?_ fun hHeld => ?_
 ·trivial
 clear hK K; try simp only [PU]
 refine tp 2 ?_
 try simp only [PU]
 refine tp 3 ?_
 try simp only [PU]
 refine wpAnyH_ready (rs := [4, 7]) (by kernel_rfl) (by simp) ?_
 refine AllReadyH.cons rfl (fun K hK => ?_) (AllReadyH.cons rfl (fun K hK => ?_) (AllReadyH.nil))
 ·go_simp
  refine hK.out _ _ ?_ fun hHeld => ?_
  ·trivial
  clear hK K; try simp only [PU]
  refine tc 7 fun K hK => ?_
  go_simp
  (go_at_call 64; (with_reducible refine (HXA.out _).mono ?_); rintro e W5 ⟨A1, k1, c1, A2, k2, c2, rfl, hn, hbq⟩; have HNA := Aside0.mk hn; clear hn; have HO2 := Aside0.mk (HO.out.below hbq); clear HO; have HO := HO2; clear HO2; have HBC2 := Aside0.mk (HBC.out.trans (hbq.mono HBC.out.size)); clear HBC; have HBC := HBC2; clear HBC2; have q5 := HO.out.cell 7)
  refine hK.out _ _ ?_ fun hHeld => ?_
  ·trivial
  clear hK K; try simp only [PU]
  refine tc 10 fun K hK => ?_
  go_simp
  (go_at_call 64; (with_reducible refine (HXB.out _).mono ?_); rintro e W6 ⟨A3, k3, c3, A4, k4, c4, rfl, hn, hbq⟩; have HNB := Aside0.mk hn; clear hn; have HNA2 := Aside0.mk (HNA.out.below hbq); have HO2 := Aside0.mk (HO.out.below hbq); clear HO; have HO := HO2; clear HO2; have HBC2 := Aside0.mk (HBC.out.trans (hbq.mono HBC.out.size)); clear HBC; have HBC := HBC2; clear HBC2; have q6 := HO.out.cell 7)
  refine hK.out _ _ ?_ fun hHeld => ?_
  ·trivial
  clear hK K; try simp only [PU]
  refine tc 11 fun K hK => ?_
  go_simp
  (go_at_call 117; (with_reducible refine (HDO.out _ _ _ _ _ _ _ _ _ _ _ _ _ HNA2.out HNB.out).mono ?_); rintro e W7 ⟨A5, k5, c5, A6, k6, c6, rfl, hn, hbq⟩; have HNC := Aside0.mk hn; clear hn; have HO2 := Aside0.mk (HO.out.below hbq); clear HO; have HO := HO2; clear HO2; have HBC2 := Aside0.mk (HBC.out.trans (hbq.mono HBC.out.size)); clear HBC; have HBC := HBC2; clear HBC2)
  refine hK.out _ _ ?_ fun hHeld => ?_
  ·trivial
  clear hK K; try simp only [PU]
  refine tc 12 fun K hK => ?_
  go_simp
  (go_at_call 65; (with_reducible refine (HNR.out _ _ _ _ _ _ _ HNC.out).mono ?_); rintro e W8 ⟨rfl, hbq⟩; have HO2 := Aside0.mk (HO.out.below hbq); clear HO; have HO := HO2; clear HO2; have HBC2 := Aside0.mk (HBC.out.trans (hbq.mono HBC.out.size)); clear HBC; have HBC := HBC2; clear HBC2)
  refine hK.out _ _ ?_ fun hHeld => ?_
  ·trivial
  clear hK K; try simp only [PU]
  refine tp 13 ?_
  try simp only [PU]
  refine tp 14 ?_
  try simp only [PU]
  refine tp 15 ?_
  try simp only [PU]
  refine tp 16 ?_
  try simp only [PU]
  refine wpAnyH_done (by kernel_rfl) ?_ _
  refine hK _ _ ?_
  clear hK
  go_wp2
  go_ret2
  exact ⟨rfl, HBC.out⟩
 ·go_simp
  (go_at_call 64; (with_reducible refine (HXA.out _).mono ?_); rintro e W5 ⟨A1, k1, c1, A2, k2, c2, rfl, hn, hbq⟩; have HNA := Aside0.mk hn; clear hn; have HO2 := Aside0.mk (HO.out.below hbq); clear HO; have HO := HO2; clear HO2; have HBC2 := Aside0.mk (HBC.out.trans (hbq.mono HBC.out.size)); clear HBC; have HBC := HBC2; clear HBC2; have q5 := HO.out.cell 7)
  refine hK.out _ _ ?_ fun hHeld => ?_
  ·trivial
  clear hK K; try simp only [PU]
  refine wpAnyH_ready (rs := [4, 10]) (by kernel_rfl) (by simp) ?_
  refine AllReadyH.cons rfl (fun K hK => ?_) (AllReadyH.cons rfl (fun K hK => ?_) (AllReadyH.nil))
  ·go_simp
   refine hK.out _ _ ?_ fun hHeld => ?_
   ·trivial
   clear hK K; try simp only [PU]
   refine tc 10 fun K hK => ?_
   go_simp
   (go_at_call 64; (with_reducible refine (HXB.out _).mono ?_); rintro e W6 ⟨A3, k3, c3, A4, k4, c4, rfl, hn, hbq⟩; have HNB := Aside0.mk hn; clear hn; have HNA2 := Aside0.mk (HNA.out.below hbq); have HO2 := Aside0.mk (HO.out.below hbq); clear HO; have HO := HO2; clear HO2; have HBC2 := Aside0.mk (HBC.out.trans (hbq.mono HBC.out.size)); clear HBC; have HBC := HBC2; clear HBC2; have q6 := HO.out.cell 7)
   refine hK.out _ _ ?_ fun hHeld => ?_
   ·trivial
   clear hK K; try simp only [PU]
   refine tc 11 fun K hK => ?_
   go_simp
   (go_at_call 117; (with_reducible refine (HDO.out _ _ _ _ _ _ _ _ _ _ _ _ _ HNA2.out HNB.out).mono ?_); rintro e W7 ⟨A5, k5, c5, A6, k6, c6, rfl, hn, hbq⟩; have HNC := Aside0.mk hn; clear hn; have HO2 := Aside0.mk (HO.out.below hbq); clear HO; have HO := HO2; clear HO2; have HBC2 := Aside0.mk (HBC.out.trans (hbq.mono HBC.out.size)); clear HBC; have HBC := HBC2; clear HBC2)
   refine hK.out _ _ ?_ fun hHeld => ?_
   ·trivial
   clear hK K; try simp only [PU]
   refine tc 12 fun K hK => ?_
   go_simp
   (go_at_call 65; (with_reducible refine (HNR.out _ _ _ _ _ _ _ HNC.out).mono ?_); rintro e W8 ⟨rfl, hbq⟩; have HO2 := Aside0.mk (HO.out.below hbq); clear HO; have HO := HO2; clear HO2; have HBC2 := Aside0.mk (HBC.out.trans (hbq.mono HBC.out.size)); clear HBC; have HBC := HBC2; clear HBC2)
   refine hK.out _ _ ?_ fun hHeld => ?_
   ·trivial
   clear hK K; try simp only [PU]
   refine tp 13 ?_
   try simp only [PU]
   refine tp 14 ?_
   try simp only [PU]
   refine tp 15 ?_
   try simp only [PU]
   refine tp 16 ?_
   try simp only [PU]
   refine wpAnyH_done (by kernel_rfl) ?_ _
   refine hK _ _ ?_
   clear hK
   go_wp2
   go_ret2
   exact ⟨rfl, HBC.out⟩
  ·go_simp
   (go_at_call 64; (with_reducible refine (HXB.out _).mono ?_); rintro e W6 ⟨A3, k3, c3, A4, k4, c4, rfl, hn, hbq⟩; have HNB := Aside0.mk hn; clear hn; have HNA2 := Aside0.mk (HNA.out.below hbq); have HO2 := Aside0.mk (HO.out.below hbq); clear HO; have HO := HO2; clear HO2; have HBC2 := Aside0.mk (HBC.out.trans (hbq.mono HBC.out.size)); clear HBC; have HBC := HBC2; clear HBC2; have q6 := HO.out.cell 7)
   refine hK.out _ _ ?_ fun hHeld => ?_
   ·trivial
   clear hK K; try simp only [PU]
   refine tc 4 fun K hK => ?_
   go_simp
   refine hK.out _ _ ?_ fun hHeld => ?_
   ·trivial
   clear hK K; try simp only [PU]
   refine tc 11 fun K hK => ?_
   go_simp
   (go_at_call 117; (with_reducible refine (HDO.out _ _ _ _ _ _ _ _ _ _ _ _ _ HNA2.out HNB.out).mono ?_); rintro e W7 ⟨A5, k5, c5, A6, k6, c6, rfl, hn, hbq⟩; have HNC := Aside0.mk hn; clear hn; have HO2 := Aside0.mk (HO.out.below hbq); clear HO; have HO := HO2; clear HO2; have HBC2 := Aside0.mk (HBC.out.trans (hbq.mono HBC.out.size)); clear HBC; have HBC := HBC2; clear HBC2)
   refine hK.out _ _ ?_ fun hHeld => ?_
   ·trivial
   clear hK K; try simp only [PU]
   refine tc 12 fun K hK => ?_
   go_simp
   (go_at_call 65; (with_reducible refine (HNR.out _ _ _ _ _ _ _ HNC.out).mono ?_); rintro e W8 ⟨rfl, hbq⟩; have HO2 := Aside0.mk (HO.out.below hbq); clear HO; have HO := HO2; clear HO2; have HBC2 := Aside0.mk (HBC.out.trans (hbq.mono HBC.out.size)); clear HBC; have HBC := HBC2; clear HBC2)
   refine hK.out _ _ ?_ fun hHeld => ?_
   ·trivial
   clear hK K; try simp only [PU]
   refine tp 13 ?_
   try simp only [PU]
   refine tp 14 ?_
   try simp only [PU]
   refine tp 15 ?_
   try simp only [PU]
   refine tp 16 ?_
   try simp only [PU]
   refine wpAnyH_done (by kernel_rfl) ?_ _
   refine hK _ _ ?_
   clear hK
   go_wp2
   go_ret2
   exact ⟨rfl, HBC.out⟩
theorem gq_add {P1 Q1 P2 Q2 va vb qa qb : Int} (h1 : P1 * qa = va * Q1) (h2 : P2 * qb = vb * Q2) : (P1 * Q2 + P2 * Q1) * (qa * qb) = (va * qb + vb * qa) * (Q1 * Q2) := by grind
theorem gq_sub {P1 Q1 P2 Q2 va vb qa qb : Int} (h1 : P1 * qa = va * Q1) (h2 : P2 * qb = vb * Q2) : (P1 * Q2 - P2 * Q1) * (qa * qb) = (va * qb - vb * qa) * (Q1 * Q2) := by grind
theorem gq_mul {P1 Q1 P2 Q2 va vb qa qb : Int} (h1 : P1 * qa = va * Q1) (h2 : P2 * qb = vb * Q2) : (P1 * P2) * (qa * qb) = (va * vb) * (Q1 * Q2) := by grind
theorem gq_div {P1 Q1 P2 Q2 va vb qa qb pb σ : Int} (h1 : P1 * qa = va * Q1) (h2 : P2 * qb = vb * Q2) (h3 : vb = σ * pb) (h4 : σ * σ = 1) : (P1 * Q2) * (qa * pb) = (va * (σ * qb)) * (Q1 * P2) := by
 have e : Q2 * pb = σ * qb * P2 := by
  have : σ * (P2 * qb) = σ * σ * pb * Q2 := by rw [h2, h3]; grind
  rw [h4] at this
  grind
 grind
section
variable {a b : Nat}
theorem ap_add (hf : fin32 a = true) (hg : fin32 b = true) :
 reS ofAdd (fmS a) (fmS b) = rsS (sgI (plS (fvS a) (fvP a * fvQ b) (fvS b) (fvP b * fvQ a)) (plN (fvS a) (fvP a * fvQ b) (fvS b) (fvP b * fvQ a))) (fvQ a * fvQ b : Nat) ∧
 reR ofAdd (fmS a) (fmS b) = rsE (sgI (plS (fvS a) (fvP a * fvQ b) (fvS b) (fvP b * fvQ a)) (plN (fvS a) (fvP a * fvQ b) (fvS b) (fvP b * fvQ a))) (fvQ a * fvQ b : Nat) := by
 obtain ⟨P1, Q1, f1, r1⟩ := fm_frc hf
 obtain ⟨P2, Q2, f2, r2⟩ := fm_frc hg
 obtain ⟨e1, e2⟩ := f1.op f2 ofAdd
 have z1 := (fv_sz hf).2.2
 have z2 := (fv_sz hg).2.2
 have z3 := Nat.mul_pos z1 z2
 rw [e1, e2, pl_int, sgI_mul, sgI_mul]
 exact rs_same (pos_ne f1.pos f2.pos) (by omega) (by rw [Int.natCast_mul]; exact gq_add r1 r2)
theorem ap_sub (hf : fin32 a = true) (hg : fin32 b = true) :
 reS ofSub (fmS a) (fmS b) = rsS (sgI (plS (fvS a) (fvP a * fvQ b) (!(fvS b)) (fvP b * fvQ a)) (plN (fvS a) (fvP a * fvQ b) (!(fvS b)) (fvP b * fvQ a))) (fvQ a * fvQ b : Nat) ∧
 reR ofSub (fmS a) (fmS b) = rsE (sgI (plS (fvS a) (fvP a * fvQ b) (!(fvS b)) (fvP b * fvQ a)) (plN (fvS a) (fvP a * fvQ b) (!(fvS b)) (fvP b * fvQ a))) (fvQ a * fvQ b : Nat) := by
 obtain ⟨P1, Q1, f1, r1⟩ := fm_frc hf
 obtain ⟨P2, Q2, f2, r2⟩ := fm_frc hg
 obtain ⟨e1, e2⟩ := f1.op f2 ofSub
 have z1 := (fv_sz hf).2.2
 have z2 := (fv_sz hg).2.2
 have z3 := Nat.mul_pos z1 z2
 rw [e1, e2, pl_int, sgI_not, sgI_mul, sgI_mul, ← Int.sub_eq_add_neg]
 exact rs_same (pos_ne f1.pos f2.pos) (by omega) (by rw [Int.natCast_mul]; exact gq_sub r1 r2)
theorem ap_mul (hf : fin32 a = true) (hg : fin32 b = true) :
 reS ofMul (fmS a) (fmS b) = rsS (sgI (!(fvS a == fvS b)) (fvP a * fvP b)) (fvQ a * fvQ b : Nat) ∧ reR ofMul (fmS a) (fmS b) = rsE (sgI (!(fvS a == fvS b)) (fvP a * fvP b)) (fvQ a * fvQ b : Nat) := by
 obtain ⟨P1, Q1, f1, r1⟩ := fm_frc hf
 obtain ⟨P2, Q2, f2, r2⟩ := fm_frc hg
 obtain ⟨e1, e2⟩ := f1.op f2 ofMul
 have z1 := (fv_sz hf).2.2
 have z2 := (fv_sz hg).2.2
 have z3 := Nat.mul_pos z1 z2
 rw [e1, e2, ti_int]
 exact rs_same (pos_ne f1.pos f2.pos) (by omega) (by rw [Int.natCast_mul]; exact gq_mul r1 r2)
theorem ap_quo (hf : fin32 a = true) (hg : fin32 b = true) (hz : 0 < fvP b) :
 drS (fmS a) (fmS b) = rsS (sgI (!(fvS a == fvS b)) (fvP a * fvQ b)) (fvQ a * fvP b : Nat) ∧ drR (fmS a) (fmS b) = rsE (sgI (!(fvS a == fvS b)) (fvP a * fvQ b)) (fvQ a * fvP b : Nat) := by
 obtain ⟨P1, Q1, f1, r1⟩ := fm_frc hf
 obtain ⟨P2, Q2, f2, r2⟩ := fm_frc hg
 obtain ⟨c1, c2, c3⟩ := f1.check
 obtain ⟨d1, d2, d3⟩ := f2.check
 have z1 := (fv_sz hf).2.2
 have z2 := (fv_sz hg).2.2
 have z3 := Nat.mul_pos z1 hz
 have hP2 : P2 ≠ 0 := by
  rintro rfl
  rw [Int.zero_mul] at r2
  have h1 : sgI (fvS b) (fvP b) ≠ 0 := by unfold sgI; split <;> omega
  have := Int.mul_ne_zero h1 (show Q2 ≠ 0 by have := f2.pos; omega)
  omega
 have he : drE (fmS a) (fmS b) = 0 := by
  unfold drE
  rw [if_pos (re_zero c1 d1), d2, if_neg hP2]
 unfold drS drR
 rw [if_pos he, if_pos he, c2, c3, d2, d3, ti_int]
 refine rs_same (Int.mul_ne_zero (by have := f1.pos; omega) hP2) (by omega) ?_
 rw [Int.natCast_mul, sgI_one (fvS b) (fvQ b)]
 exact gq_div r1 r2 (sgI_one _ _) (by split <;> rfl)
end
/-- What follows when a result was rounded. -/
theorem cob_tail {s : Bool} {p q : Nat} (hq : 0 < q) (hn : nrE s p q = 0) (he : rsE (sgI s p) q = 0) : (rsS (sgI s p) q).size ≤ 300 ∧ toE (rsS (sgI s p) q) = 0 ∧ toW (rsS (sgI s p) q) = nrW s p q ∧ ∃ P Q, Frc (rsS (sgI s p) q) P Q := by
 obtain ⟨P, Q, hf, hr⟩ := rs_frc (y := sgI s p) (z := (q : Int)) (by omega) he
 have h : near s p q = some (nrW s p q) := by
  unfold nrE at hn
  unfold nrW
  cases h : near s p q with
  | none => rw [h] at hn; exact absurd hn (by decide)
  | some b => rfl
 obtain ⟨t1, t2⟩ := to_same hf hq hr h
 exact ⟨hf.size2, t1, t2, P, Q, hf⟩
end
end Go.Proofs.YtnjbinpbkjdjpaaGreatDoor.Nm
