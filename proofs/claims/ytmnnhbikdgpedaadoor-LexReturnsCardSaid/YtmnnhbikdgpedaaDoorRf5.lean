/- An own text of this seat: functions and contracts of the given reference. The most of it is as print.sh wrote it for this seat; the contracts of entailref03_named are proved by hand. -/
import Derived.Test.YtmnnhbikdgpedaaDoorRf0
import Derived.Test.YtmnnhbikdgpedaaDoorRf3
import Derived.Test.YtmnnhbikdgpedaaDoorRf4
namespace Go.Proofs.YtmnnhbikdgpedaaDoor.PLexTokens
open Go.RowKit Go.Proofs.YtmnnhbikdgpedaaDoorW.PrintWords Go.Proofs.YtmnnhbikdgpedaaDoorW.PrintLast Go.Proofs.YtmnnhbikdgpedaaDoorW.PrintMore
attribute [local go_sem] max2_int min2_int max_two min_two max_three min_three max_four min_four   -- for this text's walks alone
set_option linter.unusedVariables false
set_option linter.unusedSimpArgs false

/-! ### entailref02_IsName: function 42 -/
mutual
def entailref02_IsName.j0 : Nat → ByteArray → Bool → Option (Bool)
  | 0, _, _ => none
  | k + 1, x0, x20 => if x20 = true then (some false) else (entailref02_IsName.l0 k x0 0)
def entailref02_IsName.l0 : Nat → ByteArray → Int → Option (Bool)
  | 0, _, _ => none
  | k + 1, x0, x3 => if x3 < (x0.size : Int) then (if 0 ≤ x3 then ((entailref02_IsLetter.f (bt x0 x3)).bind fun t128 => (if t128 = true then (entailref02_IsName.l0 k x0 (wrap64 (x3 + 1))) else ((entailref02_IsDigit.f (bt x0 x3)).bind fun t129 => (if t129 = true then (entailref02_IsName.l0 k x0 (wrap64 (x3 + 1))) else (if (bt x0 x3) = 95 then (entailref02_IsName.l0 k x0 (wrap64 (x3 + 1))) else (some false)))))) else (none)) else (some true)
end
def entailref02_IsName.f (k : Nat) (a0 : ByteArray) : Option (Bool) := if a0.toList = ([] : List UInt8) then (entailref02_IsName.j0 k a0 true) else (if (a0.size : Int) > 24 then (entailref02_IsName.j0 k a0 true) else (if 0 < (a0.size : Int) then ((entailref02_IsLetter.f (bt a0 0)).bind fun t126 => (if t126 = true then ((entailref02_IsKeyword.f k a0).bind fun t127 => (entailref02_IsName.j0 k a0 t127)) else (entailref02_IsName.j0 k a0 true))) else (none)))
theorem entailref02_IsName.mono_l : ∀ k, (∀ y0 y1, LeO (entailref02_IsName.j0 k y0 y1) (entailref02_IsName.j0 (k + 1) y0 y1)) ∧ (∀ y0 y1, LeO (entailref02_IsName.l0 k y0 y1) (entailref02_IsName.l0 (k + 1) y0 y1))
  | 0 => ⟨fun _ _ r h => by simp [entailref02_IsName.j0] at h, fun _ _ r h => by simp [entailref02_IsName.l0] at h⟩
  | k + 1 => by
    obtain ⟨ih0, ih1⟩ := entailref02_IsName.mono_l k
    refine ⟨?_, ?_⟩
    · intro y0 y1
      unfold entailref02_IsName.j0
      repeat' first
      | (with_reducible exact ih0 _ _)
      | (with_reducible exact ih1 _ _)
      | (with_reducible exact entailref02_IsKeyword.mono _ _)
      | (with_reducible exact LeO.refl _)
      | (with_reducible exact LeO.none _)
      | (with_reducible refine LeO.ite ?_ ?_)
      | (with_reducible refine LeO.bind ?_ (fun _ => ?_))
      | exact ih0 _ _
      | exact ih1 _ _
      | exact entailref02_IsKeyword.mono _ _
      | exact LeO.none _
      | refine LeO.ite ?_ ?_
      | refine LeO.bind ?_ (fun _ => ?_)
    · intro y0 y1
      unfold entailref02_IsName.l0
      repeat' first
      | (with_reducible exact ih0 _ _)
      | (with_reducible exact ih1 _ _)
      | (with_reducible exact entailref02_IsKeyword.mono _ _)
      | (with_reducible exact LeO.refl _)
      | (with_reducible exact LeO.none _)
      | (with_reducible refine LeO.ite ?_ ?_)
      | (with_reducible refine LeO.bind ?_ (fun _ => ?_))
      | exact ih0 _ _
      | exact ih1 _ _
      | exact entailref02_IsKeyword.mono _ _
      | exact LeO.none _
      | refine LeO.ite ?_ ?_
      | refine LeO.bind ?_ (fun _ => ?_)
theorem entailref02_IsName.mono : ∀ a0 k, LeO (entailref02_IsName.f k a0) (entailref02_IsName.f (k + 1) a0) := by
  intro a0 k
  obtain ⟨ih0, ih1⟩ := entailref02_IsName.mono_l k
  unfold entailref02_IsName.f
  repeat' first
      | (with_reducible exact ih0 _ _)
      | (with_reducible exact ih1 _ _)
      | (with_reducible exact entailref02_IsKeyword.mono _ _)
      | (with_reducible exact LeO.refl _)
      | (with_reducible exact LeO.none _)
      | (with_reducible refine LeO.ite ?_ ?_)
      | (with_reducible refine LeO.bind ?_ (fun _ => ?_))
      | exact ih0 _ _
      | exact ih1 _ _
      | exact entailref02_IsKeyword.mono _ _
      | exact LeO.none _
      | refine LeO.ite ?_ ?_
      | refine LeO.bind ?_ (fun _ => ?_)
set_option maxHeartbeats 8000000 in
set_option maxRecDepth 100000 in
theorem entailref02_IsName.calls (k : Nat) (a0 : ByteArray) (r : Bool) (w : World) (h : entailref02_IsName.f k a0 = some r) :
    Calls Tryd.prog 42 #[.string a0] w fun e w' => e = .returned (.bool r) ∧ Below w.heap.size w w' := by
  have HB := Aside0.mk (Below.refl w.heap.size w)
  have H : (if a0.toList = ([] : List UInt8) then (entailref02_IsName.j0 k a0 true) else (if (a0.size : Int) > 24 then (entailref02_IsName.j0 k a0 true) else (if 0 < (a0.size : Int) then ((entailref02_IsLetter.f (bt a0 0)).bind fun t126 => (if t126 = true then ((entailref02_IsKeyword.f k a0).bind fun t127 => (entailref02_IsName.j0 k a0 t127)) else (entailref02_IsName.j0 k a0 true))) else (none)))) = some r := h
  clear h
  have HC2 := Aside0.mk H
  clear H
  go_enter Tryd.func42, Tryd.ntmps42
  go_upto_region 1 with (fail)
  go_cut [20] (fun v20 wc => ∃ (kq : Nat) (x20_1 : Bool), v20 = .bool x20_1 ∧ Aside0 (entailref02_IsName.j0 kq a0 x20_1 = some r) ∧ Aside0 (kq ≤ k) ∧ Aside0 (Below w.heap.size w wc))
  case first =>
    have H := HC2.out
    clear HC2
    by_cases c3 : a0.toList = ([] : List UInt8)
    · rw [if_pos c3] at H
      have c3b0 : (a0.toList == ([] : List UInt8)) = true := beq_iff_eq.mpr c3
      have c3b1 : (a0.toList != ([] : List UInt8)) = false := bne_eq_false_iff_eq.mpr c3
      clear c3
      (first | rw [c3b0] | (simp only [i64_w, i32_w]; rw [c3b0]) | skip)
      have H' := Aside0.mk H
      clear H
      go_wp2
      go_meet
      case rel => exact ⟨_, (true), (by first | rfl | (simp; done) | (simp [*]; done)), H', ⟨by first | omega | exact Nat.le_refl _⟩, ⟨by repeat (first | (with_reducible first | exact HB.out | apply below_alloc | apply pw_below_drewN | apply below_drew1) | exact HB.out)⟩⟩
    · rw [if_neg c3] at H
      have c3b0 : (a0.toList == ([] : List UInt8)) = false := beq_eq_false_iff_ne.mpr c3
      have c3b1 : (a0.toList != ([] : List UInt8)) = true := bne_iff_ne.mpr c3
      (first | rw [c3b0] | (simp only [i64_w, i32_w]; rw [c3b0]) | skip)
      by_cases c4 : (a0.size : Int) > 24
      · rw [if_pos c4] at H
        have c4b0 : decide (24 < (a0.size : Int)) = true := decide_eq_true c4
        have c4b1 : decide (24 < a0.size) = true := decide_eq_true (by omega)
        clear c4
        have H' := Aside0.mk H
        clear H
        go_wp2
        go_meet
        case rel => exact ⟨_, (true), (by first | rfl | (simp; done) | (simp [*]; done)), H', ⟨by first | omega | exact Nat.le_refl _⟩, ⟨by repeat (first | (with_reducible first | exact HB.out | apply below_alloc | apply pw_below_drewN | apply below_drew1) | exact HB.out)⟩⟩
      · rw [if_neg c4] at H
        have c4b0 : decide (24 < (a0.size : Int)) = false := decide_eq_false c4
        have c4b1 : decide (24 < a0.size) = false := decide_eq_false (by omega)
        clear c4
        by_cases c5 : 0 < (a0.size : Int)
        · rw [if_pos c5] at H
          have c5b0 : decide (0 < (a0.size : Int)) = true := decide_eq_true c5
          have c5b1 : decide (0 < a0.size) = true := decide_eq_true (by omega)
          clear c5
          replace H := Option.bind_eq_some_iff.mp H
          obtain ⟨t126, A70, H⟩ := H
          replace H : (if t126 = true then ((entailref02_IsKeyword.f k a0).bind fun t127 => (entailref02_IsName.j0 k a0 t127)) else (entailref02_IsName.j0 k a0 true)) = some r := H
          have A7 := Aside0.mk A70
          clear A70
          by_cases c8 : t126 = true
          · subst c8
            have H1 : ((entailref02_IsKeyword.f k a0).bind fun t127 => (entailref02_IsName.j0 k a0 t127)) = some r := by rw [if_pos rfl] at H; exact H
            clear H
            have H := H1
            clear H1
            replace H := Option.bind_eq_some_iff.mp H
            obtain ⟨t127, A90, H⟩ := H
            replace H : (entailref02_IsName.j0 k a0 t127) = some r := H
            have A9 := Aside0.mk A90
            clear A90
            have H' := Aside0.mk H
            clear H
            have p6 : 0 ≤ (0 : Int) := (by omega)
            have q6 : 0 < a0.size := (by have : (0 : Int) < (a0.size : Int) := of_decide_eq_true (by first | (with_reducible assumption) | assumption); omega)
            have hx6 : ∀ h : 0 < a0.size, ((a0[0]'h).toNat : Int) = bt a0 0 := bt_at a0 0
            clear p6
            have qi6 : (0 < (a0.size : Int)) = True := eq_true (of_decide_eq_true (by first | (with_reducible assumption) | assumption))
            replace q6 := eq_true q6
            go_wp2_with (first | (go_at_call 75; (with_reducible refine (entailref02_IsLetter.calls (bt a0 0) true _ A7.out).mono ?_); rintro e w' ⟨rfl, ⟨nd, rfl⟩⟩) | (go_at_call 76; (with_reducible refine (entailref02_IsKeyword.calls k a0 t127 _ A9.out).mono ?_); rintro e w10 ⟨rfl, hb⟩; have n0_ := Aside0.mk (below_step (by repeat (first | (with_reducible first | exact HB.out | apply below_alloc | apply pw_below_drewN | apply below_drew1) | exact HB.out)) hb); clear HB; have HB := n0_; clear n0_; (try clear hb); (try clear hb2); (try clear hk); (try clear hi)))
            go_meet
            case rel => exact ⟨_, (t127), (by first | rfl | (simp; done) | (simp [*]; done)), H', ⟨by first | omega | exact Nat.le_refl _⟩, ⟨by repeat (first | (with_reducible first | exact HB.out | apply below_alloc | apply pw_below_drewN | apply below_drew1) | exact HB.out)⟩⟩
          · replace c8 := Bool.eq_false_iff.mpr c8
            subst c8
            have H1 : (entailref02_IsName.j0 k a0 true) = some r := by rw [if_neg (show ¬ (false = true) by decide)] at H; exact H
            clear H
            have H := H1
            clear H1
            have H' := Aside0.mk H
            clear H
            have p6 : 0 ≤ (0 : Int) := (by omega)
            have q6 : 0 < a0.size := (by have : (0 : Int) < (a0.size : Int) := of_decide_eq_true (by first | (with_reducible assumption) | assumption); omega)
            have hx6 : ∀ h : 0 < a0.size, ((a0[0]'h).toNat : Int) = bt a0 0 := bt_at a0 0
            clear p6
            have qi6 : (0 < (a0.size : Int)) = True := eq_true (of_decide_eq_true (by first | (with_reducible assumption) | assumption))
            replace q6 := eq_true q6
            go_wp2_with (first | (go_at_call 75; (with_reducible refine (entailref02_IsLetter.calls (bt a0 0) false _ A7.out).mono ?_); rintro e w' ⟨rfl, ⟨nd, rfl⟩⟩))
            go_meet
            case rel => exact ⟨_, (true), (by first | rfl | (simp; done) | (simp [*]; done)), H', ⟨by first | omega | exact Nat.le_refl _⟩, ⟨by repeat (first | (with_reducible first | exact HB.out | apply below_alloc | apply pw_below_drewN | apply below_drew1) | exact HB.out)⟩⟩
        · rw [if_neg c5] at H
          exact absurd H (by simp)
  case rest =>
    clear HC2
    try clear p2
    try clear c3
    try clear c3b0
    try clear c3b1
    try clear c4
    try clear c4b0
    try clear c4b1
    try clear c5
    try clear c5b0
    try clear c5b1
    try clear p6
    try clear q6
    try clear hx6
    try clear qi6
    try clear c8
    try clear p6
    try clear q6
    obtain ⟨kq, x20_1, rfl, HA, HJ1, HB⟩ := hcut
    cases kq with
    | zero => exact absurd HA.out (by simp [entailref02_IsName.j0])
    | succ kj1 =>
      have H := HA.out
      clear HA
      simp only [entailref02_IsName.j0] at H
      by_cases c11 : x20_1 = true
      · subst c11
        have H1 : (some false) = some r := by rw [if_pos rfl] at H; exact H
        clear H
        have H := H1
        clear H1
        obtain rfl := Option.some.inj H
        go_wp2
        go_ret
        exact ⟨by first | rfl | (simp [errW_none, errW_some] <;> rfl) | (simp [*, errW_none, errW_some] <;> rfl), by repeat (first | (with_reducible first | exact HB.out | apply below_alloc | apply pw_below_drewN | apply below_drew1) | exact HB.out)⟩
      · replace c11 := Bool.eq_false_iff.mpr c11
        subst c11
        have H1 : (entailref02_IsName.l0 kj1 a0 0) = some r := by rw [if_neg (show ¬ (false = true) by decide)] at H; exact H
        clear H
        have H := H1
        clear H1
        have H' := Aside0.mk H
        clear H
        go_wp2
        go_loopg [3] kj1 (fun kq v3 w' => ∃ (x3_2 : Int), v3 = .int .i64 x3_2 ∧ Aside0 (entailref02_IsName.l0 kq a0 x3_2 = some r) ∧ Aside0 (kq ≤ kj1) ∧ Aside0 (Below w.heap.size w w'))
        case atStart => exact ⟨(0), (by first | rfl | (simp; done) | (simp [*]; done)), H', ⟨Nat.le_refl _⟩, ⟨by repeat (first | (with_reducible first | exact HB.out | apply below_alloc | apply pw_below_drewN | apply below_drew1) | exact HB.out)⟩⟩
        case round =>
          clear H'
          try clear c1
          try clear p2
          try clear c3
          try clear c3b0
          try clear c3b1
          try clear c4
          try clear c4b0
          try clear c4b1
          try clear c5
          try clear c5b0
          try clear c5b1
          try clear p6
          try clear q6
          try clear hx6
          try clear qi6
          try clear c8
          try clear c11
          try clear p2
          try clear p6
          try clear q6
          obtain ⟨x3_2, rfl, HA, HK2, HB⟩ := hrel
          cases gk with
          | zero => exact absurd HA.out (by simp [entailref02_IsName.l0])
          | succ k2 =>
            have H := HA.out
            clear HA
            simp only [entailref02_IsName.l0] at H
            by_cases c12 : x3_2 < (a0.size : Int)
            · rw [if_pos c12] at H
              have c12b0 : decide (x3_2 < (a0.size : Int)) = true := decide_eq_true c12
              clear c12
              by_cases c13 : 0 ≤ x3_2
              · rw [if_pos c13] at H
                have c13b0 : decide (0 ≤ x3_2) = true := decide_eq_true c13
                clear c13
                replace H := Option.bind_eq_some_iff.mp H
                obtain ⟨t128, A150, H⟩ := H
                replace H : (if t128 = true then (entailref02_IsName.l0 k2 a0 (wrap64 (x3_2 + 1))) else ((entailref02_IsDigit.f (bt a0 x3_2)).bind fun t129 => (if t129 = true then (entailref02_IsName.l0 k2 a0 (wrap64 (x3_2 + 1))) else (if (bt a0 x3_2) = 95 then (entailref02_IsName.l0 k2 a0 (wrap64 (x3_2 + 1))) else (some false))))) = some r := H
                have A15 := Aside0.mk A150
                clear A150
                by_cases c16 : t128 = true
                · subst c16
                  have H1 : (entailref02_IsName.l0 k2 a0 (wrap64 (x3_2 + 1))) = some r := by rw [if_pos rfl] at H; exact H
                  clear H
                  have H := H1
                  clear H1
                  have H' := Aside0.mk H
                  clear H
                  have p14 : 0 ≤ (x3_2 : Int) := of_decide_eq_true (by first | (with_reducible assumption) | assumption)
                  have q14 : x3_2 < (a0.size : Int) := of_decide_eq_true (by first | (with_reducible assumption) | assumption)
                  have hx14 := bt_at a0 x3_2
                  replace p14 := eq_true p14
                  replace q14 := eq_true q14
                  go_wp2_with (first | ((with_reducible refine gate_callee (f := 75) rfl ?_); refine goesL_ (some 30) rfl rfl Tryd.func75 (by kernel_rfl) rfl #[.int .u8 (bt a0 x3_2)] rfl (by (try simp only [List.map_toArray, List.map_cons, List.map_nil]); first | done | rfl | (simp only [List.length_drop, List.length_take]; rfl)) ?_; (with_reducible refine (entailref02_IsLetter.calls (bt a0 x3_2) true _ A15.out).mono ?_); rintro e w' ⟨rfl, ⟨nd, rfl⟩⟩; refine ⟨_, rfl, ?_⟩))
                  go_roundg k2
                  case measure => have := HJ1.out; have := HK2.out; omega
                  case rel => exact ⟨(wrap64 (x3_2 + 1)), (by first | rfl | (simp; done) | (simp [*]; done)), H', ⟨by have := HJ1.out; have := HK2.out; omega⟩, ⟨by repeat (first | (with_reducible first | exact HB.out | apply below_alloc | apply pw_below_drewN | apply below_drew1) | exact HB.out)⟩⟩
                · replace c16 := Bool.eq_false_iff.mpr c16
                  subst c16
                  have H1 : ((entailref02_IsDigit.f (bt a0 x3_2)).bind fun t129 => (if t129 = true then (entailref02_IsName.l0 k2 a0 (wrap64 (x3_2 + 1))) else (if (bt a0 x3_2) = 95 then (entailref02_IsName.l0 k2 a0 (wrap64 (x3_2 + 1))) else (some false)))) = some r := by rw [if_neg (show ¬ (false = true) by decide)] at H; exact H
                  clear H
                  have H := H1
                  clear H1
                  replace H := Option.bind_eq_some_iff.mp H
                  obtain ⟨t129, A180, H⟩ := H
                  replace H : (if t129 = true then (entailref02_IsName.l0 k2 a0 (wrap64 (x3_2 + 1))) else (if (bt a0 x3_2) = 95 then (entailref02_IsName.l0 k2 a0 (wrap64 (x3_2 + 1))) else (some false))) = some r := H
                  have A18 := Aside0.mk A180
                  clear A180
                  by_cases c19 : t129 = true
                  · subst c19
                    have H1 : (entailref02_IsName.l0 k2 a0 (wrap64 (x3_2 + 1))) = some r := by rw [if_pos rfl] at H; exact H
                    clear H
                    have H := H1
                    clear H1
                    have H' := Aside0.mk H
                    clear H
                    have p14 : 0 ≤ (x3_2 : Int) := of_decide_eq_true (by first | (with_reducible assumption) | assumption)
                    have q14 : x3_2 < (a0.size : Int) := of_decide_eq_true (by first | (with_reducible assumption) | assumption)
                    have hx14 := bt_at a0 x3_2
                    replace p14 := eq_true p14
                    replace q14 := eq_true q14
                    go_wp2_with (first | ((with_reducible refine gate_callee (f := 75) rfl ?_); refine goesL_ (some 30) rfl rfl Tryd.func75 (by kernel_rfl) rfl #[.int .u8 (bt a0 x3_2)] rfl (by (try simp only [List.map_toArray, List.map_cons, List.map_nil]); first | done | rfl | (simp only [List.length_drop, List.length_take]; rfl)) ?_; (with_reducible refine (entailref02_IsLetter.calls (bt a0 x3_2) false _ A15.out).mono ?_); rintro e w' ⟨rfl, ⟨nd, rfl⟩⟩; refine ⟨_, rfl, ?_⟩; have p17 : 0 ≤ (x3_2 : Int) := of_decide_eq_true (by first | (with_reducible assumption) | assumption); have q17 : x3_2 < (a0.size : Int) := of_decide_eq_true (by first | (with_reducible assumption) | assumption); have hx17 := bt_at a0 x3_2; replace p17 := eq_true p17; replace q17 := eq_true q17) | (go_at_call 62; (with_reducible refine (entailref02_IsDigit.calls (bt a0 x3_2) true _ A18.out).mono ?_); rintro e w' ⟨rfl, ⟨nd, rfl⟩⟩))
                    go_roundg k2
                    case measure => have := HJ1.out; have := HK2.out; omega
                    case rel => exact ⟨(wrap64 (x3_2 + 1)), (by first | rfl | (simp; done) | (simp [*]; done)), H', ⟨by have := HJ1.out; have := HK2.out; omega⟩, ⟨by repeat (first | (with_reducible first | exact HB.out | apply below_alloc | apply pw_below_drewN | apply below_drew1) | exact HB.out)⟩⟩
                  · replace c19 := Bool.eq_false_iff.mpr c19
                    subst c19
                    have H1 : (if (bt a0 x3_2) = 95 then (entailref02_IsName.l0 k2 a0 (wrap64 (x3_2 + 1))) else (some false)) = some r := by rw [if_neg (show ¬ (false = true) by decide)] at H; exact H
                    clear H
                    have H := H1
                    clear H1
                    by_cases c21 : (bt a0 x3_2) = 95
                    · rw [if_pos c21] at H
                      have c21b0 : ((bt a0 x3_2) == 95) = true := beq_iff_eq.mpr c21
                      have c21b1 : ((bt a0 x3_2) != 95) = false := bne_eq_false_iff_eq.mpr c21
                      clear c21
                      have H' := Aside0.mk H
                      clear H
                      have p14 : 0 ≤ (x3_2 : Int) := of_decide_eq_true (by first | (with_reducible assumption) | assumption)
                      have q14 : x3_2 < (a0.size : Int) := of_decide_eq_true (by first | (with_reducible assumption) | assumption)
                      have hx14 := bt_at a0 x3_2
                      replace p14 := eq_true p14
                      replace q14 := eq_true q14
                      go_wp2_with (first | ((with_reducible refine gate_callee (f := 75) rfl ?_); refine goesL_ (some 30) rfl rfl Tryd.func75 (by kernel_rfl) rfl #[.int .u8 (bt a0 x3_2)] rfl (by (try simp only [List.map_toArray, List.map_cons, List.map_nil]); first | done | rfl | (simp only [List.length_drop, List.length_take]; rfl)) ?_; (with_reducible refine (entailref02_IsLetter.calls (bt a0 x3_2) false _ A15.out).mono ?_); rintro e w' ⟨rfl, ⟨nd, rfl⟩⟩; refine ⟨_, rfl, ?_⟩; have p17 : 0 ≤ (x3_2 : Int) := of_decide_eq_true (by first | (with_reducible assumption) | assumption); have q17 : x3_2 < (a0.size : Int) := of_decide_eq_true (by first | (with_reducible assumption) | assumption); have hx17 := bt_at a0 x3_2; replace p17 := eq_true p17; replace q17 := eq_true q17) | (go_at_call 62; (with_reducible refine (entailref02_IsDigit.calls (bt a0 x3_2) false _ A18.out).mono ?_); rintro e w' ⟨rfl, ⟨nd, rfl⟩⟩; have p20 : 0 ≤ (x3_2 : Int) := of_decide_eq_true (by first | (with_reducible assumption) | assumption); have q20 : x3_2 < (a0.size : Int) := of_decide_eq_true (by first | (with_reducible assumption) | assumption); have hx20 := bt_at a0 x3_2; replace p20 := eq_true p20; replace q20 := eq_true q20))
                      go_roundg k2
                      case measure => have := HJ1.out; have := HK2.out; omega
                      case rel => exact ⟨(wrap64 (x3_2 + 1)), (by first | rfl | (simp; done) | (simp [*]; done)), H', ⟨by have := HJ1.out; have := HK2.out; omega⟩, ⟨by repeat (first | (with_reducible first | exact HB.out | apply below_alloc | apply pw_below_drewN | apply below_drew1) | exact HB.out)⟩⟩
                    · rw [if_neg c21] at H
                      have c21b0 : ((bt a0 x3_2) == 95) = false := beq_eq_false_iff_ne.mpr c21
                      have c21b1 : ((bt a0 x3_2) != 95) = true := bne_iff_ne.mpr c21
                      obtain rfl := Option.some.inj H
                      have p14 : 0 ≤ (x3_2 : Int) := of_decide_eq_true (by first | (with_reducible assumption) | assumption)
                      have q14 : x3_2 < (a0.size : Int) := of_decide_eq_true (by first | (with_reducible assumption) | assumption)
                      have hx14 := bt_at a0 x3_2
                      replace p14 := eq_true p14
                      replace q14 := eq_true q14
                      go_wp2_with (first | ((with_reducible refine gate_callee (f := 75) rfl ?_); refine goesL_ (some 30) rfl rfl Tryd.func75 (by kernel_rfl) rfl #[.int .u8 (bt a0 x3_2)] rfl (by (try simp only [List.map_toArray, List.map_cons, List.map_nil]); first | done | rfl | (simp only [List.length_drop, List.length_take]; rfl)) ?_; (with_reducible refine (entailref02_IsLetter.calls (bt a0 x3_2) false _ A15.out).mono ?_); rintro e w' ⟨rfl, ⟨nd, rfl⟩⟩; refine ⟨_, rfl, ?_⟩; have p17 : 0 ≤ (x3_2 : Int) := of_decide_eq_true (by first | (with_reducible assumption) | assumption); have q17 : x3_2 < (a0.size : Int) := of_decide_eq_true (by first | (with_reducible assumption) | assumption); have hx17 := bt_at a0 x3_2; replace p17 := eq_true p17; replace q17 := eq_true q17) | (go_at_call 62; (with_reducible refine (entailref02_IsDigit.calls (bt a0 x3_2) false _ A18.out).mono ?_); rintro e w' ⟨rfl, ⟨nd, rfl⟩⟩; have p20 : 0 ≤ (x3_2 : Int) := of_decide_eq_true (by first | (with_reducible assumption) | assumption); have q20 : x3_2 < (a0.size : Int) := of_decide_eq_true (by first | (with_reducible assumption) | assumption); have hx20 := bt_at a0 x3_2; replace p20 := eq_true p20; replace q20 := eq_true q20))
                      go_ret
                      exact ⟨by first | rfl | (simp [errW_none, errW_some] <;> rfl) | (simp [*, errW_none, errW_some] <;> rfl), by repeat (first | (with_reducible first | exact HB.out | apply below_alloc | apply pw_below_drewN | apply below_drew1) | exact HB.out)⟩
              · rw [if_neg c13] at H
                exact absurd H (by simp)
            · rw [if_neg c12] at H
              have c12b0 : decide (x3_2 < (a0.size : Int)) = false := decide_eq_false c12
              clear c12
              obtain rfl := Option.some.inj H
              go_wp2
              go_ret
              exact ⟨by first | rfl | (simp [errW_none, errW_some] <;> rfl) | (simp [*, errW_none, errW_some] <;> rfl), by repeat (first | (with_reducible first | exact HB.out | apply below_alloc | apply pw_below_drewN | apply below_drew1) | exact HB.out)⟩

/-! ### entailref02_IsUpper: function 78 -/
def entailref02_IsUpper.f (k : Nat) (a0 : ByteArray) : Option (Bool) := (entailref02_IsName.f k a0).bind fun t130 => (if t130 = true then (if 0 < (a0.size : Int) then (if (bt a0 0) ≥ 65 then (some (decide ((bt a0 0) ≤ 90))) else (some false)) else (none)) else (some false))
theorem entailref02_IsUpper.mono : ∀ a0 k, LeO (entailref02_IsUpper.f k a0) (entailref02_IsUpper.f (k + 1) a0) := by
  intro a0 k
  unfold entailref02_IsUpper.f
  repeat' first
      | (with_reducible exact entailref02_IsName.mono _ _)
      | (with_reducible exact LeO.refl _)
      | (with_reducible exact LeO.none _)
      | (with_reducible refine LeO.ite ?_ ?_)
      | (with_reducible refine LeO.bind ?_ (fun _ => ?_))
      | exact entailref02_IsName.mono _ _
      | exact LeO.none _
      | refine LeO.ite ?_ ?_
      | refine LeO.bind ?_ (fun _ => ?_)
set_option maxHeartbeats 8000000 in
set_option maxRecDepth 100000 in
theorem entailref02_IsUpper.calls (k : Nat) (a0 : ByteArray) (r : Bool) (w : World) (h : entailref02_IsUpper.f k a0 = some r) :
    Calls Tryd.prog 78 #[.string a0] w fun e w' => e = .returned (.bool r) ∧ Below w.heap.size w w' := by
  have HB := Aside0.mk (Below.refl w.heap.size w)
  have H : ((entailref02_IsName.f k a0).bind fun t130 => (if t130 = true then (if 0 < (a0.size : Int) then (if (bt a0 0) ≥ 65 then (some (decide ((bt a0 0) ≤ 90))) else (some false)) else (none)) else (some false))) = some r := h
  clear h
  replace H := Option.bind_eq_some_iff.mp H
  obtain ⟨t130, A20, H⟩ := H
  replace H : (if t130 = true then (if 0 < (a0.size : Int) then (if (bt a0 0) ≥ 65 then (some (decide ((bt a0 0) ≤ 90))) else (some false)) else (none)) else (some false)) = some r := H
  have A2 := Aside0.mk A20
  clear A20
  by_cases c3 : t130 = true
  · subst c3
    have H1 : (if 0 < (a0.size : Int) then (if (bt a0 0) ≥ 65 then (some (decide ((bt a0 0) ≤ 90))) else (some false)) else (none)) = some r := by rw [if_pos rfl] at H; exact H
    clear H
    have H := H1
    clear H1
    by_cases c4 : 0 < (a0.size : Int)
    · rw [if_pos c4] at H
      have c4b0 : decide (0 < (a0.size : Int)) = true := decide_eq_true c4
      have c4b1 : decide (0 < a0.size) = true := decide_eq_true (by omega)
      clear c4
      by_cases c6 : (bt a0 0) ≥ 65
      · rw [if_pos c6] at H
        have c6b0 : decide (65 ≤ (bt a0 0)) = true := decide_eq_true c6
        clear c6
        obtain rfl := Option.some.inj H
        go_enter Tryd.func78, Tryd.ntmps78
        go_wp2_with (first | ((with_reducible refine gate_callee (f := 42) rfl ?_); refine goesL_ (some 4) rfl rfl Tryd.func42 (by kernel_rfl) rfl #[.string a0] rfl (by (try simp only [List.map_toArray, List.map_cons, List.map_nil]); first | done | rfl | (simp only [List.length_drop, List.length_take]; rfl)) ?_; (with_reducible refine (entailref02_IsName.calls k a0 true _ A2.out).mono ?_); rintro e w8 ⟨rfl, hb⟩; refine ⟨_, rfl, ?_⟩; have n0_ := Aside0.mk (below_step (by repeat (first | (with_reducible first | exact HB.out | apply below_alloc | apply pw_below_drewN | apply below_drew1) | exact HB.out)) hb); clear HB; have HB := n0_; clear n0_; (try clear hb); (try clear hb2); (try clear hk); (try clear hi); have p5 : 0 ≤ (0 : Int) := (by omega); have q5 : 0 < a0.size := (by have : (0 : Int) < (a0.size : Int) := of_decide_eq_true (by first | (with_reducible assumption) | assumption); omega); have hx5 : ∀ h : 0 < a0.size, ((a0[0]'h).toNat : Int) = bt a0 0 := bt_at a0 0; clear p5; have qi5 : (0 < (a0.size : Int)) = True := eq_true (of_decide_eq_true (by first | (with_reducible assumption) | assumption)); replace q5 := eq_true q5; have p7 : 0 ≤ (0 : Int) := (by omega); have q7 : 0 < a0.size := (by have : (0 : Int) < (a0.size : Int) := of_decide_eq_true (by first | (with_reducible assumption) | assumption); omega); have hx7 : ∀ h : 0 < a0.size, ((a0[0]'h).toNat : Int) = bt a0 0 := bt_at a0 0; clear p7; have qi7 : (0 < (a0.size : Int)) = True := eq_true (of_decide_eq_true (by first | (with_reducible assumption) | assumption)); replace q7 := eq_true q7))
        go_ret
        exact ⟨by first | rfl | (simp [errW_none, errW_some] <;> rfl) | (simp [*, errW_none, errW_some] <;> rfl), by repeat (first | (with_reducible first | exact HB.out | apply below_alloc | apply pw_below_drewN | apply below_drew1) | exact HB.out)⟩
      · rw [if_neg c6] at H
        have c6b0 : decide (65 ≤ (bt a0 0)) = false := decide_eq_false c6
        clear c6
        obtain rfl := Option.some.inj H
        go_enter Tryd.func78, Tryd.ntmps78
        go_wp2_with (first | ((with_reducible refine gate_callee (f := 42) rfl ?_); refine goesL_ (some 4) rfl rfl Tryd.func42 (by kernel_rfl) rfl #[.string a0] rfl (by (try simp only [List.map_toArray, List.map_cons, List.map_nil]); first | done | rfl | (simp only [List.length_drop, List.length_take]; rfl)) ?_; (with_reducible refine (entailref02_IsName.calls k a0 true _ A2.out).mono ?_); rintro e w9 ⟨rfl, hb⟩; refine ⟨_, rfl, ?_⟩; have n0_ := Aside0.mk (below_step (by repeat (first | (with_reducible first | exact HB.out | apply below_alloc | apply pw_below_drewN | apply below_drew1) | exact HB.out)) hb); clear HB; have HB := n0_; clear n0_; (try clear hb); (try clear hb2); (try clear hk); (try clear hi); have p5 : 0 ≤ (0 : Int) := (by omega); have q5 : 0 < a0.size := (by have : (0 : Int) < (a0.size : Int) := of_decide_eq_true (by first | (with_reducible assumption) | assumption); omega); have hx5 : ∀ h : 0 < a0.size, ((a0[0]'h).toNat : Int) = bt a0 0 := bt_at a0 0; clear p5; have qi5 : (0 < (a0.size : Int)) = True := eq_true (of_decide_eq_true (by first | (with_reducible assumption) | assumption)); replace q5 := eq_true q5))
        go_ret
        exact ⟨by first | rfl | (simp [errW_none, errW_some] <;> rfl) | (simp [*, errW_none, errW_some] <;> rfl), by repeat (first | (with_reducible first | exact HB.out | apply below_alloc | apply pw_below_drewN | apply below_drew1) | exact HB.out)⟩
    · rw [if_neg c4] at H
      exact absurd H (by simp)
  · replace c3 := Bool.eq_false_iff.mpr c3
    subst c3
    have H1 : (some false) = some r := by rw [if_neg (show ¬ (false = true) by decide)] at H; exact H
    clear H
    have H := H1
    clear H1
    obtain rfl := Option.some.inj H
    go_enter Tryd.func78, Tryd.ntmps78
    go_wp2_with (first | ((with_reducible refine gate_callee (f := 42) rfl ?_); refine goesL_ (some 4) rfl rfl Tryd.func42 (by kernel_rfl) rfl #[.string a0] rfl (by (try simp only [List.map_toArray, List.map_cons, List.map_nil]); first | done | rfl | (simp only [List.length_drop, List.length_take]; rfl)) ?_; (with_reducible refine (entailref02_IsName.calls k a0 false _ A2.out).mono ?_); rintro e w10 ⟨rfl, hb⟩; refine ⟨_, rfl, ?_⟩; have n0_ := Aside0.mk (below_step (by repeat (first | (with_reducible first | exact HB.out | apply below_alloc | apply pw_below_drewN | apply below_drew1) | exact HB.out)) hb); clear HB; have HB := n0_; clear n0_; (try clear hb); (try clear hb2); (try clear hk); (try clear hi)))
    go_ret
    exact ⟨by first | rfl | (simp [errW_none, errW_some] <;> rfl) | (simp [*, errW_none, errW_some] <;> rfl), by repeat (first | (with_reducible first | exact HB.out | apply below_alloc | apply pw_below_drewN | apply below_drew1) | exact HB.out)⟩

/-! ### entailref03_named: function 61 -/
mutual
def entailref03_named.j0 : Nat → ByteArray → Int → Int → ByteArray → Bool → Option (Int × ByteArray × Int × Int)
  | 0, _, _, _, _, _ => none
  | k + 1, x0, x1, x6, x7, x35 => if x35 = true then (if 0 ≤ (wrap64 (x6 + 2)) then (if (wrap64 (x6 + 2)) ≤ (x0.size : Int) then ((entailref03_word.f k (x0.extract ((wrap64 (x6 + 2)) : Int).toNat x0.size)).bind fun t134 => (if (wrap64 (x6 + 2)) ≤ (wrap64 ((wrap64 (x6 + 2)) + t134)) then (if (wrap64 ((wrap64 (x6 + 2)) + t134)) ≤ (x0.size : Int) then (if t134 > 24 then (some (0, (⟨#[]⟩ : ByteArray), 0, 6)) else (if t134 > 0 then ((entailref02_IsKeyword.f k (x0.extract ((wrap64 (x6 + 2)) : Int).toNat ((wrap64 ((wrap64 (x6 + 2)) + t134)) : Int).toNat)).bind fun t135 => (entailref03_named.j1 k x0 x1 x6 x7 t134 (!t135))) else (entailref03_named.j1 k x0 x1 x6 x7 t134 false))) else (none)) else (none))) else (none)) else (none)) else ((entailref02_IsKeyword.f k x7).bind fun t137 => (if t137 = true then (some (1, x7, x1, 0)) else (some (0, x7, x1, 0))))
def entailref03_named.j1 : Nat → ByteArray → Int → Int → ByteArray → Int → Bool → Option (Int × ByteArray × Int × Int)
  | 0, _, _, _, _, _, _ => none
  | k + 1, x0, x1, x6, x7, x8, x58 => if x58 = true then (if 0 ≤ (wrap64 ((wrap64 (x6 + 2)) + x8)) then (if (wrap64 ((wrap64 (x6 + 2)) + x8)) ≤ (x0.size : Int) then (some (0, x0.extract 0 ((wrap64 ((wrap64 (x6 + 2)) + x8)) : Int).toNat, x1, 0)) else (none)) else (none)) else ((entailref02_IsKeyword.f k x7).bind fun t136 => (if t136 = true then (some (1, x7, x1, 0)) else (some (0, x7, x1, 0))))
end
def entailref03_named.f (k : Nat) (a0 : ByteArray) (a1 : Int) : Option (Int × ByteArray × Int × Int) := (entailref03_word.f k a0).bind fun t132 => (if 0 ≤ t132 then (if t132 ≤ (a0.size : Int) then (if ((a0.extract 0 (t132 : Int).toNat).size : Int) > 24 then (some (0, (⟨#[]⟩ : ByteArray), 0, 6)) else ((entailref02_IsUpper.f k (a0.extract 0 (t132 : Int).toNat)).bind fun t133 => (if t133 = true then (if (wrap64 (t132 + 2)) < (a0.size : Int) then (if t132 ≤ (wrap64 (t132 + 2)) then (if (wrap64 (t132 + 2)) ≤ (a0.size : Int) then (entailref03_named.j0 k a0 a1 t132 (a0.extract 0 (t132 : Int).toNat) ((a0.extract (t132 : Int).toNat ((wrap64 (t132 + 2)) : Int).toNat).toList == ([58, 58] : List UInt8))) else (none)) else (none)) else (entailref03_named.j0 k a0 a1 t132 (a0.extract 0 (t132 : Int).toNat) false)) else (entailref03_named.j0 k a0 a1 t132 (a0.extract 0 (t132 : Int).toNat) false)))) else (none)) else (none))
theorem entailref03_named.mono_l : ∀ k, (∀ y0 y1 y2 y3 y4, LeO (entailref03_named.j0 k y0 y1 y2 y3 y4) (entailref03_named.j0 (k + 1) y0 y1 y2 y3 y4)) ∧ (∀ y0 y1 y2 y3 y4 y5, LeO (entailref03_named.j1 k y0 y1 y2 y3 y4 y5) (entailref03_named.j1 (k + 1) y0 y1 y2 y3 y4 y5))
  | 0 => ⟨fun _ _ _ _ _ r h => by simp [entailref03_named.j0] at h, fun _ _ _ _ _ _ r h => by simp [entailref03_named.j1] at h⟩
  | k + 1 => by
    obtain ⟨ih0, ih1⟩ := entailref03_named.mono_l k
    refine ⟨?_, ?_⟩
    · intro y0 y1 y2 y3 y4
      unfold entailref03_named.j0
      repeat' first
      | (with_reducible exact ih0 _ _ _ _ _)
      | (with_reducible exact ih1 _ _ _ _ _ _)
      | (with_reducible exact entailref02_IsKeyword.mono _ _)
      | (with_reducible exact entailref02_IsUpper.mono _ _)
      | (with_reducible exact entailref03_word.mono _ _)
      | (with_reducible exact LeO.refl _)
      | (with_reducible exact LeO.none _)
      | (with_reducible refine LeO.ite ?_ ?_)
      | (with_reducible refine LeO.bind ?_ (fun _ => ?_))
      | exact ih0 _ _ _ _ _
      | exact ih1 _ _ _ _ _ _
      | exact entailref02_IsKeyword.mono _ _
      | exact entailref02_IsUpper.mono _ _
      | exact entailref03_word.mono _ _
      | exact LeO.none _
      | refine LeO.ite ?_ ?_
      | refine LeO.bind ?_ (fun _ => ?_)
    · intro y0 y1 y2 y3 y4 y5
      unfold entailref03_named.j1
      repeat' first
      | (with_reducible exact ih0 _ _ _ _ _)
      | (with_reducible exact ih1 _ _ _ _ _ _)
      | (with_reducible exact entailref02_IsKeyword.mono _ _)
      | (with_reducible exact entailref02_IsUpper.mono _ _)
      | (with_reducible exact entailref03_word.mono _ _)
      | (with_reducible exact LeO.refl _)
      | (with_reducible exact LeO.none _)
      | (with_reducible refine LeO.ite ?_ ?_)
      | (with_reducible refine LeO.bind ?_ (fun _ => ?_))
      | exact ih0 _ _ _ _ _
      | exact ih1 _ _ _ _ _ _
      | exact entailref02_IsKeyword.mono _ _
      | exact entailref02_IsUpper.mono _ _
      | exact entailref03_word.mono _ _
      | exact LeO.none _
      | refine LeO.ite ?_ ?_
      | refine LeO.bind ?_ (fun _ => ?_)
theorem entailref03_named.mono : ∀ a0 a1 k, LeO (entailref03_named.f k a0 a1) (entailref03_named.f (k + 1) a0 a1) := by
  intro a0 a1 k
  obtain ⟨ih0, ih1⟩ := entailref03_named.mono_l k
  unfold entailref03_named.f
  repeat' first
      | (with_reducible exact ih0 _ _ _ _ _)
      | (with_reducible exact ih1 _ _ _ _ _ _)
      | (with_reducible exact entailref02_IsKeyword.mono _ _)
      | (with_reducible exact entailref02_IsUpper.mono _ _)
      | (with_reducible exact entailref03_word.mono _ _)
      | (with_reducible exact LeO.refl _)
      | (with_reducible exact LeO.none _)
      | (with_reducible refine LeO.ite ?_ ?_)
      | (with_reducible refine LeO.bind ?_ (fun _ => ?_))
      | exact ih0 _ _ _ _ _
      | exact ih1 _ _ _ _ _ _
      | exact entailref02_IsKeyword.mono _ _
      | exact entailref02_IsUpper.mono _ _
      | exact entailref03_word.mono _ _
      | exact LeO.none _
      | refine LeO.ite ?_ ?_
      | refine LeO.bind ?_ (fun _ => ?_)
/-- What was there reads as before. -/
theorem Rh.bcell {W w1 : World} (hb : Below W.heap.size W w1) : (∀ b o, b < W.heap.size → w1.cell? ⟨b, o, none⟩ = W.cell? ⟨b, o, none⟩) ∧ (∀ b o, b < W.heap.size → w1.frozen? ⟨b, o, none⟩ = W.frozen? ⟨b, o, none⟩) :=
  ⟨fun b o h => hb.cell (p := ⟨b, o, none⟩) h, fun b o h => hb.frozen (p := ⟨b, o, none⟩) h⟩
open Rh (bcell)
/-- What the walk of named wants of its callees' answers. -/
structure NamedIn (a0 : ByteArray) (n : Nat) (u : Bool) (kw : Bool) : Prop where
  w : ∀ w, Calls Tryd.prog 60 #[.string a0] w fun e w' => e = .returned (.int .i64 (n : Int)) ∧ Drawn0 w w'
  u : ∀ w, Calls Tryd.prog 78 #[.string (a0.extract 0 n)] w fun e w' => e = .returned (.bool u) ∧ Below w.heap.size w w'
  k : ∀ w, Calls Tryd.prog 76 #[.string (a0.extract 0 n)] w fun e w' => e = .returned (.bool kw) ∧ Below w.heap.size w w'

set_option maxRecDepth 100000 in
theorem named_long (a0 : ByteArray) (a1 : Int) (n : Nat) (hn : n ≤ a0.size) (h24 : 24 < n) (w : World)
    (hw : ∀ w, Calls Tryd.prog 60 #[.string a0] w fun e w' => e = .returned (.int .i64 (n : Int)) ∧ Drawn0 w w') (r1 : Int) (r2 : ByteArray) (r3 r4 : Int) (e1 : r1 = 0) (e2 : r2 = ⟨#[]⟩) (e3 : r3 = 0) (e4 : r4 = 6) :
    Calls Tryd.prog 61 #[.string a0, .int .i64 a1] w fun e w' => e = .returned (.tuple #[.agg #[.int .i64 r1, .string r2, .int .i64 r3], .int .i64 r4]) ∧ Below w.heap.size w w' := by
  subst e1 e2 e3 e4
  have HB := Aside0.mk (Below.refl w.heap.size w)
  have HW := Aside0.mk hw
  have g1 : ((n : Int) ≤ (a0.size : Int)) = True := eq_true (by omega)
  have c1 : decide (24 < (n : Int)) = true := decide_eq_true (by omega)
  have c2 : decide (24 < n) = true := decide_eq_true h24
  have c3 : min n a0.size = n := by omega
  clear hw hn h24
  go_enter Tryd.func61, Tryd.ntmps61
  go_wp2_with (go_at_call 60; ((with_reducible refine (HW.out _).mono ?_); rintro e w' ⟨rfl, ⟨nd, rfl⟩⟩))
  refine bodyPost_ret (v := .tuple #[.agg #[.int .i64 0, .string ⟨#[]⟩, .int .i64 0], .int .i64 6]) (by simp [results, Tryd.results61, go_sem, *]; done) rfl ?_
  exact ⟨rfl, (by repeat (first | (with_reducible exact HB.out) | (with_reducible exact Below.refl _ _) | (with_reducible apply below_alloc) | (with_reducible apply pw_below_drewN) | (with_reducible apply below_drew1) | refine below_set ?_ (by omega)))⟩

set_option maxHeartbeats 2000000 in
set_option maxRecDepth 100000 in
theorem named_plain (a0 : ByteArray) (a1 : Int) (n : Nat) (u kw : Bool) (hn : n ≤ a0.size) (h24 : n ≤ 24) (hin : NamedIn a0 n u kw)
    (hg : u = false ∨ (u = true ∧ ¬ (n + 2 < a0.size)) ∨ (u = true ∧ n + 2 < a0.size ∧ ((a0.extract n (n + 2)).toList == [58, 58]) = false)) (w : World) (r1 : Int) (e1 : r1 = if kw = true then 1 else 0) :
    Calls Tryd.prog 61 #[.string a0, .int .i64 a1] w fun e w' => e = .returned (.tuple #[.agg #[.int .i64 r1, .string (a0.extract 0 n), .int .i64 a1], .int .i64 0]) ∧ Below w.heap.size w w' := by
  have HB := Aside0.mk (Below.refl w.heap.size w)
  have HW := Aside0.mk hin.w
  have HU := Aside0.mk hin.u
  have HK := Aside0.mk hin.k
  have g1 : ((n : Int) ≤ (a0.size : Int)) = True := eq_true (by omega)
  have c1 : decide (24 < (n : Int)) = false := decide_eq_false (by omega)
  have c2 : decide (24 < n) = false := decide_eq_false (by omega)
  have c3 : min n a0.size = n := by omega
  have b1 : (n : Int) ≤ 24 := by omega
  have b0 : 0 ≤ (n : Int) := by omega
  have hsz : (n : Int) + 2 < (a0.size : Int) ∨ ¬ (n : Int) + 2 < (a0.size : Int) := by omega
  clear hin hn
  rcases hg with rfl | ⟨rfl, h1⟩ | ⟨rfl, h1, h2⟩
  · clear hsz
    cases kw
    all_goals
      (first | rw [if_pos rfl] at e1 | rw [if_neg (by decide)] at e1)
      subst e1
      go_enter Tryd.func61, Tryd.ntmps61
      go_wp2_with (first | (go_at_call 60; ((with_reducible refine (HW.out _).mono ?_); rintro e w' ⟨rfl, ⟨nd, rfl⟩⟩)) | (go_at_call 78; ((with_reducible refine (HU.out _).mono ?_); rintro e w1 ⟨rfl, hb1⟩; obtain ⟨hc1, hf1⟩ := bcell hb1; have z1_0 : (w.heap.size) < w1.heap.size := Nat.lt_of_lt_of_le (by first | (with_reducible assumption) | omega | (simp only [World.size_alloc, World.size_setCell, World.size_drew, World.size_drewN]; omega) | (simp; omega) | (simp; done)) hb1.size; have nB1 : Aside0 (Below w.heap.size w w1) := ⟨below_step (by repeat (first | (with_reducible exact HB.out) | (with_reducible exact Below.refl _ _) | (with_reducible apply below_alloc) | (with_reducible apply pw_below_drewN) | (with_reducible apply below_drew1) | refine below_set ?_ (by omega))) hb1⟩; clear HB; have HB := nB1; clear nB1)) | (go_at_call 76; ((with_reducible refine (HK.out _).mono ?_); rintro e w2 ⟨rfl, hb2⟩; obtain ⟨hc2, hf2⟩ := bcell hb2; have z2_0 : (w.heap.size) < w2.heap.size := Nat.lt_of_lt_of_le (by first | (with_reducible assumption) | omega | (simp only [World.size_alloc, World.size_setCell, World.size_drew, World.size_drewN]; omega) | (simp; omega) | (simp; done)) hb2.size; have nB2 : Aside0 (Below w.heap.size w w2) := ⟨below_step (by repeat (first | (with_reducible exact HB.out) | (with_reducible exact Below.refl _ _) | (with_reducible apply below_alloc) | (with_reducible apply pw_below_drewN) | (with_reducible apply below_drew1) | refine below_set ?_ (by omega))) hb2⟩; clear HB; have HB := nB2; clear nB2; have t2_0 : w2.cell? ⟨w.heap.size, 0, none⟩ = some (.int .i64 0) := (hc2 w.heap.size 0 (by first | simpa using z3_0 | simpa using z1_0)).trans (by simp [go_sem, *]); have s2_0 : w2.frozen? ⟨w.heap.size, 0, none⟩ = false := (hf2 w.heap.size 0 (by first | simpa using z3_0 | simpa using z1_0)).trans (by simp [go_sem, *]); have t2_1 : w2.cell? ⟨w.heap.size, 1, none⟩ = some (.string ⟨#[]⟩) := (hc2 w.heap.size 1 (by first | simpa using z3_0 | simpa using z1_0)).trans (by simp [go_sem, *]); have s2_1 : w2.frozen? ⟨w.heap.size, 1, none⟩ = false := (hf2 w.heap.size 1 (by first | simpa using z3_0 | simpa using z1_0)).trans (by simp [go_sem, *]); have t2_2 : w2.cell? ⟨w.heap.size, 2, none⟩ = some (.int .i64 0) := (hc2 w.heap.size 2 (by first | simpa using z3_0 | simpa using z1_0)).trans (by simp [go_sem, *]); have s2_2 : w2.frozen? ⟨w.heap.size, 2, none⟩ = false := (hf2 w.heap.size 2 (by first | simpa using z3_0 | simpa using z1_0)).trans (by simp [go_sem, *]); clear hc2 hf2)))
      first
      | (refine bodyPost_ret (v := .tuple #[.agg #[.int .i64 0, .string (a0.extract 0 n), .int .i64 a1], .int .i64 0]) (by simp [results, Tryd.results61, go_sem, *]; done) rfl ?_; exact ⟨rfl, (by repeat (first | (with_reducible exact HB.out) | (with_reducible exact Below.refl _ _) | (with_reducible apply below_alloc) | (with_reducible apply pw_below_drewN) | (with_reducible apply below_drew1) | refine below_set ?_ (by omega)))⟩)
      | (refine bodyPost_ret (v := .tuple #[.agg #[.int .i64 1, .string (a0.extract 0 n), .int .i64 a1], .int .i64 0]) (by simp [results, Tryd.results61, go_sem, *]; done) rfl ?_; exact ⟨rfl, (by repeat (first | (with_reducible exact HB.out) | (with_reducible exact Below.refl _ _) | (with_reducible apply below_alloc) | (with_reducible apply pw_below_drewN) | (with_reducible apply below_drew1) | refine below_set ?_ (by omega)))⟩)
  · have d1 : decide ((n : Int) + 2 < (a0.size : Int)) = false := decide_eq_false (by omega)
    have d2 : decide (n + 2 < a0.size) = false := decide_eq_false (by omega)
    clear hsz h1
    cases kw
    all_goals
      (first | rw [if_pos rfl] at e1 | rw [if_neg (by decide)] at e1)
      subst e1
      go_enter Tryd.func61, Tryd.ntmps61
      go_wp2_with (first | (go_at_call 60; ((with_reducible refine (HW.out _).mono ?_); rintro e w' ⟨rfl, ⟨nd, rfl⟩⟩)) | (go_at_call 78; ((with_reducible refine (HU.out _).mono ?_); rintro e w1 ⟨rfl, hb1⟩; obtain ⟨hc1, hf1⟩ := bcell hb1; have z1_0 : (w.heap.size) < w1.heap.size := Nat.lt_of_lt_of_le (by first | (with_reducible assumption) | omega | (simp only [World.size_alloc, World.size_setCell, World.size_drew, World.size_drewN]; omega) | (simp; omega) | (simp; done)) hb1.size; have nB1 : Aside0 (Below w.heap.size w w1) := ⟨below_step (by repeat (first | (with_reducible exact HB.out) | (with_reducible exact Below.refl _ _) | (with_reducible apply below_alloc) | (with_reducible apply pw_below_drewN) | (with_reducible apply below_drew1) | refine below_set ?_ (by omega))) hb1⟩; clear HB; have HB := nB1; clear nB1)) | (go_at_call 76; ((with_reducible refine (HK.out _).mono ?_); rintro e w2 ⟨rfl, hb2⟩; obtain ⟨hc2, hf2⟩ := bcell hb2; have z2_0 : (w.heap.size) < w2.heap.size := Nat.lt_of_lt_of_le (by first | (with_reducible assumption) | omega | (simp only [World.size_alloc, World.size_setCell, World.size_drew, World.size_drewN]; omega) | (simp; omega) | (simp; done)) hb2.size; have nB2 : Aside0 (Below w.heap.size w w2) := ⟨below_step (by repeat (first | (with_reducible exact HB.out) | (with_reducible exact Below.refl _ _) | (with_reducible apply below_alloc) | (with_reducible apply pw_below_drewN) | (with_reducible apply below_drew1) | refine below_set ?_ (by omega))) hb2⟩; clear HB; have HB := nB2; clear nB2; have t2_0 : w2.cell? ⟨w.heap.size, 0, none⟩ = some (.int .i64 0) := (hc2 w.heap.size 0 (by first | simpa using z3_0 | simpa using z1_0)).trans (by simp [go_sem, *]); have s2_0 : w2.frozen? ⟨w.heap.size, 0, none⟩ = false := (hf2 w.heap.size 0 (by first | simpa using z3_0 | simpa using z1_0)).trans (by simp [go_sem, *]); have t2_1 : w2.cell? ⟨w.heap.size, 1, none⟩ = some (.string ⟨#[]⟩) := (hc2 w.heap.size 1 (by first | simpa using z3_0 | simpa using z1_0)).trans (by simp [go_sem, *]); have s2_1 : w2.frozen? ⟨w.heap.size, 1, none⟩ = false := (hf2 w.heap.size 1 (by first | simpa using z3_0 | simpa using z1_0)).trans (by simp [go_sem, *]); have t2_2 : w2.cell? ⟨w.heap.size, 2, none⟩ = some (.int .i64 0) := (hc2 w.heap.size 2 (by first | simpa using z3_0 | simpa using z1_0)).trans (by simp [go_sem, *]); have s2_2 : w2.frozen? ⟨w.heap.size, 2, none⟩ = false := (hf2 w.heap.size 2 (by first | simpa using z3_0 | simpa using z1_0)).trans (by simp [go_sem, *]); clear hc2 hf2)))
      first
      | (refine bodyPost_ret (v := .tuple #[.agg #[.int .i64 0, .string (a0.extract 0 n), .int .i64 a1], .int .i64 0]) (by simp [results, Tryd.results61, go_sem, *]; done) rfl ?_; exact ⟨rfl, (by repeat (first | (with_reducible exact HB.out) | (with_reducible exact Below.refl _ _) | (with_reducible apply below_alloc) | (with_reducible apply pw_below_drewN) | (with_reducible apply below_drew1) | refine below_set ?_ (by omega)))⟩)
      | (refine bodyPost_ret (v := .tuple #[.agg #[.int .i64 1, .string (a0.extract 0 n), .int .i64 a1], .int .i64 0]) (by simp [results, Tryd.results61, go_sem, *]; done) rfl ?_; exact ⟨rfl, (by repeat (first | (with_reducible exact HB.out) | (with_reducible exact Below.refl _ _) | (with_reducible apply below_alloc) | (with_reducible apply pw_below_drewN) | (with_reducible apply below_drew1) | refine below_set ?_ (by omega)))⟩)
  · have d1 : decide ((n : Int) + 2 < (a0.size : Int)) = true := decide_eq_true (by omega)
    have d2 : decide (n + 2 < a0.size) = true := decide_eq_true (by omega)
    have g2 : ((n : Int) + 2 ≤ (a0.size : Int)) = True := eq_true (by omega)
    have g3 : ((n : Int) ≤ (n : Int) + 2) = True := eq_true (by omega)
    have g4 : ((n : Int) + 2).toNat = n + 2 := by omega
    have g5 : (0 ≤ (n : Int) + 2) = True := eq_true (by omega)
    have g6 : (0 ≤ (n : Int)) = True := eq_true (by omega)
    clear hsz h1
    cases kw
    all_goals
      (first | rw [if_pos rfl] at e1 | rw [if_neg (by decide)] at e1)
      subst e1
      go_enter Tryd.func61, Tryd.ntmps61
      go_wp2_with (first | (go_at_call 60; ((with_reducible refine (HW.out _).mono ?_); rintro e w' ⟨rfl, ⟨nd, rfl⟩⟩)) | (go_at_call 78; ((with_reducible refine (HU.out _).mono ?_); rintro e w1 ⟨rfl, hb1⟩; obtain ⟨hc1, hf1⟩ := bcell hb1; have z1_0 : (w.heap.size) < w1.heap.size := Nat.lt_of_lt_of_le (by first | (with_reducible assumption) | omega | (simp only [World.size_alloc, World.size_setCell, World.size_drew, World.size_drewN]; omega) | (simp; omega) | (simp; done)) hb1.size; have nB1 : Aside0 (Below w.heap.size w w1) := ⟨below_step (by repeat (first | (with_reducible exact HB.out) | (with_reducible exact Below.refl _ _) | (with_reducible apply below_alloc) | (with_reducible apply pw_below_drewN) | (with_reducible apply below_drew1) | refine below_set ?_ (by omega))) hb1⟩; clear HB; have HB := nB1; clear nB1)) | (go_at_call 76; ((with_reducible refine (HK.out _).mono ?_); rintro e w2 ⟨rfl, hb2⟩; obtain ⟨hc2, hf2⟩ := bcell hb2; have z2_0 : (w.heap.size) < w2.heap.size := Nat.lt_of_lt_of_le (by first | (with_reducible assumption) | omega | (simp only [World.size_alloc, World.size_setCell, World.size_drew, World.size_drewN]; omega) | (simp; omega) | (simp; done)) hb2.size; have nB2 : Aside0 (Below w.heap.size w w2) := ⟨below_step (by repeat (first | (with_reducible exact HB.out) | (with_reducible exact Below.refl _ _) | (with_reducible apply below_alloc) | (with_reducible apply pw_below_drewN) | (with_reducible apply below_drew1) | refine below_set ?_ (by omega))) hb2⟩; clear HB; have HB := nB2; clear nB2; have t2_0 : w2.cell? ⟨w.heap.size, 0, none⟩ = some (.int .i64 0) := (hc2 w.heap.size 0 (by first | simpa using z3_0 | simpa using z1_0)).trans (by simp [go_sem, *]); have s2_0 : w2.frozen? ⟨w.heap.size, 0, none⟩ = false := (hf2 w.heap.size 0 (by first | simpa using z3_0 | simpa using z1_0)).trans (by simp [go_sem, *]); have t2_1 : w2.cell? ⟨w.heap.size, 1, none⟩ = some (.string ⟨#[]⟩) := (hc2 w.heap.size 1 (by first | simpa using z3_0 | simpa using z1_0)).trans (by simp [go_sem, *]); have s2_1 : w2.frozen? ⟨w.heap.size, 1, none⟩ = false := (hf2 w.heap.size 1 (by first | simpa using z3_0 | simpa using z1_0)).trans (by simp [go_sem, *]); have t2_2 : w2.cell? ⟨w.heap.size, 2, none⟩ = some (.int .i64 0) := (hc2 w.heap.size 2 (by first | simpa using z3_0 | simpa using z1_0)).trans (by simp [go_sem, *]); have s2_2 : w2.frozen? ⟨w.heap.size, 2, none⟩ = false := (hf2 w.heap.size 2 (by first | simpa using z3_0 | simpa using z1_0)).trans (by simp [go_sem, *]); clear hc2 hf2)))
      first
      | (refine bodyPost_ret (v := .tuple #[.agg #[.int .i64 0, .string (a0.extract 0 n), .int .i64 a1], .int .i64 0]) (by simp [results, Tryd.results61, go_sem, *]; done) rfl ?_; exact ⟨rfl, (by repeat (first | (with_reducible exact HB.out) | (with_reducible exact Below.refl _ _) | (with_reducible apply below_alloc) | (with_reducible apply pw_below_drewN) | (with_reducible apply below_drew1) | refine below_set ?_ (by omega)))⟩)
      | (refine bodyPost_ret (v := .tuple #[.agg #[.int .i64 1, .string (a0.extract 0 n), .int .i64 a1], .int .i64 0]) (by simp [results, Tryd.results61, go_sem, *]; done) rfl ?_; exact ⟨rfl, (by repeat (first | (with_reducible exact HB.out) | (with_reducible exact Below.refl _ _) | (with_reducible apply below_alloc) | (with_reducible apply pw_below_drewN) | (with_reducible apply below_drew1) | refine below_set ?_ (by omega)))⟩)

set_option maxHeartbeats 4000000 in
set_option maxRecDepth 100000 in
theorem named_two (a0 : ByteArray) (a1 : Int) (n e : Nat) (m : Int) (kw kb : Bool) (h24 : n ≤ 24) (hw : ∀ w, Calls Tryd.prog 60 #[.string a0] w fun e w' => e = .returned (.int .i64 (n : Int)) ∧ Drawn0 w w')
    (hu : ∀ w, Calls Tryd.prog 78 #[.string (a0.extract 0 n)] w fun e w' => e = .returned (.bool true) ∧ Below w.heap.size w w')
    (hk : ¬ 24 < m → ¬ (0 < m ∧ kb = false) → ∀ w, Calls Tryd.prog 76 #[.string (a0.extract 0 n)] w fun e w' => e = .returned (.bool kw) ∧ Below w.heap.size w w')
    (h1 : n + 2 < a0.size) (h2 : ((a0.extract n (n + 2)).toList == [58, 58]) = true)
    (hv : ∀ w, Calls Tryd.prog 60 #[.string (a0.extract (n + 2) a0.size)] w fun e w' => e = .returned (.int .i64 m) ∧ Drawn0 w w') (he : wrap64 ((n : Int) + 2 + m) = (e : Int)) (he1 : n + 2 ≤ e) (he2 : e ≤ a0.size)
    (hp : ¬ 24 < m → 0 < m → ∀ w, Calls Tryd.prog 76 #[.string (a0.extract (n + 2) e)] w fun e w' => e = .returned (.bool kb) ∧ Below w.heap.size w w') (w : World) (r1 : Int) (r2 : ByteArray) (r3 r4 : Int)
    (hr : (r1, r2, r3, r4) = if 24 < m then (0, ⟨#[]⟩, 0, 6) else if 0 < m ∧ kb = false then (0, a0.extract 0 e, a1, 0) else (if kw = true then 1 else 0, a0.extract 0 n, a1, 0)) :
    Calls Tryd.prog 61 #[.string a0, .int .i64 a1] w fun e w' => e = .returned (.tuple #[.agg #[.int .i64 r1, .string r2, .int .i64 r3], .int .i64 r4]) ∧ Below w.heap.size w w' := by
  have HB := Aside0.mk (Below.refl w.heap.size w)
  have HW := Aside0.mk hw
  have HU := Aside0.mk hu
  have HV := Aside0.mk hv
  have g1 : ((n : Int) ≤ (a0.size : Int)) = True := eq_true (by omega)
  have c1 : decide (24 < (n : Int)) = false := decide_eq_false (by omega)
  have c2 : decide (24 < n) = false := decide_eq_false (by omega)
  have c3 : min n a0.size = n := by omega
  have b1 : (n : Int) ≤ 24 := by omega
  have b0 : 0 ≤ (n : Int) := by omega
  have d1 : decide ((n : Int) + 2 < (a0.size : Int)) = true := decide_eq_true (by omega)
  have d2 : decide (n + 2 < a0.size) = true := decide_eq_true (by omega)
  have g2 : ((n : Int) + 2 ≤ (a0.size : Int)) = True := eq_true (by omega)
  have g3 : ((n : Int) ≤ (n : Int) + 2) = True := eq_true (by omega)
  have g4 : ((n : Int) + 2).toNat = n + 2 := by omega
  have g5 : (0 ≤ (n : Int) + 2) = True := eq_true (by omega)
  have g6 : (0 ≤ (n : Int)) = True := eq_true (by omega)
  have k1 : IntKind.i64.wrap ((n : Int) + 2 + m) = (e : Int) := (i64_w _).trans he
  have k2 : ((n : Int) + 2 ≤ (e : Int)) = True := eq_true (by omega)
  have k3 : ((e : Int) ≤ (a0.size : Int)) = True := eq_true (by omega)
  have k4 : (0 ≤ (e : Int)) = True := eq_true (by omega)
  clear hw hu h1 hv he1 he2
  by_cases hm : 24 < m
  · have f1 : decide (24 < m) = true := decide_eq_true hm
    rw [if_pos hm] at hr
    clear hm hp hk
    simp only [Prod.mk.injEq] at hr
    obtain ⟨rfl, rfl, rfl, rfl⟩ := hr
    go_enter Tryd.func61, Tryd.ntmps61
    go_wp2_with (first | (go_at_call 60; ((with_reducible refine (HW.out _).mono ?_); rintro e w' ⟨rfl, ⟨nd, rfl⟩⟩)) | (go_at_call 60; ((with_reducible refine (HV.out _).mono ?_); rintro e w' ⟨rfl, ⟨nd, rfl⟩⟩)) | (go_at_call 78; ((with_reducible refine (HU.out _).mono ?_); rintro e w1 ⟨rfl, hb1⟩; obtain ⟨hc1, hf1⟩ := bcell hb1; have z1_0 : (w.heap.size) < w1.heap.size := Nat.lt_of_lt_of_le (by first | (with_reducible assumption) | omega | (simp only [World.size_alloc, World.size_setCell, World.size_drew, World.size_drewN]; omega) | (simp; omega) | (simp; done)) hb1.size; have nB1 : Aside0 (Below w.heap.size w w1) := ⟨below_step (by repeat (first | (with_reducible exact HB.out) | (with_reducible exact Below.refl _ _) | (with_reducible apply below_alloc) | (with_reducible apply pw_below_drewN) | (with_reducible apply below_drew1) | refine below_set ?_ (by omega))) hb1⟩; clear HB; have HB := nB1; clear nB1)))
    (refine bodyPost_ret (v := .tuple #[.agg #[.int .i64 0, .string ⟨#[]⟩, .int .i64 0], .int .i64 6]) (by simp [results, Tryd.results61, go_sem, *]; done) rfl ?_; exact ⟨rfl, (by repeat (first | (with_reducible exact HB.out) | (with_reducible exact Below.refl _ _) | (with_reducible apply below_alloc) | (with_reducible apply pw_below_drewN) | (with_reducible apply below_drew1) | refine below_set ?_ (by omega)))⟩)
  · have f1 : decide (24 < m) = false := decide_eq_false hm
    rw [if_neg hm] at hr
    replace hk := hk hm
    replace hp := hp hm
    clear hm
    by_cases hz : 0 < m
    · have f2 : decide (0 < m) = true := decide_eq_true hz
      have HP := Aside0.mk (hp hz)
      clear hp
      cases kb
      · rw [if_pos ⟨hz, rfl⟩] at hr
        clear hz hk
        simp only [Prod.mk.injEq] at hr
        obtain ⟨rfl, rfl, rfl, rfl⟩ := hr
        go_enter Tryd.func61, Tryd.ntmps61
        go_wp2_with (first | (go_at_call 60; ((with_reducible refine (HW.out _).mono ?_); rintro e w' ⟨rfl, ⟨nd, rfl⟩⟩)) | (go_at_call 60; ((with_reducible refine (HV.out _).mono ?_); rintro e w' ⟨rfl, ⟨nd, rfl⟩⟩)) | (go_at_call 78; ((with_reducible refine (HU.out _).mono ?_); rintro e w1 ⟨rfl, hb1⟩; obtain ⟨hc1, hf1⟩ := bcell hb1; have z1_0 : (w.heap.size) < w1.heap.size := Nat.lt_of_lt_of_le (by first | (with_reducible assumption) | omega | (simp only [World.size_alloc, World.size_setCell, World.size_drew, World.size_drewN]; omega) | (simp; omega) | (simp; done)) hb1.size; have nB1 : Aside0 (Below w.heap.size w w1) := ⟨below_step (by repeat (first | (with_reducible exact HB.out) | (with_reducible exact Below.refl _ _) | (with_reducible apply below_alloc) | (with_reducible apply pw_below_drewN) | (with_reducible apply below_drew1) | refine below_set ?_ (by omega))) hb1⟩; clear HB; have HB := nB1; clear nB1)) | (go_at_call 76; ((with_reducible refine (HP.out _).mono ?_); rintro e w3 ⟨rfl, hb3⟩; obtain ⟨hc3, hf3⟩ := bcell hb3; have z3_0 : (w.heap.size) < w3.heap.size := Nat.lt_of_lt_of_le (by first | (with_reducible assumption) | omega | (simp only [World.size_alloc, World.size_setCell, World.size_drew, World.size_drewN]; omega) | (simp; omega) | (simp; done)) hb3.size; have nB3 : Aside0 (Below w.heap.size w w3) := ⟨below_step (by repeat (first | (with_reducible exact HB.out) | (with_reducible exact Below.refl _ _) | (with_reducible apply below_alloc) | (with_reducible apply pw_below_drewN) | (with_reducible apply below_drew1) | refine below_set ?_ (by omega))) hb3⟩; clear HB; have HB := nB3; clear nB3; have t3_0 : w3.cell? ⟨w.heap.size, 0, none⟩ = some (.int .i64 0) := (hc3 w.heap.size 0 (by simpa using z1_0)).trans (by simp [go_sem, *]); have s3_0 : w3.frozen? ⟨w.heap.size, 0, none⟩ = false := (hf3 w.heap.size 0 (by simpa using z1_0)).trans (by simp [go_sem, *]); have t3_1 : w3.cell? ⟨w.heap.size, 1, none⟩ = some (.string ⟨#[]⟩) := (hc3 w.heap.size 1 (by simpa using z1_0)).trans (by simp [go_sem, *]); have s3_1 : w3.frozen? ⟨w.heap.size, 1, none⟩ = false := (hf3 w.heap.size 1 (by simpa using z1_0)).trans (by simp [go_sem, *]); have t3_2 : w3.cell? ⟨w.heap.size, 2, none⟩ = some (.int .i64 0) := (hc3 w.heap.size 2 (by simpa using z1_0)).trans (by simp [go_sem, *]); have s3_2 : w3.frozen? ⟨w.heap.size, 2, none⟩ = false := (hf3 w.heap.size 2 (by simpa using z1_0)).trans (by simp [go_sem, *]); clear hc3 hf3)))
        (refine bodyPost_ret (v := .tuple #[.agg #[.int .i64 0, .string (a0.extract 0 e), .int .i64 r3], .int .i64 0]) (by simp [results, Tryd.results61, go_sem, *]; done) rfl ?_; exact ⟨rfl, (by repeat (first | (with_reducible exact HB.out) | (with_reducible exact Below.refl _ _) | (with_reducible apply below_alloc) | (with_reducible apply pw_below_drewN) | (with_reducible apply below_drew1) | refine below_set ?_ (by omega)))⟩)
      · rw [if_neg (by simp)] at hr
        have HK := Aside0.mk (hk (by simp))
        clear hz hk
        cases kw
        · rw [if_neg (by simp)] at hr
          simp only [Prod.mk.injEq] at hr
          obtain ⟨rfl, rfl, rfl, rfl⟩ := hr
          go_enter Tryd.func61, Tryd.ntmps61
          go_wp2_with (first | (go_at_call 60; ((with_reducible refine (HW.out _).mono ?_); rintro e w' ⟨rfl, ⟨nd, rfl⟩⟩)) | (go_at_call 60; ((with_reducible refine (HV.out _).mono ?_); rintro e w' ⟨rfl, ⟨nd, rfl⟩⟩)) | (go_at_call 78; ((with_reducible refine (HU.out _).mono ?_); rintro e w1 ⟨rfl, hb1⟩; obtain ⟨hc1, hf1⟩ := bcell hb1; have z1_0 : (w.heap.size) < w1.heap.size := Nat.lt_of_lt_of_le (by first | (with_reducible assumption) | omega | (simp only [World.size_alloc, World.size_setCell, World.size_drew, World.size_drewN]; omega) | (simp; omega) | (simp; done)) hb1.size; have nB1 : Aside0 (Below w.heap.size w w1) := ⟨below_step (by repeat (first | (with_reducible exact HB.out) | (with_reducible exact Below.refl _ _) | (with_reducible apply below_alloc) | (with_reducible apply pw_below_drewN) | (with_reducible apply below_drew1) | refine below_set ?_ (by omega))) hb1⟩; clear HB; have HB := nB1; clear nB1)) | (go_at_call 76; ((with_reducible refine (HP.out _).mono ?_); rintro e w3 ⟨rfl, hb3⟩; obtain ⟨hc3, hf3⟩ := bcell hb3; have z3_0 : (w.heap.size) < w3.heap.size := Nat.lt_of_lt_of_le (by first | (with_reducible assumption) | omega | (simp only [World.size_alloc, World.size_setCell, World.size_drew, World.size_drewN]; omega) | (simp; omega) | (simp; done)) hb3.size; have nB3 : Aside0 (Below w.heap.size w w3) := ⟨below_step (by repeat (first | (with_reducible exact HB.out) | (with_reducible exact Below.refl _ _) | (with_reducible apply below_alloc) | (with_reducible apply pw_below_drewN) | (with_reducible apply below_drew1) | refine below_set ?_ (by omega))) hb3⟩; clear HB; have HB := nB3; clear nB3; have t3_0 : w3.cell? ⟨w.heap.size, 0, none⟩ = some (.int .i64 0) := (hc3 w.heap.size 0 (by simpa using z1_0)).trans (by simp [go_sem, *]); have s3_0 : w3.frozen? ⟨w.heap.size, 0, none⟩ = false := (hf3 w.heap.size 0 (by simpa using z1_0)).trans (by simp [go_sem, *]); have t3_1 : w3.cell? ⟨w.heap.size, 1, none⟩ = some (.string ⟨#[]⟩) := (hc3 w.heap.size 1 (by simpa using z1_0)).trans (by simp [go_sem, *]); have s3_1 : w3.frozen? ⟨w.heap.size, 1, none⟩ = false := (hf3 w.heap.size 1 (by simpa using z1_0)).trans (by simp [go_sem, *]); have t3_2 : w3.cell? ⟨w.heap.size, 2, none⟩ = some (.int .i64 0) := (hc3 w.heap.size 2 (by simpa using z1_0)).trans (by simp [go_sem, *]); have s3_2 : w3.frozen? ⟨w.heap.size, 2, none⟩ = false := (hf3 w.heap.size 2 (by simpa using z1_0)).trans (by simp [go_sem, *]); clear hc3 hf3)) | (go_at_call 76; ((with_reducible refine (HK.out _).mono ?_); rintro e w2 ⟨rfl, hb2⟩; obtain ⟨hc2, hf2⟩ := bcell hb2; have z2_0 : (w.heap.size) < w2.heap.size := Nat.lt_of_lt_of_le (by first | (with_reducible assumption) | omega | (simp only [World.size_alloc, World.size_setCell, World.size_drew, World.size_drewN]; omega) | (simp; omega) | (simp; done)) hb2.size; have nB2 : Aside0 (Below w.heap.size w w2) := ⟨below_step (by repeat (first | (with_reducible exact HB.out) | (with_reducible exact Below.refl _ _) | (with_reducible apply below_alloc) | (with_reducible apply pw_below_drewN) | (with_reducible apply below_drew1) | refine below_set ?_ (by omega))) hb2⟩; clear HB; have HB := nB2; clear nB2; have t2_0 : w2.cell? ⟨w.heap.size, 0, none⟩ = some (.int .i64 0) := (hc2 w.heap.size 0 (by first | simpa using z3_0 | simpa using z1_0)).trans (by simp [go_sem, *]); have s2_0 : w2.frozen? ⟨w.heap.size, 0, none⟩ = false := (hf2 w.heap.size 0 (by first | simpa using z3_0 | simpa using z1_0)).trans (by simp [go_sem, *]); have t2_1 : w2.cell? ⟨w.heap.size, 1, none⟩ = some (.string ⟨#[]⟩) := (hc2 w.heap.size 1 (by first | simpa using z3_0 | simpa using z1_0)).trans (by simp [go_sem, *]); have s2_1 : w2.frozen? ⟨w.heap.size, 1, none⟩ = false := (hf2 w.heap.size 1 (by first | simpa using z3_0 | simpa using z1_0)).trans (by simp [go_sem, *]); have t2_2 : w2.cell? ⟨w.heap.size, 2, none⟩ = some (.int .i64 0) := (hc2 w.heap.size 2 (by first | simpa using z3_0 | simpa using z1_0)).trans (by simp [go_sem, *]); have s2_2 : w2.frozen? ⟨w.heap.size, 2, none⟩ = false := (hf2 w.heap.size 2 (by first | simpa using z3_0 | simpa using z1_0)).trans (by simp [go_sem, *]); clear hc2 hf2)))
          (refine bodyPost_ret (v := .tuple #[.agg #[.int .i64 0, .string (a0.extract 0 n), .int .i64 r3], .int .i64 0]) (by simp [results, Tryd.results61, go_sem, *]; done) rfl ?_; exact ⟨rfl, (by repeat (first | (with_reducible exact HB.out) | (with_reducible exact Below.refl _ _) | (with_reducible apply below_alloc) | (with_reducible apply pw_below_drewN) | (with_reducible apply below_drew1) | refine below_set ?_ (by omega)))⟩)
        · rw [if_pos rfl] at hr
          simp only [Prod.mk.injEq] at hr
          obtain ⟨rfl, rfl, rfl, rfl⟩ := hr
          go_enter Tryd.func61, Tryd.ntmps61
          go_wp2_with (first | (go_at_call 60; ((with_reducible refine (HW.out _).mono ?_); rintro e w' ⟨rfl, ⟨nd, rfl⟩⟩)) | (go_at_call 60; ((with_reducible refine (HV.out _).mono ?_); rintro e w' ⟨rfl, ⟨nd, rfl⟩⟩)) | (go_at_call 78; ((with_reducible refine (HU.out _).mono ?_); rintro e w1 ⟨rfl, hb1⟩; obtain ⟨hc1, hf1⟩ := bcell hb1; have z1_0 : (w.heap.size) < w1.heap.size := Nat.lt_of_lt_of_le (by first | (with_reducible assumption) | omega | (simp only [World.size_alloc, World.size_setCell, World.size_drew, World.size_drewN]; omega) | (simp; omega) | (simp; done)) hb1.size; have nB1 : Aside0 (Below w.heap.size w w1) := ⟨below_step (by repeat (first | (with_reducible exact HB.out) | (with_reducible exact Below.refl _ _) | (with_reducible apply below_alloc) | (with_reducible apply pw_below_drewN) | (with_reducible apply below_drew1) | refine below_set ?_ (by omega))) hb1⟩; clear HB; have HB := nB1; clear nB1)) | (go_at_call 76; ((with_reducible refine (HP.out _).mono ?_); rintro e w3 ⟨rfl, hb3⟩; obtain ⟨hc3, hf3⟩ := bcell hb3; have z3_0 : (w.heap.size) < w3.heap.size := Nat.lt_of_lt_of_le (by first | (with_reducible assumption) | omega | (simp only [World.size_alloc, World.size_setCell, World.size_drew, World.size_drewN]; omega) | (simp; omega) | (simp; done)) hb3.size; have nB3 : Aside0 (Below w.heap.size w w3) := ⟨below_step (by repeat (first | (with_reducible exact HB.out) | (with_reducible exact Below.refl _ _) | (with_reducible apply below_alloc) | (with_reducible apply pw_below_drewN) | (with_reducible apply below_drew1) | refine below_set ?_ (by omega))) hb3⟩; clear HB; have HB := nB3; clear nB3; have t3_0 : w3.cell? ⟨w.heap.size, 0, none⟩ = some (.int .i64 0) := (hc3 w.heap.size 0 (by simpa using z1_0)).trans (by simp [go_sem, *]); have s3_0 : w3.frozen? ⟨w.heap.size, 0, none⟩ = false := (hf3 w.heap.size 0 (by simpa using z1_0)).trans (by simp [go_sem, *]); have t3_1 : w3.cell? ⟨w.heap.size, 1, none⟩ = some (.string ⟨#[]⟩) := (hc3 w.heap.size 1 (by simpa using z1_0)).trans (by simp [go_sem, *]); have s3_1 : w3.frozen? ⟨w.heap.size, 1, none⟩ = false := (hf3 w.heap.size 1 (by simpa using z1_0)).trans (by simp [go_sem, *]); have t3_2 : w3.cell? ⟨w.heap.size, 2, none⟩ = some (.int .i64 0) := (hc3 w.heap.size 2 (by simpa using z1_0)).trans (by simp [go_sem, *]); have s3_2 : w3.frozen? ⟨w.heap.size, 2, none⟩ = false := (hf3 w.heap.size 2 (by simpa using z1_0)).trans (by simp [go_sem, *]); clear hc3 hf3)) | (go_at_call 76; ((with_reducible refine (HK.out _).mono ?_); rintro e w2 ⟨rfl, hb2⟩; obtain ⟨hc2, hf2⟩ := bcell hb2; have z2_0 : (w.heap.size) < w2.heap.size := Nat.lt_of_lt_of_le (by first | (with_reducible assumption) | omega | (simp only [World.size_alloc, World.size_setCell, World.size_drew, World.size_drewN]; omega) | (simp; omega) | (simp; done)) hb2.size; have nB2 : Aside0 (Below w.heap.size w w2) := ⟨below_step (by repeat (first | (with_reducible exact HB.out) | (with_reducible exact Below.refl _ _) | (with_reducible apply below_alloc) | (with_reducible apply pw_below_drewN) | (with_reducible apply below_drew1) | refine below_set ?_ (by omega))) hb2⟩; clear HB; have HB := nB2; clear nB2; have t2_0 : w2.cell? ⟨w.heap.size, 0, none⟩ = some (.int .i64 0) := (hc2 w.heap.size 0 (by first | simpa using z3_0 | simpa using z1_0)).trans (by simp [go_sem, *]); have s2_0 : w2.frozen? ⟨w.heap.size, 0, none⟩ = false := (hf2 w.heap.size 0 (by first | simpa using z3_0 | simpa using z1_0)).trans (by simp [go_sem, *]); have t2_1 : w2.cell? ⟨w.heap.size, 1, none⟩ = some (.string ⟨#[]⟩) := (hc2 w.heap.size 1 (by first | simpa using z3_0 | simpa using z1_0)).trans (by simp [go_sem, *]); have s2_1 : w2.frozen? ⟨w.heap.size, 1, none⟩ = false := (hf2 w.heap.size 1 (by first | simpa using z3_0 | simpa using z1_0)).trans (by simp [go_sem, *]); have t2_2 : w2.cell? ⟨w.heap.size, 2, none⟩ = some (.int .i64 0) := (hc2 w.heap.size 2 (by first | simpa using z3_0 | simpa using z1_0)).trans (by simp [go_sem, *]); have s2_2 : w2.frozen? ⟨w.heap.size, 2, none⟩ = false := (hf2 w.heap.size 2 (by first | simpa using z3_0 | simpa using z1_0)).trans (by simp [go_sem, *]); clear hc2 hf2)))
          (refine bodyPost_ret (v := .tuple #[.agg #[.int .i64 1, .string (a0.extract 0 n), .int .i64 r3], .int .i64 0]) (by simp [results, Tryd.results61, go_sem, *]; done) rfl ?_; exact ⟨rfl, (by repeat (first | (with_reducible exact HB.out) | (with_reducible exact Below.refl _ _) | (with_reducible apply below_alloc) | (with_reducible apply pw_below_drewN) | (with_reducible apply below_drew1) | refine below_set ?_ (by omega)))⟩)
    · have f2 : decide (0 < m) = false := decide_eq_false hz
      rw [if_neg (fun h => hz h.1)] at hr
      have HK := Aside0.mk (hk (fun h => hz h.1))
      clear hz hp hk
      cases kw
      · rw [if_neg (by simp)] at hr
        simp only [Prod.mk.injEq] at hr
        obtain ⟨rfl, rfl, rfl, rfl⟩ := hr
        go_enter Tryd.func61, Tryd.ntmps61
        go_wp2_with (first | (go_at_call 60; ((with_reducible refine (HW.out _).mono ?_); rintro e w' ⟨rfl, ⟨nd, rfl⟩⟩)) | (go_at_call 60; ((with_reducible refine (HV.out _).mono ?_); rintro e w' ⟨rfl, ⟨nd, rfl⟩⟩)) | (go_at_call 78; ((with_reducible refine (HU.out _).mono ?_); rintro e w1 ⟨rfl, hb1⟩; obtain ⟨hc1, hf1⟩ := bcell hb1; have z1_0 : (w.heap.size) < w1.heap.size := Nat.lt_of_lt_of_le (by first | (with_reducible assumption) | omega | (simp only [World.size_alloc, World.size_setCell, World.size_drew, World.size_drewN]; omega) | (simp; omega) | (simp; done)) hb1.size; have nB1 : Aside0 (Below w.heap.size w w1) := ⟨below_step (by repeat (first | (with_reducible exact HB.out) | (with_reducible exact Below.refl _ _) | (with_reducible apply below_alloc) | (with_reducible apply pw_below_drewN) | (with_reducible apply below_drew1) | refine below_set ?_ (by omega))) hb1⟩; clear HB; have HB := nB1; clear nB1)) | (go_at_call 76; ((with_reducible refine (HK.out _).mono ?_); rintro e w2 ⟨rfl, hb2⟩; obtain ⟨hc2, hf2⟩ := bcell hb2; have z2_0 : (w.heap.size) < w2.heap.size := Nat.lt_of_lt_of_le (by first | (with_reducible assumption) | omega | (simp only [World.size_alloc, World.size_setCell, World.size_drew, World.size_drewN]; omega) | (simp; omega) | (simp; done)) hb2.size; have nB2 : Aside0 (Below w.heap.size w w2) := ⟨below_step (by repeat (first | (with_reducible exact HB.out) | (with_reducible exact Below.refl _ _) | (with_reducible apply below_alloc) | (with_reducible apply pw_below_drewN) | (with_reducible apply below_drew1) | refine below_set ?_ (by omega))) hb2⟩; clear HB; have HB := nB2; clear nB2; have t2_0 : w2.cell? ⟨w.heap.size, 0, none⟩ = some (.int .i64 0) := (hc2 w.heap.size 0 (by first | simpa using z3_0 | simpa using z1_0)).trans (by simp [go_sem, *]); have s2_0 : w2.frozen? ⟨w.heap.size, 0, none⟩ = false := (hf2 w.heap.size 0 (by first | simpa using z3_0 | simpa using z1_0)).trans (by simp [go_sem, *]); have t2_1 : w2.cell? ⟨w.heap.size, 1, none⟩ = some (.string ⟨#[]⟩) := (hc2 w.heap.size 1 (by first | simpa using z3_0 | simpa using z1_0)).trans (by simp [go_sem, *]); have s2_1 : w2.frozen? ⟨w.heap.size, 1, none⟩ = false := (hf2 w.heap.size 1 (by first | simpa using z3_0 | simpa using z1_0)).trans (by simp [go_sem, *]); have t2_2 : w2.cell? ⟨w.heap.size, 2, none⟩ = some (.int .i64 0) := (hc2 w.heap.size 2 (by first | simpa using z3_0 | simpa using z1_0)).trans (by simp [go_sem, *]); have s2_2 : w2.frozen? ⟨w.heap.size, 2, none⟩ = false := (hf2 w.heap.size 2 (by first | simpa using z3_0 | simpa using z1_0)).trans (by simp [go_sem, *]); clear hc2 hf2)))
        (refine bodyPost_ret (v := .tuple #[.agg #[.int .i64 0, .string (a0.extract 0 n), .int .i64 r3], .int .i64 0]) (by simp [results, Tryd.results61, go_sem, *]; done) rfl ?_; exact ⟨rfl, (by repeat (first | (with_reducible exact HB.out) | (with_reducible exact Below.refl _ _) | (with_reducible apply below_alloc) | (with_reducible apply pw_below_drewN) | (with_reducible apply below_drew1) | refine below_set ?_ (by omega)))⟩)
      · rw [if_pos rfl] at hr
        simp only [Prod.mk.injEq] at hr
        obtain ⟨rfl, rfl, rfl, rfl⟩ := hr
        go_enter Tryd.func61, Tryd.ntmps61
        go_wp2_with (first | (go_at_call 60; ((with_reducible refine (HW.out _).mono ?_); rintro e w' ⟨rfl, ⟨nd, rfl⟩⟩)) | (go_at_call 60; ((with_reducible refine (HV.out _).mono ?_); rintro e w' ⟨rfl, ⟨nd, rfl⟩⟩)) | (go_at_call 78; ((with_reducible refine (HU.out _).mono ?_); rintro e w1 ⟨rfl, hb1⟩; obtain ⟨hc1, hf1⟩ := bcell hb1; have z1_0 : (w.heap.size) < w1.heap.size := Nat.lt_of_lt_of_le (by first | (with_reducible assumption) | omega | (simp only [World.size_alloc, World.size_setCell, World.size_drew, World.size_drewN]; omega) | (simp; omega) | (simp; done)) hb1.size; have nB1 : Aside0 (Below w.heap.size w w1) := ⟨below_step (by repeat (first | (with_reducible exact HB.out) | (with_reducible exact Below.refl _ _) | (with_reducible apply below_alloc) | (with_reducible apply pw_below_drewN) | (with_reducible apply below_drew1) | refine below_set ?_ (by omega))) hb1⟩; clear HB; have HB := nB1; clear nB1)) | (go_at_call 76; ((with_reducible refine (HK.out _).mono ?_); rintro e w2 ⟨rfl, hb2⟩; obtain ⟨hc2, hf2⟩ := bcell hb2; have z2_0 : (w.heap.size) < w2.heap.size := Nat.lt_of_lt_of_le (by first | (with_reducible assumption) | omega | (simp only [World.size_alloc, World.size_setCell, World.size_drew, World.size_drewN]; omega) | (simp; omega) | (simp; done)) hb2.size; have nB2 : Aside0 (Below w.heap.size w w2) := ⟨below_step (by repeat (first | (with_reducible exact HB.out) | (with_reducible exact Below.refl _ _) | (with_reducible apply below_alloc) | (with_reducible apply pw_below_drewN) | (with_reducible apply below_drew1) | refine below_set ?_ (by omega))) hb2⟩; clear HB; have HB := nB2; clear nB2; have t2_0 : w2.cell? ⟨w.heap.size, 0, none⟩ = some (.int .i64 0) := (hc2 w.heap.size 0 (by first | simpa using z3_0 | simpa using z1_0)).trans (by simp [go_sem, *]); have s2_0 : w2.frozen? ⟨w.heap.size, 0, none⟩ = false := (hf2 w.heap.size 0 (by first | simpa using z3_0 | simpa using z1_0)).trans (by simp [go_sem, *]); have t2_1 : w2.cell? ⟨w.heap.size, 1, none⟩ = some (.string ⟨#[]⟩) := (hc2 w.heap.size 1 (by first | simpa using z3_0 | simpa using z1_0)).trans (by simp [go_sem, *]); have s2_1 : w2.frozen? ⟨w.heap.size, 1, none⟩ = false := (hf2 w.heap.size 1 (by first | simpa using z3_0 | simpa using z1_0)).trans (by simp [go_sem, *]); have t2_2 : w2.cell? ⟨w.heap.size, 2, none⟩ = some (.int .i64 0) := (hc2 w.heap.size 2 (by first | simpa using z3_0 | simpa using z1_0)).trans (by simp [go_sem, *]); have s2_2 : w2.frozen? ⟨w.heap.size, 2, none⟩ = false := (hf2 w.heap.size 2 (by first | simpa using z3_0 | simpa using z1_0)).trans (by simp [go_sem, *]); clear hc2 hf2)))
        (refine bodyPost_ret (v := .tuple #[.agg #[.int .i64 1, .string (a0.extract 0 n), .int .i64 r3], .int .i64 0]) (by simp [results, Tryd.results61, go_sem, *]; done) rfl ?_; exact ⟨rfl, (by repeat (first | (with_reducible exact HB.out) | (with_reducible exact Below.refl _ _) | (with_reducible apply below_alloc) | (with_reducible apply pw_below_drewN) | (with_reducible apply below_drew1) | refine below_set ?_ (by omega)))⟩)

theorem entailref03_named.calls (k : Nat) (a0 : ByteArray) (a1 : Int) (r1 : Int) (r2 : ByteArray) (r3 : Int) (r4 : Int) (w : World) (h : entailref03_named.f k a0 a1 = some (r1, r2, r3, r4)) :
    Calls Tryd.prog 61 #[.string a0, .int .i64 a1] w fun e w' => e = .returned (.tuple #[.agg #[.int .i64 r1, .string r2, .int .i64 r3], .int .i64 r4]) ∧ Below w.heap.size w w' := by
  obtain ⟨t, hw, H⟩ := Option.bind_eq_some_iff.mp (show (entailref03_word.f k a0).bind _ = some (r1, r2, r3, r4) from h)
  by_cases t0 : 0 ≤ t
  case neg => rw [if_neg t0] at H; cases H
  by_cases t1 : t ≤ (a0.size : Int)
  case neg => rw [if_pos t0, if_neg t1] at H; cases H
  rw [if_pos t0, if_pos t1] at H
  obtain ⟨n, rfl⟩ := Int.eq_ofNat_of_zero_le t0
  simp only [Int.ofNat_eq_natCast, Int.toNat_natCast] at H hw t1
  have hn : n ≤ a0.size := by omega
  have hsz : (a0.extract 0 n).size = n := by simp; omega
  rw [hsz] at H
  have hW := fun w => entailref03_word.calls k a0 (n : Int) w hw
  by_cases h24 : (n : Int) > 24
  · rw [if_pos h24] at H
    simp only [Option.some.injEq, Prod.mk.injEq] at H
    exact named_long a0 a1 n hn (by omega) w hW r1 r2 r3 r4 H.1.symm H.2.1.symm H.2.2.1.symm H.2.2.2.symm
  rw [if_neg h24] at H
  have wr : wrap64 ((n : Int) + 2) = (n : Int) + 2 := by unfold wrap64; omega
  rw [wr] at H
  obtain ⟨u, hu, H⟩ := Option.bind_eq_some_iff.mp H
  have hU := fun w => entailref02_IsUpper.calls k (a0.extract 0 n) u w hu
  have tail : ∀ (kk : Nat), (u = false ∨ (u = true ∧ ¬ (n + 2 < a0.size)) ∨ (u = true ∧ n + 2 < a0.size ∧ ((a0.extract n (n + 2)).toList == [58, 58]) = false)) → entailref03_named.j0 kk a0 a1 n (a0.extract 0 n) false = some (r1, r2, r3, r4) →
      Calls Tryd.prog 61 #[.string a0, .int .i64 a1] w fun e w' => e = .returned (.tuple #[.agg #[.int .i64 r1, .string r2, .int .i64 r3], .int .i64 r4]) ∧ Below w.heap.size w w' := by
    intro kk hg hj
    cases kk with
    | zero => exact absurd hj (by simp [entailref03_named.j0])
    | succ kk =>
      rw [entailref03_named.j0, if_neg (by simp)] at hj
      obtain ⟨kw, hk, hr⟩ := Option.bind_eq_some_iff.mp hj
      have hin : NamedIn a0 n u kw := ⟨hW, hU, fun w => entailref02_IsKeyword.calls kk _ kw w hk⟩
      have := named_plain a0 a1 n u kw hn (by omega) hin hg w
      cases kw
      · rw [if_neg (by simp)] at hr
        simp only [Option.some.injEq, Prod.mk.injEq] at hr
        obtain ⟨rfl, rfl, rfl, rfl⟩ := hr
        exact this 0 rfl
      · rw [if_pos rfl] at hr
        simp only [Option.some.injEq, Prod.mk.injEq] at hr
        obtain ⟨rfl, rfl, rfl, rfl⟩ := hr
        exact this 1 rfl
  by_cases hu1 : u = true
  case neg =>
    rw [if_neg hu1] at H
    exact tail k (.inl (by simpa using hu1)) H
  rw [if_pos hu1] at H
  by_cases hs2 : (n : Int) + 2 < (a0.size : Int)
  case neg =>
    rw [if_neg hs2] at H
    exact tail k (.inr (.inl ⟨hu1, by omega⟩)) H
  rw [if_pos hs2, if_pos (by omega), if_pos (by omega), show ((n : Int) + 2).toNat = n + 2 by omega] at H
  cases hcc : ((a0.extract n (n + 2)).toList == [58, 58]) with
  | false =>
    rw [hcc] at H
    exact tail k (.inr (.inr ⟨hu1, by omega, hcc⟩)) H
  | true =>
    rw [hcc] at H
    subst hu1
    cases k with
    | zero => exact absurd H (by simp [entailref03_named.j0])
    | succ k =>
      rw [entailref03_named.j0, if_pos rfl, wr, if_pos (by omega), if_pos (by omega), show ((n : Int) + 2).toNat = n + 2 by omega] at H
      obtain ⟨m, hm, H⟩ := Option.bind_eq_some_iff.mp H
      have hV := fun w => entailref03_word.calls k (a0.extract (n + 2) a0.size) m w hm
      by_cases q1 : (n : Int) + 2 ≤ wrap64 ((n : Int) + 2 + m)
      case neg => rw [if_neg q1] at H; cases H
      by_cases q2 : wrap64 ((n : Int) + 2 + m) ≤ (a0.size : Int)
      case neg => rw [if_pos q1, if_neg q2] at H; cases H
      rw [if_pos q1, if_pos q2] at H
      obtain ⟨e, he⟩ := Int.eq_ofNat_of_zero_le (show 0 ≤ wrap64 ((n : Int) + 2 + m) by omega)
      rw [he] at H q1 q2
      simp only [Int.ofNat_eq_natCast, Int.toNat_natCast] at H he q1 q2
      have Z := fun (kw kb : Bool) hk hp hr => named_two a0 a1 n e m kw kb (by omega) hW hU hk (by omega) hcc hV he (by omega) (by omega) hp w r1 r2 r3 r4 hr
      by_cases hm24 : m > 24
      · rw [if_pos hm24] at H
        exact Z false false (fun h => absurd hm24 h) (fun h => absurd hm24 h) (by rw [if_pos hm24]; exact (Option.some.inj H).symm)
      · rw [if_neg hm24] at H
        have last : ∀ (kb : Bool), ¬ (0 < m ∧ kb = false) → (0 < m → ∀ w, Calls Tryd.prog 76 #[.string (a0.extract (n + 2) e)] w fun e w' => e = .returned (.bool kb) ∧ Below w.heap.size w w') → ∀ kk, entailref03_named.j1 kk a0 a1 n (a0.extract 0 n) m false = some (r1, r2, r3, r4) →
            Calls Tryd.prog 61 #[.string a0, .int .i64 a1] w fun e w' => e = .returned (.tuple #[.agg #[.int .i64 r1, .string r2, .int .i64 r3], .int .i64 r4]) ∧ Below w.heap.size w w' := by
          intro kb hkb hp kk hj
          cases kk with
          | zero => exact absurd hj (by simp [entailref03_named.j1])
          | succ kk =>
            rw [entailref03_named.j1, if_neg (by simp)] at hj
            obtain ⟨kw, hk, hr⟩ := Option.bind_eq_some_iff.mp hj
            refine Z kw kb (fun _ _ w => entailref02_IsKeyword.calls kk _ kw w hk) (fun _ => hp) ?_
            rw [if_neg hm24, if_neg hkb]
            cases kw
            · rw [if_neg (by simp)] at hr ⊢
              exact (Option.some.inj hr).symm
            · rw [if_pos rfl] at hr ⊢
              exact (Option.some.inj hr).symm
        by_cases hz : m > 0
        · rw [if_pos hz] at H
          obtain ⟨kb, hb, H⟩ := Option.bind_eq_some_iff.mp H
          have hP := fun w => entailref02_IsKeyword.calls k _ kb w hb
          cases kb with
          | true => exact last true (by simp) (fun _ => hP) k H
          | false =>
            cases k with
            | zero => exact absurd H (by simp [entailref03_named.j1])
            | succ k =>
              rw [show (!false) = true from rfl, entailref03_named.j1, if_pos rfl, wr, he, if_pos (by omega), if_pos (by omega), Int.toNat_natCast] at H
              refine Z false false (fun _ h => absurd ⟨hz, rfl⟩ h) (fun _ _ => hP) ?_
              rw [if_neg hm24, if_pos ⟨hz, rfl⟩]
              exact (Option.some.inj H).symm
        · rw [if_neg hz] at H
          exact last true (by simp) (fun h => absurd h hz) k H

end Go.Proofs.YtmnnhbikdgpedaaDoor.PLexTokens
