/- The law LexNames walked: it answers true. -/
import Derived.Test.YtmnnhbikdgpedaaDoorLnB
import Derived.Test.YtmnnhbikdgpedaaDoorLxN
namespace Go.Proofs.YtmnnhbikdgpedaaDoor.Lx
open Go.RowKit Go.Proofs.YtmnnhbikdgpedaaDoorW.PrintWords Go.Proofs.YtmnnhbikdgpedaaDoorW.PrintLast Go.Proofs.YtmnnhbikdgpedaaDoorW.PrintMore
open Go.Proofs.YtmnnhbikdgpedaaDoor.PLexTokens
set_option linter.unusedVariables false
set_option linter.unusedSimpArgs false

set_option maxHeartbeats 8000000 in
set_option maxRecDepth 100000 in
theorem law_names (a b : ByteArray) (w : World) (hE : Env w) :
    Calls Tryd.prog 4 #[.string a, .string b] w fun e w' => e = .returned (.bool true) ∧ Below w.heap.size w w' := by
  have HE := Aside0.mk hE
  have HB := Aside0.mk (Below.refl w.heap.size w)
  by_cases ha : 200 < a.size
  · have c1 : decide (200 < (a.size : Int)) = true := by simp; omega
    clear ha
    go_enter Tryd.func4, Tryd.ntmps4
    go_wp2_with (first | (go_at_call 8; (with_reducible refine (awake_calls _ HE.out).mono ?_); rintro e w1 ⟨rfl, hb1⟩))
    go_ret
    exact ⟨rfl, hb1⟩
  have c1 : decide (200 < (a.size : Int)) = false := by simp; omega
  by_cases hb : 200 < b.size
  · have c2 : decide (200 < (b.size : Int)) = true := by simp; omega
    clear ha hb
    go_enter Tryd.func4, Tryd.ntmps4
    go_wp2_with (first | (go_at_call 8; (with_reducible refine (awake_calls _ HE.out).mono ?_); rintro e w1 ⟨rfl, hb1⟩))
    go_ret
    exact ⟨rfl, hb1⟩
  have c2 : decide (200 < (b.size : Int)) = false := by simp; omega
  obtain ⟨c, hc⟩ : ∃ c, c = a ++ ⟨#[58, 58]⟩ ++ b := ⟨_, rfl⟩
  have hcs : c.size ≤ 402 := by
    rw [hc, ByteArray.size_append, ByteArray.size_append]
    have : (⟨#[58, 58]⟩ : ByteArray).size = 2 := rfl
    omega
  have g1 : a.size + 2 ≤ 9223372036854775807 := by omega
  have g2 : a.size + 2 + b.size ≤ 9223372036854775807 := by omega
  have i0 : ∀ w : World, (Instr.index 36 (.agg #[.string a, .string b, .string c]) (.int .i64 0)).run Tryd.prog w = .ok (.string a) w := fun w => by kernel_rfl
  have i1 : ∀ w : World, (Instr.index 36 (.agg #[.string a, .string b, .string c]) (.int .i64 1)).run Tryd.prog w = .ok (.string b) w := fun w => by kernel_rfl
  have i2 : ∀ w : World, (Instr.index 36 (.agg #[.string a, .string b, .string c]) (.int .i64 2)).run Tryd.prog w = .ok (.string c) w := fun w => by kernel_rfl
  go_enter Tryd.func4, Tryd.ntmps4
  go_wp2
  rw [← hc]
  clear hc
  go_loopg [29] 4 (fun g s29 wr => ∃ n : Nat, s29 = .int .i64 n ∧ n + g = 4 ∧ n ≤ 3 ∧ Aside0 (Below w.heap.size w wr))
  case atStart => exact ⟨0, rfl, rfl, by omega, ⟨by repeat (first | exact HB.out | apply below_alloc | apply pw_below_drewN | apply below_drew1)⟩⟩
  case round =>
    clear HB
    obtain ⟨n, rfl, hn, hn3, HB⟩ := hrel
    rcases (show n = 3 ∨ n = 0 ∨ n = 1 ∨ n = 2 by omega) with rfl | rfl | rfl | rfl
    · go_wp2_with (first | (go_at_call 8; (with_reducible refine (awake_calls _ (HE.out.below HB.out)).mono ?_); rintro e w1 ⟨rfl, hb1⟩))
      go_ret
      exact ⟨rfl, HB.out.trans (hb1.mono HB.out.size)⟩
    all_goals
      go_wp2_with (first | (go_at_call 18; go_loud ((with_reducible refine (entailref03_Split.calls 5000 _ _ _ _ _ (split_f _ 5000 (by omega) (by omega))).mono ?_); rintro e w1 ⟨rfl, hb1⟩; have HB1 := Aside0.mk (HB.out.trans (hb1.mono HB.out.size)); clear hb1)) | (go_at_call 19; go_loud ((with_reducible refine (split_calls _ (by omega) _ (HE.out.below HB1.out)).mono ?_); rintro e w2 ⟨rfl, hb2⟩; have HB2 := Aside0.mk (HB1.out.trans (hb2.mono HB1.out.size)); clear hb2)) | (go_at_call 20; go_loud ((with_reducible refine (isName_calls _ (by omega) _ (HE.out.below HB2.out)).mono ?_); rintro e w3 ⟨rfl, hb3⟩; have HB3 := Aside0.mk (HB2.out.trans (hb3.mono HB2.out.size)); clear hb3)) | (go_at_call 21; go_loud ((with_reducible refine (entailref03_IsName.calls 5000 _ _ _ (rname_f _ 5000 (by omega))).mono ?_); rintro e w4 ⟨rfl, hb4⟩; have HB4 := Aside0.mk (HB3.out.trans (hb4.mono HB3.out.size)); clear hb4)) | (go_at_call 22; go_loud ((with_reducible refine (isGlobal_calls _ (by omega) _ (HE.out.below HB4.out)).mono ?_); rintro e w5 ⟨rfl, hb5⟩; have HB5 := Aside0.mk (HB4.out.trans (hb5.mono HB4.out.size)); clear hb5)) | (go_at_call 23; go_loud ((with_reducible refine (entailref03_IsGlobal.calls 5000 _ _ _ (global_f _ 5000 (by omega) (by omega))).mono ?_); rintro e w6 ⟨rfl, hb6⟩; have HB6 := Aside0.mk (HB5.out.trans (hb6.mono HB5.out.size)); clear hb6)))
      go_roundg (gk - 1)
      case measure => omega
      case rel => first | exact ⟨1, rfl, by omega, by omega, HB6⟩ | exact ⟨2, rfl, by omega, by omega, HB6⟩ | exact ⟨3, rfl, by omega, by omega, HB6⟩
end Go.Proofs.YtmnnhbikdgpedaaDoor.Lx
