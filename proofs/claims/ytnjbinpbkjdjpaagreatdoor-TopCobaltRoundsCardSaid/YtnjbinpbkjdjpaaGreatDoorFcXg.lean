import Derived.Test.YtnjbinpbkjdjpaaGreatDoorP12
import Derived.Test.YtnjbinpbkjdjpaaGreatDoorCards
import Derived.Test.YtnjbinpbkjdjpaaGreatDoorTie
import Derived.Stop.Joined
/-
  WHAT IS PROVED: for all arguments, TopCobaltRounds returns true, without a panic; the card ties internal/strconv.uint64pow10 and the two tables of math/bits to the program's text.
  CONDITIONS: these variables hold at the call's start what the program's text lays (tied by the given tie); nothing else.
-/
namespace Go.Proofs.YtnjbinpbkjdjpaaGreatDoor.Nm
open Go.ChangeShapes Go.WideShapes Go.ChangeAt Go.RowKit
set_option linter.unusedVariables false

theorem cob_met (os : Os) : laidMet Tryz.prog laidL ((World.doorLaid Tryz.prog 77 os).forCall (fun _ _ => 0) ⟨#[], #[.int .i64 0, .int .u32 0, .int .u32 0], []⟩).memory :=
  laidMet_of_run' 8 (by kernel_rfl) (by kernel_rfl)
theorem cob_reads (os : Os) {H : Type} (enc : TypeId × Value → H) : ∃ places, DataW.whole enc Tryz.prog ((World.doorLaid Tryz.prog 77 os).forCall (fun _ _ => 0) ⟨#[], #[.int .i64 0, .int .u32 0, .int .u32 0], []⟩).memory Tryz.f3.params.toList Rows.topCobaltRoundsSpec.vars false #[Value.int .i64 0, Value.int .u32 0, Value.int .u32 0].toList 8 = some ([.lit (.int .i64 0), .lit (.int .u32 0), .lit (.int .u32 0)], [], places) :=
  ⟨[], by kernel_rfl⟩

set_option maxRecDepth 100000 in
theorem cob_contract (H : Type) (enc : TypeId × Value → H) (W : World) (base : Nat) (args : Array Value) (ds gs : List (DataW H)) (before : List MemPlace)
    (hval : ∀ (j : Nat) t v, Tryz.f3.params[j]? = some t → args[j]? = some v → Value.okWide Tryz.prog W .any base t v)
    (hW : DataW.Whole enc Tryz.prog Tryz.f3.params.toList Rows.topCobaltRoundsSpec.vars false W args.toList ds gs before) (hE : EN W) :
    Calls Tryz.prog 3 args W fun e W' => ∃ v, e = .returned v ∧ Rows.topCobaltRoundsSpec.post enc Tryz.prog Tryz.f3 false true false false W args v W' := by
  have hW' := hW
  obtain ⟨p, q, hA0, hV, rfl, hfz, hnd⟩ := hW
  have hA : DataW.TrodAll enc Tryz.prog W 0 (fun _ => true) true Tryz.f3.params.toList args.toList ds p := hA0
  rw [Tryz.params3] at hA hval
  obtain ⟨v0, vs0, d0, ds0, p0, q0, hargs0, rfl, rfl, h0, r0⟩ := trodAll_cons hA
  obtain ⟨v1, vs1, d1, ds1, p1, q1, hargs1, rfl, rfl, h1, r1⟩ := trodAll_cons r0
  obtain ⟨v2, vs2, d2, ds2, p2, q2, hargs2, rfl, rfl, h2, r2⟩ := trodAll_cons r1
  obtain ⟨rfl, rfl, rfl⟩ := trodAll_nil r2
  obtain rfl : args = #[v0, v1, v2] := by cases args; simp_all
  obtain ⟨rfl, rfl⟩ := trodVars_none hV
  obtain ⟨a, rfl, rfl, rfl, wa⟩ := open_int Tryz.underlying3 (hval 0 3 v0 rfl rfl) h0
  obtain ⟨b, rfl, rfl, rfl, wb⟩ := open_int Tryz.underlying22 (hval 1 22 v1 rfl rfl) h1
  obtain ⟨c, rfl, rfl, rfl, wc⟩ := open_int Tryz.underlying22 (hval 2 22 v2 rfl rfl) h2
  clear hA0
  simp only [List.append_nil] at hW'
  have ba : -9223372036854775808 ≤ a ∧ a ≤ 9223372036854775807 := by have := wa; simp [Lit.wf] at this; (try rw [show IntKind.i64.min = -9223372036854775808 from rfl] at this); (try rw [show IntKind.i64.max = 9223372036854775807 from rfl] at this); omega
  have bb : 0 ≤ b ∧ b ≤ 4294967295 := by have := wb; simp [Lit.wf] at this; (try rw [show IntKind.u32.min = 0 from rfl] at this); (try rw [show IntKind.u32.max = 4294967295 from rfl] at this); omega
  obtain ⟨bn, rfl⟩ : ∃ n : Nat, b = (n : Int) := ⟨b.toNat, by omega⟩
  have bc : 0 ≤ c ∧ c ≤ 4294967295 := by have := wc; simp [Lit.wf] at this; (try rw [show IntKind.u32.min = 0 from rfl] at this); (try rw [show IntKind.u32.max = 4294967295 from rfl] at this); omega
  obtain ⟨cn, rfl⟩ : ∃ n : Nat, c = (n : Int) := ⟨c.toNat, by omega⟩
  refine (cob_calls a bn cn ba.1 ba.2 (by omega) (by omega) W hE).mono fun e W' ⟨he, hg⟩ => ?_
  subst he
  exact ⟨_, rfl, post_law laidOut Tryz.underlying4 hW' (by kernel_rfl) rfl rfl rfl hg⟩

set_option maxRecDepth 100000 in
theorem cob_lifted (os : Os) (started : os.Started) (H : Type) (enc : TypeId × Value → H) (F : Stop.Interp) :
    ReturnsInHanded {} Tryz.checked os 3 .any ((OpenSpec.ofChange Rows.topCobaltRoundsSpec).preRow enc Tryz.prog Tryz.f3 Rows.topCobaltRoundsRow.domain false Rows.topCobaltRoundsRow.laid) (((OpenSpec.ofChange Rows.topCobaltRoundsSpec).at F).post enc Tryz.prog Tryz.f3 false true false false) := by
  obtain ⟨places, hx⟩ := cob_reads os enc
  refine returnsInHanded_of_row (C := Tryz.checked) (s := OpenSpec.ofChange Rows.topCobaltRoundsSpec) ownK started (by kernel_rfl) Tryz.func3
    (witness_row_atRef (enc := enc) (C := Tryz.checked) false (World.doorLaid Tryz.prog 77 os) #[.int .i64 0, .int .u32 0, .int .u32 0] rfl (by kernel_rfl) (by kernel_rfl) (by kernel_rfl)
      (OpenSpec.preRow_of_cond 8 hx (by kernel_rfl) (fun k hk => by cases hk) (by kernel_rfl) (cob_met os))) ?_
  intro W base args ds gs before hval hW _ _ _ hL hsh _
  exact cob_contract H enc W base args ds gs before hval hW (env_of (show laidMet Tryz.prog laidL W from hL) hsh)

theorem cob_said : Rows.TopCobaltRoundsSaid :=
  OpenClaim.holds_of_cond 3 Tryz.f3 rfl rfl rfl rfl rfl rfl rfl ⟨rfl, rfl, rfl, rfl, rfl⟩ rfl rfl rfl rfl rfl (by kernel_rfl) Tryz.func3 (by kernel_rfl)
    (of_decide_eq_true (by kernel_rfl)) (by unfold Func.isWrapper; first | (rw [if_pos (by decide +kernel)]; kernel_rfl) | (rw [if_neg (by decide +kernel)]; exact ⟨rfl, rfl⟩))
    (fun os started H enc _ F => by rw [OpenClaim.pre_eq_preRow]; exact cob_lifted os started H enc F)

theorem cob_plain (f : FuncId) (fn : Func) (hf : Tryz.pinned.checked.prog.funcNamed "entail/entailtop.TopCobaltRounds" = some f) (hfn : Tryz.pinned.checked.prog.funcs[f]? = some fn) :
    false = Tryz.pinned.checked.prog.looks [] ∧ ∀ (j : Nat) t, fn.params[j]? = some t → Tryz.pinned.checked.prog.wantsStandIn t = false := by
  obtain rfl : f = 3 := Option.some.inj ((show Tryz.prog.funcNamed "entail/entailtop.TopCobaltRounds" = some 3 by kernel_rfl).symm.trans hf) |>.symm
  obtain rfl : fn = Tryz.f3 := (Option.some.inj (Tryz.func3.symm.trans hfn)).symm
  refine ⟨by kernel_rfl, fun j t ht => ?_⟩
  rw [Tryz.params3] at ht
  have : t = 9 ∨ t = 3 ∨ t = 22 := by
    match j, ht with
    | 0, ht => exact .inr (.inl (by simpa using ht.symm))
    | 1, ht => exact .inr (.inr (by simpa using ht.symm))
    | 2, ht => exact .inr (.inr (by simpa using ht.symm))
  rcases this with rfl | rfl | rfl
  · exact (show Tryz.prog.wantsStandIn 9 = false by kernel_rfl)
  · exact (show Tryz.prog.wantsStandIn 3 = false by kernel_rfl)
  · exact (show Tryz.prog.wantsStandIn 22 = false by kernel_rfl)

theorem topCobaltRounds_card : Rows.TopCobaltRoundsCardSaid :=
  Claim7.holds_tied_plain_at .later [] _ _ _ _ cob_said (fun _ h => by cases h) (by kernel_rfl) (fun _ h => by cases h) topCobaltRounds_row_tie rfl ⟨rfl, rfl⟩ (by kernel_rfl) rfl cob_plain (by kernel_rfl)
end Go.Proofs.YtnjbinpbkjdjpaaGreatDoor.Nm
