import Derived.Test.YtnjbinpbkjdjpaaGreatDoorP14
import Derived.Test.YtnjbinpbkjdjpaaGreatDoorCards
import Derived.Test.YtnjbinpbkjdjpaaGreatDoorTie
import Derived.Stop.Joined
/-
  WHAT IS PROVED: for all arguments, RoundOperators returns true, without a panic; the card ties internal/strconv.uint64pow10 and the two tables of math/bits to the program's text.
  CONDITIONS: these variables hold at the call's start what the program's text lays (tied by the given tie); nothing else.
-/
namespace Go.Proofs.YtnjbinpbkjdjpaaGreatDoor.Nm
open Go.ChangeShapes Go.WideShapes Go.ChangeAt Go.RowKit
set_option linter.unusedVariables false

theorem ops_met (os : Os) : laidMet Tryz.prog laidL ((World.doorLaid Tryz.prog 77 os).forCall (fun _ _ => 0) ⟨#[], #[.int .u32 0, .int .u32 0], []⟩).memory :=
  laidMet_of_run' 8 (by kernel_rfl) (by kernel_rfl)
theorem ops_reads (os : Os) {H : Type} (enc : TypeId × Value → H) : ∃ places, DataW.whole enc Tryz.prog ((World.doorLaid Tryz.prog 77 os).forCall (fun _ _ => 0) ⟨#[], #[.int .u32 0, .int .u32 0], []⟩).memory Tryz.f6.params.toList Rows.roundOperatorsSpec.vars false #[Value.int .u32 0, Value.int .u32 0].toList 8 = some ([.lit (.int .u32 0), .lit (.int .u32 0)], [], places) :=
  ⟨[], by kernel_rfl⟩

set_option maxRecDepth 100000 in
theorem ops_contract (H : Type) (enc : TypeId × Value → H) (W : World) (base : Nat) (args : Array Value) (ds gs : List (DataW H)) (before : List MemPlace)
    (hval : ∀ (j : Nat) t v, Tryz.f6.params[j]? = some t → args[j]? = some v → Value.okWide Tryz.prog W .any base t v)
    (hW : DataW.Whole enc Tryz.prog Tryz.f6.params.toList Rows.roundOperatorsSpec.vars false W args.toList ds gs before) (hE : EN W) :
    Calls Tryz.prog 6 args W fun e W' => ∃ v, e = .returned v ∧ Rows.roundOperatorsSpec.post enc Tryz.prog Tryz.f6 false true false false W args v W' := by
  have hW' := hW
  obtain ⟨p, q, hA0, hV, rfl, hfz, hnd⟩ := hW
  have hA : DataW.TrodAll enc Tryz.prog W 0 (fun _ => true) true Tryz.f6.params.toList args.toList ds p := hA0
  rw [Tryz.params6] at hA hval
  obtain ⟨v0, vs0, d0, ds0, p0, q0, hargs0, rfl, rfl, h0, r0⟩ := trodAll_cons hA
  obtain ⟨v1, vs1, d1, ds1, p1, q1, hargs1, rfl, rfl, h1, r1⟩ := trodAll_cons r0
  obtain ⟨rfl, rfl, rfl⟩ := trodAll_nil r1
  obtain rfl : args = #[v0, v1] := by cases args; simp_all
  obtain ⟨rfl, rfl⟩ := trodVars_none hV
  obtain ⟨a, rfl, rfl, rfl, wa⟩ := open_int Tryz.underlying22 (hval 0 22 v0 rfl rfl) h0
  obtain ⟨b, rfl, rfl, rfl, wb⟩ := open_int Tryz.underlying22 (hval 1 22 v1 rfl rfl) h1
  clear hA0
  simp only [List.append_nil] at hW'
  have ba : 0 ≤ a ∧ a ≤ 4294967295 := by have := wa; simp [Lit.wf] at this; (try rw [show IntKind.u32.min = 0 from rfl] at this); (try rw [show IntKind.u32.max = 4294967295 from rfl] at this); omega
  obtain ⟨an, rfl⟩ : ∃ n : Nat, a = (n : Int) := ⟨a.toNat, by omega⟩
  have bb : 0 ≤ b ∧ b ≤ 4294967295 := by have := wb; simp [Lit.wf] at this; (try rw [show IntKind.u32.min = 0 from rfl] at this); (try rw [show IntKind.u32.max = 4294967295 from rfl] at this); omega
  obtain ⟨bn, rfl⟩ : ∃ n : Nat, b = (n : Int) := ⟨b.toNat, by omega⟩
  refine (opsR_calls an bn (by omega) (by omega) W hE).mono fun e W' ⟨he, hg⟩ => ?_
  subst he
  exact ⟨_, rfl, post_law laidOut Tryz.underlying4 hW' (by kernel_rfl) rfl rfl rfl hg⟩

set_option maxRecDepth 100000 in
theorem ops_lifted (os : Os) (started : os.Started) (H : Type) (enc : TypeId × Value → H) (F : Stop.Interp) :
    ReturnsInHanded {} Tryz.checked os 6 .any ((OpenSpec.ofChange Rows.roundOperatorsSpec).preRow enc Tryz.prog Tryz.f6 Rows.roundOperatorsRow.domain false Rows.roundOperatorsRow.laid) (((OpenSpec.ofChange Rows.roundOperatorsSpec).at F).post enc Tryz.prog Tryz.f6 false true false false) := by
  obtain ⟨places, hx⟩ := ops_reads os enc
  refine returnsInHanded_of_row (C := Tryz.checked) (s := OpenSpec.ofChange Rows.roundOperatorsSpec) ownK started (by kernel_rfl) Tryz.func6
    (witness_row_atRef (enc := enc) (C := Tryz.checked) false (World.doorLaid Tryz.prog 77 os) #[.int .u32 0, .int .u32 0] rfl (by kernel_rfl) (by kernel_rfl) (by kernel_rfl)
      (OpenSpec.preRow_of_cond 8 hx (by kernel_rfl) (fun k hk => by cases hk) (by kernel_rfl) (ops_met os))) ?_
  intro W base args ds gs before hval hW _ _ _ hL hsh _
  exact ops_contract H enc W base args ds gs before hval hW (env_of (show laidMet Tryz.prog laidL W from hL) hsh)

theorem ops_said : Rows.RoundOperatorsSaid :=
  OpenClaim.holds_of_cond 6 Tryz.f6 rfl rfl rfl rfl rfl rfl rfl ⟨rfl, rfl, rfl, rfl, rfl⟩ rfl rfl rfl rfl rfl (by kernel_rfl) Tryz.func6 (by kernel_rfl)
    (of_decide_eq_true (by kernel_rfl)) (by unfold Func.isWrapper; first | (rw [if_pos (by decide +kernel)]; kernel_rfl) | (rw [if_neg (by decide +kernel)]; exact ⟨rfl, rfl⟩))
    (fun os started H enc _ F => by rw [OpenClaim.pre_eq_preRow]; exact ops_lifted os started H enc F)

theorem ops_plain (f : FuncId) (fn : Func) (hf : Tryz.pinned.checked.prog.funcNamed "entail/entaillaw38.RoundOperators" = some f) (hfn : Tryz.pinned.checked.prog.funcs[f]? = some fn) :
    false = Tryz.pinned.checked.prog.looks [] ∧ ∀ (j : Nat) t, fn.params[j]? = some t → Tryz.pinned.checked.prog.wantsStandIn t = false := by
  obtain rfl : f = 6 := Option.some.inj ((show Tryz.prog.funcNamed "entail/entaillaw38.RoundOperators" = some 6 by kernel_rfl).symm.trans hf) |>.symm
  obtain rfl : fn = Tryz.f6 := (Option.some.inj (Tryz.func6.symm.trans hfn)).symm
  refine ⟨by kernel_rfl, fun j t ht => ?_⟩
  rw [Tryz.params6] at ht
  have : t = 9 ∨ t = 3 ∨ t = 22 := by
    match j, ht with
    | 0, ht => exact .inr (.inr (by simpa using ht.symm))
    | 1, ht => exact .inr (.inr (by simpa using ht.symm))
  rcases this with rfl | rfl | rfl
  · exact (show Tryz.prog.wantsStandIn 9 = false by kernel_rfl)
  · exact (show Tryz.prog.wantsStandIn 3 = false by kernel_rfl)
  · exact (show Tryz.prog.wantsStandIn 22 = false by kernel_rfl)

theorem roundOperators_card : Rows.RoundOperatorsCardSaid :=
  Claim7.holds_tied_plain_at .later [] _ _ _ _ ops_said (fun _ h => by cases h) (by kernel_rfl) (fun _ h => by cases h) roundOperators_row_tie rfl ⟨rfl, rfl⟩ (by kernel_rfl) rfl ops_plain (by kernel_rfl)
/- The contracts of the package that lie beside this law: literal_calls from32_any unit_calls to32_calls error_calls apply_quo apply_div mulX_good normX_calls mulR_good from128_good compareReal_calls mulReal_calls checkR_calls er_half er_rs to_same to_none rung_mono ord32_w near_rung neq_ex eql_ex zero_calls when2_calls frc_body frc_pos body_self minus_not body_extract beq_no beq_iff fm_frc fu_frc frc_half near_ok run_bits32 run_from32 cmpI_le qOpposite_calls qOver_calls pTimes_calls exact_calls norm_calls parts2_good parts1_bad ordz32 env_of post_law laidOut ownK Frc.cmp Frc.size2 minus_sgn re_zero reE_zero cmpI half_int cmp_scale cancel fd_frc opI_cases apply_kind apply_formA apply_formB apply_add apply_sub apply_mul addReal_calls subReal_calls divReal_calls er_same beq_toListBytes EF rs_frc rs_same rs_err -/
end Go.Proofs.YtnjbinpbkjdjpaaGreatDoor.Nm
