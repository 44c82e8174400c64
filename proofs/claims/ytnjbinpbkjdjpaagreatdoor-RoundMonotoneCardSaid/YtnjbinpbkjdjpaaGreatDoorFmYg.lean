import Derived.Test.YtnjbinpbkjdjpaaGreatDoorP14
import Derived.Test.YtnjbinpbkjdjpaaGreatDoorCards
import Derived.Test.YtnjbinpbkjdjpaaGreatDoorTie
import Derived.Stop.Joined
/-
  WHAT IS PROVED: for all arguments, RoundMonotone returns true, without a panic; the card ties internal/strconv.uint64pow10 and the two tables of math/bits to the program's text.
  CONDITIONS: these variables hold at the call's start what the program's text lays (tied by the given tie); nothing else.
-/
namespace Go.Proofs.YtnjbinpbkjdjpaaGreatDoor.Nm
open Go.ChangeShapes Go.WideShapes Go.ChangeAt Go.RowKit
set_option linter.unusedVariables false

theorem mono_met (os : Os) : laidMet Tryz.prog laidL ((World.doorLaid Tryz.prog 77 os).forCall (fun _ _ => 0) ⟨#[], #[.string ⟨#[]⟩, .string ⟨#[]⟩], []⟩).memory :=
  laidMet_of_run' 8 (by kernel_rfl) (by kernel_rfl)
theorem mono_reads (os : Os) {H : Type} (enc : TypeId × Value → H) : ∃ places, DataW.whole enc Tryz.prog ((World.doorLaid Tryz.prog 77 os).forCall (fun _ _ => 0) ⟨#[], #[.string ⟨#[]⟩, .string ⟨#[]⟩], []⟩).memory Tryz.f10.params.toList Rows.roundMonotoneSpec.vars false #[Value.string ⟨#[]⟩, Value.string ⟨#[]⟩].toList 8 = some ([.lit (.string []), .lit (.string [])], [], places) :=
  ⟨[], by kernel_rfl⟩

set_option maxRecDepth 100000 in
theorem mono_contract (H : Type) (enc : TypeId × Value → H) (W : World) (base : Nat) (args : Array Value) (ds gs : List (DataW H)) (before : List MemPlace)
    (hval : ∀ (j : Nat) t v, Tryz.f10.params[j]? = some t → args[j]? = some v → Value.okWide Tryz.prog W .any base t v)
    (hW : DataW.Whole enc Tryz.prog Tryz.f10.params.toList Rows.roundMonotoneSpec.vars false W args.toList ds gs before) (hE : EN W) :
    Calls Tryz.prog 10 args W fun e W' => ∃ v, e = .returned v ∧ Rows.roundMonotoneSpec.post enc Tryz.prog Tryz.f10 false true false false W args v W' := by
  have hW' := hW
  obtain ⟨p, q, hA0, hV, rfl, hfz, hnd⟩ := hW
  have hA : DataW.TrodAll enc Tryz.prog W 0 (fun _ => true) true Tryz.f10.params.toList args.toList ds p := hA0
  rw [Tryz.params10] at hA hval
  obtain ⟨v0, vs0, d0, ds0, p0, q0, hargs0, rfl, rfl, h0, r0⟩ := trodAll_cons hA
  obtain ⟨v1, vs1, d1, ds1, p1, q1, hargs1, rfl, rfl, h1, r1⟩ := trodAll_cons r0
  obtain ⟨rfl, rfl, rfl⟩ := trodAll_nil r1
  obtain rfl : args = #[v0, v1] := by cases args; simp_all
  obtain ⟨rfl, rfl⟩ := trodVars_none hV
  obtain ⟨a, rfl, rfl, rfl, hsa⟩ := Go.ChangeMaps.open_string Tryz.underlying9 (hval 0 9 v0 rfl rfl) h0
  obtain ⟨b, rfl, rfl, rfl, hsb⟩ := Go.ChangeMaps.open_string Tryz.underlying9 (hval 1 9 v1 rfl rfl) h1
  clear hA0
  simp only [List.append_nil] at hW'
  refine (monoR_calls a b W hE).mono fun e W' ⟨he, hg⟩ => ?_
  subst he
  exact ⟨_, rfl, post_law laidOut Tryz.underlying4 hW' (by kernel_rfl) rfl rfl rfl hg⟩

set_option maxRecDepth 100000 in
theorem mono_lifted (os : Os) (started : os.Started) (H : Type) (enc : TypeId × Value → H) (F : Stop.Interp) :
    ReturnsInHanded {} Tryz.checked os 10 .any ((OpenSpec.ofChange Rows.roundMonotoneSpec).preRow enc Tryz.prog Tryz.f10 Rows.roundMonotoneRow.domain false Rows.roundMonotoneRow.laid) (((OpenSpec.ofChange Rows.roundMonotoneSpec).at F).post enc Tryz.prog Tryz.f10 false true false false) := by
  obtain ⟨places, hx⟩ := mono_reads os enc
  refine returnsInHanded_of_row (C := Tryz.checked) (s := OpenSpec.ofChange Rows.roundMonotoneSpec) ownK started (by kernel_rfl) Tryz.func10
    (witness_row_atRef (enc := enc) (C := Tryz.checked) false (World.doorLaid Tryz.prog 77 os) #[.string ⟨#[]⟩, .string ⟨#[]⟩] rfl (by kernel_rfl) (by kernel_rfl) (by kernel_rfl)
      (OpenSpec.preRow_of_cond 8 hx (by kernel_rfl) (fun k hk => by cases hk) (by kernel_rfl) (mono_met os))) ?_
  intro W base args ds gs before hval hW _ _ _ hL hsh _
  exact mono_contract H enc W base args ds gs before hval hW (env_of (show laidMet Tryz.prog laidL W from hL) hsh)

theorem mono_said : Rows.RoundMonotoneSaid :=
  OpenClaim.holds_of_cond 10 Tryz.f10 rfl rfl rfl rfl rfl rfl rfl ⟨rfl, rfl, rfl, rfl, rfl⟩ rfl rfl rfl rfl rfl (by kernel_rfl) Tryz.func10 (by kernel_rfl)
    (of_decide_eq_true (by kernel_rfl)) (by unfold Func.isWrapper; first | (rw [if_pos (by decide +kernel)]; kernel_rfl) | (rw [if_neg (by decide +kernel)]; exact ⟨rfl, rfl⟩))
    (fun os started H enc _ F => by rw [OpenClaim.pre_eq_preRow]; exact mono_lifted os started H enc F)

theorem mono_plain (f : FuncId) (fn : Func) (hf : Tryz.pinned.checked.prog.funcNamed "entail/entaillaw38.RoundMonotone" = some f) (hfn : Tryz.pinned.checked.prog.funcs[f]? = some fn) :
    false = Tryz.pinned.checked.prog.looks [] ∧ ∀ (j : Nat) t, fn.params[j]? = some t → Tryz.pinned.checked.prog.wantsStandIn t = false := by
  obtain rfl : f = 10 := Option.some.inj ((show Tryz.prog.funcNamed "entail/entaillaw38.RoundMonotone" = some 10 by kernel_rfl).symm.trans hf) |>.symm
  obtain rfl : fn = Tryz.f10 := (Option.some.inj (Tryz.func10.symm.trans hfn)).symm
  refine ⟨by kernel_rfl, fun j t ht => ?_⟩
  rw [Tryz.params10] at ht
  have : t = 9 ∨ t = 3 ∨ t = 22 := by
    match j, ht with
    | 0, ht => exact .inl (by simpa using ht.symm)
    | 1, ht => exact .inl (by simpa using ht.symm)
  rcases this with rfl | rfl | rfl
  · exact (show Tryz.prog.wantsStandIn 9 = false by kernel_rfl)
  · exact (show Tryz.prog.wantsStandIn 3 = false by kernel_rfl)
  · exact (show Tryz.prog.wantsStandIn 22 = false by kernel_rfl)

theorem roundMonotone_card : Rows.RoundMonotoneCardSaid :=
  Claim7.holds_tied_plain_at .later [] _ _ _ _ mono_said (fun _ h => by cases h) (by kernel_rfl) (fun _ h => by cases h) roundMonotone_row_tie rfl ⟨rfl, rfl⟩ (by kernel_rfl) rfl mono_plain (by kernel_rfl)
/- The contracts of the package that lie beside this law: literal_calls from32_any unit_calls to32_calls error_calls apply_quo apply_div mulX_good normX_calls mulR_good from128_good compareReal_calls mulReal_calls checkR_calls er_half er_rs to_same to_none rung_mono ord32_w near_rung neq_ex eql_ex zero_calls when2_calls frc_body frc_pos body_self minus_not body_extract beq_no beq_iff fm_frc fu_frc frc_half near_ok run_bits32 run_from32 cmpI_le qOpposite_calls qOver_calls pTimes_calls exact_calls norm_calls parts2_good parts1_bad ordz32 env_of post_law laidOut ownK Frc.cmp Frc.size2 minus_sgn re_zero reE_zero cmpI half_int cmp_scale cancel fd_frc opI_cases apply_kind apply_formA apply_formB apply_add apply_sub apply_mul addReal_calls subReal_calls divReal_calls er_same beq_toListBytes EF rs_frc rs_same  -/
end Go.Proofs.YtnjbinpbkjdjpaaGreatDoor.Nm
