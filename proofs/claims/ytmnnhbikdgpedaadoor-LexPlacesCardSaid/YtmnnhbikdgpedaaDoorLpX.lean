/-
  WHAT IS PROVED: for every string s, every int p and every pair of ints, entaillaw03.LexPlaces(s, p, pair) returns true, without a panic, and each reads afterwards as it read before; the card ties the package variables entail/lex.keywords, entail/lex.signs, unicode/utf8.first and unicode/utf8.acceptRanges to the program's text.
  CONDITIONS: these variables hold at the call's start what the program's text lays (tied by the given tie); nothing else.
-/
import Derived.Test.YtmnnhbikdgpedaaDoorLpF
import Derived.Test.YtmnnhbikdgpedaaDoorLxW
import Derived.Test.YtmnnhbikdgpedaaDoorCards
import Derived.Test.YtmnnhbikdgpedaaDoorTie
import Derived.OpenShut
import Derived.Lib.LaidU8
namespace Go.Proofs.YtmnnhbikdgpedaaDoor.Lx
open Go.ChangeShapes Go.WideShapes Go.ChangeAt Go.RowKit
open Go.ChangeMaps (open_string shut_string)
set_option linter.unusedVariables false

/-- The world with the two tables of unicode/utf8 laid too. -/
noncomputable def laidWorld2 (os : Os) : World :=
  let put (h : Array Obj) (g : Nat) (cs : Array Value) : Array Obj := h.modify g fun
    | .cells _ t frozen => .cells cs t frozen
    | o => o
  let h1 := put (laidWorld os).heap 3 (Lib.firstTab.map fun z => Value.int .u8 z).toArray
  let h2 := put h1 4 ((List.range 16).flatMap fun i => [Value.int .u8 (Lib.accLo i), Value.int .u8 (Lib.accHi i)]).toArray
  { laidWorld os with heap := h2 }

set_option maxRecDepth 100000 in
theorem laid_met (os : Os) : laidMet Tryd.prog Rows.lexPlacesRow.laid ((laidWorld2 os).forCall (fun _ _ => 0) ⟨#[], #[.string ⟨#[]⟩, .int .i64 0, .agg #[.int .i64 0, .int .i64 0]], []⟩).memory :=
  laidMet_of_run' 8 (by kernel_rfl) (by kernel_rfl)
set_option maxRecDepth 100000 in
theorem reads (os : Os) {H : Type} (enc : TypeId × Value → H) : ∃ places, DataW.whole enc Tryd.prog ((laidWorld2 os).forCall (fun _ _ => 0) ⟨#[], #[.string ⟨#[]⟩, .int .i64 0, .agg #[.int .i64 0, .int .i64 0]], []⟩).memory Tryd.f7.params.toList Rows.lexPlacesSpec.vars false #[Value.string ⟨#[]⟩, Value.int .i64 0, Value.agg #[Value.int .i64 0, Value.int .i64 0]].toList 8 = some ([.lit (.string []), .lit (.int .i64 0), .agg [.lit (.int .i64 0), .lit (.int .i64 0)]], [], places) :=
  ⟨[], by kernel_rfl⟩

set_option maxRecDepth 100000 in
theorem env_of' {W : World} {rest : List (String × DataW Unit)} {ps : List MemPlace} (h : DataW.LaidVars Tryd.prog W (("entail/lex.keywords", Rows.laid_entail_lex_keywords) :: ("entail/lex.signs", Rows.laid_entail_lex_signs) :: rest) ps) (hsh : W.ShapedOpen Tryd.prog) : Env W := by
  rw [kwD, sgD] at h
  obtain ⟨h1, qs, h2⟩ := table_of_reads kwG kwT (by decide) h
  obtain ⟨h3, _⟩ := table_of_reads sgG sgT (by decide) h2
  exact ⟨h1, h3, mln_of hsh⟩

set_option maxRecDepth 100000 in
theorem open_int1 {W : World} {r : Reach} {base : Nat} {v : Value} (h : Value.okWide Tryd.prog W r base 3 v) : ∃ a : Int, v = .int .i64 a ∧ True := by
  obtain ⟨a, rfl⟩ := okWide_int Tryd.underlying3 h
  exact ⟨a, rfl, trivial⟩

set_option maxRecDepth 100000 in
theorem open_pair {W : World} {r : Reach} {base : Nat} {v : Value} (h : Value.okWide Tryd.prog W r base 50 v) : ∃ a b : Int, v = .agg #[.int .i64 a, .int .i64 b] ∧ (-9223372036854775808 ≤ a ∧ a < 9223372036854775808) ∧ (-9223372036854775808 ≤ b ∧ b < 9223372036854775808) := by
  unfold Value.okWide at h
  rw [Tryd.underlying50] at h
  obtain ⟨cs, rfl, hsz, ts, hts, _, hall⟩ := h
  rw [show Tryd.prog.cellTypes Tryd.prog.depth 50 = some [3, 3] by kernel_rfl] at hts
  cases hts
  rw [show Tryd.prog.cellsOf 50 = 2 by kernel_rfl] at hsz
  have hcell : ∀ v, Cell.okWide Tryd.prog W r base 3 v → ∃ a : Int, v = .int .i64 a ∧ -9223372036854775808 ≤ a ∧ a < 9223372036854775808 := by
    intro v hv
    unfold Cell.okWide at hv
    rw [Tryd.underlying3] at hv
    have hv2 : Cell.ok Tryd.prog W r base 3 v := by cases v <;> exact hv
    unfold Cell.ok at hv2
    rw [Tryd.underlying3] at hv2
    cases v with
    | int k a =>
      obtain ⟨rfl, h1⟩ := hv2
      refine ⟨a, rfl, ?_⟩
      have h2 : (-9223372036854775808 : Int) ≤ a ∧ a ≤ 9223372036854775807 := h1
      omega
    | _ => simp at hv2
  have h0 : cs[0]? = some cs[0] := Array.getElem?_eq_getElem (by omega)
  have h1 : cs[1]? = some cs[1] := Array.getElem?_eq_getElem (by omega)
  obtain ⟨u0, e0, k0⟩ := hall 0 _ h0
  obtain ⟨u1, e1, k1⟩ := hall 1 _ h1
  cases e0
  cases e1
  obtain ⟨a, ha, ha2⟩ := hcell _ k0
  obtain ⟨b, hb, hb2⟩ := hcell _ k1
  refine ⟨a, b, ?_, ha2, hb2⟩
  congr 1
  apply Array.ext (by simp [hsz])
  intro i h1 h2
  have : i = 0 ∨ i = 1 := by omega
  rcases this with rfl | rfl
  · exact ha
  · exact hb

set_option maxRecDepth 100000 in
theorem contract (H : Type) (enc : TypeId × Value → H) (W : World) (base : Nat) (args : Array Value) (ds gs : List (DataW H)) (before : List MemPlace)
    (hval : ∀ (j : Nat) t v, Tryd.f7.params[j]? = some t → args[j]? = some v → Value.okWide Tryd.prog W .any base t v)
    (hW : DataW.Whole enc Tryd.prog Tryd.f7.params.toList Rows.lexPlacesSpec.vars false W args.toList ds gs before) (hE : Env W) :
    Calls Tryd.prog 7 args W fun e W' => ∃ v, e = .returned v ∧ Rows.lexPlacesSpec.post enc Tryd.prog Tryd.f7 false true false false W args v W' := by
  have hW' := hW
  obtain ⟨p, q, hA0, hV, rfl, hfz, hnd⟩ := hW
  have hA : DataW.TrodAll enc Tryd.prog W 0 (fun _ => true) true Tryd.f7.params.toList args.toList ds p := hA0
  rw [Tryd.params7] at hA hval
  obtain ⟨v0, vs0, d0, ds0, p0, q0, hargs, rfl, rfl, h0, r0⟩ := trodAll_cons hA
  obtain ⟨v1, vs1, d1, ds1, p1, q1, hargs1, rfl, rfl, h1, r1⟩ := trodAll_cons r0
  obtain ⟨v2, vs2, d2, ds2, p2, q2, hargs2, rfl, rfl, h2, r2⟩ := trodAll_cons r1
  obtain ⟨rfl, rfl, rfl⟩ := trodAll_nil r2
  obtain rfl : args = #[v0, v1, v2] := by cases args; simp_all
  obtain ⟨rfl, rfl⟩ := trodVars_none hV
  obtain ⟨s, rfl, hd0, rfl, hsa⟩ := open_string Tryd.underlying9 (hval 0 9 v0 rfl rfl) h0
  obtain ⟨p, rfl, hp⟩ := open_int1 (hval 1 3 v1 rfl rfl)
  obtain ⟨line, col, rfl, ⟨l1, l2⟩, ⟨c1, c2⟩⟩ := open_pair (hval 2 50 v2 rfl rfl)
  clear hA0
  simp only [List.append_nil] at hW'
  refine (law_places s p line col l1 l2 c1 c2 W hE).mono fun e W' ⟨he, hg⟩ => ?_
  subst he
  exact ⟨_, rfl, post_law laidOut Tryd.underlying4 hW' (by kernel_rfl) rfl rfl rfl hg⟩

set_option maxRecDepth 100000 in
theorem lifted (os : Os) (started : os.Started) (H : Type) (enc : TypeId × Value → H) (F : Stop.Interp) :
    ReturnsInHanded {} Tryd.checked os 7 .any ((OpenSpec.ofChange Rows.lexPlacesSpec).preRow enc Tryd.prog Tryd.f7 Rows.lexPlacesRow.domain false Rows.lexPlacesRow.laid) (((OpenSpec.ofChange Rows.lexPlacesSpec).at F).post enc Tryd.prog Tryd.f7 false true false false) := by
  obtain ⟨places, hx⟩ := reads os enc
  refine returnsInHanded_of_row (C := Tryd.checked) (s := OpenSpec.ofChange Rows.lexPlacesSpec) ownK started (by kernel_rfl) Tryd.func7
    (witness_row_atRef (enc := enc) (C := Tryd.checked) false (laidWorld2 os) #[.string ⟨#[]⟩, .int .i64 0, .agg #[.int .i64 0, .int .i64 0]] rfl (by kernel_rfl) (by kernel_rfl) (by kernel_rfl)
      (OpenSpec.preRow_of_cond 8 hx (by kernel_rfl) (fun k hk => by cases hk) (by kernel_rfl) (laid_met os))) ?_
  intro W base args ds gs before hval hW _ _ _ hL hsh _
  obtain ⟨ps, hps, _⟩ := (show laidMet Tryd.prog Rows.lexPlacesRow.laid W from hL)
  obtain ⟨_, _, _, _, _, q, _, _, _, _, hrest, _⟩ := hps
  exact contract H enc W base args ds gs before hval hW (env_of' hrest hsh)

theorem said : Rows.LexPlacesSaid :=
  OpenClaim.holds_of_cond 7 Tryd.f7 rfl rfl rfl rfl rfl rfl rfl ⟨rfl, rfl, rfl, rfl, rfl⟩ rfl rfl rfl rfl rfl (by kernel_rfl) Tryd.func7 (by kernel_rfl)
    (of_decide_eq_true (by kernel_rfl)) (by unfold Func.isWrapper; first | (rw [if_pos (by decide +kernel)]; kernel_rfl) | (rw [if_neg (by decide +kernel)]; exact ⟨rfl, rfl⟩))
    (fun os started H enc _ F => by rw [OpenClaim.pre_eq_preRow]; exact lifted os started H enc F)

theorem plain (f : FuncId) (fn : Func) (hf : Tryd.pinned.checked.prog.funcNamed "entail/entaillaw03.LexPlaces" = some f) (hfn : Tryd.pinned.checked.prog.funcs[f]? = some fn) :
    false = Tryd.pinned.checked.prog.looks [] ∧ ∀ (j : Nat) t, fn.params[j]? = some t → Tryd.pinned.checked.prog.wantsStandIn t = false := by
  obtain rfl : f = 7 := Option.some.inj ((show Tryd.prog.funcNamed "entail/entaillaw03.LexPlaces" = some 7 by kernel_rfl).symm.trans hf) |>.symm
  obtain rfl : fn = Tryd.f7 := (Option.some.inj (Tryd.func7.symm.trans hfn)).symm
  refine ⟨by kernel_rfl, fun j t ht => ?_⟩
  rw [Tryd.params7] at ht
  have hm := Array.mem_of_getElem? ht
  simp only [List.mem_toArray, List.mem_cons, List.not_mem_nil, or_false] at hm
  rcases hm with rfl | rfl | rfl
  · exact (show Tryd.prog.wantsStandIn 9 = false by kernel_rfl)
  · exact (show Tryd.prog.wantsStandIn 3 = false by kernel_rfl)
  · exact (show Tryd.prog.wantsStandIn 50 = false by kernel_rfl)

theorem lexPlaces_card : Rows.LexPlacesCardSaid :=
  Claim7.holds_tied_plain_at .later [] _ _ _ _ said (fun _ h => by cases h) (by kernel_rfl) (fun _ h => by cases h) lexPlaces_row_tie rfl ⟨rfl, rfl⟩ (by kernel_rfl) rfl plain (by kernel_rfl)
end Go.Proofs.YtmnnhbikdgpedaaDoor.Lx
