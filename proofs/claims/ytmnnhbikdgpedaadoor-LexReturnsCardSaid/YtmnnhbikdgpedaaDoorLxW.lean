/- What the row gives: the two tables lie in memory; and a world for the witness. -/
import Derived.Test.YtmnnhbikdgpedaaDoorLxD
import Derived.Test.YtmnnhbikdgpedaaDoorRows
import Derived.Deep.DeepHandedRow
import Derived.Deep.DeepWitnessRowRef
import Derived.Lib.LaidTab
import Derived.Lib.LaidIn
import Derived.ProofKit
import Derived.SizedLaws
import Derived.SliceStrings
import Derived.Carry
namespace Go.Proofs.YtmnnhbikdgpedaaDoor.Lx
open Go.ChangeShapes Go.WideShapes Go.ChangeAt Go.RowKit
set_option linter.unusedVariables false
set_option linter.unusedSimpArgs false

theorem strs_inj : ∀ (xs ys : List ByteArray), (strs xs : List (DataW Unit)) = strs ys → xs = ys
  | [], [], _ => rfl
  | [], _ :: _, h => by simp [strs] at h
  | _ :: _, [], h => by simp [strs] at h
  | x :: xs, y :: ys, h => by
    simp only [strs, List.map_cons, List.cons.injEq, DataW.lit.injEq, Lit.string.injEq] at h
    have h2 := strs_inj xs ys h.2
    have h1 : x = y := by
      cases x; cases y
      simp only [ByteArray.mk.injEq]
      exact Array.toList_inj.1 h.1
    rw [h1, h2]

theorem addr_plain (R o j : Nat) : (⟨R, o, none⟩ : Addr).add j = ⟨R, o + j, none⟩ := by unfold Addr.add; split <;> simp_all
theorem cell_spot' {w : World} {b o : Nat} {sp : Option Nat} {v : Value} (h : w.cell? ⟨b, o, sp⟩ = some v) : sp = none := by
  unfold World.cell? at h
  split at h
  · cases sp with
    | none => rfl
    | some x => simp at h
  · cases h

/-- A listed variable that is a slice of strings, in memory. -/
theorem table_of_reads {W : World} {name : String} {g : Nat} {L : List ByteArray} {rest : List (String × DataW Unit)} {ps : List MemPlace} (hn : Tryd.prog.globalNamed name = some g) (hy : (Tryd.prog.globals[g]?).map (·.type) = some 33) (hl : 0 < L.length)
    (h : DataW.LaidVars Tryd.prog W ((name, .slice (strs L) []) :: rest) ps) :
    (∃ b off c, W.cell? ⟨g, 0, none⟩ = some (.slice (some ⟨b, off, none⟩) L.length c) ∧ ∀ j, j < L.length → W.cell? ⟨b, off + j, none⟩ = some (.string (L.getD j ByteArray.empty))) ∧ ∃ qs, DataW.LaidVars Tryd.prog W rest qs := by
  obtain ⟨g', t', cs, fuel, p, q, hg, hty, hvar, hd, hrest, _⟩ := h
  refine ⟨?_, q, hrest⟩
  obtain rfl := Option.some.inj (hn.symm.trans hg)
  obtain rfl := Option.some.inj (hy.symm.trans hty)
  rcases open_strings Tryd.underlying33 Tryd.underlying9 (show Tryd.prog.cellsOf 9 = 1 by kernel_rfl) hd with ⟨_, hx⟩ | ⟨a, len, cap, ss, hcs, _, hlc, _, hlen, hx, hcell, _⟩
  · cases hx
  · have e0 := congrArg Prod.fst hx
    simp only [DataW.slice.injEq] at e0
    obtain ⟨e1, e2⟩ := e0
    have e3 := strs_inj _ _ e1
    have e4 : ss.drop len = [] := (strs_inj _ _ (show (strs [] : List (DataW Unit)) = strs (ss.drop len) from e2)).symm
    have e5 : L = ss := e3.trans (by have := List.take_append_drop len ss; rw [e4, List.append_nil] at this; exact this)
    subst e5
    have hlen2 : len = L.length := by
      have : L.length ≤ len := by
        have := congrArg List.length e4
        simp at this
        omega
      have h3 := congrArg List.length e3
      rw [List.length_take] at h3
      simp only [if_pos] at hlen
      omega
    obtain ⟨R, o, sR⟩ := a
    obtain rfl : sR = none := by
      have h00 := hcell 0 hl
      have : (Addr.add ⟨R, o, sR⟩ 0) = ⟨R, o, sR⟩ := by simp [Addr.add]
      rw [this] at h00
      exact cell_spot' h00
    refine ⟨R, o, cap, ?_, fun j hj => ?_⟩
    · rw [World.var?_cell hg hvar 0, ← Array.getElem?_toList, hcs, hlen2]
      rfl
    · have := hcell j hj
      rw [addr_plain] at this
      exact this

theorem kwG : Tryd.prog.globalNamed "entail/lex.keywords" = some 0 := by kernel_rfl
theorem sgG : Tryd.prog.globalNamed "entail/lex.signs" = some 1 := by kernel_rfl
theorem kwT : (Tryd.prog.globals[0]?).map (·.type) = some 33 := by kernel_rfl
theorem sgT : (Tryd.prog.globals[1]?).map (·.type) = some 33 := by kernel_rfl
theorem kwD : (Rows.laid_entail_lex_keywords : DataW Unit) = .slice (strs keywordsL) [] := rfl
theorem sgD : (Rows.laid_entail_lex_signs : DataW Unit) = .slice (strs signsL) [] := rfl

set_option maxRecDepth 100000 in
theorem mln_of {W : World} (h : W.ShapedOpen Tryd.prog) : ∃ m, W.cell? ⟨2, 0, none⟩ = some (.int .i64 m) := by
  obtain ⟨cs, hh, hs, hr⟩ := h.1 2 #[.int .i64 0] 3 (by decide +kernel) (by kernel_rfl)
  obtain ⟨ts, hts, _, hall⟩ := hr (by kernel_rfl)
  have hts2 : Tryd.prog.cellTypes Tryd.prog.depth 3 = some [3] := by kernel_rfl
  rw [hts2] at hts
  cases hts
  have h1 : 0 < cs.size := by rw [hs]; decide
  obtain ⟨u, hu', hok⟩ := hall 0 cs[0] (Array.getElem?_eq_getElem h1)
  have : u = 3 := (Option.some.inj (show some 3 = some u from hu')).symm
  subst this
  have hcell : W.cell? ⟨2, 0, none⟩ = some cs[0] := by
    unfold World.cell?
    rw [hh]
    exact Array.getElem?_eq_getElem h1
  rw [hcell]
  unfold Cell.ok at hok
  rw [Tryd.underlying3] at hok
  cases hv : cs[0] <;> rw [hv] at hok <;> first | (simp at hok; done) | (rename_i k a; simp at hok; exact ⟨a, by rw [hok.1]⟩) | skip

theorem env_of {W : World} {ps : List MemPlace} (h : DataW.LaidVars Tryd.prog W [("entail/lex.keywords", Rows.laid_entail_lex_keywords), ("entail/lex.signs", Rows.laid_entail_lex_signs)] ps) (hsh : W.ShapedOpen Tryd.prog) : Env W := by
  rw [kwD, sgD] at h
  obtain ⟨h1, qs, h2⟩ := table_of_reads kwG kwT (by decide) h
  obtain ⟨h3, _⟩ := table_of_reads sgG sgT (by decide) h2
  exact ⟨h1, h3, mln_of hsh⟩
/-! ### what a law's row asks behind the call: it answered true, and nothing that was there has turned -/
theorem args_below {H : Type} {enc : TypeId × Value → H} {P : Program} (hl : laidOutB P = true) {W W' : World} (hb : Below W.heap.size W W') :
    ∀ {ts : List TypeId} {vs : List Value} {ds : List (DataW H)} {ps : List MemPlace}, (ts.all fun t => P.readableRec t && decide (t < P.types.size)) = true → (∀ x ∈ ps, x.block < W.heap.size) →
      DataW.TrodAll enc P W 0 (fun _ => true) true ts vs ds ps → DataW.TrodAll enc P W' 0 (fun b => decide (b < W.heap.size)) true ts vs ds ps
  | [], [], [], _, _, _, h => h
  | t :: ts, v :: vs, d :: ds, _, ht, hlt, ⟨p, q, h1, h2, e⟩ => by
    simp only [List.all_cons, Bool.and_eq_true, decide_eq_true_eq] at ht
    exact ⟨p, q, Below.trod hl ht.1.1 ht.1.2 h1 hb (fun x hx => hlt x (by rw [e]; exact List.mem_append_left _ hx)), args_below hl hb (by rw [List.all_eq_true]; intro x hx; simpa using List.all_eq_true.mp ht.2 x hx) (fun x hx => hlt x (by rw [e]; exact List.mem_append_right _ hx)) h2, e⟩

theorem post_law {H : Type} {enc : TypeId × Value → H} {P : Program} {f : Func} {s : ChangeSpec} {W W' : World} {args : Array Value} {ds gs : List (DataW H)} {before : List MemPlace} (hl : laidOutB P = true) (h4 : P.underlying 4 = some .bool)
    (hW : DataW.Whole enc P f.params.toList s.vars false W args.toList ds gs before) (ht : (f.params.toList.all fun t => P.readableRec t && decide (t < P.types.size)) = true)
    (hv : s.vars = []) (hs : s.fn H ds = { results := [.lit (.bool true)], args := ds }) (hr : f.resultTypes = #[4]) (hb : Below W.heap.size W W') :
    s.post enc P f false true false false W args (.bool true) W' := by
  have hlt : ∀ p ∈ before, p.block < W.heap.size := fun p hp => hW.lt p hp
  have hW' := hW
  obtain ⟨p, q, hA, hV, rfl, _, _⟩ := hW
  rw [hv] at hV
  obtain ⟨rfl, rfl⟩ := trodVars_none hV
  rw [List.append_nil] at hlt hW'
  refine ⟨ds, [], p, [], p, [], hW', ?_, ?_, ?_, World.keptBut_mono (fun x hx => ⟨hx, .inr (.inl hx)⟩) (hb.frame (· ∈ p)), fun h => by cases h⟩
  · rw [List.append_nil, hs, hr]
    exact trodAll_cons_mk (shut_bool h4 _) trodAll_mk0
  · rw [List.append_nil, hs]
    exact args_below hl hb ht hlt hA
  · rw [List.append_nil, hs, hv]
    trivial
theorem laidOut : laidOutB Tryd.prog = true := by kernel_rfl

/-! ### a world for the witness -/
theorem ownK : ownKnob Tryd.prog.godebug = none := by kernel_rfl

/-- The settled world with two blocks more, the two tables holding what their initialisers lay. -/
noncomputable def laidWorld (os : Os) : World :=
  let N := (World.settled Tryd.prog os).heap.size
  let w0 := World.holding Tryd.prog os ⟨#[.cells (keywordsL.map Value.string).toArray 9, .cells (signsL.map Value.string).toArray 9], #[], []⟩
  let put (h : Array Obj) (g : Nat) (cs : Array Value) : Array Obj := h.modify g fun
    | .cells _ t frozen => .cells cs t frozen
    | o => o
  let h1 := put w0.heap 0 #[.slice (some ⟨N, 0, none⟩) 57 57]
  let h2 := put h1 1 #[.slice (some ⟨N + 1, 0, none⟩) 39 39]
  { w0 with heap := h2 }
end Go.Proofs.YtmnnhbikdgpedaaDoor.Lx
