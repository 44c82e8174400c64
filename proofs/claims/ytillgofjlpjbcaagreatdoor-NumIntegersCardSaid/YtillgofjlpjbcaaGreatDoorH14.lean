import Derived.Test.YtillgofjlpjbcaaGreatDoorH12
import Derived.Test.YtillgofjlpjbcaaGreatDoorRows
import Derived.Deep.DeepHandedRow
import Derived.Deep.DeepWitnessRowRef
import Derived.Lib.LaidTab
import Derived.Lib.LaidU8
import Derived.Lib.LaidIn
import Derived.LaidHandle
import Derived.LaidMore
import Derived.ProofKit
import Derived.SizedLaws
import Derived.OpenShut
import Derived.Carry
/- Own text: contracts and laws on which the card rests (NoK). -/
set_option linter.unusedVariables false
set_option linter.unusedSimpArgs false
set_option maxRecDepth 1000000
set_option maxHeartbeats 16000000
namespace Go.Proofs.YtillgofjlpjbcaaGreatDoor.Nm
section
open Go.ChangeAt Go.ChangeShapes Go.Proofs.YtillgofjlpjbcaaGreatDoorW.PrintLast Go.Proofs.YtillgofjlpjbcaaGreatDoorW.PrintMore Go.Proofs.YtillgofjlpjbcaaGreatDoorW.PrintWords Go.RowKit Go.WideShapes
/-- The variables that the rows list. -/
def laidL : List (String × DataW Unit) := [("math/bits.deBruijn32tab", Rows.laid_math_bits_deBruijn32tab), ("math/bits.deBruijn64tab", Rows.laid_math_bits_deBruijn64tab), ("internal/strconv.uint64pow10", Rows.laid_internal_strconv_uint64pow10), ("strconv.ErrRange", Rows.laid_strconv_ErrRange), ("strconv.ErrSyntax", Rows.laid_strconv_ErrSyntax), ("entail/num.bitOps", Rows.laid_entail_num_bitOps)]
theorem mln_of {W : World} (h : W.ShapedOpen Tryz.prog) : ∃ m, W.cell? ⟨4, 0, none⟩ = some (.int .i64 m) := by
 obtain ⟨cs, hh, hs, hr⟩ := h.1 4 #[.int .i64 0] 3 (by decide +kernel) (by kernel_rfl)
 obtain ⟨ts, hts, _, hall⟩ := hr (by kernel_rfl)
 have hts2 : Tryz.prog.cellTypes Tryz.prog.depth 3 = some [3] := by kernel_rfl
 rw [hts2] at hts
 cases hts
 have h1 : 0 < cs.size := by rw [hs]; decide
 obtain ⟨u, hu', hok⟩ := hall 0 cs[0] (Array.getElem?_eq_getElem h1)
 have : u = 3 := (Option.some.inj (show some 3 = some u from hu')).symm
 subst this
 have hcell : W.cell? ⟨4, 0, none⟩ = some cs[0] := by
  unfold World.cell?
  rw [hh]
  exact Array.getElem?_eq_getElem h1
 rw [hcell]
 unfold Cell.ok at hok
 rw [Tryz.underlying3] at hok
 cases hv : cs[0] <;> rw [hv] at hok <;> first | (simp at hok; done) | (rename_i k a; simp at hok; exact ⟨a, by rw [hok.1]⟩) | skip
theorem iface_of_trod {P : Program} {w : World} {fuel : Nat} {t : TypeId} {ms : Array (String × TypeId)} {cs : List Value} {name : String} {d : DataW Unit} {p : List MemPlace} (hu : P.underlying t = some (.interface ms))
 (h : DataW.trod (fun _ => ()) P w 0 (fun _ => true) false fuel t cs = some (.iface name d, p)) : ∃ tp q, cs = [.iface tp q] := by
 cases fuel with
 | zero => simp [DataW.trod] at h
 | succ f =>
   unfold DataW.trod at h
   rw [hu] at h
   cases cs with
   | nil => simp at h
   | cons v r =>
     cases r with
     | cons v' r' => cases v <;> simp at h
     | nil =>
       cases v <;> simp at h
       exact ⟨_, _, rfl⟩
theorem err_of {P : Program} {W : World} {n : String} {ms : Array (String × TypeId)} {g t : Nat} {name : String} {d : DataW Unit} (hn : P.globalNamed n = some g) (ht : (P.globals[g]?).map (·.type) = some t) (hu : P.underlying t = some (.interface ms))
 (h : Lib.VarReads P W n (.iface name d)) : ∃ tp p, W.var? P n = some #[.iface tp p] := by
 obtain ⟨g', t', cs, fuel, p, h1, h2, h3, h4⟩ := h
 obtain rfl := Option.some.inj (hn.symm.trans h1)
 obtain rfl := Option.some.inj (ht.symm.trans h2)
 obtain ⟨tp, q, e⟩ := iface_of_trod hu h4
 exact ⟨tp, q, by rw [h3]; congr 1; exact Array.eq_one_of_toList e⟩
theorem tens_of {P : Program} {W : World} {n : String} {g t e m : Nat} {k : IntKind} {zs : List Int} (hn : P.globalNamed n = some g) (ht : (P.globals[g]?).map (·.type) = some t) (hu : P.underlying t = some (.array m e)) (he : P.underlying e = some (.int k)) (hce : P.cellsOf e = 1) (hct : P.cellsOf t = m)
 (h : Lib.VarReads P W n (Lib.tabData k zs)) : Lib.TabIs P W n k zs := by
 obtain ⟨g', t', cs, fuel, p, h1, h2, h3, h4⟩ := h
 obtain rfl := Option.some.inj (hn.symm.trans h1)
 obtain rfl := Option.some.inj (ht.symm.trans h2)
 have := Lib.cells_of_tab hu he hce hct h4
 unfold Lib.TabIs
 rw [h3, ← this]
/-- The operations' table, cell for cell. -/
theorem ops_of {P : Program} {W : World} {n : String} {g t e tf tb m : Nat} {f0 f1 : Field} {fs : Array Field} {ps rs : Array TypeId} {va : Bool} {ds : List (DataW Unit)} {names : List (UInt8 × List UInt8 × Bool)}
 (hn : P.globalNamed n = some g) (ht : (P.globals[g]?).map (·.type) = some t) (hu : P.underlying t = some (.array m e)) (he : P.underlying e = some (.struct fs)) (hfs : fs.size = 2) (hf0 : fs[0]? = some f0) (hf1 : fs[1]? = some f1)
 (h00 : f0.offset = 0) (h10 : f1.offset = 1) (ht0 : f0.type = tf) (ht1 : f1.type = tb) (hcf : P.cellsOf tf = 1) (hcb : P.cellsOf tb = 1) (hce : P.cellsOf e = 2) (hct : P.cellsOf t = m * 2) (huf : P.underlying tf = some (.func ps rs va)) (hub : P.underlying tb = some .bool)
 (hd : DataW.funcsOut (.agg ds) = .agg (names.map fun x => .agg [.held (x.1 :: x.2.1), .lit (.bool x.2.2)])) (hnl : names.length = m)
 (h : funcsAt P W n (.agg ds)) : ∀ (i : Nat) (x : UInt8 × List UInt8 × Bool), names[i]? = some x → ∀ f, ((List.range P.funcs.size).filter fun f => (P.funcs[f]?).any (·.name.toUTF8.data.toList == x.1 :: x.2.1)) = [f] →
   W.cell? ⟨g, 2 * i, none⟩ = some (.func (.func f) #[] #[]) ∧ W.cell? ⟨g, 2 * i + 1, none⟩ = some (.bool x.2.2) := by
 obtain ⟨g', t', cs, fuel, p, h1, h2, h3, h4⟩ := h
 obtain rfl := Option.some.inj (hn.symm.trans h1)
 obtain rfl := Option.some.inj (ht.symm.trans h2)
 rw [hd] at h4
 intro i x hx f hf
 obtain ⟨xs, k, rfl, hxs, hl, hxl, hall⟩ := DataW.trod_array hu h4
 have hi : i < m := by rw [← hnl]; exact (List.getElem?_eq_some_iff.1 hx).1
 have hxe : xs.map (·.1) = names.map fun x => (.agg [.held (x.1 :: x.2.1), .lit (.bool x.2.2)] : DataW (List UInt8)) := by
  have := congrArg Prod.fst hxs
  simpa using this.symm
 have h5 := hall i hi
 obtain ⟨y, hy⟩ : ∃ y, xs[i]? = some y := ⟨xs[i]'(by omega), List.getElem?_eq_getElem (by omega)⟩
 rw [hy, hce] at h5
 have hy1 : y.1 = .agg [.held (x.1 :: x.2.1), .lit (.bool x.2.2)] := by
  have h6 : (xs.map (·.1))[i]? = some y.1 := by simp [hy]
  rw [hxe] at h6
  simp only [List.getElem?_map, hx, Option.map_some, Option.some.injEq] at h6
  exact h6.symm
 obtain ⟨zs, k2, rfl, hz, hzl, hzs, hzall⟩ := DataW.trod_struct he h5
 have hz1 : zs.map (·.1) = [.held (x.1 :: x.2.1), .lit (.bool x.2.2)] := by
  have := congrArg Prod.fst hz
  rw [hy1] at this
  simpa using this.symm
 have a0 := hzall 0 f0 hf0
 have a1 := hzall 1 f1 hf1
 rw [h00, ht0, hcf] at a0
 rw [h10, ht1, hcb] at a1
 obtain ⟨z0, z1, rfl⟩ : ∃ z0 z1, zs = [z0, z1] := by
  have hzl2 : zs.length = 2 := by have := congrArg List.length hz1; simpa using this
  match zs, hzl2 with
  | [z0, z1], _ => exact ⟨z0, z1, rfl⟩
 ·simp only [List.map_cons, List.map_nil, List.cons.injEq, and_true] at hz1
  simp only [List.getElem?_cons_zero, List.getElem?_cons_succ] at a0 a1
  have hcl : cs.toList.length = m * 2 := by rw [hl, hct]
  have hlt0 : i * 2 < cs.toList.length := by omega
  have hlt1 : i * 2 + 1 < cs.toList.length := by omega
  have b0 : ((cs.toList.drop (i * 2)).take 2).drop 0 = [cs.toList[i * 2], cs.toList[i * 2 + 1]] := by
   rw [List.drop_eq_getElem_cons hlt0, List.drop_eq_getElem_cons hlt1]; rfl
  have b1 : (((cs.toList.drop (i * 2)).take 2).drop 0).take 1 = [cs.toList[i * 2]] := by rw [b0]; rfl
  have b2 : (((cs.toList.drop (i * 2)).take 2).drop 1).take 1 = [cs.toList[i * 2 + 1]] := by
   rw [show ((cs.toList.drop (i * 2)).take 2).drop 1 = (((cs.toList.drop (i * 2)).take 2).drop 0).drop 1 by simp, b0]; rfl
  rw [b1] at a0
  rw [b2] at a1
  have c0 := func_of_trod (v := cs.toList[i * 2]) huf hf (q := z0.2) (by rw [a0]; rw [← hz1.1])
  have c1 : cs.toList[i * 2 + 1] = .bool x.2.2 := by
   cases k2 with
   | zero => simp [DataW.trod] at a1
   | succ k3 =>
     unfold DataW.trod at a1
     rw [hub] at a1
     cases hv : cs.toList[i * 2 + 1] <;> rw [hv] at a1 <;> simp at a1
     have := congrArg Prod.fst a1
     rw [hz1.2] at this
     simp at this
     rw [this]
  have v0 := World.var?_cell h1 h3 (i * 2)
  have v1 := World.var?_cell h1 h3 (i * 2 + 1)
  rw [Nat.mul_comm 2 i]
  rw [v0, v1, ← Array.getElem?_toList, ← Array.getElem?_toList, List.getElem?_eq_getElem hlt0, List.getElem?_eq_getElem hlt1, c0, c1]
  exact ⟨rfl, rfl⟩
def opNames : List (UInt8 × List UInt8 × Bool) := [(101, [110, 116, 97, 105, 108, 47, 110, 117, 109, 46, 98, 105, 116, 79, 112, 115, 36, 49], false), (101, [110, 116, 97, 105, 108, 47, 110, 117, 109, 46, 98, 105, 116, 79, 112, 115, 36, 50], false), (101, [110, 116, 97, 105, 108, 47, 110, 117, 109, 46, 98, 105, 116, 79, 112, 115, 36, 51], false), (101, [110, 116, 97, 105, 108, 47, 110, 117, 109, 46, 98, 105, 116, 79, 112, 115, 36, 52], true), (101, [110, 116, 97, 105, 108, 47, 110, 117, 109, 46, 98, 105, 116, 79, 112, 115, 36, 53], true), (101, [110, 116, 97, 105, 108, 47, 110, 117, 109, 46, 98, 105, 116, 79, 112, 115, 36, 54], false), (101, [110, 116, 97, 105, 108, 47, 110, 117, 109, 46, 98, 105, 116, 79, 112, 115, 36, 55], false), (101, [110, 116, 97, 105, 108, 47, 110, 117, 109, 46, 98, 105, 116, 79, 112, 115, 36, 56], false), (101, [110, 116, 97, 105, 108, 47, 110, 117, 109, 46, 98, 105, 116, 79, 112, 115, 36, 57], false), (101, [110, 116, 97, 105, 108, 47, 110, 117, 109, 46, 98, 105, 116, 79, 112, 115, 36, 49, 48], false)]
def opsD : List (DataW Unit) := match (Rows.laid_entail_num_bitOps : DataW Unit) with
 | .iface _ (.agg l) => l
 | _ => []
theorem opsD_eq : (Rows.laid_entail_num_bitOps : DataW Unit) = .iface "func table" (.agg opsD) := rfl
theorem opsD_out : DataW.funcsOut (.agg opsD) = .agg (opNames.map fun x => .agg [.held (x.1 :: x.2.1), .lit (.bool x.2.2)]) := rfl
theorem opG : Tryz.prog.globalNamed "entail/num.bitOps" = some 0 := by kernel_rfl
theorem opT : (Tryz.prog.globals[0]?).map (·.type) = some 130 := by kernel_rfl
theorem ops_laid {W : World} (h : funcsAt Tryz.prog W "entail/num.bitOps" (.agg opsD)) : ∀ j : Nat, j < 10 → W.cell? ⟨0, 2 * j, none⟩ = some (.func (.func (221 + j)) #[] #[]) ∧ W.cell? ⟨0, 2 * j + 1, none⟩ = some (.bool (decide (j = 3 ∨ j = 4))) := by
 have H := ops_of (P := Tryz.prog) (W := W) (m := 10) (tf := 128) (tb := 4) opG opT Tryz.underlying130 Tryz.underlying129 rfl rfl rfl rfl rfl rfl rfl (by kernel_rfl) (by kernel_rfl) (by kernel_rfl) (by kernel_rfl) Tryz.underlying128 Tryz.underlying4 opsD_out rfl h
 intro j hj
 match j, hj with
 | 0, _ => exact H 0 _ rfl (221 + 0) (by kernel_rfl)
 | 1, _ => exact H 1 _ rfl (221 + 1) (by kernel_rfl)
 | 2, _ => exact H 2 _ rfl (221 + 2) (by kernel_rfl)
 | 3, _ => exact H 3 _ rfl (221 + 3) (by kernel_rfl)
 | 4, _ => exact H 4 _ rfl (221 + 4) (by kernel_rfl)
 | 5, _ => exact H 5 _ rfl (221 + 5) (by kernel_rfl)
 | 6, _ => exact H 6 _ rfl (221 + 6) (by kernel_rfl)
 | 7, _ => exact H 7 _ rfl (221 + 7) (by kernel_rfl)
 | 8, _ => exact H 8 _ rfl (221 + 8) (by kernel_rfl)
 | 9, _ => exact H 9 _ rfl (221 + 9) (by kernel_rfl)
theorem laidL_data : (laidL.filter fun x => x.2.handleName?.isNone) = [("math/bits.deBruijn32tab", Rows.laid_math_bits_deBruijn32tab), ("math/bits.deBruijn64tab", Rows.laid_math_bits_deBruijn64tab), ("internal/strconv.uint64pow10", Rows.laid_internal_strconv_uint64pow10), ("strconv.ErrRange", Rows.laid_strconv_ErrRange), ("strconv.ErrSyntax", Rows.laid_strconv_ErrSyntax)] := by kernel_rfl
theorem laidL_hand : (laidL.filter fun x => x.2.handleName?.isSome) = [("entail/num.bitOps", Rows.laid_entail_num_bitOps)] := by kernel_rfl
theorem laidH_data {W : World} (h : laidMetH Tryz.prog laidL W) : laidMet Tryz.prog [("math/bits.deBruijn32tab", Rows.laid_math_bits_deBruijn32tab), ("math/bits.deBruijn64tab", Rows.laid_math_bits_deBruijn64tab), ("internal/strconv.uint64pow10", Rows.laid_internal_strconv_uint64pow10), ("strconv.ErrRange", Rows.laid_strconv_ErrRange), ("strconv.ErrSyntax", Rows.laid_strconv_ErrSyntax)] W := by
 unfold laidMetH at h
 rw [laidL_hand, laidL_data] at h
 exact h.1
theorem pow10D : (Rows.laid_internal_strconv_uint64pow10 : DataW Unit) = Lib.tabData .u64 Lib.pow10Tab := by kernel_rfl
theorem env_of {W : World} (h : laidMetH Tryz.prog laidL W) (hsh : W.ShapedOpen Tryz.prog) : EN W := by
 have hd := laidH_data h
 have hf : funcsAt Tryz.prog W "entail/num.bitOps" (.agg opsD) := h.funcs (by rw [← opsD_eq]; unfold laidL; simp)
 have r1 := Lib.laidMet.reads hd (n := "internal/strconv.uint64pow10") (d := Rows.laid_internal_strconv_uint64pow10) (by simp)
 have r2 := Lib.laidMet.reads hd (n := "strconv.ErrRange") (d := Rows.laid_strconv_ErrRange) (by simp)
 have r3 := Lib.laidMet.reads hd (n := "strconv.ErrSyntax") (d := Rows.laid_strconv_ErrSyntax) (by simp)
 rw [pow10D] at r1
 exact ⟨tens_of (P := Tryz.prog) (g := 1) (by kernel_rfl) (by kernel_rfl) Tryz.underlying203 Tryz.underlying54 (by kernel_rfl) (by kernel_rfl) r1, mln_of hsh,
  err_of (P := Tryz.prog) (g := 2) (by kernel_rfl) (by kernel_rfl) Tryz.underlying80 r3, err_of (P := Tryz.prog) (g := 3) (by kernel_rfl) (by kernel_rfl) Tryz.underlying80 r2, ops_laid hf⟩
theorem args_below {H : Type} {enc : TypeId × Value → H} {P : Program} (hl : laidOutB P = true) {W W' : World} (hb : Below W.heap.size W W') :
 ∀ {ts : List TypeId} {vs : List Value} {ds : List (DataW H)} {ps : List MemPlace}, (ts.all fun t => P.readableRec t && decide (t < P.types.size)) = true → (∀ x ∈ ps, x.block < W.heap.size) →
  DataW.TrodAll enc P W 0 (fun _ => true) true ts vs ds ps → DataW.TrodAll enc P W' 0 (fun b => decide (b < W.heap.size)) true ts vs ds ps
 | [], [], [], _, _, _, h => h
 | t :: ts, v :: vs, d :: ds, _, ht, hlt, ⟨p, q, h1, h2, e⟩ => by
   simp only [List.all_cons, Bool.and_eq_true, decide_eq_true_eq] at ht
   exact ⟨p, q, Below.trod hl ht.1.1 ht.1.2 h1 hb (fun x hx => hlt x (by rw [e]; exact List.mem_append_left _ hx)), args_below hl hb (by rw [List.all_eq_true]; intro x hx; simpa using List.all_eq_true.mp ht.2 x hx) (fun x hx => hlt x (by rw [e]; exact List.mem_append_right _ hx)) h2, e⟩
theorem post_law {H : Type} {enc : TypeId × Value → H} {P : Program} {f : Func} {s : ChangeSpec} {W W' : World} {args : Array Value} {ds gs : List (DataW H)} {before : List MemPlace} (hl : laidOutB P = true) (h4 : P.underlying 4 = some .bool)
 (hW : DataW.Whole enc P f.params.toList s.vars false W args.toList ds gs before) (ht : (f.params.toList.all fun t => P.readableRec t && decide (t < P.types.size)) = true)
 (hv : s.vars = []) (hs : s.fn H ds = { results := [.lit (.bool true)], args := ds }) (hr : f.resultTypes = #[4]) (hb : Below W.heap.size W W') :
 s.post enc P f false true false false W args (.bool true) W' := by
 have hlt : ∀ p ∈ before, p.block < W.heap.size := fun p hp => hW.lt p hp
 have hW' := hW
 obtain ⟨p, q, hA, hV, rfl, _, _⟩ := hW
 rw [hv] at hV
 obtain ⟨rfl, rfl⟩ := trodVars_none hV
 rw [List.append_nil] at hlt hW'
 refine ⟨ds, [], p, [], p, [], hW', ?_, ?_, ?_, World.keptBut_mono (fun x hx => ⟨hx, .inr (.inl hx)⟩) (hb.frame (· ∈ p)), fun h => by cases h⟩
 ·rw [List.append_nil, hs, hr]
  exact trodAll_cons_mk (shut_bool h4 _) trodAll_mk0
 ·rw [List.append_nil, hs]
  exact args_below hl hb ht hlt hA
 ·rw [List.append_nil, hs, hv]
  trivial
theorem laidOut : laidOutB Tryz.prog = true := by kernel_rfl
theorem ownK : ownKnob Tryz.prog.godebug = none := by kernel_rfl
end
end Go.Proofs.YtillgofjlpjbcaaGreatDoor.Nm
