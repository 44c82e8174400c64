import Derived.Test.YtillgofjlpjbcaaGreatDoorH1
import Derived.Test.YtillgofjlpjbcaaGreatDoorHs
import Derived.Shelf.Strings.BuilderK
import Derived.Lib.AppendIntMem
import Derived.Test.YtillgofjlpjbcaaGreatDoorH2
import Derived.Deep.RegionHeld3
import Derived.RangeFuncCalls
import Derived.OrdersIn
import Derived.Scope
import Derived.Maps.OwnIn
import Derived.ControlIn
import Derived.WalkMore
import Derived.Laws.RangeAny
import Derived.Lib.Strings
/- Own text: contracts and laws on which the card rests (NmC2 NnW NnH NnA NmO NmP NmV NmS NnI NnD). -/
set_option linter.unusedVariables false
set_option linter.unusedSimpArgs false
set_option maxRecDepth 1000000
set_option maxHeartbeats 16000000
namespace Go.Proofs.YtillgofjlpjbcaaGreatDoor.Nm
section
open Go.RowKit
/-- The operation's number, for the arm to see. -/
structure Tg (i : Nat) : Prop where
 t : True
section
variable {P : Program} {md : Region.Mode} {ops : Array Oper} {Q : Exit → Act → World → Prop} {S : World → Prop} {oi oj ok ol : Oper} {fuel : Nat} {listed : Array Bool} {a : Act} {w : World}
/-- What is owed at operation i. -/
abbrev Ow (P : Program) (md : Region.Mode) (ops : Array Oper) (Q : Exit → Act → World → Prop) (S : World → Prop) (fuel : Nat) (listed : Array Bool) (a : Act) (w : World) (i : Nat) (oi : Oper) : Prop :=
 Tg i → ∀ K, Shut (∀ a w, S w → (S w → wpAnyH P md ops Q S fuel (listed.setIfInBounds i true) a w) → K a w) → if Region.wanted oi (yielded ops a.tmps) = true then Oper.wp P oi a w K Q else K (a.put oi.dst undef) w
theorem tq (i : Nat) {v : Value} (h : wpAnyH P md ops Q S fuel (listed.setIfInBounds i true) (a.put oi.dst v) w) (hi : ops[i]? = some oi := by exact rfl)
 (hr : (Region.ready md ops listed).contains i = true := by decide +kernel) (hf : Region.free md ops listed i = true := by decide +kernel) (hs : Region.noSelect ops = true := by kernel_rfl)
 (hy : ∀ w, S w → (execOp a.eval oi).run P w = .ok (.value v) w := by (intro wS hSw; (try dsimp only at hSw); (first | (go_simp; done) | (go_simp; with_reducible rfl))))
 (hQ : ∀ c a w, Q (.panic c) (a.put oi.dst v) w → Q (.panic c) a w := by exact fun _ _ _ h => h) (hg : Region.wanted oi (yielded ops a.tmps) = true := by rfl) (hS : S w := by assumption) : wpAnyH P md ops Q S (fuel + 1) listed a w :=
 tk i hy h hi hs hf hr hQ hg hS
theorem t1 (i : Nat) (h : Ow P md ops Q S fuel listed a w i oi) (hi : ops[i]? = some oi := by exact rfl) (hr : Region.ready md ops listed = [i] := by decide +kernel) : wpAnyH P md ops Q S (fuel + 1) listed a w :=
 wpAnyH_ready hr (by simp) (AllReadyH.cons hi (h ⟨trivial⟩) AllReadyH.nil)
theorem t2 (i j : Nat) (h : Ow P md ops Q S fuel listed a w i oi) (h2 : Ow P md ops Q S fuel listed a w j oj) (hi : ops[i]? = some oi := by exact rfl) (hj : ops[j]? = some oj := by exact rfl) (hr : Region.ready md ops listed = [i, j] := by decide +kernel) : wpAnyH P md ops Q S (fuel + 1) listed a w :=
 wpAnyH_ready hr (by simp) (AllReadyH.cons hi (h ⟨trivial⟩) (AllReadyH.cons hj (h2 ⟨trivial⟩) AllReadyH.nil))
theorem t3 (i j k : Nat) (h : Ow P md ops Q S fuel listed a w i oi) (h2 : Ow P md ops Q S fuel listed a w j oj) (h3 : Ow P md ops Q S fuel listed a w k ok) (hi : ops[i]? = some oi := by exact rfl) (hj : ops[j]? = some oj := by exact rfl) (hk : ops[k]? = some ok := by exact rfl) (hr : Region.ready md ops listed = [i, j, k] := by decide +kernel) : wpAnyH P md ops Q S (fuel + 1) listed a w :=
 wpAnyH_ready hr (by simp) (AllReadyH.cons hi (h ⟨trivial⟩) (AllReadyH.cons hj (h2 ⟨trivial⟩) (AllReadyH.cons hk (h3 ⟨trivial⟩) AllReadyH.nil)))
end
end
section
open Go.RowKit Go.Shelf
theorem bX : (Tryz.prog.info? 148).map (·.size) = some 2 := by kernel_rfl
theorem bY : liesAt Tryz.prog Tryz.prog.depth 148 (2 / Tryz.prog.cellsOf 148) 0 148 1 = true := by kernel_rfl
theorem bZ : (Tryz.prog.info? 5).map (fun i => (i.zero, i.size, i.bytes)) = some (some (.int .u8 0), 1, 1) := by kernel_rfl
theorem copyCheck_used (b : Nat) (w : World) (h0 : w.cell? ⟨b, 0, none⟩ = some (.pointer (some ⟨b, 0, none⟩))) :
 Calls Tryz.prog 164 #[.pointer (some ⟨b, 0, none⟩)] w fun e w' => e = .returned (.tuple #[]) ∧ w' = w := by
 obtain ⟨j, hj, _⟩ := Option.map_eq_some_iff.1 bX
 go_enter Tryz.func164, Tryz.ntmps164
 go_wp2
 rw [Lib.run_neq_ptr_same w _ Tryz.underlying145 hj]
 go_wp2
 go_end0
 exact ⟨rfl, rfl⟩
theorem copyCheck_fresh (b : Nat) (w : World) (h0 : w.cell? ⟨b, 0, none⟩ = some (.pointer none)) (hsh : w.shape? b = some (148, 2)) (hfz : w.frozen? ⟨b, 0, none⟩ = false) :
 Calls Tryz.prog 164 #[.pointer (some ⟨b, 0, none⟩)] w fun e w' => e = .returned (.tuple #[]) ∧ w' = w.setCell ⟨b, 0, none⟩ (.pointer (some ⟨b, 0, none⟩)) := by
 obtain ⟨j, hj, hjs⟩ := Option.map_eq_some_iff.1 bX
 go_enter Tryz.func164, Tryz.ntmps164
 go_wp2
 rw [Lib.run_to_unsafe w ⟨b, 0, none⟩ Tryz.underlying145 Tryz.underlying207 hj (by rw [hjs]; decide) hsh (Nat.zero_lt_succ 1)]
 simp only [Result.andThen]
 rw [Oper.upon_value]
 go_wp2
 rw [run_callFunc_extern Tryz.func186 (by kernel_rfl) (by kernel_rfl) (by kernel_rfl) (e := Extern.AbiNoEscape.same) (by kernel_rfl)]
 rw [Lib.run_noEscape]
 simp only [Result.andThen]
 rw [Oper.upon_value]
 go_wp2
 rw [Lib.run_from_unsafe w ⟨b, 0, none⟩ Tryz.underlying207 Tryz.underlying145 hj hsh bY]
 simp only [Result.andThen]
 rw [Oper.upon_value]
 go_wp2
 go_end0
 exact ⟨rfl, rfl⟩
theorem copyCheck_calls (B b : Nat) (bs : List Value) (w : World) (h : Lib.IsBuilderF 148 5 B b bs w) :
 Calls Tryz.prog 164 #[.pointer (some ⟨b, 0, none⟩)] w fun e w' => e = .returned (.tuple #[]) ∧ (Lib.BuilderAtF 148 5 B b (.pointer (some ⟨b, 0, none⟩)) bs w' ∧ Below B w w' ∧ Lib.OthersKept 5 (some b) w w') := by
 rcases h with h | h
 ·refine (copyCheck_fresh b w h.cell0 h.shape h.frozen0).mono ?_
  rintro e w' ⟨rfl, rfl⟩
  exact ⟨rfl, h.used _, (Below.refl B w).setCell (p := ⟨b, 0, none⟩) h.1 _, (Lib.OthersKept.refl _ _ w).setCell ⟨b, 0, none⟩ rfl _⟩
 ·refine (copyCheck_used b w h.cell0).mono ?_
  rintro e w' ⟨rfl, rfl⟩
  exact ⟨rfl, h, Below.refl B _, Lib.OthersKept.refl _ _ _⟩
theorem writeByte_calls (B b : Nat) (bs : List Value) (c : Int) (w : World) (h : Lib.IsBuilderF 148 5 B b bs w) (hlen : bs.length + 1 ≤ 140737488355328) (hBw : B ≤ w.heap.size) :
 Calls Tryz.prog 141 #[.pointer (some ⟨b, 0, none⟩), .int .u8 c] w fun e w' => e = .returned .nilIface ∧ (Lib.BuilderAtF 148 5 B b (.pointer (some ⟨b, 0, none⟩)) (bs ++ [.int .u8 c]) w' ∧ Below B w w' ∧ Lib.OthersKept 5 (some b) w w') := by
 obtain ⟨i0, hi, hz0, hz1, hz2⟩ := info_parts bZ
 go_enter Tryz.func141, Tryz.ntmps141
 go_wp2_with (go_at_call 164; refine (copyCheck_calls B b bs _ h).mono ?_)
 rintro e w1 ⟨rfl, h1, hb1, hk1⟩
 obtain ⟨hB, v, hbk, hown, hne⟩ := h1
 have c0 : w1.cell? ⟨b, 0, none⟩ = some (.pointer (some ⟨b, 0, none⟩)) := by rw [Lib.cell_of_heap hbk]; rfl
 have c1 : w1.cell? ⟨b, 1, none⟩ = some v := by rw [Lib.cell_of_heap hbk]; rfl
 go_wp2_with (at_builtin; refine wpList_append_ownF _ rfl _ _ 146 rfl B 5 i0 (.int .u8 0) 1 1 Tryz.underlying146 hi hz0 hz1 hz2 rfl (by decide) _ _ _ rfl (hown.alloc _) ⟨w1.heap.size, 0, none⟩ 1 1 [.int .u8 c] rfl rfl ?c1 ?c2 ?c3 ?c4 ?c5 ?_)
 case c1 =>
  intro j u hj
  match j, hj with
  | 0, hj => simp at hj; subst hj; simp [Addr.add]
 case c2 => intro u hu; simp at hu; subst hu; rfl
 case c3 => unfold maxLen; omega
 case c4 => omega
 case c5 => have := hb1.size; simp; omega
 intro v' w2 hown' hgrow _
 have hlt : b < w1.heap.size := by
  rcases Nat.lt_or_ge b w1.heap.size with h' | h'
  ·exact h'
  ·simp [Array.getElem?_eq_none h'] at hbk
 have hb2 : w2.heap[b]? = some (.cells #[.pointer (some ⟨b, 0, none⟩), v] 148 (0, 0)) := by
  rw [hgrow.block b (by simp; omega) (fun e => hne e.symm), Lib.alloc_old w1 _ b hlt]
  exact hbk
 have d0 : w2.cell? ⟨b, 0, none⟩ = some (.pointer (some ⟨b, 0, none⟩)) := by rw [Lib.cell_of_heap hb2]; rfl
 have d1 : w2.cell? ⟨b, 1, none⟩ = some v := by rw [Lib.cell_of_heap hb2]; rfl
 have f1 : w2.frozen? ⟨b, 1, none⟩ = false := Lib.frozen_of_heap hb2 1
 obtain ⟨g, cap, rfl⟩ : ∃ g cap, v' = .slice (some ⟨g, 0, none⟩) (bs.length + 1) cap := by
  rcases hown'.2 with ⟨_, h0⟩ | ⟨g, cap, cur, fz, hv, _⟩
  ·omega
  ·exact ⟨g, cap, hv⟩
 go_wp2
 go_ret
 refine ⟨rfl, ?_, ?_, ((hk1.alloc _).grown hgrow (Lib.ownsRowF_kind (hown.alloc _))).setCell ⟨b, 1, none⟩ rfl _⟩
 ·exact Lib.BuilderAtF.put (T := 148) (e := 5) hB hb2 (bs' := bs ++ [.int .u8 c]) (by simpa using hown') (by decide)
 ·exact ((hb1.alloc (by have := hb1.size; omega) _).grown hgrow (by have := hb1.size; simp; omega) (fun k hk => (hown.lt k hk).1)).setCell (p := ⟨b, 1, none⟩) hB _
end
section
open Go.Lib Go.RowKit Go.Shelf
section
variable {P : Program} (w : World)
theorem run_append_string_at (base : Nat) (t u ty e : TypeId) (i : TypeInfo) (ht : P.underlying t = some (.slice e)) (hu : P.underlying u = some .string) (hi : P.info? e = some i) (hz : i.zero = some (.int .u8 0))
 (hsize : i.size = 1) (hby : i.bytes = 1)
 (v : Value) (n : Nat) (xs : List Value) (hown : w.ownsRowF base e 1 v n xs) (s : ByteArray)
 (h63 : n + s.size ≤ maxLen) (hbytes : n + s.size ≤ 140737488355328) (hbase : base ≤ w.heap.size) :
 ∃ v' w', (Builtin.append_ #[t, u] ty #[v, .string s]).run P w = .ok v' w' ∧ w'.ownsRowF base e 1 v' (n + s.size) (xs ++ strCells s) ∧ w.grownBy w' v.ownBlock ∧
  (∀ g, v'.ownBlock = some g → v.ownBlock = some g ∨ w.heap.size ≤ g) := by
 rcases hown.2 with ⟨rfl, rfl⟩ | ⟨g, cap, cur, fz, rfl, hbg, hg, hfz, hnc, hcm, hcs, htake⟩
 ·obtain ⟨v', w', h1, h2, h3, h4⟩ := run_append_own_string (P := P) w w.heap.size t u ty e i ht hu hi hz hsize hby (.slice none 0 0) 0 xs ⟨hown.1, .inl ⟨rfl, rfl⟩⟩ s h63 hbytes (Nat.le_refl _)
  have h2' := World.ownsRowF_of h2
  refine ⟨v', w', h1, ⟨h2'.1, ?_⟩, h3, fun g hg => .inr (h2'.lt g hg).1⟩
  rcases h2'.2 with h | ⟨g, cap, cur, fz, hv, hb, hr⟩
  ·exact .inl h
  ·exact .inr ⟨g, cap, cur, fz, hv, Nat.le_trans hbase hb, hr⟩
 ·have hsmall : n + s.size ≤ 9223372036854775807 := by simp only [maxLen] at h63; omega
  have hxl : xs.length = n := by simpa using hown.1
  have hlen : (xs ++ strCells s).length = (n + s.size) * 1 := by rw [List.length_append, hxl, strCells_length, Nat.mul_one]
  by_cases hroom : n + s.size ≤ cap
  ·have hcs' : cur.size = cap := by simpa using hcs
   have hr := run_append_room_stringF (P := P) w t u ty e i ht hu hi hsize g n cap cur fz hg (by simpa using hfz) s hroom (by omega)
   refine ⟨_, _, hr, ⟨hlen, .inr ⟨g, cap, _, fz, rfl, hbg, setRow_heap w g cur _ e _ hg, by omega, hroom, hcm, ?_, ?_⟩⟩, ⟨rfl, rfl, rfl, by simp, fun k _ hk => setRow_other w g k _ (fun e => hk (by simp [Value.ownBlock, e]))⟩, fun x hx => .inl hx⟩
   ·simp only [List.size_toArray, List.length_append, List.length_take, List.length_drop, Array.length_toList, strCells_length]
    omega
   ·have ht' : cur.toList.take n = xs := by simpa using htake
    rw [ht', ← hlen]
    exact List.take_left
  ·have holds : ∀ j u, xs[j]? = some u → w.cell? ((⟨g, 0, none⟩ : Addr).add j) = some u := hown.cells (g := g) rfl
   have hr := run_append_grow_string (P := P) w t u ty e i (.int .u8 0) ht hu hi hz ⟨g, 0, none⟩ n cap xs (by rw [hsize]; simpa using hxl) holds s (by omega) (by omega) (by rw [hby]; exact growslice_fits (by omega) (by omega))
   have hge := grownCap_ge w (n + s.size) cap e
   have hcm2 : grownCap w (n + s.size) cap e ≤ maxLen := grownCap_le_maxLen w (n + s.size) cap e h63
   refine ⟨_, _, hr, ⟨hlen, .inr ⟨w.heap.size, _, _, (0, 0), rfl, hbase, heap_alloc_new w.drew _, Nat.zero_le _, hge, hcm2, ?_, ?_⟩⟩, ⟨rfl, rfl, rfl, by simp, fun k hk _ => by first | exact heap_alloc_old w.drew _ k hk | exact heap_alloc_old w.drew _ hk⟩, fun x hx => .inr (by simp [Value.ownBlock] at hx; omega)⟩
   ·have hz1 : (Value.int IntKind.u8 0).cells.size = 1 := rfl
    simp only [Array.size_append, List.size_toArray, size_zeroCells, hz1, hxl, strCells_length]
    omega
   ·simp only [Array.toList_append, List.append_assoc]
    rw [← List.append_assoc, ← hlen]
    exact List.take_left
theorem wpList_append_string_at {ops : Array Oper} {rest : List Oper} {o : Oper} {a : Act} {Q : Exit → Act → World → Prop} (hgd : o.guard = none) (sl x : Operand) (t u : TypeId)
 (ho : o.op = .call { callee := .builtin .append, args := #[sl, x], argTypes := #[t, u] })
 (base : Nat) (e : TypeId) (i : TypeInfo) (ht : P.underlying t = some (.slice e)) (hu : P.underlying u = some .string) (hi : P.info? e = some i) (hz : i.zero = some (.int .u8 0))
 (hsize : i.size = 1) (hby : i.bytes = 1)
 (v : Value) (n : Nat) (xs : List Value) (hs : a.eval sl = v) (hown : w.ownsRowF base e 1 v n xs) (s : ByteArray) (hx : a.eval x = .string s)
 (h63 : n + s.size ≤ maxLen) (hbytes : n + s.size ≤ 140737488355328) (hbase : base ≤ w.heap.size)
 (h : ∀ v' w', w'.ownsRowF base e 1 v' (n + s.size) (xs ++ strCells s) → w.grownBy w' v.ownBlock → (∀ g, v'.ownBlock = some g → v.ownBlock = some g ∨ w.heap.size ≤ g) → wpList P ops Q rest (a.put o.dst v') w') : wpList P ops Q (o :: rest) a w := by
 refine wpList_plain hgd fun K hK => ?_
 obtain ⟨v', w', hr, h2, h3, h4⟩ := run_append_string_at (P := P) w base t u o.type e i ht hu hi hz hsize hby v n xs hown s h63 hbytes hbase
 unfold Oper.wp execOp
 simp only [ho, resolve, invoke, builtin, Sem.run_bind, Sem.run_pure, Result.andThen_ok, List.map_toArray, List.map_cons, List.map_nil, hs, hx, hr]
 exact hK _ _ (h v' w' h2 h3 h4)
end
/-- A builder with its row in sight. -/
def BX (B b : Nat) (p v : Value) (bs : List Value) (w : World) : Prop :=
 (p = .pointer none ∨ p = .pointer (some ⟨b, 0, none⟩)) ∧ B ≤ b ∧ w.heap[b]? = some (.cells #[p, v] 148 (0, 0)) ∧ w.ownsRowF B 5 1 v bs.length bs ∧ v.ownBlock ≠ some b
theorem BX.of {B b : Nat} {bs : List Value} {w : World} (h : Lib.IsBuilderF 148 5 B b bs w) : ∃ p v, BX B b p v bs w := by
 rcases h with ⟨h1, v, h2⟩ | ⟨h1, v, h2⟩
 ·exact ⟨_, v, .inl rfl, h1, h2⟩
 ·exact ⟨_, v, .inr rfl, h1, h2⟩
theorem BX.builder {B b : Nat} {p v : Value} {bs : List Value} {w : World} (h : BX B b p v bs w) : Lib.IsBuilderF 148 5 B b bs w := by
 obtain ⟨h0, h1, h2⟩ := h
 rcases h0 with rfl | rfl
 ·exact .inl ⟨h1, v, h2⟩
 ·exact .inr ⟨h1, v, h2⟩
theorem BX.lt {B b : Nat} {p v : Value} {bs : List Value} {w : World} (h : BX B b p v bs w) : b < w.heap.size := (Array.getElem?_eq_some_iff.1 h.2.2.1).1
theorem BX.below {B b : Nat} {p v : Value} {bs : List Value} {w w' : World} (h : BX B b p v bs w) (hb : Below w.heap.size w w') : BX B b p v bs w' := by
 have hl := h.lt
 obtain ⟨h0, h1, h2, h3, h4⟩ := h
 refine ⟨h0, h1, (hb.block b hl).trans h2, ⟨h3.1, ?_⟩, h4⟩
 have h3' := h3
 rcases h3.2 with hn | ⟨g, cap, cur, fz, rfl, hbg, hg, hr⟩
 ·exact .inl hn
 ·exact .inr ⟨g, cap, cur, fz, rfl, hbg, (hb.block g (h3'.lt g rfl).2).trans hg, hr⟩
theorem copyCheckX {B b : Nat} {p v : Value} {bs : List Value} {w : World} (h : BX B b p v bs w) :
 Calls Tryz.prog 164 #[.pointer (some ⟨b, 0, none⟩)] w fun e w' => e = .returned (.tuple #[]) ∧ (BX B b (.pointer (some ⟨b, 0, none⟩)) v bs w' ∧ Below B w w' ∧ w'.heap.size = w.heap.size ∧ ∀ k, k ≠ b → w'.heap[k]? = w.heap[k]?) := by
 obtain ⟨h0, h1, h2, h3, h4⟩ := h
 rcases h0 with rfl | rfl
 ·have hb : Lib.BuilderAtF 148 5 B b (.pointer none) bs w := ⟨h1, v, h2, h3, h4⟩
  refine (copyCheck_fresh b w hb.cell0 hb.shape hb.frozen0).mono ?_
  rintro e w' ⟨rfl, rfl⟩
  refine ⟨rfl, ⟨.inr rfl, h1, ?_, ?_, h4⟩, (Below.refl B w).setCell (p := ⟨b, 0, none⟩) h1 _, by simp, fun k hk => Below.heap_setCell _ _ _ _ (fun e => hk (by first | exact e | exact e.symm))⟩
  ·simp [World.setCell, Array.getElem?_modify, h2]
  ·exact h3.kept (row := some b) ⟨rfl, rfl, rfl, by simp [World.setCell], fun k _ hk => Below.heap_setCell _ _ _ _ (fun e => hk (by simp [e]))⟩ (.inr h4)
 ·refine (copyCheck_used b w (Lib.BuilderAtF.cell0 (p := .pointer (some ⟨b, 0, none⟩)) ⟨h1, v, h2, h3, h4⟩)).mono ?_
  rintro e w' ⟨rfl, rfl⟩
  exact ⟨rfl, ⟨.inr rfl, h1, h2, h3, h4⟩, Below.refl B _, rfl, fun _ _ => rfl⟩
theorem writeStringX {B b : Nat} {p v : Value} {bs : List Value} {w : World} (s : ByteArray) (h : BX B b p v bs w) (hlen : bs.length + s.size ≤ 140737488355328) (hBw : B ≤ w.heap.size) :
 Calls Tryz.prog 130 #[.pointer (some ⟨b, 0, none⟩), .string s] w fun e w' => ∃ p' v', e = .returned (.tuple #[.int .i64 s.size, .nilIface]) ∧ BX B b p' v' (bs ++ Lib.strCells s) w' ∧ Below B w w' ∧ (∀ k, k < w.heap.size → k ≠ b → v.ownBlock ≠ some k → w'.heap[k]? = w.heap[k]?) ∧ (∀ g, v'.ownBlock = some g → v.ownBlock = some g ∨ w.heap.size ≤ g) := by
 obtain ⟨i0, hi, hz0, hz1, hz2⟩ := info_parts bZ
 go_enter Tryz.func130, Tryz.ntmps130
 go_wp2_with (go_at_call 164; refine (copyCheckX h).mono ?_)
 rintro e w1 ⟨rfl, h1, hb1, hz1', hk1⟩
 obtain ⟨h0, hB, hbk, hown, hne⟩ := h1
 have c0 : w1.cell? ⟨b, 0, none⟩ = some (.pointer (some ⟨b, 0, none⟩)) := by rw [Lib.cell_of_heap hbk]; rfl
 have c1 : w1.cell? ⟨b, 1, none⟩ = some v := by rw [Lib.cell_of_heap hbk]; rfl
 go_wp2_with (at_builtin; refine wpList_append_string_at _ rfl _ _ 146 9 rfl B 5 i0 Tryz.underlying146 Tryz.underlying9 hi hz0 hz1 hz2 _ _ _ rfl hown s rfl ?c3 ?c4 ?c5 ?_)
 case c3 => unfold maxLen; omega
 case c4 => omega
 case c5 => have := hb1.size; omega
 intro v' w2 hown' hgrow hat
 have hlt : b < w1.heap.size := (Array.getElem?_eq_some_iff.1 hbk).1
 have hb2 : w2.heap[b]? = some (.cells #[.pointer (some ⟨b, 0, none⟩), v] 148 (0, 0)) := by
  rw [hgrow.block b hlt (fun e => hne e.symm)]
  exact hbk
 have d0 : w2.cell? ⟨b, 0, none⟩ = some (.pointer (some ⟨b, 0, none⟩)) := by rw [Lib.cell_of_heap hb2]; rfl
 have d1 : w2.cell? ⟨b, 1, none⟩ = some v := by rw [Lib.cell_of_heap hb2]; rfl
 have f1 : w2.frozen? ⟨b, 1, none⟩ = false := Lib.frozen_of_heap hb2 1
 obtain ⟨ao, n', cap, rfl⟩ : ∃ ao n' cap, v' = .slice ao n' cap := by
  rcases hown'.2 with ⟨hv, _⟩ | ⟨g, cap, cur, fz, hv, _⟩
  ·exact ⟨_, _, _, hv⟩
  ·exact ⟨_, _, _, hv⟩
 go_wp2
 go_ret2
 have hp := Lib.BuilderAtF.put (T := 148) (e := 5) hB hb2 (bs' := bs ++ Lib.strCells s) (by simpa [Lib.strCells_length] using hown') (by decide)
 have hne' := Lib.ownBlock_neF hown' hb2 (by decide)
 have hown2 : w2.ownsRowF B 5 1 (.slice ao n' cap) (bs ++ Lib.strCells s).length (bs ++ Lib.strCells s) := by simpa [Lib.strCells_length] using hown'
 refine ⟨_, _, rfl, ⟨.inr rfl, hB, ?_, ?_, hne'⟩, ?_, fun k hk hkb hkv => ?_, fun g hg => ?_⟩
 ·simp [World.setCell, Array.getElem?_modify, hb2]
 ·exact hown2.kept (row := some b) ⟨rfl, rfl, rfl, by simp [World.setCell], fun k _ hk => Below.heap_setCell _ _ _ _ (fun e => hk (by simp [e]))⟩ (.inr hne')
 ·exact (hb1.grown hgrow (by have := hb1.size; omega) (fun k hk => (hown.lt k hk).1)).setCell (p := ⟨b, 1, none⟩) hB _
 ·rw [Below.heap_setCell _ _ _ _ (fun e => hkb (by first | exact e | exact e.symm)), hgrow.block k (by omega) (fun e => hkv e.symm), hk1 k hkb]
 ·exact hat g hg
end
section
open Go.Proofs.YtillgofjlpjbcaaGreatDoorW.PrintLast Go.Proofs.YtillgofjlpjbcaaGreatDoorW.PrintMore Go.Proofs.YtillgofjlpjbcaaGreatDoorW.PrintWords Go.RowKit Go.Shelf
/-- The table of powers of ten, as its initialiser lays it. -/
def Tens (w : World) : Prop := Lib.TabIs Tryz.prog w "internal/strconv.uint64pow10" .u64 Lib.pow10Tab
theorem below_grow (w : World) (k : Nat) (os : Array Obj) : Below w.heap.size w (Sort.grow (w.drewN k) os) :=
 ⟨rfl, rfl, rfl, by simp [Sort.grow, World.drewN], fun j hj => by simp [Sort.grow, World.drewN, Array.getElem?_append_left hj]⟩
theorem formatUint0_calls (u : Nat) (hu64 : u < 18446744073709551616) (w : World) (htab : Tens w) :
 Calls Tryz.prog 116 #[.int .u64 u, .int .i64 10] w fun e w' => e = .returned (.string ⟨(Lib.decDigits u).toArray⟩) ∧ Below w.heap.size w w' := by
 by_cases h100 : u < 100
 ·have hd : decide ((u : Int) < 100) = true := decide_eq_true (by omega)
  have hc : IntKind.i64.wrap (u : Int) = (u : Int) := IntWalk.i64_in _ (by omega)
  go_enter Tryz.func116, Tryz.ntmps116
  go_wp2_with (go_at_call 155; (with_reducible refine (Tryz.internal_strconv_small u h100 _).mono ?_); rintro e w' ⟨rfl, rfl⟩)
  go_ret
  exact ⟨rfl, Below.refl _ _⟩
 ·have hd : decide ((u : Int) < 100) = false := decide_eq_false (by omega)
  have hu1 : 1 ≤ u := by omega
  have htab' : Lib.TabIs Tryz.prog w "internal/strconv.uint64pow10" .u64 Lib.pow10Tab := htab
  have hnd20 : Lib.nDigits u ≤ 20 := by have := Lib.numDigits_eq u hu1 hu64; split at this <;> omega
  have hb : Lib.nDigits u ≤ 24 := by omega
  have hal : Tryz.prog.arrayLen 176 = 24 := by kernel_rfl
  have hsl : ∀ W, (Instr.sliceAt 176 (.pointer (some ⟨w.heap.size, 0, none⟩)) none (some (.int .i64 (Lib.nDigits u : Int))) none).run Tryz.prog W = .ok (.slice (some ⟨w.heap.size, 0, none⟩) (Lib.nDigits u) 24) W := fun W => by
   rw [run_sliceAt_array_h W 176 ⟨w.heap.size, 0, none⟩ (by kernel_rfl) .i64 (Lib.nDigits u : Int) (by omega) (by rw [hal]; omega)]
   go_simp
  have hH0 := Lib.holds_zero0 w 176 (Lib.nDigits u) hb
  have hfmt := Tryz.internal_strconv_formatBase10 w.heap.size 0 24 u (Array.replicate (Lib.nDigits u) 0) (w.alloc (.cells Lib.zeros24 176)) hH0 (by rw [Array.size_replicate]; exact Lib.lt_pow_nDigits u) hu64 (by rw [Array.size_replicate]; omega)
  rw [Array.size_replicate] at hfmt
  have HH0 := Lib.hid hH0
  clear hH0 hal
  go_enter Tryz.func116, Tryz.ntmps116
  go_wp2_with (go_at_call 156; (with_reducible refine (Tryz.internal_strconv_numDigits u hu1 hu64 _ (Lib.tabIs_alloc htab' _)).mono ?_); rintro e w' ⟨rfl, rfl⟩)
  go_at_call 157
  refine hfmt.mono ?_
  rintro e w' ⟨rfl, k, v', dk, rfl, hF⟩
  have hcv : (convert 146 9 (.slice (some ⟨w.heap.size, 0, none⟩) (Lib.nDigits u) 24)).run Tryz.prog ((Sort.putRow (fun (b : UInt8) => Value.int .u8 (b.toNat : Int)) (w.alloc (.cells Lib.zeros24 176)) w.heap.size 0 dk).drewN k) = .ok (.string ⟨(Lib.decDigits u).toArray⟩) ((Sort.putRow (fun (b : UInt8) => Value.int .u8 (b.toNat : Int)) (w.alloc (.cells Lib.zeros24 176)) w.heap.size 0 dk).drewN k) := by
   have h := run_convert_bytes_back (P := Tryz.prog) ((Sort.putRow (fun (b : UInt8) => Value.int .u8 (b.toNat : Int)) (w.alloc (.cells Lib.zeros24 176)) w.heap.size 0 dk).drewN k) 146 9 5 ⟨w.heap.size, 0, none⟩ 24 (Lib.decDigits u) Tryz.underlying146 Tryz.underlying5 Tryz.underlying9 (fun j hj => by
    rw [Lib.row_is_numeral hF j hj, Lib.add_plain, World.cell?_drewN]
    exact Sort.cell?_putRow (fun (b : UInt8) => Value.int .u8 (b.toNat : Int)) _ w.heap.size 0 _ dk HH0.out (by rw [hF.size, Array.size_replicate]) j (by rw [hF.size]; rw [Lib.decDigits_length] at hj; exact hj))
   rw [Lib.decDigits_length] at h
   exact h
  go_wp2
  go_ret
  obtain ⟨os, eo⟩ := Lib.fin_at w (.cells Lib.zeros24 176) dk k 0
  refine ⟨rfl, ?_⟩
  rw [eo]
  exact below_grow w k os
theorem Tens.below {w w' : World} (h : Tens w) (hb : Below w.heap.size w w') : Tens w' := by
 unfold Tens Lib.TabIs World.var? at *
 cases hg : Tryz.prog.globalNamed "internal/strconv.uint64pow10" with
 | none => simp [hg] at h
 | some g =>
   simp only [hg, Option.bind_some] at h ⊢
   have hlt : g < w.heap.size := by
    rcases Nat.lt_or_ge g w.heap.size with h' | h'
    ·exact h'
    ·rw [Array.getElem?_eq_none h'] at h; simp at h
   rw [hb.block g hlt]
   exact h
theorem formatUint_calls (u : Nat) (hu64 : u < 18446744073709551616) (w : World) (htab : Tens w) :
 Calls Tryz.prog 49 #[.int .u64 u, .int .i64 10] w fun e w' => e = .returned (.string ⟨(Lib.decDigits u).toArray⟩) ∧ Below w.heap.size w w' := by
 go_enter Tryz.func49, Tryz.ntmps49
 go_wp2_with (go_at_call 116; (with_reducible refine (formatUint0_calls u hu64 _ htab).mono ?_); rintro e w' ⟨rfl, hb⟩)
 go_ret
 exact ⟨rfl, hb⟩
end
section
open Go.Proofs.YtillgofjlpjbcaaGreatDoorW.PrintLast Go.Proofs.YtillgofjlpjbcaaGreatDoorW.PrintMore Go.Proofs.YtillgofjlpjbcaaGreatDoorW.PrintWords Go.RowKit
/-- Two integers in boxes, and a box for a result. -/
structure Two (V : World) (b : Nat) (v1 v2 : Value) (f g : Bool) : Prop where
 x0 : V.cell? ⟨b, 0, none⟩ = some v1
 x1 : V.cell? ⟨b, 1, none⟩ = some (.bool f)
 y0 : V.cell? ⟨b + 1, 0, none⟩ = some v2
 y1 : V.cell? ⟨b + 1, 1, none⟩ = some (.bool g)
theorem mul_any {w W : World} {B : Nat} {A1 A2 : Option Addr} {L1 L2 m n : Nat} (h1 : Mag w B A1 L1 m) (h2 : Mag w B A2 L2 n) (hB : B ≤ w.heap.size) (hL : L1 + L2 ≤ 90000) (hb : Below w.heap.size w W) :
 Calls Tryz.prog 149 #[.agg #[.slice A1 L1 L1], .agg #[.slice A2 L2 L2]] W fun e w' => ∃ A k, e = .returned (.agg #[.slice A k k]) ∧ Mag w' w'.heap.size A k (m * n) ∧ Below W.heap.size W w' :=
 mul_calls (h1.keep hB hb) (h2.keep hB hb) (Nat.le_trans hB hb.size) hL
theorem sign_mul (x y : Int) : ((decide (x < 0) != decide (y < 0)) && decide (x.natAbs * y.natAbs ≠ 0)) = decide (x * y < 0) := by
 rw [← Int.natAbs_mul]
 rcases Int.lt_trichotomy x 0 with h | h | h <;> rcases Int.lt_trichotomy y 0 with h' | h' | h'
 all_goals first
  | (subst h; simp; done)
  | (subst h'; simp; done)
  | skip
 ·have : 0 < x * y := Int.mul_pos_of_neg_of_neg h h'
  rw [decide_eq_true h, decide_eq_true h', decide_eq_false (p := x * y < 0) (by omega)]; rfl
 ·have : x * y < 0 := Int.mul_neg_of_neg_of_pos h h'
  rw [decide_eq_true h, decide_eq_false (p := y < 0) (by omega), decide_eq_true this, decide_eq_true (p := (x * y).natAbs ≠ 0) (by omega)]; rfl
 ·have : x * y < 0 := Int.mul_neg_of_pos_of_neg h h'
  rw [decide_eq_true h', decide_eq_false (p := x < 0) (by omega), decide_eq_true this, decide_eq_true (p := (x * y).natAbs ≠ 0) (by omega)]; rfl
 ·have : 0 < x * y := Int.mul_pos h h'
  rw [decide_eq_false (p := x < 0) (by omega), decide_eq_false (p := y < 0) (by omega), decide_eq_false (p := x * y < 0) (by omega)]; rfl
theorem signed_any {w : World} {B : Nat} {A : Option Addr} {L n : Nat} (h : Mag w B A L n) (hB : B ≤ w.heap.size) {neg r : Bool} (hr : (neg && decide (n ≠ 0)) = r) :
 Calls Tryz.prog 139 #[.agg #[.slice A L L], .bool neg] w fun e w' => e = .returned (.agg #[.slice A L L, .bool r]) ∧ Mag w' B A L n ∧ Below w.heap.size w w' := by
 subst hr
 exact signed_calls h hB neg
theorem bKeep {b : Nat} {w1 W W2 : World} (hb : Below W.heap.size W W2) (hS : Below b w1 W) (hle : b ≤ w1.heap.size) : Below b w1 W2 := hS.trans (hb.mono (Nat.le_trans hle hS.size))
theorem keepB {b : Nat} {w1 W2 : World} (h : Below b w1 W2) {c o : Nat} {v : Value} (hlt : c < b) (hc : w1.cell? ⟨c, o, none⟩ = some v) : W2.cell? ⟨c, o, none⟩ = some v := (h.cell (p := ⟨c, o, none⟩) hlt).trans hc
/-- A box for an integer that a function hands back. -/
def Out (W : World) (b : Nat) : Prop := W.cell? ⟨b, 0, none⟩ = some (.slice none 0 0) ∧ W.cell? ⟨b, 1, none⟩ = some (.bool false) ∧ W.frozen? ⟨b, 0, none⟩ = false ∧ W.frozen? ⟨b, 1, none⟩ = false
theorem Out.keep {W W2 : World} {b : Nat} (h : Out W b) (hb : Below W.heap.size W W2) : Out W2 b := by
 obtain ⟨h1, h2, h3, h4⟩ := h
 have hl := World.block_lt_of_cell? W _ h1
 exact ⟨(hb.cell (p := ⟨b, 0, none⟩) hl).trans h1, (hb.cell (p := ⟨b, 1, none⟩) hl).trans h2, (hb.frozen (p := ⟨b, 0, none⟩) hl).trans h3, (hb.frozen (p := ⟨b, 1, none⟩) hl).trans h4⟩
theorem Mag.apart {w : World} {B : Nat} {A : Option Addr} {L n : Nat} (h : Mag w B A L n) {b : Nat} {v : Value} (hc : w.cell? ⟨b, 0, none⟩ = some v) (hv : ∀ d : Int, v ≠ .int .u32 d) : ∀ c, 0 < L → A = some ⟨c, 0, none⟩ → c ≠ b := by
 rintro c hL e rfl
 obtain ⟨d, rfl, _, hcc⟩ := h.2.2 hL
 injection e with e
 injection e with e
 subst e
 have := hcc 0 hL
 rw [hc] at this
 injection this with this
 exact hv _ this
theorem Mag.setA {w : World} {B : Nat} {A : Option Addr} {L n : Nat} (h : Mag w B A L n) {b : Nat} (hp : ∀ c, 0 < L → A = some ⟨c, 0, none⟩ → c ≠ b) (o : Nat) (u : Value) : Mag (w.setCell ⟨b, o, none⟩ u) B A L n := by
 obtain ⟨h1, h2, h3⟩ := h
 refine ⟨h1, h2, fun hL => ?_⟩
 obtain ⟨c, rfl, hlt, hc⟩ := h3 hL
 exact ⟨c, rfl, hlt, fun j hj => (World.cell?_setCell_other w ⟨b, o, none⟩ ⟨c, j, none⟩ u (fun e => hp c hL rfl (by first | exact congrArg Addr.block e | exact (congrArg Addr.block e).symm))).trans (hc j hj)⟩
theorem Out.mag {W : World} {b B : Nat} {A : Option Addr} {L n : Nat} (h : Out W b) (hm : Mag W B A L n) (u u' : Value) : Mag ((W.setCell ⟨b, 0, none⟩ u).setCell ⟨b, 1, none⟩ u') B A L n :=
 have hp := hm.apart h.1 (fun d => by simp)
 (hm.setA hp 0 u).setA hp 1 u'
theorem Out.keep' {W W2 : World} {b : Nat} (h : Aside0 (Out W b)) (hb : Below W.heap.size W W2) : Aside0 (Out W2 b) := ⟨h.out.keep hb⟩
theorem times_calls {w : World} {B : Nat} {A1 A2 : Option Addr} {L1 L2 : Nat} {x y : Int} (h1 : Mag w B A1 L1 x.natAbs) (h2 : Mag w B A2 L2 y.natAbs) (hB : B ≤ w.heap.size) (hL : L1 + L2 ≤ 90000) :
 Calls Tryz.prog 85 #[iV A1 L1 x, iV A2 L2 y] w fun e w' => ∃ A k, e = .returned (iV A k (x * y)) ∧ Mag w' w'.heap.size A k (x * y).natAbs ∧ Below w.heap.size w w' := by
 unfold iV
 have H1 : Aside0 (Mag w B A1 L1 x.natAbs) := ⟨h1⟩
 have H2 : Aside0 (Mag w B A2 L2 y.natAbs) := ⟨h2⟩
 clear h1 h2
 obtain ⟨f, hf⟩ : ∃ f, decide (x < 0) = f := ⟨_, rfl⟩
 obtain ⟨g, hg⟩ : ∃ g, decide (y < 0) = g := ⟨_, rfl⟩
 obtain ⟨r, hr⟩ : ∃ r, decide (x * y < 0) = r := ⟨_, rfl⟩
 have HFG : Aside0 ((!(f == g) && decide (x.natAbs * y.natAbs ≠ 0)) = r) := ⟨by rw [← hf, ← hg, ← hr]; exact sign_mul x y⟩
 have HR : Aside0 ((x * y).natAbs = x.natAbs * y.natAbs) := ⟨Int.natAbs_mul x y⟩
 rw [hf, hg, hr]
 clear hf hg hr
 go_enter Tryz.func85, Tryz.ntmps85
 go_wp2_with fail
 obtain ⟨wr, hwr⟩ : ∃ wr, (((w.alloc (.cells #[.slice A1 L1 L1, .bool f] 89)).alloc (.cells #[.slice A2 L2 L2, .bool g] 89)).alloc (.cells #[.slice none 0 0, .bool false] 89)) = wr := ⟨_, rfl⟩
 have HX : Aside0 (wr.cell? ⟨w.heap.size, 0, none⟩ = some (.slice A1 L1 L1) ∧ wr.cell? ⟨w.heap.size, 1, none⟩ = some (.bool f) ∧ wr.cell? ⟨w.heap.size + 1, 0, none⟩ = some (.slice A2 L2 L2) ∧ wr.cell? ⟨w.heap.size + 1, 1, none⟩ = some (.bool g)) := ⟨by
  subst hwr
  refine ⟨?_, ?_, ?_, ?_⟩ <;> simp [go_sem]⟩
 have HO : Aside0 (Out wr (w.heap.size + 1 + 1)) := ⟨by
  subst hwr
  refine ⟨?_, ?_, ?_, ?_⟩ <;> simp [go_sem]⟩
 have HA : Aside0 (Below w.heap.size w wr ∧ w.heap.size + 3 ≤ wr.heap.size) := ⟨by subst hwr; repeat (first | exact Below.refl _ _ | apply below_alloc), by subst hwr; simp⟩
 rw [hwr]
 clear hwr
 rename_i Q' K hK
 refine wp_region_held_drew (S := (fun V => V.cell? ⟨w.heap.size, 0, none⟩ = some (.slice A1 L1 L1) ∧ V.cell? ⟨w.heap.size, 1, none⟩ = some (.bool f) ∧ V.cell? ⟨w.heap.size + 1, 0, none⟩ = some (.slice A2 L2 L2) ∧ V.cell? ⟨w.heap.size + 1, 1, none⟩ = some (.bool g) ∧ Below (w.heap.size + 2) wr V)) (by kernel_rfl) ?_ (fun hHeld => ?_)
 ·(have tb := below_drew1 (Below.refl (w.heap.size + 2) wr); exact ⟨keepB tb (by omega) HX.out.1, keepB tb (by omega) HX.out.2.1, keepB tb (by omega) HX.out.2.2.1, keepB tb (by omega) HX.out.2.2.2, tb⟩)
 refine tp 0 ?_
 try simp only [PU]
 refine tp 1 ?_
 try simp only [PU]
 refine tp 2 ?_
 try simp only [PU]
 refine tp 3 ?_
 try simp only [PU]
 refine tp 5 ?_
 try simp only [PU]
 refine tp 6 ?_
 try simp only [PU]
 refine tp 7 ?_
 try simp only [PU]
 refine tp 8 ?_
 try simp only [PU]
 refine tp 9 ?_
 try simp only [PU]
 refine tc 4 fun K hK => ?_
 go_simp
 (go_at_call 149; (with_reducible refine (mul_any H1.out H2.out hB hL (HA.out.1.trans (hHeld.2.2.2.2.mono (by omega)))).mono ?_); rintro e wm ⟨A, k, rfl, hm, hbq⟩; have HOm := Out.keep' (Out.keep' HO (below_drew1 (Below.refl _ _))) hbq; have HBm := hHeld.2.2.2.2)
 refine hK.out _ _ ?_ fun hHeld => ?_
 ·(first | (have hBB := bKeep hbq hHeld.2.2.2.2 (by have := HA.out.2; omega); exact ⟨keepB hBB (by omega) HX.out.1, keepB hBB (by omega) HX.out.2.1, keepB hBB (by omega) HX.out.2.2.1, keepB hBB (by omega) HX.out.2.2.2, hBB⟩) | (have hBB := (hHeld.2.2.2.2.setCell (p := ⟨w.heap.size + 1 + 1, 0, none⟩) (by simp) (.slice A k k)).setCell (p := ⟨w.heap.size + 1 + 1, 1, none⟩) (by simp) (.bool r); exact ⟨keepB hBB (by omega) HX.out.1, keepB hBB (by omega) HX.out.2.1, keepB hBB (by omega) HX.out.2.2.1, keepB hBB (by omega) HX.out.2.2.2, hBB⟩))
 clear hK K; try simp only [PU]
 refine tc 10 fun K hK => ?_
 go_simp
 (go_at_call 139; (with_reducible refine (signed_any hm (Nat.le_refl _) HFG.out).mono ?_); rintro e wq ⟨rfl, hmq, hbq⟩; have HOq := Out.keep' HOm hbq; obtain ⟨q1, q2, q3, q4⟩ := HOq.out)
 refine hK.out _ _ ?_ fun hHeld => ?_
 ·(first | (have hBB := bKeep hbq hHeld.2.2.2.2 (by have := HA.out.2; omega); exact ⟨keepB hBB (by omega) HX.out.1, keepB hBB (by omega) HX.out.2.1, keepB hBB (by omega) HX.out.2.2.1, keepB hBB (by omega) HX.out.2.2.2, hBB⟩) | (have hBB := (hHeld.2.2.2.2.setCell (p := ⟨w.heap.size + 1 + 1, 0, none⟩) (by simp) (.slice A k k)).setCell (p := ⟨w.heap.size + 1 + 1, 1, none⟩) (by simp) (.bool r); exact ⟨keepB hBB (by omega) HX.out.1, keepB hBB (by omega) HX.out.2.1, keepB hBB (by omega) HX.out.2.2.1, keepB hBB (by omega) HX.out.2.2.2, hBB⟩))
 clear hK K; try simp only [PU]
 refine tc 11 fun K hK => ?_
 go_simp
 (skip)
 refine hK.out _ _ ?_ fun hHeld => ?_
 ·(first | (have hBB := bKeep hbq hHeld.2.2.2.2 (by have := HA.out.2; omega); exact ⟨keepB hBB (by omega) HX.out.1, keepB hBB (by omega) HX.out.2.1, keepB hBB (by omega) HX.out.2.2.1, keepB hBB (by omega) HX.out.2.2.2, hBB⟩) | (have hBB := (hHeld.2.2.2.2.setCell (p := ⟨w.heap.size + 1 + 1, 0, none⟩) (by simp) (.slice A k k)).setCell (p := ⟨w.heap.size + 1 + 1, 1, none⟩) (by simp) (.bool r); exact ⟨keepB hBB (by omega) HX.out.1, keepB hBB (by omega) HX.out.2.1, keepB hBB (by omega) HX.out.2.2.1, keepB hBB (by omega) HX.out.2.2.2, hBB⟩))
 clear hK K; try simp only [PU]
 refine wpAnyH_done (by kernel_rfl) ?_ _
 refine hK _ _ ?_
 go_wp2
 refine bodyPost_ret (v := .agg #[.slice A k k, .bool r]) (by simp [results, Tryz.results85, go_sem, q1, q2]) rfl ⟨A, k, rfl, ?_, HA.out.1.trans ((hHeld.2.2.2.2).mono (by omega))⟩
 rw [HR.out]
 exact (HOq.out.mag hmq _ _).more (by simpa using hbq.size)
theorem add_any {w W : World} {B : Nat} {A1 A2 : Option Addr} {L1 L2 m n : Nat} (h1 : Mag w B A1 L1 m) (h2 : Mag w B A2 L2 n) (hB : B ≤ w.heap.size) (hL1 : L1 ≤ 90000) (hL2 : L2 ≤ 90000) (hb : Below w.heap.size w W) :
 Calls Tryz.prog 143 #[.agg #[.slice A1 L1 L1], .agg #[.slice A2 L2 L2]] W fun e w' => ∃ A k, e = .returned (.agg #[.slice A k k]) ∧ Mag w' w'.heap.size A k (m + n) ∧ Below W.heap.size W w' :=
 add_calls (h1.keep hB hb) (h2.keep hB hb) (Nat.le_trans hB hb.size) hL1 hL2
theorem less_any {w W : World} {B : Nat} {A1 A2 : Option Addr} {L1 L2 m n : Nat} (h1 : Mag w B A1 L1 m) (h2 : Mag w B A2 L2 n) (hB : B ≤ w.heap.size) (hnm : n ≤ m) (hb : Below w.heap.size w W) :
 Calls Tryz.prog 145 #[.agg #[.slice A1 L1 L1], .agg #[.slice A2 L2 L2]] W fun e w' => ∃ A k, e = .returned (.agg #[.slice A k k]) ∧ Mag w' w'.heap.size A k (m - n) ∧ Below W.heap.size W w' :=
 less_calls (h1.keep hB hb) (h2.keep hB hb) (Nat.le_trans hB hb.size) hnm
theorem order_any {w W : World} {B : Nat} {A1 A2 : Option Addr} {L1 L2 m n : Nat} (h1 : Mag w B A1 L1 m) (h2 : Mag w B A2 L2 n) (hB : B ≤ w.heap.size) (hb : Below w.heap.size w W) {x : Int} (hx : cmpI m n = x) :
 Calls Tryz.prog 144 #[.agg #[.slice A1 L1 L1], .agg #[.slice A2 L2 L2]] W fun e w' => e = .returned (.int .i64 x) ∧ Below W.heap.size W w' := by
 subst hx
 exact order_calls (h1.keep hB hb) (h2.keep hB hb) (Nat.le_trans hB hb.size)
theorem plus_calls {w : World} {B : Nat} {A1 A2 : Option Addr} {L1 L2 : Nat} {x y : Int} (h1 : Mag w B A1 L1 x.natAbs) (h2 : Mag w B A2 L2 y.natAbs) (hB : B ≤ w.heap.size) (hL1 : L1 ≤ 90000) (hL2 : L2 ≤ 90000) :
 Calls Tryz.prog 80 #[iV A1 L1 x, iV A2 L2 y] w fun e w' => ∃ A k, e = .returned (iV A k (x + y)) ∧ Mag w' w'.heap.size A k (x + y).natAbs ∧ Below w.heap.size w w' := by
 unfold iV
 have H1 : Aside0 (Mag w B A1 L1 x.natAbs) := ⟨h1⟩
 have H2 : Aside0 (Mag w B A2 L2 y.natAbs) := ⟨h2⟩
 clear h1 h2
 obtain ⟨f, hf⟩ : ∃ f, decide (x < 0) = f := ⟨_, rfl⟩
 obtain ⟨g, hg⟩ : ∃ g, decide (y < 0) = g := ⟨_, rfl⟩
 obtain ⟨r, hr⟩ : ∃ r, decide (x + y < 0) = r := ⟨_, rfl⟩
 by_cases hfg : f = g
 ·have HFG : Aside0 ((f && decide (x.natAbs + y.natAbs ≠ 0)) = r) := ⟨by
   rw [← hr, Bool.eq_iff_iff]
   rw [← hf, ← hg, decide_eq_decide] at hfg
   rw [← hf]; simp; omega⟩
  have HR : Aside0 ((x + y).natAbs = x.natAbs + y.natAbs) := ⟨by rw [← hf, ← hg, decide_eq_decide] at hfg; omega⟩
  rw [hf, hg, hr]
  clear hf hg hr
  subst hfg
  go_enter Tryz.func80, Tryz.ntmps80
  go_wp2_with fail
  obtain ⟨wr, hwr⟩ : ∃ wr, (((w.alloc (.cells #[.slice A1 L1 L1, .bool f] 89)).alloc (.cells #[.slice A2 L2 L2, .bool f] 89)).alloc (.cells #[.slice none 0 0, .bool false] 89)) = wr := ⟨_, rfl⟩
  have HX : Aside0 (wr.cell? ⟨w.heap.size, 0, none⟩ = some (.slice A1 L1 L1) ∧ wr.cell? ⟨w.heap.size, 1, none⟩ = some (.bool f) ∧ wr.cell? ⟨w.heap.size + 1, 0, none⟩ = some (.slice A2 L2 L2) ∧ wr.cell? ⟨w.heap.size + 1, 1, none⟩ = some (.bool f)) := ⟨by
   subst hwr
   refine ⟨?_, ?_, ?_, ?_⟩ <;> simp [go_sem]⟩
  have HO : Aside0 (Out wr (w.heap.size + 1 + 1)) := ⟨by
   subst hwr
   refine ⟨?_, ?_, ?_, ?_⟩ <;> simp [go_sem]⟩
  have HA : Aside0 (Below w.heap.size w wr ∧ w.heap.size + 3 ≤ wr.heap.size) := ⟨by subst hwr; repeat (first | exact Below.refl _ _ | apply below_alloc), by subst hwr; simp⟩
  rw [hwr]
  clear hwr
  rename_i Q' K1 hK1 K hK
  refine wp_region_held_drew (S := (fun V => V.cell? ⟨w.heap.size, 0, none⟩ = some (.slice A1 L1 L1) ∧ V.cell? ⟨w.heap.size, 1, none⟩ = some (.bool f) ∧ V.cell? ⟨w.heap.size + 1, 0, none⟩ = some (.slice A2 L2 L2) ∧ V.cell? ⟨w.heap.size + 1, 1, none⟩ = some (.bool f) ∧ Below (w.heap.size + 2) wr V)) (by kernel_rfl) ?_ (fun hHeld => ?_)
  ·(have tb := below_drew1 (Below.refl (w.heap.size + 2) wr); exact ⟨keepB tb (by omega) HX.out.1, keepB tb (by omega) HX.out.2.1, keepB tb (by omega) HX.out.2.2.1, keepB tb (by omega) HX.out.2.2.2, tb⟩)
  refine tp 0 ?_
  try simp only [PU]
  refine tp 1 ?_
  try simp only [PU]
  refine tp 2 ?_
  try simp only [PU]
  refine tp 3 ?_
  try simp only [PU]
  refine tp 5 ?_
  try simp only [PU]
  refine tp 6 ?_
  try simp only [PU]
  refine tc 4 fun K hK => ?_
  go_simp
  (go_at_call 143; (with_reducible refine (add_any H1.out H2.out hB hL1 hL2 (HA.out.1.trans (hHeld.2.2.2.2.mono (by omega)))).mono ?_); rintro e wm ⟨A, k, rfl, hm, hbq⟩; have HOm := Out.keep' (Out.keep' HO (below_drew1 (Below.refl _ _))) hbq)
  refine hK.out _ _ ?_ fun hHeld => ?_
  ·(first | (have hBB := bKeep hbq hHeld.2.2.2.2 (by have := HA.out.2; omega); exact ⟨keepB hBB (by omega) HX.out.1, keepB hBB (by omega) HX.out.2.1, keepB hBB (by omega) HX.out.2.2.1, keepB hBB (by omega) HX.out.2.2.2, hBB⟩) | (have hBB := (hHeld.2.2.2.2.setCell (p := ⟨w.heap.size + 1 + 1, 0, none⟩) (by simp) (.slice A k k)).setCell (p := ⟨w.heap.size + 1 + 1, 1, none⟩) (by simp) (.bool r); exact ⟨keepB hBB (by omega) HX.out.1, keepB hBB (by omega) HX.out.2.1, keepB hBB (by omega) HX.out.2.2.1, keepB hBB (by omega) HX.out.2.2.2, hBB⟩))
  clear hK K; try simp only [PU]
  refine tc 7 fun K hK => ?_
  go_simp
  (go_at_call 139; (with_reducible refine (signed_any hm (Nat.le_refl _) HFG.out).mono ?_); rintro e wq ⟨rfl, hmq, hbq⟩; have HOq := Out.keep' HOm hbq; obtain ⟨q1, q2, q3, q4⟩ := HOq.out)
  refine hK.out _ _ ?_ fun hHeld => ?_
  ·(first | (have hBB := bKeep hbq hHeld.2.2.2.2 (by have := HA.out.2; omega); exact ⟨keepB hBB (by omega) HX.out.1, keepB hBB (by omega) HX.out.2.1, keepB hBB (by omega) HX.out.2.2.1, keepB hBB (by omega) HX.out.2.2.2, hBB⟩) | (have hBB := (hHeld.2.2.2.2.setCell (p := ⟨w.heap.size + 1 + 1, 0, none⟩) (by simp) (.slice A k k)).setCell (p := ⟨w.heap.size + 1 + 1, 1, none⟩) (by simp) (.bool r); exact ⟨keepB hBB (by omega) HX.out.1, keepB hBB (by omega) HX.out.2.1, keepB hBB (by omega) HX.out.2.2.1, keepB hBB (by omega) HX.out.2.2.2, hBB⟩))
  clear hK K; try simp only [PU]
  refine tc 8 fun K hK => ?_
  go_simp
  refine hK.out _ _ ?_ fun hHeld => ?_
  ·(first | (have hBB := bKeep hbq hHeld.2.2.2.2 (by have := HA.out.2; omega); exact ⟨keepB hBB (by omega) HX.out.1, keepB hBB (by omega) HX.out.2.1, keepB hBB (by omega) HX.out.2.2.1, keepB hBB (by omega) HX.out.2.2.2, hBB⟩) | (have hBB := (hHeld.2.2.2.2.setCell (p := ⟨w.heap.size + 1 + 1, 0, none⟩) (by simp) (.slice A k k)).setCell (p := ⟨w.heap.size + 1 + 1, 1, none⟩) (by simp) (.bool r); exact ⟨keepB hBB (by omega) HX.out.1, keepB hBB (by omega) HX.out.2.1, keepB hBB (by omega) HX.out.2.2.1, keepB hBB (by omega) HX.out.2.2.2, hBB⟩))
  clear hK K; try simp only [PU]
  refine wpAnyH_done (by kernel_rfl) ?_ _
  (refine hK _ _ ?_; go_wp2; refine bodyPost_ret (v := .agg #[.slice A k k, .bool r]) (by simp [results, Tryz.results80, go_sem, q1, q2]) rfl ⟨A, k, rfl, ?_, HA.out.1.trans ((hHeld.2.2.2.2).mono (by omega))⟩; rw [HR.out]; exact (HOq.out.mag hmq _ _).more (by simpa using hbq.size))
 ·by_cases hlt : x.natAbs < y.natAbs
  ·have HFG : Aside0 ((g && decide (y.natAbs - x.natAbs ≠ 0)) = r) := ⟨by
    rw [← hr, Bool.eq_iff_iff]
    rw [← hf, ← hg, decide_eq_decide] at hfg
    rw [← hg]; simp; omega⟩
   have HR : Aside0 ((x + y).natAbs = y.natAbs - x.natAbs) := ⟨by rw [← hf, ← hg, decide_eq_decide] at hfg; omega⟩
   have HV : Aside0 (cmpI (x.natAbs : Int) y.natAbs = -1 ∧ x.natAbs ≤ y.natAbs) := ⟨by unfold cmpI; rw [if_pos (by omega)], by omega⟩
   rw [hf, hg, hr]
   clear hf hg hr hlt
   have hbe : (f == g) = false := by simp [hfg]
   go_enter Tryz.func80, Tryz.ntmps80
   go_wp2_with (go_at_call 144; (with_reducible refine (order_any H1.out H2.out hB (by repeat (first | exact Below.refl _ _ | apply below_alloc)) HV.out.1).mono ?_); rintro e wr ⟨rfl, hbr⟩)
   obtain ⟨f0, f1⟩ := bcell hbr
   have HX : Aside0 (wr.cell? ⟨w.heap.size, 0, none⟩ = some (.slice A1 L1 L1) ∧ wr.cell? ⟨w.heap.size, 1, none⟩ = some (.bool f) ∧ wr.cell? ⟨w.heap.size + 1, 0, none⟩ = some (.slice A2 L2 L2) ∧ wr.cell? ⟨w.heap.size + 1, 1, none⟩ = some (.bool g)) := ⟨(f0 _ _ (by first | (simp; done) | (simp; omega))).trans (by simp [go_sem]), (f0 _ _ (by first | (simp; done) | (simp; omega))).trans (by simp [go_sem]), (f0 _ _ (by first | (simp; done) | (simp; omega))).trans (by simp [go_sem]), (f0 _ _ (by first | (simp; done) | (simp; omega))).trans (by simp [go_sem])⟩
   have HO : Aside0 (Out wr (w.heap.size + 1 + 1)) := ⟨(f0 _ _ (by first | (simp; done) | (simp; omega))).trans (by simp [go_sem]), (f0 _ _ (by first | (simp; done) | (simp; omega))).trans (by simp [go_sem]), (f1 _ _ (by first | (simp; done) | (simp; omega))).trans (by simp [go_sem]), (f1 _ _ (by first | (simp; done) | (simp; omega))).trans (by simp [go_sem])⟩
   have HA : Aside0 (Below w.heap.size w wr ∧ w.heap.size + 3 ≤ wr.heap.size) := ⟨below_step (by repeat (first | exact Below.refl _ _ | apply below_alloc)) hbr, by have := hbr.size; simp at this; omega⟩
   clear f0 f1 hbr
   rename_i Q' K hK
   refine wp_region_held_drew (S := (fun V => V.cell? ⟨w.heap.size, 0, none⟩ = some (.slice A1 L1 L1) ∧ V.cell? ⟨w.heap.size, 1, none⟩ = some (.bool f) ∧ V.cell? ⟨w.heap.size + 1, 0, none⟩ = some (.slice A2 L2 L2) ∧ V.cell? ⟨w.heap.size + 1, 1, none⟩ = some (.bool g) ∧ Below (w.heap.size + 2) wr V)) (by kernel_rfl) ?_ (fun hHeld => ?_)
   ·(have tb := below_drew1 (Below.refl (w.heap.size + 2) wr); exact ⟨keepB tb (by omega) HX.out.1, keepB tb (by omega) HX.out.2.1, keepB tb (by omega) HX.out.2.2.1, keepB tb (by omega) HX.out.2.2.2, tb⟩)
   refine tp 0 ?_
   try simp only [PU]
   refine tp 1 ?_
   try simp only [PU]
   refine tp 2 ?_
   try simp only [PU]
   refine tp 3 ?_
   try simp only [PU]
   refine tp 5 ?_
   try simp only [PU]
   refine tp 6 ?_
   try simp only [PU]
   refine tc 4 fun K hK => ?_
   go_simp
   (go_at_call 145; (with_reducible refine (less_any H2.out H1.out hB HV.out.2 (HA.out.1.trans (hHeld.2.2.2.2.mono (by omega)))).mono ?_); rintro e wm ⟨A, k, rfl, hm, hbq⟩; have HOm := Out.keep' (Out.keep' HO (below_drew1 (Below.refl _ _))) hbq)
   refine hK.out _ _ ?_ fun hHeld => ?_
   ·(first | (have hBB := bKeep hbq hHeld.2.2.2.2 (by have := HA.out.2; omega); exact ⟨keepB hBB (by omega) HX.out.1, keepB hBB (by omega) HX.out.2.1, keepB hBB (by omega) HX.out.2.2.1, keepB hBB (by omega) HX.out.2.2.2, hBB⟩) | (have hBB := (hHeld.2.2.2.2.setCell (p := ⟨w.heap.size + 1 + 1, 0, none⟩) (by simp) (.slice A k k)).setCell (p := ⟨w.heap.size + 1 + 1, 1, none⟩) (by simp) (.bool r); exact ⟨keepB hBB (by omega) HX.out.1, keepB hBB (by omega) HX.out.2.1, keepB hBB (by omega) HX.out.2.2.1, keepB hBB (by omega) HX.out.2.2.2, hBB⟩))
   clear hK K; try simp only [PU]
   refine tc 7 fun K hK => ?_
   go_simp
   (go_at_call 139; (with_reducible refine (signed_any hm (Nat.le_refl _) HFG.out).mono ?_); rintro e wq ⟨rfl, hmq, hbq⟩; have HOq := Out.keep' HOm hbq; obtain ⟨q1, q2, q3, q4⟩ := HOq.out)
   refine hK.out _ _ ?_ fun hHeld => ?_
   ·(first | (have hBB := bKeep hbq hHeld.2.2.2.2 (by have := HA.out.2; omega); exact ⟨keepB hBB (by omega) HX.out.1, keepB hBB (by omega) HX.out.2.1, keepB hBB (by omega) HX.out.2.2.1, keepB hBB (by omega) HX.out.2.2.2, hBB⟩) | (have hBB := (hHeld.2.2.2.2.setCell (p := ⟨w.heap.size + 1 + 1, 0, none⟩) (by simp) (.slice A k k)).setCell (p := ⟨w.heap.size + 1 + 1, 1, none⟩) (by simp) (.bool r); exact ⟨keepB hBB (by omega) HX.out.1, keepB hBB (by omega) HX.out.2.1, keepB hBB (by omega) HX.out.2.2.1, keepB hBB (by omega) HX.out.2.2.2, hBB⟩))
   clear hK K; try simp only [PU]
   refine tc 8 fun K hK => ?_
   go_simp
   refine hK.out _ _ ?_ fun hHeld => ?_
   ·(first | (have hBB := bKeep hbq hHeld.2.2.2.2 (by have := HA.out.2; omega); exact ⟨keepB hBB (by omega) HX.out.1, keepB hBB (by omega) HX.out.2.1, keepB hBB (by omega) HX.out.2.2.1, keepB hBB (by omega) HX.out.2.2.2, hBB⟩) | (have hBB := (hHeld.2.2.2.2.setCell (p := ⟨w.heap.size + 1 + 1, 0, none⟩) (by simp) (.slice A k k)).setCell (p := ⟨w.heap.size + 1 + 1, 1, none⟩) (by simp) (.bool r); exact ⟨keepB hBB (by omega) HX.out.1, keepB hBB (by omega) HX.out.2.1, keepB hBB (by omega) HX.out.2.2.1, keepB hBB (by omega) HX.out.2.2.2, hBB⟩))
   clear hK K; try simp only [PU]
   refine wpAnyH_done (by kernel_rfl) ?_ _
   (refine hK _ _ ?_; go_wp2; refine bodyPost_ret (v := .agg #[.slice A k k, .bool r]) (by simp [results, Tryz.results80, go_sem, q1, q2]) rfl ⟨A, k, rfl, ?_, HA.out.1.trans ((hHeld.2.2.2.2).mono (by omega))⟩; rw [HR.out]; exact (HOq.out.mag hmq _ _).more (by simpa using hbq.size))
  ·have HFG : Aside0 ((f && decide (x.natAbs - y.natAbs ≠ 0)) = r) := ⟨by
    rw [← hr, Bool.eq_iff_iff]
    rw [← hf, ← hg, decide_eq_decide] at hfg
    rw [← hf]; simp; omega⟩
   have HR : Aside0 ((x + y).natAbs = x.natAbs - y.natAbs) := ⟨by rw [← hf, ← hg, decide_eq_decide] at hfg; omega⟩
   obtain ⟨c, hc⟩ : ∃ c, cmpI (x.natAbs : Int) y.natAbs = c := ⟨_, rfl⟩
   have hcd : decide (0 ≤ c) = true := decide_eq_true (by rw [← hc]; unfold cmpI; rw [if_neg (by omega)]; split <;> omega)
   have hcd' : decide (c ≥ 0) = true := hcd
   have HV : Aside0 (cmpI (x.natAbs : Int) y.natAbs = c ∧ y.natAbs ≤ x.natAbs) := ⟨hc, by omega⟩
   rw [hf, hg, hr]
   clear hf hg hr hlt hc
   have hbe : (f == g) = false := by simp [hfg]
   go_enter Tryz.func80, Tryz.ntmps80
   go_wp2_with (go_at_call 144; (with_reducible refine (order_any H1.out H2.out hB (by repeat (first | exact Below.refl _ _ | apply below_alloc)) HV.out.1).mono ?_); rintro e wr ⟨rfl, hbr⟩)
   obtain ⟨f0, f1⟩ := bcell hbr
   have HX : Aside0 (wr.cell? ⟨w.heap.size, 0, none⟩ = some (.slice A1 L1 L1) ∧ wr.cell? ⟨w.heap.size, 1, none⟩ = some (.bool f) ∧ wr.cell? ⟨w.heap.size + 1, 0, none⟩ = some (.slice A2 L2 L2) ∧ wr.cell? ⟨w.heap.size + 1, 1, none⟩ = some (.bool g)) := ⟨(f0 _ _ (by first | (simp; done) | (simp; omega))).trans (by simp [go_sem]), (f0 _ _ (by first | (simp; done) | (simp; omega))).trans (by simp [go_sem]), (f0 _ _ (by first | (simp; done) | (simp; omega))).trans (by simp [go_sem]), (f0 _ _ (by first | (simp; done) | (simp; omega))).trans (by simp [go_sem])⟩
   have HO : Aside0 (Out wr (w.heap.size + 1 + 1)) := ⟨(f0 _ _ (by first | (simp; done) | (simp; omega))).trans (by simp [go_sem]), (f0 _ _ (by first | (simp; done) | (simp; omega))).trans (by simp [go_sem]), (f1 _ _ (by first | (simp; done) | (simp; omega))).trans (by simp [go_sem]), (f1 _ _ (by first | (simp; done) | (simp; omega))).trans (by simp [go_sem])⟩
   have HA : Aside0 (Below w.heap.size w wr ∧ w.heap.size + 3 ≤ wr.heap.size) := ⟨below_step (by repeat (first | exact Below.refl _ _ | apply below_alloc)) hbr, by have := hbr.size; simp at this; omega⟩
   clear f0 f1 hbr
   rename_i Q' K1 hK1 K hK
   refine wp_region_held_drew (S := (fun V => V.cell? ⟨w.heap.size, 0, none⟩ = some (.slice A1 L1 L1) ∧ V.cell? ⟨w.heap.size, 1, none⟩ = some (.bool f) ∧ V.cell? ⟨w.heap.size + 1, 0, none⟩ = some (.slice A2 L2 L2) ∧ V.cell? ⟨w.heap.size + 1, 1, none⟩ = some (.bool g) ∧ Below (w.heap.size + 2) wr V)) (by kernel_rfl) ?_ (fun hHeld => ?_)
   ·(have tb := below_drew1 (Below.refl (w.heap.size + 2) wr); exact ⟨keepB tb (by omega) HX.out.1, keepB tb (by omega) HX.out.2.1, keepB tb (by omega) HX.out.2.2.1, keepB tb (by omega) HX.out.2.2.2, tb⟩)
   refine tp 0 ?_
   try simp only [PU]
   refine tp 1 ?_
   try simp only [PU]
   refine tp 2 ?_
   try simp only [PU]
   refine tp 3 ?_
   try simp only [PU]
   refine tp 5 ?_
   try simp only [PU]
   refine tp 6 ?_
   try simp only [PU]
   refine tc 4 fun K hK => ?_
   go_simp
   (go_at_call 145; (with_reducible refine (less_any H1.out H2.out hB HV.out.2 (HA.out.1.trans (hHeld.2.2.2.2.mono (by omega)))).mono ?_); rintro e wm ⟨A, k, rfl, hm, hbq⟩; have HOm := Out.keep' (Out.keep' HO (below_drew1 (Below.refl _ _))) hbq)
   refine hK.out _ _ ?_ fun hHeld => ?_
   ·(first | (have hBB := bKeep hbq hHeld.2.2.2.2 (by have := HA.out.2; omega); exact ⟨keepB hBB (by omega) HX.out.1, keepB hBB (by omega) HX.out.2.1, keepB hBB (by omega) HX.out.2.2.1, keepB hBB (by omega) HX.out.2.2.2, hBB⟩) | (have hBB := (hHeld.2.2.2.2.setCell (p := ⟨w.heap.size + 1 + 1, 0, none⟩) (by simp) (.slice A k k)).setCell (p := ⟨w.heap.size + 1 + 1, 1, none⟩) (by simp) (.bool r); exact ⟨keepB hBB (by omega) HX.out.1, keepB hBB (by omega) HX.out.2.1, keepB hBB (by omega) HX.out.2.2.1, keepB hBB (by omega) HX.out.2.2.2, hBB⟩))
   clear hK K; try simp only [PU]
   refine tc 7 fun K hK => ?_
   go_simp
   (go_at_call 139; (with_reducible refine (signed_any hm (Nat.le_refl _) HFG.out).mono ?_); rintro e wq ⟨rfl, hmq, hbq⟩; have HOq := Out.keep' HOm hbq; obtain ⟨q1, q2, q3, q4⟩ := HOq.out)
   refine hK.out _ _ ?_ fun hHeld => ?_
   ·(first | (have hBB := bKeep hbq hHeld.2.2.2.2 (by have := HA.out.2; omega); exact ⟨keepB hBB (by omega) HX.out.1, keepB hBB (by omega) HX.out.2.1, keepB hBB (by omega) HX.out.2.2.1, keepB hBB (by omega) HX.out.2.2.2, hBB⟩) | (have hBB := (hHeld.2.2.2.2.setCell (p := ⟨w.heap.size + 1 + 1, 0, none⟩) (by simp) (.slice A k k)).setCell (p := ⟨w.heap.size + 1 + 1, 1, none⟩) (by simp) (.bool r); exact ⟨keepB hBB (by omega) HX.out.1, keepB hBB (by omega) HX.out.2.1, keepB hBB (by omega) HX.out.2.2.1, keepB hBB (by omega) HX.out.2.2.2, hBB⟩))
   clear hK K; try simp only [PU]
   refine tc 8 fun K hK => ?_
   go_simp
   refine hK.out _ _ ?_ fun hHeld => ?_
   ·(first | (have hBB := bKeep hbq hHeld.2.2.2.2 (by have := HA.out.2; omega); exact ⟨keepB hBB (by omega) HX.out.1, keepB hBB (by omega) HX.out.2.1, keepB hBB (by omega) HX.out.2.2.1, keepB hBB (by omega) HX.out.2.2.2, hBB⟩) | (have hBB := (hHeld.2.2.2.2.setCell (p := ⟨w.heap.size + 1 + 1, 0, none⟩) (by simp) (.slice A k k)).setCell (p := ⟨w.heap.size + 1 + 1, 1, none⟩) (by simp) (.bool r); exact ⟨keepB hBB (by omega) HX.out.1, keepB hBB (by omega) HX.out.2.1, keepB hBB (by omega) HX.out.2.2.1, keepB hBB (by omega) HX.out.2.2.2, hBB⟩))
   clear hK K; try simp only [PU]
   refine wpAnyH_done (by kernel_rfl) ?_ _
   (refine hK _ _ ?_; go_wp2; refine bodyPost_ret (v := .agg #[.slice A k k, .bool r]) (by simp [results, Tryz.results80, go_sem, q1, q2]) rfl ⟨A, k, rfl, ?_, HA.out.1.trans ((hHeld.2.2.2.2).mono (by omega))⟩; rw [HR.out]; exact (HOq.out.mag hmq _ _).more (by simpa using hbq.size))
end
section
open Go
/-- No operation is a defer statement. -/
def plainOps (ops : Array Oper) : Bool := ops.all fun o => match o.op with | .defer _ => false | _ => true
theorem plainOps_at {ops : Array Oper} (h : plainOps ops = true) {i : Nat} {o : Oper} (ho : ops[i]? = some o) : ∀ c, o.op ≠ .defer c := by
 intro c e
 have hm : o ∈ ops := Array.mem_of_getElem? ho
 have := (Array.all_eq_true_iff_forall_mem.1 h) o hm
 simp [e] at this
theorem rowsIn_round {l n : Nat} {P : Program} {row : String} {args : Array Value} {w : World} {R : Value → World → Prop} (h : Rows P row args w R) : RowsIn (Fence.wide.inRound l) n P row args w R :=
 fun c cs _ => let ⟨v, w', r, s⟩ := h c cs; ⟨v, w', r, stepsIn_wide.2 s⟩
theorem wpOpIn_round {l n : Nat} {P : Program} {ops : Array Oper} {Q : Exit → Act → World → Prop} (hp : plainOps ops = true) (hout : ¬ LetsOut Q) {i : Nat} {K K' : Act → World → Prop} (hk : ∀ a w, K a w → K' a w) {a : Act} {w : World}
 (h : wpOp P ops Q i K a w) : wpOpIn (Fence.wide.inRound l) n P ops Q i K' a w := by
 unfold wpOp at h
 unfold wpOpIn
 split
 ·rename_i hn
  rw [hn] at h
  exact hk _ _ h
 ·rename_i o ho
  rw [ho] at h
  simp only at h
  split
  ·rename_i hw
   rw [if_pos hw] at h
   rcases h with h | h
   ·refine ⟨fun _ _ => trivial, ?_⟩
    rw [Oper.semAt_eq _ _ _ (plainOps_at hp ho)]
    unfold Oper.wp at h
    generalize (execOp a.eval o).run P w = r at *
    cases r with
    | ok x w' =>
      cases x <;> simp only [Oper.upon, Oper.uponIn] at h ⊢
      case value => exact hk _ _ h
      case skip => exact hk _ _ h
      case defer => exact hk _ _ h
      case enter f args =>
       refine ⟨fun e => by simp [Fence.wide, Fence.inRound] at e, ?_⟩
       refine ((callsIn_wide.2 h).inRound l).mono ?_
       intro e w2 he
       cases e with
       | returned v => exact hk _ _ he
       | panicked c => exact he
       | outgrown => exact he
      case row row args =>
       refine ⟨fun e => by simp [Fence.wide, Fence.inRound] at e, ?_⟩
       exact rowsIn_round (h.mono fun v w2 he => hk _ _ he)
    | halt x w' => cases x <;> simp only [Oper.upon, Oper.uponIn] at h ⊢ <;> exact h
   ·exact absurd h.2 hout
  ·rename_i hw
   rw [if_neg hw] at h
   exact ⟨fun _ _ => trivial, hk _ _ h⟩
theorem wpAnyIn_round {l n : Nat} {P : Program} {md : Region.Mode} {ops : Array Oper} {Q : Exit → Act → World → Prop} (hp : plainOps ops = true) (hout : ¬ LetsOut Q) :
 ∀ (fuel : Nat) (listed : Array Bool) (a : Act) (w : World), wpAny P md ops Q fuel listed a w → wpAnyIn (Fence.wide.inRound l) n P md ops Q fuel listed a w
 | 0, _, _, _, h => h
 | fuel + 1, _, _, _, h => ⟨h.1, fun i hi => wpOpIn_round hp hout (fun a w h' => wpAnyIn_round hp hout fuel _ a w h') (h.2 i hi)⟩
theorem wpIn_round_held_drew {l n : Nat} {P : Program} {ops : Array Oper} {Q : Exit → Act → World → Prop} {S : World → Prop} {id : Nat} {a : Act} {w : World} (hm : P.follows .mixedOrders = true) (hp : plainOps ops = true) (hout : ¬ LetsOut Q) (hS : S w.drew)
 (h : S w.drew → wpAnyH P .any ops Q S ops.size (Array.replicate ops.size false) a w.drew) : (Code.region id ops true).wpIn (Fence.wide.inRound l) n P Q a w :=
 wpIn_region_any hm (wpAnyIn_round hp hout _ _ _ _ (wpAny_of_held _ _ _ _ (h hS)))
theorem letsOut_then {K : Act → World → Prop} {Q : Exit → Act → World → Prop} (h : ¬ LetsOut Q) : ¬ LetsOut (Exit.then K Q) := fun ⟨a, w, e⟩ => h ⟨a, w, e⟩
/-- A scope that nothing jumps out of or about in, in a round. -/
theorem wpIn_scope_straight {F : Fence} {n : Nat} {P : Program} {c : Code} {Q : Exit → Act → World → Prop} {a : Act} {w : World} (h : c.wpIn F n P (Exit.noGoto Q) a w) : (Code.scope c).wpIn F n P Q a w := by
 intro b k cs hro hb hr
 have h0 : (lone (b.atR a (.code (.scope c) :: k)) cs w).fenced P F := fenced_calm hb hr rfl
 have s0 : step P (lone (b.atR a (.code (.scope c) :: k)) cs w) = .next (lone (b.atR a (.code c :: .inScope c :: k)) cs w) := step_lone_go (by simp [stepG, stepG.exec, Frame.atR])
 obtain ⟨e, a₁, w₁, hq, harr⟩ := h b (.inScope c :: k) cs hro hb hr
 have s1 : step P (lone (b.atR a₁ (.inScope c :: k)) cs w₁) = .next (lone (b.atR a₁ k) cs w₁) := step_lone_go (by simp [stepG, stepG.exec, Frame.atR])
 cases e with
 | normal => exact ⟨.normal, a₁, w₁, hq, .head h0 s0 (StepsIn.trans harr (.one (fenced_calm hb hr rfl) s1))⟩
 | exit id' =>
   have hx : exitTo id' (.inScope c :: k) = exitTo id' k := by simp [exitTo]
   exact ⟨.exit id', a₁, w₁, hq, fun k' hk => .head h0 s0 (harr.1 k' (by rw [hx]; exact hk)),
    fun hr' hk => let ⟨k₁, h1, h2⟩ := harr.2 hr' (by rw [hx]; exact hk); ⟨k₁, h1, .head h0 s0 h2⟩⟩
 | goto l => exact hq.elim
 | ret => exact ⟨_, a₁, w₁, hq, .of_steps (.one h0 s0) harr⟩
 | panic ch => exact ⟨_, a₁, w₁, hq, .of_steps (.one h0 s0) harr⟩
 | outgrown => exact ⟨_, a₁, w₁, hq, .of_steps (.one h0 s0) harr⟩
theorem noGoto_normal {Q : Exit → Act → World → Prop} {a : Act} {w : World} (h : Q .normal a w) : Exit.noGoto Q .normal a w := h
/-- append, by the equation of its run. -/
theorem wpListIn_append_run {F : Fence} {nF : Nat} {P : Program} {w w' : World} {ops : Array Oper} {rest : List Oper} {o : Oper} {a : Act} {Q : Exit → Act → World → Prop} (hgd : o.guard = none) (s x : Operand) (t : TypeId)
 (ho : o.op = .call { callee := .builtin .append, args := #[s, x], argTypes := #[t, t] }) {v vs vx : Value} (hs : a.eval s = vs) (hx : a.eval x = vx) (hr : (Builtin.append_ #[t, t] o.type #[vs, vx]).run P w = .ok v w')
 (h : wpListIn F nF P ops Q rest (a.put o.dst v) w') : wpListIn F nF P ops Q (o :: rest) a w := by
 refine wpListIn_plain hgd fun K hK => ?_
 unfold Oper.wpIn
 refine ⟨by simp [Oper.about, ho, resolve, Target.leads, Sem.run_pure], ?_⟩
 rw [Oper.semAt_plain F _ _ (by rw [ho]; intro c hc'; cases hc')]
 simp [execOp, ho, resolve, invoke, builtin, hs, hx, hr, Result.andThen]
 exact hK _ _ h
/-- A code's end as a word about its values and its world. -/
theorem wpIn_midC {F : Fence} {n : Nat} {P : Program} {c : Code} {Q : Exit → Act → World → Prop} {a : Act} {w : World} (M : Array Value → Array Value → World → Prop)
 (h : c.wpIn F n P (fun e a' w' => match e with | .normal => a'.defers = a.defers ∧ M a.tmps a'.tmps w' | _ => False) a w) (hk : ∀ T w', M a.tmps T w' → Q .normal { tmps := T, defers := a.defers } w') : c.wpIn F n P Q a w :=
 wpIn_mono h (fun e a' w' h => by
  cases e <;> first | exact h.elim | skip
  obtain ⟨h1, h2⟩ := h
  have := hk _ _ h2
  rw [← h1] at this
  exact this)
end
section
open Go.Proofs.YtillgofjlpjbcaaGreatDoor.Rf Go.Proofs.YtillgofjlpjbcaaGreatDoorW.PrintLast Go.Proofs.YtillgofjlpjbcaaGreatDoorW.PrintMore Go.Proofs.YtillgofjlpjbcaaGreatDoorW.PrintWords Go.RowKit Go.Shelf
attribute [local go_sem] Oper.semAt_some
theorem row_turn {n₀ : Nat} {own : List Nat} {A B : World} {b : Nat} {xs : List Nat} (h : Row A b xs) (ht : Turn n₀ own A B) (hno : b ∉ own) : Row B b xs := ht.cells b _ h rfl hno
theorem Row.other {w : World} {g : Nat} {xs : List Nat} (h : Row w g xs) {b : Nat} (hne : g ≠ b) (o : Nat) (v : Value) : Row (w.setCell ⟨b, o, none⟩ v) g xs := (Below.heap_setCell _ _ _ _ hne).trans h
theorem Boxed.otherO {W : World} {B B' : Nat} {t : TypeId} {v : Value} (h : Boxed W B t v) (hne : B ≠ B') (o : Nat) (u : Value) : Boxed (W.setCell ⟨B', o, none⟩ u) B t v := (Below.heap_setCell _ _ _ _ hne).trans h
theorem Boxed.drewN {W : World} {B : Nat} {t : TypeId} {v : Value} (h : Boxed W B t v) : Boxed W.drew B t v := h
theorem Row.drewN {W : World} {g : Nat} {xs : List Nat} (h : Row W g xs) : Row W.drew g xs := h
theorem Mag.putD {W : World} {B D : Nat} {A : Option Addr} {L n : Nat} {x : Option (List Deferred)} (h : Mag W B A L n) (hD : W.heap[D]? = some (.deferred x)) (o : Obj) : Mag (W.putObj D o) B A L n := by
 obtain ⟨h1, h2, h3⟩ := h
 refine ⟨h1, h2, fun hL => ?_⟩
 obtain ⟨c, rfl, hlt, hc⟩ := h3 hL
 have hne : c ≠ D := by
  rintro rfl
  have := hc 0 hL
  simp [World.cell?, hD] at this
 exact ⟨c, rfl, hlt, fun j hj => (World.cell?_of_block (World.putObj_heap_other hne)).trans (hc j hj)⟩
theorem lst_lit {b : Nat} {W cur : World} (h : Below b W cur) (d : Nat) (t : TypeId) : Lst (cur.alloc (.cells #[.int .u32 d] t)) (cur.heap.size + 1) (some ⟨cur.heap.size, 0, none⟩) 1 [d] := lst_one cur d t
theorem lst_up {W W2 : World} {B : Nat} {A : Option Addr} {L : Nat} {xs : List Nat} (h : Lst W B A L xs) (hB : B ≤ W.heap.size) (hb : Below W.heap.size W W2) : Lst W2 B A L xs := h.below (hb.mono hB)
theorem strip_lit {cur : World} {B : Nat} {A : Option Addr} {d : Nat} (h : Lst cur B A 1 [d]) (hd : d < BB) (hB : B ≤ cur.heap.size) :
 Calls Tryz.prog 140 #[.slice A 1 1] cur fun e w' => ∃ A2 k, e = .returned (.slice A2 k k) ∧ Mag w' w'.heap.size A2 k d ∧ Below cur.heap.size cur w' := by
 refine (strip_calls h (by intro x hx; rw [List.mem_singleton.1 hx]; exact hd) (Nat.le_refl _) (by omega) hB).mono ?_
 rintro e w' ⟨k, rfl, hm, hb⟩
 rw [val_one] at hm
 exact ⟨A, k, rfl, hm.more (Nat.le_trans hB hb.size), hb⟩
theorem keepF {w1 W2 : World} (h : Below w1.heap.size w1 W2) {b o : Nat} {v : Value} (hc : w1.cell? ⟨b, 0, none⟩ = some v) (hf : w1.frozen? ⟨b, o, none⟩ = false) : W2.frozen? ⟨b, o, none⟩ = false :=
 (h.frozen (p := ⟨b, o, none⟩) (show b < w1.heap.size from World.block_lt_of_cell? w1 ⟨b, 0, none⟩ hc)).trans hf
/-- What lies in memory between two rounds of short. -/
structure SI (w : World) (m d L : Nat) (pre : List (Nat × Nat)) (own : List Nat) (W : World) : Prop where
 rd : Boxed W (w.heap.size + 1) 110 (.int .u32 (d : Int))
 r2 : Boxed W (w.heap.size + 1 + 1) 87 (.slice none 0 0)
 r3 : Boxed W (w.heap.size + 1 + 1 + 1) 87 (.slice none 0 0)
 ro : Boxed W (w.heap.size + 1 + 1 + 1 + 1 + 1) 85 (.slice (some ⟨w.heap.size + 1 + 1 + 1 + 1, 0, none⟩) L L)
 st : ∃ k, k ≤ L ∧ pre = backs (dg BB m) k ∧ Boxed W (w.heap.size + 1 + 1 + 1 + 1 + 1 + 1) 54 (.int .u64 ((m / BB ^ (L - k) % d : Nat) : Int)) ∧ Row W (w.heap.size + 1 + 1 + 1 + 1) (tops BB (m / d) L (L - k))
 no : ∀ k, k < 7 → w.heap.size + k ∉ own
 bl : Below w.heap.size w W
theorem SI.turn {w : World} {m d L : Nat} {pre : List (Nat × Nat)} {own : List Nat} {A B : World} (h : SI w m d L pre own A) (ht : Turn w.heap.size own A B) : SI w m d L pre own B := by
 obtain ⟨rd, r2, r3, ro, ⟨k, hk, hp, s1, s2⟩, no, bl⟩ := h
 exact ⟨boxed_turn rd ht (no 1 (by omega)), boxed_turn r2 ht (no 2 (by omega)), boxed_turn r3 ht (no 3 (by omega)), boxed_turn ro ht (no 5 (by omega)), ⟨k, hk, hp, boxed_turn s1 ht (no 6 (by omega)), row_turn s2 ht (no 4 (by omega))⟩, no, below_turn bl ht⟩
theorem SI.adopt {w : World} {m d L : Nat} {pre : List (Nat × Nat)} {own : List Nat} {A : World} {r : Nat} (h : SI w m d L pre own A) (hr : A.heap.size ≤ r) : SI w m d L pre (r :: own) A := by
 obtain ⟨rd, r2, r3, ro, ⟨k, hk, hp, s1, s2⟩, no, bl⟩ := h
 refine ⟨rd, r2, r3, ro, ⟨k, hk, hp, s1, s2⟩, fun j hj => ?_, bl⟩
 have := s1.lt
 simp only [List.mem_cons, not_or]
 exact ⟨by omega, no j hj⟩
/-- What short hands back when its mark has been taken. -/
theorem short_end (w W3 : World) (D : Nat) (tmps : Array Value) (x y : Value) (R : Ending → World → Prop) (h4 : tmps[4]?.getD undef = .pointer (some ⟨w.heap.size + 1 + 1, 0, none⟩)) (h5 : tmps[5]?.getD undef = .pointer (some ⟨w.heap.size + 1 + 1 + 1, 0, none⟩)) (hD : w.heap.size + 3 < D) (hK : W3.heap[D]? = some (.deferred (some [])))
 (c2 : W3.cell? ⟨w.heap.size + 1 + 1, 0, none⟩ = some x) (c3 : W3.cell? ⟨w.heap.size + 1 + 1 + 1, 0, none⟩ = some y) (hR : R (.returned (.tuple #[.agg #[x], .agg #[y]])) (W3.putObj D (.deferred none))) : bodyPostM Fence.wide 6 Tryz.prog Tryz.f179 R Exit.ret { tmps, defers := [{ target := .collected D, args := #[] }] } W3 := by
 refine ⟨by simp, .inl ⟨_, _, rfl, run_takeDeferred hK, ?_⟩⟩
 refine ⟨_, ?_, hR⟩
 have k2 : (W3.putObj D (.deferred none)).cell? ⟨w.heap.size + 1 + 1, 0, none⟩ = some x := (World.cell?_of_block (World.putObj_heap_other (by simp; omega))).trans c2
 have k3 : (W3.putObj D (.deferred none)).cell? ⟨w.heap.size + 1 + 1 + 1, 0, none⟩ = some y := (World.cell?_of_block (World.putObj_heap_other (by simp; omega))).trans c3
 simp [results, Tryz.results179, go_sem, h4, h5, k2, k3]
theorem short_calls {w : World} {B : Nat} {A : Option Addr} {L m d : Nat} (h1 : Mag w B A L m) (hB : B ≤ w.heap.size) (hd0 : 0 < d) (hd1 : d < BB) :
 Calls Tryz.prog 179 #[.agg #[.slice A L L], .int .u32 (d : Int)] w fun e w' => ∃ A1 k1 A2 k2, e = .returned (.tuple #[.agg #[.slice A1 k1 k1], .agg #[.slice A2 k2 k2]]) ∧ Mag w' w'.heap.size A1 k1 (m / d) ∧ Mag w' w'.heap.size A2 k2 (m % d) ∧ Below w.heap.size w w' := by
 have hlen := h1.2.1
 have H1 : Aside0 (Mag w B A L m) := ⟨h1⟩
 clear h1
 have hmk := make_u32 (L : Int) L rfl (by omega)
 refine (callsIn_wide (n := 6)).1 ?_
 refine callsIn_of_wp_marks Tryz.func179 rfl trivial ?_ rfl
 simp only [Tryz.ntmps179, List.size_toArray, List.length_cons, List.length_nil, Nat.reduceAdd, Nat.reduceSub, Array.replicate_succ, Array.replicate_zero, List.push_toArray, List.append_toArray, List.nil_append, List.cons_append]
 gi_wp2_with (first | (refine ⟨trivial, ?_⟩; gi_at_call 142; refine (callsIn_wide.2 (back_calls _ _ _)).mono ?_; rintro e w' ⟨rfl, rfl⟩))
 obtain ⟨W0, hW0⟩ : ∃ W0, W0 = ((((((((w.alloc (.cells #[.slice A L L] 87)).alloc (.cells #[.int .u32 (d : Int)] 110)).alloc (.cells #[.slice none 0 0] 87)).alloc (.cells #[.slice none 0 0] 87)).alloc (zeros L)).alloc (.cells #[.slice (some ⟨w.heap.size + 1 + 1 + 1 + 1, 0, none⟩) L L] 85)).alloc (.cells #[.int .u64 0] 54)).alloc (.cells #[.slice A L L] 85)) := ⟨_, rfl⟩
 have hb0 : Below w.heap.size w W0 := by subst hW0; repeat (first | exact Below.refl _ _ | apply below_alloc)
 have hcs : W0.cell? ⟨w.heap.size + 1 + 1 + 1 + 1 + 1 + 1 + 1, 0, none⟩ = some (.slice A L L) := by subst hW0; simp [go_sem]
 have I0 : SI w m d L [] [w.heap.size + 1 + 1 + 1 + 1 + 1 + 1 + 1] W0 := by
  subst hW0
  refine ⟨?_, ?_, ?_, ?_, ⟨0, by omega, rfl, ?_, ?_⟩, fun k hk => by simp; omega, hb0⟩
  ·exact ((((((boxed_at (w.alloc _) _ _ _ (by simp)).alloc _).alloc _).alloc _).alloc _).alloc _).alloc _
  ·exact (((((boxed_at ((w.alloc _).alloc _) _ _ _ (by simp)).alloc _).alloc _).alloc _).alloc _).alloc _
  ·exact ((((boxed_at (((w.alloc _).alloc _).alloc _) _ _ _ (by simp)).alloc _).alloc _).alloc _).alloc _
  ·exact ((boxed_at (((((w.alloc _).alloc _).alloc _).alloc _).alloc _) _ _ _ (by simp)).alloc _).alloc _
  ·have e : m / BB ^ (L - 0) % d = 0 := by
    have := dg_lt_pow BB1 m
    rw [H1.out.1] at this
    rw [Nat.sub_zero, Nat.div_eq_of_lt this, Nat.zero_mod]
   rw [e]
   exact (boxed_at ((((((w.alloc _).alloc _).alloc _).alloc _).alloc _).alloc _) _ _ _ (by simp)).alloc _
  ·rw [tops_start _ _ _ _ (by omega)]
   have := row_zeros ((((w.alloc (.cells #[.slice A L L] 87)).alloc (.cells #[.int .u32 (d : Int)] 110)).alloc (.cells #[.slice none 0 0] 87)).alloc (.cells #[.slice none 0 0] 87)) L
   have := ((this.keep (below_alloc (Below.refl _ _) (.cells #[.slice (some ⟨w.heap.size + 1 + 1 + 1 + 1, 0, none⟩) L L] 85))).keep (below_alloc (Below.refl _ _) (.cells #[.int .u64 0] 54))).keep (below_alloc (Below.refl _ _) (.cells #[.slice A L L] 85))
   simpa using this
 have hz0 : W0.heap.size = w.heap.size + 8 := by rw [hW0]; simp
 rw [← hW0]
 clear hW0 hmk
 refine wpIn_back (own0 := [w.heap.size + 1 + 1 + 1 + 1 + 1 + 1 + 1]) (n₀ := w.heap.size) (by omega) (gf := 175) (lb := #[.pointer (some ⟨w.heap.size + 1 + 1 + 1 + 1 + 1 + 1 + 1, 0, none⟩)]) rfl Tryz.call175 (back_seq 5 (by omega) (xs := dg BB m) ((H1.out.keep hB hb0).more hB).lst hlen hcs (by omega)) (by omega) (fun r hr => by simp only [List.mem_singleton] at hr; omega)
  (SI w m d L) (fun c pre own W => False) (fun pre own A B h ht => h.turn ht) (fun pre own A r h hr => h.adopt hr) (fun c pre own A B h ht => h) I0 (by simp) ?body ?done ?stop
 case stop =>
  rintro D c pre own W hD hSp h hK
  exact h.elim
 case body =>
  rintro l pre own x W ho hz hI ⟨k, hk, rfl, rfl⟩
  obtain ⟨rd, r2, r3, ro, ⟨k', hk', hp, s1, s2⟩, no, bl⟩ := hI
  obtain rfl := backs_inj hp
  obtain ⟨j, hj⟩ : ∃ j, k + 1 + j = L := ⟨L - 1 - k, by omega⟩
  have ek : L - k = j + 1 := by omega
  rw [ek] at s1 s2
  obtain ⟨a, ha⟩ : ∃ a, m / BB ^ j % BB = a := ⟨_, rfl⟩
  obtain ⟨r, hr⟩ : ∃ r, m / BB ^ (j + 1) % d = r := ⟨_, rfl⟩
  have ha1 : a < 1000000000 := by rw [← ha]; exact Nat.mod_lt _ (by decide)
  have hr1 : r < d := by rw [← hr]; exact Nat.mod_lt _ hd0
  have eb : backAt (dg BB m) k = (j, a) := by
   unfold backAt
   rw [H1.out.1, show L - 1 - k = j by omega, dg_getD BB1, ha]
  obtain ⟨q1, q2, q3⟩ := quo_step (m := m) (i := j) BB1 hd0
  rw [ha, hr] at q1 q2 q3
  rw [hr] at s1
  obtain ⟨n, hn⟩ : ∃ n, r * BB + a = n := ⟨_, rfl⟩
  have hn' : r * 1000000000 + a = n := hn
  rw [hn] at q1 q2 q3
  have hq : n / d < 1000000000 := by rw [Nat.div_lt_iff_lt_mul hd0, Nat.mul_comm]; exact q3
  have hd1' : d < 1000000000 := hd1
  rw [eb]
  have HQ : Aside0 (n / d = m / d / BB ^ j % BB ∧ n % d = m / BB ^ j % d ∧ backs (dg BB m) k ++ [(j, a)] = backs (dg BB m) (k + 1)) := ⟨q1, q2, by rw [backs_succ, eb]⟩
  have HR : Aside0 (SI w m d L (backs (dg BB m) k) own W) := ⟨⟨rd, r2, r3, ro, ⟨k, hk', rfl, by rw [ek, hr]; exact s1, by rw [ek]; exact s2⟩, no, bl⟩⟩
  have cD := rd.cell
  have cR := s1.cell
  have fR := s1.frozen
  have cO := ro.cell
  have cj := s2.cell (j := j) (by rw [tops_length]; omega)
  have fj := s2.frozen j
  have hji : (j : Int) < (L : Int) := by omega
  have hdn : ¬ d = 0 := by omega
  obtain ⟨q, hqq⟩ : ∃ q, n / d = q := ⟨_, rfl⟩
  obtain ⟨r', hrr⟩ : ∃ r', n % d = r' := ⟨_, rfl⟩
  have hr2 : r' < d := by rw [← hrr]; exact Nat.mod_lt _ hd0
  rw [hqq, hrr] at HQ
  rw [hqq] at hq
  have e5 : IntKind.u64.wrap ((n : Int) / (d : Int)) = (q : Int) := by rw [← Int.natCast_ediv, hqq]; exact IntWalk.u64_in _ (by omega)
  have e7 : IntKind.u64.wrap ((n : Int) % (d : Int)) = (r' : Int) := by rw [← Int.natCast_emod, hrr]; exact IntWalk.u64_in _ (by omega)
  have EN : Aside0 ((n : Int) % (d : Int) = (r' : Int)) := ⟨by rw [← Int.natCast_emod, hrr]⟩
  have e6 : IntKind.u32.wrap (q : Int) = (q : Int) := IntWalk.u32_in _ (by omega)
  have e1 : IntKind.u64.wrap ((r : Int) * 1000000000) = (r : Int) * 1000000000 := IntWalk.u64_in _ (by omega)
  have e2 : IntKind.u64.wrap ((r : Int) * 1000000000 + (a : Int)) = (n : Int) := by rw [IntWalk.u64_in _ (by omega)]; omega
  have e3 : IntKind.u64.wrap (a : Int) = (a : Int) := IntWalk.u64_in _ (by omega)
  have e4 : IntKind.u64.wrap (d : Int) = (d : Int) := IntWalk.u64_in _ (by omega)
  have HS := Aside0.mk s2
  have HB := Aside0.mk bl
  have HO := Aside0.mk (show Boxed W (w.heap.size + 1) 110 (.int .u32 (d : Int)) ∧ Boxed W (w.heap.size + 1 + 1) 87 (.slice none 0 0) ∧ Boxed W (w.heap.size + 1 + 1 + 1) 87 (.slice none 0 0) ∧ Boxed W (w.heap.size + 1 + 1 + 1 + 1 + 1) 85 (.slice (some ⟨w.heap.size + 1 + 1 + 1 + 1, 0, none⟩) L L) from ⟨rd, r2, r3, ro⟩)
  have HS1 := Aside0.mk s1
  clear ha hr q1 q2 q3 hn hn' hqq hrr eb ek rd r2 r3 ro s1 s2 bl hp
  gi_wp2
  rename_i Q' K1 hK1
  refine wpIn_round_held_drew (S := (fun V => V.cell? ⟨w.heap.size + 1 + 1 + 1 + 1 + 1, 0, none⟩ = some (.slice (some ⟨w.heap.size + 1 + 1 + 1 + 1, 0, none⟩) L L) ∧ V.cell? ⟨w.heap.size + 1, 0, none⟩ = some (.int .u32 (d : Int)))) (by kernel_rfl) (by kernel_rfl) (by repeat (first | exact (fun ⟨_, _, h⟩ => h) | refine letsOut_then ?_)) ?_ (fun hHeld => ?_)
  ·exact ⟨cO, cD⟩
  refine tp 0 ?_
  try simp only [PU]
  refine tp 1 ?_
  try simp only [PU]
  refine tp 2 ?_
  try simp only [PU]
  refine tp 3 ?_
  try simp only [PU]
  refine tp 4 ?_
  try simp only [PU]
  refine tp 5 ?_
  try simp only [PU]
  refine tp 6 ?_
  try simp only [PU]
  refine tp 7 ?_
  try simp only [PU]
  refine tc 8 fun K hK => ?_
  go_simp
  (skip)
  refine hK.out _ _ ?_ fun hHeld => ?_
  ·exact ⟨(Boxed.otherO HO.out.2.2.2 (by omega) _ _).cell, (Boxed.otherO HO.out.1 (by omega) _ _).cell⟩
  clear hK K; try simp only [PU]
  refine wpAnyH_done (by kernel_rfl) ?_ _
  refine hK1 _ _ ?_
  obtain ⟨W2, hW2⟩ : ∃ W2, (W.setCell ⟨w.heap.size + 1 + 1 + 1 + 1, j, none⟩ (.int .u32 (q : Int))).drew = W2 := ⟨_, rfl⟩
  have HO2 : Aside0 (Boxed W2 (w.heap.size + 1) 110 (.int .u32 (d : Int)) ∧ Boxed W2 (w.heap.size + 1 + 1) 87 (.slice none 0 0) ∧ Boxed W2 (w.heap.size + 1 + 1 + 1) 87 (.slice none 0 0) ∧ Boxed W2 (w.heap.size + 1 + 1 + 1 + 1 + 1) 85 (.slice (some ⟨w.heap.size + 1 + 1 + 1 + 1, 0, none⟩) L L) ∧ Boxed W2 (w.heap.size + 1 + 1 + 1 + 1 + 1 + 1) 54 (.int .u64 (r : Int)) ∧ Row W2 (w.heap.size + 1 + 1 + 1 + 1) (tops BB (m / d) L j)) := ⟨by
   subst hW2
   refine ⟨Boxed.otherO HO.out.1 (by omega) _ _, Boxed.otherO HO.out.2.1 (by omega) _ _, Boxed.otherO HO.out.2.2.1 (by omega) _ _, Boxed.otherO HO.out.2.2.2 (by omega) _ _, Boxed.otherO HS1.out (by omega) _ _, ?_⟩
   have := HS.out.set j q
   rw [HQ.out.1, tops_set] at this
   rw [HQ.out.1]
   exact this⟩
  have HK2 : Aside0 (KeepsFrom W0.heap.size W W2 ∧ Rf.Kept w.heap.size own W W2 ∧ Below w.heap.size w W2) := ⟨by
   subst hW2
   refine ⟨((KeepsOthers.setCell _ _ _).trans (KeepsOthers.drew _)).from _, ⟨((Below.refl _ _).setCell (by simp; omega) _).drew, fun x hx hl => ?_⟩, (HB.out.setCell (by simp; omega) _).drew⟩
   exact Below.heap_setCell _ _ _ _ (fun e => no 4 (by omega) (by rw [show w.heap.size + 4 = x from e.symm]; exact hx))⟩
  rw [hW2]
  clear hW2 hHeld HO HS HS1 HB cD cR fR cO cj fj
  have cD := HO2.out.1.cell
  have cR := HO2.out.2.2.2.2.1.cell
  have fR := HO2.out.2.2.2.2.1.frozen
  gi_wp2
  rw [EN.out]
  refine ⟨HK2.out.1.trans ((KeepsOthers.setCell _ _ _).from _), HK2.out.2.1.trans ⟨(Below.refl _ _).setCell (by simp; omega) _, fun x hx hl => ?_⟩, ?_⟩
  ·exact Below.heap_setCell _ _ _ _ (fun e => no 6 (by omega) (by rw [show w.heap.size + 6 = x from e.symm]; exact hx))
  ·refine ⟨Boxed.otherO HO2.out.1 (by omega) _ _, Boxed.otherO HO2.out.2.1 (by omega) _ _, Boxed.otherO HO2.out.2.2.1 (by omega) _ _, Boxed.otherO HO2.out.2.2.2.1 (by omega) _ _, ⟨k + 1, by omega, HQ.out.2.2, ?_, ?_⟩, no, HK2.out.2.2.setCell (by simp; omega) _⟩
   ·rw [show L - (k + 1) = j by omega, ← HQ.out.2.1]
    exact HO2.out.2.2.2.2.1.set _
   ·rw [show L - (k + 1) = j by omega]
    exact HO2.out.2.2.2.2.2.other (by omega) _ _
 case done =>
  rintro D xs own W hD rfl hI hK
  obtain ⟨rd, r2, r3, ro, ⟨k, hk, hp, s1, s2⟩, no, bl⟩ := hI
  obtain rfl := backs_inj hp
  rw [Nat.sub_self, Nat.pow_zero, Nat.div_one] at s1
  rw [Nat.sub_self, tops_full] at s2
  have hdig : Aside0 (Lst W (w.heap.size + 5) (some ⟨w.heap.size + 1 + 1 + 1 + 1, 0, none⟩) L (digs BB (m / d) L) ∧ (∀ x ∈ digs BB (m / d) L, x < BB) ∧ val BB (digs BB (m / d) L) = m / d) := ⟨by
   have := s2.lst
   rw [digs_length] at this
   refine ⟨this, digs_lt BB1 _ _, ?_⟩
   rw [val_digs BB1]
   refine Nat.mod_eq_of_lt (Nat.lt_of_le_of_lt (Nat.div_le_self _ _) ?_)
   have h := dg_lt_pow BB1 m
   rwa [H1.out.1] at h⟩
  obtain ⟨r, hr⟩ : ∃ r, m % d = r := ⟨_, rfl⟩
  have hr1 : r < d := by rw [← hr]; exact Nat.mod_lt _ hd0
  have hr2 : r < 1000000000 := Nat.lt_trans hr1 hd1
  have hrB : r < BB := Nat.lt_trans hr1 hd1
  rw [hr] at s1
  have HMR : Aside0 (m % d = r) := ⟨hr⟩
  have c2 := r2.cell
  have f2 := r2.frozen
  have c3 := r3.cell
  have f3 := r3.frozen
  have cO := ro.cell
  have cR := s1.cell
  have e3 : IntKind.u32.wrap (r : Int) = (r : Int) := IntWalk.u32_in _ (by omega)
  have HB := Aside0.mk bl
  have HO := Aside0.mk (show Boxed W (w.heap.size + 1 + 1) 87 (.slice none 0 0) ∧ Boxed W (w.heap.size + 1 + 1 + 1) 87 (.slice none 0 0) ∧ Boxed W (w.heap.size + 1 + 1 + 1 + 1 + 1) 85 (.slice (some ⟨w.heap.size + 1 + 1 + 1 + 1, 0, none⟩) L L) ∧ Boxed W (w.heap.size + 1 + 1 + 1 + 1 + 1 + 1) 54 (.int .u64 (r : Int)) from ⟨r2, r3, ro, s1⟩)
  have HZ : Aside0 (w.heap.size + 7 ≤ W.heap.size) := ⟨by have := s1.lt; omega⟩
  clear rd r2 r3 ro s1 s2 bl hr hp
  gi_wp2
  refine wpIn_wide.2 ?_
  refine Code.wp_mono NoPanic.imp ?_
  rename_i Q' K1 hK1
  refine wp_region_held_drew (S := (fun V => V.cell? ⟨w.heap.size + 1 + 1 + 1 + 1 + 1, 0, none⟩ = some (.slice (some ⟨w.heap.size + 1 + 1 + 1 + 1, 0, none⟩) L L) ∧ V.cell? ⟨w.heap.size + 1 + 1 + 1 + 1 + 1 + 1, 0, none⟩ = some (.int .u64 (r : Int)))) (by kernel_rfl) ?_ (fun hHeld => ?_)
  ·exact ⟨cO, cR⟩
  obtain ⟨Wd, hWd⟩ : ∃ Wd, W.drew = Wd := ⟨_, rfl⟩
  rw [hWd] at hHeld ⊢
  have HBV : Aside0 (Below W.heap.size W Wd) := ⟨by subst hWd; exact below_drew1 (Below.refl _ _)⟩
  refine tp 0 ?_
  try simp only [PU]
  refine tp 3 ?_
  try simp only [PU]
  refine tp 4 ?_
  try simp only [PU]
  refine wpAnyH_ready (rs := [1, 5]) (by kernel_rfl) (by simp) ?_
  refine AllReadyH.cons rfl (fun K hK => ?_) (AllReadyH.cons rfl (fun K hK => ?_) (AllReadyH.nil))
  ·go_simp
   (go_at_call 140; (with_reducible refine (strip_calls (lst_up (hdig.out.1.below ((Below.refl _ _).mono (Nat.le_refl _))) (by have := HZ.out; omega) HBV.out) hdig.out.2.1 (Nat.le_refl _) hlen (by have := HZ.out; have := HBV.out.size; omega)).mono ?_); rintro e w1 ⟨k1, rfl, hm1, hbq⟩; (try have HLIT := Aside0.mk (lst_up HLIT.out (by simp) hbq)); have HBV := Aside0.mk (bJoin hbq HBV.out))
   refine hK.out _ _ ?_ fun hHeld => ?_
   ·(first | exact ⟨keepAt hbq hHeld.1, keepAt hbq hHeld.2⟩ | exact ⟨keepAt (below_alloc (Below.refl _ _) _) hHeld.1, keepAt (below_alloc (Below.refl _ _) _) hHeld.2⟩ | exact ⟨(World.cell?_setCell_other _ _ _ _ (by simp)).trans hHeld.1, (World.cell?_setCell_other _ _ _ _ (by simp)).trans hHeld.2⟩)
   clear hK K; try simp only [PU]
   refine tp 2 ?_
   try simp only [PU]
   refine tc 5 fun K hK => ?_
   go_simp
   ((try have hm1 := hm1.keep (by have := HZ.out; have := HBV.out.size; omega) (below_alloc (Below.refl _ _) (.cells #[.int .u32 (r : Int)] 110))); have HLIT := Aside0.mk (lst_lit HBV.out r 110); have HBV := Aside0.mk (below_alloc HBV.out (.cells #[.int .u32 (r : Int)] 110)))
   refine hK.out _ _ ?_ fun hHeld => ?_
   ·(first | exact ⟨keepAt hbq hHeld.1, keepAt hbq hHeld.2⟩ | exact ⟨keepAt (below_alloc (Below.refl _ _) _) hHeld.1, keepAt (below_alloc (Below.refl _ _) _) hHeld.2⟩ | exact ⟨(World.cell?_setCell_other _ _ _ _ (by simp)).trans hHeld.1, (World.cell?_setCell_other _ _ _ _ (by simp)).trans hHeld.2⟩)
   clear hK K; try simp only [PU]
   refine tc 6 fun K hK => ?_
   go_simp
   (go_at_call 140; (with_reducible refine (strip_lit HLIT.out hrB (by first | (simp; done) | (have := hbq.size; simp at this ⊢; omega))).mono ?_); rintro e w6 ⟨A2, k2, rfl, hm2, hbq⟩; have hm1 := hm1.keep (by have := HZ.out; have := HBV.out.size; omega) hbq; have HBV := Aside0.mk (bJoin hbq HBV.out); have g2 := keepAt HBV.out c2; have g3 := keepAt HBV.out c3; have gf2 := keepF HBV.out c2 f2; have gf3 := keepF HBV.out c3 f3)
   refine hK.out _ _ ?_ fun hHeld => ?_
   ·(first | exact ⟨keepAt hbq hHeld.1, keepAt hbq hHeld.2⟩ | exact ⟨keepAt (below_alloc (Below.refl _ _) _) hHeld.1, keepAt (below_alloc (Below.refl _ _) _) hHeld.2⟩ | exact ⟨(World.cell?_setCell_other _ _ _ _ (by simp)).trans hHeld.1, (World.cell?_setCell_other _ _ _ _ (by simp)).trans hHeld.2⟩)
   clear hK K; try simp only [PU]
   refine tp 7 ?_
   try simp only [PU]
   refine tc 8 fun K hK => ?_
   go_simp
   (skip)
   refine hK.out _ _ ?_ fun hHeld => ?_
   ·(first | exact ⟨keepAt hbq hHeld.1, keepAt hbq hHeld.2⟩ | exact ⟨keepAt (below_alloc (Below.refl _ _) _) hHeld.1, keepAt (below_alloc (Below.refl _ _) _) hHeld.2⟩ | exact ⟨(World.cell?_setCell_other _ _ _ _ (by simp)).trans hHeld.1, (World.cell?_setCell_other _ _ _ _ (by simp)).trans hHeld.2⟩)
   clear hK K; try simp only [PU]
   refine tc 9 fun K hK => ?_
   go_simp
   (skip)
   refine hK.out _ _ ?_ fun hHeld => ?_
   ·(first | exact ⟨keepAt hbq hHeld.1, keepAt hbq hHeld.2⟩ | exact ⟨keepAt (below_alloc (Below.refl _ _) _) hHeld.1, keepAt (below_alloc (Below.refl _ _) _) hHeld.2⟩ | exact ⟨(World.cell?_setCell_other _ _ _ _ (by simp)).trans hHeld.1, (World.cell?_setCell_other _ _ _ _ (by simp)).trans hHeld.2⟩)
   clear hK K; try simp only [PU]
   refine wpAnyH_done (by kernel_rfl) ?_ _
   refine NoPanic.normal ?_
   refine hK1 _ _ ?_
   gi_wp2
   have hDw := (HBV.out.block D (Array.getElem?_eq_some_iff.1 hK).1).trans hK
   have hDX : ∀ u v : Value, ((w6.setCell ⟨w.heap.size + 1 + 1, 0, none⟩ u).setCell ⟨w.heap.size + 1 + 1 + 1, 0, none⟩ v).heap[D]? = some (.deferred (some [])) := fun u v => ((KeepsOthers.setCell _ _ _).trans (KeepsOthers.setCell _ _ _)).same D _ hDw rfl
   refine short_end w _ D _ (.slice (some ⟨w.heap.size + 1 + 1 + 1 + 1, 0, none⟩) k1 k1) (.slice A2 k2 k2) _ rfl rfl (by omega) (hDX _ _) ?_ ?_ ⟨_, k1, _, k2, rfl, ?_, ?_, ?_⟩
   ·exact (World.cell?_setCell_other _ _ _ _ (by simp)).trans (World.cell?_setCell_same' _ _ _ (by rw [g2]; rfl))
   ·exact World.cell?_setCell_same' _ _ _ (by rw [World.cell?_setCell_other _ _ _ _ (by simp), g3]; rfl)
   ·rw [← hdig.out.2.2]
    refine Mag.more (Mag.putD (Mag.setA (Mag.setA hm1 (hm1.apart g2 (fun d => by simp)) _ _) (hm1.apart g3 (fun d => by simp)) _ _) (hDX _ _) _) (by have := HZ.out; have := HBV.out.size; simp; omega)
   ·rw [HMR.out]
    refine Mag.more (Mag.putD (Mag.setA (Mag.setA hm2 (hm2.apart g2 (fun d => by simp)) _ _) (hm2.apart g3 (fun d => by simp)) _ _) (hDX _ _) _) (by simp)
   ·exact (((HB.out.trans (HBV.out.mono (by have := HZ.out; omega))).setCell (by simp; omega) _).setCell (by simp; omega) _).trans (belowK_b (w := w) (Nat.le_refl _) _ D _ _ (by omega) (hDX _ _) rfl rfl)
  ·go_simp
   ((try have hm1 := hm1.keep (by have := HZ.out; have := HBV.out.size; omega) (below_alloc (Below.refl _ _) (.cells #[.int .u32 (r : Int)] 110))); have HLIT := Aside0.mk (lst_lit HBV.out r 110); have HBV := Aside0.mk (below_alloc HBV.out (.cells #[.int .u32 (r : Int)] 110)))
   refine hK.out _ _ ?_ fun hHeld => ?_
   ·(first | exact ⟨keepAt hbq hHeld.1, keepAt hbq hHeld.2⟩ | exact ⟨keepAt (below_alloc (Below.refl _ _) _) hHeld.1, keepAt (below_alloc (Below.refl _ _) _) hHeld.2⟩ | exact ⟨(World.cell?_setCell_other _ _ _ _ (by simp)).trans hHeld.1, (World.cell?_setCell_other _ _ _ _ (by simp)).trans hHeld.2⟩)
   clear hK K; try simp only [PU]
   refine tc 1 fun K hK => ?_
   go_simp
   (go_at_call 140; (with_reducible refine (strip_calls (lst_up (hdig.out.1.below ((Below.refl _ _).mono (Nat.le_refl _))) (by have := HZ.out; omega) HBV.out) hdig.out.2.1 (Nat.le_refl _) hlen (by have := HZ.out; have := HBV.out.size; omega)).mono ?_); rintro e w1 ⟨k1, rfl, hm1, hbq⟩; (try have HLIT := Aside0.mk (lst_up HLIT.out (by simp) hbq)); have HBV := Aside0.mk (bJoin hbq HBV.out))
   refine hK.out _ _ ?_ fun hHeld => ?_
   ·(first | exact ⟨keepAt hbq hHeld.1, keepAt hbq hHeld.2⟩ | exact ⟨keepAt (below_alloc (Below.refl _ _) _) hHeld.1, keepAt (below_alloc (Below.refl _ _) _) hHeld.2⟩ | exact ⟨(World.cell?_setCell_other _ _ _ _ (by simp)).trans hHeld.1, (World.cell?_setCell_other _ _ _ _ (by simp)).trans hHeld.2⟩)
   clear hK K; try simp only [PU]
   refine tp 2 ?_
   try simp only [PU]
   refine tc 6 fun K hK => ?_
   go_simp
   (go_at_call 140; (with_reducible refine (strip_lit HLIT.out hrB (by first | (simp; done) | (have := hbq.size; simp at this ⊢; omega))).mono ?_); rintro e w6 ⟨A2, k2, rfl, hm2, hbq⟩; have hm1 := hm1.keep (by have := HZ.out; have := HBV.out.size; omega) hbq; have HBV := Aside0.mk (bJoin hbq HBV.out); have g2 := keepAt HBV.out c2; have g3 := keepAt HBV.out c3; have gf2 := keepF HBV.out c2 f2; have gf3 := keepF HBV.out c3 f3)
   refine hK.out _ _ ?_ fun hHeld => ?_
   ·(first | exact ⟨keepAt hbq hHeld.1, keepAt hbq hHeld.2⟩ | exact ⟨keepAt (below_alloc (Below.refl _ _) _) hHeld.1, keepAt (below_alloc (Below.refl _ _) _) hHeld.2⟩ | exact ⟨(World.cell?_setCell_other _ _ _ _ (by simp)).trans hHeld.1, (World.cell?_setCell_other _ _ _ _ (by simp)).trans hHeld.2⟩)
   clear hK K; try simp only [PU]
   refine tp 7 ?_
   try simp only [PU]
   refine tc 8 fun K hK => ?_
   go_simp
   (skip)
   refine hK.out _ _ ?_ fun hHeld => ?_
   ·(first | exact ⟨keepAt hbq hHeld.1, keepAt hbq hHeld.2⟩ | exact ⟨keepAt (below_alloc (Below.refl _ _) _) hHeld.1, keepAt (below_alloc (Below.refl _ _) _) hHeld.2⟩ | exact ⟨(World.cell?_setCell_other _ _ _ _ (by simp)).trans hHeld.1, (World.cell?_setCell_other _ _ _ _ (by simp)).trans hHeld.2⟩)
   clear hK K; try simp only [PU]
   refine tc 9 fun K hK => ?_
   go_simp
   (skip)
   refine hK.out _ _ ?_ fun hHeld => ?_
   ·(first | exact ⟨keepAt hbq hHeld.1, keepAt hbq hHeld.2⟩ | exact ⟨keepAt (below_alloc (Below.refl _ _) _) hHeld.1, keepAt (below_alloc (Below.refl _ _) _) hHeld.2⟩ | exact ⟨(World.cell?_setCell_other _ _ _ _ (by simp)).trans hHeld.1, (World.cell?_setCell_other _ _ _ _ (by simp)).trans hHeld.2⟩)
   clear hK K; try simp only [PU]
   refine wpAnyH_done (by kernel_rfl) ?_ _
   refine NoPanic.normal ?_
   refine hK1 _ _ ?_
   gi_wp2
   have hDw := (HBV.out.block D (Array.getElem?_eq_some_iff.1 hK).1).trans hK
   have hDX : ∀ u v : Value, ((w6.setCell ⟨w.heap.size + 1 + 1, 0, none⟩ u).setCell ⟨w.heap.size + 1 + 1 + 1, 0, none⟩ v).heap[D]? = some (.deferred (some [])) := fun u v => ((KeepsOthers.setCell _ _ _).trans (KeepsOthers.setCell _ _ _)).same D _ hDw rfl
   refine short_end w _ D _ (.slice (some ⟨w.heap.size + 1 + 1 + 1 + 1, 0, none⟩) k1 k1) (.slice A2 k2 k2) _ rfl rfl (by omega) (hDX _ _) ?_ ?_ ⟨_, k1, _, k2, rfl, ?_, ?_, ?_⟩
   ·exact (World.cell?_setCell_other _ _ _ _ (by simp)).trans (World.cell?_setCell_same' _ _ _ (by rw [g2]; rfl))
   ·exact World.cell?_setCell_same' _ _ _ (by rw [World.cell?_setCell_other _ _ _ _ (by simp), g3]; rfl)
   ·rw [← hdig.out.2.2]
    refine Mag.more (Mag.putD (Mag.setA (Mag.setA hm1 (hm1.apart g2 (fun d => by simp)) _ _) (hm1.apart g3 (fun d => by simp)) _ _) (hDX _ _) _) (by have := HZ.out; have := HBV.out.size; simp; omega)
   ·rw [HMR.out]
    refine Mag.more (Mag.putD (Mag.setA (Mag.setA hm2 (hm2.apart g2 (fun d => by simp)) _ _) (hm2.apart g3 (fun d => by simp)) _ _) (hDX _ _) _) (by simp)
   ·exact (((HB.out.trans (HBV.out.mono (by have := HZ.out; omega))).setCell (by simp; omega) _).setCell (by simp; omega) _).trans (belowK_b (w := w) (Nat.le_refl _) _ D _ _ (by omega) (hDX _ _) rfl rfl)
end
section
open Go.Proofs.YtillgofjlpjbcaaGreatDoor.Rf Go.Proofs.YtillgofjlpjbcaaGreatDoorW.PrintLast Go.Proofs.YtillgofjlpjbcaaGreatDoorW.PrintMore Go.Proofs.YtillgofjlpjbcaaGreatDoorW.PrintWords Go.RowKit Go.Shelf
attribute [local go_sem] Oper.semAt_some
/-- The string of an integer. -/
def strI (x : Int) : ByteArray := ⟨(Lib.itoa x).toArray⟩
theorem text_zero {w : World} {B : Nat} {A : Option Addr} {L : Nat} (h1 : Mag w B A L (0 : Int).natAbs) (hB : B ≤ w.heap.size) :
 Calls Tryz.prog 76 #[iV A L 0] w fun e w' => e = .returned (.string (strI 0)) ∧ Below w.heap.size w w' := by
 have HZ : ∀ W, Below w.heap.size w W → Calls Tryz.prog 89 #[.agg #[.slice A L L]] W fun e w' => e = .returned (.bool true) ∧ Below W.heap.size W w' := fun W hb => isZero_calls (h1.keep hB hb)
 have HZ := Aside0.mk HZ
 have HB := Aside0.mk (Below.refl w.heap.size w)
 clear h1
 unfold iV
 go_enter Tryz.func76, Tryz.ntmps76
 go_wp2_with (first | (go_at_call 89; ((with_reducible refine (HZ.out _ bl).mono ?_); rintro e w1 ⟨rfl, hb1⟩; obtain ⟨hc1, hf1⟩ := bcell hb1; have z1_0 : (w.heap.size) < w1.heap.size := zb hb1; have nB1 : Aside0 (Below w.heap.size w w1) := sb hb1; clear HB; have HB := nB1; clear nB1)))
 go_ret
 refine ⟨?_, bl⟩
 have : strI 0 = ⟨#[48]⟩ := by unfold strI Lib.itoa; rw [if_neg (by omega), show (0 : Int).toNat = 0 from rfl, dec_small (by omega)]; rfl
 rw [this]; rfl
theorem builder_new (W : World) : Lib.IsBuilderF 148 5 W.heap.size W.heap.size [] (W.alloc (.cells #[.pointer none, .slice none 0 0] 148)) :=
 Or.inl ⟨Nat.le_refl _, .slice none 0 0, heap_alloc_new _ _, World.ownsRowF_nil _ _ _ _, by simp [Value.ownBlock]⟩
/-- What the first limbs give. -/
def topD (m L k : Nat) : List UInt8 := if k = 0 then [] else Lib.decDigits (m / BB ^ (L - k))
theorem top_stepD {w : World} {B : Nat} {A : Option Addr} {L m k j d : Nat} (h : Mag w B A L m) (hk : k < L) (hm0 : m ≠ 0) (hj : k + 1 + j = L) (hd : m / BB ^ j % BB = d) :
 topD m L (k + 1) = topD m L k ++ ((if k = 0 then [] else List.replicate (9 - (Lib.decDigits d).length) 48) ++ Lib.decDigits d) := by
 have hlt := dg_lt_pow BB1 m
 rw [h.1] at hlt
 have hge := dg_ge_pow BB1 (L - 1) m (by rw [h.1]; omega)
 unfold topD
 rw [if_neg (by omega), show L - (k + 1) = j by omega]
 by_cases hk0 : k = 0
 ·subst hk0
  rw [if_pos rfl, if_pos rfl, List.nil_append, List.nil_append, ← hd, Nat.mod_eq_of_lt]
  rw [Nat.div_lt_iff_lt_mul (Nat.pow_pos (by decide)), Nat.mul_comm]
  have e : BB ^ (j + 1) = BB ^ j * BB := Nat.pow_succ _ _
  rw [show j + 1 = L by omega] at e
  omega
 ·rw [if_neg hk0, if_neg hk0, show L - k = j + 1 by omega, ← hd]
  refine dec_step (Nat.div_pos ?_ (Nat.pow_pos (by decide)))
  exact Nat.le_trans (Nat.pow_le_pow_right (by decide) (by omega)) hge
theorem topD_le {w : World} {B : Nat} {A : Option Addr} {L m k : Nat} (h : Mag w B A L m) (hk : k ≤ L) {sg : List UInt8} (hs : sg.length ≤ 1) : (sg ++ topD m L k).length ≤ 1000000 := by
 have hL := h.2.1
 have hlt := dg_lt_pow BB1 m
 rw [h.1] at hlt
 rw [List.length_append]
 unfold topD
 split
 ·simp; omega
 ·have h1 : m / BB ^ (L - k) < 10 ^ (9 * k) := by
   rw [Nat.pow_mul, Nat.div_lt_iff_lt_mul (Nat.pow_pos (by decide)), show (10 ^ 9 : Nat) = BB from rfl, ← Nat.pow_add, show k + (L - k) = L by omega]
   exact hlt
  have := dec_len (9 * k) _ (by omega) h1
  omega
theorem repeat0 (q : Nat) (hq : q ≤ 9) (W : World) : Calls Tryz.prog 62 #[.string ⟨#[48]⟩, .int .i64 (q : Int)] W fun e w' => e = .returned (.string ⟨(List.replicate q 48).toArray⟩) ∧ Below W.heap.size W w' := by
 have h := Tryz.strings_Repeat ⟨#[48]⟩ q W (by omega) (by show 1 * q ≤ _; omega)
 have e : Lib.repeatL [48] q = List.replicate q 48 := by
  clear h hq
  induction q with
  | zero => rfl
  | succ q ih => rw [Lib.repeatL, ih]; rfl
 rw [show (⟨#[48]⟩ : ByteArray).data.toList = [48] from rfl, e] at h
 exact h
/-- What lies in memory between two rounds of text. -/
structure TI (w : World) (b : Nat) (A : Option Addr) (L m : Nat) (neg : Bool) (sg : List UInt8) (pre : List (Nat × Nat)) (own : List Nat) (W : World) : Prop where
 r : W.heap[w.heap.size]? = some (.cells #[.slice A L L, .bool neg] 89 (0, 0))
 bx : ∃ k p v, k ≤ L ∧ pre = backs (dg BB m) k ∧ BX b b p v (Lib.byteCells (sg ++ topD m L k)) W ∧ ∀ g, v.ownBlock = some g → g ∉ own
 no : w.heap.size ∉ own ∧ b ∉ own
 bl : Below w.heap.size w W
 lt : w.heap.size < b
theorem TI.turn {w : World} {b : Nat} {A : Option Addr} {L m : Nat} {neg : Bool} {sg : List UInt8} {pre : List (Nat × Nat)} {own : List Nat} {X Y : World} (h : TI w b A L m neg sg pre own X) (ht : Turn w.heap.size own X Y) : TI w b A L m neg sg pre own Y := by
 obtain ⟨r, ⟨k, p, v, hk, hp, ⟨b0, b1, b2, b3, b4⟩, hv⟩, no, bl, lt⟩ := h
 refine ⟨ht.cells _ _ r rfl no.1, ⟨k, p, v, hk, hp, ⟨b0, b1, ht.cells _ _ b2 rfl no.2, ⟨b3.1, ?_⟩, b4⟩, hv⟩, no, below_turn bl ht, lt⟩
 rcases b3.2 with hn | ⟨g, cap, cur, fz, rfl, hbg, hg, hr⟩
 ·exact .inl hn
 ·exact .inr ⟨g, cap, cur, fz, rfl, hbg, ht.cells _ _ hg rfl (hv g rfl), hr⟩
theorem TI.adopt {w : World} {b : Nat} {A : Option Addr} {L m : Nat} {neg : Bool} {sg : List UInt8} {pre : List (Nat × Nat)} {own : List Nat} {X : World} {r : Nat} (h : TI w b A L m neg sg pre own X) (hr : X.heap.size ≤ r) : TI w b A L m neg sg pre (r :: own) X := by
 obtain ⟨r0, ⟨k, p, v, hk, hp, hx, hv⟩, no, bl, lt⟩ := h
 have hl := hx.lt
 refine ⟨r0, ⟨k, p, v, hk, hp, hx, fun g hg => ?_⟩, ?_, bl, lt⟩
 ·have := (hx.2.2.2.1.lt g hg).2
  simp only [List.mem_cons, not_or]
  exact ⟨by omega, hv g hg⟩
 ·simp only [List.mem_cons, not_or]
  exact ⟨⟨by omega, no.1⟩, by omega, no.2⟩
theorem text_round {w W w2 W3 : World} {b B0 : Nat} {A : Option Addr} {L m k : Nat} {neg : Bool} {sg : List UInt8} {own : List Nat} {p v p' v' : Value} {t : ByteArray} {x : Nat × Nat}
 (HX : BX b b p v (Lib.byteCells (sg ++ topD m L k)) W ∧ (∀ g, v.ownBlock = some g → g ∉ own) ∧ W.heap[w.heap.size]? = some (.cells #[.slice A L L, .bool neg] 89 (0, 0)) ∧ Below w.heap.size w W)
 (HB2 : Below W.heap.size W w2) (hx3 : BX b b p' v' (Lib.byteCells (sg ++ topD m L k) ++ Lib.strCells t) W3) (hb3 : Below b w2 W3) (hk3 : ∀ k, k < w2.heap.size → k ≠ b → v.ownBlock ≠ some k → W3.heap[k]? = w2.heap[k]?) (hg3 : ∀ g, v'.ownBlock = some g → v.ownBlock = some g ∨ w2.heap.size ≤ g)
 (ht : topD m L (k + 1) = topD m L k ++ t.data.toList) (hk : k < L) (hx : backs (dg BB m) k ++ [x] = backs (dg BB m) (k + 1)) (no : w.heap.size ∉ own ∧ b ∉ own) (lt : w.heap.size < b) (ho : ∀ r, r ∈ own → w.heap.size ≤ r ∧ r < W.heap.size) :
 KeepsFrom B0 W W3 ∧ Rf.Kept w.heap.size own W W3 ∧ TI w b A L m neg sg (backs (dg BB m) k ++ [x]) own W3 := by
 obtain ⟨h1, h2, h3, h4⟩ := HX
 have hbl := h1.lt
 have hz := HB2.size
 have hne : v.ownBlock ≠ some w.heap.size := fun e => by have := (h1.2.2.2.1.lt _ e).1; omega
 have hbw : Below w.heap.size W W3 := (HB2.mono (by omega)).trans (hb3.mono (by omega))
 refine ⟨⟨hbw.size, fun i o hi hoi hc => ?_⟩, ⟨hbw, fun q hq hl => ?_⟩, ⟨?_, ⟨k + 1, p', v', by omega, hx, ?_, fun g hg hm => ?_⟩, no, h4.trans hbw, lt⟩⟩
 ·have hil := (Array.getElem?_eq_some_iff.1 hoi).1
  by_cases h5 : i = b
  ·subst h5; rw [h1.2.2.1] at hoi; cases hoi; cases hc
  ·by_cases h6 : v.ownBlock = some i
   ·exfalso
    rcases h1.2.2.2.1.2 with ⟨rfl, _⟩ | ⟨g, cap, cur, fz, rfl, _, hgg, _⟩
    ·simp [Value.ownBlock] at h6
    ·simp [Value.ownBlock] at h6
     subst h6
     rw [hgg] at hoi; cases hoi; cases hc
   ·rw [hk3 i (by omega) h5 h6, HB2.block i hil]; exact hoi
 ·rw [hk3 q (by omega) (fun e => no.2 (e ▸ hq)) (fun e => h2 q e hq)]
  exact HB2.block q hl
 ·rw [hk3 _ (by omega) (by omega) hne, HB2.block _ (by omega)]
  exact h3
 ·rw [ht, ← List.append_assoc, Lib.byteCells_append, ← Lib.strCells_eq]
  exact hx3
 ·rcases hg3 g hg with h | h
  ·exact h2 g h hm
  ·have := (ho g hm).2
   omega
/-- What text hands back when its mark has been taken. -/
theorem text_end (w W3 : World) (D : Nat) (tmps : Array Value) (S : List UInt8) (R : Ending → World → Prop) (h2 : tmps[2]?.getD undef = .string ⟨S.toArray⟩) (hK : W3.heap[D]? = some (.deferred (some [])))
 (hR : R (.returned (.string ⟨S.toArray⟩)) (W3.putObj D (.deferred none))) : bodyPostM Fence.wide 6 Tryz.prog Tryz.f76 R Exit.ret { tmps, defers := [{ target := .collected D, args := #[] }] } W3 := by
 refine ⟨by simp, .inl ⟨_, _, rfl, run_takeDeferred hK, ?_⟩⟩
 refine ⟨_, ?_, hR⟩
 simp [results, Tryz.results76, go_sem, h2]
theorem text_some {w : World} {B : Nat} {A : Option Addr} {L : Nat} {x : Int} (h1 : Mag w B A L x.natAbs) (hB : B ≤ w.heap.size) (htab : Tens w) (hx : x ≠ 0) :
 Calls Tryz.prog 76 #[iV A L x] w fun e w' => e = .returned (.string (strI x)) ∧ Below w.heap.size w w' := by
 have hm0 : x.natAbs ≠ 0 := by omega
 have hL := h1.2.1
 have hL0 : 0 < L := by
  rcases Nat.eq_zero_or_pos L with h | h
  ·exact absurd (h1.len_zero.1 h) hm0
  ·exact h
 have HS : Aside0 (Lib.itoa x = (if decide (x < 0) = true then [45] else []) ++ Lib.decDigits x.natAbs) := ⟨by
  unfold Lib.itoa
  by_cases h : x < 0
  ·rw [if_pos h, if_pos (by simpa using h)]; rfl
  ·rw [if_neg h, if_neg (by simpa using h), show x.toNat = x.natAbs by omega]; rfl⟩
 have HZ : Aside0 (∀ W, Below w.heap.size w W → Calls Tryz.prog 89 #[.agg #[.slice A L L]] W fun e w' => e = .returned (.bool false) ∧ Below W.heap.size W w') := ⟨fun W hb => by
  have := isZero_calls (h1.keep hB hb)
  rwa [decide_eq_false hm0] at this⟩
 have H1 := Aside0.mk h1
 have HT := Aside0.mk htab
 have HB := Aside0.mk (Below.refl w.heap.size w)
 unfold strI iV
 generalize decide (x < 0) = neg at *
 generalize x.natAbs = m at *
 generalize Lib.itoa x = S at *
 clear h1 htab hx
 refine (callsIn_wide (n := 6)).1 ?_
 refine callsIn_of_wp_marks Tryz.func76 rfl trivial ?_ rfl
 simp only [Tryz.ntmps76, List.size_toArray, List.length_cons, List.length_nil, Nat.reduceAdd, Nat.reduceSub, Array.replicate_succ, Array.replicate_zero, List.push_toArray, List.append_toArray, List.nil_append, List.cons_append]
 refine wpIn_wide.2 ?_
 obtain ⟨sg, hsg⟩ : ∃ sg : List UInt8, (if neg = true then [45] else []) = sg := ⟨_, rfl⟩
 rw [hsg] at HS
 have hsl : sg.length ≤ 1 := by rw [← hsg]; split <;> simp
 have HW : Aside0 (∀ (b : Nat) (W : World), Lib.IsBuilderF 148 5 b b [] W → b ≤ W.heap.size → neg = true → Calls Tryz.prog 141 #[.pointer (some ⟨b, 0, none⟩), .int .u8 45] W fun e w' => e = .returned .nilIface ∧ Below b W w' ∧ Aside0 (Lib.IsBuilderF 148 5 b b (Lib.byteCells sg) w')) := ⟨fun b W h hb hn => by
  refine (writeByte_calls b b [] 45 W h (by simp) hb).mono ?_
  rintro e w' ⟨rfl, h1, h2, _⟩
  refine ⟨rfl, h2, ⟨.inr ?_⟩⟩
  rw [← hsg, if_pos hn]
  exact h1⟩
 have HNW : Aside0 (neg = false → sg = []) := ⟨fun h => by rw [← hsg, h]; rfl⟩
 clear hsg
 go_wp2_with (first
  | (go_at_call 89; ((with_reducible refine (HZ.out _ bl).mono ?_); rintro e w1 ⟨rfl, hb1⟩; obtain ⟨hc1, hf1⟩ := bcell hb1; have z1_0 : (w.heap.size) < w1.heap.size := zb hb1; have nB1 : Aside0 (Below w.heap.size w w1) := sb hb1; clear HB; have HB := nB1; clear nB1))
  | (go_at_call 141; go_loud ((with_reducible refine (HW.out _ _ (builder_new _) (by simp) (by assumption)).mono ?_); rintro e w5 ⟨rfl, hb5, hI5⟩; have z5 : w.heap.size < w5.heap.size := Nat.lt_of_lt_of_le (by simp; omega) hb5.size; have c5 : ∀ j, w5.cell? ⟨w.heap.size, j, none⟩ = w1.cell? ⟨w.heap.size, j, none⟩ := fun j => (hb5.cell (p := ⟨w.heap.size, j, none⟩) z1_0).trans (by simp [go_sem, z1_0]); have HB5 := Aside0.mk hb5; clear hb5))
  | (go_at_call 142; (with_reducible refine (back_calls _ _ _).mono ?_); rintro e w' ⟨rfl, rfl⟩))
 ·have h1a : w1.heap[w.heap.size]? = some (.cells #[.slice A L L, .bool neg] 89 (0, 0)) := (hb1.block _ (by simp)).trans (heap_alloc_new w _)
  have h5a : w5.heap[w.heap.size]? = some (.cells #[.slice A L L, .bool neg] 89 (0, 0)) := (HB5.out.block _ z1_0).trans ((Below.heap_alloc _ _ _ z1_0).trans h1a)
  have hb0 : Below w.heap.size w (w5.alloc (.cells #[.slice A L L] 85)) := below_alloc ((bl : Below w.heap.size w (w1.alloc (.cells #[.pointer none, .slice none 0 0] 148))).trans (HB5.out.mono (by omega))) _
  have hlt5 : w1.heap.size < w5.heap.size := Nat.lt_of_lt_of_le (by simp) HB5.out.size
  obtain ⟨p5, v5, hx5⟩ := BX.of hI5.out
  have I0 : TI w w1.heap.size A L m neg sg [] [w5.heap.size] (w5.alloc (.cells #[.slice A L L] 85)) :=
   ⟨(Below.heap_alloc _ _ _ z5).trans h5a, ⟨0, p5, v5, by omega, rfl, by rw [topD, if_pos rfl, List.append_nil]; exact hx5.below (below_alloc (Below.refl _ _) _), fun g hg => by have := (hx5.2.2.2.1.lt g hg).2; simp; omega⟩, by simp; omega, hb0, z1_0⟩
  have hcs : (w5.alloc (.cells #[.slice A L L] 85)).cell? ⟨w5.heap.size, 0, none⟩ = some (.slice A L L) := by simp [go_sem]
  have hbs : w.heap.size ≤ w5.heap.size ∧ w5.heap.size < (w5.alloc (.cells #[.slice A L L] 85)).heap.size := ⟨by omega, by simp⟩
  clear hx5 hlt5 h5a h1a c5
  generalize (w5.alloc (.cells #[.slice A L L] 85)) = W0 at *
  generalize w5.heap.size = Bs at *
  generalize hbb : w1.heap.size = b at *
  clear hb1 hc1 hf1 HB
  refine (wpIn_wide (n := 6)).1 ?_
  refine wpIn_back (own0 := [Bs]) (n₀ := w.heap.size) (by omega) (gf := 175) (lb := #[.pointer (some ⟨Bs, 0, none⟩)]) rfl Tryz.call175 (back_seq 5 (by omega) (xs := dg BB m) ((H1.out.keep hB hb0).more hB).lst hL hcs (by omega)) (by omega) (fun r hr => by simp only [List.mem_singleton] at hr; omega)
   (TI w b A L m neg sg) (fun c pre own W => False) (fun pre own A B h ht => h.turn ht) (fun pre own A r h hr => h.adopt hr) (fun c pre own A B h ht => h) I0 (by simp) ?body ?done ?stop
  case stop =>
   rintro D c pre own W hD hSp h hK
   exact h.elim
  case body =>
   rintro l pre own x W ho hz hI ⟨k, hk, rfl, rfl⟩
   obtain ⟨r, ⟨k', p, v, hk', hp, hx, hv⟩, no, bl, lt⟩ := hI
   obtain rfl := backs_inj hp
   obtain ⟨j, hj⟩ : ∃ j, k + 1 + j = L := ⟨L - 1 - k, by omega⟩
   obtain ⟨d, hd⟩ : ∃ d, m / BB ^ j % BB = d := ⟨_, rfl⟩
   have hd1 : d < 1000000000 := by rw [← hd]; exact Nat.mod_lt _ (by decide)
   have eb : backAt (dg BB m) k = (j, d) := by
    unfold backAt
    rw [H1.out.1, show L - 1 - k = j by omega, dg_getD BB1, hd]
   rw [eb]
   have c0 : W.cell? ⟨w.heap.size, 0, none⟩ = some (.slice A L L) := by simp [World.cell?, r]
   have HX := Aside0.mk (show BX b b p v (Lib.byteCells (sg ++ topD m L k)) W ∧ (∀ g, v.ownBlock = some g → g ∉ own) ∧ W.heap[w.heap.size]? = some (.cells #[.slice A L L, .bool neg] 89 (0, 0)) ∧ Below w.heap.size w W from ⟨hx, hv, r, bl⟩)
   have e1 : IntKind.i64.wrap ((L : Int) - 1) = (L : Int) - 1 := IntWalk.i64_in _ (by omega)
   have e0 : IntKind.u64.wrap (d : Int) = (d : Int) := IntWalk.u64_in _ (by omega)
   have hdl := dec_len 9 d (by omega) (by omega)
   have HD : Aside0 (topD m L (k + 1) = topD m L k ++ ((if k = 0 then [] else List.replicate (9 - (Lib.decDigits d).length) 48) ++ Lib.decDigits d)) := ⟨top_stepD H1.out hk hm0 hj hd⟩
   obtain ⟨t, ht⟩ : ∃ t : ByteArray, (⟨(Lib.decDigits d).toArray⟩ : ByteArray) = t := ⟨_, rfl⟩
   have htl : t.data.toList = Lib.decDigits d := by rw [← ht]
   have hts : t.size = (Lib.decDigits d).length := by rw [← ht]; rfl
   have HF : Aside0 (∀ W, Below w.heap.size w W → Calls Tryz.prog 49 #[.int .u64 (d : Int), .int .i64 10] W fun e w' => e = .returned (.string t) ∧ Below W.heap.size W w') := ⟨fun W hb => by rw [← ht]; exact formatUint_calls d (by omega) W (HT.out.below hb)⟩
   rw [← htl] at HD hdl
   rw [← htl] at hts
   have HEB : Aside0 (backs (dg BB m) k ++ [(j, d)] = backs (dg BB m) (k + 1)) := ⟨by rw [backs_succ, eb]⟩
   clear ht htl hd eb hx hv r bl hp
   by_cases hk0 : k = 0
   ·subst hk0
    have hji : ¬ (j : Int) < (L : Int) - 1 := by omega
    rw [if_pos rfl, List.nil_append] at HD
    gi_wp2_with (first
     | (refine ⟨trivial, ?_⟩; gi_at_call 49; (with_reducible refine ((callsIn_wide.2 (HF.out _ HX.out.2.2.2)).inRound _).mono ?_); rintro e w2 ⟨rfl, hb2⟩; have c2 := (hb2.cell (p := ⟨w.heap.size, 0, none⟩) (World.block_lt_of_cell? W _ c0)).trans c0; have HB2 := Aside0.mk hb2)
     | (refine ⟨trivial, ?_⟩; gi_at_call 130; go_loud ((with_reducible refine ((callsIn_wide.2 (writeStringX t (HX.out.1.below HB2.out) (by rw [Lib.byteCells_length]; simp [topD]; omega) (Nat.le_trans (Nat.le_of_lt HX.out.1.lt) HB2.out.size))).inRound _).mono ?_); rintro e w3 ⟨p', v', rfl, hx3, hb3, hk3, hg3⟩)))
    rename_i w3 _ _ _ _
    exact text_round HX.out HB2.out hx3 hb3 hk3 hg3 HD.out hk HEB.out no lt ho
   ·have hji : (j : Int) < (L : Int) - 1 := by omega
    rw [if_neg hk0] at HD
    obtain ⟨q, hq⟩ : ∃ q : Nat, 9 - t.data.toList.length = q := ⟨_, rfl⟩
    have e2 : IntKind.i64.wrap (9 - (t.size : Int)) = (q : Int) := by rw [IntWalk.i64_in _ (by omega)]; omega
    have HR : Aside0 (∀ W, Calls Tryz.prog 62 #[.string ⟨#[48]⟩, .int .i64 (q : Int)] W fun e w' => e = .returned (.string ⟨(List.replicate q 48).toArray⟩) ∧ Below W.heap.size W w') := ⟨fun W => repeat0 q (by omega) W⟩
    rw [hq] at HD
    obtain ⟨r, hr⟩ : ∃ r : ByteArray, (⟨(List.replicate q (48 : UInt8)).toArray⟩ : ByteArray) = r := ⟨_, rfl⟩
    rw [hr] at HR
    have hrt : (r ++ t).data.toList = List.replicate q 48 ++ t.data.toList := by rw [← hr]; simp
    have hrs : (r ++ t).size = q + t.data.toList.length := by rw [ByteArray.size_append, hts, ← hr]; show (List.replicate q (48 : UInt8)).toArray.size + _ = _; simp
    rw [← hrt] at HD
    clear hr hrt
    have hcl := topD_le H1.out (Nat.le_of_lt hk) hsl (k := k)
    have HTS := Aside0.mk (show (Lib.byteCells (sg ++ topD m L k)).length + (r ++ t).size ≤ 140737488355328 by rw [Lib.byteCells_length]; omega)
    have hr9 : r.size ≤ 9 := by rw [ByteArray.size_append] at hrs; omega
    have ht9 : t.size ≤ 9 := by omega
    have hrt9 : r.size + t.size ≤ 9223372036854775807 := by omega
    clear hts hrs hq hdl hcl
    gi_wp2_with (first
     | (refine ⟨trivial, ?_⟩; gi_at_call 49; (with_reducible refine ((callsIn_wide.2 (HF.out _ HX.out.2.2.2)).inRound _).mono ?_); rintro e w2 ⟨rfl, hb2⟩; have c2 := (hb2.cell (p := ⟨w.heap.size, 0, none⟩) (World.block_lt_of_cell? W _ c0)).trans c0; have HB2 := Aside0.mk hb2)
     | (refine ⟨trivial, ?_⟩; gi_at_call 62; (with_reducible refine ((callsIn_wide.2 (HR.out _)).inRound _).mono ?_); rintro e w4 ⟨rfl, hb4⟩; have HB4 := Aside0.mk (HB2.out.trans (hb4.mono HB2.out.size)))
     | (refine ⟨trivial, ?_⟩; gi_at_call 130; go_loud ((with_reducible refine ((callsIn_wide.2 (writeStringX (r ++ t) (HX.out.1.below HB4.out) HTS.out (Nat.le_trans (Nat.le_of_lt HX.out.1.lt) HB4.out.size))).inRound _).mono ?_); rintro e w3 ⟨p', v', rfl, hx3, hb3, hk3, hg3⟩)))
    exact text_round HX.out HB4.out hx3 hb3 hk3 hg3 HD.out hk HEB.out no lt ho
  case done =>
   rintro D xs own W hD rfl hI hK
   obtain ⟨r, ⟨k, p, v, hk, hp, hx, hv⟩, no, bl, lt⟩ := hI
   obtain rfl := backs_inj hp
   have eD : sg ++ topD m L L = S := by rw [topD, if_neg (by omega), Nat.sub_self, Nat.pow_zero, Nat.div_one]; exact HS.out.symm
   rw [eD] at hx
   have HST : Aside0 (Calls Tryz.prog 132 #[.pointer (some ⟨b, 0, none⟩)] W fun e w' => e = .returned (.string ⟨S.toArray⟩) ∧ Below b W w' ∧ w'.heap[D]? = some (.deferred (some []))) := ⟨by
    have hbD := hx.lt
    refine (Any.Builder_String_k Tryz.lays169 Tryz.Builder_Extra_169 b b S W hx.builder (by rw [HS.out]; intro e; have h2 := congrArg List.length e; rw [List.length_append, List.length_nil] at h2; have := dec_pos m; omega)).mono ?_
    rintro e w' ⟨rfl, _, h, hk2⟩
    exact ⟨rfl, h, hk2 D _ hK (by intro e; cases e; rw [hx.2.2.1] at hK; cases hK) (by intro c fz e; cases e)⟩⟩
   have HB := Aside0.mk bl
   have hDw : w.heap.size + 1 ≤ D := by omega
   clear r hx hv bl hK I0 hcs eD
   go_wp2_with (go_at_call 132; (with_reducible refine (HST.out).mono ?_); rintro e w1 ⟨rfl, hb1, hD1⟩)
   exact text_end w _ D _ S _ rfl hD1 ⟨rfl, (HB.out.trans (hb1.mono (by omega))).trans (belowK_b (w := w) (Nat.le_refl _) _ D _ _ (by omega) hD1 rfl rfl)⟩
 ·have h1a : w1.heap[w.heap.size]? = some (.cells #[.slice A L L, .bool neg] 89 (0, 0)) := (hb1.block _ (by simp)).trans (heap_alloc_new w _)
  have hb0 : Below w.heap.size w ((w1.alloc (.cells #[.pointer none, .slice none 0 0] 148)).alloc (.cells #[.slice A L L] 85)) := bl
  have hbN : sg = [] := HNW.out (by first | assumption | simpa using ‹¬ neg = true›)
  obtain ⟨p5, v5, hx5⟩ := BX.of (builder_new w1)
  have I0 : TI w w1.heap.size A L m neg sg [] [w1.heap.size + 1] ((w1.alloc (.cells #[.pointer none, .slice none 0 0] 148)).alloc (.cells #[.slice A L L] 85)) :=
   ⟨(Below.heap_alloc _ _ _ (by simp; omega)).trans ((Below.heap_alloc _ _ _ z1_0).trans h1a), ⟨0, p5, v5, by omega, rfl, by rw [topD, if_pos rfl, List.append_nil, hbN]; exact hx5.below (below_alloc (Below.refl _ _) _), fun g hg => by have := (hx5.2.2.2.1.lt g hg).2; simp at this ⊢; omega⟩, by simp; omega, hb0, z1_0⟩
  have hcs : ((w1.alloc (.cells #[.pointer none, .slice none 0 0] 148)).alloc (.cells #[.slice A L L] 85)).cell? ⟨w1.heap.size + 1, 0, none⟩ = some (.slice A L L) := by simp [go_sem]
  have hbs : w.heap.size ≤ w1.heap.size + 1 ∧ w1.heap.size + 1 < ((w1.alloc (.cells #[.pointer none, .slice none 0 0] 148)).alloc (.cells #[.slice A L L] 85)).heap.size := ⟨by omega, by simp⟩
  clear hx5 h1a
  generalize ((w1.alloc (.cells #[.pointer none, .slice none 0 0] 148)).alloc (.cells #[.slice A L L] 85)) = W0 at *
  generalize w1.heap.size + 1 = Bs at *
  generalize hbb : w1.heap.size = b at *
  clear hb1 hc1 hf1 HB
  refine (wpIn_wide (n := 6)).1 ?_
  refine wpIn_back (own0 := [Bs]) (n₀ := w.heap.size) (by omega) (gf := 175) (lb := #[.pointer (some ⟨Bs, 0, none⟩)]) rfl Tryz.call175 (back_seq 5 (by omega) (xs := dg BB m) ((H1.out.keep hB hb0).more hB).lst hL hcs (by omega)) (by omega) (fun r hr => by simp only [List.mem_singleton] at hr; omega)
   (TI w b A L m neg sg) (fun c pre own W => False) (fun pre own A B h ht => h.turn ht) (fun pre own A r h hr => h.adopt hr) (fun c pre own A B h ht => h) I0 (by simp) ?body ?done ?stop
  case stop =>
   rintro D c pre own W hD hSp h hK
   exact h.elim
  case body =>
   rintro l pre own x W ho hz hI ⟨k, hk, rfl, rfl⟩
   obtain ⟨r, ⟨k', p, v, hk', hp, hx, hv⟩, no, bl, lt⟩ := hI
   obtain rfl := backs_inj hp
   obtain ⟨j, hj⟩ : ∃ j, k + 1 + j = L := ⟨L - 1 - k, by omega⟩
   obtain ⟨d, hd⟩ : ∃ d, m / BB ^ j % BB = d := ⟨_, rfl⟩
   have hd1 : d < 1000000000 := by rw [← hd]; exact Nat.mod_lt _ (by decide)
   have eb : backAt (dg BB m) k = (j, d) := by
    unfold backAt
    rw [H1.out.1, show L - 1 - k = j by omega, dg_getD BB1, hd]
   rw [eb]
   have c0 : W.cell? ⟨w.heap.size, 0, none⟩ = some (.slice A L L) := by simp [World.cell?, r]
   have HX := Aside0.mk (show BX b b p v (Lib.byteCells (sg ++ topD m L k)) W ∧ (∀ g, v.ownBlock = some g → g ∉ own) ∧ W.heap[w.heap.size]? = some (.cells #[.slice A L L, .bool neg] 89 (0, 0)) ∧ Below w.heap.size w W from ⟨hx, hv, r, bl⟩)
   have e1 : IntKind.i64.wrap ((L : Int) - 1) = (L : Int) - 1 := IntWalk.i64_in _ (by omega)
   have e0 : IntKind.u64.wrap (d : Int) = (d : Int) := IntWalk.u64_in _ (by omega)
   have hdl := dec_len 9 d (by omega) (by omega)
   have HD : Aside0 (topD m L (k + 1) = topD m L k ++ ((if k = 0 then [] else List.replicate (9 - (Lib.decDigits d).length) 48) ++ Lib.decDigits d)) := ⟨top_stepD H1.out hk hm0 hj hd⟩
   obtain ⟨t, ht⟩ : ∃ t : ByteArray, (⟨(Lib.decDigits d).toArray⟩ : ByteArray) = t := ⟨_, rfl⟩
   have htl : t.data.toList = Lib.decDigits d := by rw [← ht]
   have hts : t.size = (Lib.decDigits d).length := by rw [← ht]; rfl
   have HF : Aside0 (∀ W, Below w.heap.size w W → Calls Tryz.prog 49 #[.int .u64 (d : Int), .int .i64 10] W fun e w' => e = .returned (.string t) ∧ Below W.heap.size W w') := ⟨fun W hb => by rw [← ht]; exact formatUint_calls d (by omega) W (HT.out.below hb)⟩
   rw [← htl] at HD hdl
   rw [← htl] at hts
   have HEB : Aside0 (backs (dg BB m) k ++ [(j, d)] = backs (dg BB m) (k + 1)) := ⟨by rw [backs_succ, eb]⟩
   clear ht htl hd eb hx hv r bl hp
   by_cases hk0 : k = 0
   ·subst hk0
    have hji : ¬ (j : Int) < (L : Int) - 1 := by omega
    rw [if_pos rfl, List.nil_append] at HD
    gi_wp2_with (first
     | (refine ⟨trivial, ?_⟩; gi_at_call 49; (with_reducible refine ((callsIn_wide.2 (HF.out _ HX.out.2.2.2)).inRound _).mono ?_); rintro e w2 ⟨rfl, hb2⟩; have c2 := (hb2.cell (p := ⟨w.heap.size, 0, none⟩) (World.block_lt_of_cell? W _ c0)).trans c0; have HB2 := Aside0.mk hb2)
     | (refine ⟨trivial, ?_⟩; gi_at_call 130; go_loud ((with_reducible refine ((callsIn_wide.2 (writeStringX t (HX.out.1.below HB2.out) (by rw [Lib.byteCells_length]; simp [topD]; omega) (Nat.le_trans (Nat.le_of_lt HX.out.1.lt) HB2.out.size))).inRound _).mono ?_); rintro e w3 ⟨p', v', rfl, hx3, hb3, hk3, hg3⟩)))
    rename_i w3 _ _ _ _
    exact text_round HX.out HB2.out hx3 hb3 hk3 hg3 HD.out hk HEB.out no lt ho
   ·have hji : (j : Int) < (L : Int) - 1 := by omega
    rw [if_neg hk0] at HD
    obtain ⟨q, hq⟩ : ∃ q : Nat, 9 - t.data.toList.length = q := ⟨_, rfl⟩
    have e2 : IntKind.i64.wrap (9 - (t.size : Int)) = (q : Int) := by rw [IntWalk.i64_in _ (by omega)]; omega
    have HR : Aside0 (∀ W, Calls Tryz.prog 62 #[.string ⟨#[48]⟩, .int .i64 (q : Int)] W fun e w' => e = .returned (.string ⟨(List.replicate q 48).toArray⟩) ∧ Below W.heap.size W w') := ⟨fun W => repeat0 q (by omega) W⟩
    rw [hq] at HD
    obtain ⟨r, hr⟩ : ∃ r : ByteArray, (⟨(List.replicate q (48 : UInt8)).toArray⟩ : ByteArray) = r := ⟨_, rfl⟩
    rw [hr] at HR
    have hrt : (r ++ t).data.toList = List.replicate q 48 ++ t.data.toList := by rw [← hr]; simp
    have hrs : (r ++ t).size = q + t.data.toList.length := by rw [ByteArray.size_append, hts, ← hr]; show (List.replicate q (48 : UInt8)).toArray.size + _ = _; simp
    rw [← hrt] at HD
    clear hr hrt
    have hcl := topD_le H1.out (Nat.le_of_lt hk) hsl (k := k)
    have HTS := Aside0.mk (show (Lib.byteCells (sg ++ topD m L k)).length + (r ++ t).size ≤ 140737488355328 by rw [Lib.byteCells_length]; omega)
    have hr9 : r.size ≤ 9 := by rw [ByteArray.size_append] at hrs; omega
    have ht9 : t.size ≤ 9 := by omega
    have hrt9 : r.size + t.size ≤ 9223372036854775807 := by omega
    clear hts hrs hq hdl hcl
    gi_wp2_with (first
     | (refine ⟨trivial, ?_⟩; gi_at_call 49; (with_reducible refine ((callsIn_wide.2 (HF.out _ HX.out.2.2.2)).inRound _).mono ?_); rintro e w2 ⟨rfl, hb2⟩; have c2 := (hb2.cell (p := ⟨w.heap.size, 0, none⟩) (World.block_lt_of_cell? W _ c0)).trans c0; have HB2 := Aside0.mk hb2)
     | (refine ⟨trivial, ?_⟩; gi_at_call 62; (with_reducible refine ((callsIn_wide.2 (HR.out _)).inRound _).mono ?_); rintro e w4 ⟨rfl, hb4⟩; have HB4 := Aside0.mk (HB2.out.trans (hb4.mono HB2.out.size)))
     | (refine ⟨trivial, ?_⟩; gi_at_call 130; go_loud ((with_reducible refine ((callsIn_wide.2 (writeStringX (r ++ t) (HX.out.1.below HB4.out) HTS.out (Nat.le_trans (Nat.le_of_lt HX.out.1.lt) HB4.out.size))).inRound _).mono ?_); rintro e w3 ⟨p', v', rfl, hx3, hb3, hk3, hg3⟩)))
    exact text_round HX.out HB4.out hx3 hb3 hk3 hg3 HD.out hk HEB.out no lt ho
  case done =>
   rintro D xs own W hD rfl hI hK
   obtain ⟨r, ⟨k, p, v, hk, hp, hx, hv⟩, no, bl, lt⟩ := hI
   obtain rfl := backs_inj hp
   have eD : sg ++ topD m L L = S := by rw [topD, if_neg (by omega), Nat.sub_self, Nat.pow_zero, Nat.div_one]; exact HS.out.symm
   rw [eD] at hx
   have HST : Aside0 (Calls Tryz.prog 132 #[.pointer (some ⟨b, 0, none⟩)] W fun e w' => e = .returned (.string ⟨S.toArray⟩) ∧ Below b W w' ∧ w'.heap[D]? = some (.deferred (some []))) := ⟨by
    have hbD := hx.lt
    refine (Any.Builder_String_k Tryz.lays169 Tryz.Builder_Extra_169 b b S W hx.builder (by rw [HS.out]; intro e; have h2 := congrArg List.length e; rw [List.length_append, List.length_nil] at h2; have := dec_pos m; omega)).mono ?_
    rintro e w' ⟨rfl, _, h, hk2⟩
    exact ⟨rfl, h, hk2 D _ hK (by intro e; cases e; rw [hx.2.2.1] at hK; cases hK) (by intro c fz e; cases e)⟩⟩
   have HB := Aside0.mk bl
   have hDw : w.heap.size + 1 ≤ D := by omega
   clear r hx hv bl hK I0 hcs eD
   go_wp2_with (go_at_call 132; (with_reducible refine (HST.out).mono ?_); rintro e w1 ⟨rfl, hb1, hD1⟩)
   exact text_end w _ D _ S _ rfl hD1 ⟨rfl, (HB.out.trans (hb1.mono (by omega))).trans (belowK_b (w := w) (Nat.le_refl _) _ D _ _ (by omega) hD1 rfl rfl)⟩
theorem text_calls {w : World} {B : Nat} {A : Option Addr} {L : Nat} {x : Int} (h1 : Mag w B A L x.natAbs) (hB : B ≤ w.heap.size) (htab : Tens w) :
 Calls Tryz.prog 76 #[iV A L x] w fun e w' => e = .returned (.string (strI x)) ∧ Below w.heap.size w w' := by
 by_cases h : x = 0
 ·subst h; exact text_zero h1 hB
 ·exact text_some h1 hB htab h
end
section
open Go.Proofs.YtillgofjlpjbcaaGreatDoorW.PrintLast Go.Proofs.YtillgofjlpjbcaaGreatDoorW.PrintMore Go.Proofs.YtillgofjlpjbcaaGreatDoorW.PrintWords Go.RowKit
theorem when_calls (b : Bool) (e : Int) (w : World) :
 Calls Tryz.prog 65 #[.bool b, .int .i64 e] w fun r w' => r = .returned (.int .i64 (if b = true then e else 0)) ∧ w' = w := by
 cases b <;> (go_enter Tryz.func65, Tryz.ntmps65; go_wp2; go_ret; exact ⟨by simp, rfl⟩)
def isDig (c : UInt8) : Bool := decide (48 ≤ c.toNat) && decide (c.toNat ≤ 57)
/-- What isDigits says. -/
def digitsB (s : ByteArray) : Bool := s.data.toList.all isDig && decide (s.size ≠ 0)
theorem isDig_of {s : ByteArray} (h : s.data.toList.all isDig = true) : DG s.data.toList := by
 intro c hc
 have := List.all_eq_true.1 h c hc
 simpa [isDig] using this
theorem all_take_succ {s : ByteArray} {i : Nat} (h : i < s.size) : (s.data.toList.take (i + 1)).all isDig = ((s.data.toList.take i).all isDig && isDig (s[i]'h)) := by
 have hl : i < s.data.toList.length := by simpa using h
 rw [List.take_succ_eq_append_getElem hl, List.all_append]
 simp
 rfl
theorem all_false {s : ByteArray} {i : Nat} (h : i < s.size) (hd : isDig (s[i]'h) = false) : digitsB s = false := by
 have hl : i < s.data.toList.length := by simpa using h
 have : s.data.toList.all isDig = false := by
  rw [List.all_eq_false]
  refine ⟨s.data.toList[i], List.getElem_mem hl, ?_⟩
  have e : s.data.toList[i] = s[i]'h := by simp; rfl
  rw [e, hd]; simp
 rw [digitsB, this, Bool.false_and]
theorem isDigits_calls (s : ByteArray) (hs : s.size ≤ 1000000) (w : World) :
 Calls Tryz.prog 64 #[.string s] w fun e w' => e = .returned (.bool (digitsB s)) ∧ Below w.heap.size w w' := by
 go_enter Tryz.func64, Tryz.ntmps64
 go_wp2_with fail
 go_loopw [] (fun W => ∃ i, i ≤ s.size ∧ Aside0 ((s.data.toList.take i).all isDig = true) ∧ W = w.iter s i) (fun W => s.size - W.iterPos w.heap.size)
 case atStart => exact ⟨0, Nat.zero_le _, ⟨by simp⟩, rfl⟩
 case round =>
  obtain ⟨i, hi, hall, rfl⟩ := hrel
  have hbi : ∀ k, Below w.heap.size w (w.iter s k) := fun k => below_alloc (Below.refl _ _) _
  have HBI := Aside0.mk hbi
  clear hbi
  by_cases hlt : i < s.size
  ·obtain ⟨c, hc⟩ : ∃ c : Nat, (s[i]'hlt).toNat = c := ⟨_, rfl⟩
   have HC : Aside0 ((s[i]'hlt).toNat = c) := ⟨hc⟩
   by_cases ha : c < 128
   ·have hnx := run_next_ascii (P := Tryz.prog) w s i 0 hlt (by rw [hc]; exact ha)
    rw [hc] at hnx
    clear hc
    by_cases hd1 : c < 48
    ·have hdi : decide ((c : Int) < 48) = true := decide_eq_true (by omega)
     go_wp2
     go_ret
     exact ⟨ret_b (all_false hlt (by simp [isDig, HC.out]; omega)).symm, HBI.out _⟩
    ·have hdi : decide ((c : Int) < 48) = false := decide_eq_false (by omega)
     by_cases hd2 : 57 < c
     ·have hdj : decide ((57 : Int) < (c : Int)) = true := decide_eq_true (by omega)
      go_wp2
      go_ret
      exact ⟨ret_b (all_false hlt (by simp [isDig, HC.out]; omega)).symm, HBI.out _⟩
     ·have hdj : decide ((57 : Int) < (c : Int)) = false := decide_eq_false (by omega)
      go_wp2
      go_roundw
      case rel => exact ⟨i + 1, hlt, ⟨by rw [all_take_succ hlt, hall.out]; simp [isDig, HC.out]; omega⟩, rfl⟩
      case measure => simp; omega
   ·have hh := decode_high s i hlt (by omega)
    have hl := decode_le s i
    have hnx := run_next_any (P := Tryz.prog) w s i 0 hlt
    obtain ⟨d, hd⟩ : ∃ d, (Utf8.decode s i).1 = d := ⟨_, rfl⟩
    rw [hd] at hnx hh hl
    have hdi : decide ((d : Int) < 48) = false := decide_eq_false (by omega)
    have hdj : decide ((57 : Int) < (d : Int)) = true := decide_eq_true (by omega)
    have hne : ¬ c < 128 := ha
    clear hc hd
    go_wp2
    go_ret
    exact ⟨ret_b (all_false hlt (by simp [isDig, HC.out]; omega)).symm, HBI.out _⟩
  ·have hnx := run_next_end (P := Tryz.prog) w s i 0 hlt
   obtain rfl : i = s.size := by omega
   go_wp2
   go_ret
   refine ⟨ret_b ?_, HBI.out _⟩
   have ha := hall.out
   rw [List.take_of_length_le (by simp)] at ha
   rw [digitsB, ha, Bool.true_and]
   rw [Lib.toList_data, Bool.eq_iff_iff]
   simp [List.isEmpty_iff]
   constructor
   ·intro h e; rw [e] at h; exact h rfl
   ·intro h e; exact h (ByteArray.ext e)
end
end Go.Proofs.YtillgofjlpjbcaaGreatDoor.Nm
