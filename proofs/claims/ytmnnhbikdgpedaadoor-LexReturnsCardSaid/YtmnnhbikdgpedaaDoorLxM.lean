/- lex.Signs, lex.reserved, lex.Keywords have their contracts. -/
import Derived.Test.YtmnnhbikdgpedaaDoorLxE
import Derived.Test.YtmnnhbikdgpedaaDoorRf0
import Derived.Laws.CopyOwn
import Derived.Deep.OwnRows
import Derived.Maps.OwnSet
import Derived.RangeFuncRecord
namespace Go.Proofs.YtmnnhbikdgpedaaDoor.Lx
open Go.RowKit Go.Maps Go.Proofs.YtmnnhbikdgpedaaDoorW.PrintWords Go.Proofs.YtmnnhbikdgpedaaDoorW.PrintLast Go.Proofs.YtmnnhbikdgpedaaDoorW.PrintMore
open Go.Proofs.YtmnnhbikdgpedaaDoor.PLexTokens
set_option linter.unusedVariables false
set_option linter.unusedSimpArgs false

theorem R_strings {w : World} {g base : Nat} {L : List ByteArray} (h : w.heap[g]? = some (.cells (L.map Value.string).toArray 9 (0, 0))) (hb : base ≤ g) (hl : L.length ≤ maxLen) :
    Kd.R Kd.string 9 w base (fun _ => True) (.slice (some ⟨g, 0, none⟩) L.length L.length) L := by
  refine ⟨fun _ _ => trivial, L.map Value.string, ⟨by simp [Kd.string, Kd.scalar], .inr ⟨g, L.length, _, rfl, hb, h, Nat.le_refl _, hl, by simp [Kd.string, Kd.scalar], by simp only [Kd.string, Kd.scalar, Nat.mul_one]; exact List.take_of_length_le (by simp)⟩⟩, by simp [Kd.string, Kd.scalar], fun j p hj => ?_⟩
  have hlt : j < L.length := by
    rcases Nat.lt_or_ge j L.length with h1 | h1
    · exact h1
    · rw [List.getElem?_eq_none h1] at hj; cases hj
  have e : ((L.map Value.string).drop (j * 1)).take 1 = [.string p] := by
    rw [Nat.mul_one, List.drop_eq_getElem_cons (by simpa using hlt)]
    rw [List.getElem?_eq_getElem hlt] at hj
    cases hj
    simp
  show _ = _
  exact e

theorem heap_new (w : World) (o : Obj) : (w.alloc o).heap[w.heap.size]? = some o := World.alloc_heap_new w o

theorem splice_all (cur cs : List Value) (h : cur.length = cs.length) : splice cur 0 cs = cs := by
  simp [splice, h]

theorem sg_all : (List.range 39).map (fun j => Value.string (sg j)) = signsL.map Value.string := by rfl
theorem kw_all : (List.range 57).map (fun j => Value.string (kw j)) = keywordsL.map Value.string := by rfl

theorem list_cell (W W2 : World) (b off g n : Nat) (f : Nat → Value) (hb : b < g) (h : ∀ j, j < n → W.cell? ⟨b, off + j, none⟩ = some (f j)) (hB : Below g W W2) (j : Nat) (v : Value) (hj : ((List.range n).map f)[j]? = some v) :
    W2.cell? ((⟨b, off, none⟩ : Addr).add j) = some v := by
  have hn : j < n := by
    rcases Nat.lt_or_ge j n with h1 | h1
    · exact h1
    · rw [List.getElem?_eq_none (by simpa using h1)] at hj; cases hj
  rw [List.getElem?_eq_getElem (by simpa using hn)] at hj
  simp at hj
  have ha : (⟨b, off, none⟩ : Addr).add j = ⟨b, off + j, none⟩ := by unfold Addr.add; split <;> simp_all
  rw [ha, ← hj, ← h j hn]
  exact hB.cell hb

set_option maxHeartbeats 4000000 in
set_option maxRecDepth 100000 in
theorem signs_calls (w : World) (hE : Env w) :
    Calls Tryd.prog 16 #[] w fun e w' => ∃ v, e = .returned v ∧ Kd.R Kd.string 9 w' w.heap.size (fun _ => True) v signsL ∧ Below w.heap.size w w' := by
  obtain ⟨b, off, c, h1, h2⟩ := hE.sgs
  have z1 : 1 < w.heap.size := World.block_lt_of_cell? w _ h1
  have zb : b < w.heap.size := World.block_lt_of_cell? w _ (h2 0 (by omega))
  have hmk : ∀ w : World, (Instr.makeSlice 33 (.int .i64 39) (.int .i64 39)).run Tryd.prog w = .ok (.slice (some ⟨w.heap.size, 0, none⟩) 39 39) (w.alloc (.cells (madeCells #[.string ⟨#[]⟩] 39) 9)) := run_make_row' (P := Tryd.prog) 33 9 (.string ⟨#[]⟩) 16 Tryd.underlying33 info9 rfl .i64 .i64 39 (by omega) (by omega)
  have h2' := Aside0.mk h2
  clear h2
  go_enter Tryd.func16, Tryd.ntmps16
  go_wp2_with (first | ((with_reducible refine gate_dst (N := 7) rfl ?_); (refine wpList_copy_splice rfl _ _ 33 33 rfl 9 Tryd.underlying33 (by kernel_rfl) (some ⟨w.heap.size, 0, none⟩) (some ⟨b, off, none⟩) 39 39 39 c rfl rfl w.heap.size 0 (madeCells #[.string ⟨#[]⟩] 39).toList 9 (heap_new w _) ((List.range 39).map (fun j => Value.string (sg j))) (by simp) ?c1 (by simp [size_madeCells]) (by intro v hv; obtain ⟨j, _, rfl⟩ := List.mem_map.1 hv; rfl) w.heap.size w (below_alloc (Below.refl _ _) _) (Nat.le_refl _) ?_; (case c1 => exact fun _ => ⟨rfl, ⟨b, off, none⟩, rfl, fun j v hj => list_cell w _ b off w.heap.size 39 _ zb h2'.out (below_alloc (Below.refl _ _) _) j v hj⟩); intro w2 HG2 hB2)))
  go_ret
  refine ⟨_, rfl, ?_, hB2⟩
  have hg := HG2.out
  rw [splice_all _ _ (by simp [size_madeCells]), sg_all] at hg
  exact R_strings hg (Nat.le_refl _) (by decide)

theorem wrap_add1 (n : Nat) (h : n < 4611686018427387904) : wrap64 ((n : Int) + 1) = ((n + 1 : Nat) : Int) := by
  rw [wrap64]
  omega

/-! ### reserved -/
def setOf : Nat → DataW Unit
  | 0 => .map []
  | n + 1 => DataW.put (setOf n) (.string (kw n).data.toList) (.lit (.bool true))
theorem setOf_size : Maps.size (setOf 57) = 57 := by decide +kernel

theorem law9 : Keyed Tryd.prog 9 := string_keyed Tryd.underlying9
theorem kw_size : ∀ j, j < 57 → (kw j).size ≤ 100 := by
  have h : (List.range 57).all (fun j => decide ((kw j).size ≤ 100)) = true := by decide +kernel
  intro j hj
  have := List.all_eq_true.mp h j (by simpa using hj)
  simpa using this

set_option maxHeartbeats 4000000 in
set_option maxRecDepth 100000 in
theorem reserved_calls (w : World) (hE : Env w) :
    Calls Tryd.prog 36 #[] w fun e w' => ∃ b, e = .returned (.map (some b)) ∧ w'.ownsMap Tryd.prog 9 (plainElem Tryd.prog 4) b 57 (setOf 57) ∧ Below w.heap.size w w' := by
  obtain ⟨b, off, c, h1, h2⟩ := hE.kws
  have z1 : 0 < w.heap.size := World.block_lt_of_cell? w _ h1
  have zb : b < w.heap.size := World.block_lt_of_cell? w _ (h2 0 (by omega))
  have hmm := @run_makeMap Tryd.prog
  have h2' := Aside0.mk h2
  clear h2
  go_enter Tryd.func36, Tryd.ntmps36
  go_wp2
  go_loopg [7] 57 (fun g s7 wr => ∃ n : Nat, s7 = .int .i64 n ∧ n + g = 57 ∧ wr.ownsMap Tryd.prog 9 (plainElem (H := Unit) Tryd.prog 4) w.heap.size n (setOf n) ∧ Below w.heap.size w wr)
  case atStart => exact ⟨0, rfl, rfl, World.ownsMap_made _ _ _ _, below_alloc (Below.refl _ _) _⟩
  case round =>
    obtain ⟨n, rfl, hn, hown, hbel⟩ := hrel
    by_cases hlt : n < 57
    · have cm : wr.cell? ⟨b, off + n, none⟩ = some (.string (kw n)) := by rw [← h2'.out n hlt]; exact hbel.cell zb
      have hkey := WideMaps.keyOf_string_mk Tryd.underlying9 (show (kw n).size ≤ maxLen by have := kw_size n hlt; unfold maxLen; omega)
      have hd : decide ((n : Int) < 57) = true := by simp; omega
      have hi : ((n : Int) < 57) = True := eq_true (by omega)
      have HN := Aside0.mk hn
      have HL := Aside0.mk hlt
      clear hn hlt
      go_wp2_with (first | (at_mapUpdate; refine wpList_mapUpdate_own _ rfl _ _ _ 69 rfl 9 4 law9 Tryd.underlying69 _ w.heap.size n _ rfl hown (by have := HN.out; unfold maxLen; omega) _ _ _ rfl rfl hkey _ [] (plainElem_bool Tryd.underlying4 true) ?_; intro w1 hown1 hgrow1))
      go_roundg (57 - n - 1)
      case measure => have := HN.out; have := HL.out; omega
      case rel => exact ⟨n + 1, congrArg (Value.int .i64) (wrap_add1 n (by have := HL.out; omega)), by have := HN.out; have := HL.out; omega, hown1, hbel.grown hgrow1 hbel.size (fun j hj => by cases hj; exact Nat.le_refl _)⟩
    · have hd : decide ((n : Int) < 57) = false := by simp; omega
      obtain rfl : n = 57 := by omega
      go_wp2
      go_ret
      exact ⟨_, rfl, hown, hbel⟩

set_option maxHeartbeats 4000000 in
set_option maxRecDepth 100000 in
theorem keywords_calls (w : World) (hE : Env w) :
    Calls Tryd.prog 14 #[] w fun e w' => ∃ v, e = .returned v ∧ Kd.R Kd.string 9 w' w.heap.size (fun _ => True) v keywordsL ∧ Below w.heap.size w w' := by
  obtain ⟨b, off, c, h1, h2⟩ := hE.kws
  have z1 : 0 < w.heap.size := World.block_lt_of_cell? w _ h1
  have zb : b < w.heap.size := World.block_lt_of_cell? w _ (h2 0 (by omega))
  have hmk : ∀ w : World, (Instr.makeSlice 33 (.int .i64 57) (.int .i64 57)).run Tryd.prog w = .ok (.slice (some ⟨w.heap.size, 0, none⟩) 57 57) (w.alloc (.cells (madeCells #[.string ⟨#[]⟩] 57) 9)) := run_make_row' (P := Tryd.prog) 33 9 (.string ⟨#[]⟩) 16 Tryd.underlying33 info9 rfl .i64 .i64 57 (by omega) (by omega)
  have h2' := Aside0.mk h2
  have HE := Aside0.mk hE
  have hsz := setOf_size
  clear h2
  go_enter Tryd.func14, Tryd.ntmps14
  go_wp2_with (first | (go_at_call 36; refine (reserved_calls w HE.out).mono ?_; rintro e w1 ⟨bm, rfl, hown, hb1⟩; obtain ⟨hc1, hf1⟩ := bcell hb1; have hsz1 := hb1.size; have z11 : 0 < w1.heap.size := Nat.lt_of_lt_of_le z1 hsz1; have HB1 := Aside0.mk hb1; clear hb1) | (at_len; refine wpList_len_own _ rfl _ 69 rfl 9 4 Tryd.underlying69 _ bm 57 _ rfl hown ?_; rw [setOf_size]) | ((with_reducible refine gate_dst (N := 7) rfl ?_); (refine wpList_copy_splice rfl _ _ 33 33 rfl 9 Tryd.underlying33 (by kernel_rfl) (some ⟨w1.heap.size, 0, none⟩) (some ⟨b, off, none⟩) 57 57 57 c rfl rfl w1.heap.size 0 (madeCells #[.string ⟨#[]⟩] 57).toList 9 (heap_new w1 _) ((List.range 57).map (fun j => Value.string (kw j))) (by simp) ?c1 (by simp [size_madeCells]) (by intro v hv; obtain ⟨j, _, rfl⟩ := List.mem_map.1 hv; rfl) w.heap.size w (below_alloc HB1.out _) HB1.out.size ?_; (case c1 => exact fun _ => ⟨rfl, ⟨b, off, none⟩, rfl, fun j v hj => list_cell w _ b off w.heap.size 57 _ zb h2'.out (below_alloc HB1.out _) j v hj⟩); intro w2 HG2 hB2)))
  go_ret
  refine ⟨_, rfl, ?_, hB2⟩
  have hg := HG2.out
  rw [splice_all _ _ (by simp [size_madeCells]), kw_all] at hg
  exact R_strings hg HB1.out.size (by decide)

end Go.Proofs.YtmnnhbikdgpedaaDoor.Lx
