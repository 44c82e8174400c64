/- The iterator over the tokens of a text has its contract. -/
import Derived.Test.YtmnnhbikdgpedaaDoorLxJ
import Derived.Test.YtmnnhbikdgpedaaDoorLxR
import Derived.Shelf.Abstract
import Derived.Shelf.RegionOpen
import Derived.OwnWalkIn
import Derived.TacticsInMore
import Derived.LoopNIn
import Derived.LoopIn
namespace Go.Proofs.YtmnnhbikdgpedaaDoor.Lx
open Go.RowKit Go.Shelf Go.Proofs.YtmnnhbikdgpedaaDoorW.PrintWords Go.Proofs.YtmnnhbikdgpedaaDoorW.PrintLast Go.Proofs.YtmnnhbikdgpedaaDoorW.PrintMore
open Go.Proofs.YtmnnhbikdgpedaaDoor.Rf
set_option linter.unusedVariables false
set_option linter.unusedSimpArgs false
attribute [local go_sem] Oper.semAt_some

/-- A found token as yield is handed it. -/
def foundV (s : ByteArray) (x : Tok × Nat) : Array Value := #[.agg #[.int .i64 x.1.kind, .string (s.extract x.2 x.1.fin), .int .i64 x.2, .int .i64 x.1.bad]]

/-- The iterator's own box, the captured text, and what lies below. -/
structure TB (w0 : World) (s : ByteArray) (Bs Bt : Nat) (i : Nat) (W : World) : Prop where
  b0 : W.cell? ⟨Bs, 0, none⟩ = some (.string s)
  c0 : W.cell? ⟨Bt, 0, none⟩ = some (.string s)
  c1 : W.cell? ⟨Bt, 1, none⟩ = some (.int .i64 i)
  f0 : W.frozen? ⟨Bt, 0, none⟩ = false
  f1 : W.frozen? ⟨Bt, 1, none⟩ = false
  sz : Bt < W.heap.size
  sb : Bs < W.heap.size
  bl : Below w0.heap.size w0 W

theorem TB.below {w0 : World} {s : ByteArray} {Bs Bt i : Nat} {W W' : World} (h : TB w0 s Bs Bt i W) (hb : Below W.heap.size W W') : TB w0 s Bs Bt i W' := by
  obtain ⟨b0, c0, c1, f0, f1, sz, sb, bl⟩ := h
  obtain ⟨hc, hf⟩ := bcell hb
  exact ⟨(hc _ _ sb).trans b0, (hc _ _ sz).trans c0, (hc _ _ sz).trans c1, (hf _ _ sz).trans f0, (hf _ _ sz).trans f1, Nat.lt_of_lt_of_le sz hb.size, Nat.lt_of_lt_of_le sb hb.size, below_step bl hb⟩

theorem TB.kept {w0 : World} {s : ByteArray} {Bs Bt i : Nat} {W W' : World} {own : List Nat} (h : TB w0 s Bs Bt i W) (hk : Kept w0.heap.size own W W') (h1 : Bs ∈ own) (h2 : Bt ∈ own) : TB w0 s Bs Bt i W' := by
  obtain ⟨b0, c0, c1, f0, f1, sz, sb, bl⟩ := h
  have e1 := hk.own _ h1 sb
  have e2 := hk.own _ h2 sz
  exact ⟨(World.cell?_of_block (a := ⟨Bs, 0, none⟩) e1).trans b0, (World.cell?_of_block (a := ⟨Bt, 0, none⟩) e2).trans c0, (World.cell?_of_block (a := ⟨Bt, 1, none⟩) e2).trans c1, (World.frozen?_of_block (a := ⟨Bt, 0, none⟩) e2).trans f0, (World.frozen?_of_block (a := ⟨Bt, 1, none⟩) e2).trans f1,
    Nat.lt_of_lt_of_le sz hk.below.size, Nat.lt_of_lt_of_le sb hk.below.size, bl.trans hk.below⟩

theorem TB.set {w0 : World} {s : ByteArray} {Bs Bt i j : Nat} {W : World} {v : Int} (h : TB w0 s Bs Bt i W) (hne : Bs ≠ Bt) (hn : w0.heap.size ≤ Bt) (hv : v = (j : Int)) : TB w0 s Bs Bt j (W.setCell ⟨Bt, 1, none⟩ (.int .i64 v)) := by
  subst hv
  obtain ⟨b0, c0, c1, f0, f1, sz, sb, bl⟩ := h
  refine ⟨?_, ?_, ?_, ?_, ?_, by simpa using sz, by simpa using sb, bl.setCell hn _⟩
  · exact (World.cell?_setCell_other _ _ _ _ (by intro e; injection e with e1; omega)).trans b0
  · exact (World.cell?_setCell_other _ _ _ _ (by intro e; cases e)).trans c0
  · exact World.cell?_setCell_same _ _ _ c1
  · rw [World.frozen?_setCell]; exact f0
  · rw [World.frozen?_setCell]; exact f1
theorem TB.set0 {w0 : World} {s : ByteArray} {Bs Bt i : Nat} {W : World} (h : TB w0 s Bs Bt i W) (hne : Bs ≠ Bt) (hn : w0.heap.size ≤ Bt) : TB w0 s Bs Bt i (W.setCell ⟨Bt, 0, none⟩ (.string s)) := by
  obtain ⟨b0, c0, c1, f0, f1, sz, sb, bl⟩ := h
  refine ⟨?_, ?_, ?_, ?_, ?_, by simpa using sz, by simpa using sb, bl.setCell hn _⟩
  · exact (World.cell?_setCell_other _ _ _ _ (by intro e; injection e with e1; omega)).trans b0
  · exact World.cell?_setCell_same _ _ _ c0
  · exact (World.cell?_setCell_other _ _ _ _ (by intro e; cases e)).trans c1
  · rw [World.frozen?_setCell]; exact f0
  · rw [World.frozen?_setCell]; exact f1

/-- How much of the text is still to come. -/
def leftOf (s : ByteArray) (Bt : Nat) (W : World) : Nat := match W.cell? ⟨Bt, 1, none⟩ with
  | some v => s.size + 1 - (intOf v).toNat
  | none => 0
theorem leftOf_eq {w0 : World} {s : ByteArray} {Bs Bt i : Nat} {W : World} (h : TB w0 s Bs Bt i W) : leftOf s Bt W = s.size + 1 - i := by
  rw [leftOf, h.c1]
  simp [intOf]

theorem own_grown {own : List Nat} {a b : Nat} {o : Obj} {W : World} (h : ∀ r, r ∈ own → r < a) (h1 : a ≤ b) (h2 : b ≤ W.heap.size) : ∀ r, r ∈ W.heap.size :: own → r < (W.alloc o).heap.size := by
  intro r hr
  simp only [World.size_alloc]
  rcases List.mem_cons.1 hr with rfl | hr
  · omega
  · have := h r hr
    omega

set_option maxHeartbeats 8000000 in
set_option maxRecDepth 100000 in
theorem iter_seq (n : Nat) (hn : 1 ≤ n) (s : ByteArray) (hs : s.size ≤ 4294967280) (w0 w : World) (hE : Env w0) (hb0 : Below w0.heap.size w0 w) (Bs : Nat) (hB : w0.heap.size ≤ Bs) (hBs : w.cell? ⟨Bs, 0, none⟩ = some (.string s)) :
    Seq Fence.wide n Tryd.prog 65 #[.pointer (some ⟨Bs, 0, none⟩)] (foundV s) (fun xs => xs = lexFrom s 0) (fun pre => pre <+: lexFrom s 0) (lexFrom s 0).length w0.heap.size [Bs] w := by
  intro l J Jx W hW hJ hJa hJx hY h0
  have hBW : W.cell? ⟨Bs, 0, none⟩ = some (.string s) := pw_cell_below hW hBs
  have hBlt : Bs < W.heap.size := World.block_lt_of_cell? W _ hBW
  have hb1 : Below w0.heap.size w0 W := below_step hb0 hW
  have T0 : TB w0 s Bs W.heap.size 0 (W.alloc (Obj.cells #[Value.string s, Value.int IntKind.i64 0] 77)) := by
    refine ⟨?_, by simp [go_sem], by simp [go_sem], by simp [go_sem], by simp [go_sem], by simp, by simp; omega, below_alloc hb1 _⟩
    exact pw_cell_below (below_alloc (Below.refl _ _) _) hBW
  have J0 : J [] [W.heap.size, Bs] (W.alloc (Obj.cells #[Value.string s, Value.int IntKind.i64 0] 77)) :=
    hJ _ _ _ _ (hJa _ _ _ W.heap.size h0 (Nat.le_refl _)) (Step.of_below (below_alloc (Below.refl _ _) _))
  refine callsIn_of_wp Tryd.func65 rfl trivial ?_ rfl
  simp only [Tryd.ntmps65, List.size_toArray, List.length_cons, List.length_nil, Nat.reduceAdd, Nat.reduceSub, Array.replicate_succ, Array.replicate_zero, List.push_toArray, List.append_toArray, List.nil_append, List.cons_append]
  gi_wp2
  have hne : Bs ≠ W.heap.size := by omega
  have hBt : w0.heap.size ≤ W.heap.size := by omega
  generalize hbt : W.heap.size = Bt at *
  gi_loopw [] (fun wr => ∃ pre i own, Aside0 (J pre own wr) ∧ Aside0 (Bs ∈ own ∧ Bt ∈ own ∧ ∀ r, r ∈ own → r < wr.heap.size) ∧ Aside0 (lexFrom s 0 = pre ++ lexFrom s i) ∧ i ≤ s.size ∧ Aside0 (TB w0 s Bs Bt i wr)) (fun wr => leftOf s Bt wr)
  case atStart => exact ⟨[], 0, [Bt, Bs], ⟨J0⟩, ⟨by simp, by simp, by intro r hr; simp only [List.mem_cons, List.mem_nil_iff, or_false] at hr; simp; omega⟩, ⟨rfl⟩, Nat.zero_le _, ⟨T0⟩⟩
  case round =>
    obtain ⟨pre, i, own, HJ, HO, HL, hi, HT⟩ := hrel
    clear T0 J0
    obtain ⟨t0, t1, t2, t3, t4, t5, t6, t7⟩ := HT.out
    have HSK := Aside0.mk (fun w hE => skipped_calls s i hi hs w hE)
    have hge := skip_ge s i
    have hle := skip_le s i hi
    obtain ⟨j, c, hsk⟩ : ∃ j c, skip s i = (j, c) := ⟨_, _, rfl⟩
    rw [hsk] at HSK hge hle
    simp only at HSK hge hle
    cases c with
    | false =>
      have HX := Aside0.mk (lex_open s i j hsk)
      clear hsk
      have hlen : pre.length < (lexFrom s 0).length := by rw [HL.out, HX.out]; simp
      gi_wp2_with (first | (refine ⟨trivial, ?_⟩; gi_at_call 66; refine (callsIn_wide.2 (HSK.out _ (hE.below t7))).mono ?_; rintro e w1 ⟨rfl, hb1⟩; have HT1 := Aside0.mk (HT.out.below hb1); have HJ1 := Aside0.mk (hJ _ _ _ _ HJ.out (Step.of_below hb1))) | (refine ⟨trivial, ?_⟩; gi_at_call 67; refine (callsIn_wide.2 (wrong_calls _ _ _ _)).mono ?_; rintro e w2 ⟨rfl, hb2⟩; have HJ2 := Aside0.mk (hJ _ _ _ _ HJ1.out (Step.of_below (below_step (below_alloc (Below.refl _ _) _) hb2))); obtain ⟨fn, tmps, assign, body, hy, hR⟩ := hY pre own (⟨0, j, 22⟩, j) w2 HJ2.out (fun r hr => Nat.lt_of_lt_of_le (HO.out.2.2 r hr) (by have := hb1.size; have := hb2.size; simp at this; omega)) hlen; simp only [foundV, extract_self] at hy))
      refine hR.mono ?_
      rintro e W3 (⟨rfl, hJ3, hk3⟩ | ⟨rfl, hJx3⟩)
      · gi_wp2
        refine bodyPost_ret (results_none rfl _ _ _) rfl ?_
        exact ⟨⟨_, rfl⟩, .inl ⟨_, own, by rw [HL.out, HX.out], hJ3⟩⟩
      · gi_wp2
        refine bodyPost_ret (results_none rfl _ _ _) rfl ?_
        exact ⟨⟨_, rfl⟩, .inr ⟨_, own, by rw [HL.out, HX.out]; exact List.prefix_refl _, hJx3⟩⟩
    | true =>
      by_cases hj : j < s.size
      · have HJT := Aside0.mk (fun w hE => token_calls s j hj hs w hE)
        have hjb : ((j : Int) == (s.size : Int)) = false := by simp; omega
        have hfin : ∃ tk, tk = tokOf s j := ⟨_, rfl⟩
        obtain ⟨tk, htk⟩ := hfin
        rw [← htk] at HJT
        by_cases hbd : (tokOf s j).bad = 0
        · have HX := Aside0.mk (lex_tok s i j hsk hj hbd)
          have hf := tokOf_fin s j hj hbd
          rw [← htk] at HX hf
          have hbb : (tk.bad != 0) = false := by rw [htk]; simp [hbd]
          have hlen : pre.length < (lexFrom s 0).length := by rw [HL.out, HX.out]; simp
          have hsum : (j : Int) + ((tk.fin - j : Nat) : Int) = tk.fin := by omega
          clear hbd htk hsk
          gi_wp2_with (first | (refine ⟨trivial, ?_⟩; gi_at_call 66; refine (callsIn_wide.2 (HSK.out _ (hE.below t7))).mono ?_; rintro e w1 ⟨rfl, hb1⟩; have HT1 := Aside0.mk (HT.out.below hb1); have HJ1 := Aside0.mk (hJ _ _ _ _ HJ.out (Step.of_below hb1)); obtain ⟨m0, m1, m2, m3, m4, m5, m6, m7⟩ := HT1.out) | (refine ⟨trivial, ?_⟩; gi_at_call 68; have HT2 := Aside0.mk (((HT1.out.set0 hne hBt).set (j := j) hne hBt rfl).below (below_alloc (Below.refl _ _) (Obj.cells #[Value.string s, Value.int IntKind.i64 ↑j] 77))); refine (callsIn_wide.2 (HJT.out _ (hE.below HT2.out.bl))).mono ?_; rintro e w3 ⟨rfl, hb3⟩; have HT3 := Aside0.mk (HT2.out.below hb3); have HJ3 := Aside0.mk (hJ _ _ _ _ HJ1.out ((Step.set _ HO.out.2.1).trans ((Step.set _ HO.out.2.1).trans ((Step.of_below (below_alloc (Below.refl _ _) _)).trans (Step.of_below hb3))))); have HT4 := Aside0.mk (HT3.out.below (below_alloc (Below.refl _ _) (Obj.cells #[Value.int IntKind.i64 tk.kind, Value.string (s.extract j tk.fin), Value.int IntKind.i64 ↑j, Value.int IntKind.i64 tk.bad] 68))); have HJ4 := Aside0.mk (hJ _ _ _ _ (hJa _ _ _ _ HJ3.out (Nat.le_refl _)) (Step.of_below (below_alloc (Below.refl _ _) (Obj.cells #[Value.int IntKind.i64 tk.kind, Value.string (s.extract j tk.fin), Value.int IntKind.i64 ↑j, Value.int IntKind.i64 tk.bad] 68)))); have HOL : ∀ r, r ∈ w3.heap.size :: own → r < (w3.alloc (Obj.cells #[Value.int IntKind.i64 tk.kind, Value.string (s.extract j tk.fin), Value.int IntKind.i64 ↑j, Value.int IntKind.i64 tk.bad] 68)).heap.size := (fun r hr => own_grown HO.out.2.2 hb1.size (by have := hb3.size; simp at this; omega) r hr); obtain ⟨fn, tmps, assign, body, hy, hR⟩ := hY pre _ (tk, j) _ HJ4.out HOL hlen; have HOL' := Aside0.mk HOL; clear HOL; simp only [foundV] at hy))
          refine hR.mono ?_
          rintro e W5 (⟨rfl, hJ5, hk5⟩ | ⟨rfl, hJx5⟩)
          · have HT5 := Aside0.mk (HT4.out.kept hk5 (List.mem_cons_of_mem _ HO.out.1) (List.mem_cons_of_mem _ HO.out.2.1))
            have hq := hk5.own w3.heap.size (by simp) (by simp)
            have kx1 : W5.cell? ⟨w3.heap.size, 1, none⟩ = some (.string (s.extract j tk.fin)) := (World.cell?_of_block (a := ⟨w3.heap.size, 1, none⟩) hq).trans (by simp [go_sem])
            have kx3 : W5.cell? ⟨w3.heap.size, 3, none⟩ = some (.int .i64 tk.bad) := (World.cell?_of_block (a := ⟨w3.heap.size, 3, none⟩) hq).trans (by simp [go_sem])
            have HJ5 := Aside0.mk hJ5
            have HK5 := Aside0.mk hk5
            clear hq hJ5 hk5
            obtain ⟨p0, p1, p2, p3, p4, p5, p6, p7⟩ := HT5.out
            gi_wp2
            go_roundw
            case rel => exact ⟨pre ++ [(tk, j)], tk.fin, w3.heap.size :: own, ⟨hJ _ _ _ _ HJ5.out (Step.set _ (List.mem_cons_of_mem _ HO.out.2.1))⟩, ⟨List.mem_cons_of_mem _ HO.out.1, List.mem_cons_of_mem _ HO.out.2.1, fun r hr => Nat.lt_of_lt_of_le (HOL'.out r hr) (by have := HK5.out.below.size; simpa using this)⟩, ⟨by rw [HL.out, HX.out]; simp⟩, by omega, ⟨HT5.out.set hne hBt rfl⟩⟩
            case measure => rw [leftOf_eq (HT5.out.set (j := tk.fin) hne hBt rfl), leftOf_eq HT.out]; omega
          · gi_wp2
            refine bodyPost_ret (results_none rfl _ _ _) rfl ?_
            exact ⟨⟨_, rfl⟩, .inr ⟨_, _, by rw [HL.out, HX.out]; exact ⟨lexFrom s tk.fin, by simp⟩, hJx5⟩⟩
        · have HX := Aside0.mk (lex_bad s i j hsk hj hbd)
          rw [← htk] at HX
          have hbb : (tk.bad != 0) = true := by rw [htk]; simp [hbd]
          have hlen : pre.length < (lexFrom s 0).length := by rw [HL.out, HX.out]; simp
          clear hbd htk hsk
          gi_wp2_with (first | (refine ⟨trivial, ?_⟩; gi_at_call 66; refine (callsIn_wide.2 (HSK.out _ (hE.below t7))).mono ?_; rintro e w1 ⟨rfl, hb1⟩; have HT1 := Aside0.mk (HT.out.below hb1); have HJ1 := Aside0.mk (hJ _ _ _ _ HJ.out (Step.of_below hb1)); obtain ⟨m0, m1, m2, m3, m4, m5, m6, m7⟩ := HT1.out) | (refine ⟨trivial, ?_⟩; gi_at_call 68; have HT2 := Aside0.mk (((HT1.out.set0 hne hBt).set (j := j) hne hBt rfl).below (below_alloc (Below.refl _ _) (Obj.cells #[Value.string s, Value.int IntKind.i64 ↑j] 77))); refine (callsIn_wide.2 (HJT.out _ (hE.below HT2.out.bl))).mono ?_; rintro e w3 ⟨rfl, hb3⟩; have HT3 := Aside0.mk (HT2.out.below hb3); have HJ3 := Aside0.mk (hJ _ _ _ _ HJ1.out ((Step.set _ HO.out.2.1).trans ((Step.set _ HO.out.2.1).trans ((Step.of_below (below_alloc (Below.refl _ _) _)).trans (Step.of_below hb3))))); have HT4 := Aside0.mk (HT3.out.below (below_alloc (Below.refl _ _) (Obj.cells #[Value.int IntKind.i64 tk.kind, Value.string (s.extract j tk.fin), Value.int IntKind.i64 ↑j, Value.int IntKind.i64 tk.bad] 68))); have HJ4 := Aside0.mk (hJ _ _ _ _ (hJa _ _ _ _ HJ3.out (Nat.le_refl _)) (Step.of_below (below_alloc (Below.refl _ _) (Obj.cells #[Value.int IntKind.i64 tk.kind, Value.string (s.extract j tk.fin), Value.int IntKind.i64 ↑j, Value.int IntKind.i64 tk.bad] 68)))); have HOL : ∀ r, r ∈ w3.heap.size :: own → r < (w3.alloc (Obj.cells #[Value.int IntKind.i64 tk.kind, Value.string (s.extract j tk.fin), Value.int IntKind.i64 ↑j, Value.int IntKind.i64 tk.bad] 68)).heap.size := (fun r hr => own_grown HO.out.2.2 hb1.size (by have := hb3.size; simp at this; omega) r hr); obtain ⟨fn, tmps, assign, body, hy, hR⟩ := hY pre _ (tk, j) _ HJ4.out HOL hlen; have HOL' := Aside0.mk HOL; clear HOL; simp only [foundV] at hy))
          refine hR.mono ?_
          rintro e W5 (⟨rfl, hJ5, hk5⟩ | ⟨rfl, hJx5⟩)
          · have HT5 := Aside0.mk (HT4.out.kept hk5 (List.mem_cons_of_mem _ HO.out.1) (List.mem_cons_of_mem _ HO.out.2.1))
            have hq := hk5.own w3.heap.size (by simp) (by simp)
            have kx3 : W5.cell? ⟨w3.heap.size, 3, none⟩ = some (.int .i64 tk.bad) := (World.cell?_of_block (a := ⟨w3.heap.size, 3, none⟩) hq).trans (by simp [go_sem])
            have HJ5 := Aside0.mk hJ5
            clear hq hJ5 hk5
            gi_wp2
            refine bodyPost_ret (results_none rfl _ _ _) rfl ?_
            exact ⟨⟨_, rfl⟩, .inl ⟨_, _, by rw [HL.out, HX.out], HJ5.out⟩⟩
          · gi_wp2
            refine bodyPost_ret (results_none rfl _ _ _) rfl ?_
            exact ⟨⟨_, rfl⟩, .inr ⟨_, _, by rw [HL.out, HX.out]; exact List.prefix_refl _, hJx5⟩⟩
      · obtain rfl : j = s.size := by omega
        have HX := Aside0.mk (lex_end s i _ hsk hj)
        clear hsk
        gi_wp2_with (first | (refine ⟨trivial, ?_⟩; gi_at_call 66; refine (callsIn_wide.2 (HSK.out _ (hE.below t7))).mono ?_; rintro e w1 ⟨rfl, hb1⟩; have HT1 := Aside0.mk (HT.out.below hb1); have HJ1 := Aside0.mk (hJ _ _ _ _ HJ.out (Step.of_below hb1)); obtain ⟨m0, m1, m2, m3, m4, m5, m6, m7⟩ := HT1.out))
        refine bodyPost_ret (results_none rfl _ _ _) rfl ?_
        exact ⟨⟨_, rfl⟩, .inl ⟨pre, own, by rw [HL.out, HX.out, List.append_nil], hJ _ _ _ _ HJ1.out ((Step.set _ HO.out.2.1).trans ((Step.set _ HO.out.2.1).trans (Step.of_below (below_alloc (Below.refl _ _) _))))⟩⟩
end Go.Proofs.YtmnnhbikdgpedaaDoor.Lx
