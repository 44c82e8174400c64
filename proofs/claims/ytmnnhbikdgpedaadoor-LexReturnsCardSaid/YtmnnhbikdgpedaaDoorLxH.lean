/- Contract of lex's skipper of blanks and comments. -/
import Derived.Test.YtmnnhbikdgpedaaDoorLxG
import Derived.Deep.RegionWith
import Derived.Deep.RegionLaw
namespace Go.Proofs.YtmnnhbikdgpedaaDoor.Lx
open Go.RowKit Go.Proofs.YtmnnhbikdgpedaaDoorW.PrintWords Go.Proofs.YtmnnhbikdgpedaaDoorW.PrintLast Go.Proofs.YtmnnhbikdgpedaaDoorW.PrintMore
set_option linter.unusedVariables false
set_option linter.unusedSimpArgs false

def isSpace (c : Int) : Bool := c == 32 || c == 9 || c == 10 || c == 13
def notLf (c : Int) : Bool := c != 10
def slashes : ByteArray := ⟨#[47, 47]⟩
def opening : ByteArray := ⟨#[47, 42]⟩
/-- Where the next */ stands, counted from two bytes behind i. -/
def closing (s : ByteArray) (i : Nat) : Int := Go.Lib.index (s.extract (i + 2) s.size).data.toList [42, 47]

/-- What stands behind blanks and comments, and whether all comments end. -/
def skip (s : ByteArray) (i : Nat) : Nat × Bool :=
  if hi : i < s.size then
    if isSpace (bt s i) then skip s (i + 1)
    else if hasAt s i slashes then (if h : i < runEnd notLf s i then skip s (runEnd notLf s i) else (i, true))
    else if hasAt s i opening then (if closing s i < 0 then (i, false) else skip s (i + (closing s i).toNat + 4))
    else (i, true)
  else (i, true)
  termination_by s.size - i

set_option maxRecDepth 20000 in
theorem notLf_calls (c : Int) (w : World) :
    Calls Tryd.prog 90 #[.int .u8 c] w fun e w' => e = .returned (.bool (notLf c)) ∧ Drawn0 w w' := by
  go_enter Tryd.func90, Tryd.ntmps90
  go_wp2
  go_ret
  exact ⟨ret_b (by simp [notLf]), Drawn0.refl _⟩
theorem test_notLf : Test 90 notLf := ⟨notLf_calls, Tryd.call90⟩

theorem space_index (c : Int) (h0 : 0 ≤ c) (h1 : c ≤ 255) : decide (0 ≤ Go.Lib.indexByte [32, 9, 10, 13] c.toNat.toUInt8) = isSpace c := by
  have h : (List.range 256).all (fun n => decide (0 ≤ Go.Lib.indexByte [32, 9, 10, 13] n.toUInt8) == isSpace (n : Int)) = true := by decide +kernel
  have := List.all_eq_true.mp h c.toNat (by simp; omega)
  rw [Int.toNat_of_nonneg h0] at this
  simpa using this

/-- What a round of the skipper holds: its two boxes. -/
structure SkB (w : World) (s : ByteArray) (i : Nat) (W : World) : Prop where
  c0 : W.cell? ⟨w.heap.size, 0, none⟩ = some (.string s)
  c1 : W.cell? ⟨w.heap.size, 1, none⟩ = some (.int .i64 i)
  d0 : W.cell? ⟨w.heap.size + 1, 0, none⟩ = some (.string ⟨#[]⟩)
  d1 : W.cell? ⟨w.heap.size + 1, 1, none⟩ = some (.int .i64 0)
  f0 : W.frozen? ⟨w.heap.size, 0, none⟩ = false
  f1 : W.frozen? ⟨w.heap.size, 1, none⟩ = false
  g0 : W.frozen? ⟨w.heap.size + 1, 0, none⟩ = false
  g1 : W.frozen? ⟨w.heap.size + 1, 1, none⟩ = false
  sz : w.heap.size + 1 < W.heap.size
  bl : Below w.heap.size w W

theorem SkB.below {w : World} {s : ByteArray} {i : Nat} {W W' : World} (h : SkB w s i W) (hb : Below W.heap.size W W') : SkB w s i W' := by
  obtain ⟨c0, c1, d0, d1, f0, f1, g0, g1, sz, bl⟩ := h
  have s0 : w.heap.size < W.heap.size := by omega
  obtain ⟨hc, hf⟩ := bcell hb
  exact ⟨(hc _ _ s0).trans c0, (hc _ _ s0).trans c1, (hc _ _ sz).trans d0, (hc _ _ sz).trans d1, (hf _ _ s0).trans f0, (hf _ _ s0).trans f1, (hf _ _ sz).trans g0, (hf _ _ sz).trans g1, Nat.lt_of_lt_of_le sz hb.size, below_step bl hb⟩

theorem SkB.set {w : World} {s : ByteArray} {i j : Nat} {W : World} {v : Int} (h : SkB w s i W) (hv : v = (j : Int)) : SkB w s j (W.setCell ⟨w.heap.size, 1, none⟩ (.int .i64 v)) := by
  subst hv
  obtain ⟨c0, c1, d0, d1, f0, f1, g0, g1, sz, bl⟩ := h
  refine ⟨?_, ?_, ?_, ?_, ?_, ?_, ?_, ?_, ?_, ?_⟩
  · exact (World.cell?_setCell_other _ _ _ _ (by intro e; cases e)).trans c0
  · exact World.cell?_setCell_same _ _ _ c1
  · exact (World.cell?_setCell_other _ _ _ _ (by intro e; injection e with e1; omega)).trans d0
  · exact (World.cell?_setCell_other _ _ _ _ (by intro e; injection e with e1; omega)).trans d1
  · rw [World.frozen?_setCell]; exact f0
  · rw [World.frozen?_setCell]; exact f1
  · rw [World.frozen?_setCell]; exact g0
  · rw [World.frozen?_setCell]; exact g1
  · simpa using sz
  · exact below_set bl (Nat.le_refl _)
theorem SkB.drewN {w : World} {s : ByteArray} {i : Nat} {W : World} (h : SkB w s i W) (n : Nat) : SkB w s i (W.drewN n) := h.below (pw_below_drewN (Below.refl _ _) n)
theorem SkB.drew {w : World} {s : ByteArray} {i : Nat} {W : World} (h : SkB w s i W) : SkB w s i W.drew := h.below (below_drew1 (Below.refl _ _))

theorem skip_out (s : ByteArray) (i : Nat) (h : ¬ i < s.size) : skip s i = (i, true) := by rw [skip, dif_neg h]
theorem skip_space (s : ByteArray) (i : Nat) (h : i < s.size) (h1 : isSpace (bt s i) = true) : skip s i = skip s (i + 1) := by rw [skip, dif_pos h, if_pos h1]
theorem skip_line (s : ByteArray) (i : Nat) (h : i < s.size) (h1 : isSpace (bt s i) = false) (h2 : hasAt s i slashes = true) (h3 : i < runEnd notLf s i) : skip s i = skip s (runEnd notLf s i) := by
  rw [skip, dif_pos h, h1, if_neg (by simp), if_pos h2, dif_pos h3]
theorem skip_open (s : ByteArray) (i : Nat) (h : i < s.size) (h1 : isSpace (bt s i) = false) (h2 : hasAt s i slashes = false) (h3 : hasAt s i opening = true) (h4 : closing s i < 0) : skip s i = (i, false) := by
  rw [skip, dif_pos h, h1, if_neg (by simp), h2, if_neg (by simp), if_pos h3, if_pos h4]
theorem skip_closed (s : ByteArray) (i : Nat) (h : i < s.size) (h1 : isSpace (bt s i) = false) (h2 : hasAt s i slashes = false) (h3 : hasAt s i opening = true) (h4 : ¬ closing s i < 0) : skip s i = skip s (i + (closing s i).toNat + 4) := by
  rw [skip, dif_pos h, h1, if_neg (by simp), h2, if_neg (by simp), if_pos h3, if_neg h4]
theorem skip_none (s : ByteArray) (i : Nat) (h : i < s.size) (h1 : isSpace (bt s i) = false) (h2 : hasAt s i slashes = false) (h3 : hasAt s i opening = false) : skip s i = (i, true) := by
  rw [skip, dif_pos h, h1, if_neg (by simp), h2, if_neg (by simp), h3, if_neg (by simp)]

theorem closing_le (s : ByteArray) (i : Nat) (h : ¬ closing s i < 0) (h2 : i + 2 ≤ s.size) : i + (closing s i).toNat + 4 ≤ s.size := by
  have h3 := Lib.indexB_cases (s.extract (i + 2) s.size) ⟨#[42, 47]⟩
  rw [show Lib.indexB (s.extract (i + 2) s.size) ⟨#[42, 47]⟩ = closing s i from rfl] at h3
  rcases h3 with h3 | ⟨k, h3, h4⟩
  · omega
  · have h5 : (s.extract (i + 2) s.size).size = s.size - (i + 2) := by simp
    have h6 : (⟨#[42, 47]⟩ : ByteArray).size = 2 := rfl
    omega

set_option maxHeartbeats 8000000 in
set_option maxRecDepth 20000 in
theorem skipped_calls (s : ByteArray) (i0 : Nat) (hi : i0 ≤ s.size) (hs : s.size ≤ 4294967280) (w : World) (hE : Env w) :
    Calls Tryd.prog 66 #[.agg #[.string s, .int .i64 i0]] w fun e w' => e = .returned (.tuple #[.agg #[.string s, .int .i64 (skip s i0).1], .bool (skip s i0).2]) ∧ Below w.heap.size w w' := by
  obtain ⟨r, hr⟩ : ∃ r, r = skip s i0 := ⟨_, rfl⟩
  rw [← hr]
  have HE := Aside0.mk hE
  clear hE
  have hs2 : s.size ≤ 140737488351232 := by omega
  have K0 : SkB w s i0 ((w.alloc (Obj.cells #[Value.string s, Value.int IntKind.i64 ↑i0] 77)).alloc (Obj.cells #[Value.string { data := #[] }, Value.int IntKind.i64 0] 77)) := by
    refine ⟨by simp [go_sem], by simp [go_sem], by simp [go_sem], by simp [go_sem], by simp [go_sem], by simp [go_sem], by simp [go_sem], by simp [go_sem], by simp, ?_⟩
    exact below_alloc (below_alloc (Below.refl _ _) _) _
  go_enter Tryd.func66, Tryd.ntmps66
  go_wp2
  go_loopg [] (s.size + 1) (fun kq W => ∃ i : Nat, Aside0 (skip s i = r) ∧ Aside0 (i ≤ s.size ∧ s.size - i < kq) ∧ Aside0 (SkB w s i W))
  case atStart => exact ⟨i0, ⟨hr.symm⟩, ⟨hi, by omega⟩, ⟨K0⟩⟩
  case round =>
    clear hr K0
    obtain ⟨i, HR, HN, KB⟩ := hrel
    obtain ⟨hn, hk⟩ := HN.out
    obtain ⟨k0, k1, k2, k3, k4, k5, k6, k7, k8, k9⟩ := KB.out
    by_cases ci : i < s.size
    · have hx : ((s[i]'ci).toNat : Int) = bt s i := by have := bt_at s i (by simpa using ci); simpa using this
      have p4 : (0 ≤ (i : Int)) = True := eq_true (by omega)
      have q4 : ((i : Int) < (s.size : Int)) = True := eq_true (by omega)
      have hbr := bt_range s i
      obtain ⟨q, hq⟩ : ∃ q, q = Go.Lib.indexByte [32, 9, 10, 13] (bt s i).toNat.toUInt8 := ⟨_, rfl⟩
      have HI : Aside0 (∀ w, Calls Tryd.prog 88 #[.string ⟨#[32, 9, 10, 13]⟩, .int .u8 (bt s i)] w fun e w' => e = .returned (.int .i64 q) ∧ w = w') := by
        refine ⟨fun w => (Tryd.strings_IndexByte _ _ w).mono ?_⟩
        rintro e w' ⟨rfl, rfl⟩
        exact ⟨by rw [hq], rfl⟩
      have hqs := space_index (bt s i) hbr.1 hbr.2
      rw [← hq] at hqs
      clear hq
      cases c1 : isSpace (bt s i) with
      | true =>
        rw [c1] at hqs
        have H2 := Aside0.mk (show skip s (i + 1) = r by rw [← skip_space s i ci c1]; exact HR.out)
        clear c1 HR
        go_wp2_with (first | (go_at_call 88; with_reducible refine (HI.out _).mono ?_; rintro e w' ⟨rfl, rfl⟩))
        go_roundg (gk - 1)
        case measure => omega
        case rel => exact ⟨i + 1, H2, ⟨by omega, by omega⟩, ⟨KB.out.set (by omega)⟩⟩
      | false =>
        rw [c1] at hqs
        have HH1 := Aside0.mk (fun w => has_calls s slashes i hn hs2 w)
        cases c2 : hasAt s i slashes with
        | true =>
          rw [c2, show slashes = ⟨#[47, 47]⟩ from rfl] at HH1
          have g1 := hasAt_size s slashes i c2 (by decide)
          rw [show slashes.size = 2 from rfl] at g1
          have g0 : bt s i = 47 := by
            have h5 := hasAt_extract s slashes i c2
            rw [show slashes.size = 2 from rfl] at h5
            have h6 := bt_extract s i (i + 2) 0 (by omega) g1
            rw [h5] at h6
            simp only [Nat.add_zero] at h6
            rw [← h6]
            rfl
          have g2 : i < runEnd notLf s i := by
            rw [runEnd, if_pos ci, show notLf (bt s i) = true by rw [g0]; rfl, if_pos rfl]
            have := runEnd_ge notLf s (i + 1)
            omega
          have g3 := runEnd_le notLf s i hn
          have H2 := Aside0.mk (show skip s (runEnd notLf s i) = r by rw [← skip_line s i ci c1 c2 g2]; exact HR.out)
          have HW := Aside0.mk (fun w => run_calls 90 notLf test_notLf s i hn hs2 w)
          generalize runEnd notLf s i = e1 at *
          have hlen : (i : Int) + ((e1 - i : Nat) : Int) = e1 := by omega
          clear c1 c2 HR g0
          go_wp2_with (first | (go_at_call 88; with_reducible refine (HI.out _).mono ?_; rintro e w' ⟨rfl, rfl⟩) | (go_at_call 89; with_reducible refine (HH1.out _).mono ?_; rintro e w1 ⟨rfl, hb1⟩; have KB1 := Aside0.mk (KB.out.below hb1); clear hb1; obtain ⟨m0, m1, m2, m3, m4, m5, m6, m7, m8, m9⟩ := KB1.out))
          go_region_with (first | (go_at_call 71; (with_reducible refine (HW.out _).mono ?_); rintro e w2 ⟨rfl, hb2⟩; have KB2 := Aside0.mk ((KB1.out.below (by repeat (first | exact Below.refl _ _ | apply below_drew1 | apply pw_below_drewN))).below hb2); clear hb2; obtain ⟨n0, n1, n2, n3, n4, n5, n6, n7, n8, n9⟩ := KB2.out))
          all_goals
            go_wp2
            go_roundg (gk - 1)
            case measure => omega
            case rel => exact ⟨e1, H2, ⟨by omega, by omega⟩, ⟨KB2.out.set (by first | omega | exact IntWalk.i64_in _ (by omega))⟩⟩
        | false =>
          rw [c2, show slashes = ⟨#[47, 47]⟩ from rfl] at HH1
          have HH2 := Aside0.mk (fun w => has_calls s opening i hn hs2 w)
          cases c3 : hasAt s i opening with
          | false =>
            rw [c3, show opening = ⟨#[47, 42]⟩ from rfl] at HH2
            have E := Aside0.mk (show r = (i, true) by rw [← HR.out, skip_none s i ci c1 c2 c3])
            clear c1 c2 c3 HR
            go_wp2_with (first | (go_at_call 88; with_reducible refine (HI.out _).mono ?_; rintro e w' ⟨rfl, rfl⟩) | (go_at_call 89; (with_reducible refine (HH1.out _).mono ?_); rintro e w1 ⟨rfl, hb1⟩; have KB1 := Aside0.mk (KB.out.below hb1); clear hb1; obtain ⟨m0, m1, m2, m3, m4, m5, m6, m7, m8, m9⟩ := KB1.out) | (go_at_call 89; (with_reducible refine (HH2.out _).mono ?_); rintro e w2 ⟨rfl, hb2⟩; have KB2 := Aside0.mk (KB1.out.below hb2); clear hb2; obtain ⟨n0, n1, n2, n3, n4, n5, n6, n7, n8, n9⟩ := KB2.out))
            refine bodyPost_ret (v := .tuple #[.agg #[.string s, .int .i64 i], .bool true]) (by simp [results, Tryd.results66, go_sem, *]; done) rfl ?_
            exact ⟨by rw [E.out], below_set (below_set KB2.out.bl (by omega)) (by omega)⟩
          | true =>
            rw [c3, show opening = ⟨#[47, 42]⟩ from rfl] at HH2
            have g1 := hasAt_size s opening i c3 (by decide)
            rw [show opening.size = 2 from rfl] at g1
            obtain ⟨x, hx0⟩ : ∃ x, x = closing s i := ⟨_, rfl⟩
            have hE2 := HE.out
            obtain ⟨_, _, ⟨ml, hml⟩⟩ := hE2
            have HX : Aside0 (∀ W, W.cell? ⟨2, 0, none⟩ = some (.int .i64 ml) → Calls Tryd.prog 91 #[.string (s.extract (i + 2) s.size), .string ⟨#[42, 47]⟩] W fun e w' => e = .returned (.int .i64 x) ∧ W = w') := by
              refine ⟨fun W hW => (Tryd.strings_Index _ _ ml W (by simp; omega) hW).mono ?_⟩
              rintro e w' ⟨rfl, rfl⟩
              exact ⟨by rw [hx0]; rfl, rfl⟩
            have p5 : decide ((i : Int) + 2 ≤ (s.size : Int)) = true := by simp; omega
            have p6 : ((i : Int) + 2 ≤ (s.size : Int)) = True := eq_true (by omega)
            by_cases c4 : x < 0
            · have c4b : decide (x < 0) = true := by simpa using c4
              have E := Aside0.mk (show r = (i, false) by rw [← HR.out, skip_open s i ci c1 c2 c3 (by rw [← hx0]; exact c4)])
              clear c1 c2 c3 HR hx0
              go_wp2_with (first | (go_at_call 88; with_reducible refine (HI.out _).mono ?_; rintro e w' ⟨rfl, rfl⟩) | (go_at_call 89; (with_reducible refine (HH1.out _).mono ?_); rintro e w1 ⟨rfl, hb1⟩; have KB1 := Aside0.mk (KB.out.below hb1); clear hb1; obtain ⟨m0, m1, m2, m3, m4, m5, m6, m7, m8, m9⟩ := KB1.out) | (go_at_call 89; (with_reducible refine (HH2.out _).mono ?_); rintro e w2 ⟨rfl, hb2⟩; have KB2 := Aside0.mk (KB1.out.below hb2); clear hb2; obtain ⟨n0, n1, n2, n3, n4, n5, n6, n7, n8, n9⟩ := KB2.out) | (go_at_call 91; (with_reducible refine (HX.out _ (pw_cell_below KB2.out.bl hml)).mono ?_); rintro e w' ⟨rfl, rfl⟩))
              refine bodyPost_ret (v := .tuple #[.agg #[.string s, .int .i64 i], .bool false]) (by simp [results, Tryd.results66, go_sem, *]; done) rfl ?_
              exact ⟨by rw [E.out], below_set (below_set KB2.out.bl (by omega)) (by omega)⟩
            · have c4b : decide (x < 0) = false := by simpa using c4
              have H2 := Aside0.mk (show skip s (i + x.toNat + 4) = r by rw [hx0, ← skip_closed s i ci c1 c2 c3 (by rw [← hx0]; exact c4)]; exact HR.out)
              have g2 := closing_le s i (by rw [← hx0]; exact c4) g1
              rw [← hx0] at g2
              clear c1 c2 c3 HR hx0
              have c5 : 0 ≤ x := by omega
              have c6 : x ≤ 4294967280 := by omega
              go_wp2_with (first | (go_at_call 88; with_reducible refine (HI.out _).mono ?_; rintro e w' ⟨rfl, rfl⟩) | (go_at_call 89; (with_reducible refine (HH1.out _).mono ?_); rintro e w1 ⟨rfl, hb1⟩; have KB1 := Aside0.mk (KB.out.below hb1); clear hb1; obtain ⟨m0, m1, m2, m3, m4, m5, m6, m7, m8, m9⟩ := KB1.out) | (go_at_call 89; (with_reducible refine (HH2.out _).mono ?_); rintro e w2 ⟨rfl, hb2⟩; have KB2 := Aside0.mk (KB1.out.below hb2); clear hb2; obtain ⟨n0, n1, n2, n3, n4, n5, n6, n7, n8, n9⟩ := KB2.out) | (go_at_call 91; (with_reducible refine (HX.out _ (pw_cell_below KB2.out.bl hml)).mono ?_); rintro e w' ⟨rfl, rfl⟩))
              go_roundg (gk - 1)
              case measure => omega
              case rel => exact ⟨i + x.toNat + 4, H2, ⟨by omega, by omega⟩, ⟨KB2.out.set (by omega)⟩⟩
    · have cib : decide ((i : Int) < (s.size : Int)) = false := by simp; omega
      have E := Aside0.mk (show r = (i, true) by rw [← HR.out, skip_out s i ci])
      clear HR
      go_wp2
      refine bodyPost_ret (v := .tuple #[.agg #[.string s, .int .i64 i], .bool true]) (by simp [results, Tryd.results66, go_sem, *]; done) rfl ?_
      exact ⟨by rw [E.out], below_set (below_set KB.out.bl (by omega)) (by omega)⟩
end Go.Proofs.YtmnnhbikdgpedaaDoor.Lx
