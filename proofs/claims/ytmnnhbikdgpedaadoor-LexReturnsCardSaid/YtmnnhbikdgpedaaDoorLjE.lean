/- lex.Join has its contract. -/
import Derived.Test.YtmnnhbikdgpedaaDoorLjC
import Derived.Test.YtmnnhbikdgpedaaDoorLjW
import Derived.IntWalk
import Derived.Deep.LoopGhost
import Derived.Outline
namespace Go.Proofs.YtmnnhbikdgpedaaDoor.Lx
open Go.RowKit Go.Proofs.YtmnnhbikdgpedaaDoorW.PrintWords Go.Proofs.YtmnnhbikdgpedaaDoorW.PrintLast Go.Proofs.YtmnnhbikdgpedaaDoorW.PrintMore
open Go.Proofs.YtmnnhbikdgpedaaDoor.PLexTokens
set_option linter.unusedVariables false
set_option linter.unusedSimpArgs false

theorem ownsRowF_below {W W' : World} {base : Nat} {e : TypeId} {v : Value} {n : Nat} {xs : List Value} (h : W.ownsRowF base e 1 v n xs) (hb : Below W.heap.size W W') : W'.ownsRowF base e 1 v n xs := by
  refine ⟨h.1, ?_⟩
  rcases h.2 with h1 | ⟨g, cap, cur, fz, hv, hg, hrest⟩
  · exact .inl h1
  · refine .inr ⟨g, cap, cur, fz, hv, hg, ?_⟩
    obtain ⟨h1, h2⟩ := hrest
    exact ⟨(hb.block g (h.lt g (by rw [hv]; rfl)).2).trans h1, h2⟩
theorem builder_below {W W' : World} {B b : Nat} {bs : List Value} (h : Lib.IsBuilderF 89 5 B b bs W) (hb : Below W.heap.size W W') : Lib.IsBuilderF 89 5 B b bs W' := by
  have one : ∀ p, Lib.BuilderAtF 89 5 B b p bs W → Lib.BuilderAtF 89 5 B b p bs W' := by
    rintro p ⟨hB, v, h1, h2, h3⟩
    exact ⟨hB, v, (hb.block b (Lib.BuilderAtF.lt ⟨hB, v, h1, h2, h3⟩)).trans h1, ownsRowF_below h2 hb, h3⟩
  exact h.elim (fun x => .inl (one _ x)) (fun x => .inr (one _ x))

/-- The first error of a list of tokens. -/
def firstBad : List S49 → Int
  | [] => 0
  | x :: xs => if checkB x.f0 x.f1 = 0 then firstBad xs else checkB x.f0 x.f1
/-- The token at a place. -/
def tk (L : List S49) (j : Nat) : S49 := rd_T49 L (j : Int)
/-- Whether there is a space ahead of the token at a place. -/
def gap (L : List S49) (j : Nat) : Bool := decide (0 < j) && apartB (tk L (j - 1)).f0 (tk L (j - 1)).f1 (tk L j).f0 (tk L j).f1
/-- The bytes of the first tokens, joined. -/
def joinUpto (L : List S49) : Nat → List UInt8
  | 0 => []
  | j + 1 => joinUpto L j ++ (if gap L j = true then [32] else []) ++ (tk L j).f1.data.toList
def joinB (L : List S49) : ByteArray × Int := if firstBad L = 0 then (⟨(joinUpto L L.length).toArray⟩, 0) else (⟨#[]⟩, firstBad L)

theorem joinUpto_le (L : List S49) (h : ∀ j, (tk L j).f1.size ≤ 200) : ∀ j, (joinUpto L j).length ≤ 201 * j
  | 0 => by simp [joinUpto]
  | j + 1 => by
    have := joinUpto_le L h j
    have h1 := h j
    rw [Lib.size_eq] at h1
    rw [joinUpto, List.length_append, List.length_append]
    have : (if gap L j = true then [(32 : UInt8)] else []).length ≤ 1 := by split <;> simp
    omega
theorem tk_drop (L : List S49) (j : Nat) (h : j < L.length) : L.drop j = tk L j :: L.drop (j + 1) := by
  rw [List.drop_eq_getElem_cons h, tk, rd_T49, Int.toNat_natCast, List.getD_eq_getElem?_getD, List.getElem?_eq_getElem h, Option.getD_some]

theorem wb_calls (B b : Nat) (l : List UInt8) (W : World) (h : Lib.IsBuilderF 89 5 B b (Lib.byteCells l) W) (hl : l.length ≤ 100000) (hB : B ≤ W.heap.size) :
    Calls Tryd.prog 51 #[.pointer (some ⟨b, 0, none⟩), .int .u8 32] W fun e w' => e = .returned .nilIface ∧ Lib.IsBuilderF 89 5 B b (Lib.byteCells (l ++ [32])) w' ∧ Below B W w' ∧ Lib.OthersKept 5 (some b) W w' := by
  refine (writeByte_calls B b _ 32 W h (by rw [Lib.byteCells_length]; omega) hB).mono ?_
  rintro e w' ⟨rfl, h1, h2, h3⟩
  refine ⟨rfl, .inr ?_, h2, h3⟩
  rw [show Lib.byteCells (l ++ [32]) = Lib.byteCells l ++ [.int .u8 32] by simp [Lib.byteCells]]
  exact h1
theorem ws_calls (B b : Nat) (l : List UInt8) (s : ByteArray) (W : World) (h : Lib.IsBuilderF 89 5 B b (Lib.byteCells l) W) (hl : l.length + s.size ≤ 100000) (hB : B ≤ W.heap.size) :
    Calls Tryd.prog 52 #[.pointer (some ⟨b, 0, none⟩), .string s] W fun e w' => e = .returned (.tuple #[.int .i64 s.size, .nilIface]) ∧ Lib.IsBuilderF 89 5 B b (Lib.byteCells (l ++ s.data.toList)) w' ∧ Below B W w' ∧ Lib.OthersKept 5 (some b) W w' := by
  refine (writeString_calls B b _ s W h (by rw [Lib.byteCells_length]; omega) hB).mono ?_
  rintro e w' ⟨rfl, h1, h2, h3⟩
  refine ⟨rfl, .inr ?_, h2, h3⟩
  rw [show Lib.byteCells (l ++ s.data.toList) = Lib.byteCells l ++ Lib.strCells s by simp [Lib.byteCells, Lib.strCells]]
  exact h1

theorem blen_calls (B b : Nat) (l : List UInt8) (W : World) (h : Lib.IsBuilderF 89 5 B b (Lib.byteCells l) W) :
    Calls Tryd.prog 53 #[.pointer (some ⟨b, 0, none⟩)] W fun e w' => e = .returned (.int .i64 (l.length : Int)) ∧ W = w' := by
  refine (Tryd.Builder_Len_f B b _ W h).mono ?_
  rintro e w' ⟨rfl, rfl⟩
  rw [Lib.byteCells_length]
  exact ⟨rfl, rfl⟩
theorem keepA {w1 W2 : World} (h : Below w1.heap.size w1 W2) {p : Addr} {v : Value} (hc : w1.cell? p = some v) : W2.cell? p = some v :=
  (h.cell (World.block_lt_of_cell? w1 _ hc)).trans hc

set_option maxHeartbeats 2000000 in
set_option maxRecDepth 100000 in
theorem join_calls (A : Option Addr) (c : Nat) (L : List S49) (hL : L.length ≤ 80) (hs : ∀ j, (tk L j).f1.size ≤ 200) (w : World) (hC : Kd.C k49 w A L.length L) (hE : Env w) :
    Calls Tryd.prog 26 #[.slice A L.length c] w fun e w' => e = .returned (.tuple #[.string (joinB L).1, .int .i64 (joinB L).2]) ∧ Below w.heap.size w w' := by
  have HC := Aside0.mk hC
  have HE := Aside0.mk hE
  have HS := Aside0.mk hs
  have HL := Aside0.mk hL
  have HB := Aside0.mk (Below.refl w.heap.size w)
  have d0 : decide (20000 < (L.length : Int)) = false := decide_eq_false (by omega)
  have d1 : decide (20000 < L.length) = false := decide_eq_false (by omega)
  have b0 : L.length ≤ 9223372036854775807 := by omega
  clear hC hE hs hL
  go_enter Tryd.func26, Tryd.ntmps26
  go_wp2
  go_step3
  go_wp2
  go_step3
  go_wp2
  go_loopw [15, 4] (fun v15 v4 W => ∃ j : Nat, v15 = .int .i64 (j : Int) ∧ v4 = .int .i64 0 ∧ Aside0 (j ≤ L.length) ∧ Aside0 (firstBad L = firstBad (L.drop j)) ∧ Aside0 (Below w.heap.size w W)) (fun v15 _ _ => L.length - (intOf v15).toNat)
  case atStart => exact ⟨0, rfl, rfl, ⟨Nat.zero_le _⟩, ⟨rfl⟩, HB⟩
  case round =>
    clear HB
    obtain ⟨j, rfl, rfl, HJ, HF, HB⟩ := hrel
    by_cases hj : j < L.length
    · obtain ⟨ad, rfl, c0, c1, c2⟩ := at_T49 HC.out (j : Int) (Int.natCast_nonneg _) (by omega)
      rw [show rd_T49 L (j : Int) = tk L j from rfl] at c0 c1 c2
      have HSZ := Aside0.mk (HS.out j)
      have hfb := tk_drop L j hj
      have HF2 := Aside0.mk (show firstBad L = if checkB (tk L j).f0 (tk L j).f1 = 0 then firstBad (L.drop (j + 1)) else checkB (tk L j).f0 (tk L j).f1 by rw [HF.out, hfb, firstBad])
      clear hfb HF
      generalize tk L j = x at *
      replace c0 := (HB.out.cell (World.block_lt_of_cell? w _ c0)).trans c0
      replace c1 := (HB.out.cell (World.block_lt_of_cell? w _ c1)).trans c1
      replace c2 := (HB.out.cell (World.block_lt_of_cell? w _ c2)).trans c2
      simp only [Int.toNat_natCast] at c0 c1 c2
      have dj : decide ((j : Int) < (L.length : Int)) = true := decide_eq_true (by omega)
      have dj' : decide (j < L.length) = true := decide_eq_true hj
      by_cases hb : checkB x.f0 x.f1 = 0
      · have k1 : (checkB x.f0 x.f1 != 0) = false := by simp [hb]
        rw [if_pos hb] at HF2
        go_wp2_with (first | (go_at_call 49; go_loud ((with_reducible refine (check_calls _ _ _ (by have := HSZ.out; omega) _ (HE.out.below (by repeat (first | (with_reducible exact HB.out) | (with_reducible apply below_alloc) | (with_reducible apply pw_below_drewN) | (with_reducible apply below_drew1))))).mono ?_); rintro e w1 ⟨rfl, hb1⟩; have HB1 := Aside0.mk (below_step (by repeat (first | (with_reducible exact HB.out) | (with_reducible apply below_alloc) | (with_reducible apply pw_below_drewN) | (with_reducible apply below_drew1))) hb1); clear hb1)))
        go_roundw
        case rel => exact ⟨j + 1, by go_num, by first | rfl | rw [hb], ⟨hj⟩, HF2, HB1⟩
        case measure => simp [intOf]; omega
      · have k1 : (checkB x.f0 x.f1 != 0) = true := by simp [hb]
        rw [if_neg hb] at HF2
        go_wp2_with (first | (go_at_call 49; go_loud ((with_reducible refine (check_calls _ _ _ (by have := HSZ.out; omega) _ (HE.out.below (by repeat (first | (with_reducible exact HB.out) | (with_reducible apply below_alloc) | (with_reducible apply pw_below_drewN) | (with_reducible apply below_drew1))))).mono ?_); rintro e w1 ⟨rfl, hb1⟩; have HB1 := Aside0.mk (below_step (by repeat (first | (with_reducible exact HB.out) | (with_reducible apply below_alloc) | (with_reducible apply pw_below_drewN) | (with_reducible apply below_drew1))) hb1); clear hb1)))
        try rw [Exit.noGoto_ret]
        go_ret2
        refine ⟨?_, HB1.out⟩
        rw [joinB, if_neg (by rw [HF2.out]; exact hb), HF2.out]
        rfl
    · have dj : decide ((j : Int) < (L.length : Int)) = false := decide_eq_false (by omega)
      have dj' : decide (j < L.length) = false := decide_eq_false hj
      have HG := Aside0.mk (show firstBad L = 0 by
        have := HJ.out
        rw [HF.out, List.drop_eq_nil_of_le (by omega), firstBad])
      clear HF HJ hj
      go_wp2
      clear dj dj'
      obtain ⟨wo, rfl⟩ : ∃ wo : World, wo = wr := ⟨_, rfl⟩
      have HW := Aside0.mk HB.out.size
      go_loopw [29] (fun v29 W => ∃ i : Nat, v29 = .int .i64 (i : Int) ∧ Aside0 (i ≤ L.length) ∧ Aside0 (Lib.IsBuilderF 89 5 w.heap.size wo.heap.size (Lib.byteCells (joinUpto L i)) W) ∧ Aside0 (Below w.heap.size w W)) (fun v29 _ => L.length - (intOf v29).toNat)
      case atStart =>
        refine ⟨0, rfl, ⟨Nat.zero_le _⟩, ⟨.inl ⟨HW.out, .slice none 0 0, World.alloc_heap_new _ _, World.ownsRowF_nil _ _ _ _, by simp [Value.ownBlock]⟩⟩, ⟨below_alloc HB.out _⟩⟩
      case round =>
        clear HB
        obtain ⟨i, rfl, HI, HU, HB⟩ := hrel
        by_cases hi : i < L.length
        · obtain ⟨ad, rfl, c0, c1, c2⟩ := at_T49 HC.out (i : Int) (Int.natCast_nonneg _) (by omega)
          rw [show rd_T49 L (i : Int) = tk L i from rfl] at c0 c1 c2
          have HSZ := Aside0.mk (HS.out i)
          replace c0 := (HB.out.cell (World.block_lt_of_cell? w _ c0)).trans c0
          replace c1 := (HB.out.cell (World.block_lt_of_cell? w _ c1)).trans c1
          replace c2 := (HB.out.cell (World.block_lt_of_cell? w _ c2)).trans c2
          simp only [Int.toNat_natCast] at c0 c1 c2
          have dj : decide ((i : Int) < (L.length : Int)) = true := decide_eq_true (by omega)
          have dj' : decide (i < L.length) = true := decide_eq_true hi
          have hn3 := joinUpto_le L HS.out (i + 1)
          have hn2 := joinUpto_le L HS.out i
          have HL80 := HL.out
          have dl : decide (65536 < ((joinUpto L (i + 1)).length : Int)) = false := decide_eq_false (by omega)
          have dl' : decide (65536 < (joinUpto L (i + 1)).length) = false := decide_eq_false (by omega)
          have HLEN := Aside0.mk (show (joinUpto L i).length + 1 + 200 ≤ 100000 by omega)
          clear hn3 hn2 HL80
          cases i with
          | zero =>
            have ea : ad.add (0 * 3) = ad := by simp [Addr.add]
            rw [ea] at c0 c1 c2
            have HJ1 := Aside0.mk (show joinUpto L 0 ++ (tk L 0).f1.data.toList = joinUpto L (0 + 1) by
              have hg : gap L 0 = false := by simp [gap]
              show joinUpto L 0 ++ (tk L 0).f1.data.toList = joinUpto L 0 ++ (if gap L 0 = true then [32] else []) ++ (tk L 0).f1.data.toList
              rw [hg]
              rfl)
            generalize tk L 0 = x at *
            have HUQ := Aside0.mk (fun n => show Lib.IsBuilderF 89 5 w.heap.size wo.heap.size (Lib.byteCells (joinUpto L 0)) ((wr.alloc (.cells #[.int .i64 x.f0, .string x.f1, .int .i64 x.f2] 49)).drewN n) from builder_below HU.out (pw_below_drewN (below_alloc (Below.refl _ _) _) n))
            have HBQ := Aside0.mk (fun n => show Below w.heap.size w ((wr.alloc (.cells #[.int .i64 x.f0, .string x.f1, .int .i64 x.f2] 49)).drewN n) from pw_below_drewN (below_alloc HB.out _) n)
            clear HU HB
            go_wp2_with fail
            go_quiet (fail)
            go_wp2_with (first | (go_at_call 52; go_loud ((with_reducible refine (ws_calls _ _ _ _ _ (HUQ.out _) (by have := HLEN.out; have := HSZ.out; omega) ((HBQ.out _).size)).mono ?_); rintro e w6 ⟨rfl, hI6, hb6, hk6⟩; rw [HJ1.out] at hI6; have HI6 := Aside0.mk hI6; have HB6 := Aside0.mk ((HBQ.out _).trans hb6); clear hI6 hb6 hk6)) | (go_at_call 53; go_loud ((with_reducible refine (blen_calls _ _ _ _ HI6.out).mono ?_); rintro e w7 ⟨rfl, rfl⟩)))
            go_roundw
            case rel => exact ⟨0 + 1, by first | rfl | go_num, ⟨hi⟩, HI6, HB6⟩
            case measure => simp [intOf]; omega
          | succ k =>
            obtain ⟨ad', e', p0, p1, p2⟩ := at_T49 HC.out (k : Int) (Int.natCast_nonneg _) (by omega)
            cases e'
            rw [show rd_T49 L (k : Int) = tk L k from rfl] at p0 p1 p2
            replace p0 := (HB.out.cell (World.block_lt_of_cell? w _ p0)).trans p0
            replace p1 := (HB.out.cell (World.block_lt_of_cell? w _ p1)).trans p1
            replace p2 := (HB.out.cell (World.block_lt_of_cell? w _ p2)).trans p2
            simp only [Int.toNat_natCast] at p0 p1 p2
            have HSY := Aside0.mk (HS.out k)
            have HJ1 := Aside0.mk (show joinUpto L (k + 1) ++ (if gap L (k + 1) = true then [32] else []) ++ (tk L (k + 1)).f1.data.toList = joinUpto L (k + 1 + 1) from rfl)
            have hgap : gap L (k + 1) = apartB (tk L k).f0 (tk L k).f1 (tk L (k + 1)).f0 (tk L (k + 1)).f1 := by simp [gap]
            have HP := Aside0.mk (fun W hE => apart_calls (tk L k).f0 (tk L k).f2 (tk L (k + 1)).f0 (tk L (k + 1)).f2 (tk L k).f1 (tk L (k + 1)).f1 (by have := HSY.out; omega) (by have := HSZ.out; omega) W hE)
            rw [← hgap] at HP
            clear hgap HSY
            generalize gap L (k + 1) = g at *
            generalize tk L (k + 1) = x at *
            generalize tk L k = y at *
            have hA := below_drew1 (below_alloc (Below.refl _ wr) (.cells #[.int .i64 x.f0, .string x.f1, .int .i64 x.f2] 49))
            have s0 := keepA hA p0
            have s1 := keepA hA p1
            have s2 := keepA hA p2
            have hbx : (wr.alloc (.cells #[.int .i64 x.f0, .string x.f1, .int .i64 x.f2] 49)).drew.heap[wr.heap.size]? = some (.cells #[.int .i64 x.f0, .string x.f1, .int .i64 x.f2] 49 (0, 0)) := World.alloc_heap_new _ _
            have t0 := (Lib.cell_of_heap hbx 0).trans (show _ = some (Value.int .i64 x.f0) from rfl)
            have t1 := (Lib.cell_of_heap hbx 1).trans (show _ = some (Value.string x.f1) from rfl)
            have t2 := (Lib.cell_of_heap hbx 2).trans (show _ = some (Value.int .i64 x.f2) from rfl)
            have HU2 := Aside0.mk (builder_below HU.out hA)
            have HB2 := Aside0.mk (below_step HB.out hA)
            have HBX := Aside0.mk hbx
            have hE2 : Env (wr.alloc (.cells #[.int .i64 x.f0, .string x.f1, .int .i64 x.f2] 49)).drew := HE.out.below HB2.out
            have hr := Below.refl (wr.alloc (.cells #[.int .i64 x.f0, .string x.f1, .int .i64 x.f2] 49)).drew.heap.size (wr.alloc (.cells #[.int .i64 x.f0, .string x.f1, .int .i64 x.f2] 49)).drew
            have hne : wo.heap.size ≠ wr.heap.size := fun e => by
              have := HU.out.elim (fun h => h.lt) (fun h => h.lt)
              omega
            have HNE := Aside0.mk hne
            have e0 : decide (0 < ((k : Int) + 1)) = true := decide_eq_true (by omega)
            have b1 : (k : Int) ≤ 80 := by have := HL.out; omega
            have b2 : (0 : Int) ≤ (k : Int) := Int.natCast_nonneg _
            have b3 : (k : Int) < (L.length : Int) := by omega
            have b5 : IntKind.i64.wrap (((k + 1 : Nat) : Int) - 1) = (k : Int) := by rw [show ((k + 1 : Nat) : Int) - 1 = k by omega]; exact IntWalk.i64_in _ (by omega)
            have b7 : IntKind.i64.wrap (k : Int) = (k : Int) := IntWalk.i64_in _ (by omega)
            have b8 : (0 ≤ (k : Int)) = True := eq_true b2
            have b9 : ((k : Int) < (L.length : Int)) = True := eq_true b3
            have b6 : ((k + 1 : Nat) : Int) - 1 = (k : Int) := by omega
            have e1 : decide (0 < ((k + 1 : Nat) : Int)) = true := decide_eq_true (by omega)
            have b4 : IntKind.i64.wrap ((k : Int) + 1 - 1) = (k : Int) := by rw [show (k : Int) + 1 - 1 = k by omega]; exact IntWalk.i64_in _ (by omega)
            clear hA hbx HU HB hne
            go_wp2_with fail
            go_region_held3 (fun W => W.cell? (ad.add (k * 3)) = some (.int .i64 y.f0) ∧ W.cell? ⟨(ad.add (k * 3)).block, (ad.add (k * 3)).off + 1, none⟩ = some (.string y.f1) ∧ W.cell? ⟨(ad.add (k * 3)).block, (ad.add (k * 3)).off + 2, none⟩ = some (.int .i64 y.f2) ∧
              W.cell? ⟨wr.heap.size, 0, none⟩ = some (.int .i64 x.f0) ∧ W.cell? ⟨wr.heap.size, 1, none⟩ = some (.string x.f1) ∧ W.cell? ⟨wr.heap.size, 2, none⟩ = some (.int .i64 x.f2) ∧ Env W ∧ Below (wr.alloc (.cells #[.int .i64 x.f0, .string x.f1, .int .i64 x.f2] 49)).drew.heap.size (wr.alloc (.cells #[.int .i64 x.f0, .string x.f1, .int .i64 x.f2] 49)).drew W)
              (first
                | exact ⟨s0, s1, s2, t0, t1, t2, hE2, hr⟩
                | (go_split_ands
                   have hBB := bJoin (w1 := (wr.alloc (.cells #[.int .i64 x.f0, .string x.f1, .int .i64 x.f2] 49)).drew) hbq (by assumption)
                   exact ⟨keepA hBB s0, keepA hBB s1, keepA hBB s2, keepA hBB t0, keepA hBB t1, keepA hBB t2, hE2.below hBB, hBB⟩)
                | go_keep)
              (first | (go_at_call 50; (with_reducible refine (HP.out _ (by go_split_ands; assumption)).mono ?_); rintro e wq ⟨rfl, hbq⟩))
            rename_i hS
            obtain ⟨-, -, -, -, -, -, -, hBq⟩ := hS
            have hbx3 := (hBq.block wr.heap.size (by simp)).trans HBX.out
            have HU3 := Aside0.mk (builder_below HU2.out hBq)
            have HB3 := Aside0.mk (below_step HB2.out hBq)
            have HBX3 := Aside0.mk hbx3
            have q1 := (Lib.cell_of_heap hbx3 1).trans (show _ = some (Value.string x.f1) from rfl)
            clear hBq hbx3 hr hE2 s0 s1 s2 t0 t1 t2 HU2 HB2 HBX p0 p1 p2
            cases g with
            | true =>
              have HJ2 := Aside0.mk (show (joinUpto L (k + 1) ++ [32]) ++ x.f1.data.toList = joinUpto L (k + 1 + 1) from HJ1.out)
              go_wp2_with (first | (go_at_call 51; go_loud ((with_reducible refine (wb_calls _ _ _ _ HU3.out (by have := HLEN.out; omega) HB3.out.size).mono ?_); rintro e w5 ⟨rfl, hI5, hb5, hk5⟩; have hbx5 := hk5 _ _ HBX3.out (by intro e; exact HNE.out (Option.some.inj e).symm) (by intro c fz e; cases e); have q5 := (Lib.cell_of_heap hbx5 1).trans (show _ = some (Value.string x.f1) from rfl); have HI5 := Aside0.mk hI5; have HB5 := Aside0.mk (HB3.out.trans hb5); clear hI5 hb5 hk5 hbx5)) | (go_at_call 52; go_loud ((with_reducible refine (ws_calls _ _ _ _ _ HI5.out (by have := HLEN.out; have := HSZ.out; simp; omega) HB5.out.size).mono ?_); rintro e w6 ⟨rfl, hI6, hb6, hk6⟩; rw [HJ2.out] at hI6; have HI6 := Aside0.mk hI6; have HB6 := Aside0.mk (HB5.out.trans hb6); clear hI6 hb6 hk6)) | (go_at_call 53; go_loud ((with_reducible refine (blen_calls _ _ _ _ HI6.out).mono ?_); rintro e w7 ⟨rfl, rfl⟩)))
              go_roundw
              case rel => exact ⟨k + 1 + 1, by first | rfl | go_num, ⟨hi⟩, HI6, HB6⟩
              case measure => simp [intOf]; omega
            | false =>
              have HJ2 := Aside0.mk (show joinUpto L (k + 1) ++ x.f1.data.toList = joinUpto L (k + 1 + 1) by have := HJ1.out; simpa using this)
              go_wp2_with (first | (go_at_call 52; go_loud ((with_reducible refine (ws_calls _ _ _ _ _ HU3.out (by have := HLEN.out; have := HSZ.out; omega) HB3.out.size).mono ?_); rintro e w6 ⟨rfl, hI6, hb6, hk6⟩; rw [HJ2.out] at hI6; have HI6 := Aside0.mk hI6; have HB6 := Aside0.mk (HB3.out.trans hb6); clear hI6 hb6 hk6)) | (go_at_call 53; go_loud ((with_reducible refine (blen_calls _ _ _ _ HI6.out).mono ?_); rintro e w7 ⟨rfl, rfl⟩)))
              go_roundw
              case rel => exact ⟨k + 1 + 1, by first | rfl | go_num, ⟨hi⟩, HI6, HB6⟩
              case measure => simp [intOf]; omega
        · have dj : decide ((i : Int) < (L.length : Int)) = false := decide_eq_false (by omega)
          have dj' : decide (i < L.length) = false := decide_eq_false hi
          have hiL : i = L.length := by have := HI.out; omega
          subst hiL
          go_wp2_with (go_at_call 54; go_loud ((with_reducible refine (Tryd.Builder_String_any_k _ _ _ _ HU.out HB.out.size).mono ?_); rintro e w9 ⟨rfl, -, hb9, -⟩))
          try rw [Exit.noGoto_ret]
          go_ret2
          refine ⟨?_, HB.out.trans hb9⟩
          rw [joinB, if_pos HG.out]
          rfl
end Go.Proofs.YtmnnhbikdgpedaaDoor.Lx
