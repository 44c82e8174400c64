/- lex.Offset has its contract. -/
import Derived.Test.YtmnnhbikdgpedaaDoorLpD
namespace Go.Proofs.YtmnnhbikdgpedaaDoor.Lx
open Go.RowKit Go.Proofs.YtmnnhbikdgpedaaDoorW.PrintWords Go.Proofs.YtmnnhbikdgpedaaDoorW.PrintLast Go.Proofs.YtmnnhbikdgpedaaDoorW.PrintMore
open Go.Proofs.YtmnnhbikdgpedaaDoor.PLexTokens
set_option linter.unusedVariables false
set_option linter.unusedSimpArgs false

theorem lines_calls (s : ByteArray) (hs : s.size ≤ 70000) (w : World) (hE : Env w) :
    Calls Tryd.prog 57 #[.string s, .string ⟨#[10]⟩] w fun e w' => e = .returned (.slice (some ⟨w.heap.size, 0, none⟩) (linesB s).length (linesB s).length) ∧ (∀ j, j < (linesB s).length → w'.cell? ⟨w.heap.size, j, none⟩ = some (.string ((linesB s).getD j ByteArray.empty))) ∧ Below w.heap.size w w' ∧ w.heap.size < w'.heap.size := by
  obtain ⟨m, hm⟩ := hE.mln
  obtain ⟨h1, h2, h3⟩ := lines_spec s
  refine (Tryd.strings_Split s lf m w (by omega) hm (by decide)).mono ?_
  rintro e w' ⟨rfl, rfl⟩
  refine ⟨by rw [h1, h2], fun j hj => ?_, below_alloc (Below.refl _ _) _, by simp⟩
  rw [World.cell?_alloc_new]
  show (List.map Value.string (linesB s)).toArray[j]? = _
  rw [List.getElem?_toArray, List.getElem?_map, List.getD_eq_getElem?_getD, List.getElem?_eq_getElem hj]; rfl

theorem mapped_part (L : List ByteArray) (n b c : Nat) (hn : n ≤ L.length) (hL : L.length ≤ 70000) (w : World) (hc : ∀ j, j < L.length → w.cell? ⟨b, j, none⟩ = some (.string (L.getD j ByteArray.empty))) (hsz : ∀ x, x ∈ L → x.size ≤ 70000) :
    Calls Tryd.prog 58 #[.slice (some ⟨b, 0, none⟩) n c, .func (.func 59) #[] #[]] w fun e w' => ∃ v, e = .returned v ∧ Kd.R (Kd.int .i64) 3 w' w.heap.size (fun _ => True) v (widths (L.take n)) ∧ Below w.heap.size w w' := by
  have hl : (L.take n).length = n := by rw [List.length_take]; omega
  have := mapped_calls (L.take n) b c (by omega) w (fun j hj => by
    rw [hl] at hj
    rw [hc j (by omega), List.getD_eq_getElem?_getD, List.getD_eq_getElem?_getD, List.getElem?_take_of_lt hj]) (fun x hx => hsz x (List.mem_of_mem_take hx))
  rw [hl] at this
  exact this

theorem width_at (s : ByteArray) (j n : Nat) (hj : j ≤ (later s 0).length) (hn : n < j) : rd (widths ((linesB s).take j)) (n : Int) = (startAt s (n + 1) : Int) - (startAt s n : Int) ∧ startAt s n ≤ startAt s (n + 1) ∧ startAt s (n + 1) ≤ s.size := by
  have hs := lines_spec s
  have h1 := hs.2.2 n (by omega)
  have h2 := later_get s 0 n (by omega)
  have h3 : endAt s n = (later s 0).getD n 0 - 1 := by rw [endAt, if_pos (by omega)]
  have h4 : startAt s n ≤ (later s 0).getD n 0 - 1 := by
    cases n with
    | zero => rw [startAt_zero]; omega
    | succ u => rw [startAt_succ]; have := later_sorted s 0 u (by omega); omega
  rw [startAt_succ]
  refine ⟨?_, by omega, by omega⟩
  have hl : n < (linesB s).length := by omega
  rw [List.getD_eq_getElem?_getD, List.getElem?_eq_getElem hl, Option.getD_some] at h1
  rw [rd, Int.toNat_natCast, widths, List.getD_eq_getElem?_getD, List.getElem?_map, List.getElem?_take_of_lt hn, List.getElem?_eq_getElem hl]
  show (((linesB s)[n].size + 1 : Nat) : Int) = _
  rw [h1]
  omega

set_option maxHeartbeats 8000000 in
set_option maxRecDepth 100000 in
theorem offset_calls (s : ByteArray) (hs : s.size ≤ 70000) (line col : Int) (hl1 : -9223372036854775808 ≤ line) (hl2 : line < 9223372036854775808) (hc1 : -9223372036854775808 ≤ col) (hc2 : col < 9223372036854775808) (w : World) (hE : Env w) :
    Calls Tryd.prog 32 #[.string s, .int .i64 line, .int .i64 col] w fun e w' => e = .returned (.tuple #[.int .i64 (offB s line col).1, .int .i64 (offB s line col).2]) ∧ Below w.heap.size w w' := by
  have HE := Aside0.mk hE
  have HB := Aside0.mk (Below.refl w.heap.size w)
  by_cases hsz : 65536 < s.size
  · have hb : decide (65536 < (s.size : Int)) = true := by simp; omega
    have hr : offB s line col = (0, 23) := by rw [offB, if_pos hsz]
    rw [hr]
    clear hsz hr
    go_enter Tryd.func32, Tryd.ntmps32
    go_wp2
    go_returns
    exact ⟨rfl, by repeat (first | exact Below.refl _ _ | apply below_alloc | apply pw_below_drewN)⟩
  have hb : decide (65536 < (s.size : Int)) = false := by simp; omega
  have hS := Aside0.mk (fun w hE => lines_calls s hs w hE)
  obtain ⟨hn, hcn, hls⟩ := lines_spec s
  have hll := later_length s 0
  by_cases c1 : line < 1 ∨ ((later s 0).length : Int) + 1 < line ∨ col < 1
  · have hr : offB s line col = (0, 3) := by rw [offB, if_neg hsz, if_pos (by rcases c1 with h | h | h; exact .inl h; exact .inr (.inl h); exact .inr (.inr (.inl h)))]
    rw [hr]
    have hcs : (decide (line < 1) = true) ∨ (decide (line < 1) = false ∧ decide (((linesB s).length : Int) < line) = true) ∨ (decide (line < 1) = false ∧ decide (((linesB s).length : Int) < line) = false ∧ decide (col < 1) = true) := by
      rw [hn]
      by_cases h1 : line < 1
      · exact .inl (by simpa using h1)
      · by_cases h2 : ((later s 0).length : Int) + 1 < line
        · exact .inr (.inl ⟨by simp; omega, by simp; omega⟩)
        · exact .inr (.inr ⟨by simp; omega, by simp; omega, by rcases c1 with h | h | h; exact absurd h h1; exact absurd h h2; simpa using h⟩)
    generalize linesB s = L at *
    clear hsz hr c1 hn hcn hls hll
    rcases hcs with d1 | ⟨d1, d2⟩ | ⟨d1, d2, d3⟩
    all_goals
      go_enter Tryd.func32, Tryd.ntmps32
      go_wp2_with (first | (go_at_call 57; go_loud ((with_reducible refine (hS.out _ (HE.out.below (by repeat (first | (with_reducible exact HB.out) | (with_reducible exact Below.refl _ _) | (with_reducible apply below_alloc) | (with_reducible apply pw_below_drewN) | (with_reducible apply below_drew1) | refine below_set ?_ (by omega))))).mono ?_); rintro e w1 ⟨rfl, hc1, hb1, hz1⟩; have HB1 := Aside0.mk hb1; have HC1 := Aside0.mk hc1; clear hb1 hc1)))
      go_returns
      exact ⟨rfl, HB1.out⟩
  obtain ⟨j, hj⟩ : ∃ j : Nat, line = ((j + 1 : Nat) : Int) := ⟨(line - 1).toNat, by omega⟩
  have d1 : decide (line < 1) = false := by simp; omega
  have d2 : decide (((linesB s).length : Int) < line) = false := by rw [hn]; simp; omega
  have d3 : decide (col < 1) = false := by simp; omega
  have hw : wrap64 (line - 1) = (j : Int) := by rw [wrap_id _ (by omega) (by omega)]; omega
  have hjl : j ≤ (later s 0).length := by omega
  have hx := hls j hjl
  have hmem : (linesB s).getD j ByteArray.empty ∈ linesB s := by rw [List.getD_eq_getElem?_getD, List.getElem?_eq_getElem (by omega), Option.getD_some]; exact List.getElem_mem _
  have hjn : (line - 1).toNat = j := by omega
  have hso : startAt s j ≤ endAt s j ∧ endAt s j ≤ s.size := by
    constructor
    · rw [endAt]
      split
      · next h =>
        have h2 := later_get s 0 j h
        cases j with
        | zero => rw [startAt_zero]; omega
        | succ u => rw [startAt_succ]; have := later_sorted s 0 u (by omega); omega
      · cases j with
        | zero => rw [startAt_zero]; omega
        | succ u => rw [startAt_succ]; exact (later_get s 0 u (by omega)).2
    · rw [endAt]
      split
      · next h => have := (later_get s 0 j h).2; omega
      · omega
  obtain ⟨z, hz⟩ : ∃ z : Int, wrap64 ((((linesB s).getD j ByteArray.empty).size : Int) + 1) = z := ⟨_, rfl⟩
  have hz2 : z = (endAt s j : Int) - (startAt s j : Int) + 1 := by rw [← hz, hx, wrap_id _ (by omega) (by omega)]; omega
  have hJ1 : ((j : Int) < ((linesB s).length : Int)) = True := eq_true (by omega)
  have hJ2 : ((j : Int) ≤ ((linesB s).length : Int)) = True := eq_true (by omega)
  have hJ3 : (j < (linesB s).length) = True := eq_true (by omega)
  have hJ4 : (j ≤ (linesB s).length) = True := eq_true (by omega)
  have hlsz : ∀ x, x ∈ linesB s → x.size ≤ 70000 := by
    intro x hx
    obtain ⟨t, ht, rfl⟩ := List.getElem_of_mem hx
    have h1 := hls t (by omega)
    rw [List.getD_eq_getElem?_getD, List.getElem?_eq_getElem ht, Option.getD_some] at h1
    have h3 : endAt s t ≤ s.size := by
      rw [endAt]
      split
      · next h => have := (later_get s 0 t h).2; omega
      · omega
    omega
  have hM := Aside0.mk (fun (w : World) (b c : Nat) hc => mapped_part (linesB s) j b c (by omega) (by omega) w hc hlsz)
  have hlen : (linesB s).length ≤ 70000 := by omega
  have HJ := Aside0.mk (show j < (linesB s).length by omega)
  by_cases c2 : z < col
  · have hr : offB s line col = (0, 3) := by rw [offB, if_neg hsz, hjn, if_pos (.inr (.inr (.inr (by omega))))]
    rw [hr]
    have d4 : decide (z < col) = true := by simpa using c2
    clear hM hlsz hmem hx hr hz2 hso c2 hjn c1 hsz hcn hls hll hn hjl hlen hj
    obtain ⟨x, hxe⟩ : ∃ x, x = (linesB s).getD j ByteArray.empty := ⟨_, rfl⟩
    rw [← hxe] at hz
    have HX := Aside0.mk hxe
    clear hxe
    generalize linesB s = L at *
    go_enter Tryd.func32, Tryd.ntmps32
    go_wp2_with (first | (go_at_call 57; go_loud ((with_reducible refine (hS.out _ (HE.out.below (by repeat (first | (with_reducible exact HB.out) | (with_reducible exact Below.refl _ _) | (with_reducible apply below_alloc) | (with_reducible apply pw_below_drewN) | (with_reducible apply below_drew1) | refine below_set ?_ (by omega))))).mono ?_); rintro e w1 ⟨rfl, hc1, hb1, hz1⟩; have cm : w1.cell? ⟨w.heap.size, j, none⟩ = some (.string x) := (hc1 j HJ.out).trans (by rw [← HX.out]); have HB1 := Aside0.mk hb1; have HC1 := Aside0.mk hc1; clear hb1 hc1)))
    go_returns
    exact ⟨rfl, HB1.out⟩
  · have hr : offB s line col = ((startAt s j : Int) + col - 1, 0) := by rw [offB, if_neg hsz, hjn, if_neg (by omega)]
    rw [hr]
    have d4 : decide (z < col) = false := by simpa using c2
    obtain ⟨y, hy⟩ : ∃ y : Int, wrap64 (col - 1) = y := ⟨_, rfl⟩
    have hy2 : y = col - 1 := by rw [← hy, wrap_id _ (by omega) (by omega)]
    have HY := Aside0.mk hy2
    have HY3 := Aside0.mk (show 0 ≤ y ∧ y ≤ 70000 by omega)
    have HWD := Aside0.mk (fun n hn => width_at s j n hjl hn)
    have hwl : (widths ((linesB s).take j)).length = j := by rw [widths, List.length_map, List.length_take]; omega
    obtain ⟨x, hxe⟩ : ∃ x, x = (linesB s).getD j ByteArray.empty := ⟨_, rfl⟩
    rw [← hxe] at hz
    have HX := Aside0.mk hxe
    have HS0 := Aside0.mk (show s.size ≤ 70000 from hs)
    have HJB := Aside0.mk (show j ≤ 70000 by omega)
    clear hxe hlsz hmem hx hr hz2 hso c2 hjn c1 hsz hcn hls hll hn hjl hlen hj hy2
    generalize widths ((linesB s).take j) = W at *
    generalize linesB s = L at *
    have HWL := Aside0.mk hwl
    clear hwl
    have mixed : Tryd.prog.follows .mixedOrders = true := by kernel_rfl
    go_enter Tryd.func32, Tryd.ntmps32
    go_wp2_with (first | (go_at_call 57; go_loud ((with_reducible refine (hS.out _ (HE.out.below (by repeat (first | (with_reducible exact HB.out) | (with_reducible exact Below.refl _ _) | (with_reducible apply below_alloc) | (with_reducible apply pw_below_drewN) | (with_reducible apply below_drew1) | refine below_set ?_ (by omega))))).mono ?_); rintro e w1 ⟨rfl, hc1, hb1, hz1⟩; have cm : w1.cell? ⟨w.heap.size, j, none⟩ = some (.string x) := (hc1 j HJ.out).trans (by rw [← HX.out]); have HB1 := Aside0.mk hb1; have HC1 := Aside0.mk hc1; clear hb1 hc1)) | (go_at_call 58; go_loud ((with_reducible refine (hM.out _ _ _ HC1.out).mono ?_); rintro e w2 ⟨v2, rfl, hR2, hb2⟩; obtain ⟨A2, k2, hv2, hl2, hC2⟩ := Kd.R_reads hR2; rw [HWL.out] at hv2 hl2 hC2; subst hv2; have HB2 := Aside0.mk (HB1.out.trans (hb2.mono HB1.out.size)); have HR2 := Aside0.mk hC2; clear hb2 hR2 hC2)))
    go_loopg [9, 48] j (fun g v9 v48 wr => ∃ n : Nat, v48 = .int .i64 n ∧ v9 = .int .i64 (y + (startAt s n : Int)) ∧ Aside0 (n + g = j) ∧ Aside0 (∃ q, wr = w2.drewN q))
    case atStart => exact ⟨0, rfl, by rw [startAt_zero]; simp, ⟨by omega⟩, ⟨0, rfl⟩⟩
    case round =>
      obtain ⟨n, rfl, rfl, HN, ⟨q, rfl⟩⟩ := hrel
      by_cases h : n < j
      · have e1 : decide ((n : Int) < (j : Int)) = true := by simp; omega
        have e2 : decide (n < j) = true := by simp; omega
        have e3 : ((n : Int) < (j : Int)) = True := eq_true (by omega)
        have e4 : (0 ≤ (n : Int)) = True := eq_true (by omega)
        obtain ⟨ad, had, hcell⟩ := Kd.at_int HR2.out (n : Int) (by omega) (by omega)
        cases had
        obtain ⟨k1, k2', k3⟩ := HWD.out n h
        rw [k1, Int.toNat_natCast] at hcell
        obtain ⟨u, hu⟩ : ∃ u : Int, u = (startAt s (n + 1) : Int) - (startAt s n : Int) := ⟨_, rfl⟩
        rw [← hu] at hcell
        have hsum : wrap64 (y + (startAt s n : Int) + u) = y + (startAt s (n + 1) : Int) := by
          have := HY3.out
          have := HS0.out
          rw [wrap_id _ (by omega) (by omega)]; omega
        have HSUM := Aside0.mk hsum
        have H := Aside0.mk h
        clear h hsum hu k1 k2' k3
        go_wp2
        go_roundg (j - n - 1)
        case measure => have := HN.out; have := H.out; omega
        case rel => exact ⟨n + 1, congrArg (Value.int .i64) (wrap_one n (by have := H.out; have := HJB.out; omega)), by first | exact congrArg (Value.int .i64) HSUM.out | (rw [← HSUM.out]; simp), ⟨by have := H.out; omega⟩, ⟨q, rfl⟩⟩
      · have e1 : decide ((n : Int) < (j : Int)) = false := by simp; omega
        have e2 : decide (n < j) = false := by simp; omega
        obtain rfl : n = j := by have := HN.out; omega
        have HE2 := Aside0.mk (show y + (startAt s n : Int) = (startAt s n : Int) + col - 1 by rw [HY.out]; omega)
        go_wp2
        go_returns
        exact ⟨by rw [HE2.out]; rfl, pw_below_drewN HB2.out q⟩
end Go.Proofs.YtmnnhbikdgpedaaDoor.Lx
