/- lex.mapped at strings and lex.Offset have their contracts. -/
import Derived.Test.YtmnnhbikdgpedaaDoorLpC
import Derived.Test.YtmnnhbikdgpedaaDoorLxH
namespace Go.Proofs.YtmnnhbikdgpedaaDoor.Lx
open Go.RowKit Go.Proofs.YtmnnhbikdgpedaaDoorW.PrintWords Go.Proofs.YtmnnhbikdgpedaaDoorW.PrintLast Go.Proofs.YtmnnhbikdgpedaaDoorW.PrintMore
open Go.Proofs.YtmnnhbikdgpedaaDoor.PLexTokens
set_option linter.unusedVariables false
set_option linter.unusedSimpArgs false

theorem later_run (s : ByteArray) (i : Nat) : later s i = if runEnd notLf s i < s.size then (runEnd notLf s i + 1) :: later s (runEnd notLf s i + 1) else [] := by
  fun_induction runEnd notLf s i with
  | case1 i h hp ih => rw [later_no h (by rw [notLf] at hp; simpa using hp)]; exact ih
  | case2 i h hp => rw [if_pos h, later_lf h (by rw [notLf] at hp; simpa using hp)]
  | case3 i h => rw [if_neg h, later_out h]
theorem runEnd_all (p : Int → Bool) (s : ByteArray) (i : Nat) : ∀ x, i ≤ x → x < runEnd p s i → p (bt s (x : Nat)) = true := by
  fun_induction runEnd p s i with
  | case1 i h hp ih =>
    intro x h1 h2
    rcases Nat.eq_or_lt_of_le h1 with h3 | h3
    · rw [← h3]; exact hp
    · exact ih x h3 h2
  | case2 i h hp => intro x h1 h2; omega
  | case3 i h => intro x h1 h2; omega

def lf : ByteArray := ⟨#[10]⟩
theorem indexB_lf (s : ByteArray) (i : Nat) (hi : i ≤ s.size) : Lib.indexB (rest s i) lf = if runEnd notLf s i < s.size then ((runEnd notLf s i - i : Nat) : Int) else -1 := by
  have hocc : ∀ j, Lib.occAt (rest s i).data.toList [10] j = hasAt s (i + j) lf := by
    intro j
    rw [Lib.occAt, hasAt, Lib.hasPrefix, rest, Lib.extract_data, Lib.extract_data, List.drop_take, List.drop_drop]
    show List.isPrefixOf [10] _ = List.isPrefixOf [10] _
    congr 2
    omega
  have hge := runEnd_ge notLf s i
  have hno : ∀ x, i ≤ x → x < runEnd notLf s i → hasAt s x lf = false := by
    intro x h1 h2
    rw [Bool.eq_false_iff]
    intro h3
    have h4 := (hasAt_one s x 10).mp h3
    have h5 := runEnd_all notLf s i x h1 h2
    rw [notLf, h4.2] at h5
    exact absurd h5 (by decide)
  have hle := runEnd_le notLf s i hi
  have hat : runEnd notLf s i < s.size → hasAt s (runEnd notLf s i) lf = true := fun h => (hasAt_one s _ 10).mpr ⟨h, by have := runEnd_not i h; rw [notLf] at this; simpa using this⟩
  show Lib.index (rest s i).data.toList [10] = _
  rcases Lib.index_spec (rest s i).data.toList [10] with ⟨h1, h2⟩ | ⟨c, h1, h2, h3, h4⟩
  · rw [h1, if_neg]
    intro h5
    have h6 := h2 (runEnd notLf s i - i) (by rw [← Lib.size_eq, rest_size]; omega)
    rw [hocc, show i + (runEnd notLf s i - i) = runEnd notLf s i by omega, hat h5] at h6
    cases h6
  · rw [hocc] at h3
    have h5 := (hasAt_one s (i + c) 10).mp h3
    have h6 : runEnd notLf s i ≤ i + c := by
      rcases Nat.lt_or_ge (i + c) (runEnd notLf s i) with h | h
      · rw [hno (i + c) (by omega) h] at h3; cases h3
      · exact h
    have h7 : runEnd notLf s i = i + c := by
      rcases Nat.eq_or_lt_of_le h6 with h | h
      · exact h
      · have h8 := h4 (runEnd notLf s i - i) (by omega)
        rw [hocc, show i + (runEnd notLf s i - i) = runEnd notLf s i by omega, hat (by omega)] at h8
        cases h8
    rw [h1, if_pos (by omega)]
    omega

def startF (s : ByteArray) (i j : Nat) : Nat := (i :: later s i).getD j 0
def endF (s : ByteArray) (i j : Nat) : Nat := if j < (later s i).length then (later s i).getD j 0 - 1 else s.size

theorem pieces (s : ByteArray) : ∀ (d i : Nat), s.size - i = d → i ≤ s.size →
    Lib.countB (rest s i) lf = (later s i).length ∧ (Lib.splitB lf 0 (later s i).length (rest s i)).length = (later s i).length + 1 ∧ ∀ j, j ≤ (later s i).length → ((Lib.splitB lf 0 (later s i).length (rest s i)).getD j ByteArray.empty).size = endF s i j - startF s i j := by
  intro d
  induction d using Nat.strongRecOn with
  | _ d ih =>
    intro i hd hi
    have hx := indexB_lf s i hi
    have hl := later_run s i
    have hge := runEnd_ge notLf s i
    have hsz : lf.size = 1 := rfl
    by_cases h : runEnd notLf s i < s.size
    · rw [if_pos h] at hx hl
      generalize runEnd notLf s i = e at *
      obtain ⟨i1, i2, i3⟩ := ih (s.size - (e + 1)) (by omega) (e + 1) rfl (by omega)
      have hr : (rest s i).extract (e - i + lf.size) (rest s i).size = rest s (e + 1) := by rw [rest_rest, hsz]; congr 1; omega
      have hc := Lib.countB_hit (rest s i) lf (e - i) (by decide) hx
      rw [hr, i1] at hc
      rw [hl]
      refine ⟨by rw [hc, List.length_cons]; omega, ?_, ?_⟩
      · rw [List.length_cons, Lib.splitB_hit lf 0 _ _ _ hx, hr, List.length_cons, i2]
      · intro j hj
        rw [List.length_cons, Lib.splitB_hit lf 0 _ _ _ hx, hr, endF, startF, hl]
        cases j with
        | zero =>
          simp only [List.getD_cons_zero, List.length_cons]
          rw [if_pos (by omega)]
          simp [rest_size]
          omega
        | succ t =>
          simp only [List.getD_cons_succ, List.length_cons]
          rw [i3 t (by simp only [List.length_cons] at hj; omega), endF, startF]
          by_cases h5 : t < (later s (e + 1)).length
          · rw [if_pos h5, if_pos (by omega)]
          · rw [if_neg h5, if_neg (by omega)]
    · rw [if_neg h] at hx hl
      rw [hl]
      refine ⟨by rw [Lib.countB_miss _ _ hx]; rfl, by rw [Lib.splitB_miss _ _ _ _ hx]; rfl, fun j hj => ?_⟩
      obtain rfl : j = 0 := by simpa using hj
      rw [Lib.splitB_miss _ _ _ _ hx, endF, startF, hl]
      simp [rest_size]

/-- The lines of a text. -/
def linesB (s : ByteArray) : List ByteArray := Lib.splitB lf 0 (Lib.countB s lf) s
theorem lines_spec (s : ByteArray) : (linesB s).length = (later s 0).length + 1 ∧ Lib.countB s lf = (later s 0).length ∧ ∀ j, j ≤ (later s 0).length → ((linesB s).getD j ByteArray.empty).size = endAt s j - startAt s j := by
  have h := pieces s s.size 0 (by omega) (by omega)
  rw [rest_zero] at h
  rw [linesB, h.1]
  exact ⟨h.2.1, rfl, h.2.2⟩

theorem later_sorted (s : ByteArray) (i : Nat) : ∀ u, u + 1 < (later s i).length → (later s i).getD u 0 < (later s i).getD (u + 1) 0 := by
  fun_induction later s i with
  | case1 i h h2 ih =>
    intro u hu
    simp only [List.length_cons] at hu
    cases u with
    | zero =>
      simp only [List.getD_cons_zero, List.getD_cons_succ]
      exact (later_get s (i + 1) 0 (by omega)).1
    | succ t =>
      simp only [List.getD_cons_succ]
      exact ih t (by omega)
  | case2 i h h2 ih => exact ih
  | case3 i h => intro u hu; simp at hu

theorem start_sum (s : ByteArray) : ∀ j, j ≤ (later s 0).length → ((((linesB s).take j).map fun x => ((x.size + 1 : Nat) : Int)).foldl (· + ·) 0 : Int) = (startAt s j : Int) := by
  intro j
  induction j with
  | zero => intro _; rfl
  | succ t ih =>
    intro h
    have hs := lines_spec s
    have hl : t < (linesB s).length := by omega
    rw [List.take_succ_eq_append_getElem hl, List.map_append, List.foldl_append, ih (by omega)]
    have h1 := hs.2.2 t (by omega)
    rw [List.getD_eq_getElem?_getD, List.getElem?_eq_getElem hl, Option.getD_some] at h1
    have h2 := later_get s 0 t (by omega)
    have h3 : endAt s t = (later s 0).getD t 0 - 1 := by rw [endAt, if_pos (by omega)]
    have h4 : startAt s t ≤ (later s 0).getD t 0 - 1 := by
      cases t with
      | zero => rw [startAt_zero]; omega
      | succ u =>
        rw [startAt_succ]
        have := later_sorted s 0 u (by omega)
        omega
    simp only [List.map_cons, List.map_nil, List.foldl_cons, List.foldl_nil]
    rw [h1, h3, startAt_succ]
    omega
theorem width_calls (x : ByteArray) (hx : x.size ≤ 70000) (w : World) : Calls Tryd.prog 59 #[.string x] w fun e w' => e = .returned (.int .i64 ((x.size + 1 : Nat) : Int)) ∧ w = w' := by
  go_enter Tryd.func59, Tryd.ntmps59
  go_wp2
  go_ret
  exact ⟨by first | rfl | simp, rfl⟩

def widths (L : List ByteArray) : List Int := L.map fun x => ((x.size + 1 : Nat) : Int)

set_option maxHeartbeats 4000000 in
set_option maxRecDepth 100000 in
theorem mapped_calls (L : List ByteArray) (b c : Nat) (hL : L.length ≤ 70000) (w : World) (hc : ∀ j, j < L.length → w.cell? ⟨b, j, none⟩ = some (.string (L.getD j ByteArray.empty))) (hsz : ∀ x, x ∈ L → x.size ≤ 70000) :
    Calls Tryd.prog 58 #[.slice (some ⟨b, 0, none⟩) L.length c, .func (.func 59) #[] #[]] w fun e w' => ∃ v, e = .returned v ∧ Kd.R (Kd.int .i64) 3 w' w.heap.size (fun _ => True) v (widths L) ∧ Below w.heap.size w w' := by
  have HB := Aside0.mk (Below.refl w.heap.size w)
  have HC := Aside0.mk hc
  have HS := Aside0.mk hsz
  have HL := Aside0.mk hL
  clear hc hsz hL
  go_enter Tryd.func58, Tryd.ntmps58
  go_wp2
  go_loopg [5, 10] L.length (fun g v5 v10 wr => ∃ n : Nat, v10 = .int .i64 n ∧ Aside0 (n + g = L.length) ∧ Aside0 (Kd.R (Kd.int .i64) 3 wr w.heap.size (fun _ => True) v5 (widths (L.take n))) ∧ Aside0 (Below w.heap.size w wr))
  case atStart => exact ⟨0, rfl, ⟨by omega⟩, ⟨Kd.R_nil _ _ _ _ _⟩, ⟨HB.out⟩⟩
  case round =>
    clear HB
    obtain ⟨n, rfl, HN, HO, HB⟩ := hrel
    by_cases h : n < L.length
    · have hd : decide ((n : Int) < (L.length : Int)) = true := by simp; omega
      have hd2 : decide (n < L.length) = true := by simp; omega
      have hi : ((n : Int) < (L.length : Int)) = True := eq_true (by omega)
      have cm : wr.cell? ⟨b, n, none⟩ = some (.string (L.getD n ByteArray.empty)) := (HB.out.cell (World.block_lt_of_cell? w _ (HC.out n h))).trans (HC.out n h)
      have hmem : L.getD n ByteArray.empty ∈ L := by rw [List.getD_eq_getElem?_getD, List.getElem?_eq_getElem h, Option.getD_some]; exact List.getElem_mem _
      have hx := HS.out _ hmem
      have htk : widths (L.take (n + 1)) = widths (L.take n) ++ [(((L.getD n ByteArray.empty).size + 1 : Nat) : Int)] := by
        rw [List.take_succ_eq_append_getElem h, widths, widths, List.map_append, List.getD_eq_getElem?_getD, List.getElem?_eq_getElem h]; rfl
      have hlen : (widths (L.take n)).length ≤ 70000 := by rw [widths, List.length_map, List.length_take]; have := HL.out; omega
      have HX := Aside0.mk hx
      have HT := Aside0.mk htk
      have HLn := Aside0.mk hlen
      have HN2 := Aside0.mk h
      generalize L.getD n ByteArray.empty = x at *
      generalize widths (L.take n) = xs at *
      obtain ⟨y, hy⟩ : ∃ y : Int, y = ((x.size + 1 : Nat) : Int) := ⟨_, rfl⟩
      have HY := Aside0.mk hy
      have hcall := Aside0.mk (show ∀ w, Calls Tryd.prog 59 #[.string x] w fun e w' => e = .returned (.int .i64 y) ∧ w = w' from fun w => by rw [hy]; exact width_calls x hx w)
      clear h hmem hx htk hlen hy
      go_wp2_with (first | (go_at_call 59; go_loud ((with_reducible refine (hcall.out _).mono ?_); rintro e w' ⟨rfl, rfl⟩)) | ((with_reducible refine gate_builtin (b := .append) (xs := #[.tmp 14, .tmp 18]) rfl ?_); at_builtin; go_loud (refine Kd.R_append (Kd.int .i64) (w0 := w) w.heap.size rfl (.tmp 14) (.tmp 18) 83 3 (.int .i64 0) 8 rfl Tryd.underlying83 info3 rfl (by decide) (by omega) u5 xs y [.int .i64 y] (fun _ => True) (fun _ => False) rfl rfl ?aP (fun _ hk => hk.elim) ?aF ?aO ?aB ?aS ?aL ?_; (case aP => exact rfl); (case aB => exact (by repeat (first | (with_reducible first | exact HB.out | apply below_alloc | apply pw_below_drewN | apply below_drew1) | exact HB.out))); (case aF => exact (fun _ _ => trivial)); (case aO => exact (by (with_reducible repeat (first | apply Kd.R_alloc | apply Kd.R_drewN | apply Kd.R_drew)); exact HO.out)); (case aS => exact (below_size (by repeat (first | (with_reducible first | exact HB.out | apply below_alloc | apply pw_below_drewN | apply below_drew1) | exact HB.out)))); (case aL => have := HLn.out; omega); intro v1 w1 ho hb hg hat; have HO1 := Aside0.mk ho; have HB1 := Aside0.mk hb; clear ho hb hg hat)))
      go_roundg (L.length - n - 1)
      case measure => have := HN.out; have := HN2.out; omega
      case rel => exact ⟨n + 1, congrArg (Value.int .i64) (wrap_one n (by have := HN2.out; have := HL.out; omega)), ⟨by have := HN2.out; omega⟩, ⟨by rw [HT.out, ← HY.out]; exact HO1.out⟩, HB1⟩
    · have hd : decide ((n : Int) < (L.length : Int)) = false := by simp; omega
      have hd2 : decide (n < L.length) = false := by simp; omega
      have hn : L.take n = L := List.take_of_length_le (by omega)
      rw [hn] at HO
      clear h hn
      go_wp2
      go_ret
      exact ⟨_, rfl, HO.out, HB.out⟩
end Go.Proofs.YtmnnhbikdgpedaaDoor.Lx
