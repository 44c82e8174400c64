/- Contract of the reader of signs of package lex. -/
import Derived.Test.YtmnnhbikdgpedaaDoorLxE
namespace Go.Proofs.YtmnnhbikdgpedaaDoor.Lx
open Go.RowKit Go.Proofs.YtmnnhbikdgpedaaDoorW.PrintWords Go.Proofs.YtmnnhbikdgpedaaDoorW.PrintLast Go.Proofs.YtmnnhbikdgpedaaDoorW.PrintMore
set_option linter.unusedVariables false
set_option linter.unusedSimpArgs false

/-- The best sign among the first n: the string itself. -/
def bestSign (s : ByteArray) (i : Nat) : Nat → ByteArray
  | 0 => if bt s i = 95 then ⟨#[95]⟩ else ⟨#[]⟩
  | n + 1 => if hasAt s i (sg n) && decide ((bestSign s i n).size < (sg n).size) then sg n else bestSign s i n
def signOf (s : ByteArray) (i : Nat) : ByteArray := bestSign s i 39
def signTok (s : ByteArray) (i : Nat) : Tok := if (signOf s i).size = 0 then ⟨0, i, 22⟩ else ⟨4, i + (signOf s i).size, 0⟩

theorem sg_size : ∀ n, n < 39 → 0 < (sg n).size := by
  have h : (List.range 39).all (fun n => decide (0 < (sg n).size)) = true := by decide +kernel
  intro n hn
  simpa using List.all_eq_true.mp h n (by simpa using hn)
theorem sg_size4 : ∀ n, n < 39 → (sg n).size ≤ 4 := by
  have h : (List.range 39).all (fun n => decide ((sg n).size ≤ 4)) = true := by decide +kernel
  intro n hn
  simpa using List.all_eq_true.mp h n (by simpa using hn)

theorem bestSign_le (s : ByteArray) (i : Nat) : ∀ n, n ≤ 39 → (bestSign s i n).size ≤ 4
  | 0, _ => by rw [bestSign]; split <;> decide
  | n + 1, h => by
    rw [bestSign]
    split
    · exact sg_size4 n (by omega)
    · exact bestSign_le s i n (by omega)

/-- The best sign stands where it was found. -/
theorem bestSign_at (s : ByteArray) (i : Nat) (hi : i < s.size) : ∀ n, s.extract i (i + (bestSign s i n).size) = bestSign s i n
  | 0 => by
    rw [bestSign]
    by_cases h : bt s i = 95
    · rw [if_pos h]
      apply ba_ext
      rw [Lib.extract_data, show i + (⟨#[95]⟩ : ByteArray).size - i = 1 by simp; rfl]
      rw [bt_list] at h
      have h2 : i < s.data.toList.length := by rwa [← Lib.size_eq]
      rw [List.getD_eq_getElem?_getD, List.getElem?_eq_getElem h2] at h
      rw [List.drop_eq_getElem_cons h2]
      simp only [Option.getD_some] at h
      have : s.data.toList[i] = 95 := by
        apply UInt8.toNat_inj.mp
        have h4 : (95 : UInt8).toNat = 95 := rfl
        omega
      simp [this]
    · rw [if_neg h]
      exact extract_self s i
  | n + 1 => by
    rw [bestSign]
    by_cases h : (hasAt s i (sg n) && decide ((bestSign s i n).size < (sg n).size)) = true
    · rw [if_pos h]
      simp only [Bool.and_eq_true] at h
      exact hasAt_extract s (sg n) i h.1
    · rw [if_neg h]
      exact bestSign_at s i hi n

set_option maxHeartbeats 4000000 in
set_option maxRecDepth 20000 in
theorem sign_calls (s : ByteArray) (i : Nat) (hi : i < s.size) (hs : s.size ≤ 140737488351232) (w : World) (hE : Env w) :
    Calls Tryd.prog 111 #[.agg #[.string s, .int .i64 i]] w fun e w' => e = .returned (.agg #[.int .i64 (signTok s i).kind, .string (s.extract i (signTok s i).fin), .int .i64 i, .int .i64 (signTok s i).bad]) ∧ Below w.heap.size w w' := by
  obtain ⟨r, hr⟩ : ∃ r, r = signTok s i := ⟨_, rfl⟩
  rw [← hr]
  have HE := Aside0.mk hE
  have HB := Aside0.mk (Below.refl w.heap.size w)
  obtain ⟨_, ⟨b, off, c, g1, g2⟩, _⟩ := hE
  have gb : 1 < w.heap.size := World.block_lt_of_cell? w _ g1
  have G2 := Aside0.mk g2
  clear g2
  have hx : ((s[i]'hi).toNat : Int) = bt s i := by have := bt_at s i (by simpa using hi); simpa using this
  have p4 : (0 ≤ (i : Int)) = True := eq_true (by omega)
  have q4 : ((i : Int) < (s.size : Int)) = True := eq_true (by omega)
  have gb1 : 1 < w.heap.size + 1 := by omega
  have K0 : ∀ W, Below w.heap.size w W → bestSign s i 0 = bestSign s i 0 := fun _ _ => rfl
  clear K0
  have hb0 : bestSign s i 0 = if bt s i = 95 then ⟨#[95]⟩ else ⟨#[]⟩ := rfl
  have hbb : b < w.heap.size := World.block_lt_of_cell? w _ (G2.out 0 (by omega))
  have hbb1 : b < w.heap.size + 1 := by omega
  by_cases c1 : bt s i = 95
  · have c1b : (bt s i == 95) = true := by simpa using c1
    rw [if_pos c1] at hb0
    have HB0 := Aside0.mk hb0
    clear hb0 c1
    go_enter Tryd.func111, Tryd.ntmps111
    go_wp2
    go_loopg [3, 14] 40 (fun kq v3 v14 W => ∃ n : Nat, v14 = .int .i64 n ∧ v3 = .string (bestSign s i n) ∧ Aside0 (n ≤ 39 ∧ 39 - n < kq) ∧ Aside0 (Below ((w.alloc (Obj.cells #[Value.string s, Value.int IntKind.i64 ↑i] 77)).alloc (Obj.cells #[Value.int IntKind.i64 0, Value.string { data := #[] }, Value.int IntKind.i64 0, Value.int IntKind.i64 0] 68)).heap.size ((w.alloc (Obj.cells #[Value.string s, Value.int IntKind.i64 ↑i] 77)).alloc (Obj.cells #[Value.int IntKind.i64 0, Value.string { data := #[] }, Value.int IntKind.i64 0, Value.int IntKind.i64 0] 68)) W))
    case atStart => exact ⟨0, rfl, by rw [HB0.out], ⟨by omega, by omega⟩, ⟨Below.refl _ _⟩⟩
    case round =>
      obtain ⟨n, rfl, rfl, HN, HK⟩ := hrel
      obtain ⟨hn, hk⟩ := HN.out
      obtain ⟨hc0, hf0⟩ := bcell HK.out
      have z0 : w.heap.size < wr.heap.size := Nat.lt_of_lt_of_le (by simp; omega) HK.out.size
      have z1 : w.heap.size + 1 < wr.heap.size := Nat.lt_of_lt_of_le (by simp) HK.out.size
      have z2 : b < wr.heap.size := by omega
      have HB : Aside0 (Below w.heap.size w wr) := ⟨below_step (by repeat (first | exact Below.refl _ _ | apply below_alloc)) HK.out⟩
      by_cases cn : n < 39
      · have cn0 := G2.out n cn
        have cnb : decide ((n : Int) < 39) = true := by simp; omega
        have HH := Aside0.mk (fun w => has_calls s (sg n) i (by omega) hs w)
        have HS := Aside0.mk (show bestSign s i (n + 1) = if hasAt s i (sg n) && decide ((bestSign s i n).size < (sg n).size) then sg n else bestSign s i n from rfl)
        generalize bestSign s i n = bb at *
        generalize sg n = ss at *
        cases c2 : hasAt s i ss with
        | true =>
          rw [c2] at HH HS
          by_cases c3 : bb.size < ss.size
          · have c3b : decide ((bb.size : Int) < (ss.size : Int)) = true := by simp; omega
            have HT := Aside0.mk (show bestSign s i (n + 1) = ss by rw [HS.out]; simp [c3])
            clear c2 HS
            go_wp2_with (first | (go_at_call 89; ((with_reducible refine (HH.out _).mono ?_); rintro e w5 ⟨rfl, hb5⟩; obtain ⟨hc5, hf5⟩ := bcell hb5; have z5_0 : (w.heap.size) < w5.heap.size := Nat.lt_of_lt_of_le (by first | (with_reducible assumption) | omega | (simp only [World.size_alloc, World.size_setCell, World.size_drew, World.size_drewN]; omega) | (simp; omega) | (simp; done)) hb5.size; have z5_1 : (w.heap.size + 1) < w5.heap.size := Nat.lt_of_lt_of_le (by first | (with_reducible assumption) | omega | (simp only [World.size_alloc, World.size_setCell, World.size_drew, World.size_drewN]; omega) | (simp; omega) | (simp; done)) hb5.size; have z5_2 : (b) < w5.heap.size := Nat.lt_of_lt_of_le (by first | (with_reducible assumption) | omega | (simp only [World.size_alloc, World.size_setCell, World.size_drew, World.size_drewN]; omega) | (simp; omega) | (simp; done)) hb5.size; have nB5 : Aside0 (Below w.heap.size w w5) := ⟨below_step (by repeat (first | (with_reducible exact HB.out) | (with_reducible exact Below.refl _ _) | (with_reducible apply below_alloc) | (with_reducible apply pw_below_drewN) | (with_reducible apply below_drew1) | refine below_set ?_ (by omega))) hb5⟩; clear HB; have HB := nB5; clear nB5)))
            go_roundg (gk - 1)
            case measure => omega
            case rel => exact ⟨n + 1, by go_num, by rw [HT.out], ⟨by omega, by omega⟩, ⟨below_then HK.out HK.out.size hb5⟩⟩
          · have c3b : decide ((bb.size : Int) < (ss.size : Int)) = false := by simp; omega
            have HT := Aside0.mk (show bestSign s i (n + 1) = bb by rw [HS.out]; simp [c3])
            clear c2 HS
            go_wp2_with (first | (go_at_call 89; ((with_reducible refine (HH.out _).mono ?_); rintro e w5 ⟨rfl, hb5⟩; obtain ⟨hc5, hf5⟩ := bcell hb5; have z5_0 : (w.heap.size) < w5.heap.size := Nat.lt_of_lt_of_le (by first | (with_reducible assumption) | omega | (simp only [World.size_alloc, World.size_setCell, World.size_drew, World.size_drewN]; omega) | (simp; omega) | (simp; done)) hb5.size; have z5_1 : (w.heap.size + 1) < w5.heap.size := Nat.lt_of_lt_of_le (by first | (with_reducible assumption) | omega | (simp only [World.size_alloc, World.size_setCell, World.size_drew, World.size_drewN]; omega) | (simp; omega) | (simp; done)) hb5.size; have z5_2 : (b) < w5.heap.size := Nat.lt_of_lt_of_le (by first | (with_reducible assumption) | omega | (simp only [World.size_alloc, World.size_setCell, World.size_drew, World.size_drewN]; omega) | (simp; omega) | (simp; done)) hb5.size; have nB5 : Aside0 (Below w.heap.size w w5) := ⟨below_step (by repeat (first | (with_reducible exact HB.out) | (with_reducible exact Below.refl _ _) | (with_reducible apply below_alloc) | (with_reducible apply pw_below_drewN) | (with_reducible apply below_drew1) | refine below_set ?_ (by omega))) hb5⟩; clear HB; have HB := nB5; clear nB5)))
            go_roundg (gk - 1)
            case measure => omega
            case rel => exact ⟨n + 1, by go_num, by rw [HT.out], ⟨by omega, by omega⟩, ⟨below_then HK.out HK.out.size hb5⟩⟩
        | false =>
          rw [c2] at HH HS
          have HT := Aside0.mk (show bestSign s i (n + 1) = bb by rw [HS.out]; simp)
          clear c2 HS
          go_wp2_with (first | (go_at_call 89; ((with_reducible refine (HH.out _).mono ?_); rintro e w5 ⟨rfl, hb5⟩; obtain ⟨hc5, hf5⟩ := bcell hb5; have z5_0 : (w.heap.size) < w5.heap.size := Nat.lt_of_lt_of_le (by first | (with_reducible assumption) | omega | (simp only [World.size_alloc, World.size_setCell, World.size_drew, World.size_drewN]; omega) | (simp; omega) | (simp; done)) hb5.size; have z5_1 : (w.heap.size + 1) < w5.heap.size := Nat.lt_of_lt_of_le (by first | (with_reducible assumption) | omega | (simp only [World.size_alloc, World.size_setCell, World.size_drew, World.size_drewN]; omega) | (simp; omega) | (simp; done)) hb5.size; have z5_2 : (b) < w5.heap.size := Nat.lt_of_lt_of_le (by first | (with_reducible assumption) | omega | (simp only [World.size_alloc, World.size_setCell, World.size_drew, World.size_drewN]; omega) | (simp; omega) | (simp; done)) hb5.size; have nB5 : Aside0 (Below w.heap.size w w5) := ⟨below_step (by repeat (first | (with_reducible exact HB.out) | (with_reducible exact Below.refl _ _) | (with_reducible apply below_alloc) | (with_reducible apply pw_below_drewN) | (with_reducible apply below_drew1) | refine below_set ?_ (by omega))) hb5⟩; clear HB; have HB := nB5; clear nB5)))
          go_roundg (gk - 1)
          case measure => omega
          case rel => exact ⟨n + 1, by go_num, by rw [HT.out], ⟨by omega, by omega⟩, ⟨below_then HK.out HK.out.size hb5⟩⟩
      · obtain rfl : n = 39 := by omega
        have hat := bestSign_at s i hi 39
        by_cases c5 : (bestSign s i 39).size = 0
        · have E := Aside0.mk (show r = ⟨0, i, 22⟩ by rw [hr, signTok, if_pos (by exact c5)])
          have hn : (bestSign s i 39).toList.isEmpty = true := by rw [ByteArray.size_eq_zero_iff.mp c5, Lib.toList_data]; rfl
          clear hr hat c5
          generalize bestSign s i 39 = bb at *
          go_wp2_with (first | (go_at_call 67; ((with_reducible refine (wrong_calls _ _ _ _).mono ?_); rintro e w6 ⟨rfl, hb6⟩; obtain ⟨hc6, hf6⟩ := bcell hb6; have z6_0 : (w.heap.size) < w6.heap.size := Nat.lt_of_lt_of_le (by first | (with_reducible assumption) | omega | (simp only [World.size_alloc, World.size_setCell, World.size_drew, World.size_drewN]; omega) | (simp; omega) | (simp; done)) hb6.size; have z6_1 : (w.heap.size + 1) < w6.heap.size := Nat.lt_of_lt_of_le (by first | (with_reducible assumption) | omega | (simp only [World.size_alloc, World.size_setCell, World.size_drew, World.size_drewN]; omega) | (simp; omega) | (simp; done)) hb6.size; have nB6 : Aside0 (Below w.heap.size w w6) := ⟨below_step (by repeat (first | (with_reducible exact HB.out) | (with_reducible exact Below.refl _ _) | (with_reducible apply below_alloc) | (with_reducible apply pw_below_drewN) | (with_reducible apply below_drew1) | refine below_set ?_ (by omega))) hb6⟩; clear HB; have HB := nB6; clear nB6)))
          refine bodyPost_ret (v := .agg #[.int .i64 0, .string ⟨#[]⟩, .int .i64 i, .int .i64 22]) (by simp [results, Tryd.results111, go_sem, *]; done) rfl ?_
          exact ⟨ret_tok (by rw [E.out]) (by rw [E.out, extract_self]) (by rw [E.out]), (by repeat (first | (with_reducible exact HB.out) | (with_reducible exact Below.refl _ _) | (with_reducible apply below_alloc) | (with_reducible apply pw_below_drewN) | (with_reducible apply below_drew1) | refine below_set ?_ (by omega)))⟩
        · have E := Aside0.mk (show r = ⟨4, i + (bestSign s i 39).size, 0⟩ by rw [hr, signTok, if_neg (by exact c5)]; rfl)
          have hn : (bestSign s i 39).toList.isEmpty = false := by
            rw [Lib.toList_data]
            cases hl : (bestSign s i 39).data.toList with
            | nil => exact absurd (show (bestSign s i 39).size = 0 by rw [Lib.size_eq, hl]; rfl) c5
            | cons a l => rfl
          have HA := Aside0.mk hat
          clear hr hat c5
          generalize bestSign s i 39 = bb at *
          go_wp2_with (first | (go_at_call 123; ((with_reducible refine (made_calls _ _ _ _ _).mono ?_); rintro e w6 ⟨rfl, hb6⟩; obtain ⟨hc6, hf6⟩ := bcell hb6; have z6_0 : (w.heap.size) < w6.heap.size := Nat.lt_of_lt_of_le (by first | (with_reducible assumption) | omega | (simp only [World.size_alloc, World.size_setCell, World.size_drew, World.size_drewN]; omega) | (simp; omega) | (simp; done)) hb6.size; have z6_1 : (w.heap.size + 1) < w6.heap.size := Nat.lt_of_lt_of_le (by first | (with_reducible assumption) | omega | (simp only [World.size_alloc, World.size_setCell, World.size_drew, World.size_drewN]; omega) | (simp; omega) | (simp; done)) hb6.size; have nB6 : Aside0 (Below w.heap.size w w6) := ⟨below_step (by repeat (first | (with_reducible exact HB.out) | (with_reducible exact Below.refl _ _) | (with_reducible apply below_alloc) | (with_reducible apply pw_below_drewN) | (with_reducible apply below_drew1) | refine below_set ?_ (by omega))) hb6⟩; clear HB; have HB := nB6; clear nB6)))
          refine bodyPost_ret (v := .agg #[.int .i64 4, .string bb, .int .i64 i, .int .i64 0]) (by simp [results, Tryd.results111, go_sem, *]; done) rfl ?_
          exact ⟨ret_tok (by rw [E.out]) (by rw [E.out, HA.out]) (by rw [E.out]), (by repeat (first | (with_reducible exact HB.out) | (with_reducible exact Below.refl _ _) | (with_reducible apply below_alloc) | (with_reducible apply pw_below_drewN) | (with_reducible apply below_drew1) | refine below_set ?_ (by omega)))⟩
  · have c1b : (bt s i == 95) = false := by simpa using c1
    rw [if_neg c1] at hb0
    have HB0 := Aside0.mk hb0
    clear hb0 c1
    go_enter Tryd.func111, Tryd.ntmps111
    go_wp2
    go_loopg [3, 14] 40 (fun kq v3 v14 W => ∃ n : Nat, v14 = .int .i64 n ∧ v3 = .string (bestSign s i n) ∧ Aside0 (n ≤ 39 ∧ 39 - n < kq) ∧ Aside0 (Below ((w.alloc (Obj.cells #[Value.string s, Value.int IntKind.i64 ↑i] 77)).alloc (Obj.cells #[Value.int IntKind.i64 0, Value.string { data := #[] }, Value.int IntKind.i64 0, Value.int IntKind.i64 0] 68)).heap.size ((w.alloc (Obj.cells #[Value.string s, Value.int IntKind.i64 ↑i] 77)).alloc (Obj.cells #[Value.int IntKind.i64 0, Value.string { data := #[] }, Value.int IntKind.i64 0, Value.int IntKind.i64 0] 68)) W))
    case atStart => exact ⟨0, rfl, by rw [HB0.out], ⟨by omega, by omega⟩, ⟨Below.refl _ _⟩⟩
    case round =>
      obtain ⟨n, rfl, rfl, HN, HK⟩ := hrel
      obtain ⟨hn, hk⟩ := HN.out
      obtain ⟨hc0, hf0⟩ := bcell HK.out
      have z0 : w.heap.size < wr.heap.size := Nat.lt_of_lt_of_le (by simp; omega) HK.out.size
      have z1 : w.heap.size + 1 < wr.heap.size := Nat.lt_of_lt_of_le (by simp) HK.out.size
      have z2 : b < wr.heap.size := by omega
      have HB : Aside0 (Below w.heap.size w wr) := ⟨below_step (by repeat (first | exact Below.refl _ _ | apply below_alloc)) HK.out⟩
      by_cases cn : n < 39
      · have cn0 := G2.out n cn
        have cnb : decide ((n : Int) < 39) = true := by simp; omega
        have HH := Aside0.mk (fun w => has_calls s (sg n) i (by omega) hs w)
        have HS := Aside0.mk (show bestSign s i (n + 1) = if hasAt s i (sg n) && decide ((bestSign s i n).size < (sg n).size) then sg n else bestSign s i n from rfl)
        generalize bestSign s i n = bb at *
        generalize sg n = ss at *
        cases c2 : hasAt s i ss with
        | true =>
          rw [c2] at HH HS
          by_cases c3 : bb.size < ss.size
          · have c3b : decide ((bb.size : Int) < (ss.size : Int)) = true := by simp; omega
            have HT := Aside0.mk (show bestSign s i (n + 1) = ss by rw [HS.out]; simp [c3])
            clear c2 HS
            go_wp2_with (first | (go_at_call 89; ((with_reducible refine (HH.out _).mono ?_); rintro e w5 ⟨rfl, hb5⟩; obtain ⟨hc5, hf5⟩ := bcell hb5; have z5_0 : (w.heap.size) < w5.heap.size := Nat.lt_of_lt_of_le (by first | (with_reducible assumption) | omega | (simp only [World.size_alloc, World.size_setCell, World.size_drew, World.size_drewN]; omega) | (simp; omega) | (simp; done)) hb5.size; have z5_1 : (w.heap.size + 1) < w5.heap.size := Nat.lt_of_lt_of_le (by first | (with_reducible assumption) | omega | (simp only [World.size_alloc, World.size_setCell, World.size_drew, World.size_drewN]; omega) | (simp; omega) | (simp; done)) hb5.size; have z5_2 : (b) < w5.heap.size := Nat.lt_of_lt_of_le (by first | (with_reducible assumption) | omega | (simp only [World.size_alloc, World.size_setCell, World.size_drew, World.size_drewN]; omega) | (simp; omega) | (simp; done)) hb5.size; have nB5 : Aside0 (Below w.heap.size w w5) := ⟨below_step (by repeat (first | (with_reducible exact HB.out) | (with_reducible exact Below.refl _ _) | (with_reducible apply below_alloc) | (with_reducible apply pw_below_drewN) | (with_reducible apply below_drew1) | refine below_set ?_ (by omega))) hb5⟩; clear HB; have HB := nB5; clear nB5)))
            go_roundg (gk - 1)
            case measure => omega
            case rel => exact ⟨n + 1, by go_num, by rw [HT.out], ⟨by omega, by omega⟩, ⟨below_then HK.out HK.out.size hb5⟩⟩
          · have c3b : decide ((bb.size : Int) < (ss.size : Int)) = false := by simp; omega
            have HT := Aside0.mk (show bestSign s i (n + 1) = bb by rw [HS.out]; simp [c3])
            clear c2 HS
            go_wp2_with (first | (go_at_call 89; ((with_reducible refine (HH.out _).mono ?_); rintro e w5 ⟨rfl, hb5⟩; obtain ⟨hc5, hf5⟩ := bcell hb5; have z5_0 : (w.heap.size) < w5.heap.size := Nat.lt_of_lt_of_le (by first | (with_reducible assumption) | omega | (simp only [World.size_alloc, World.size_setCell, World.size_drew, World.size_drewN]; omega) | (simp; omega) | (simp; done)) hb5.size; have z5_1 : (w.heap.size + 1) < w5.heap.size := Nat.lt_of_lt_of_le (by first | (with_reducible assumption) | omega | (simp only [World.size_alloc, World.size_setCell, World.size_drew, World.size_drewN]; omega) | (simp; omega) | (simp; done)) hb5.size; have z5_2 : (b) < w5.heap.size := Nat.lt_of_lt_of_le (by first | (with_reducible assumption) | omega | (simp only [World.size_alloc, World.size_setCell, World.size_drew, World.size_drewN]; omega) | (simp; omega) | (simp; done)) hb5.size; have nB5 : Aside0 (Below w.heap.size w w5) := ⟨below_step (by repeat (first | (with_reducible exact HB.out) | (with_reducible exact Below.refl _ _) | (with_reducible apply below_alloc) | (with_reducible apply pw_below_drewN) | (with_reducible apply below_drew1) | refine below_set ?_ (by omega))) hb5⟩; clear HB; have HB := nB5; clear nB5)))
            go_roundg (gk - 1)
            case measure => omega
            case rel => exact ⟨n + 1, by go_num, by rw [HT.out], ⟨by omega, by omega⟩, ⟨below_then HK.out HK.out.size hb5⟩⟩
        | false =>
          rw [c2] at HH HS
          have HT := Aside0.mk (show bestSign s i (n + 1) = bb by rw [HS.out]; simp)
          clear c2 HS
          go_wp2_with (first | (go_at_call 89; ((with_reducible refine (HH.out _).mono ?_); rintro e w5 ⟨rfl, hb5⟩; obtain ⟨hc5, hf5⟩ := bcell hb5; have z5_0 : (w.heap.size) < w5.heap.size := Nat.lt_of_lt_of_le (by first | (with_reducible assumption) | omega | (simp only [World.size_alloc, World.size_setCell, World.size_drew, World.size_drewN]; omega) | (simp; omega) | (simp; done)) hb5.size; have z5_1 : (w.heap.size + 1) < w5.heap.size := Nat.lt_of_lt_of_le (by first | (with_reducible assumption) | omega | (simp only [World.size_alloc, World.size_setCell, World.size_drew, World.size_drewN]; omega) | (simp; omega) | (simp; done)) hb5.size; have z5_2 : (b) < w5.heap.size := Nat.lt_of_lt_of_le (by first | (with_reducible assumption) | omega | (simp only [World.size_alloc, World.size_setCell, World.size_drew, World.size_drewN]; omega) | (simp; omega) | (simp; done)) hb5.size; have nB5 : Aside0 (Below w.heap.size w w5) := ⟨below_step (by repeat (first | (with_reducible exact HB.out) | (with_reducible exact Below.refl _ _) | (with_reducible apply below_alloc) | (with_reducible apply pw_below_drewN) | (with_reducible apply below_drew1) | refine below_set ?_ (by omega))) hb5⟩; clear HB; have HB := nB5; clear nB5)))
          go_roundg (gk - 1)
          case measure => omega
          case rel => exact ⟨n + 1, by go_num, by rw [HT.out], ⟨by omega, by omega⟩, ⟨below_then HK.out HK.out.size hb5⟩⟩
      · obtain rfl : n = 39 := by omega
        have hat := bestSign_at s i hi 39
        by_cases c5 : (bestSign s i 39).size = 0
        · have E := Aside0.mk (show r = ⟨0, i, 22⟩ by rw [hr, signTok, if_pos (by exact c5)])
          have hn : (bestSign s i 39).toList.isEmpty = true := by rw [ByteArray.size_eq_zero_iff.mp c5, Lib.toList_data]; rfl
          clear hr hat c5
          generalize bestSign s i 39 = bb at *
          go_wp2_with (first | (go_at_call 67; ((with_reducible refine (wrong_calls _ _ _ _).mono ?_); rintro e w6 ⟨rfl, hb6⟩; obtain ⟨hc6, hf6⟩ := bcell hb6; have z6_0 : (w.heap.size) < w6.heap.size := Nat.lt_of_lt_of_le (by first | (with_reducible assumption) | omega | (simp only [World.size_alloc, World.size_setCell, World.size_drew, World.size_drewN]; omega) | (simp; omega) | (simp; done)) hb6.size; have z6_1 : (w.heap.size + 1) < w6.heap.size := Nat.lt_of_lt_of_le (by first | (with_reducible assumption) | omega | (simp only [World.size_alloc, World.size_setCell, World.size_drew, World.size_drewN]; omega) | (simp; omega) | (simp; done)) hb6.size; have nB6 : Aside0 (Below w.heap.size w w6) := ⟨below_step (by repeat (first | (with_reducible exact HB.out) | (with_reducible exact Below.refl _ _) | (with_reducible apply below_alloc) | (with_reducible apply pw_below_drewN) | (with_reducible apply below_drew1) | refine below_set ?_ (by omega))) hb6⟩; clear HB; have HB := nB6; clear nB6)))
          refine bodyPost_ret (v := .agg #[.int .i64 0, .string ⟨#[]⟩, .int .i64 i, .int .i64 22]) (by simp [results, Tryd.results111, go_sem, *]; done) rfl ?_
          exact ⟨ret_tok (by rw [E.out]) (by rw [E.out, extract_self]) (by rw [E.out]), (by repeat (first | (with_reducible exact HB.out) | (with_reducible exact Below.refl _ _) | (with_reducible apply below_alloc) | (with_reducible apply pw_below_drewN) | (with_reducible apply below_drew1) | refine below_set ?_ (by omega)))⟩
        · have E := Aside0.mk (show r = ⟨4, i + (bestSign s i 39).size, 0⟩ by rw [hr, signTok, if_neg (by exact c5)]; rfl)
          have hn : (bestSign s i 39).toList.isEmpty = false := by
            rw [Lib.toList_data]
            cases hl : (bestSign s i 39).data.toList with
            | nil => exact absurd (show (bestSign s i 39).size = 0 by rw [Lib.size_eq, hl]; rfl) c5
            | cons a l => rfl
          have HA := Aside0.mk hat
          clear hr hat c5
          generalize bestSign s i 39 = bb at *
          go_wp2_with (first | (go_at_call 123; ((with_reducible refine (made_calls _ _ _ _ _).mono ?_); rintro e w6 ⟨rfl, hb6⟩; obtain ⟨hc6, hf6⟩ := bcell hb6; have z6_0 : (w.heap.size) < w6.heap.size := Nat.lt_of_lt_of_le (by first | (with_reducible assumption) | omega | (simp only [World.size_alloc, World.size_setCell, World.size_drew, World.size_drewN]; omega) | (simp; omega) | (simp; done)) hb6.size; have z6_1 : (w.heap.size + 1) < w6.heap.size := Nat.lt_of_lt_of_le (by first | (with_reducible assumption) | omega | (simp only [World.size_alloc, World.size_setCell, World.size_drew, World.size_drewN]; omega) | (simp; omega) | (simp; done)) hb6.size; have nB6 : Aside0 (Below w.heap.size w w6) := ⟨below_step (by repeat (first | (with_reducible exact HB.out) | (with_reducible exact Below.refl _ _) | (with_reducible apply below_alloc) | (with_reducible apply pw_below_drewN) | (with_reducible apply below_drew1) | refine below_set ?_ (by omega))) hb6⟩; clear HB; have HB := nB6; clear nB6)))
          refine bodyPost_ret (v := .agg #[.int .i64 4, .string bb, .int .i64 i, .int .i64 0]) (by simp [results, Tryd.results111, go_sem, *]; done) rfl ?_
          exact ⟨ret_tok (by rw [E.out]) (by rw [E.out, HA.out]) (by rw [E.out]), (by repeat (first | (with_reducible exact HB.out) | (with_reducible exact Below.refl _ _) | (with_reducible apply below_alloc) | (with_reducible apply pw_below_drewN) | (with_reducible apply below_drew1) | refine below_set ?_ (by omega)))⟩
end Go.Proofs.YtmnnhbikdgpedaaDoor.Lx
