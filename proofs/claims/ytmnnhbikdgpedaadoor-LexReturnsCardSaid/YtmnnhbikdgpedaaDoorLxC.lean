/- Contracts of package lex's keywords. -/
import Derived.Test.YtmnnhbikdgpedaaDoorLxA
import Derived.Test.YtmnnhbikdgpedaaDoorShelf
import Derived.Laws.RangeAny
import Derived.Lib.OthersKept
namespace Go.Proofs.YtmnnhbikdgpedaaDoor.Lx
open Go.RowKit Go.Proofs.YtmnnhbikdgpedaaDoorW.PrintWords Go.Proofs.YtmnnhbikdgpedaaDoorW.PrintLast Go.Proofs.YtmnnhbikdgpedaaDoorW.PrintMore
set_option linter.unusedVariables false
set_option linter.unusedSimpArgs false

/-- The number that the first bytes are. -/
def decVal (d : ByteArray) : Nat → Int
  | 0 => 0
  | n + 1 => 10 * decVal d n + (bt d n - 48)
def allDigits (d : ByteArray) (n : Nat) : Bool := (List.range n).all fun i => isDigit (bt d i)

def bvs : ByteArray := ⟨#[98, 118]⟩
/-- What stands behind the first two bytes. -/
def behind2 (s : ByteArray) : ByteArray := ⟨(s.data.toList.drop 2).toArray⟩
def isWide (s : ByteArray) : Bool :=
  Go.Lib.hasPrefix s.data.toList [98, 118] && decide (0 < (behind2 s).size) && decide ((behind2 s).size ≤ 2) && (bt (behind2 s) 0 != 48) && allDigits (behind2 s) (behind2 s).size && decide (decVal (behind2 s) (behind2 s).size ≤ 64)

theorem below_iter {B : Nat} {a w : World} (h : Below B a w) (hB : B ≤ w.heap.size) (s : ByteArray) (p : Nat) : Below B a (w.iter s p) := h.alloc hB _

theorem decVal_range (d : ByteArray) : ∀ n, allDigits d n = true → 0 ≤ decVal d n ∧ decVal d n < 10 ^ n
  | 0, _ => by simp [decVal]
  | n + 1, h => by
    have h1 : allDigits d n = true ∧ isDigit (bt d n) = true := by simpa [allDigits, List.range_succ] using h
    obtain ⟨ih0, ih1⟩ := decVal_range d n h1.1
    have h2 : 48 ≤ bt d n ∧ bt d n ≤ 57 := by simpa [isDigit] using h1.2
    simp only [decVal, Int.pow_succ]
    omega

set_option maxRecDepth 20000 in
theorem isWide_calls (s : ByteArray) (w : World) :
    Calls Tryd.prog 74 #[.string s] w fun e w' => e = .returned (.bool (isWide s)) ∧ Below w.heap.size w w' := by
  have hr : ∃ r, r = isWide s := ⟨_, rfl⟩
  obtain ⟨r, hr⟩ := hr
  rw [← hr]
  cases c1 : Go.Lib.hasPrefix s.data.toList [98, 118] with
  | false =>
    have E := Aside0.mk (show false = r by rw [hr]; simp [isWide, c1])
    have HC : ∀ w, Calls Tryd.prog 97 #[.string s, .string ⟨#[98, 118]⟩] w fun e w' => e = .returned (.tuple #[.string s, .bool false]) ∧ w = w' := by
      intro w
      refine (Tryd.strings_CutPrefix s ⟨#[98, 118]⟩ w).mono ?_
      rintro e w' ⟨rfl, rfl⟩
      refine ⟨?_, rfl⟩
      have : Go.Lib.trimPrefix s.data.toList [98, 118] = s.data.toList := by simp [Go.Lib.trimPrefix, c1]
      simp [c1, this]
    have HC1 := Aside0.mk HC
    clear HC
    have HC := HC1
    clear HC1
    clear c1 hr
    go_enter Tryd.func74, Tryd.ntmps74
    go_wp2_with (first | (go_at_call 97; refine (HC.out _).mono ?_; rintro e w' ⟨rfl, rfl⟩))
    go_ret
    exact ⟨ret_b E.out, by repeat (first | exact Below.refl _ _ | apply below_alloc | apply pw_below_drewN)⟩
  | true =>
    have HC : ∀ w, Calls Tryd.prog 97 #[.string s, .string ⟨#[98, 118]⟩] w fun e w' => e = .returned (.tuple #[.string (behind2 s), .bool true]) ∧ w = w' := by
      intro w
      refine (Tryd.strings_CutPrefix s ⟨#[98, 118]⟩ w).mono ?_
      rintro e w' ⟨rfl, rfl⟩
      refine ⟨?_, rfl⟩
      have : Go.Lib.trimPrefix s.data.toList [98, 118] = s.data.toList.drop 2 := by simp [Go.Lib.trimPrefix, c1]
      simp [c1, this, behind2]
    have HC1 := Aside0.mk HC
    clear HC
    have HC := HC1
    clear HC1
    rw [isWide, c1] at hr
    clear c1
    generalize behind2 s = d at *
    by_cases h0 : d.size = 0
    · obtain rfl : d = ⟨#[]⟩ := ByteArray.size_eq_zero_iff.mp h0
      have E := Aside0.mk (show false = r by rw [hr]; rfl)
      clear hr h0
      go_enter Tryd.func74, Tryd.ntmps74
      go_wp2_with (first | (go_at_call 97; refine (HC.out _).mono ?_; rintro e w' ⟨rfl, rfl⟩))
      go_ret
      exact ⟨ret_b E.out, by repeat (first | exact Below.refl _ _ | apply below_alloc | apply pw_below_drewN)⟩
    · have hne : d.toList.isEmpty = false := by
        rw [Lib.toList_data]
        cases hl : d.data.toList with
        | nil => exact absurd (show d.size = 0 by rw [ByteArray.size, ← Array.length_toList, hl]; rfl) h0
        | cons a l => rfl
      by_cases h2 : d.size ≤ 2
      · have h2b : decide (2 < (d.size : Int)) = false := by simp; omega
        have h2c : decide (2 < d.size) = false := by simp; omega
        have hpos : 0 < d.size := by omega
        have hx : ((d[0]'hpos).toNat : Int) = bt d 0 := by have := bt_at d 0 (by simp; omega); simpa using this
        have q4 : (0 < (d.size : Int)) = True := eq_true (by omega)
        by_cases h3 : bt d 0 = 48
        · have E := Aside0.mk (show false = r by rw [hr]; simp [h3])
          have h3b : (bt d 0 == 48) = true := by simpa using h3
          clear hr h3 h2 h0
          go_enter Tryd.func74, Tryd.ntmps74
          go_wp2_with (first | (go_at_call 97; refine (HC.out _).mono ?_; rintro e w' ⟨rfl, rfl⟩))
          go_ret
          exact ⟨ret_b E.out, by repeat (first | exact Below.refl _ _ | apply below_alloc | apply pw_below_drewN)⟩
        · have h3b : (bt d 0 == 48) = false := by simpa using h3
          have H2 := Aside0.mk h2
          have H3 := Aside0.mk h3
          have H0 := Aside0.mk h0
          clear h3 h2 h0
          have HR := Aside0.mk hr
          clear hr
          go_enter Tryd.func74, Tryd.ntmps74
          go_wp2_with (first | (go_at_call 97; refine (HC.out _).mono ?_; rintro e w' ⟨rfl, rfl⟩))
          go_loopg [5] (d.size + 1) (fun kq v5 w' => ∃ pos : Nat, v5 = .int .i64 (decVal d pos) ∧ Aside0 (pos ≤ d.size ∧ allDigits d pos = true ∧ d.size - pos < kq) ∧ w' = w.iter d pos)
          case atStart => exact ⟨0, rfl, ⟨by omega, rfl, by omega⟩, rfl⟩
          case round =>
            obtain ⟨pos, rfl, HA, rfl⟩ := hrel
            obtain ⟨hp1, hp2, hp3⟩ := HA.out
            have hz2 := H2.out
            have hv := decVal_range d pos hp2
            by_cases hp : pos < d.size
            · have hb := bt_range d pos
              have hxp : ((d[pos]'hp).toNat : Int) = bt d pos := by have := bt_at d pos (by simpa using hp); simpa using this
              have hv1 : 0 ≤ decVal d pos ∧ decVal d pos ≤ 9 := by
                have : pos = 0 ∨ pos = 1 := by omega
                rcases this with rfl | rfl
                · simp [decVal]
                · exact ⟨hv.1, by have := hv.2; omega⟩
              have hd2 : allDigits d (pos + 1) = (allDigits d pos && isDigit (bt d pos)) := by simp [allDigits, List.range_succ]
              clear hv
              by_cases ha : (d[pos]'hp).toNat < 128
              · have hn := run_next_ascii (P := Tryd.prog) w d pos 0 hp ha
                rw [hxp] at hn
                by_cases hd : 48 ≤ bt d pos ∧ bt d pos ≤ 57
                · obtain ⟨hd0, hd1⟩ := hd
                  have hl1 : decide (bt d pos < 48) = false := by simp; omega
                  have hl2 : decide (57 < bt d pos) = false := by simp; omega
                  have HN := Aside0.mk (show allDigits d (pos + 1) = true by rw [hd2, hp2]; simp [isDigit, hd0, hd1])
                  have hvs := Aside0.mk (show decVal d (pos + 1) = 10 * decVal d pos + (bt d pos - 48) from rfl)
                  clear hd2 hp2 HA hxp
                  go_wp2
                  go_roundg (gk - 1)
                  case measure => omega
                  case rel => exact ⟨pos + 1, by rw [hvs.out], ⟨by omega, HN.out, by omega⟩, rfl⟩
                · have hnd : isDigit (bt d pos) = false := by simp [isDigit]; omega
                  have E := Aside0.mk (show false = r by
                    have h1 : allDigits d d.size = false := by
                      cases hc : allDigits d d.size with
                      | false => rfl
                      | true => exact absurd (List.all_eq_true.mp hc pos (by simp; omega)) (by rw [hnd]; simp)
                    rw [HR.out, h1]; simp)
                  clear hnd hd2 hp2 HA hxp
                  by_cases hl : bt d pos < 48
                  · have hl1 : decide (bt d pos < 48) = true := by simp; omega
                    clear hl hd
                    go_wp2
                    go_ret
                    exact ⟨ret_b E.out, below_iter (Below.refl _ _) (Nat.le_refl _) _ _⟩
                  · have hl1 : decide (bt d pos < 48) = false := by simp; omega
                    have hl2 : decide (57 < bt d pos) = true := by simp; omega
                    clear hl hd
                    go_wp2
                    go_ret
                    exact ⟨ret_b E.out, below_iter (Below.refl _ _) (Nat.le_refl _) _ _⟩
              · have hn := run_next_any (P := Tryd.prog) w d pos 0 hp
                obtain ⟨hc1, hc2⟩ := decode_high d pos hp (by omega)
                have hc3 := decode_le d pos
                generalize (Utf8.decode d pos).1 = c at hn hc1 hc3
                generalize (Utf8.decode d pos).2 = m at hn hc2
                have hnd : isDigit (bt d pos) = false := by simp [isDigit]; omega
                have E := Aside0.mk (show false = r by
                  have h1 : allDigits d d.size = false := by
                    cases hc : allDigits d d.size with
                    | false => rfl
                    | true => exact absurd (List.all_eq_true.mp hc pos (by simp; omega)) (by rw [hnd]; simp)
                  rw [HR.out, h1]; simp)
                have hl1 : decide ((c : Int) < 48) = false := by simp; omega
                have hl2 : decide (57 < (c : Int)) = true := by simp; omega
                clear hnd hd2 hp2 HA hxp
                go_wp2
                go_ret
                exact ⟨ret_b E.out, below_iter (Below.refl _ _) (Nat.le_refl _) _ _⟩
            · have hn := run_next_end (P := Tryd.prog) w d pos 0 hp
              obtain rfl : pos = d.size := by omega
              have E := Aside0.mk (show decide (decVal d d.size ≤ 64) = r by
                rw [HR.out, hp2]; simp [H3.out]; omega)
              clear hp2 HA hv
              go_wp2
              go_ret
              exact ⟨ret_b E.out, below_iter (Below.refl _ _) (Nat.le_refl _) _ _⟩
      · have E := Aside0.mk (show false = r by rw [hr]; simp [h2])
        have h2b : decide (2 < (d.size : Int)) = true := by simp; omega
        have h2c : decide (2 < d.size) = true := by simp; omega
        clear hr h2
        go_enter Tryd.func74, Tryd.ntmps74
        go_wp2_with (first | (go_at_call 97; refine (HC.out _).mono ?_; rintro e w' ⟨rfl, rfl⟩))
        go_ret
        exact ⟨ret_b E.out, by repeat (first | exact Below.refl _ _ | apply below_alloc | apply pw_below_drewN)⟩
end Go.Proofs.YtmnnhbikdgpedaaDoor.Lx
