/- Contracts of the small byte tests of package lex. -/
import Derived.Test.YtmnnhbikdgpedaaDoorProg
import Derived.Test.YtmnnhbikdgpedaaDoorWd
import Derived.Deep.QuietTactic
import Derived.BigQuiet
import Derived.Deep.LoopGhost
import Derived.Deep.DeepCutAuto
import Derived.Deep.RegionHeld3
import Derived.Outline
import Derived.WalkSpells
import Derived.Handy
namespace Go.Proofs.YtmnnhbikdgpedaaDoor.Lx
open Go.RowKit Go.Proofs.YtmnnhbikdgpedaaDoorW.PrintWords Go.Proofs.YtmnnhbikdgpedaaDoorW.PrintLast Go.Proofs.YtmnnhbikdgpedaaDoorW.PrintMore
set_option linter.unusedVariables false
set_option linter.unusedSimpArgs false

def isLetter (c : Int) : Bool := (decide (97 ≤ c) && decide (c ≤ 122)) || (decide (65 ≤ c) && decide (c ≤ 90))
def isDigit (c : Int) : Bool := decide (48 ≤ c) && decide (c ≤ 57)
def cls (c : Int) : Bool := isLetter c || isDigit c || (c == 95)

theorem ret_b {a b : Bool} (h : a = b) : Ending.returned (.bool a) = .returned (.bool b) := by rw [h]
theorem isDigit_calls (c : Int) (w : World) :
    Calls Tryd.prog 94 #[.int .u8 c] w fun e w' => e = .returned (.bool (isDigit c)) ∧ Drawn0 w w' := by
  have hr : isDigit c = (decide (48 ≤ c) && decide (c ≤ 57)) := rfl
  by_cases h1 : 48 ≤ c
  · have h1b : decide (48 ≤ c) = true := by simpa using h1
    go_enter Tryd.func94, Tryd.ntmps94
    go_wp2
    go_ret
    exact ⟨by simp [isDigit, h1], Drawn0.refl _⟩
  · have h1b : decide (48 ≤ c) = false := by simpa using h1
    go_enter Tryd.func94, Tryd.ntmps94
    go_wp2
    go_ret
    exact ⟨by simp [isDigit, h1], Drawn0.refl _⟩

theorem isLetter_calls (c : Int) (w : World) :
    Calls Tryd.prog 70 #[.int .u8 c] w fun e w' => e = .returned (.bool (isLetter c)) ∧ Drawn0 w w' := by
  by_cases h1 : 97 ≤ c
  · have h1b : decide (97 ≤ c) = true := by simpa using h1
    by_cases h2 : c ≤ 122
    · have h2b : decide (c ≤ 122) = true := by simpa using h2
      go_enter Tryd.func70, Tryd.ntmps70
      go_wp2
      go_ret
      exact ⟨ret_b (by unfold isLetter; rw [Bool.eq_iff_iff]; simp; omega), Drawn0.refl _⟩
    · have h2b : decide (c ≤ 122) = false := by simpa using h2
      have h3b : decide (65 ≤ c) = true := by simp; omega
      go_enter Tryd.func70, Tryd.ntmps70
      go_wp2
      go_ret
      exact ⟨ret_b (by unfold isLetter; rw [Bool.eq_iff_iff]; simp; omega), Drawn0.refl _⟩
  · have h1b : decide (97 ≤ c) = false := by simpa using h1
    by_cases h2 : 65 ≤ c
    · have h2b : decide (65 ≤ c) = true := by simpa using h2
      go_enter Tryd.func70, Tryd.ntmps70
      go_wp2
      go_ret
      exact ⟨ret_b (by unfold isLetter; rw [Bool.eq_iff_iff]; simp; omega), Drawn0.refl _⟩
    · have h2b : decide (65 ≤ c) = false := by simpa using h2
      go_enter Tryd.func70, Tryd.ntmps70
      go_wp2
      go_ret
      exact ⟨ret_b (by unfold isLetter; rw [Bool.eq_iff_iff]; simp; omega), Drawn0.refl _⟩

theorem cls_calls (c : Int) (w : World) :
    Calls Tryd.prog 72 #[.int .u8 c] w fun e w' => e = .returned (.bool (cls c)) ∧ Drawn0 w w' := by
  cases h1 : isLetter c with
  | true =>
    go_enter Tryd.func72, Tryd.ntmps72
    go_wp2_with (first | (go_at_call 70; refine (isLetter_calls _ _).mono ?_; rw [h1]; rintro e w' ⟨rfl, ⟨nd, rfl⟩⟩))
    go_ret
    exact ⟨by simp [cls, h1], by repeat (first | exact Drawn0.refl _ | apply Drawn0.step)⟩
  | false =>
    cases h2 : isDigit c with
    | true =>
      go_enter Tryd.func72, Tryd.ntmps72
      go_wp2_with (first | (go_at_call 70; refine (isLetter_calls _ _).mono ?_; rw [h1]; rintro e w' ⟨rfl, ⟨nd, rfl⟩⟩) | (go_at_call 94; refine (isDigit_calls _ _).mono ?_; rw [h2]; rintro e w' ⟨rfl, ⟨nd, rfl⟩⟩))
      go_ret
      exact ⟨by simp [cls, h1, h2], by repeat (first | exact Drawn0.refl _ | apply Drawn0.step)⟩
    | false =>
      go_enter Tryd.func72, Tryd.ntmps72
      go_wp2_with (first | (go_at_call 70; refine (isLetter_calls _ _).mono ?_; rw [h1]; rintro e w' ⟨rfl, ⟨nd, rfl⟩⟩) | (go_at_call 94; refine (isDigit_calls _ _).mono ?_; rw [h2]; rintro e w' ⟨rfl, ⟨nd, rfl⟩⟩))
      go_ret
      exact ⟨by simp [cls, h1, h2], by repeat (first | exact Drawn0.refl _ | apply Drawn0.step)⟩

/-- Where the run of bytes with a property ends that begins at i. -/
def runEnd (p : Int → Bool) (s : ByteArray) (i : Nat) : Nat :=
  if i < s.size then (if p (bt s i) then runEnd p s (i + 1) else i) else i
  termination_by s.size - i

theorem runEnd_ge (p : Int → Bool) (s : ByteArray) (i : Nat) : i ≤ runEnd p s i := by
  fun_induction runEnd p s i <;> omega
theorem runEnd_le (p : Int → Bool) (s : ByteArray) (i : Nat) (h : i ≤ s.size) : runEnd p s i ≤ s.size := by
  fun_induction runEnd p s i <;> omega

/-- A test of bytes as a function of the program. -/
structure Test (f : Nat) (p : Int → Bool) : Prop where
  calls : ∀ (c : Int) (w : World), Calls Tryd.prog f #[.int .u8 c] w fun e w' => e = .returned (.bool (p c)) ∧ Drawn0 w w'
  enters : ∀ (args : Array Value) (w : World), (callFunc f args).run Tryd.prog w = .ok (.enter f args) w

theorem test_digit : Test 94 isDigit := ⟨isDigit_calls, Tryd.call94⟩
theorem test_cls : Test 72 cls := ⟨cls_calls, Tryd.call72⟩

theorem drawnN {w w' : World} {n : Nat} (h : w' = w.drewN n) : Drawn0 w w' := ⟨⟨n, h⟩⟩

theorem ret_s {a b : ByteArray} (h : a = b) : Ending.returned (.string a) = .returned (.string b) := by rw [h]

set_option maxHeartbeats 1000000 in
set_option maxRecDepth 20000 in
theorem run_calls (f : Nat) (p : Int → Bool) (hp : Test f p) (s : ByteArray) (i : Nat) (hi : i ≤ s.size) (hs : s.size ≤ 140737488351232) (w : World) :
    Calls Tryd.prog 71 #[.agg #[.string s, .int .i64 i], .func (.func f) #[] #[]] w fun e w' => e = .returned (.string (s.extract i (runEnd p s i))) ∧ Below w.heap.size w w' := by
  have HE := hp.enters
  go_enter Tryd.func71, Tryd.ntmps71
  go_wp2
  go_loopg [5] (s.size - i + 1) (fun kq v5 w' => ∃ (j : Nat) (n : Nat), v5 = .int .i64 j ∧ Aside0 (runEnd p s j = runEnd p s i) ∧ Aside0 (i ≤ j ∧ j ≤ s.size ∧ s.size - j < kq) ∧ w' = (w.alloc (Obj.cells #[Value.string s, Value.int IntKind.i64 ↑i] 77)).drewN n)
  case atStart => exact ⟨i, 0, rfl, ⟨rfl⟩, ⟨by omega⟩, rfl⟩
  case round =>
    obtain ⟨j, n, rfl, HA, HK, rfl⟩ := hrel
    have H := HA.out
    have HK1 := HK.out
    have h1 := runEnd_ge p s i
    have h2 := runEnd_le p s i hi
    by_cases c1 : j < s.size
    · have c1b : decide ((j : Int) < (s.size : Int)) = true := by simpa using c1
      have c1c : decide (j < s.size) = true := by simpa using c1
      have hx : ((s[j]'c1).toNat : Int) = bt s j := by have := bt_at s j (by simpa using c1); simpa using this
      cases c2 : p (bt s j) with
      | true =>
        have H2 := Aside0.mk (show runEnd p s (j + 1) = runEnd p s i by rw [← H, eq_comm, runEnd, if_pos c1, c2]; rfl)
        have HP := Aside0.mk (show ∀ w, Calls Tryd.prog f #[.int .u8 (bt s j)] w fun e w' => e = .returned (.bool true) ∧ Drawn0 w w' from fun w => by have := hp.calls (bt s j) w; rw [c2] at this; exact this)
        clear H HA c2 hp
        have p4 : (0 ≤ (j : Int)) = True := eq_true (by omega)
        have q4 : ((j : Int) < (s.size : Int)) = True := eq_true (by omega)
        go_wp2_with (with_reducible (refine (HP.out _).mono ?_; rintro e w' ⟨rfl, ⟨nd, rfl⟩⟩))
        go_roundg (gk - 1)
        case measure => omega
        case rel => exact ⟨j + 1, _, by go_num, H2, ⟨by omega⟩, by first | rfl | exact World.drewN_drewN _ _ _⟩
      | false =>
        have H2 := Aside0.mk (show j = runEnd p s i by rw [← H, runEnd, if_pos c1, c2]; rfl)
        have HP := Aside0.mk (show ∀ w, Calls Tryd.prog f #[.int .u8 (bt s j)] w fun e w' => e = .returned (.bool false) ∧ Drawn0 w w' from fun w => by have := hp.calls (bt s j) w; rw [c2] at this; exact this)
        clear H HA c2 hp
        have p4 : (0 ≤ (j : Int)) = True := eq_true (by omega)
        have q4 : ((j : Int) < (s.size : Int)) = True := eq_true (by omega)
        go_wp2_with (with_reducible (refine (HP.out _).mono ?_; rintro e w' ⟨rfl, ⟨nd, rfl⟩⟩))
        go_ret
        exact ⟨ret_s (by rw [← H2.out]), by repeat (first | exact Below.refl _ _ | apply below_alloc | apply pw_below_drewN)⟩
    · have H2 := Aside0.mk (show j = runEnd p s i by rw [← H, runEnd, if_neg c1])
      have c1b : decide ((j : Int) < (s.size : Int)) = false := by simp; omega
      have c1c : decide (j < s.size) = false := by simpa using c1
      clear H HA
      go_wp2
      go_ret
      exact ⟨ret_s (by rw [← H2.out]), by repeat (first | exact Below.refl _ _ | apply below_alloc | apply pw_below_drewN)⟩

/-- The word that begins at i: its end, i itself if there is none. -/
def wordEnd (s : ByteArray) (i : Nat) : Nat := if i < s.size ∧ isLetter (bt s i) = true then runEnd cls s i else i

theorem wordEnd_ge (s : ByteArray) (i : Nat) : i ≤ wordEnd s i := by unfold wordEnd; split; exact runEnd_ge _ _ _; exact Nat.le_refl _
theorem wordEnd_le (s : ByteArray) (i : Nat) (h : i ≤ s.size) : wordEnd s i ≤ s.size := by unfold wordEnd; split; exact runEnd_le _ _ _ h; exact h

theorem extract_self (s : ByteArray) (i : Nat) : s.extract i i = ⟨#[]⟩ := by
  exact ByteArray.size_eq_zero_iff.mp (by simp)

set_option maxHeartbeats 1000000 in
set_option maxRecDepth 20000 in
theorem word_calls (s : ByteArray) (i : Nat) (hi : i ≤ s.size) (hs : s.size ≤ 140737488351232) (w : World) :
    Calls Tryd.prog 40 #[.agg #[.string s, .int .i64 i]] w fun e w' => e = .returned (.string (s.extract i (wordEnd s i))) ∧ Below w.heap.size w w' := by
  by_cases c1 : i < s.size
  · have c1b : decide ((s.size : Int) ≤ (i : Int)) = false := by simp; omega
    have c1c : decide (s.size ≤ i) = false := by simp; omega
    have hx : ((s[i]'c1).toNat : Int) = bt s i := by have := bt_at s i (by simpa using c1); simpa using this
    have p4 : (0 ≤ (i : Int)) = True := eq_true (by omega)
    have q4 : ((i : Int) < (s.size : Int)) = True := eq_true (by omega)
    cases c2 : isLetter (bt s i) with
    | true =>
      have E := Aside0.mk (show wordEnd s i = runEnd cls s i by rw [wordEnd, if_pos ⟨c1, c2⟩])
      have HP := Aside0.mk (show ∀ w, Calls Tryd.prog 70 #[.int .u8 (bt s i)] w fun e w' => e = .returned (.bool true) ∧ Drawn0 w w' from fun w => by have := isLetter_calls (bt s i) w; rw [c2] at this; exact this)
      clear c2
      go_enter Tryd.func40, Tryd.ntmps40
      go_wp2_with (first | (go_at_call 70; refine (HP.out _).mono ?_; rintro e w' ⟨rfl, ⟨nd, rfl⟩⟩) | (go_at_call 71; refine (run_calls 72 cls test_cls s i hi hs _).mono ?_; rintro e w' ⟨rfl, hb⟩))
      go_ret
      exact ⟨ret_s (by rw [E.out]), below_then (by repeat (first | exact Below.refl _ _ | apply below_alloc | apply pw_below_drewN)) (by simp) hb⟩
    | false =>
      have E := Aside0.mk (show wordEnd s i = i by rw [wordEnd, if_neg (by simp [c2])])
      have HP := Aside0.mk (show ∀ w, Calls Tryd.prog 70 #[.int .u8 (bt s i)] w fun e w' => e = .returned (.bool false) ∧ Drawn0 w w' from fun w => by have := isLetter_calls (bt s i) w; rw [c2] at this; exact this)
      clear c2
      go_enter Tryd.func40, Tryd.ntmps40
      go_wp2_with (first | (go_at_call 70; refine (HP.out _).mono ?_; rintro e w' ⟨rfl, ⟨nd, rfl⟩⟩))
      go_ret
      exact ⟨ret_s (by rw [E.out, extract_self]), by repeat (first | exact Below.refl _ _ | apply below_alloc | apply pw_below_drewN)⟩
  · have E := Aside0.mk (show wordEnd s i = i by rw [wordEnd, if_neg (by simp [c1])])
    have c1b : decide ((s.size : Int) ≤ (i : Int)) = true := by simp; omega
    have c1c : decide (s.size ≤ i) = true := by simp; omega
    go_enter Tryd.func40, Tryd.ntmps40
    go_wp2
    go_ret
    exact ⟨ret_s (by rw [E.out, extract_self]), by repeat (first | exact Below.refl _ _ | apply below_alloc | apply pw_below_drewN)⟩
end Go.Proofs.YtmnnhbikdgpedaaDoor.Lx
