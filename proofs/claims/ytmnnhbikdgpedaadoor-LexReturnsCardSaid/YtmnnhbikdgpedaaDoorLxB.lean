/- Contracts of the readers of single tokens of package lex. -/
import Derived.Test.YtmnnhbikdgpedaaDoorLxA
import Derived.Test.YtmnnhbikdgpedaaDoorShelf
namespace Go.Proofs.YtmnnhbikdgpedaaDoor.Lx
open Go.RowKit Go.Proofs.YtmnnhbikdgpedaaDoorW.PrintWords Go.Proofs.YtmnnhbikdgpedaaDoorW.PrintLast Go.Proofs.YtmnnhbikdgpedaaDoorW.PrintMore
set_option linter.unusedVariables false
set_option linter.unusedSimpArgs false

/-- Whether a string stands at a place. -/
def hasAt (s : ByteArray) (i : Nat) (p : ByteArray) : Bool := Go.Lib.hasPrefix (s.extract i s.size).data.toList p.data.toList

set_option maxRecDepth 20000 in
theorem has_calls (s p : ByteArray) (i : Nat) (hi : i ≤ s.size) (hs : s.size ≤ 140737488351232) (w : World) :
    Calls Tryd.prog 89 #[.agg #[.string s, .int .i64 i], .string p] w fun e w' => e = .returned (.bool (hasAt s i p)) ∧ Below w.heap.size w w' := by
  have p1 : decide ((i : Int) ≤ (s.size : Int)) = true := by simp; omega
  have p2 : ((i : Int) ≤ (s.size : Int)) = True := eq_true (by omega)
  go_enter Tryd.func89, Tryd.ntmps89
  go_wp2_with (first | (go_at_call 104; refine (Tryd.strings_HasPrefix _ _ _).mono ?_; rintro e w' ⟨rfl, rfl⟩))
  go_ret
  exact ⟨ret_b (by simp [hasAt]), by repeat (first | exact Below.refl _ _ | apply below_alloc | apply pw_below_drewN)⟩

set_option maxRecDepth 20000 in
theorem made_calls (s t : ByteArray) (i kind : Int) (w : World) :
    Calls Tryd.prog 123 #[.agg #[.string s, .int .i64 i], .int .i64 kind, .string t] w fun e w' => e = .returned (.agg #[.int .i64 kind, .string t, .int .i64 i, .int .i64 0]) ∧ Below w.heap.size w w' := by
  go_enter Tryd.func123, Tryd.ntmps123
  go_wp2
  go_returns
  exact ⟨rfl, by repeat (first | exact Below.refl _ _ | apply below_alloc | apply pw_below_drewN)⟩

set_option maxRecDepth 20000 in
theorem wrong_calls (s : ByteArray) (i bad : Int) (w : World) :
    Calls Tryd.prog 67 #[.agg #[.string s, .int .i64 i], .int .i64 bad] w fun e w' => e = .returned (.agg #[.int .i64 0, .string ⟨#[]⟩, .int .i64 i, .int .i64 bad]) ∧ Below w.heap.size w w' := by
  go_enter Tryd.func67, Tryd.ntmps67
  go_wp2
  go_returns
  exact ⟨rfl, by repeat (first | exact Below.refl _ _ | apply below_alloc | apply pw_below_drewN)⟩

set_option maxRecDepth 20000 in
theorem letters_calls (s : ByteArray) (i : Nat) (hi : i < s.size) (hs : s.size ≤ 140737488351232) (w : World) :
    Calls Tryd.prog 106 #[.agg #[.string s, .int .i64 i]] w fun e w' => e = .returned (.bool (isLetter (bt s i))) ∧ Below w.heap.size w w' := by
  have hx : ((s[i]'hi).toNat : Int) = bt s i := by have := bt_at s i (by simpa using hi); simpa using this
  have p4 : (0 ≤ (i : Int)) = True := eq_true (by omega)
  have q4 : ((i : Int) < (s.size : Int)) = True := eq_true (by omega)
  go_enter Tryd.func106, Tryd.ntmps106
  go_wp2_with (first | (go_at_call 70; refine (isLetter_calls _ _).mono ?_; rintro e w' ⟨rfl, ⟨nd, rfl⟩⟩))
  go_ret
  exact ⟨rfl, by repeat (first | exact Below.refl _ _ | apply below_alloc | apply pw_below_drewN)⟩

set_option maxRecDepth 20000 in
theorem digits_calls (s : ByteArray) (i : Nat) (hi : i < s.size) (hs : s.size ≤ 140737488351232) (w : World) :
    Calls Tryd.prog 108 #[.agg #[.string s, .int .i64 i]] w fun e w' => e = .returned (.bool (isDigit (bt s i))) ∧ Below w.heap.size w w' := by
  have hx : ((s[i]'hi).toNat : Int) = bt s i := by have := bt_at s i (by simpa using hi); simpa using this
  have p4 : (0 ≤ (i : Int)) = True := eq_true (by omega)
  have q4 : ((i : Int) < (s.size : Int)) = True := eq_true (by omega)
  go_enter Tryd.func108, Tryd.ntmps108
  go_wp2_with (first | (go_at_call 94; refine (isDigit_calls _ _).mono ?_; rintro e w' ⟨rfl, ⟨nd, rfl⟩⟩))
  go_ret
  exact ⟨rfl, by repeat (first | exact Below.refl _ _ | apply below_alloc | apply pw_below_drewN)⟩

set_option maxRecDepth 20000 in
theorem rest_calls (s : ByteArray) (i : Nat) (hi : i < s.size) (hs : s.size ≤ 140737488351232) (w : World) :
    Calls Tryd.prog 110 #[.agg #[.string s, .int .i64 i]] w fun e w' => e = .returned (.bool true) ∧ Below w.heap.size w w' := by
  have q4 : decide ((i : Int) < (s.size : Int)) = true := by simp; omega
  go_enter Tryd.func110, Tryd.ntmps110
  go_wp2
  go_ret
  exact ⟨ret_b (by simp [hi]), by repeat (first | exact Below.refl _ _ | apply below_alloc | apply pw_below_drewN)⟩
end Go.Proofs.YtmnnhbikdgpedaaDoor.Lx
