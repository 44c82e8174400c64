import Derived.Test.YtillgofjlpjbcaaGreatDoorH1
import Derived.Test.YtillgofjlpjbcaaGreatDoorH2
import Derived.Laws.RangeAny
import Derived.Lib.Strings
import Derived.Test.YtillgofjlpjbcaaGreatDoorHs
import Derived.Lib.AppendIntMem
import Derived.Deep.RegionHeld3
import Derived.RangeFuncCalls
import Derived.OrdersIn
import Derived.Scope
import Derived.Maps.OwnIn
import Derived.ControlIn
import Derived.WalkMore
import Derived.Shelf.Strings.BuilderK
/- Own text: contracts and laws on which the card rests (NnD NnE NnA NnF NmV RaA RaM RaB RaC RaD RaE NnW NnH NmO NmP). -/
set_option linter.unusedVariables false
set_option linter.unusedSimpArgs false
set_option maxRecDepth 1000000
set_option maxHeartbeats 16000000
namespace Go.Proofs.YtillgofjlpjbcaaGreatDoor.Nm
section
open Go.Proofs.YtillgofjlpjbcaaGreatDoorW.PrintLast Go.Proofs.YtillgofjlpjbcaaGreatDoorW.PrintMore Go.Proofs.YtillgofjlpjbcaaGreatDoorW.PrintWords Go.RowKit
theorem when_calls (b : Bool) (e : Int) (w : World) :
 Calls Tryz.prog 65 #[.bool b, .int .i64 e] w fun r w' => r = .returned (.int .i64 (if b = true then e else 0)) ∧ w' = w := by
 cases b <;> (go_enter Tryz.func65, Tryz.ntmps65; go_wp2; go_ret; exact ⟨by simp, rfl⟩)
def isDig (c : UInt8) : Bool := decide (48 ≤ c.toNat) && decide (c.toNat ≤ 57)
/-- What isDigits says. -/
def digitsB (s : ByteArray) : Bool := s.data.toList.all isDig && decide (s.size ≠ 0)
theorem isDig_of {s : ByteArray} (h : s.data.toList.all isDig = true) : DG s.data.toList := by
 intro c hc
 have := List.all_eq_true.1 h c hc
 simpa [isDig] using this
theorem all_take_succ {s : ByteArray} {i : Nat} (h : i < s.size) : (s.data.toList.take (i + 1)).all isDig = ((s.data.toList.take i).all isDig && isDig (s[i]'h)) := by
 have hl : i < s.data.toList.length := by simpa using h
 rw [List.take_succ_eq_append_getElem hl, List.all_append]
 simp
 rfl
theorem all_false {s : ByteArray} {i : Nat} (h : i < s.size) (hd : isDig (s[i]'h) = false) : digitsB s = false := by
 have hl : i < s.data.toList.length := by simpa using h
 have : s.data.toList.all isDig = false := by
  rw [List.all_eq_false]
  refine ⟨s.data.toList[i], List.getElem_mem hl, ?_⟩
  have e : s.data.toList[i] = s[i]'h := by simp; rfl
  rw [e, hd]; simp
 rw [digitsB, this, Bool.false_and]
theorem isDigits_calls (s : ByteArray) (hs : s.size ≤ 1000000) (w : World) :
 Calls Tryz.prog 64 #[.string s] w fun e w' => e = .returned (.bool (digitsB s)) ∧ Below w.heap.size w w' := by
 go_enter Tryz.func64, Tryz.ntmps64
 go_wp2_with fail
 go_loopw [] (fun W => ∃ i, i ≤ s.size ∧ Aside0 ((s.data.toList.take i).all isDig = true) ∧ W = w.iter s i) (fun W => s.size - W.iterPos w.heap.size)
 case atStart => exact ⟨0, Nat.zero_le _, ⟨by simp⟩, rfl⟩
 case round =>
  obtain ⟨i, hi, hall, rfl⟩ := hrel
  have hbi : ∀ k, Below w.heap.size w (w.iter s k) := fun k => below_alloc (Below.refl _ _) _
  have HBI := Aside0.mk hbi
  clear hbi
  by_cases hlt : i < s.size
  ·obtain ⟨c, hc⟩ : ∃ c : Nat, (s[i]'hlt).toNat = c := ⟨_, rfl⟩
   have HC : Aside0 ((s[i]'hlt).toNat = c) := ⟨hc⟩
   by_cases ha : c < 128
   ·have hnx := run_next_ascii (P := Tryz.prog) w s i 0 hlt (by rw [hc]; exact ha)
    rw [hc] at hnx
    clear hc
    by_cases hd1 : c < 48
    ·have hdi : decide ((c : Int) < 48) = true := decide_eq_true (by omega)
     go_wp2
     go_ret
     exact ⟨ret_b (all_false hlt (by simp [isDig, HC.out]; omega)).symm, HBI.out _⟩
    ·have hdi : decide ((c : Int) < 48) = false := decide_eq_false (by omega)
     by_cases hd2 : 57 < c
     ·have hdj : decide ((57 : Int) < (c : Int)) = true := decide_eq_true (by omega)
      go_wp2
      go_ret
      exact ⟨ret_b (all_false hlt (by simp [isDig, HC.out]; omega)).symm, HBI.out _⟩
     ·have hdj : decide ((57 : Int) < (c : Int)) = false := decide_eq_false (by omega)
      go_wp2
      go_roundw
      case rel => exact ⟨i + 1, hlt, ⟨by rw [all_take_succ hlt, hall.out]; simp [isDig, HC.out]; omega⟩, rfl⟩
      case measure => simp; omega
   ·have hh := decode_high s i hlt (by omega)
    have hl := decode_le s i
    have hnx := run_next_any (P := Tryz.prog) w s i 0 hlt
    obtain ⟨d, hd⟩ : ∃ d, (Utf8.decode s i).1 = d := ⟨_, rfl⟩
    rw [hd] at hnx hh hl
    have hdi : decide ((d : Int) < 48) = false := decide_eq_false (by omega)
    have hdj : decide ((57 : Int) < (d : Int)) = true := decide_eq_true (by omega)
    have hne : ¬ c < 128 := ha
    clear hc hd
    go_wp2
    go_ret
    exact ⟨ret_b (all_false hlt (by simp [isDig, HC.out]; omega)).symm, HBI.out _⟩
  ·have hnx := run_next_end (P := Tryz.prog) w s i 0 hlt
   obtain rfl : i = s.size := by omega
   go_wp2
   go_ret
   refine ⟨ret_b ?_, HBI.out _⟩
   have ha := hall.out
   rw [List.take_of_length_le (by simp)] at ha
   rw [digitsB, ha, Bool.true_and]
   rw [Lib.toList_data, Bool.eq_iff_iff]
   simp [List.isEmpty_iff]
   constructor
   ·intro h e; rw [e] at h; exact h rfl
   ·intro h e; exact h (ByteArray.ext e)
/-- The digits of a decimal string, and whether it has a minus. -/
def bodyB (s : ByteArray) : ByteArray := ⟨(Lib.trimPrefix s.data.toList [45]).toArray⟩
def minusB (s : ByteArray) : Bool := Lib.hasPrefix s.data.toList [45]
/-- What Check says. -/
def checkI (s : ByteArray) : Int :=
 if digitsB (bodyB s) = false then 1 else if (bodyB s).data.toList.head? = some 48 ∧ (minusB s = true ∨ 1 < (bodyB s).size) then 1 else if 120 < (bodyB s).size then 4 else 0
theorem cut_calls (s : ByteArray) (w : World) : Calls Tryz.prog 63 #[.string s, .string ⟨#[45]⟩] w fun e w' => e = .returned (.tuple #[.string (bodyB s), .bool (minusB s)]) ∧ w' = w :=
 Tryz.strings_CutPrefix s ⟨#[45]⟩ w
theorem bodyB_size (s : ByteArray) : (bodyB s).size ≤ s.size := by
 show (Lib.trimPrefix s.data.toList [45]).toArray.size ≤ s.data.size
 unfold Lib.trimPrefix
 split <;> simp
theorem head_of {b : ByteArray} (h : 0 < b.size) : b.data.toList.head? = some (b[0]'h) := by
 have hl : 0 < b.data.toList.length := by simpa using h
 rw [List.head?_eq_getElem?, List.getElem?_eq_getElem hl]
 simp; rfl
theorem digits_pos {b : ByteArray} (h : digitsB b = true) : 0 < b.size := by
 unfold digitsB at h
 simp only [Bool.and_eq_true, decide_eq_true_eq] at h
 omega
theorem check_calls (s : ByteArray) (hs : s.size ≤ 1000000) (w : World) :
 Calls Tryz.prog 12 #[.string s] w fun e w' => e = .returned (.int .i64 (checkI s)) ∧ Below w.heap.size w w' := by
 have hbs := bodyB_size s
 have HCUT : Aside0 (∀ w : World, Calls Tryz.prog 63 #[.string s, .string ⟨#[45]⟩] w fun e w' => e = .returned (.tuple #[.string (bodyB s), .bool (minusB s)]) ∧ w' = w) := ⟨cut_calls s⟩
 have HR := Aside0.mk (show checkI s = checkI s from rfl)
 unfold checkI at HR
 obtain ⟨R, hR⟩ : ∃ R, checkI s = R := ⟨_, rfl⟩
 unfold checkI at hR
 generalize hb : bodyB s = b at *
 generalize hm : minusB s = m at *
 have hgoal : checkI s = R := by unfold checkI; rw [hb, hm]; exact hR
 rw [hgoal]
 clear hgoal HR hb hm
 have hbl : b.size ≤ 1000000 := by omega
 by_cases hd : digitsB b = true
 ·have h0 := digits_pos hd
  rw [if_neg (by rw [hd]; simp), head_of h0] at hR
  obtain ⟨c, hc⟩ : ∃ c, b[0]'h0 = c := ⟨_, rfl⟩
  rw [hc] at hR
  have HD : Aside0 (digitsB b = true) := ⟨hd⟩
  have HI : Aside0 (∀ w : World, Calls Tryz.prog 64 #[.string b] w fun e w' => e = .returned (.bool true) ∧ Below w.heap.size w w') := ⟨fun w => by rw [← hd]; exact isDigits_calls b hbl w⟩
  clear hd
  have hlen : ∀ k : Nat, (k : Int) < (b.size : Int) ↔ k < b.size := fun k => by omega
  by_cases hc8 : c = 48
  ·subst hc8
   cases m
   ·by_cases hl1 : 1 < b.size
    ·have hd1 : decide ((1 : Int) < (b.size : Int)) = true := decide_eq_true (by omega)
     rw [if_pos ⟨rfl, .inr hl1⟩] at hR
     subst hR
     (go_enter Tryz.func12, Tryz.ntmps12; go_wp2_with (first | (go_at_call 63; (with_reducible refine (HCUT.out _).mono ?_); rintro e w' ⟨rfl, rfl⟩) | (go_at_call 64; (with_reducible refine (HI.out _).mono ?_); rintro e w1 ⟨rfl, hb1⟩) | (go_at_call 65; (with_reducible refine (when_calls _ _ _).mono ?_); rintro e w' ⟨rfl, rfl⟩)); go_ret; exact ⟨by first | rfl | simp, hb1⟩)
    ·have hd1 : decide ((1 : Int) < (b.size : Int)) = false := decide_eq_false (by omega)
     have hd2 : decide ((120 : Int) < (b.size : Int)) = false := decide_eq_false (by omega)
     rw [if_neg (by simp; omega), if_neg (by omega)] at hR
     subst hR
     (go_enter Tryz.func12, Tryz.ntmps12; go_wp2_with (first | (go_at_call 63; (with_reducible refine (HCUT.out _).mono ?_); rintro e w' ⟨rfl, rfl⟩) | (go_at_call 64; (with_reducible refine (HI.out _).mono ?_); rintro e w1 ⟨rfl, hb1⟩) | (go_at_call 65; (with_reducible refine (when_calls _ _ _).mono ?_); rintro e w' ⟨rfl, rfl⟩)); go_ret; exact ⟨by first | rfl | simp, hb1⟩)
   ·rw [if_pos ⟨rfl, .inl rfl⟩] at hR
    subst hR
    ·(go_enter Tryz.func12, Tryz.ntmps12; go_wp2_with (first | (go_at_call 63; (with_reducible refine (HCUT.out _).mono ?_); rintro e w' ⟨rfl, rfl⟩) | (go_at_call 64; (with_reducible refine (HI.out _).mono ?_); rintro e w1 ⟨rfl, hb1⟩) | (go_at_call 65; (with_reducible refine (when_calls _ _ _).mono ?_); rintro e w' ⟨rfl, rfl⟩)); go_ret; exact ⟨by first | rfl | simp, hb1⟩)
  ·have hcn : ¬ c.toNat = 48 := fun e => hc8 (by apply UInt8.toNat_inj.1; rw [e]; rfl)
   have hci : ((c.toNat : Int) == 48) = false := by simp; omega
   have hcd : decide ((c.toNat : Int) = 48) = false := decide_eq_false (by omega)
   rw [if_neg (by simp [hc8])] at hR
   by_cases hl1 : 120 < b.size
   ·have hd1 : decide ((120 : Int) < (b.size : Int)) = true := decide_eq_true (by omega)
    rw [if_pos hl1] at hR
    subst hR
    ·(go_enter Tryz.func12, Tryz.ntmps12; go_wp2_with (first | (go_at_call 63; (with_reducible refine (HCUT.out _).mono ?_); rintro e w' ⟨rfl, rfl⟩) | (go_at_call 64; (with_reducible refine (HI.out _).mono ?_); rintro e w1 ⟨rfl, hb1⟩) | (go_at_call 65; (with_reducible refine (when_calls _ _ _).mono ?_); rintro e w' ⟨rfl, rfl⟩)); go_ret; exact ⟨by first | rfl | simp, hb1⟩)
   ·have hd1 : decide ((120 : Int) < (b.size : Int)) = false := decide_eq_false (by omega)
    rw [if_neg hl1] at hR
    subst hR
    ·(go_enter Tryz.func12, Tryz.ntmps12; go_wp2_with (first | (go_at_call 63; (with_reducible refine (HCUT.out _).mono ?_); rintro e w' ⟨rfl, rfl⟩) | (go_at_call 64; (with_reducible refine (HI.out _).mono ?_); rintro e w1 ⟨rfl, hb1⟩) | (go_at_call 65; (with_reducible refine (when_calls _ _ _).mono ?_); rintro e w' ⟨rfl, rfl⟩)); go_ret; exact ⟨by first | rfl | simp, hb1⟩)
 ·have hd' : digitsB b = false := by simpa using hd
  have HI : Aside0 (∀ w : World, Calls Tryz.prog 64 #[.string b] w fun e w' => e = .returned (.bool false) ∧ Below w.heap.size w w') := ⟨fun w => by rw [← hd']; exact isDigits_calls b hbl w⟩
  rw [if_pos hd'] at hR
  subst hR
  clear hd hd'
  ·(go_enter Tryz.func12, Tryz.ntmps12; go_wp2_with (first | (go_at_call 63; (with_reducible refine (HCUT.out _).mono ?_); rintro e w' ⟨rfl, rfl⟩) | (go_at_call 64; (with_reducible refine (HI.out _).mono ?_); rintro e w1 ⟨rfl, hb1⟩) | (go_at_call 65; (with_reducible refine (when_calls _ _ _).mono ?_); rintro e w' ⟨rfl, rfl⟩)); go_ret; exact ⟨by first | rfl | simp, hb1⟩)
end
section
open Go.Proofs.YtillgofjlpjbcaaGreatDoorW.PrintLast Go.Proofs.YtillgofjlpjbcaaGreatDoorW.PrintMore Go.Proofs.YtillgofjlpjbcaaGreatDoorW.PrintWords Go.RowKit Go.Shelf
/-- The table of powers of ten, as its initialiser lays it. -/
def Tens (w : World) : Prop := Lib.TabIs Tryz.prog w "internal/strconv.uint64pow10" .u64 Lib.pow10Tab
theorem below_grow (w : World) (k : Nat) (os : Array Obj) : Below w.heap.size w (Sort.grow (w.drewN k) os) :=
 ⟨rfl, rfl, rfl, by simp [Sort.grow, World.drewN], fun j hj => by simp [Sort.grow, World.drewN, Array.getElem?_append_left hj]⟩
theorem formatUint0_calls (u : Nat) (hu64 : u < 18446744073709551616) (w : World) (htab : Tens w) :
 Calls Tryz.prog 116 #[.int .u64 u, .int .i64 10] w fun e w' => e = .returned (.string ⟨(Lib.decDigits u).toArray⟩) ∧ Below w.heap.size w w' := by
 by_cases h100 : u < 100
 ·have hd : decide ((u : Int) < 100) = true := decide_eq_true (by omega)
  have hc : IntKind.i64.wrap (u : Int) = (u : Int) := IntWalk.i64_in _ (by omega)
  go_enter Tryz.func116, Tryz.ntmps116
  go_wp2_with (go_at_call 155; (with_reducible refine (Tryz.internal_strconv_small u h100 _).mono ?_); rintro e w' ⟨rfl, rfl⟩)
  go_ret
  exact ⟨rfl, Below.refl _ _⟩
 ·have hd : decide ((u : Int) < 100) = false := decide_eq_false (by omega)
  have hu1 : 1 ≤ u := by omega
  have htab' : Lib.TabIs Tryz.prog w "internal/strconv.uint64pow10" .u64 Lib.pow10Tab := htab
  have hnd20 : Lib.nDigits u ≤ 20 := by have := Lib.numDigits_eq u hu1 hu64; split at this <;> omega
  have hb : Lib.nDigits u ≤ 24 := by omega
  have hal : Tryz.prog.arrayLen 176 = 24 := by kernel_rfl
  have hsl : ∀ W, (Instr.sliceAt 176 (.pointer (some ⟨w.heap.size, 0, none⟩)) none (some (.int .i64 (Lib.nDigits u : Int))) none).run Tryz.prog W = .ok (.slice (some ⟨w.heap.size, 0, none⟩) (Lib.nDigits u) 24) W := fun W => by
   rw [run_sliceAt_array_h W 176 ⟨w.heap.size, 0, none⟩ (by kernel_rfl) .i64 (Lib.nDigits u : Int) (by omega) (by rw [hal]; omega)]
   go_simp
  have hH0 := Lib.holds_zero0 w 176 (Lib.nDigits u) hb
  have hfmt := Tryz.internal_strconv_formatBase10 w.heap.size 0 24 u (Array.replicate (Lib.nDigits u) 0) (w.alloc (.cells Lib.zeros24 176)) hH0 (by rw [Array.size_replicate]; exact Lib.lt_pow_nDigits u) hu64 (by rw [Array.size_replicate]; omega)
  rw [Array.size_replicate] at hfmt
  have HH0 := Lib.hid hH0
  clear hH0 hal
  go_enter Tryz.func116, Tryz.ntmps116
  go_wp2_with (go_at_call 156; (with_reducible refine (Tryz.internal_strconv_numDigits u hu1 hu64 _ (Lib.tabIs_alloc htab' _)).mono ?_); rintro e w' ⟨rfl, rfl⟩)
  go_at_call 157
  refine hfmt.mono ?_
  rintro e w' ⟨rfl, k, v', dk, rfl, hF⟩
  have hcv : (convert 146 9 (.slice (some ⟨w.heap.size, 0, none⟩) (Lib.nDigits u) 24)).run Tryz.prog ((Sort.putRow (fun (b : UInt8) => Value.int .u8 (b.toNat : Int)) (w.alloc (.cells Lib.zeros24 176)) w.heap.size 0 dk).drewN k) = .ok (.string ⟨(Lib.decDigits u).toArray⟩) ((Sort.putRow (fun (b : UInt8) => Value.int .u8 (b.toNat : Int)) (w.alloc (.cells Lib.zeros24 176)) w.heap.size 0 dk).drewN k) := by
   have h := run_convert_bytes_back (P := Tryz.prog) ((Sort.putRow (fun (b : UInt8) => Value.int .u8 (b.toNat : Int)) (w.alloc (.cells Lib.zeros24 176)) w.heap.size 0 dk).drewN k) 146 9 5 ⟨w.heap.size, 0, none⟩ 24 (Lib.decDigits u) Tryz.underlying146 Tryz.underlying5 Tryz.underlying9 (fun j hj => by
    rw [Lib.row_is_numeral hF j hj, Lib.add_plain, World.cell?_drewN]
    exact Sort.cell?_putRow (fun (b : UInt8) => Value.int .u8 (b.toNat : Int)) _ w.heap.size 0 _ dk HH0.out (by rw [hF.size, Array.size_replicate]) j (by rw [hF.size]; rw [Lib.decDigits_length] at hj; exact hj))
   rw [Lib.decDigits_length] at h
   exact h
  go_wp2
  go_ret
  obtain ⟨os, eo⟩ := Lib.fin_at w (.cells Lib.zeros24 176) dk k 0
  refine ⟨rfl, ?_⟩
  rw [eo]
  exact below_grow w k os
theorem Tens.below {w w' : World} (h : Tens w) (hb : Below w.heap.size w w') : Tens w' := by
 unfold Tens Lib.TabIs World.var? at *
 cases hg : Tryz.prog.globalNamed "internal/strconv.uint64pow10" with
 | none => simp [hg] at h
 | some g =>
   simp only [hg, Option.bind_some] at h ⊢
   have hlt : g < w.heap.size := by
    rcases Nat.lt_or_ge g w.heap.size with h' | h'
    ·exact h'
    ·rw [Array.getElem?_eq_none h'] at h; simp at h
   rw [hb.block g hlt]
   exact h
theorem formatUint_calls (u : Nat) (hu64 : u < 18446744073709551616) (w : World) (htab : Tens w) :
 Calls Tryz.prog 49 #[.int .u64 u, .int .i64 10] w fun e w' => e = .returned (.string ⟨(Lib.decDigits u).toArray⟩) ∧ Below w.heap.size w w' := by
 go_enter Tryz.func49, Tryz.ntmps49
 go_wp2_with (go_at_call 116; (with_reducible refine (formatUint0_calls u hu64 _ htab).mono ?_); rintro e w' ⟨rfl, hb⟩)
 go_ret
 exact ⟨rfl, hb⟩
end
section
open Go.Proofs.YtillgofjlpjbcaaGreatDoorW.PrintLast Go.Proofs.YtillgofjlpjbcaaGreatDoorW.PrintMore Go.Proofs.YtillgofjlpjbcaaGreatDoorW.PrintWords Go.RowKit
/-- The first of some errors. -/
def firstI : List Int → Int
 | [] => 0
 | e :: es => if e = 0 then firstI es else e
theorem firstI_skip : ∀ (es : List Int) (i : Nat), (∀ e ∈ es.take i, e = 0) → firstI es = firstI (es.drop i)
 | es, 0, _ => rfl
 | [], i + 1, _ => by simp
 | e :: es, i + 1, h => by
   have h0 : e = 0 := h e (by simp)
   rw [firstI, if_pos h0, List.drop_succ_cons]
   exact firstI_skip es i (fun d hd => h d (by simp [hd]))
theorem first_calls {w : World} {g n : Nat} (es : List Int) (hn : es.length = n) (hl : n ≤ 1000) (hc : ∀ j, j < n → w.cell? ⟨g, j, none⟩ = some (.int .i64 (es.getD j 0))) :
 Calls Tryz.prog 88 #[.slice (some ⟨g, 0, none⟩) n n] w fun e w' => e = .returned (.int .i64 (firstI es)) ∧ w' = w := by
 have HC := Aside0.mk hc
 clear hc
 go_enter Tryz.func88, Tryz.ntmps88
 go_wp2_with fail
 go_loopw [7] (fun v7 W => ∃ i : Nat, v7 = .int .i64 (i : Int) ∧ i ≤ n ∧ W = w ∧ Aside0 (∀ e ∈ es.take i, e = 0)) (fun v7 _ => n - (intOf v7).toNat)
 case atStart => exact ⟨0, rfl, Nat.zero_le _, rfl, ⟨by simp⟩⟩
 case round =>
  obtain ⟨i, rfl, hi, rfl, hz⟩ := hrel
  by_cases hlt : i < n
  ·have hci := HC.out i hlt
   have hli : i < es.length := by omega
   obtain ⟨d, hd⟩ : ∃ d, es.getD i 0 = d := ⟨_, rfl⟩
   rw [hd] at hci
   have hdi : es[i] = d := by rw [← hd]; simp [List.getD_eq_getElem?_getD, hli]
   have hlt' : (i : Int) < (n : Int) := by omega
   have e1 : IntKind.i64.wrap ((i : Int) + 1) = ((i + 1 : Nat) : Int) := by rw [IntWalk.i64_in _ (by omega)]; omega
   have HD := Aside0.mk hdi
   clear hd hdi
   by_cases h0 : d = 0
   ·subst h0
    go_wp2
    go_roundw
    case rel =>
     refine ⟨i + 1, by first | rfl | go_num, hlt, by first | rfl | trivial, ⟨fun e he => ?_⟩⟩
     rw [List.take_succ_eq_append_getElem hli] at he
     rcases List.mem_append.1 he with he | he
     ·exact hz.out e he
     ·rw [List.mem_singleton.1 he]; exact HD.out
    case measure => simp [intOf]; omega
   ·have hb : (d != 0) = true := by simp [h0]
    go_wp2
    go_ret
    refine ⟨?_, rfl⟩
    rw [firstI_skip es i hz.out, List.drop_eq_getElem_cons hli, firstI, HD.out, if_neg h0]
    rfl
  ·obtain rfl : i = n := by omega
   go_wp2
   go_ret
   refine ⟨?_, rfl⟩
   rw [firstI_skip es i hz.out, List.drop_of_length_le (by omega)]
   rfl
theorem fromInt_calls (n : Int) (h0 : -9223372036854775808 ≤ n) (h1 : n ≤ 9223372036854775807) (w : World) (htab : Tens w) :
 Calls Tryz.prog 14 #[.int .i64 n] w fun e w' => e = .returned (.string ⟨(Lib.itoa n).toArray⟩) ∧ Below w.heap.size w w' := by
 go_enter Tryz.func14, Tryz.ntmps14
 go_wp2_with (go_at_call 68; (refine (Tryz.strconv_Itoa n h0 h1 _ htab).mono ?_); rintro e w' ⟨rfl, k, os, rfl⟩)
 go_ret
 exact ⟨rfl, below_grow _ _ _⟩
end
section
open Go
/-- No operation is a defer statement. -/
def plainOps (ops : Array Oper) : Bool := ops.all fun o => match o.op with | .defer _ => false | _ => true
theorem plainOps_at {ops : Array Oper} (h : plainOps ops = true) {i : Nat} {o : Oper} (ho : ops[i]? = some o) : ∀ c, o.op ≠ .defer c := by
 intro c e
 have hm : o ∈ ops := Array.mem_of_getElem? ho
 have := (Array.all_eq_true_iff_forall_mem.1 h) o hm
 simp [e] at this
theorem rowsIn_round {l n : Nat} {P : Program} {row : String} {args : Array Value} {w : World} {R : Value → World → Prop} (h : Rows P row args w R) : RowsIn (Fence.wide.inRound l) n P row args w R :=
 fun c cs _ => let ⟨v, w', r, s⟩ := h c cs; ⟨v, w', r, stepsIn_wide.2 s⟩
theorem wpOpIn_round {l n : Nat} {P : Program} {ops : Array Oper} {Q : Exit → Act → World → Prop} (hp : plainOps ops = true) (hout : ¬ LetsOut Q) {i : Nat} {K K' : Act → World → Prop} (hk : ∀ a w, K a w → K' a w) {a : Act} {w : World}
 (h : wpOp P ops Q i K a w) : wpOpIn (Fence.wide.inRound l) n P ops Q i K' a w := by
 unfold wpOp at h
 unfold wpOpIn
 split
 ·rename_i hn
  rw [hn] at h
  exact hk _ _ h
 ·rename_i o ho
  rw [ho] at h
  simp only at h
  split
  ·rename_i hw
   rw [if_pos hw] at h
   rcases h with h | h
   ·refine ⟨fun _ _ => trivial, ?_⟩
    rw [Oper.semAt_eq _ _ _ (plainOps_at hp ho)]
    unfold Oper.wp at h
    generalize (execOp a.eval o).run P w = r at *
    cases r with
    | ok x w' =>
      cases x <;> simp only [Oper.upon, Oper.uponIn] at h ⊢
      case value => exact hk _ _ h
      case skip => exact hk _ _ h
      case defer => exact hk _ _ h
      case enter f args =>
       refine ⟨fun e => by simp [Fence.wide, Fence.inRound] at e, ?_⟩
       refine ((callsIn_wide.2 h).inRound l).mono ?_
       intro e w2 he
       cases e with
       | returned v => exact hk _ _ he
       | panicked c => exact he
       | outgrown => exact he
      case row row args =>
       refine ⟨fun e => by simp [Fence.wide, Fence.inRound] at e, ?_⟩
       exact rowsIn_round (h.mono fun v w2 he => hk _ _ he)
    | halt x w' => cases x <;> simp only [Oper.upon, Oper.uponIn] at h ⊢ <;> exact h
   ·exact absurd h.2 hout
  ·rename_i hw
   rw [if_neg hw] at h
   exact ⟨fun _ _ => trivial, hk _ _ h⟩
theorem wpAnyIn_round {l n : Nat} {P : Program} {md : Region.Mode} {ops : Array Oper} {Q : Exit → Act → World → Prop} (hp : plainOps ops = true) (hout : ¬ LetsOut Q) :
 ∀ (fuel : Nat) (listed : Array Bool) (a : Act) (w : World), wpAny P md ops Q fuel listed a w → wpAnyIn (Fence.wide.inRound l) n P md ops Q fuel listed a w
 | 0, _, _, _, h => h
 | fuel + 1, _, _, _, h => ⟨h.1, fun i hi => wpOpIn_round hp hout (fun a w h' => wpAnyIn_round hp hout fuel _ a w h') (h.2 i hi)⟩
theorem wpIn_round_held_drew {l n : Nat} {P : Program} {ops : Array Oper} {Q : Exit → Act → World → Prop} {S : World → Prop} {id : Nat} {a : Act} {w : World} (hm : P.follows .mixedOrders = true) (hp : plainOps ops = true) (hout : ¬ LetsOut Q) (hS : S w.drew)
 (h : S w.drew → wpAnyH P .any ops Q S ops.size (Array.replicate ops.size false) a w.drew) : (Code.region id ops true).wpIn (Fence.wide.inRound l) n P Q a w :=
 wpIn_region_any hm (wpAnyIn_round hp hout _ _ _ _ (wpAny_of_held _ _ _ _ (h hS)))
theorem letsOut_then {K : Act → World → Prop} {Q : Exit → Act → World → Prop} (h : ¬ LetsOut Q) : ¬ LetsOut (Exit.then K Q) := fun ⟨a, w, e⟩ => h ⟨a, w, e⟩
/-- A scope that nothing jumps out of or about in, in a round. -/
theorem wpIn_scope_straight {F : Fence} {n : Nat} {P : Program} {c : Code} {Q : Exit → Act → World → Prop} {a : Act} {w : World} (h : c.wpIn F n P (Exit.noGoto Q) a w) : (Code.scope c).wpIn F n P Q a w := by
 intro b k cs hro hb hr
 have h0 : (lone (b.atR a (.code (.scope c) :: k)) cs w).fenced P F := fenced_calm hb hr rfl
 have s0 : step P (lone (b.atR a (.code (.scope c) :: k)) cs w) = .next (lone (b.atR a (.code c :: .inScope c :: k)) cs w) := step_lone_go (by simp [stepG, stepG.exec, Frame.atR])
 obtain ⟨e, a₁, w₁, hq, harr⟩ := h b (.inScope c :: k) cs hro hb hr
 have s1 : step P (lone (b.atR a₁ (.inScope c :: k)) cs w₁) = .next (lone (b.atR a₁ k) cs w₁) := step_lone_go (by simp [stepG, stepG.exec, Frame.atR])
 cases e with
 | normal => exact ⟨.normal, a₁, w₁, hq, .head h0 s0 (StepsIn.trans harr (.one (fenced_calm hb hr rfl) s1))⟩
 | exit id' =>
   have hx : exitTo id' (.inScope c :: k) = exitTo id' k := by simp [exitTo]
   exact ⟨.exit id', a₁, w₁, hq, fun k' hk => .head h0 s0 (harr.1 k' (by rw [hx]; exact hk)),
    fun hr' hk => let ⟨k₁, h1, h2⟩ := harr.2 hr' (by rw [hx]; exact hk); ⟨k₁, h1, .head h0 s0 h2⟩⟩
 | goto l => exact hq.elim
 | ret => exact ⟨_, a₁, w₁, hq, .of_steps (.one h0 s0) harr⟩
 | panic ch => exact ⟨_, a₁, w₁, hq, .of_steps (.one h0 s0) harr⟩
 | outgrown => exact ⟨_, a₁, w₁, hq, .of_steps (.one h0 s0) harr⟩
theorem noGoto_normal {Q : Exit → Act → World → Prop} {a : Act} {w : World} (h : Q .normal a w) : Exit.noGoto Q .normal a w := h
/-- append, by the equation of its run. -/
theorem wpListIn_append_run {F : Fence} {nF : Nat} {P : Program} {w w' : World} {ops : Array Oper} {rest : List Oper} {o : Oper} {a : Act} {Q : Exit → Act → World → Prop} (hgd : o.guard = none) (s x : Operand) (t : TypeId)
 (ho : o.op = .call { callee := .builtin .append, args := #[s, x], argTypes := #[t, t] }) {v vs vx : Value} (hs : a.eval s = vs) (hx : a.eval x = vx) (hr : (Builtin.append_ #[t, t] o.type #[vs, vx]).run P w = .ok v w')
 (h : wpListIn F nF P ops Q rest (a.put o.dst v) w') : wpListIn F nF P ops Q (o :: rest) a w := by
 refine wpListIn_plain hgd fun K hK => ?_
 unfold Oper.wpIn
 refine ⟨by simp [Oper.about, ho, resolve, Target.leads, Sem.run_pure], ?_⟩
 rw [Oper.semAt_plain F _ _ (by rw [ho]; intro c hc'; cases hc')]
 simp [execOp, ho, resolve, invoke, builtin, hs, hx, hr, Result.andThen]
 exact hK _ _ h
/-- A code's end as a word about its values and its world. -/
theorem wpIn_midC {F : Fence} {n : Nat} {P : Program} {c : Code} {Q : Exit → Act → World → Prop} {a : Act} {w : World} (M : Array Value → Array Value → World → Prop)
 (h : c.wpIn F n P (fun e a' w' => match e with | .normal => a'.defers = a.defers ∧ M a.tmps a'.tmps w' | _ => False) a w) (hk : ∀ T w', M a.tmps T w' → Q .normal { tmps := T, defers := a.defers } w') : c.wpIn F n P Q a w :=
 wpIn_mono h (fun e a' w' h => by
  cases e <;> first | exact h.elim | skip
  obtain ⟨h1, h2⟩ := h
  have := hk _ _ h2
  rw [← h1] at this
  exact this)
end
section
open Go.Proofs.YtillgofjlpjbcaaGreatDoorW.PrintLast Go.Proofs.YtillgofjlpjbcaaGreatDoorW.PrintMore Go.Proofs.YtillgofjlpjbcaaGreatDoorW.PrintWords Go.RowKit Go.Shelf
abbrev QQ : Nat := 10000
theorem QQ1 : 1 < QQ := by decide
/-- Limbs as ints. -/
def li (xs : List Nat) : List Int := xs.map fun d : Nat => (d : Int)
theorem li_len (xs : List Nat) : (li xs).length = xs.length := by simp [li]
theorem rd_li (xs : List Nat) (i : Nat) : rd (li xs) (i : Int) = (xs.getD i 0 : Nat) := by
 unfold rd li
 rw [Int.toNat_natCast, List.getD_eq_getElem?_getD, List.getD_eq_getElem?_getD, List.getElem?_map]
 cases xs[i]? <;> rfl
/-- A slice of ints that holds these limbs. -/
def RL (w : World) (A : Option Addr) (L : Nat) (xs : List Nat) : Prop := Kd.C (Kd.int .i64) w A L (li xs)
/-- A magnitude of the reference. -/
def RM (w : World) (A : Option Addr) (L n : Nat) : Prop := RL w A L (dg QQ n)
section
variable {w W : World} {A : Option Addr} {L n : Nat} {xs : List Nat}
theorem RL.len (h : RL w A L xs) : xs.length = L := by have := Kd.C_len h; rwa [li_len] at this
theorem RL.below (h : RL w A L xs) (hb : Below w.heap.size w W) : RL W A L xs := Kd.C_below h hb
theorem RM.below (h : RM w A L n) (hb : Below w.heap.size w W) : RM W A L n := RL.below h hb
theorem RM.keep {B : Nat} (h : RM w A L n) (hB : B = w.heap.size) (hb : Below B w W) : RM W A L n := by subst hB; exact h.below hb
theorem RL.at (h : RL w A L xs) {i : Nat} (hi : i < L) : ∃ ad, A = some ad ∧ w.cell? (ad.add i) = some (.int .i64 (xs.getD i 0 : Nat)) := by
 obtain ⟨ad, h1, h2⟩ := Kd.at_int h (i : Int) (by omega) (by omega)
 rw [rd_li, Int.toNat_natCast] at h2
 exact ⟨ad, h1, h2⟩
theorem RM.at (h : RM w A L n) {i : Nat} (hi : i < L) : ∃ ad, A = some ad ∧ w.cell? (ad.add i) = some (.int .i64 (n / QQ ^ i % QQ : Nat)) := by
 obtain ⟨ad, h1, h2⟩ := RL.at h hi
 rw [dg_getD QQ1] at h2
 exact ⟨ad, h1, h2⟩
theorem RM.len (h : RM w A L n) : (dg QQ n).length = L := RL.len h
theorem RM.zero (w : World) : RM w none 0 0 := by
 unfold RM RL
 rw [dg_zero]
 exact (Kd.C_nil (Kd.int .i64) w : (Kd.int .i64).C w none ([] : List Int).length [])
theorem RM.len_zero (h : RM w A L n) : L = 0 ↔ n = 0 := by
 rw [← h.len, List.length_eq_zero_iff, dg_nil QQ1]
theorem RM.over (h : RM w A L n) {i : Nat} (hi : ¬ i < L) : n / QQ ^ i % QQ = 0 := by
 rw [← dg_getD QQ1, List.getD_eq_getElem?_getD, List.getElem?_eq_none (by rw [h.len]; omega)]; rfl
theorem RM.bound (h : RM w A L n) {k : Nat} (hk : n < QQ ^ k) : L ≤ k := by rw [← h.len]; exact dg_length QQ1 _ _ hk
end
theorem rlimb_calls {w : World} {A : Option Addr} {L c n : Nat} (h : RM w A L n) (i : Nat) :
 Calls Tryz.prog 150 #[.slice A L c, .int .i64 (i : Int)] w fun e w' => e = .returned (.int .i64 (n / QQ ^ i % QQ : Nat)) ∧ w' = w := by
 by_cases hi : i < L
 ·obtain ⟨ad, rfl, hc⟩ := h.at hi
  have hi' : (i : Int) < (L : Int) := by omega
  have hL := Kd.C_max h
  generalize n / QQ ^ i % QQ = d at *
  clear h
  go_enter Tryz.func150, Tryz.ntmps150
  go_wp2_with fail
  go_ret
  exact ⟨rfl, rfl⟩
 ·rw [h.over hi]
  have hi' : ¬ (i : Int) < (L : Int) := by omega
  clear h
  go_enter Tryz.func150, Tryz.ntmps150
  go_wp2_with fail
  go_ret
  exact ⟨rfl, rfl⟩
theorem rwhen_calls (b : Bool) (k : Int) (w : World) :
 Calls Tryz.prog 67 #[.bool b, .int .i64 k] w fun e w' => e = .returned (.int .i64 (if b then k else 0)) ∧ w' = w := by
 cases b
 ·go_enter Tryz.func67, Tryz.ntmps67
  go_wp2_with fail
  go_ret
  exact ⟨rfl, rfl⟩
 ·go_enter Tryz.func67, Tryz.ntmps67
  go_wp2_with fail
  go_ret
  exact ⟨rfl, rfl⟩
theorem rfirst_calls {w : World} {g n : Nat} (es : List Int) (hn : es.length = n) (hl : n ≤ 1000) (hc : ∀ j, j < n → w.cell? ⟨g, j, none⟩ = some (.int .i64 (es.getD j 0))) :
 Calls Tryz.prog 81 #[.slice (some ⟨g, 0, none⟩) n n] w fun e w' => e = .returned (.int .i64 (firstI es)) ∧ w' = w := by
 have HC := Aside0.mk hc
 clear hc
 go_enter Tryz.func81, Tryz.ntmps81
 go_wp2_with fail
 go_loopw [3] (fun v3 W => ∃ i : Nat, v3 = .int .i64 (i : Int) ∧ i ≤ n ∧ W = w ∧ Aside0 (∀ e ∈ es.take i, e = 0)) (fun v3 _ => n - (intOf v3).toNat)
 case atStart => exact ⟨0, rfl, Nat.zero_le _, rfl, ⟨by simp⟩⟩
 case round =>
  obtain ⟨i, rfl, hi, rfl, hz⟩ := hrel
  by_cases hlt : i < n
  ·have hci := HC.out i hlt
   have hli : i < es.length := by omega
   obtain ⟨d, hd⟩ : ∃ d, es.getD i 0 = d := ⟨_, rfl⟩
   rw [hd] at hci
   have hdi : es[i] = d := by rw [← hd]; simp [List.getD_eq_getElem?_getD, hli]
   have hlt' : (i : Int) < (n : Int) := by omega
   have e1 : IntKind.i64.wrap ((i : Int) + 1) = ((i + 1 : Nat) : Int) := by rw [IntWalk.i64_in _ (by omega)]; omega
   have HD := Aside0.mk hdi
   clear hd hdi
   by_cases h0 : d = 0
   ·subst h0
    go_wp2
    go_roundw
    case rel =>
     refine ⟨i + 1, by first | rfl | go_num, hlt, by first | rfl | trivial, ⟨fun e he => ?_⟩⟩
     rw [List.take_succ_eq_append_getElem hli] at he
     rcases List.mem_append.1 he with he | he
     ·exact hz.out e he
     ·rw [List.mem_singleton.1 he]; exact HD.out
    case measure => simp [intOf]; omega
   ·have hb : (d != 0) = true := by simp [h0]
    go_wp2
    go_ret
    refine ⟨?_, rfl⟩
    rw [firstI_skip es i hz.out, List.drop_eq_getElem_cons hli, firstI, HD.out, if_neg h0]
    rfl
  ·obtain rfl : i = n := by omega
   go_wp2
   go_ret
   refine ⟨?_, rfl⟩
   rw [firstI_skip es i hz.out, List.drop_of_length_le (by omega)]
   rfl
theorem rfirst2_calls (x y : Int) (w : World) (b : Nat) (hb : b = w.heap.size) (t : TypeId) : Calls Tryz.prog 81 #[.slice (some ⟨b, 0, none⟩) 2 2] (w.alloc (.cells #[.int .i64 x, .int .i64 y] t)) fun e w' => e = .returned (.int .i64 (firstI [x, y])) ∧ w' = w.alloc (.cells #[.int .i64 x, .int .i64 y] t) := by
 subst hb
 refine rfirst_calls [x, y] rfl (by omega) (fun j hj => ?_)
 match j, hj with
 | 0, _ => simp
 | 1, _ => simp
theorem rfirst2_ret (x y z : Int) (hz : firstI [x, y] = z) (w : World) (b : Nat) (hb : b = w.heap.size) (t : TypeId) : Calls Tryz.prog 81 #[.slice (some ⟨b, 0, none⟩) 2 2] (w.alloc (.cells #[.int .i64 x, .int .i64 y] t)) fun e w' => e = .returned (.int .i64 z) ∧ w' = w.alloc (.cells #[.int .i64 x, .int .i64 y] t) := by
 subst hz; exact rfirst2_calls x y w b hb t
theorem rfirst3_ret (x y z r : Int) (hr : firstI [x, y, z] = r) (w : World) (b : Nat) (hb : b = w.heap.size) (t : TypeId) : Calls Tryz.prog 81 #[.slice (some ⟨b, 0, none⟩) 3 3] (w.alloc (.cells #[.int .i64 x, .int .i64 y, .int .i64 z] t)) fun e w' => e = .returned (.int .i64 r) ∧ w' = w.alloc (.cells #[.int .i64 x, .int .i64 y, .int .i64 z] t) := by
 subst hb hr
 refine rfirst_calls [x, y, z] rfl (by omega) (fun j hj => ?_)
 match j, hj with
 | 0, _ => simp
 | 1, _ => simp
 | 2, _ => simp
theorem RL.stripped {w : World} {A : Option Addr} {L k : Nat} {xs : List Nat} (h : RL w A L xs) (hd : ∀ d ∈ xs, d < QQ) (hk : k ≤ L)
 (hs : strip (xs.take k) = strip xs) (he : k = 0 ∨ xs.getD (k - 1) 0 ≠ 0) : RM w A k (val QQ xs) := by
 have hl := h.len
 have e : dg QQ (val QQ xs) = xs.take k := by
  rw [← strip_dg QQ1 xs hd, ← hs]
  rcases he with rfl | he
  ·rfl
  ·rcases Nat.eq_zero_or_pos k with rfl | h0
   ·rfl
   ·obtain ⟨k, rfl⟩ : ∃ j, k = j + 1 := ⟨k - 1, by omega⟩
    rw [take_snoc' xs (by omega)]
    exact strip_snoc (by simpa using he) _
 have h2 : (Kd.int .i64).C w A (li xs).length (li xs) := by rw [li_len, hl]; exact h
 have h3 := Kd.C_take h2 (m := k) (by rw [li_len, hl]; exact hk)
 have e2 : (li xs).take k = li (xs.take k) := by unfold li; rw [List.map_take]
 rw [e2, li_len, List.length_take, hl, Nat.min_eq_left hk] at h3
 show RL w A k (dg QQ (val QQ xs))
 rw [e]
 exact h3
theorem rtrim_calls {w : World} {A : Option Addr} {L c : Nat} {xs : List Nat} (h : RL w A L xs) (hc : L ≤ c) (hd : ∀ d ∈ xs, d < QQ) (neg : Bool) :
 Calls Tryz.prog 137 #[.agg #[.bool neg, .slice A L c]] w fun e w' => ∃ k, e = .returned (.agg #[.bool (neg && decide (val QQ xs ≠ 0)), .slice A k c]) ∧ RM w' A k (val QQ xs) ∧ Below w.heap.size w w' := by
 have hmax := Kd.C_max h
 have H := Aside0.mk h
 have HD := Aside0.mk hd
 clear h hd
 go_enter Tryz.func137, Tryz.ntmps137
 go_wp2_with fail
 go_loopw [3] (fun v3 W => ∃ k : Nat, v3 = .int .i64 (k : Int) ∧ k ≤ L ∧ Aside0 (strip (xs.take k) = strip xs) ∧ W = (w.alloc (.cells #[.bool neg, .slice A L c] 77)).alloc (.cells #[.bool false, .slice none 0 0] 77)) (fun v3 _ => (intOf v3).toNat)
 case atStart => exact ⟨L, rfl, Nat.le_refl _, ⟨by rw [List.take_of_length_le (by rw [H.out.len]; exact Nat.le_refl _)]⟩, by first | rfl | trivial⟩
 case round =>
  obtain ⟨k, rfl, hk, hs, rfl⟩ := hrel
  by_cases hk0 : 0 < k
  ·have g1 : decide ((0 : Int) < (k : Int)) = true := decide_eq_true (by omega)
   have g2 : IntKind.i64.wrap ((k : Int) - 1) = ((k - 1 : Nat) : Int) := by rw [IntWalk.i64_in _ (by omega)]; omega
   obtain ⟨ad, rfl, hcl⟩ := H.out.at (i := k - 1) (by omega)
   have hcl2 : ((w.alloc (.cells #[.bool neg, .slice (some ad) L c] 77)).alloc (.cells #[.bool false, .slice none 0 0] 77)).cell? (ad.add (k - 1)) = some (.int .i64 (xs.getD (k - 1) 0 : Nat)) := by
    have hb : Below w.heap.size w ((w.alloc (.cells #[.bool neg, .slice (some ad) L c] 77)).alloc (.cells #[.bool false, .slice none 0 0] 77)) := by repeat (first | exact Below.refl _ _ | apply below_alloc)
    exact (hb.cell (World.block_lt_of_cell? w _ hcl)).trans hcl
   have g3 : ((k - 1 : Nat) : Int) < (L : Int) := by omega
   have HX : Aside0 (∀ d, xs.getD (k - 1) 0 = d → (d = 0 → strip (xs.take (k - 1)) = strip xs) ∧ (d ≠ 0 → RM w (some ad) k (val QQ xs))) := ⟨fun d e => ⟨fun e0 => by
    obtain ⟨j, rfl⟩ : ∃ j, k = j + 1 := ⟨k - 1, by omega⟩
    have hx := e.trans e0
    rw [show j + 1 - 1 = j from rfl] at hx ⊢
    rw [← hs.out, take_snoc' xs (by rw [H.out.len]; omega), hx, strip_snoc0], fun e0 => H.out.stripped HD.out hk hs.out (.inr (by rw [e]; exact e0))⟩⟩
   clear hcl
   generalize xs.getD (k - 1) 0 = d at *
   by_cases hx : d = 0
   ·subst hx
    go_wp2
    go_roundw
    case rel => exact ⟨k - 1, by first | rfl | go_num, by omega, ⟨(HX.out 0 rfl).1 rfl⟩, by first | rfl | trivial⟩
    case measure => simp [intOf]; omega
   ·have g4 : ((d : Int) == 0) = false := by simp [hx]
    have HR := Aside0.mk ((HX.out d rfl).2 hx)
    have HV : Aside0 ((neg && decide (val QQ xs ≠ 0)) = neg) := ⟨by
     have : val QQ xs ≠ 0 := fun e => by have := HR.out.len_zero; omega
     simp [this]⟩
    have g5 : ((k : Int) == 0) = false := by simp; omega
    have g6 : (k : Int) ≤ (c : Int) := by omega
    clear HX hs
    go_wp2
    refine bodyPost_ret (v := .agg #[.bool neg, .slice (some ad) k c]) (by simp [results, Tryz.results137, go_sem]) rfl ⟨k, by rw [HV.out], HR.out.below (by repeat (first | exact Below.refl _ _ | apply below_alloc | refine below_set ?_ (by simp))), by repeat (first | exact Below.refl _ _ | apply below_alloc | refine below_set ?_ (by simp))⟩
  ·obtain rfl : k = 0 := by omega
   have HR := Aside0.mk (H.out.stripped HD.out hk hs.out (.inl rfl))
   have HV : Aside0 ((neg && decide (val QQ xs ≠ 0)) = false) := ⟨by
    have : val QQ xs = 0 := by have := HR.out.len_zero; omega
    simp [this]⟩
   clear hs
   go_wp2
   refine bodyPost_ret (v := .agg #[.bool false, .slice A 0 c]) (by simp [results, Tryz.results137, go_sem]) rfl ⟨0, by rw [HV.out], HR.out.below (by repeat (first | exact Below.refl _ _ | apply below_alloc | refine below_set ?_ (by simp))), by repeat (first | exact Below.refl _ _ | apply below_alloc | refine below_set ?_ (by simp))⟩
theorem rinfo : (Tryz.prog.info? 3).map (fun i => (i.zero, i.size, i.bytes)) = some (some (.int .i64 0), 1, 8) := by kernel_rfl
theorem li_snoc (xs : List Nat) (d : Nat) : li (xs ++ [d]) = li xs ++ [(d : Int)] := by simp [li]
theorem RM.at_below {w : World} {A : Option Addr} {L n : Nat} (h : RM w A L n) : Aside0 (∀ W, Below w.heap.size w W → RM W A L n) := ⟨fun W hb => h.below hb⟩
theorem rplus_calls {w : World} {A1 A2 : Option Addr} {L1 L2 c1 c2 m n : Nat} (h1 : RM w A1 L1 m) (h2 : RM w A2 L2 n) (hL1 : L1 ≤ 100000) (hL2 : L2 ≤ 100000) :
 Calls Tryz.prog 146 #[.slice A1 L1 c1, .slice A2 L2 c2] w fun e w' => ∃ A k c xs, e = .returned (.slice A k c) ∧ k ≤ c ∧ RL w' A k xs ∧ (∀ d ∈ xs, d < QQ) ∧ val QQ xs = m + n ∧ Below w.heap.size w w' := by
 have HM : Aside0 (∀ i, L1 ≤ i → L2 ≤ i → m % QQ ^ i = m ∧ n % QQ ^ i = n ∧ m / QQ ^ i % QQ = 0 ∧ n / QQ ^ i % QQ = 0) := ⟨fun i g1 g2 => ⟨mod_big QQ1 (by rw [h1.len]; exact g1), mod_big QQ1 (by rw [h2.len]; exact g2), h1.over (by omega), h2.over (by omega)⟩⟩
 have H1 := h1.at_below
 have H2 := h2.at_below
 clear h1 h2
 go_enter Tryz.func146, Tryz.ntmps146
 go_wp2_with fail
 go_loopw [5, 6, 7] (fun v5 v6 v7 W => ∃ (i c : Nat) (out : List Nat), v6 = .int .i64 (c : Int) ∧ v7 = .int .i64 (i : Int) ∧ (i ≤ L1 ∨ i ≤ L2 ∨ (i ≤ 100001 ∧ c = 0)) ∧ c ≤ 1 ∧ Aside0 (out.length = i ∧ (∀ d ∈ out, d < QQ) ∧ val QQ out + QQ ^ i * c = m % QQ ^ i + n % QQ ^ i ∧ Kd.R (Kd.int .i64) 3 W w.heap.size (fun _ => True) v5 (li out)) ∧ Aside0 (Below w.heap.size w W)) (fun v5 v6 v7 _ => 100001 - (intOf v7).toNat)
 case atStart => exact ⟨0, 0, [], rfl, rfl, .inl (Nat.zero_le _), by omega, ⟨rfl, by simp, by simp [val, Nat.mod_one], Kd.R_nil _ _ _ _ _⟩, ⟨Below.refl _ _⟩⟩
 case round =>
  obtain ⟨i, c, out, rfl, rfl, hi, hc1, HO, HB⟩ := hrel
  obtain ⟨x, hx⟩ : ∃ x, m / QQ ^ i % QQ = x := ⟨_, rfl⟩
  obtain ⟨y, hy⟩ : ∃ y, n / QQ ^ i % QQ = y := ⟨_, rfl⟩
  have hx1 : x < 10000 := by rw [← hx]; exact Nat.mod_lt _ (by decide)
  have hy1 : y < 10000 := by rw [← hy]; exact Nat.mod_lt _ (by decide)
  have HXY : Aside0 (m / QQ ^ i % QQ = x ∧ n / QQ ^ i % QQ = y) := ⟨hx, hy⟩
  have e1 : IntKind.i64.wrap ((x : Int) + (y : Int)) = (x : Int) + (y : Int) := IntWalk.i64_in _ (by omega)
  have e2 : IntKind.i64.wrap ((x : Int) + (y : Int) + (c : Int)) = (x : Int) + (y : Int) + (c : Int) := IntWalk.i64_in _ (by omega)
  by_cases k1 : i < L1
  ·have g1 : decide ((i : Int) < (L1 : Int)) = true := decide_eq_true (by omega)
   clear hx hy
   go_wp2_with (first
    | (go_at_call 150; (with_reducible refine (rlimb_calls (H1.out _ HB.out) i).mono ?_); rintro e wx ⟨rfl, hwx⟩; rw [hwx]; clear hwx wx; rw [HXY.out.1])
    | (go_at_call 150; (with_reducible refine (rlimb_calls (H2.out _ HB.out) i).mono ?_); rintro e wx ⟨rfl, hwx⟩; rw [hwx]; clear hwx wx; rw [HXY.out.2])
    | ((with_reducible refine gate_builtin (b := .append) (xs := #[.tmp 34, .tmp 37]) rfl ?_); at_builtin; refine Kd.R_append (Kd.int .i64) (w0 := w) w.heap.size rfl (.tmp 34) (.tmp 37) 75 3 (.int .i64 0) 8 rfl Tryz.underlying75 rinfo rfl (by decide) (by omega) u5 (li out) (((x + y + c) % 10000 : Nat) : Int) [.int .i64 (((x + y + c) % 10000 : Nat) : Int)] (fun _ => True) (fun _ => False) rfl rfl ?aP (fun _ hk => hk.elim) ?aF ?aO ?aB ?aS ?aL ?_; (case aP => exact rfl); (case aB => exact HB.out); (case aF => exact (fun _ _ => trivial)); (case aO => exact HO.out.2.2.2); (case aS => exact HB.out.size); (case aL => rw [li_len]; have := HO.out.1; omega); intro v38 w8 ho hb hg hat; have HO2 := Aside0.mk ho; have HB2 := Aside0.mk hb; clear ho hb hg hat))
   go_roundw
   case rel =>
    have hs := add_step QQ1 HO.out.1 hc1 HO.out.2.2.1
    rw [HXY.out.1, HXY.out.2] at hs
    refine ⟨i + 1, (x + y + c) / 10000, out ++ [(x + y + c) % 10000], congrArg (Value.int .i64) (by omega), by go_num, (by omega), hs.2.1, ⟨by simp [HO.out.1], ?_, hs.1, by rw [li_snoc]; exact HO2.out⟩, HB2⟩
    intro d hd
    rcases List.mem_append.1 hd with hd | hd
    ·exact HO.out.2.1 d hd
    ·rw [List.mem_singleton.1 hd]; exact hs.2.2
   case measure => simp [intOf]; omega
  ·have g1 : decide ((i : Int) < (L1 : Int)) = false := decide_eq_false (by omega)
   by_cases k2 : i < L2
   ·have g2 : decide ((i : Int) < (L2 : Int)) = true := decide_eq_true (by omega)
    clear hx hy
    go_wp2_with (first
     | (go_at_call 150; (with_reducible refine (rlimb_calls (H1.out _ HB.out) i).mono ?_); rintro e wx ⟨rfl, hwx⟩; rw [hwx]; clear hwx wx; rw [HXY.out.1])
     | (go_at_call 150; (with_reducible refine (rlimb_calls (H2.out _ HB.out) i).mono ?_); rintro e wx ⟨rfl, hwx⟩; rw [hwx]; clear hwx wx; rw [HXY.out.2])
     | ((with_reducible refine gate_builtin (b := .append) (xs := #[.tmp 34, .tmp 37]) rfl ?_); at_builtin; refine Kd.R_append (Kd.int .i64) (w0 := w) w.heap.size rfl (.tmp 34) (.tmp 37) 75 3 (.int .i64 0) 8 rfl Tryz.underlying75 rinfo rfl (by decide) (by omega) u5 (li out) (((x + y + c) % 10000 : Nat) : Int) [.int .i64 (((x + y + c) % 10000 : Nat) : Int)] (fun _ => True) (fun _ => False) rfl rfl ?aP (fun _ hk => hk.elim) ?aF ?aO ?aB ?aS ?aL ?_; (case aP => exact rfl); (case aB => exact HB.out); (case aF => exact (fun _ _ => trivial)); (case aO => exact HO.out.2.2.2); (case aS => exact HB.out.size); (case aL => rw [li_len]; have := HO.out.1; omega); intro v38 w8 ho hb hg hat; have HO2 := Aside0.mk ho; have HB2 := Aside0.mk hb; clear ho hb hg hat))
    go_roundw
    case rel =>
     have hs := add_step QQ1 HO.out.1 hc1 HO.out.2.2.1
     rw [HXY.out.1, HXY.out.2] at hs
     refine ⟨i + 1, (x + y + c) / 10000, out ++ [(x + y + c) % 10000], congrArg (Value.int .i64) (by omega), by go_num, (by omega), hs.2.1, ⟨by simp [HO.out.1], ?_, hs.1, by rw [li_snoc]; exact HO2.out⟩, HB2⟩
     intro d hd
     rcases List.mem_append.1 hd with hd | hd
     ·exact HO.out.2.1 d hd
     ·rw [List.mem_singleton.1 hd]; exact hs.2.2
    case measure => simp [intOf]; omega
   ·have g2 : decide ((i : Int) < (L2 : Int)) = false := decide_eq_false (by omega)
    by_cases k3 : 0 < c
    ·have g3 : decide ((0 : Int) < (c : Int)) = true := decide_eq_true (by omega)
     have hz := HM.out i (by omega) (by omega)
     rw [hx, hy] at hz
     have HZ := Aside0.mk hz.2.2
     clear hx hy hz
     go_wp2_with (first
      | (go_at_call 150; (with_reducible refine (rlimb_calls (H1.out _ HB.out) i).mono ?_); rintro e wx ⟨rfl, hwx⟩; rw [hwx]; clear hwx wx; rw [HXY.out.1])
      | (go_at_call 150; (with_reducible refine (rlimb_calls (H2.out _ HB.out) i).mono ?_); rintro e wx ⟨rfl, hwx⟩; rw [hwx]; clear hwx wx; rw [HXY.out.2])
      | ((with_reducible refine gate_builtin (b := .append) (xs := #[.tmp 34, .tmp 37]) rfl ?_); at_builtin; refine Kd.R_append (Kd.int .i64) (w0 := w) w.heap.size rfl (.tmp 34) (.tmp 37) 75 3 (.int .i64 0) 8 rfl Tryz.underlying75 rinfo rfl (by decide) (by omega) u5 (li out) (((x + y + c) % 10000 : Nat) : Int) [.int .i64 (((x + y + c) % 10000 : Nat) : Int)] (fun _ => True) (fun _ => False) rfl rfl ?aP (fun _ hk => hk.elim) ?aF ?aO ?aB ?aS ?aL ?_; (case aP => exact rfl); (case aB => exact HB.out); (case aF => exact (fun _ _ => trivial)); (case aO => exact HO.out.2.2.2); (case aS => exact HB.out.size); (case aL => rw [li_len]; have := HO.out.1; omega); intro v38 w8 ho hb hg hat; have HO2 := Aside0.mk ho; have HB2 := Aside0.mk hb; clear ho hb hg hat))
     go_roundw
     case rel =>
      have hs := add_step QQ1 HO.out.1 hc1 HO.out.2.2.1
      rw [HXY.out.1, HXY.out.2] at hs
      refine ⟨i + 1, (x + y + c) / 10000, out ++ [(x + y + c) % 10000], congrArg (Value.int .i64) (by omega), by go_num, (by have := HZ.out; omega), hs.2.1, ⟨by simp [HO.out.1], ?_, hs.1, by rw [li_snoc]; exact HO2.out⟩, HB2⟩
      intro d hd
      rcases List.mem_append.1 hd with hd | hd
      ·exact HO.out.2.1 d hd
      ·rw [List.mem_singleton.1 hd]; exact hs.2.2
     case measure => simp [intOf]; omega
    ·obtain rfl : c = 0 := by omega
     have hz := HM.out i (by omega) (by omega)
     have hv := HO.out.2.2.1
     rw [hz.1, hz.2.1] at hv
     obtain ⟨A, cp, e5, hcp, hrd⟩ := Kd.R_reads HO.out.2.2.2
     rw [li_len, HO.out.1] at e5 hcp hrd
     subst e5
     clear hx hy hz
     go_wp2
     go_ret
     exact ⟨A, i, cp, rfl, hcp, out, hrd, HO.out.2.1, by simpa using hv, HB.out⟩
theorem rlimb_drawn {w : World} {A : Option Addr} {L c n : Nat} (h : RM w A L n) (i : Nat) :
 Calls Tryz.prog 150 #[.slice A L c, .int .i64 (i : Int)] w fun e w' => e = .returned (.int .i64 (n / QQ ^ i % QQ : Nat)) ∧ Drawn0 w w' :=
 (rlimb_calls h i).mono fun e w' h => ⟨h.1, by rw [h.2]; exact Drawn0.refl _⟩
theorem bigF1 : ∀ (b : Bool) (A : Option Addr) (k c : Nat) (w : World), (Instr.field 77 (.agg #[.bool b, .slice A k c]) 1).run Tryz.prog w = .ok (.slice A k c) w := fun _ _ _ _ _ => by kernel_rfl
theorem sub_end {Q v m n r : Nat} (hv : v < Q) (h : v + n = m + Q * r) (hle : n ≤ m) : v = m - n := by
 rcases Nat.eq_zero_or_pos r with rfl | h0
 ·omega
 ·have := Nat.mul_le_mul_left Q h0
  omega
theorem rminus_calls {w : World} {A1 A2 : Option Addr} {L1 L2 c1 c2 m n : Nat} (h1 : RM w A1 L1 m) (h2 : RM w A2 L2 n) (hle : n ≤ m) (hL1 : L1 ≤ 100000) :
 Calls Tryz.prog 148 #[.slice A1 L1 c1, .slice A2 L2 c2] w fun e w' => ∃ A k c, e = .returned (.slice A k c) ∧ k ≤ c ∧ RM w' A k (m - n) ∧ Below w.heap.size w w' := by
 have HM : Aside0 (m < QQ ^ L1) := ⟨by have := dg_lt_pow QQ1 m; rwa [h1.len] at this⟩
 have H1 := h1.at_below
 have H2 := h2.at_below
 clear h1 h2
 have hu77 := bigF1
 go_enter Tryz.func148, Tryz.ntmps148
 go_wp2_with fail
 go_loopw [5, 6, 7] (fun v5 v6 v7 W => ∃ (i r : Nat) (out : List Nat), v6 = .int .i64 (r : Int) ∧ v7 = .int .i64 (i : Int) ∧ i ≤ L1 ∧ r ≤ 1 ∧ Aside0 (out.length = i ∧ (∀ d ∈ out, d < QQ) ∧ val QQ out + n % QQ ^ i = m % QQ ^ i + QQ ^ i * r ∧ Kd.R (Kd.int .i64) 3 W w.heap.size (fun _ => True) v5 (li out)) ∧ Aside0 (Below w.heap.size w W)) (fun v5 v6 v7 _ => L1 - (intOf v7).toNat)
 case atStart => exact ⟨0, 0, [], rfl, rfl, Nat.zero_le _, by omega, ⟨rfl, by simp, by simp [val, Nat.mod_one], Kd.R_nil _ _ _ _ _⟩, ⟨Below.refl _ _⟩⟩
 case round =>
  obtain ⟨i, r, out, rfl, rfl, hi, hr1, HO, HB⟩ := hrel
  by_cases k1 : i < L1
  ·obtain ⟨ad, hA, hc⟩ := (H1.out _ HB.out).at k1
   subst hA
   obtain ⟨x, hx⟩ : ∃ x, m / QQ ^ i % QQ = x := ⟨_, rfl⟩
   obtain ⟨y, hy⟩ : ∃ y, n / QQ ^ i % QQ = y := ⟨_, rfl⟩
   have hx1 : x < 10000 := by rw [← hx]; exact Nat.mod_lt _ (by decide)
   have hy1 : y < 10000 := by rw [← hy]; exact Nat.mod_lt _ (by decide)
   have HX := Aside0.mk hx
   have HXY := Aside0.mk hy
   rw [hx] at hc
   have e1 : IntKind.i64.wrap ((x : Int) - (y : Int)) = (x : Int) - (y : Int) := IntWalk.i64_in _ (by omega)
   have e2 : IntKind.i64.wrap ((x : Int) - (y : Int) - (r : Int)) = (x : Int) - (y : Int) - (r : Int) := IntWalk.i64_in _ (by omega)
   have e3 : IntKind.i64.wrap ((x : Int) - (y : Int) - (r : Int) + 10000) = (x : Int) - (y : Int) - (r : Int) + 10000 := IntWalk.i64_in _ (by omega)
   have g1 : (i : Int) < (L1 : Int) := by omega
   have g2 : decide ((i : Int) < (L1 : Int)) = true := decide_eq_true g1
   clear hx hy
   by_cases hn : x < y + r
   ·have g3 : decide ((x : Int) - (y : Int) - (r : Int) < 0) = true := decide_eq_true (by omega)
    obtain ⟨d, hd⟩ : ∃ d : Nat, (d : Int) = (x : Int) - (y : Int) - (r : Int) + 10000 := ⟨x + 10000 - y - r, by omega⟩
    have HD : Aside0 ((d : Int) = (x : Int) - (y : Int) - (r : Int) + 10000 ∧ d < 10000) := ⟨hd, by omega⟩
    clear hd
    go_wp2_with (first | (go_at_call 150; (with_reducible refine (rlimb_drawn (H2.out _ (by repeat (first | (with_reducible first | exact HB.out | apply below_alloc | apply pw_below_drewN | apply below_drew1)))) i).mono ?_); rw [HXY.out]; rintro e wx ⟨rfl, ⟨nd, rfl⟩⟩; (try first | exact ⟨rfl, _, World.drewN_drewN _ _ _⟩ | exact ⟨rfl, _, Eq.trans (World.drewN_drewN _ _ _) (congrArg (World.drewN _) (Nat.add_assoc _ _ _))⟩)) | ((with_reducible refine gate_builtin (b := .append) (xs := #[.tmp 29, .tmp 31]) rfl ?_); at_builtin; refine Kd.R_append (Kd.int .i64) (w0 := w) w.heap.size rfl (.tmp 29) (.tmp 31) 75 3 (.int .i64 0) 8 rfl Tryz.underlying75 rinfo rfl (by decide) (by omega) u5 (li out) ((x : Int) - (y : Int) - (r : Int) + 10000) [.int .i64 ((x : Int) - (y : Int) - (r : Int) + 10000)] (fun _ => True) (fun _ => False) rfl rfl ?aP (fun _ hk => hk.elim) ?aF ?aO ?aB ?aS ?aL ?_; (case aP => exact rfl); (case aB => exact (by repeat (first | (with_reducible first | exact HB.out | apply below_alloc | apply pw_below_drewN | apply below_drew1)))); (case aF => exact (fun _ _ => trivial)); (case aO => exact (by (with_reducible repeat (first | apply Kd.R_alloc | apply Kd.R_drewN | apply Kd.R_drew)); exact HO.out.2.2.2)); (case aS => exact (below_size (by repeat (first | (with_reducible first | exact HB.out | apply below_alloc | apply pw_below_drewN | apply below_drew1))))); (case aL => rw [li_len]; have := HO.out.1; omega); intro v38 w8 ho hb hg hat; have HO2 := Aside0.mk ho; have HB2 := Aside0.mk hb; clear ho hb hg hat))
    repeat (go_quiet (first | (go_at_call 150; (with_reducible refine (rlimb_drawn (H2.out _ (by repeat (first | (with_reducible first | exact HB.out | apply below_alloc | apply pw_below_drewN | apply below_drew1)))) i).mono ?_); rw [HXY.out]; rintro e wx ⟨rfl, ⟨nd, rfl⟩⟩; (try first | exact ⟨rfl, _, World.drewN_drewN _ _ _⟩ | exact ⟨rfl, _, Eq.trans (World.drewN_drewN _ _ _) (congrArg (World.drewN _) (Nat.add_assoc _ _ _))⟩)) | ((with_reducible refine gate_builtin (b := .append) (xs := #[.tmp 29, .tmp 31]) rfl ?_); at_builtin; refine Kd.R_append (Kd.int .i64) (w0 := w) w.heap.size rfl (.tmp 29) (.tmp 31) 75 3 (.int .i64 0) 8 rfl Tryz.underlying75 rinfo rfl (by decide) (by omega) u5 (li out) ((x : Int) - (y : Int) - (r : Int) + 10000) [.int .i64 ((x : Int) - (y : Int) - (r : Int) + 10000)] (fun _ => True) (fun _ => False) rfl rfl ?aP (fun _ hk => hk.elim) ?aF ?aO ?aB ?aS ?aL ?_; (case aP => exact rfl); (case aB => exact (by repeat (first | (with_reducible first | exact HB.out | apply below_alloc | apply pw_below_drewN | apply below_drew1)))); (case aF => exact (fun _ _ => trivial)); (case aO => exact (by (with_reducible repeat (first | apply Kd.R_alloc | apply Kd.R_drewN | apply Kd.R_drew)); exact HO.out.2.2.2)); (case aS => exact (below_size (by repeat (first | (with_reducible first | exact HB.out | apply below_alloc | apply pw_below_drewN | apply below_drew1))))); (case aL => rw [li_len]; have := HO.out.1; omega); intro v38 w8 ho hb hg hat; have HO2 := Aside0.mk ho; have HB2 := Aside0.mk hb; clear ho hb hg hat)); try go_wp2_with (first | (go_at_call 150; (with_reducible refine (rlimb_drawn (H2.out _ (by repeat (first | (with_reducible first | exact HB.out | apply below_alloc | apply pw_below_drewN | apply below_drew1)))) i).mono ?_); rw [HXY.out]; rintro e wx ⟨rfl, ⟨nd, rfl⟩⟩; (try first | exact ⟨rfl, _, World.drewN_drewN _ _ _⟩ | exact ⟨rfl, _, Eq.trans (World.drewN_drewN _ _ _) (congrArg (World.drewN _) (Nat.add_assoc _ _ _))⟩)) | ((with_reducible refine gate_builtin (b := .append) (xs := #[.tmp 29, .tmp 31]) rfl ?_); at_builtin; refine Kd.R_append (Kd.int .i64) (w0 := w) w.heap.size rfl (.tmp 29) (.tmp 31) 75 3 (.int .i64 0) 8 rfl Tryz.underlying75 rinfo rfl (by decide) (by omega) u5 (li out) ((x : Int) - (y : Int) - (r : Int) + 10000) [.int .i64 ((x : Int) - (y : Int) - (r : Int) + 10000)] (fun _ => True) (fun _ => False) rfl rfl ?aP (fun _ hk => hk.elim) ?aF ?aO ?aB ?aS ?aL ?_; (case aP => exact rfl); (case aB => exact (by repeat (first | (with_reducible first | exact HB.out | apply below_alloc | apply pw_below_drewN | apply below_drew1)))); (case aF => exact (fun _ _ => trivial)); (case aO => exact (by (with_reducible repeat (first | apply Kd.R_alloc | apply Kd.R_drewN | apply Kd.R_drew)); exact HO.out.2.2.2)); (case aS => exact (below_size (by repeat (first | (with_reducible first | exact HB.out | apply below_alloc | apply pw_below_drewN | apply below_drew1))))); (case aL => rw [li_len]; have := HO.out.1; omega); intro v38 w8 ho hb hg hat; have HO2 := Aside0.mk ho; have HB2 := Aside0.mk hb; clear ho hb hg hat)))
    go_roundw
    case rel =>
     have hs := sub_step QQ1 HO.out.1 hr1 HO.out.2.2.1 d 1 (by have h1 := HX.out; have h2 := HXY.out; rw [h1, h2]; show d + (y + r) = x + 10000 * 1; have := HD.out; omega)
     refine ⟨i + 1, 1, out ++ [d], rfl, by go_num, by omega, by omega, ⟨by simp [HO.out.1], ?_, hs, by rw [li_snoc, HD.out.1]; exact HO2.out⟩, HB2⟩
     intro e he
     rcases List.mem_append.1 he with he | he
     ·exact HO.out.2.1 e he
     ·rw [List.mem_singleton.1 he]; exact HD.out.2
    case measure => simp [intOf]; omega
   ·have g3 : decide ((x : Int) - (y : Int) - (r : Int) < 0) = false := decide_eq_false (by omega)
    obtain ⟨d, hd⟩ : ∃ d : Nat, (d : Int) = (x : Int) - (y : Int) - (r : Int) := ⟨x - y - r, by omega⟩
    have HD : Aside0 ((d : Int) = (x : Int) - (y : Int) - (r : Int) ∧ d < 10000) := ⟨hd, by omega⟩
    clear hd
    go_wp2_with (first | (go_at_call 150; (with_reducible refine (rlimb_drawn (H2.out _ (by repeat (first | (with_reducible first | exact HB.out | apply below_alloc | apply pw_below_drewN | apply below_drew1)))) i).mono ?_); rw [HXY.out]; rintro e wx ⟨rfl, ⟨nd, rfl⟩⟩; (try first | exact ⟨rfl, _, World.drewN_drewN _ _ _⟩ | exact ⟨rfl, _, Eq.trans (World.drewN_drewN _ _ _) (congrArg (World.drewN _) (Nat.add_assoc _ _ _))⟩)) | ((with_reducible refine gate_builtin (b := .append) (xs := #[.tmp 29, .tmp 31]) rfl ?_); at_builtin; refine Kd.R_append (Kd.int .i64) (w0 := w) w.heap.size rfl (.tmp 29) (.tmp 31) 75 3 (.int .i64 0) 8 rfl Tryz.underlying75 rinfo rfl (by decide) (by omega) u5 (li out) ((x : Int) - (y : Int) - (r : Int)) [.int .i64 ((x : Int) - (y : Int) - (r : Int))] (fun _ => True) (fun _ => False) rfl rfl ?aP (fun _ hk => hk.elim) ?aF ?aO ?aB ?aS ?aL ?_; (case aP => exact rfl); (case aB => exact (by repeat (first | (with_reducible first | exact HB.out | apply below_alloc | apply pw_below_drewN | apply below_drew1)))); (case aF => exact (fun _ _ => trivial)); (case aO => exact (by (with_reducible repeat (first | apply Kd.R_alloc | apply Kd.R_drewN | apply Kd.R_drew)); exact HO.out.2.2.2)); (case aS => exact (below_size (by repeat (first | (with_reducible first | exact HB.out | apply below_alloc | apply pw_below_drewN | apply below_drew1))))); (case aL => rw [li_len]; have := HO.out.1; omega); intro v38 w8 ho hb hg hat; have HO2 := Aside0.mk ho; have HB2 := Aside0.mk hb; clear ho hb hg hat))
    repeat (go_quiet (first | (go_at_call 150; (with_reducible refine (rlimb_drawn (H2.out _ (by repeat (first | (with_reducible first | exact HB.out | apply below_alloc | apply pw_below_drewN | apply below_drew1)))) i).mono ?_); rw [HXY.out]; rintro e wx ⟨rfl, ⟨nd, rfl⟩⟩; (try first | exact ⟨rfl, _, World.drewN_drewN _ _ _⟩ | exact ⟨rfl, _, Eq.trans (World.drewN_drewN _ _ _) (congrArg (World.drewN _) (Nat.add_assoc _ _ _))⟩)) | ((with_reducible refine gate_builtin (b := .append) (xs := #[.tmp 29, .tmp 31]) rfl ?_); at_builtin; refine Kd.R_append (Kd.int .i64) (w0 := w) w.heap.size rfl (.tmp 29) (.tmp 31) 75 3 (.int .i64 0) 8 rfl Tryz.underlying75 rinfo rfl (by decide) (by omega) u5 (li out) ((x : Int) - (y : Int) - (r : Int)) [.int .i64 ((x : Int) - (y : Int) - (r : Int))] (fun _ => True) (fun _ => False) rfl rfl ?aP (fun _ hk => hk.elim) ?aF ?aO ?aB ?aS ?aL ?_; (case aP => exact rfl); (case aB => exact (by repeat (first | (with_reducible first | exact HB.out | apply below_alloc | apply pw_below_drewN | apply below_drew1)))); (case aF => exact (fun _ _ => trivial)); (case aO => exact (by (with_reducible repeat (first | apply Kd.R_alloc | apply Kd.R_drewN | apply Kd.R_drew)); exact HO.out.2.2.2)); (case aS => exact (below_size (by repeat (first | (with_reducible first | exact HB.out | apply below_alloc | apply pw_below_drewN | apply below_drew1))))); (case aL => rw [li_len]; have := HO.out.1; omega); intro v38 w8 ho hb hg hat; have HO2 := Aside0.mk ho; have HB2 := Aside0.mk hb; clear ho hb hg hat)); try go_wp2_with (first | (go_at_call 150; (with_reducible refine (rlimb_drawn (H2.out _ (by repeat (first | (with_reducible first | exact HB.out | apply below_alloc | apply pw_below_drewN | apply below_drew1)))) i).mono ?_); rw [HXY.out]; rintro e wx ⟨rfl, ⟨nd, rfl⟩⟩; (try first | exact ⟨rfl, _, World.drewN_drewN _ _ _⟩ | exact ⟨rfl, _, Eq.trans (World.drewN_drewN _ _ _) (congrArg (World.drewN _) (Nat.add_assoc _ _ _))⟩)) | ((with_reducible refine gate_builtin (b := .append) (xs := #[.tmp 29, .tmp 31]) rfl ?_); at_builtin; refine Kd.R_append (Kd.int .i64) (w0 := w) w.heap.size rfl (.tmp 29) (.tmp 31) 75 3 (.int .i64 0) 8 rfl Tryz.underlying75 rinfo rfl (by decide) (by omega) u5 (li out) ((x : Int) - (y : Int) - (r : Int)) [.int .i64 ((x : Int) - (y : Int) - (r : Int))] (fun _ => True) (fun _ => False) rfl rfl ?aP (fun _ hk => hk.elim) ?aF ?aO ?aB ?aS ?aL ?_; (case aP => exact rfl); (case aB => exact (by repeat (first | (with_reducible first | exact HB.out | apply below_alloc | apply pw_below_drewN | apply below_drew1)))); (case aF => exact (fun _ _ => trivial)); (case aO => exact (by (with_reducible repeat (first | apply Kd.R_alloc | apply Kd.R_drewN | apply Kd.R_drew)); exact HO.out.2.2.2)); (case aS => exact (below_size (by repeat (first | (with_reducible first | exact HB.out | apply below_alloc | apply pw_below_drewN | apply below_drew1))))); (case aL => rw [li_len]; have := HO.out.1; omega); intro v38 w8 ho hb hg hat; have HO2 := Aside0.mk ho; have HB2 := Aside0.mk hb; clear ho hb hg hat)))
    go_roundw
    case rel =>
     have hs := sub_step QQ1 HO.out.1 hr1 HO.out.2.2.1 d 0 (by have h1 := HX.out; have h2 := HXY.out; rw [h1, h2]; show d + (y + r) = x + 10000 * 0; have := HD.out; omega)
     refine ⟨i + 1, 0, out ++ [d], rfl, by go_num, by omega, by omega, ⟨by simp [HO.out.1], ?_, hs, by rw [li_snoc, HD.out.1]; exact HO2.out⟩, HB2⟩
     intro e he
     rcases List.mem_append.1 he with he | he
     ·exact HO.out.2.1 e he
     ·rw [List.mem_singleton.1 he]; exact HD.out.2
    case measure => simp [intOf]; omega
  ·obtain rfl : i = L1 := by omega
   have hv := HO.out.2.2.1
   rw [Nat.mod_eq_of_lt HM.out, Nat.mod_eq_of_lt (Nat.lt_of_le_of_lt hle HM.out)] at hv
   have hlt := val_lt (by decide : 0 < QQ) out HO.out.2.1
   rw [HO.out.1] at hlt
   have HV := Aside0.mk (sub_end hlt hv hle)
   have HD := Aside0.mk HO.out.2.1
   obtain ⟨A, cp, e5, hcp, hrd⟩ := Kd.R_reads HO.out.2.2.2
   rw [li_len, HO.out.1] at e5 hcp hrd
   have HR : Aside0 (RL wr A i out) := ⟨hrd⟩
   subst e5
   clear hv hlt hrd
   go_wp2_with (first | (go_at_call 137; (with_reducible refine (rtrim_calls HR.out hcp HD.out false).mono ?_); rintro e wx ⟨k, rfl, hm, hbx⟩; have HM2 := Aside0.mk hm; have HB2 := Aside0.mk (HB.out.trans (hbx.mono HB.out.size)); have HK := Aside0.mk hm.len; clear hm hbx))
   repeat (go_quiet (fail); try go_wp2)
   go_ret
   have hk : k ≤ i := by
    have h1 := HK.out
    rw [HV.out] at h1
    have h2 := dg_length QQ1 i (m - n) (Nat.lt_of_le_of_lt (Nat.sub_le _ _) HM.out)
    omega
   exact ⟨A, k, cp, rfl, by omega, by rw [← HV.out]; exact HM2.out, HB2.out⟩
theorem cmp_lt {a b : Int} (h : a < b) : cmpI a b = -1 := by unfold cmpI; rw [if_pos h]
theorem cmp_gt {a b : Int} (h : b < a) : cmpI a b = 1 := by unfold cmpI; rw [if_neg (by omega), if_pos h]
theorem cmp_self (a : Int) : cmpI a a = 0 := by unfold cmpI; rw [if_neg (by omega), if_neg (by omega)]
theorem RM.short {w : World} {A1 A2 : Option Addr} {L1 L2 m n : Nat} (h1 : RM w A1 L1 m) (h2 : RM w A2 L2 n) (h : L1 < L2) : m < n := by
 have a := dg_lt_pow QQ1 m
 rw [h1.len] at a
 obtain ⟨k, rfl⟩ : ∃ k, L2 = k + 1 := ⟨L2 - 1, by omega⟩
 have b := dg_ge_pow QQ1 k n h2.len
 exact Nat.lt_of_lt_of_le a (Nat.le_trans (Nat.pow_le_pow_right (by decide) (by omega)) b)
theorem div_up (m k : Nat) : m / QQ ^ k = QQ * (m / QQ ^ (k + 1)) + m / QQ ^ k % QQ := by
 rw [Nat.pow_succ, ← Nat.div_div_eq_div_mul]
 exact (Nat.div_add_mod _ _).symm
theorem high_lt {m n k : Nat} (h : m / QQ ^ (k + 1) = n / QQ ^ (k + 1)) (hl : m / QQ ^ k % QQ < n / QQ ^ k % QQ) : m < n := by
 have a := div_up m k
 have b := div_up n k
 rw [h] at a
 exact Nat.lt_of_not_le fun hle => by have := Nat.div_le_div_right (c := QQ ^ k) hle; omega
theorem rmagnitude_calls {w : World} {A1 A2 : Option Addr} {L1 L2 c1 c2 m n : Nat} (h1 : RM w A1 L1 m) (h2 : RM w A2 L2 n) (hL1 : L1 ≤ 1000000) :
 Calls Tryz.prog 147 #[.slice A1 L1 c1, .slice A2 L2 c2] w fun e w' => e = .returned (.int .i64 (cmpI m n)) ∧ Drawn0 w w' := by
 have hm2 := Kd.C_max h2
 rcases Nat.lt_trichotomy L1 L2 with h | h | h
 ·have g1 : ((L1 : Int) != (L2 : Int)) = true := by simp; omega
  have g2 : decide ((L1 : Int) < (L2 : Int)) = true := decide_eq_true (by omega)
  rw [cmp_lt (a := (m : Int)) (b := n) (by have := h1.short h2 h; omega)]
  clear h1 h2
  go_enter Tryz.func147, Tryz.ntmps147
  go_wp2_with fail
  go_ret
  exact ⟨rfl, Drawn0.refl _⟩
 ·subst h
  have HE : Aside0 (m / QQ ^ L1 = 0 ∧ n / QQ ^ L1 = 0) := ⟨by
   have a := dg_lt_pow QQ1 m
   have b := dg_lt_pow QQ1 n
   rw [h1.len] at a
   rw [h2.len] at b
   exact ⟨Nat.div_eq_of_lt a, Nat.div_eq_of_lt b⟩⟩
  have H1 := Aside0.mk h1
  have H2 := Aside0.mk h2
  obtain ⟨q, hq⟩ : ∃ q, cmpI (m : Int) n = q := ⟨_, rfl⟩
  rw [hq]
  have HC := Aside0.mk hq
  clear h1 h2 hq
  go_enter Tryz.func147, Tryz.ntmps147
  go_wp2_with fail
  go_loopw [5] (fun v5 W => ∃ k : Nat, v5 = .int .i64 ((k : Int) - 1) ∧ k ≤ L1 ∧ Aside0 (m / QQ ^ k = n / QQ ^ k) ∧ Aside0 (Drawn0 w W)) (fun v5 _ => (intOf v5 + 1).toNat)
  case atStart => exact ⟨L1, by first | rfl | go_num, Nat.le_refl _, ⟨by rw [HE.out.1, HE.out.2]⟩, ⟨Drawn0.refl _⟩⟩
  case round =>
   obtain ⟨k, rfl, hk, HQ, HW⟩ := hrel
   rcases Nat.eq_zero_or_pos k with rfl | h0
   ·have g1 : decide ((0 : Int) ≤ ((0 : Nat) : Int) - 1) = false := by decide
    have HF : Aside0 (cmpI (m : Int) n = 0) := ⟨by have hq := HQ.out; simp only [Nat.pow_zero, Nat.div_one] at hq; subst hq; exact cmp_self _⟩
    go_wp2
    go_ret
    exact ⟨ret_i (by rw [← HC.out]; exact HF.out.symm), HW.out⟩
   ·obtain ⟨j, rfl⟩ : ∃ j, k = j + 1 := ⟨k - 1, by omega⟩
    have ej : ((j + 1 : Nat) : Int) - 1 = (j : Int) := by omega
    rw [ej]
    obtain ⟨ad, hA, hc⟩ := H1.out.at (i := j) (by omega)
    obtain ⟨ae, hA2, hc2⟩ := H2.out.at (i := j) (by omega)
    subst hA hA2
    obtain ⟨nd, hnd⟩ := HW.out
    have hb : Below w.heap.size w wr := by rw [hnd]; exact pw_below_drewN (Below.refl _ _) _
    replace hc := (hb.cell (World.block_lt_of_cell? w _ hc)).trans hc
    replace hc2 := (hb.cell (World.block_lt_of_cell? w _ hc2)).trans hc2
    obtain ⟨x, hx⟩ : ∃ x, m / QQ ^ j % QQ = x := ⟨_, rfl⟩
    obtain ⟨y, hy⟩ : ∃ y, n / QQ ^ j % QQ = y := ⟨_, rfl⟩
    rw [hx] at hc
    rw [hy] at hc2
    have HX : Aside0 (m / QQ ^ j % QQ = x ∧ n / QQ ^ j % QQ = y) := ⟨hx, hy⟩
    have g1 : decide ((0 : Int) ≤ (j : Int)) = true := decide_eq_true (by omega)
    have g2 : (j : Int) < (L1 : Int) := by omega
    have e1 : IntKind.i64.wrap ((j : Int) - 1) = (j : Int) - 1 := IntWalk.i64_in _ (by omega)
    clear hx hy hnd hb
    rcases Nat.lt_trichotomy x y with h | h | h
    ·have g3 : decide ((x : Int) < (y : Int)) = true := decide_eq_true (by omega)
     have HF : Aside0 (cmpI (m : Int) n = -1) := ⟨cmp_lt (by have := high_lt HQ.out (by rw [HX.out.1, HX.out.2]; exact h); omega)⟩
     go_wp2
     repeat (go_quiet (fail); try go_wp2)
     go_ret
     exact ⟨ret_i (by rw [← HC.out]; exact HF.out.symm), by first | exact HW.out.step _ | exact (HW.out.step _).step _⟩
    ·subst h
     go_wp2
     repeat (go_quiet (fail); try go_wp2)
     go_roundw
     case rel => exact ⟨j, rfl, by omega, ⟨by rw [div_up m j, div_up n j, HQ.out, HX.out.1, HX.out.2]⟩, by first | exact ⟨HW.out.step _⟩ | exact ⟨(HW.out.step _).step _⟩⟩
     case measure => simp [intOf]
    ·have g3 : decide ((x : Int) < (y : Int)) = false := decide_eq_false (by omega)
     have g4 : decide ((y : Int) < (x : Int)) = true := decide_eq_true (by omega)
     have HF : Aside0 (cmpI (m : Int) n = 1) := ⟨cmp_gt (by have := high_lt HQ.out.symm (by rw [HX.out.1, HX.out.2]; exact h); omega)⟩
     go_wp2
     repeat (go_quiet (fail); try go_wp2)
     go_ret
     exact ⟨ret_i (by rw [← HC.out]; exact HF.out.symm), by first | exact HW.out.step _ | exact (HW.out.step _).step _⟩
 ·have g1 : ((L1 : Int) != (L2 : Int)) = true := by simp; omega
  have g2 : decide ((L1 : Int) < (L2 : Int)) = false := decide_eq_false (by omega)
  rw [cmp_gt (a := (m : Int)) (b := n) (by have := h2.short h1 h; omega)]
  clear h1 h2
  go_enter Tryz.func147, Tryz.ntmps147
  go_wp2_with fail
  go_ret
  exact ⟨rfl, Drawn0.refl _⟩
end
section
open Go.RowKit Go.Shelf
theorem bX : (Tryz.prog.info? 148).map (·.size) = some 2 := by kernel_rfl
theorem bY : liesAt Tryz.prog Tryz.prog.depth 148 (2 / Tryz.prog.cellsOf 148) 0 148 1 = true := by kernel_rfl
theorem bZ : (Tryz.prog.info? 5).map (fun i => (i.zero, i.size, i.bytes)) = some (some (.int .u8 0), 1, 1) := by kernel_rfl
theorem copyCheck_used (b : Nat) (w : World) (h0 : w.cell? ⟨b, 0, none⟩ = some (.pointer (some ⟨b, 0, none⟩))) :
 Calls Tryz.prog 164 #[.pointer (some ⟨b, 0, none⟩)] w fun e w' => e = .returned (.tuple #[]) ∧ w' = w := by
 obtain ⟨j, hj, _⟩ := Option.map_eq_some_iff.1 bX
 go_enter Tryz.func164, Tryz.ntmps164
 go_wp2
 rw [Lib.run_neq_ptr_same w _ Tryz.underlying145 hj]
 go_wp2
 go_end0
 exact ⟨rfl, rfl⟩
theorem copyCheck_fresh (b : Nat) (w : World) (h0 : w.cell? ⟨b, 0, none⟩ = some (.pointer none)) (hsh : w.shape? b = some (148, 2)) (hfz : w.frozen? ⟨b, 0, none⟩ = false) :
 Calls Tryz.prog 164 #[.pointer (some ⟨b, 0, none⟩)] w fun e w' => e = .returned (.tuple #[]) ∧ w' = w.setCell ⟨b, 0, none⟩ (.pointer (some ⟨b, 0, none⟩)) := by
 obtain ⟨j, hj, hjs⟩ := Option.map_eq_some_iff.1 bX
 go_enter Tryz.func164, Tryz.ntmps164
 go_wp2
 rw [Lib.run_to_unsafe w ⟨b, 0, none⟩ Tryz.underlying145 Tryz.underlying207 hj (by rw [hjs]; decide) hsh (Nat.zero_lt_succ 1)]
 simp only [Result.andThen]
 rw [Oper.upon_value]
 go_wp2
 rw [run_callFunc_extern Tryz.func186 (by kernel_rfl) (by kernel_rfl) (by kernel_rfl) (e := Extern.AbiNoEscape.same) (by kernel_rfl)]
 rw [Lib.run_noEscape]
 simp only [Result.andThen]
 rw [Oper.upon_value]
 go_wp2
 rw [Lib.run_from_unsafe w ⟨b, 0, none⟩ Tryz.underlying207 Tryz.underlying145 hj hsh bY]
 simp only [Result.andThen]
 rw [Oper.upon_value]
 go_wp2
 go_end0
 exact ⟨rfl, rfl⟩
theorem copyCheck_calls (B b : Nat) (bs : List Value) (w : World) (h : Lib.IsBuilderF 148 5 B b bs w) :
 Calls Tryz.prog 164 #[.pointer (some ⟨b, 0, none⟩)] w fun e w' => e = .returned (.tuple #[]) ∧ (Lib.BuilderAtF 148 5 B b (.pointer (some ⟨b, 0, none⟩)) bs w' ∧ Below B w w' ∧ Lib.OthersKept 5 (some b) w w') := by
 rcases h with h | h
 ·refine (copyCheck_fresh b w h.cell0 h.shape h.frozen0).mono ?_
  rintro e w' ⟨rfl, rfl⟩
  exact ⟨rfl, h.used _, (Below.refl B w).setCell (p := ⟨b, 0, none⟩) h.1 _, (Lib.OthersKept.refl _ _ w).setCell ⟨b, 0, none⟩ rfl _⟩
 ·refine (copyCheck_used b w h.cell0).mono ?_
  rintro e w' ⟨rfl, rfl⟩
  exact ⟨rfl, h, Below.refl B _, Lib.OthersKept.refl _ _ _⟩
theorem writeByte_calls (B b : Nat) (bs : List Value) (c : Int) (w : World) (h : Lib.IsBuilderF 148 5 B b bs w) (hlen : bs.length + 1 ≤ 140737488355328) (hBw : B ≤ w.heap.size) :
 Calls Tryz.prog 141 #[.pointer (some ⟨b, 0, none⟩), .int .u8 c] w fun e w' => e = .returned .nilIface ∧ (Lib.BuilderAtF 148 5 B b (.pointer (some ⟨b, 0, none⟩)) (bs ++ [.int .u8 c]) w' ∧ Below B w w' ∧ Lib.OthersKept 5 (some b) w w') := by
 obtain ⟨i0, hi, hz0, hz1, hz2⟩ := info_parts bZ
 go_enter Tryz.func141, Tryz.ntmps141
 go_wp2_with (go_at_call 164; refine (copyCheck_calls B b bs _ h).mono ?_)
 rintro e w1 ⟨rfl, h1, hb1, hk1⟩
 obtain ⟨hB, v, hbk, hown, hne⟩ := h1
 have c0 : w1.cell? ⟨b, 0, none⟩ = some (.pointer (some ⟨b, 0, none⟩)) := by rw [Lib.cell_of_heap hbk]; rfl
 have c1 : w1.cell? ⟨b, 1, none⟩ = some v := by rw [Lib.cell_of_heap hbk]; rfl
 go_wp2_with (at_builtin; refine wpList_append_ownF _ rfl _ _ 146 rfl B 5 i0 (.int .u8 0) 1 1 Tryz.underlying146 hi hz0 hz1 hz2 rfl (by decide) _ _ _ rfl (hown.alloc _) ⟨w1.heap.size, 0, none⟩ 1 1 [.int .u8 c] rfl rfl ?c1 ?c2 ?c3 ?c4 ?c5 ?_)
 case c1 =>
  intro j u hj
  match j, hj with
  | 0, hj => simp at hj; subst hj; simp [Addr.add]
 case c2 => intro u hu; simp at hu; subst hu; rfl
 case c3 => unfold maxLen; omega
 case c4 => omega
 case c5 => have := hb1.size; simp; omega
 intro v' w2 hown' hgrow _
 have hlt : b < w1.heap.size := by
  rcases Nat.lt_or_ge b w1.heap.size with h' | h'
  ·exact h'
  ·simp [Array.getElem?_eq_none h'] at hbk
 have hb2 : w2.heap[b]? = some (.cells #[.pointer (some ⟨b, 0, none⟩), v] 148 (0, 0)) := by
  rw [hgrow.block b (by simp; omega) (fun e => hne e.symm), Lib.alloc_old w1 _ b hlt]
  exact hbk
 have d0 : w2.cell? ⟨b, 0, none⟩ = some (.pointer (some ⟨b, 0, none⟩)) := by rw [Lib.cell_of_heap hb2]; rfl
 have d1 : w2.cell? ⟨b, 1, none⟩ = some v := by rw [Lib.cell_of_heap hb2]; rfl
 have f1 : w2.frozen? ⟨b, 1, none⟩ = false := Lib.frozen_of_heap hb2 1
 obtain ⟨g, cap, rfl⟩ : ∃ g cap, v' = .slice (some ⟨g, 0, none⟩) (bs.length + 1) cap := by
  rcases hown'.2 with ⟨_, h0⟩ | ⟨g, cap, cur, fz, hv, _⟩
  ·omega
  ·exact ⟨g, cap, hv⟩
 go_wp2
 go_ret
 refine ⟨rfl, ?_, ?_, ((hk1.alloc _).grown hgrow (Lib.ownsRowF_kind (hown.alloc _))).setCell ⟨b, 1, none⟩ rfl _⟩
 ·exact Lib.BuilderAtF.put (T := 148) (e := 5) hB hb2 (bs' := bs ++ [.int .u8 c]) (by simpa using hown') (by decide)
 ·exact ((hb1.alloc (by have := hb1.size; omega) _).grown hgrow (by have := hb1.size; simp; omega) (fun k hk => (hown.lt k hk).1)).setCell (p := ⟨b, 1, none⟩) hB _
end
section
open Go.Lib Go.RowKit Go.Shelf
section
variable {P : Program} (w : World)
theorem run_append_string_at (base : Nat) (t u ty e : TypeId) (i : TypeInfo) (ht : P.underlying t = some (.slice e)) (hu : P.underlying u = some .string) (hi : P.info? e = some i) (hz : i.zero = some (.int .u8 0))
 (hsize : i.size = 1) (hby : i.bytes = 1)
 (v : Value) (n : Nat) (xs : List Value) (hown : w.ownsRowF base e 1 v n xs) (s : ByteArray)
 (h63 : n + s.size ≤ maxLen) (hbytes : n + s.size ≤ 140737488355328) (hbase : base ≤ w.heap.size) :
 ∃ v' w', (Builtin.append_ #[t, u] ty #[v, .string s]).run P w = .ok v' w' ∧ w'.ownsRowF base e 1 v' (n + s.size) (xs ++ strCells s) ∧ w.grownBy w' v.ownBlock ∧
  (∀ g, v'.ownBlock = some g → v.ownBlock = some g ∨ w.heap.size ≤ g) := by
 rcases hown.2 with ⟨rfl, rfl⟩ | ⟨g, cap, cur, fz, rfl, hbg, hg, hfz, hnc, hcm, hcs, htake⟩
 ·obtain ⟨v', w', h1, h2, h3, h4⟩ := run_append_own_string (P := P) w w.heap.size t u ty e i ht hu hi hz hsize hby (.slice none 0 0) 0 xs ⟨hown.1, .inl ⟨rfl, rfl⟩⟩ s h63 hbytes (Nat.le_refl _)
  have h2' := World.ownsRowF_of h2
  refine ⟨v', w', h1, ⟨h2'.1, ?_⟩, h3, fun g hg => .inr (h2'.lt g hg).1⟩
  rcases h2'.2 with h | ⟨g, cap, cur, fz, hv, hb, hr⟩
  ·exact .inl h
  ·exact .inr ⟨g, cap, cur, fz, hv, Nat.le_trans hbase hb, hr⟩
 ·have hsmall : n + s.size ≤ 9223372036854775807 := by simp only [maxLen] at h63; omega
  have hxl : xs.length = n := by simpa using hown.1
  have hlen : (xs ++ strCells s).length = (n + s.size) * 1 := by rw [List.length_append, hxl, strCells_length, Nat.mul_one]
  by_cases hroom : n + s.size ≤ cap
  ·have hcs' : cur.size = cap := by simpa using hcs
   have hr := run_append_room_stringF (P := P) w t u ty e i ht hu hi hsize g n cap cur fz hg (by simpa using hfz) s hroom (by omega)
   refine ⟨_, _, hr, ⟨hlen, .inr ⟨g, cap, _, fz, rfl, hbg, setRow_heap w g cur _ e _ hg, by omega, hroom, hcm, ?_, ?_⟩⟩, ⟨rfl, rfl, rfl, by simp, fun k _ hk => setRow_other w g k _ (fun e => hk (by simp [Value.ownBlock, e]))⟩, fun x hx => .inl hx⟩
   ·simp only [List.size_toArray, List.length_append, List.length_take, List.length_drop, Array.length_toList, strCells_length]
    omega
   ·have ht' : cur.toList.take n = xs := by simpa using htake
    rw [ht', ← hlen]
    exact List.take_left
  ·have holds : ∀ j u, xs[j]? = some u → w.cell? ((⟨g, 0, none⟩ : Addr).add j) = some u := hown.cells (g := g) rfl
   have hr := run_append_grow_string (P := P) w t u ty e i (.int .u8 0) ht hu hi hz ⟨g, 0, none⟩ n cap xs (by rw [hsize]; simpa using hxl) holds s (by omega) (by omega) (by rw [hby]; exact growslice_fits (by omega) (by omega))
   have hge := grownCap_ge w (n + s.size) cap e
   have hcm2 : grownCap w (n + s.size) cap e ≤ maxLen := grownCap_le_maxLen w (n + s.size) cap e h63
   refine ⟨_, _, hr, ⟨hlen, .inr ⟨w.heap.size, _, _, (0, 0), rfl, hbase, heap_alloc_new w.drew _, Nat.zero_le _, hge, hcm2, ?_, ?_⟩⟩, ⟨rfl, rfl, rfl, by simp, fun k hk _ => by first | exact heap_alloc_old w.drew _ k hk | exact heap_alloc_old w.drew _ hk⟩, fun x hx => .inr (by simp [Value.ownBlock] at hx; omega)⟩
   ·have hz1 : (Value.int IntKind.u8 0).cells.size = 1 := rfl
    simp only [Array.size_append, List.size_toArray, size_zeroCells, hz1, hxl, strCells_length]
    omega
   ·simp only [Array.toList_append, List.append_assoc]
    rw [← List.append_assoc, ← hlen]
    exact List.take_left
theorem wpList_append_string_at {ops : Array Oper} {rest : List Oper} {o : Oper} {a : Act} {Q : Exit → Act → World → Prop} (hgd : o.guard = none) (sl x : Operand) (t u : TypeId)
 (ho : o.op = .call { callee := .builtin .append, args := #[sl, x], argTypes := #[t, u] })
 (base : Nat) (e : TypeId) (i : TypeInfo) (ht : P.underlying t = some (.slice e)) (hu : P.underlying u = some .string) (hi : P.info? e = some i) (hz : i.zero = some (.int .u8 0))
 (hsize : i.size = 1) (hby : i.bytes = 1)
 (v : Value) (n : Nat) (xs : List Value) (hs : a.eval sl = v) (hown : w.ownsRowF base e 1 v n xs) (s : ByteArray) (hx : a.eval x = .string s)
 (h63 : n + s.size ≤ maxLen) (hbytes : n + s.size ≤ 140737488355328) (hbase : base ≤ w.heap.size)
 (h : ∀ v' w', w'.ownsRowF base e 1 v' (n + s.size) (xs ++ strCells s) → w.grownBy w' v.ownBlock → (∀ g, v'.ownBlock = some g → v.ownBlock = some g ∨ w.heap.size ≤ g) → wpList P ops Q rest (a.put o.dst v') w') : wpList P ops Q (o :: rest) a w := by
 refine wpList_plain hgd fun K hK => ?_
 obtain ⟨v', w', hr, h2, h3, h4⟩ := run_append_string_at (P := P) w base t u o.type e i ht hu hi hz hsize hby v n xs hown s h63 hbytes hbase
 unfold Oper.wp execOp
 simp only [ho, resolve, invoke, builtin, Sem.run_bind, Sem.run_pure, Result.andThen_ok, List.map_toArray, List.map_cons, List.map_nil, hs, hx, hr]
 exact hK _ _ (h v' w' h2 h3 h4)
end
/-- A builder with its row in sight. -/
def BX (B b : Nat) (p v : Value) (bs : List Value) (w : World) : Prop :=
 (p = .pointer none ∨ p = .pointer (some ⟨b, 0, none⟩)) ∧ B ≤ b ∧ w.heap[b]? = some (.cells #[p, v] 148 (0, 0)) ∧ w.ownsRowF B 5 1 v bs.length bs ∧ v.ownBlock ≠ some b
theorem BX.of {B b : Nat} {bs : List Value} {w : World} (h : Lib.IsBuilderF 148 5 B b bs w) : ∃ p v, BX B b p v bs w := by
 rcases h with ⟨h1, v, h2⟩ | ⟨h1, v, h2⟩
 ·exact ⟨_, v, .inl rfl, h1, h2⟩
 ·exact ⟨_, v, .inr rfl, h1, h2⟩
theorem BX.builder {B b : Nat} {p v : Value} {bs : List Value} {w : World} (h : BX B b p v bs w) : Lib.IsBuilderF 148 5 B b bs w := by
 obtain ⟨h0, h1, h2⟩ := h
 rcases h0 with rfl | rfl
 ·exact .inl ⟨h1, v, h2⟩
 ·exact .inr ⟨h1, v, h2⟩
theorem BX.lt {B b : Nat} {p v : Value} {bs : List Value} {w : World} (h : BX B b p v bs w) : b < w.heap.size := (Array.getElem?_eq_some_iff.1 h.2.2.1).1
theorem BX.below {B b : Nat} {p v : Value} {bs : List Value} {w w' : World} (h : BX B b p v bs w) (hb : Below w.heap.size w w') : BX B b p v bs w' := by
 have hl := h.lt
 obtain ⟨h0, h1, h2, h3, h4⟩ := h
 refine ⟨h0, h1, (hb.block b hl).trans h2, ⟨h3.1, ?_⟩, h4⟩
 have h3' := h3
 rcases h3.2 with hn | ⟨g, cap, cur, fz, rfl, hbg, hg, hr⟩
 ·exact .inl hn
 ·exact .inr ⟨g, cap, cur, fz, rfl, hbg, (hb.block g (h3'.lt g rfl).2).trans hg, hr⟩
theorem copyCheckX {B b : Nat} {p v : Value} {bs : List Value} {w : World} (h : BX B b p v bs w) :
 Calls Tryz.prog 164 #[.pointer (some ⟨b, 0, none⟩)] w fun e w' => e = .returned (.tuple #[]) ∧ (BX B b (.pointer (some ⟨b, 0, none⟩)) v bs w' ∧ Below B w w' ∧ w'.heap.size = w.heap.size ∧ ∀ k, k ≠ b → w'.heap[k]? = w.heap[k]?) := by
 obtain ⟨h0, h1, h2, h3, h4⟩ := h
 rcases h0 with rfl | rfl
 ·have hb : Lib.BuilderAtF 148 5 B b (.pointer none) bs w := ⟨h1, v, h2, h3, h4⟩
  refine (copyCheck_fresh b w hb.cell0 hb.shape hb.frozen0).mono ?_
  rintro e w' ⟨rfl, rfl⟩
  refine ⟨rfl, ⟨.inr rfl, h1, ?_, ?_, h4⟩, (Below.refl B w).setCell (p := ⟨b, 0, none⟩) h1 _, by simp, fun k hk => Below.heap_setCell _ _ _ _ (fun e => hk (by first | exact e | exact e.symm))⟩
  ·simp [World.setCell, Array.getElem?_modify, h2]
  ·exact h3.kept (row := some b) ⟨rfl, rfl, rfl, by simp [World.setCell], fun k _ hk => Below.heap_setCell _ _ _ _ (fun e => hk (by simp [e]))⟩ (.inr h4)
 ·refine (copyCheck_used b w (Lib.BuilderAtF.cell0 (p := .pointer (some ⟨b, 0, none⟩)) ⟨h1, v, h2, h3, h4⟩)).mono ?_
  rintro e w' ⟨rfl, rfl⟩
  exact ⟨rfl, ⟨.inr rfl, h1, h2, h3, h4⟩, Below.refl B _, rfl, fun _ _ => rfl⟩
theorem writeStringX {B b : Nat} {p v : Value} {bs : List Value} {w : World} (s : ByteArray) (h : BX B b p v bs w) (hlen : bs.length + s.size ≤ 140737488355328) (hBw : B ≤ w.heap.size) :
 Calls Tryz.prog 130 #[.pointer (some ⟨b, 0, none⟩), .string s] w fun e w' => ∃ p' v', e = .returned (.tuple #[.int .i64 s.size, .nilIface]) ∧ BX B b p' v' (bs ++ Lib.strCells s) w' ∧ Below B w w' ∧ (∀ k, k < w.heap.size → k ≠ b → v.ownBlock ≠ some k → w'.heap[k]? = w.heap[k]?) ∧ (∀ g, v'.ownBlock = some g → v.ownBlock = some g ∨ w.heap.size ≤ g) := by
 obtain ⟨i0, hi, hz0, hz1, hz2⟩ := info_parts bZ
 go_enter Tryz.func130, Tryz.ntmps130
 go_wp2_with (go_at_call 164; refine (copyCheckX h).mono ?_)
 rintro e w1 ⟨rfl, h1, hb1, hz1', hk1⟩
 obtain ⟨h0, hB, hbk, hown, hne⟩ := h1
 have c0 : w1.cell? ⟨b, 0, none⟩ = some (.pointer (some ⟨b, 0, none⟩)) := by rw [Lib.cell_of_heap hbk]; rfl
 have c1 : w1.cell? ⟨b, 1, none⟩ = some v := by rw [Lib.cell_of_heap hbk]; rfl
 go_wp2_with (at_builtin; refine wpList_append_string_at _ rfl _ _ 146 9 rfl B 5 i0 Tryz.underlying146 Tryz.underlying9 hi hz0 hz1 hz2 _ _ _ rfl hown s rfl ?c3 ?c4 ?c5 ?_)
 case c3 => unfold maxLen; omega
 case c4 => omega
 case c5 => have := hb1.size; omega
 intro v' w2 hown' hgrow hat
 have hlt : b < w1.heap.size := (Array.getElem?_eq_some_iff.1 hbk).1
 have hb2 : w2.heap[b]? = some (.cells #[.pointer (some ⟨b, 0, none⟩), v] 148 (0, 0)) := by
  rw [hgrow.block b hlt (fun e => hne e.symm)]
  exact hbk
 have d0 : w2.cell? ⟨b, 0, none⟩ = some (.pointer (some ⟨b, 0, none⟩)) := by rw [Lib.cell_of_heap hb2]; rfl
 have d1 : w2.cell? ⟨b, 1, none⟩ = some v := by rw [Lib.cell_of_heap hb2]; rfl
 have f1 : w2.frozen? ⟨b, 1, none⟩ = false := Lib.frozen_of_heap hb2 1
 obtain ⟨ao, n', cap, rfl⟩ : ∃ ao n' cap, v' = .slice ao n' cap := by
  rcases hown'.2 with ⟨hv, _⟩ | ⟨g, cap, cur, fz, hv, _⟩
  ·exact ⟨_, _, _, hv⟩
  ·exact ⟨_, _, _, hv⟩
 go_wp2
 go_ret2
 have hp := Lib.BuilderAtF.put (T := 148) (e := 5) hB hb2 (bs' := bs ++ Lib.strCells s) (by simpa [Lib.strCells_length] using hown') (by decide)
 have hne' := Lib.ownBlock_neF hown' hb2 (by decide)
 have hown2 : w2.ownsRowF B 5 1 (.slice ao n' cap) (bs ++ Lib.strCells s).length (bs ++ Lib.strCells s) := by simpa [Lib.strCells_length] using hown'
 refine ⟨_, _, rfl, ⟨.inr rfl, hB, ?_, ?_, hne'⟩, ?_, fun k hk hkb hkv => ?_, fun g hg => ?_⟩
 ·simp [World.setCell, Array.getElem?_modify, hb2]
 ·exact hown2.kept (row := some b) ⟨rfl, rfl, rfl, by simp [World.setCell], fun k _ hk => Below.heap_setCell _ _ _ _ (fun e => hk (by simp [e]))⟩ (.inr hne')
 ·exact (hb1.grown hgrow (by have := hb1.size; omega) (fun k hk => (hown.lt k hk).1)).setCell (p := ⟨b, 1, none⟩) hB _
 ·rw [Below.heap_setCell _ _ _ _ (fun e => hkb (by first | exact e | exact e.symm)), hgrow.block k (by omega) (fun e => hkv e.symm), hk1 k hkb]
 ·exact hat g hg
end
section
open Go.Proofs.YtillgofjlpjbcaaGreatDoorW.PrintLast Go.Proofs.YtillgofjlpjbcaaGreatDoorW.PrintMore Go.Proofs.YtillgofjlpjbcaaGreatDoorW.PrintWords Go.RowKit
/-- Two integers in boxes, and a box for a result. -/
structure Two (V : World) (b : Nat) (v1 v2 : Value) (f g : Bool) : Prop where
 x0 : V.cell? ⟨b, 0, none⟩ = some v1
 x1 : V.cell? ⟨b, 1, none⟩ = some (.bool f)
 y0 : V.cell? ⟨b + 1, 0, none⟩ = some v2
 y1 : V.cell? ⟨b + 1, 1, none⟩ = some (.bool g)
theorem mul_any {w W : World} {B : Nat} {A1 A2 : Option Addr} {L1 L2 m n : Nat} (h1 : Mag w B A1 L1 m) (h2 : Mag w B A2 L2 n) (hB : B ≤ w.heap.size) (hL : L1 + L2 ≤ 90000) (hb : Below w.heap.size w W) :
 Calls Tryz.prog 149 #[.agg #[.slice A1 L1 L1], .agg #[.slice A2 L2 L2]] W fun e w' => ∃ A k, e = .returned (.agg #[.slice A k k]) ∧ Mag w' w'.heap.size A k (m * n) ∧ Below W.heap.size W w' :=
 mul_calls (h1.keep hB hb) (h2.keep hB hb) (Nat.le_trans hB hb.size) hL
theorem sign_mul (x y : Int) : ((decide (x < 0) != decide (y < 0)) && decide (x.natAbs * y.natAbs ≠ 0)) = decide (x * y < 0) := by
 rw [← Int.natAbs_mul]
 rcases Int.lt_trichotomy x 0 with h | h | h <;> rcases Int.lt_trichotomy y 0 with h' | h' | h'
 all_goals first
  | (subst h; simp; done)
  | (subst h'; simp; done)
  | skip
 ·have : 0 < x * y := Int.mul_pos_of_neg_of_neg h h'
  rw [decide_eq_true h, decide_eq_true h', decide_eq_false (p := x * y < 0) (by omega)]; rfl
 ·have : x * y < 0 := Int.mul_neg_of_neg_of_pos h h'
  rw [decide_eq_true h, decide_eq_false (p := y < 0) (by omega), decide_eq_true this, decide_eq_true (p := (x * y).natAbs ≠ 0) (by omega)]; rfl
 ·have : x * y < 0 := Int.mul_neg_of_pos_of_neg h h'
  rw [decide_eq_true h', decide_eq_false (p := x < 0) (by omega), decide_eq_true this, decide_eq_true (p := (x * y).natAbs ≠ 0) (by omega)]; rfl
 ·have : 0 < x * y := Int.mul_pos h h'
  rw [decide_eq_false (p := x < 0) (by omega), decide_eq_false (p := y < 0) (by omega), decide_eq_false (p := x * y < 0) (by omega)]; rfl
theorem signed_any {w : World} {B : Nat} {A : Option Addr} {L n : Nat} (h : Mag w B A L n) (hB : B ≤ w.heap.size) {neg r : Bool} (hr : (neg && decide (n ≠ 0)) = r) :
 Calls Tryz.prog 139 #[.agg #[.slice A L L], .bool neg] w fun e w' => e = .returned (.agg #[.slice A L L, .bool r]) ∧ Mag w' B A L n ∧ Below w.heap.size w w' := by
 subst hr
 exact signed_calls h hB neg
theorem bKeep {b : Nat} {w1 W W2 : World} (hb : Below W.heap.size W W2) (hS : Below b w1 W) (hle : b ≤ w1.heap.size) : Below b w1 W2 := hS.trans (hb.mono (Nat.le_trans hle hS.size))
theorem keepB {b : Nat} {w1 W2 : World} (h : Below b w1 W2) {c o : Nat} {v : Value} (hlt : c < b) (hc : w1.cell? ⟨c, o, none⟩ = some v) : W2.cell? ⟨c, o, none⟩ = some v := (h.cell (p := ⟨c, o, none⟩) hlt).trans hc
/-- A box for an integer that a function hands back. -/
def Out (W : World) (b : Nat) : Prop := W.cell? ⟨b, 0, none⟩ = some (.slice none 0 0) ∧ W.cell? ⟨b, 1, none⟩ = some (.bool false) ∧ W.frozen? ⟨b, 0, none⟩ = false ∧ W.frozen? ⟨b, 1, none⟩ = false
theorem Out.keep {W W2 : World} {b : Nat} (h : Out W b) (hb : Below W.heap.size W W2) : Out W2 b := by
 obtain ⟨h1, h2, h3, h4⟩ := h
 have hl := World.block_lt_of_cell? W _ h1
 exact ⟨(hb.cell (p := ⟨b, 0, none⟩) hl).trans h1, (hb.cell (p := ⟨b, 1, none⟩) hl).trans h2, (hb.frozen (p := ⟨b, 0, none⟩) hl).trans h3, (hb.frozen (p := ⟨b, 1, none⟩) hl).trans h4⟩
theorem Mag.apart {w : World} {B : Nat} {A : Option Addr} {L n : Nat} (h : Mag w B A L n) {b : Nat} {v : Value} (hc : w.cell? ⟨b, 0, none⟩ = some v) (hv : ∀ d : Int, v ≠ .int .u32 d) : ∀ c, 0 < L → A = some ⟨c, 0, none⟩ → c ≠ b := by
 rintro c hL e rfl
 obtain ⟨d, rfl, _, hcc⟩ := h.2.2 hL
 injection e with e
 injection e with e
 subst e
 have := hcc 0 hL
 rw [hc] at this
 injection this with this
 exact hv _ this
theorem Mag.setA {w : World} {B : Nat} {A : Option Addr} {L n : Nat} (h : Mag w B A L n) {b : Nat} (hp : ∀ c, 0 < L → A = some ⟨c, 0, none⟩ → c ≠ b) (o : Nat) (u : Value) : Mag (w.setCell ⟨b, o, none⟩ u) B A L n := by
 obtain ⟨h1, h2, h3⟩ := h
 refine ⟨h1, h2, fun hL => ?_⟩
 obtain ⟨c, rfl, hlt, hc⟩ := h3 hL
 exact ⟨c, rfl, hlt, fun j hj => (World.cell?_setCell_other w ⟨b, o, none⟩ ⟨c, j, none⟩ u (fun e => hp c hL rfl (by first | exact congrArg Addr.block e | exact (congrArg Addr.block e).symm))).trans (hc j hj)⟩
theorem Out.mag {W : World} {b B : Nat} {A : Option Addr} {L n : Nat} (h : Out W b) (hm : Mag W B A L n) (u u' : Value) : Mag ((W.setCell ⟨b, 0, none⟩ u).setCell ⟨b, 1, none⟩ u') B A L n :=
 have hp := hm.apart h.1 (fun d => by simp)
 (hm.setA hp 0 u).setA hp 1 u'
theorem Out.keep' {W W2 : World} {b : Nat} (h : Aside0 (Out W b)) (hb : Below W.heap.size W W2) : Aside0 (Out W2 b) := ⟨h.out.keep hb⟩
theorem times_calls {w : World} {B : Nat} {A1 A2 : Option Addr} {L1 L2 : Nat} {x y : Int} (h1 : Mag w B A1 L1 x.natAbs) (h2 : Mag w B A2 L2 y.natAbs) (hB : B ≤ w.heap.size) (hL : L1 + L2 ≤ 90000) :
 Calls Tryz.prog 85 #[iV A1 L1 x, iV A2 L2 y] w fun e w' => ∃ A k, e = .returned (iV A k (x * y)) ∧ Mag w' w'.heap.size A k (x * y).natAbs ∧ Below w.heap.size w w' := by
 unfold iV
 have H1 : Aside0 (Mag w B A1 L1 x.natAbs) := ⟨h1⟩
 have H2 : Aside0 (Mag w B A2 L2 y.natAbs) := ⟨h2⟩
 clear h1 h2
 obtain ⟨f, hf⟩ : ∃ f, decide (x < 0) = f := ⟨_, rfl⟩
 obtain ⟨g, hg⟩ : ∃ g, decide (y < 0) = g := ⟨_, rfl⟩
 obtain ⟨r, hr⟩ : ∃ r, decide (x * y < 0) = r := ⟨_, rfl⟩
 have HFG : Aside0 ((!(f == g) && decide (x.natAbs * y.natAbs ≠ 0)) = r) := ⟨by rw [← hf, ← hg, ← hr]; exact sign_mul x y⟩
 have HR : Aside0 ((x * y).natAbs = x.natAbs * y.natAbs) := ⟨Int.natAbs_mul x y⟩
 rw [hf, hg, hr]
 clear hf hg hr
 go_enter Tryz.func85, Tryz.ntmps85
 go_wp2_with fail
 obtain ⟨wr, hwr⟩ : ∃ wr, (((w.alloc (.cells #[.slice A1 L1 L1, .bool f] 89)).alloc (.cells #[.slice A2 L2 L2, .bool g] 89)).alloc (.cells #[.slice none 0 0, .bool false] 89)) = wr := ⟨_, rfl⟩
 have HX : Aside0 (wr.cell? ⟨w.heap.size, 0, none⟩ = some (.slice A1 L1 L1) ∧ wr.cell? ⟨w.heap.size, 1, none⟩ = some (.bool f) ∧ wr.cell? ⟨w.heap.size + 1, 0, none⟩ = some (.slice A2 L2 L2) ∧ wr.cell? ⟨w.heap.size + 1, 1, none⟩ = some (.bool g)) := ⟨by
  subst hwr
  refine ⟨?_, ?_, ?_, ?_⟩ <;> simp [go_sem]⟩
 have HO : Aside0 (Out wr (w.heap.size + 1 + 1)) := ⟨by
  subst hwr
  refine ⟨?_, ?_, ?_, ?_⟩ <;> simp [go_sem]⟩
 have HA : Aside0 (Below w.heap.size w wr ∧ w.heap.size + 3 ≤ wr.heap.size) := ⟨by subst hwr; repeat (first | exact Below.refl _ _ | apply below_alloc), by subst hwr; simp⟩
 rw [hwr]
 clear hwr
 rename_i Q' K hK
 refine wp_region_held_drew (S := (fun V => V.cell? ⟨w.heap.size, 0, none⟩ = some (.slice A1 L1 L1) ∧ V.cell? ⟨w.heap.size, 1, none⟩ = some (.bool f) ∧ V.cell? ⟨w.heap.size + 1, 0, none⟩ = some (.slice A2 L2 L2) ∧ V.cell? ⟨w.heap.size + 1, 1, none⟩ = some (.bool g) ∧ Below (w.heap.size + 2) wr V)) (by kernel_rfl) ?_ (fun hHeld => ?_)
 ·(have tb := below_drew1 (Below.refl (w.heap.size + 2) wr); exact ⟨keepB tb (by omega) HX.out.1, keepB tb (by omega) HX.out.2.1, keepB tb (by omega) HX.out.2.2.1, keepB tb (by omega) HX.out.2.2.2, tb⟩)
 refine tp 0 ?_
 try simp only [PU]
 refine tp 1 ?_
 try simp only [PU]
 refine tp 2 ?_
 try simp only [PU]
 refine tp 3 ?_
 try simp only [PU]
 refine tp 5 ?_
 try simp only [PU]
 refine tp 6 ?_
 try simp only [PU]
 refine tp 7 ?_
 try simp only [PU]
 refine tp 8 ?_
 try simp only [PU]
 refine tp 9 ?_
 try simp only [PU]
 refine tc 4 fun K hK => ?_
 go_simp
 (go_at_call 149; (with_reducible refine (mul_any H1.out H2.out hB hL (HA.out.1.trans (hHeld.2.2.2.2.mono (by omega)))).mono ?_); rintro e wm ⟨A, k, rfl, hm, hbq⟩; have HOm := Out.keep' (Out.keep' HO (below_drew1 (Below.refl _ _))) hbq; have HBm := hHeld.2.2.2.2)
 refine hK.out _ _ ?_ fun hHeld => ?_
 ·(first | (have hBB := bKeep hbq hHeld.2.2.2.2 (by have := HA.out.2; omega); exact ⟨keepB hBB (by omega) HX.out.1, keepB hBB (by omega) HX.out.2.1, keepB hBB (by omega) HX.out.2.2.1, keepB hBB (by omega) HX.out.2.2.2, hBB⟩) | (have hBB := (hHeld.2.2.2.2.setCell (p := ⟨w.heap.size + 1 + 1, 0, none⟩) (by simp) (.slice A k k)).setCell (p := ⟨w.heap.size + 1 + 1, 1, none⟩) (by simp) (.bool r); exact ⟨keepB hBB (by omega) HX.out.1, keepB hBB (by omega) HX.out.2.1, keepB hBB (by omega) HX.out.2.2.1, keepB hBB (by omega) HX.out.2.2.2, hBB⟩))
 clear hK K; try simp only [PU]
 refine tc 10 fun K hK => ?_
 go_simp
 (go_at_call 139; (with_reducible refine (signed_any hm (Nat.le_refl _) HFG.out).mono ?_); rintro e wq ⟨rfl, hmq, hbq⟩; have HOq := Out.keep' HOm hbq; obtain ⟨q1, q2, q3, q4⟩ := HOq.out)
 refine hK.out _ _ ?_ fun hHeld => ?_
 ·(first | (have hBB := bKeep hbq hHeld.2.2.2.2 (by have := HA.out.2; omega); exact ⟨keepB hBB (by omega) HX.out.1, keepB hBB (by omega) HX.out.2.1, keepB hBB (by omega) HX.out.2.2.1, keepB hBB (by omega) HX.out.2.2.2, hBB⟩) | (have hBB := (hHeld.2.2.2.2.setCell (p := ⟨w.heap.size + 1 + 1, 0, none⟩) (by simp) (.slice A k k)).setCell (p := ⟨w.heap.size + 1 + 1, 1, none⟩) (by simp) (.bool r); exact ⟨keepB hBB (by omega) HX.out.1, keepB hBB (by omega) HX.out.2.1, keepB hBB (by omega) HX.out.2.2.1, keepB hBB (by omega) HX.out.2.2.2, hBB⟩))
 clear hK K; try simp only [PU]
 refine tc 11 fun K hK => ?_
 go_simp
 (skip)
 refine hK.out _ _ ?_ fun hHeld => ?_
 ·(first | (have hBB := bKeep hbq hHeld.2.2.2.2 (by have := HA.out.2; omega); exact ⟨keepB hBB (by omega) HX.out.1, keepB hBB (by omega) HX.out.2.1, keepB hBB (by omega) HX.out.2.2.1, keepB hBB (by omega) HX.out.2.2.2, hBB⟩) | (have hBB := (hHeld.2.2.2.2.setCell (p := ⟨w.heap.size + 1 + 1, 0, none⟩) (by simp) (.slice A k k)).setCell (p := ⟨w.heap.size + 1 + 1, 1, none⟩) (by simp) (.bool r); exact ⟨keepB hBB (by omega) HX.out.1, keepB hBB (by omega) HX.out.2.1, keepB hBB (by omega) HX.out.2.2.1, keepB hBB (by omega) HX.out.2.2.2, hBB⟩))
 clear hK K; try simp only [PU]
 refine wpAnyH_done (by kernel_rfl) ?_ _
 refine hK _ _ ?_
 go_wp2
 refine bodyPost_ret (v := .agg #[.slice A k k, .bool r]) (by simp [results, Tryz.results85, go_sem, q1, q2]) rfl ⟨A, k, rfl, ?_, HA.out.1.trans ((hHeld.2.2.2.2).mono (by omega))⟩
 rw [HR.out]
 exact (HOq.out.mag hmq _ _).more (by simpa using hbq.size)
theorem add_any {w W : World} {B : Nat} {A1 A2 : Option Addr} {L1 L2 m n : Nat} (h1 : Mag w B A1 L1 m) (h2 : Mag w B A2 L2 n) (hB : B ≤ w.heap.size) (hL1 : L1 ≤ 90000) (hL2 : L2 ≤ 90000) (hb : Below w.heap.size w W) :
 Calls Tryz.prog 143 #[.agg #[.slice A1 L1 L1], .agg #[.slice A2 L2 L2]] W fun e w' => ∃ A k, e = .returned (.agg #[.slice A k k]) ∧ Mag w' w'.heap.size A k (m + n) ∧ Below W.heap.size W w' :=
 add_calls (h1.keep hB hb) (h2.keep hB hb) (Nat.le_trans hB hb.size) hL1 hL2
theorem less_any {w W : World} {B : Nat} {A1 A2 : Option Addr} {L1 L2 m n : Nat} (h1 : Mag w B A1 L1 m) (h2 : Mag w B A2 L2 n) (hB : B ≤ w.heap.size) (hnm : n ≤ m) (hb : Below w.heap.size w W) :
 Calls Tryz.prog 145 #[.agg #[.slice A1 L1 L1], .agg #[.slice A2 L2 L2]] W fun e w' => ∃ A k, e = .returned (.agg #[.slice A k k]) ∧ Mag w' w'.heap.size A k (m - n) ∧ Below W.heap.size W w' :=
 less_calls (h1.keep hB hb) (h2.keep hB hb) (Nat.le_trans hB hb.size) hnm
theorem order_any {w W : World} {B : Nat} {A1 A2 : Option Addr} {L1 L2 m n : Nat} (h1 : Mag w B A1 L1 m) (h2 : Mag w B A2 L2 n) (hB : B ≤ w.heap.size) (hb : Below w.heap.size w W) {x : Int} (hx : cmpI m n = x) :
 Calls Tryz.prog 144 #[.agg #[.slice A1 L1 L1], .agg #[.slice A2 L2 L2]] W fun e w' => e = .returned (.int .i64 x) ∧ Below W.heap.size W w' := by
 subst hx
 exact order_calls (h1.keep hB hb) (h2.keep hB hb) (Nat.le_trans hB hb.size)
theorem plus_calls {w : World} {B : Nat} {A1 A2 : Option Addr} {L1 L2 : Nat} {x y : Int} (h1 : Mag w B A1 L1 x.natAbs) (h2 : Mag w B A2 L2 y.natAbs) (hB : B ≤ w.heap.size) (hL1 : L1 ≤ 90000) (hL2 : L2 ≤ 90000) :
 Calls Tryz.prog 80 #[iV A1 L1 x, iV A2 L2 y] w fun e w' => ∃ A k, e = .returned (iV A k (x + y)) ∧ Mag w' w'.heap.size A k (x + y).natAbs ∧ Below w.heap.size w w' := by
 unfold iV
 have H1 : Aside0 (Mag w B A1 L1 x.natAbs) := ⟨h1⟩
 have H2 : Aside0 (Mag w B A2 L2 y.natAbs) := ⟨h2⟩
 clear h1 h2
 obtain ⟨f, hf⟩ : ∃ f, decide (x < 0) = f := ⟨_, rfl⟩
 obtain ⟨g, hg⟩ : ∃ g, decide (y < 0) = g := ⟨_, rfl⟩
 obtain ⟨r, hr⟩ : ∃ r, decide (x + y < 0) = r := ⟨_, rfl⟩
 by_cases hfg : f = g
 ·have HFG : Aside0 ((f && decide (x.natAbs + y.natAbs ≠ 0)) = r) := ⟨by
   rw [← hr, Bool.eq_iff_iff]
   rw [← hf, ← hg, decide_eq_decide] at hfg
   rw [← hf]; simp; omega⟩
  have HR : Aside0 ((x + y).natAbs = x.natAbs + y.natAbs) := ⟨by rw [← hf, ← hg, decide_eq_decide] at hfg; omega⟩
  rw [hf, hg, hr]
  clear hf hg hr
  subst hfg
  go_enter Tryz.func80, Tryz.ntmps80
  go_wp2_with fail
  obtain ⟨wr, hwr⟩ : ∃ wr, (((w.alloc (.cells #[.slice A1 L1 L1, .bool f] 89)).alloc (.cells #[.slice A2 L2 L2, .bool f] 89)).alloc (.cells #[.slice none 0 0, .bool false] 89)) = wr := ⟨_, rfl⟩
  have HX : Aside0 (wr.cell? ⟨w.heap.size, 0, none⟩ = some (.slice A1 L1 L1) ∧ wr.cell? ⟨w.heap.size, 1, none⟩ = some (.bool f) ∧ wr.cell? ⟨w.heap.size + 1, 0, none⟩ = some (.slice A2 L2 L2) ∧ wr.cell? ⟨w.heap.size + 1, 1, none⟩ = some (.bool f)) := ⟨by
   subst hwr
   refine ⟨?_, ?_, ?_, ?_⟩ <;> simp [go_sem]⟩
  have HO : Aside0 (Out wr (w.heap.size + 1 + 1)) := ⟨by
   subst hwr
   refine ⟨?_, ?_, ?_, ?_⟩ <;> simp [go_sem]⟩
  have HA : Aside0 (Below w.heap.size w wr ∧ w.heap.size + 3 ≤ wr.heap.size) := ⟨by subst hwr; repeat (first | exact Below.refl _ _ | apply below_alloc), by subst hwr; simp⟩
  rw [hwr]
  clear hwr
  rename_i Q' K1 hK1 K hK
  refine wp_region_held_drew (S := (fun V => V.cell? ⟨w.heap.size, 0, none⟩ = some (.slice A1 L1 L1) ∧ V.cell? ⟨w.heap.size, 1, none⟩ = some (.bool f) ∧ V.cell? ⟨w.heap.size + 1, 0, none⟩ = some (.slice A2 L2 L2) ∧ V.cell? ⟨w.heap.size + 1, 1, none⟩ = some (.bool f) ∧ Below (w.heap.size + 2) wr V)) (by kernel_rfl) ?_ (fun hHeld => ?_)
  ·(have tb := below_drew1 (Below.refl (w.heap.size + 2) wr); exact ⟨keepB tb (by omega) HX.out.1, keepB tb (by omega) HX.out.2.1, keepB tb (by omega) HX.out.2.2.1, keepB tb (by omega) HX.out.2.2.2, tb⟩)
  refine tp 0 ?_
  try simp only [PU]
  refine tp 1 ?_
  try simp only [PU]
  refine tp 2 ?_
  try simp only [PU]
  refine tp 3 ?_
  try simp only [PU]
  refine tp 5 ?_
  try simp only [PU]
  refine tp 6 ?_
  try simp only [PU]
  refine tc 4 fun K hK => ?_
  go_simp
  (go_at_call 143; (with_reducible refine (add_any H1.out H2.out hB hL1 hL2 (HA.out.1.trans (hHeld.2.2.2.2.mono (by omega)))).mono ?_); rintro e wm ⟨A, k, rfl, hm, hbq⟩; have HOm := Out.keep' (Out.keep' HO (below_drew1 (Below.refl _ _))) hbq)
  refine hK.out _ _ ?_ fun hHeld => ?_
  ·(first | (have hBB := bKeep hbq hHeld.2.2.2.2 (by have := HA.out.2; omega); exact ⟨keepB hBB (by omega) HX.out.1, keepB hBB (by omega) HX.out.2.1, keepB hBB (by omega) HX.out.2.2.1, keepB hBB (by omega) HX.out.2.2.2, hBB⟩) | (have hBB := (hHeld.2.2.2.2.setCell (p := ⟨w.heap.size + 1 + 1, 0, none⟩) (by simp) (.slice A k k)).setCell (p := ⟨w.heap.size + 1 + 1, 1, none⟩) (by simp) (.bool r); exact ⟨keepB hBB (by omega) HX.out.1, keepB hBB (by omega) HX.out.2.1, keepB hBB (by omega) HX.out.2.2.1, keepB hBB (by omega) HX.out.2.2.2, hBB⟩))
  clear hK K; try simp only [PU]
  refine tc 7 fun K hK => ?_
  go_simp
  (go_at_call 139; (with_reducible refine (signed_any hm (Nat.le_refl _) HFG.out).mono ?_); rintro e wq ⟨rfl, hmq, hbq⟩; have HOq := Out.keep' HOm hbq; obtain ⟨q1, q2, q3, q4⟩ := HOq.out)
  refine hK.out _ _ ?_ fun hHeld => ?_
  ·(first | (have hBB := bKeep hbq hHeld.2.2.2.2 (by have := HA.out.2; omega); exact ⟨keepB hBB (by omega) HX.out.1, keepB hBB (by omega) HX.out.2.1, keepB hBB (by omega) HX.out.2.2.1, keepB hBB (by omega) HX.out.2.2.2, hBB⟩) | (have hBB := (hHeld.2.2.2.2.setCell (p := ⟨w.heap.size + 1 + 1, 0, none⟩) (by simp) (.slice A k k)).setCell (p := ⟨w.heap.size + 1 + 1, 1, none⟩) (by simp) (.bool r); exact ⟨keepB hBB (by omega) HX.out.1, keepB hBB (by omega) HX.out.2.1, keepB hBB (by omega) HX.out.2.2.1, keepB hBB (by omega) HX.out.2.2.2, hBB⟩))
  clear hK K; try simp only [PU]
  refine tc 8 fun K hK => ?_
  go_simp
  refine hK.out _ _ ?_ fun hHeld => ?_
  ·(first | (have hBB := bKeep hbq hHeld.2.2.2.2 (by have := HA.out.2; omega); exact ⟨keepB hBB (by omega) HX.out.1, keepB hBB (by omega) HX.out.2.1, keepB hBB (by omega) HX.out.2.2.1, keepB hBB (by omega) HX.out.2.2.2, hBB⟩) | (have hBB := (hHeld.2.2.2.2.setCell (p := ⟨w.heap.size + 1 + 1, 0, none⟩) (by simp) (.slice A k k)).setCell (p := ⟨w.heap.size + 1 + 1, 1, none⟩) (by simp) (.bool r); exact ⟨keepB hBB (by omega) HX.out.1, keepB hBB (by omega) HX.out.2.1, keepB hBB (by omega) HX.out.2.2.1, keepB hBB (by omega) HX.out.2.2.2, hBB⟩))
  clear hK K; try simp only [PU]
  refine wpAnyH_done (by kernel_rfl) ?_ _
  (refine hK _ _ ?_; go_wp2; refine bodyPost_ret (v := .agg #[.slice A k k, .bool r]) (by simp [results, Tryz.results80, go_sem, q1, q2]) rfl ⟨A, k, rfl, ?_, HA.out.1.trans ((hHeld.2.2.2.2).mono (by omega))⟩; rw [HR.out]; exact (HOq.out.mag hmq _ _).more (by simpa using hbq.size))
 ·by_cases hlt : x.natAbs < y.natAbs
  ·have HFG : Aside0 ((g && decide (y.natAbs - x.natAbs ≠ 0)) = r) := ⟨by
    rw [← hr, Bool.eq_iff_iff]
    rw [← hf, ← hg, decide_eq_decide] at hfg
    rw [← hg]; simp; omega⟩
   have HR : Aside0 ((x + y).natAbs = y.natAbs - x.natAbs) := ⟨by rw [← hf, ← hg, decide_eq_decide] at hfg; omega⟩
   have HV : Aside0 (cmpI (x.natAbs : Int) y.natAbs = -1 ∧ x.natAbs ≤ y.natAbs) := ⟨by unfold cmpI; rw [if_pos (by omega)], by omega⟩
   rw [hf, hg, hr]
   clear hf hg hr hlt
   have hbe : (f == g) = false := by simp [hfg]
   go_enter Tryz.func80, Tryz.ntmps80
   go_wp2_with (go_at_call 144; (with_reducible refine (order_any H1.out H2.out hB (by repeat (first | exact Below.refl _ _ | apply below_alloc)) HV.out.1).mono ?_); rintro e wr ⟨rfl, hbr⟩)
   obtain ⟨f0, f1⟩ := bcell hbr
   have HX : Aside0 (wr.cell? ⟨w.heap.size, 0, none⟩ = some (.slice A1 L1 L1) ∧ wr.cell? ⟨w.heap.size, 1, none⟩ = some (.bool f) ∧ wr.cell? ⟨w.heap.size + 1, 0, none⟩ = some (.slice A2 L2 L2) ∧ wr.cell? ⟨w.heap.size + 1, 1, none⟩ = some (.bool g)) := ⟨(f0 _ _ (by first | (simp; done) | (simp; omega))).trans (by simp [go_sem]), (f0 _ _ (by first | (simp; done) | (simp; omega))).trans (by simp [go_sem]), (f0 _ _ (by first | (simp; done) | (simp; omega))).trans (by simp [go_sem]), (f0 _ _ (by first | (simp; done) | (simp; omega))).trans (by simp [go_sem])⟩
   have HO : Aside0 (Out wr (w.heap.size + 1 + 1)) := ⟨(f0 _ _ (by first | (simp; done) | (simp; omega))).trans (by simp [go_sem]), (f0 _ _ (by first | (simp; done) | (simp; omega))).trans (by simp [go_sem]), (f1 _ _ (by first | (simp; done) | (simp; omega))).trans (by simp [go_sem]), (f1 _ _ (by first | (simp; done) | (simp; omega))).trans (by simp [go_sem])⟩
   have HA : Aside0 (Below w.heap.size w wr ∧ w.heap.size + 3 ≤ wr.heap.size) := ⟨below_step (by repeat (first | exact Below.refl _ _ | apply below_alloc)) hbr, by have := hbr.size; simp at this; omega⟩
   clear f0 f1 hbr
   rename_i Q' K hK
   refine wp_region_held_drew (S := (fun V => V.cell? ⟨w.heap.size, 0, none⟩ = some (.slice A1 L1 L1) ∧ V.cell? ⟨w.heap.size, 1, none⟩ = some (.bool f) ∧ V.cell? ⟨w.heap.size + 1, 0, none⟩ = some (.slice A2 L2 L2) ∧ V.cell? ⟨w.heap.size + 1, 1, none⟩ = some (.bool g) ∧ Below (w.heap.size + 2) wr V)) (by kernel_rfl) ?_ (fun hHeld => ?_)
   ·(have tb := below_drew1 (Below.refl (w.heap.size + 2) wr); exact ⟨keepB tb (by omega) HX.out.1, keepB tb (by omega) HX.out.2.1, keepB tb (by omega) HX.out.2.2.1, keepB tb (by omega) HX.out.2.2.2, tb⟩)
   refine tp 0 ?_
   try simp only [PU]
   refine tp 1 ?_
   try simp only [PU]
   refine tp 2 ?_
   try simp only [PU]
   refine tp 3 ?_
   try simp only [PU]
   refine tp 5 ?_
   try simp only [PU]
   refine tp 6 ?_
   try simp only [PU]
   refine tc 4 fun K hK => ?_
   go_simp
   (go_at_call 145; (with_reducible refine (less_any H2.out H1.out hB HV.out.2 (HA.out.1.trans (hHeld.2.2.2.2.mono (by omega)))).mono ?_); rintro e wm ⟨A, k, rfl, hm, hbq⟩; have HOm := Out.keep' (Out.keep' HO (below_drew1 (Below.refl _ _))) hbq)
   refine hK.out _ _ ?_ fun hHeld => ?_
   ·(first | (have hBB := bKeep hbq hHeld.2.2.2.2 (by have := HA.out.2; omega); exact ⟨keepB hBB (by omega) HX.out.1, keepB hBB (by omega) HX.out.2.1, keepB hBB (by omega) HX.out.2.2.1, keepB hBB (by omega) HX.out.2.2.2, hBB⟩) | (have hBB := (hHeld.2.2.2.2.setCell (p := ⟨w.heap.size + 1 + 1, 0, none⟩) (by simp) (.slice A k k)).setCell (p := ⟨w.heap.size + 1 + 1, 1, none⟩) (by simp) (.bool r); exact ⟨keepB hBB (by omega) HX.out.1, keepB hBB (by omega) HX.out.2.1, keepB hBB (by omega) HX.out.2.2.1, keepB hBB (by omega) HX.out.2.2.2, hBB⟩))
   clear hK K; try simp only [PU]
   refine tc 7 fun K hK => ?_
   go_simp
   (go_at_call 139; (with_reducible refine (signed_any hm (Nat.le_refl _) HFG.out).mono ?_); rintro e wq ⟨rfl, hmq, hbq⟩; have HOq := Out.keep' HOm hbq; obtain ⟨q1, q2, q3, q4⟩ := HOq.out)
   refine hK.out _ _ ?_ fun hHeld => ?_
   ·(first | (have hBB := bKeep hbq hHeld.2.2.2.2 (by have := HA.out.2; omega); exact ⟨keepB hBB (by omega) HX.out.1, keepB hBB (by omega) HX.out.2.1, keepB hBB (by omega) HX.out.2.2.1, keepB hBB (by omega) HX.out.2.2.2, hBB⟩) | (have hBB := (hHeld.2.2.2.2.setCell (p := ⟨w.heap.size + 1 + 1, 0, none⟩) (by simp) (.slice A k k)).setCell (p := ⟨w.heap.size + 1 + 1, 1, none⟩) (by simp) (.bool r); exact ⟨keepB hBB (by omega) HX.out.1, keepB hBB (by omega) HX.out.2.1, keepB hBB (by omega) HX.out.2.2.1, keepB hBB (by omega) HX.out.2.2.2, hBB⟩))
   clear hK K; try simp only [PU]
   refine tc 8 fun K hK => ?_
   go_simp
   refine hK.out _ _ ?_ fun hHeld => ?_
   ·(first | (have hBB := bKeep hbq hHeld.2.2.2.2 (by have := HA.out.2; omega); exact ⟨keepB hBB (by omega) HX.out.1, keepB hBB (by omega) HX.out.2.1, keepB hBB (by omega) HX.out.2.2.1, keepB hBB (by omega) HX.out.2.2.2, hBB⟩) | (have hBB := (hHeld.2.2.2.2.setCell (p := ⟨w.heap.size + 1 + 1, 0, none⟩) (by simp) (.slice A k k)).setCell (p := ⟨w.heap.size + 1 + 1, 1, none⟩) (by simp) (.bool r); exact ⟨keepB hBB (by omega) HX.out.1, keepB hBB (by omega) HX.out.2.1, keepB hBB (by omega) HX.out.2.2.1, keepB hBB (by omega) HX.out.2.2.2, hBB⟩))
   clear hK K; try simp only [PU]
   refine wpAnyH_done (by kernel_rfl) ?_ _
   (refine hK _ _ ?_; go_wp2; refine bodyPost_ret (v := .agg #[.slice A k k, .bool r]) (by simp [results, Tryz.results80, go_sem, q1, q2]) rfl ⟨A, k, rfl, ?_, HA.out.1.trans ((hHeld.2.2.2.2).mono (by omega))⟩; rw [HR.out]; exact (HOq.out.mag hmq _ _).more (by simpa using hbq.size))
  ·have HFG : Aside0 ((f && decide (x.natAbs - y.natAbs ≠ 0)) = r) := ⟨by
    rw [← hr, Bool.eq_iff_iff]
    rw [← hf, ← hg, decide_eq_decide] at hfg
    rw [← hf]; simp; omega⟩
   have HR : Aside0 ((x + y).natAbs = x.natAbs - y.natAbs) := ⟨by rw [← hf, ← hg, decide_eq_decide] at hfg; omega⟩
   obtain ⟨c, hc⟩ : ∃ c, cmpI (x.natAbs : Int) y.natAbs = c := ⟨_, rfl⟩
   have hcd : decide (0 ≤ c) = true := decide_eq_true (by rw [← hc]; unfold cmpI; rw [if_neg (by omega)]; split <;> omega)
   have hcd' : decide (c ≥ 0) = true := hcd
   have HV : Aside0 (cmpI (x.natAbs : Int) y.natAbs = c ∧ y.natAbs ≤ x.natAbs) := ⟨hc, by omega⟩
   rw [hf, hg, hr]
   clear hf hg hr hlt hc
   have hbe : (f == g) = false := by simp [hfg]
   go_enter Tryz.func80, Tryz.ntmps80
   go_wp2_with (go_at_call 144; (with_reducible refine (order_any H1.out H2.out hB (by repeat (first | exact Below.refl _ _ | apply below_alloc)) HV.out.1).mono ?_); rintro e wr ⟨rfl, hbr⟩)
   obtain ⟨f0, f1⟩ := bcell hbr
   have HX : Aside0 (wr.cell? ⟨w.heap.size, 0, none⟩ = some (.slice A1 L1 L1) ∧ wr.cell? ⟨w.heap.size, 1, none⟩ = some (.bool f) ∧ wr.cell? ⟨w.heap.size + 1, 0, none⟩ = some (.slice A2 L2 L2) ∧ wr.cell? ⟨w.heap.size + 1, 1, none⟩ = some (.bool g)) := ⟨(f0 _ _ (by first | (simp; done) | (simp; omega))).trans (by simp [go_sem]), (f0 _ _ (by first | (simp; done) | (simp; omega))).trans (by simp [go_sem]), (f0 _ _ (by first | (simp; done) | (simp; omega))).trans (by simp [go_sem]), (f0 _ _ (by first | (simp; done) | (simp; omega))).trans (by simp [go_sem])⟩
   have HO : Aside0 (Out wr (w.heap.size + 1 + 1)) := ⟨(f0 _ _ (by first | (simp; done) | (simp; omega))).trans (by simp [go_sem]), (f0 _ _ (by first | (simp; done) | (simp; omega))).trans (by simp [go_sem]), (f1 _ _ (by first | (simp; done) | (simp; omega))).trans (by simp [go_sem]), (f1 _ _ (by first | (simp; done) | (simp; omega))).trans (by simp [go_sem])⟩
   have HA : Aside0 (Below w.heap.size w wr ∧ w.heap.size + 3 ≤ wr.heap.size) := ⟨below_step (by repeat (first | exact Below.refl _ _ | apply below_alloc)) hbr, by have := hbr.size; simp at this; omega⟩
   clear f0 f1 hbr
   rename_i Q' K1 hK1 K hK
   refine wp_region_held_drew (S := (fun V => V.cell? ⟨w.heap.size, 0, none⟩ = some (.slice A1 L1 L1) ∧ V.cell? ⟨w.heap.size, 1, none⟩ = some (.bool f) ∧ V.cell? ⟨w.heap.size + 1, 0, none⟩ = some (.slice A2 L2 L2) ∧ V.cell? ⟨w.heap.size + 1, 1, none⟩ = some (.bool g) ∧ Below (w.heap.size + 2) wr V)) (by kernel_rfl) ?_ (fun hHeld => ?_)
   ·(have tb := below_drew1 (Below.refl (w.heap.size + 2) wr); exact ⟨keepB tb (by omega) HX.out.1, keepB tb (by omega) HX.out.2.1, keepB tb (by omega) HX.out.2.2.1, keepB tb (by omega) HX.out.2.2.2, tb⟩)
   refine tp 0 ?_
   try simp only [PU]
   refine tp 1 ?_
   try simp only [PU]
   refine tp 2 ?_
   try simp only [PU]
   refine tp 3 ?_
   try simp only [PU]
   refine tp 5 ?_
   try simp only [PU]
   refine tp 6 ?_
   try simp only [PU]
   refine tc 4 fun K hK => ?_
   go_simp
   (go_at_call 145; (with_reducible refine (less_any H1.out H2.out hB HV.out.2 (HA.out.1.trans (hHeld.2.2.2.2.mono (by omega)))).mono ?_); rintro e wm ⟨A, k, rfl, hm, hbq⟩; have HOm := Out.keep' (Out.keep' HO (below_drew1 (Below.refl _ _))) hbq)
   refine hK.out _ _ ?_ fun hHeld => ?_
   ·(first | (have hBB := bKeep hbq hHeld.2.2.2.2 (by have := HA.out.2; omega); exact ⟨keepB hBB (by omega) HX.out.1, keepB hBB (by omega) HX.out.2.1, keepB hBB (by omega) HX.out.2.2.1, keepB hBB (by omega) HX.out.2.2.2, hBB⟩) | (have hBB := (hHeld.2.2.2.2.setCell (p := ⟨w.heap.size + 1 + 1, 0, none⟩) (by simp) (.slice A k k)).setCell (p := ⟨w.heap.size + 1 + 1, 1, none⟩) (by simp) (.bool r); exact ⟨keepB hBB (by omega) HX.out.1, keepB hBB (by omega) HX.out.2.1, keepB hBB (by omega) HX.out.2.2.1, keepB hBB (by omega) HX.out.2.2.2, hBB⟩))
   clear hK K; try simp only [PU]
   refine tc 7 fun K hK => ?_
   go_simp
   (go_at_call 139; (with_reducible refine (signed_any hm (Nat.le_refl _) HFG.out).mono ?_); rintro e wq ⟨rfl, hmq, hbq⟩; have HOq := Out.keep' HOm hbq; obtain ⟨q1, q2, q3, q4⟩ := HOq.out)
   refine hK.out _ _ ?_ fun hHeld => ?_
   ·(first | (have hBB := bKeep hbq hHeld.2.2.2.2 (by have := HA.out.2; omega); exact ⟨keepB hBB (by omega) HX.out.1, keepB hBB (by omega) HX.out.2.1, keepB hBB (by omega) HX.out.2.2.1, keepB hBB (by omega) HX.out.2.2.2, hBB⟩) | (have hBB := (hHeld.2.2.2.2.setCell (p := ⟨w.heap.size + 1 + 1, 0, none⟩) (by simp) (.slice A k k)).setCell (p := ⟨w.heap.size + 1 + 1, 1, none⟩) (by simp) (.bool r); exact ⟨keepB hBB (by omega) HX.out.1, keepB hBB (by omega) HX.out.2.1, keepB hBB (by omega) HX.out.2.2.1, keepB hBB (by omega) HX.out.2.2.2, hBB⟩))
   clear hK K; try simp only [PU]
   refine tc 8 fun K hK => ?_
   go_simp
   refine hK.out _ _ ?_ fun hHeld => ?_
   ·(first | (have hBB := bKeep hbq hHeld.2.2.2.2 (by have := HA.out.2; omega); exact ⟨keepB hBB (by omega) HX.out.1, keepB hBB (by omega) HX.out.2.1, keepB hBB (by omega) HX.out.2.2.1, keepB hBB (by omega) HX.out.2.2.2, hBB⟩) | (have hBB := (hHeld.2.2.2.2.setCell (p := ⟨w.heap.size + 1 + 1, 0, none⟩) (by simp) (.slice A k k)).setCell (p := ⟨w.heap.size + 1 + 1, 1, none⟩) (by simp) (.bool r); exact ⟨keepB hBB (by omega) HX.out.1, keepB hBB (by omega) HX.out.2.1, keepB hBB (by omega) HX.out.2.2.1, keepB hBB (by omega) HX.out.2.2.2, hBB⟩))
   clear hK K; try simp only [PU]
   refine wpAnyH_done (by kernel_rfl) ?_ _
   (refine hK _ _ ?_; go_wp2; refine bodyPost_ret (v := .agg #[.slice A k k, .bool r]) (by simp [results, Tryz.results80, go_sem, q1, q2]) rfl ⟨A, k, rfl, ?_, HA.out.1.trans ((hHeld.2.2.2.2).mono (by omega))⟩; rw [HR.out]; exact (HOq.out.mag hmq _ _).more (by simpa using hbq.size))
end
end Go.Proofs.YtillgofjlpjbcaaGreatDoor.Nm
