import Derived.Test.YtillgofjlpjbcaaGreatDoorH11
import Derived.Test.YtillgofjlpjbcaaGreatDoorH3
import Derived.Test.YtillgofjlpjbcaaGreatDoorH8
import Derived.Test.YtillgofjlpjbcaaGreatDoorH9
import Derived.Test.YtillgofjlpjbcaaGreatDoorH4
/- Own text: contracts and laws on which the card rests (NoF NoI NoL RaJ RaK RaP RaQ RaT RaU). -/
set_option linter.unusedVariables false
set_option linter.unusedSimpArgs false
set_option maxRecDepth 1000000
set_option maxHeartbeats 16000000
namespace Go.Proofs.YtillgofjlpjbcaaGreatDoor.Nm
section
open Go.Lib Go.Proofs.YtillgofjlpjbcaaGreatDoorW.PrintLast Go.Proofs.YtillgofjlpjbcaaGreatDoorW.PrintMore Go.Proofs.YtillgofjlpjbcaaGreatDoorW.PrintWords Go.RowKit Go.Shelf
theorem bits_zero (op n : Nat) (a b : ByteArray) (ha : a.size ≤ 90000) (hb : b.size ≤ 90000) (h1 : 1 ≤ n) (h2 : n ≤ 64) (hz : btE1 op n a b = 0) (h89 : op = 8 ∨ op = 9) (hny : n ≤ vecV b n) (w : World) (hE : EN w) :
 Calls Tryz.prog 47 #[.int .i64 (op : Int), .int .i64 (n : Int), .string a, .string b] w fun e w' => e = .returned (.tuple #[.string ⟨#[48]⟩, .int .i64 0]) ∧ Below w.heap.size w w' := by
 have hop : op < 10 := by omega
 have hV1 := vec_at ha h1 h2 hE
 have hV2 := vec_at hb h1 h2 hE
 have hops := hE.ops op hop
 have hx := vecV_lt a n h2
 have hy := vecV_lt b n h2
 obtain ⟨z1, z2, z3⟩ := first3_zero hz
 rw [z1] at hV1
 rw [z2] at hV2
 have hwd : decide (op = 3 ∨ op = 4) = false := decide_eq_false (by omega)
 rw [hwd] at hops
 generalize vecV a n = x at *
 generalize vecV b n = y at *
 generalize 221 + op = F at *
 obtain ⟨o1, o2⟩ := hops
 rw [Nat.mul_comm] at o1 o2
 have h00 : 0 < w.heap.size := World.block_lt_of_cell? w _ o1
 have e1 : decide ((op : Int) < 0) = false := decide_eq_false (by omega)
 have e2 : decide ((op : Int) ≥ 10) = false := decide_eq_false (by omega)
 have e2' : decide (10 ≤ (op : Int)) = false := decide_eq_false (by omega)
 have e3 : decide ((n : Int) < 1) = false := decide_eq_false (by omega)
 have e4 : decide (64 < (n : Int)) = false := decide_eq_false (by omega)
 have e5 : IntKind.u64.wrap (n : Int) = (n : Int) := IntWalk.u64_in _ (by omega)
 have hV1 := Aside0.mk hV1
 have hV2 := Aside0.mk hV2
 have HB := Aside0.mk (Below.refl w.heap.size w)
 have e6 : decide ((n : Int) ≤ (y : Int)) = true := decide_eq_true (by omega)
 have e7 : decide (n ≤ y) = true := decide_eq_true hny
 clear hE hz z1 z2 z3 hwd hny
 rcases h89 with h8 | h9
 ·have hb8 : ((op : Int) == 8) = true := by simp; omega
  clear h8
  go_enter Tryz.func47, Tryz.ntmps47
  go_wp2_with (first | (go_at_call 65; (with_reducible refine (when_calls _ _ _).mono ?_); rintro e wx ⟨rfl, hwx⟩; rw [hwx]; clear hwx wx) | (go_at_call 88; (with_reducible refine (first2_ret _ _ 0 F00.out _ _ (by simp) _).mono ?_); rintro e w' ⟨rfl, rfl⟩) | (go_at_call 112; ((with_reducible refine (hV1.out _ bl).mono ?_); rintro e w2 ⟨rfl, hb2⟩; obtain ⟨hc2, hf2⟩ := bcell hb2; have z2_0 : (0) < w2.heap.size := zb hb2; have nB2 : Aside0 (Below w.heap.size w w2) := sb hb2; clear HB; have HB := nB2; clear nB2; clear hV1)) | (go_at_call 112; ((with_reducible refine (hV2.out _ bl).mono ?_); rintro e w3 ⟨rfl, hb3⟩; obtain ⟨hc3, hf3⟩ := bcell hb3; have z3_0 : (0) < w3.heap.size := zb hb3; have nB3 : Aside0 (Below w.heap.size w w3) := sb hb3; clear HB; have HB := nB3; clear nB3)) | (go_at_call 88; (with_reducible refine (first3_ret _ _ _ 0 F000.out _ _ (by simp) _).mono ?_); rintro e w' ⟨rfl, rfl⟩))
  go_ret2
  exact ⟨rfl, bl⟩
 ·have hb8 : ((op : Int) == 8) = false := by simp; omega
  have hb9 : ((op : Int) == 9) = true := by simp; omega
  clear h9
  go_enter Tryz.func47, Tryz.ntmps47
  go_wp2_with (first | (go_at_call 65; (with_reducible refine (when_calls _ _ _).mono ?_); rintro e wx ⟨rfl, hwx⟩; rw [hwx]; clear hwx wx) | (go_at_call 88; (with_reducible refine (first2_ret _ _ 0 F00.out _ _ (by simp) _).mono ?_); rintro e w' ⟨rfl, rfl⟩) | (go_at_call 112; ((with_reducible refine (hV1.out _ bl).mono ?_); rintro e w2 ⟨rfl, hb2⟩; obtain ⟨hc2, hf2⟩ := bcell hb2; have z2_0 : (0) < w2.heap.size := zb hb2; have nB2 : Aside0 (Below w.heap.size w w2) := sb hb2; clear HB; have HB := nB2; clear nB2; clear hV1)) | (go_at_call 112; ((with_reducible refine (hV2.out _ bl).mono ?_); rintro e w3 ⟨rfl, hb3⟩; obtain ⟨hc3, hf3⟩ := bcell hb3; have z3_0 : (0) < w3.heap.size := zb hb3; have nB3 : Aside0 (Below w.heap.size w w3) := sb hb3; clear HB; have HB := nB3; clear nB3)) | (go_at_call 88; (with_reducible refine (first3_ret _ _ _ 0 F000.out _ _ (by simp) _).mono ?_); rintro e w' ⟨rfl, rfl⟩))
  go_ret2
  exact ⟨rfl, bl⟩
theorem bits_bad1 (op n : Nat) (a b : ByteArray) (ha : a.size ≤ 90000) (hb : b.size ≤ 90000) (hop : op < 10) (h1 : 1 ≤ n) (h2 : n ≤ 64) (hz : btE1 op n a b ≠ 0) (w : World) (hE : EN w) :
 Calls Tryz.prog 47 #[.int .i64 (op : Int), .int .i64 (n : Int), .string a, .string b] w fun e w' => e = .returned (.tuple #[.string ⟨#[]⟩, .int .i64 (btE1 op n a b)]) ∧ Below w.heap.size w w' := by
 have hV1 := vec_at ha h1 h2 hE
 have hV2 := vec_at hb h1 h2 hE
 have hops := hE.ops op hop
 have hx := vecV_lt a n h2
 have hy := vecV_lt b n h2
 obtain ⟨E, hEE⟩ : ∃ E, btE1 op n a b = E := ⟨_, rfl⟩
 rw [hEE] at hz ⊢
 unfold btE1 at hEE
 have hbe : (E != 0) = true := by simp [hz]
 generalize vecV a n = x at *
 generalize vecV b n = y at *
 generalize vecE a n = E1 at *
 generalize vecE b n = E2 at *
 generalize 221 + op = F at *
 obtain ⟨o1, o2⟩ := hops
 rw [Nat.mul_comm] at o1 o2
 have h00 : 0 < w.heap.size := World.block_lt_of_cell? w _ o1
 have e1 : decide ((op : Int) < 0) = false := decide_eq_false (by omega)
 have e2 : decide ((op : Int) ≥ 10) = false := decide_eq_false (by omega)
 have e2' : decide (10 ≤ (op : Int)) = false := decide_eq_false (by omega)
 have e3 : decide ((n : Int) < 1) = false := decide_eq_false (by omega)
 have e4 : decide (64 < (n : Int)) = false := decide_eq_false (by omega)
 have e5 : IntKind.u64.wrap (n : Int) = (n : Int) := IntWalk.u64_in _ (by omega)
 have hV1 := Aside0.mk hV1
 have hV2 := Aside0.mk hV2
 have HB := Aside0.mk (Below.refl w.heap.size w)
 clear hE hz
 by_cases hw : op = 3 ∨ op = 4
 ·have hwd : decide (op = 3 ∨ op = 4) = true := decide_eq_true hw
  rw [hwd] at o2
  by_cases hy0 : y = 0
  ·have hy1 : ((y : Int) == 0) = true := by simp; omega
   rw [if_pos ⟨hw, hy0⟩] at hEE
   have HF := Aside0.mk hEE
   clear hEE hw hwd hy0
   go_enter Tryz.func47, Tryz.ntmps47
   go_wp2_with (first | (go_at_call 65; (with_reducible refine (when_calls _ _ _).mono ?_); rintro e wx ⟨rfl, hwx⟩; rw [hwx]; clear hwx wx) | (go_at_call 88; (with_reducible refine (first2_ret _ _ 0 F00.out _ _ (by simp) _).mono ?_); rintro e w' ⟨rfl, rfl⟩) | (go_at_call 112; ((with_reducible refine (hV1.out _ bl).mono ?_); rintro e w2 ⟨rfl, hb2⟩; obtain ⟨hc2, hf2⟩ := bcell hb2; have z2_0 : (0) < w2.heap.size := zb hb2; have nB2 : Aside0 (Below w.heap.size w w2) := sb hb2; clear HB; have HB := nB2; clear nB2; clear hV1)) | (go_at_call 112; ((with_reducible refine (hV2.out _ bl).mono ?_); rintro e w3 ⟨rfl, hb3⟩; obtain ⟨hc3, hf3⟩ := bcell hb3; have z3_0 : (0) < w3.heap.size := zb hb3; have nB3 : Aside0 (Below w.heap.size w w3) := sb hb3; clear HB; have HB := nB3; clear nB3)) | (go_at_call 88; (with_reducible refine (first3_ret _ _ _ E HF.out _ _ (by simp) _).mono ?_); rintro e w' ⟨rfl, rfl⟩))
   go_ret2
   exact ⟨rfl, bl⟩
  ·have hy1 : ((y : Int) == 0) = false := by simp; omega
   rw [if_neg (fun h => hy0 h.2)] at hEE
   have HF := Aside0.mk hEE
   clear hEE hw hwd hy0
   go_enter Tryz.func47, Tryz.ntmps47
   go_wp2_with (first | (go_at_call 65; (with_reducible refine (when_calls _ _ _).mono ?_); rintro e wx ⟨rfl, hwx⟩; rw [hwx]; clear hwx wx) | (go_at_call 88; (with_reducible refine (first2_ret _ _ 0 F00.out _ _ (by simp) _).mono ?_); rintro e w' ⟨rfl, rfl⟩) | (go_at_call 112; ((with_reducible refine (hV1.out _ bl).mono ?_); rintro e w2 ⟨rfl, hb2⟩; obtain ⟨hc2, hf2⟩ := bcell hb2; have z2_0 : (0) < w2.heap.size := zb hb2; have nB2 : Aside0 (Below w.heap.size w w2) := sb hb2; clear HB; have HB := nB2; clear nB2; clear hV1)) | (go_at_call 112; ((with_reducible refine (hV2.out _ bl).mono ?_); rintro e w3 ⟨rfl, hb3⟩; obtain ⟨hc3, hf3⟩ := bcell hb3; have z3_0 : (0) < w3.heap.size := zb hb3; have nB3 : Aside0 (Below w.heap.size w w3) := sb hb3; clear HB; have HB := nB3; clear nB3)) | (go_at_call 88; (with_reducible refine (first3_ret _ _ _ E HF.out _ _ (by simp) _).mono ?_); rintro e w' ⟨rfl, rfl⟩))
   go_ret2
   exact ⟨rfl, bl⟩
 ·have hwd : decide (op = 3 ∨ op = 4) = false := decide_eq_false hw
  rw [hwd] at o2
  rw [if_neg (fun h => hw h.1)] at hEE
  have HF := Aside0.mk hEE
  clear hEE hw hwd
  go_enter Tryz.func47, Tryz.ntmps47
  go_wp2_with (first | (go_at_call 65; (with_reducible refine (when_calls _ _ _).mono ?_); rintro e wx ⟨rfl, hwx⟩; rw [hwx]; clear hwx wx) | (go_at_call 88; (with_reducible refine (first2_ret _ _ 0 F00.out _ _ (by simp) _).mono ?_); rintro e w' ⟨rfl, rfl⟩) | (go_at_call 112; ((with_reducible refine (hV1.out _ bl).mono ?_); rintro e w2 ⟨rfl, hb2⟩; obtain ⟨hc2, hf2⟩ := bcell hb2; have z2_0 : (0) < w2.heap.size := zb hb2; have nB2 : Aside0 (Below w.heap.size w w2) := sb hb2; clear HB; have HB := nB2; clear nB2; clear hV1)) | (go_at_call 112; ((with_reducible refine (hV2.out _ bl).mono ?_); rintro e w3 ⟨rfl, hb3⟩; obtain ⟨hc3, hf3⟩ := bcell hb3; have z3_0 : (0) < w3.heap.size := zb hb3; have nB3 : Aside0 (Below w.heap.size w w3) := sb hb3; clear HB; have HB := nB3; clear nB3)) | (go_at_call 88; (with_reducible refine (first3_ret _ _ _ E HF.out _ _ (by simp) _).mono ?_); rintro e w' ⟨rfl, rfl⟩))
  go_ret2
  exact ⟨rfl, bl⟩
theorem bits_bad0 (op n : Int) (a b : ByteArray) (hz : btE0 op n ≠ 0) (w : World) :
 Calls Tryz.prog 47 #[.int .i64 op, .int .i64 n, .string a, .string b] w fun e w' => e = .returned (.tuple #[.string ⟨#[]⟩, .int .i64 (btE0 op n)]) ∧ Below w.heap.size w w' := by
 obtain ⟨E, hEE⟩ : ∃ E, btE0 op n = E := ⟨_, rfl⟩
 rw [hEE] at hz ⊢
 unfold btE0 at hEE
 have hbe : (E != 0) = true := by simp [hz]
 have HB := Aside0.mk (Below.refl w.heap.size w)
 obtain ⟨p1, hp1⟩ : ∃ b, decide (op < 0) = b := ⟨_, rfl⟩
 obtain ⟨p2, hp2⟩ : ∃ b, decide (10 ≤ op) = b := ⟨_, rfl⟩
 obtain ⟨q1, hq1⟩ : ∃ b, decide (n < 1) = b := ⟨_, rfl⟩
 obtain ⟨q2, hq2⟩ : ∃ b, decide (64 < n) = b := ⟨_, rfl⟩
 have hF : firstI [if (p1 || p2) = true then 8 else 0, if (q1 || q2) = true then 3 else 0] = E := by
  rw [← hEE, ← hp1, ← hp2, ← hq1, ← hq2]
  simp only [Bool.or_eq_true, decide_eq_true_eq]
 have hp2' : decide (op ≥ 10) = p2 := hp2
 clear hEE
 cases p1 <;> cases p2 <;> cases q1 <;> cases q2
 all_goals
  first
   | exact absurd (show firstI [0, 0] = E from hF).symm hz
   | skip
 all_goals
  simp only [Bool.or_true, Bool.true_or, Bool.or_self, Bool.or_false, Bool.false_or, if_true, if_false, reduceIte, Bool.false_eq_true] at hF
  have HF := Aside0.mk hF
  clear hF hz
  go_enter Tryz.func47, Tryz.ntmps47
  go_wp2_with (first | (go_at_call 65; (with_reducible refine (when_calls _ _ _).mono ?_); rintro e wx ⟨rfl, hwx⟩; rw [hwx]; clear hwx wx) | (go_at_call 88; (with_reducible refine (first2_ret _ _ E HF.out _ _ (by simp) _).mono ?_); rintro e w' ⟨rfl, rfl⟩))
  go_ret2
  exact ⟨rfl, bl⟩
/-- What Bits answers. -/
def btR (op n : Int) (a b : ByteArray) : Int := if btE0 op n = 0 then btE1 op.toNat n.toNat a b else btE0 op n
def btS (op n : Int) (a b : ByteArray) : ByteArray := if btR op n a b = 0 then strI (btV op.toNat n.toNat (vecV a n.toNat) (vecV b n.toNat) : Nat) else ⟨#[]⟩
theorem btE0_zero {op n : Int} (h : btE0 op n = 0) : 0 ≤ op ∧ op < 10 ∧ 1 ≤ n ∧ n ≤ 64 := by
 unfold btE0 at h
 by_cases h1 : op < 0 ∨ 10 ≤ op
 ·rw [if_pos h1] at h
  unfold firstI at h
  simp at h
 ·rw [if_neg h1] at h
  by_cases h2 : n < 1 ∨ 64 < n
  ·rw [if_pos h2] at h
   simp [firstI] at h
  ·omega
theorem bits_calls (op n : Int) (a b : ByteArray) (ha : a.size ≤ 90000) (hb : b.size ≤ 90000) (w : World) (hE : EN w) :
 Calls Tryz.prog 47 #[.int .i64 op, .int .i64 n, .string a, .string b] w fun e w' => e = .returned (.tuple #[.string (btS op n a b), .int .i64 (btR op n a b)]) ∧ Below w.heap.size w w' := by
 unfold btS btR
 by_cases h0 : btE0 op n = 0
 ·obtain ⟨h1, h2, h3, h4⟩ := btE0_zero h0
  rw [if_pos h0]
  obtain ⟨o, rfl⟩ : ∃ m : Nat, op = (m : Int) := ⟨op.toNat, by omega⟩
  obtain ⟨m, rfl⟩ : ∃ m : Nat, n = (m : Int) := ⟨n.toNat, by omega⟩
  rw [show (o : Int).toNat = o from rfl, show (m : Int).toNat = m from rfl]
  by_cases h5 : btE1 o m a b = 0
  ·rw [if_pos h5, h5]
   by_cases h6 : (o = 8 ∨ o = 9) ∧ m ≤ vecV b m
   ·unfold btV
    rw [if_pos h6, strI_nat, dec_small (by omega)]
    exact bits_zero o m a b ha hb (by omega) (by omega) h5 h6.1 h6.2 w hE
   ·unfold btV
    rw [if_neg h6]
    exact bits_ok o m a b ha hb (by omega) (by omega) (by omega) h5 h6 w hE
  ·rw [if_neg h5]
   exact bits_bad1 o m a b ha hb (by omega) (by omega) (by omega) h5 w hE
 ·rw [if_neg h0, if_neg h0]
  exact bits_bad0 op n a b h0 w
theorem strI_body (x : Int) : bodyB (strI x) = ⟨(Lib.decDigits x.natAbs).toArray⟩ := by
 unfold bodyB
 rw [show (strI x).data.toList = Lib.itoa x from rfl, trim_itoa]
theorem strI_minus (x : Int) : minusB (strI x) = decide (x < 0) := by
 unfold minusB
 rw [show (strI x).data.toList = Lib.itoa x from rfl, itoa_abs]
 by_cases h : x < 0
 ·rw [if_pos h, decide_eq_true h]; simp [Lib.hasPrefix]
 ·rw [if_neg h, decide_eq_false h, List.nil_append]
  have hd := dec_digits x.natAbs
  cases hl : Lib.decDigits x.natAbs with
  | nil => rfl
  | cons c cs =>
    have h1 := hd c (by rw [hl]; simp)
    have hc : ¬ (45 : UInt8) = c := by
     intro e
     subst e
     revert h1
     decide
    simp [Lib.hasPrefix, List.isPrefixOf, hc]
theorem dg_all {l : List UInt8} (h : DG l) : l.all isDig = true := by
 rw [List.all_eq_true]
 intro c hc
 have := h c hc
 simpa [isDig] using this
theorem beqL (a b : ByteArray) : (a.toList == b.toList) = decide (a = b) := by
 rw [Lib.toList_data, Lib.toList_data, Bool.eq_iff_iff]
 simp only [beq_iff_eq, decide_eq_true_eq]
 constructor
 ·intro h
  apply ByteArray.ext
  exact Array.toList_inj.1 h
 ·intro h
  rw [h]
theorem beq_no {a : ByteArray} {l : List UInt8} {b : ByteArray} (hl : b.data.toList = l) (h : a ≠ b) : (a.toList == l) = false := by rw [← hl, ← Lib.toList_data b, beqL]; simp [h]
theorem d1 : ∀ k : Nat, Dig (k + 1) 1 := fun k => by unfold Dig; exact Nat.one_lt_pow (by omega) (by decide)
theorem d0 : ∀ k : Nat, Dig k 0 := fun k => by unfold Dig; exact (show 0 < 10 ^ k by first | exact Nat.pow_pos (by decide) | exact Nat.pos_pow_of_pos k (by decide) | exact Nat.one_le_pow k 10 (by decide))
theorem check_head {s : ByteArray} (h : checkI s = 0) : (bodyB s).data.toList.head? = some 48 → minusB s = false ∧ (bodyB s).data.toList.length = 1 := by
 intro h1
 have h0 := list_of h
 unfold checkI at h
 split at h
 ·omega
 ·split at h
  ·omega
  ·rename_i h2
   have e : (bodyB s).data.toList.length = (bodyB s).size := by simp
   have h3 : ¬ (minusB s = true ∨ 1 < (bodyB s).size) := fun h3 => h2 ⟨h1, h3⟩
   refine ⟨?_, ?_⟩
   ·cases hm : minusB s
    ·rfl
    ·exact absurd (.inl hm) h3
   ·have h4 : (bodyB s).data.toList.length ≠ 0 := fun h5 => h0.2.1 (List.length_eq_zero_iff.1 h5)
    have h6 : ¬ 1 < (bodyB s).size := fun h6 => h3 (.inr h6)
    omega
theorem strI_intI {s : ByteArray} (h : checkI s = 0) : strI (intI s) = s := by
 obtain ⟨h1, h2, h3⟩ := list_of h
 have hd := dec_dv _ h1 h2 (fun e => (check_head h e).2)
 have key : Lib.itoa (intI s) = s.data.toList := by
  rw [itoa_abs, h3]
  cases hm : minusB s
  ·have e : intI s = dv (bodyB s).data.toList := by unfold intI; rw [if_neg (by simp [hm])]
   rw [e, if_neg (by omega), show ((dv (bodyB s).data.toList : Nat) : Int).natAbs = dv (bodyB s).data.toList from rfl, hd]
   simp
  ·have e : intI s = -(dv (bodyB s).data.toList : Int) := by unfold intI; rw [if_pos hm]
   have hn := minus_neg h hm
   rw [if_pos hn, e, Int.natAbs_neg, show ((dv (bodyB s).data.toList : Nat) : Int).natAbs = dv (bodyB s).data.toList from rfl, hd]
   simp
 unfold strI
 rw [key]
theorem Dig.emod {k : Nat} {x y : Int} (hy : Dig k y) (h0 : y ≠ 0) : Dig k (x % y) := by
 unfold Dig at *
 have h1 := Int.emod_nonneg x h0
 have h2 := Int.emod_lt x h0
 omega
end
section
open Go.Proofs.YtillgofjlpjbcaaGreatDoorW.PrintLast Go.Proofs.YtillgofjlpjbcaaGreatDoorW.PrintMore Go.Proofs.YtillgofjlpjbcaaGreatDoorW.PrintWords Go.RowKit Go.Shelf
theorem risDigit_calls (c : Nat) (w : World) :
 Calls Tryz.prog 125 #[.int .u8 (c : Int)] w fun e w' => e = .returned (.bool (decide (48 ≤ c) && decide (c ≤ 57))) ∧ w' = w := by
 by_cases h1 : 48 ≤ c
 ·have g1 : decide ((48 : Int) ≤ (c : Int)) = true := decide_eq_true (by omega)
  by_cases h2 : c ≤ 57
  ·have g2 : decide ((c : Int) ≤ 57) = true := decide_eq_true (by omega)
   go_enter Tryz.func125, Tryz.ntmps125
   go_wp2_with fail
   go_ret
   exact ⟨ret_b (by simp [h1, h2]), rfl⟩
  ·have g2 : decide ((c : Int) ≤ 57) = false := decide_eq_false (by omega)
   go_enter Tryz.func125, Tryz.ntmps125
   go_wp2_with fail
   go_ret
   exact ⟨ret_b (by simp [h1, h2]), rfl⟩
 ·have g1 : decide ((48 : Int) ≤ (c : Int)) = false := decide_eq_false (by omega)
  go_enter Tryz.func125, Tryz.ntmps125
  go_wp2_with fail
  go_ret
  exact ⟨ret_b (by simp [h1]), rfl⟩
/-- What form says. -/
def formB (s : ByteArray) : Bool := digitsB (bodyB s) && !(decide ((bodyB s).data.toList.head? = some 48) && (minusB s || decide (1 < (bodyB s).size)))
theorem minus_cons {s : ByteArray} (h : minusB s = true) : s.data.toList = 45 :: (bodyB s).data.toList := by
 unfold minusB Lib.hasPrefix at h
 unfold bodyB Lib.trimPrefix Lib.hasPrefix
 cases hl : s.data.toList with
 | nil => rw [hl] at h; simp at h
 | cons c l =>
   rw [hl] at h
   have hc : 45 = c := by simpa [List.isPrefixOf] using h
   subst hc
   simp [List.isPrefixOf]
theorem body_self {s : ByteArray} (h : minusB s = false) : bodyB s = s := by
 unfold minusB at h
 unfold bodyB Lib.trimPrefix
 rw [h]
 apply ByteArray.ext
 simp
theorem body_extract {s : ByteArray} (h : minusB s = true) : s.extract 1 s.size = bodyB s ∧ s.size = (bodyB s).size + 1 ∧ ∀ h0 : 0 < s.size, (s[0]'h0).toNat = 45 := by
 have hc := minus_cons h
 have hz : s.size = (bodyB s).size + 1 := by
  have := congrArg List.length hc
  simpa using this
 refine ⟨?_, hz, fun h0 => ?_⟩
 ·apply ByteArray.ext
  apply Array.toList_inj.1
  rw [ByteArray.data_extract, Array.toList_extract, hc]
  simp
  rw [hz]
  exact List.take_of_length_le (by simp)
 ·have hl : 0 < s.data.toList.length := by rw [hc]; simp
  have e : s[0]'h0 = s.data.toList[0]'hl := by simp; rfl
  rw [e]
  simp [hc]
theorem minus_not {s : ByteArray} (h : minusB s = false) (h0 : 0 < s.size) : (s[0]'h0).toNat ≠ 45 := by
 intro e
 unfold minusB Lib.hasPrefix at h
 have hl : 0 < s.data.toList.length := by simpa using h0
 have e1 : s[0]'h0 = s.data.toList[0]'hl := by simp; rfl
 cases hs : s.data.toList with
 | nil => rw [hs] at hl; simp at hl
 | cons c l =>
   rw [hs] at h
   have e2 : s.data.toList[0]'hl = c := by simp [hs]
   rw [e1, e2] at e
   have : c = 45 := UInt8.toNat_inj.1 e
   subst this
   simp [List.isPrefixOf] at h
theorem form_zero {s : ByteArray} (h : (bodyB s).size = 0) : formB s = false := by unfold formB digitsB; simp [h]
theorem form_minus0 {s : ByteArray} (h : s = ⟨#[45, 48]⟩) : formB s = false := by subst h; decide +kernel
theorem head48 {b : ByteArray} (h : 0 < b.size) {c : Nat} (hc : (b[0]'h).toNat = c) : (b.data.toList.head? = some 48) ↔ c = 48 := by
 have hl : 0 < b.data.toList.length := by simpa using h
 have e : b[0]'h = b.data.toList[0]'hl := by simp; rfl
 rw [e] at hc
 cases hb : b.data.toList with
 | nil => rw [hb] at hl; simp at hl
 | cons d l =>
   have e2 : b.data.toList[0]'hl = d := by simp [hb]
   rw [e2] at hc
   simp only [List.head?_cons, Option.some.injEq]
   constructor
   ·intro h; subst h; rw [← hc]; rfl
   ·intro h; rw [h] at hc; exact UInt8.toNat_inj.1 hc
theorem form_lead {s : ByteArray} (h : 0 < (bodyB s).size) {c : Nat} (hc : ((bodyB s)[0]'h).toNat = c) (h48 : c = 48) (h1 : 1 < (bodyB s).size) : formB s = false := by
 unfold formB
 rw [decide_eq_true ((head48 h hc).2 h48), decide_eq_true h1]
 simp
theorem form_ok {s : ByteArray} (h : 0 < (bodyB s).size) {c : Nat} (hc : ((bodyB s)[0]'h).toNat = c) (h0 : s ≠ ⟨#[45, 48]⟩) (h1 : ¬ 1 < (bodyB s).size ∨ c ≠ 48) : formB s = digitsB (bodyB s) := by
 unfold formB
 by_cases h48 : c = 48
 ·have h2 : ¬ 1 < (bodyB s).size := h1.resolve_right (fun h => h h48)
  cases hm : minusB s
  ·rw [decide_eq_false h2]; simp
  ·exfalso
   apply h0
   apply ByteArray.ext
   apply Array.toList_inj.1
   rw [minus_cons hm]
   have hh := (head48 h hc).2 h48
   have hl : (bodyB s).data.toList.length = 1 := by (have : (bodyB s).data.toList.length = (bodyB s).size := by simp); omega
   cases hb : (bodyB s).data.toList with
   | nil => rw [hb] at hl; simp at hl
   | cons d l =>
     rw [hb] at hh hl
     simp at hh hl
     subst hh hl
     rfl
 ·rw [decide_eq_false (fun h2 => h48 ((head48 h hc).1 h2))]
  simp
theorem rform_calls (s : ByteArray) (hs : s.size ≤ 1000000) (w : World) :
 Calls Tryz.prog 66 #[.string s] w fun e w' => e = .returned (.bool (formB s)) ∧ Below w.heap.size w w' := by
 obtain ⟨b, hb⟩ : ∃ b, bodyB s = b := ⟨_, rfl⟩
 obtain ⟨r, hr⟩ : ∃ r, formB s = r := ⟨_, rfl⟩
 rw [hr]
 cases hm : minusB s
 ·have hbs := body_self hm
  rw [hb] at hbs
  subst hbs
  by_cases hs0 : 0 < b.size
  ·have hne := minus_not hm hs0
   obtain ⟨a, ha⟩ : ∃ a : Nat, (b[0]'hs0).toNat = a := ⟨_, rfl⟩
   rw [ha] at hne
   have hx0 : ∀ h : 0 < b.size, ((b[0]'h).toNat : Int) = (a : Int) := fun h => by rw [ha]
   have g2 : ((a : Int) == 45) = false := by simp; omega
   have g1 : decide ((0 : Int) < (b.size : Int)) = true := decide_eq_true (by omega)
   have q1 : (0 < b.size) = True := eq_true (by omega)
   have q2 : ((0 : Int) < (b.size : Int)) = True := eq_true (by omega)
   have HS : Aside0 (b = b) := ⟨rfl⟩
   clear hne
   by_cases hb0 : b.size = 0
   ·have g3 : ((b.size : Int) == 0) = true := by rw [beq_iff_eq]; omega
    obtain rfl : r = false := by rw [← hr]; exact form_zero (by rw [hb]; exact hb0)
    clear hb hr hm
    go_enter Tryz.func66, Tryz.ntmps66
    go_wp2_with fail
    go_ret
    exact ⟨rfl, Below.refl _ _⟩
   ·have g3 : ((b.size : Int) == 0) = false := by rw [beq_eq_false_iff_ne]; omega
    have hb1 : 0 < b.size := by omega
    obtain ⟨c, hc⟩ : ∃ c : Nat, (b[0]'hb1).toNat = c := ⟨_, rfl⟩
    (obtain rfl : c = a := hc.symm.trans ha)
    have hxb : ∀ h : 0 < b.size, ((b[0]'h).toNat : Int) = (c : Int) := fun h => by rw [hc]
    have q5 : (0 < b.size) = True := eq_true hb1
    have q6 : ((0 : Int) < (b.size : Int)) = True := eq_true (by omega)
    by_cases hm0 : b = ⟨#[45, 48]⟩
    ·have g4 : ((b).toList == [45, 48]) = true := by rw [hm0]; decide +kernel
     obtain rfl : r = false := by rw [← hr]; exact form_minus0 hm0
     clear hb hr hm hc hm0
     go_enter Tryz.func66, Tryz.ntmps66
     go_wp2_with fail
     go_ret
     exact ⟨rfl, Below.refl _ _⟩
    ·have g4 : ((b).toList == [45, 48]) = false := beq_no (b := ⟨#[45, 48]⟩) rfl hm0
     by_cases h1 : 1 < b.size
     ·have g5 : decide ((1 : Int) < (b.size : Int)) = true := decide_eq_true (by omega)
      by_cases h48 : c = 48
      ·have g6 : ((c : Int) == 48) = true := by simp; omega
       obtain rfl : r = false := by rw [← hr]; exact form_lead (s := b) (by rw [hb]; exact hb1) (c := c) (by have := hc; simp only [hb]; exact this) h48 (by rw [hb]; exact h1)
       clear hb hr hm hc hm0
       go_enter Tryz.func66, Tryz.ntmps66
       go_wp2_with fail
       go_ret
       exact ⟨rfl, Below.refl _ _⟩
      ·have g6 : ((c : Int) == 48) = false := by simp; omega
       obtain rfl : r = digitsB b := by rw [← hr, form_ok (s := b) (by rw [hb]; exact hb1) (c := c) (by have := hc; simp only [hb]; exact this) hm0 (by rw [hb]; omega), hb]
       have hbz : b.size ≤ 1000000 := by have := bodyB_size b; rw [hb] at this; omega
       clear hb hr hm hc hm0
       go_enter Tryz.func66, Tryz.ntmps66
       go_wp2_with fail
       go_loopw [4] (fun v4 W => ∃ i : Nat, v4 = .int .i64 (i : Int) ∧ i ≤ b.size ∧ Aside0 ((b.data.toList.take i).all isDig = true) ∧ W = w) (fun v4 _ => b.size - (intOf v4).toNat)
       case atStart => exact ⟨0, rfl, Nat.zero_le _, ⟨by simp⟩, by first | rfl | trivial⟩
       case round =>
        obtain ⟨i, rfl, hi, hall, rfl⟩ := hrel
        by_cases hlt : i < b.size
        ·obtain ⟨d, hd⟩ : ∃ d : Nat, (b[i]'hlt).toNat = d := ⟨_, rfl⟩
         have HD : Aside0 ((b[i]'hlt).toNat = d) := ⟨hd⟩
         have hxd : ∀ h : i < b.size, ((b[i]'h).toNat : Int) = (d : Int) := fun h => by rw [hd]
         have q7 : (i < b.size) = True := eq_true hlt
         have q8 : ((i : Int) < (b.size : Int)) = True := eq_true (by omega)
         have g7 : decide ((i : Int) < (b.size : Int)) = true := decide_eq_true (by omega)
         have e1 : IntKind.i64.wrap ((i : Int) + 1) = ((i + 1 : Nat) : Int) := by rw [IntWalk.i64_in _ (by omega)]; omega
         clear hd
         obtain ⟨z, hzz⟩ : ∃ z, (decide (48 ≤ d) && decide (d ≤ 57)) = z := ⟨_, rfl⟩
         have HZ := Aside0.mk hzz
         clear hzz
         cases z
         ·go_wp2_with (go_at_call 125; (with_reducible refine (risDigit_calls d _).mono ?_); rw [HZ.out]; rintro e wx ⟨rfl, hwx⟩; rw [hwx]; clear hwx wx)
          go_ret
          exact ⟨ret_b (all_false hlt (by unfold isDig; rw [HD.out]; exact HZ.out)).symm, Below.refl _ _⟩
         ·go_wp2_with (go_at_call 125; (with_reducible refine (risDigit_calls d _).mono ?_); rw [HZ.out]; rintro e wx ⟨rfl, hwx⟩; rw [hwx]; clear hwx wx)
          go_roundw
          case rel => exact ⟨i + 1, by first | rfl | go_num, hlt, ⟨by rw [all_take_succ hlt, hall.out]; unfold isDig; rw [HD.out, HZ.out]; rfl⟩, by first | rfl | trivial⟩
          case measure => simp [intOf]; omega
        ·have g7 : decide ((i : Int) < (b.size : Int)) = false := decide_eq_false (by omega)
         have q8 : ¬ ((i : Int) < (b.size : Int)) := by omega
         have HF : Aside0 (digitsB b = true) := ⟨by
          have h := hall.out
          rw [List.take_of_length_le (by (have : b.data.toList.length = b.size := by simp); omega)] at h
          unfold digitsB
          rw [h, Bool.true_and]
          exact decide_eq_true (by omega)⟩
         go_wp2
         go_ret
         exact ⟨ret_b HF.out.symm, Below.refl _ _⟩
     ·have g5 : decide ((1 : Int) < (b.size : Int)) = false := decide_eq_false (by omega)
      obtain rfl : r = digitsB b := by rw [← hr, form_ok (s := b) (by rw [hb]; exact hb1) (c := c) (by have := hc; simp only [hb]; exact this) hm0 (by rw [hb]; omega), hb]
      have hbz : b.size ≤ 1000000 := by have := bodyB_size b; rw [hb] at this; omega
      clear hb hr hm hc hm0
      go_enter Tryz.func66, Tryz.ntmps66
      go_wp2_with fail
      go_loopw [4] (fun v4 W => ∃ i : Nat, v4 = .int .i64 (i : Int) ∧ i ≤ b.size ∧ Aside0 ((b.data.toList.take i).all isDig = true) ∧ W = w) (fun v4 _ => b.size - (intOf v4).toNat)
      case atStart => exact ⟨0, rfl, Nat.zero_le _, ⟨by simp⟩, by first | rfl | trivial⟩
      case round =>
       obtain ⟨i, rfl, hi, hall, rfl⟩ := hrel
       by_cases hlt : i < b.size
       ·obtain ⟨d, hd⟩ : ∃ d : Nat, (b[i]'hlt).toNat = d := ⟨_, rfl⟩
        have HD : Aside0 ((b[i]'hlt).toNat = d) := ⟨hd⟩
        have hxd : ∀ h : i < b.size, ((b[i]'h).toNat : Int) = (d : Int) := fun h => by rw [hd]
        have q7 : (i < b.size) = True := eq_true hlt
        have q8 : ((i : Int) < (b.size : Int)) = True := eq_true (by omega)
        have g7 : decide ((i : Int) < (b.size : Int)) = true := decide_eq_true (by omega)
        have e1 : IntKind.i64.wrap ((i : Int) + 1) = ((i + 1 : Nat) : Int) := by rw [IntWalk.i64_in _ (by omega)]; omega
        clear hd
        obtain ⟨z, hzz⟩ : ∃ z, (decide (48 ≤ d) && decide (d ≤ 57)) = z := ⟨_, rfl⟩
        have HZ := Aside0.mk hzz
        clear hzz
        cases z
        ·go_wp2_with (go_at_call 125; (with_reducible refine (risDigit_calls d _).mono ?_); rw [HZ.out]; rintro e wx ⟨rfl, hwx⟩; rw [hwx]; clear hwx wx)
         go_ret
         exact ⟨ret_b (all_false hlt (by unfold isDig; rw [HD.out]; exact HZ.out)).symm, Below.refl _ _⟩
        ·go_wp2_with (go_at_call 125; (with_reducible refine (risDigit_calls d _).mono ?_); rw [HZ.out]; rintro e wx ⟨rfl, hwx⟩; rw [hwx]; clear hwx wx)
         go_roundw
         case rel => exact ⟨i + 1, by first | rfl | go_num, hlt, ⟨by rw [all_take_succ hlt, hall.out]; unfold isDig; rw [HD.out, HZ.out]; rfl⟩, by first | rfl | trivial⟩
         case measure => simp [intOf]; omega
       ·have g7 : decide ((i : Int) < (b.size : Int)) = false := decide_eq_false (by omega)
        have q8 : ¬ ((i : Int) < (b.size : Int)) := by omega
        have HF : Aside0 (digitsB b = true) := ⟨by
         have h := hall.out
         rw [List.take_of_length_le (by (have : b.data.toList.length = b.size := by simp); omega)] at h
         unfold digitsB
         rw [h, Bool.true_and]
         exact decide_eq_true (by omega)⟩
        go_wp2
        go_ret
        exact ⟨ret_b HF.out.symm, Below.refl _ _⟩
  ·have g1 : decide ((0 : Int) < (b.size : Int)) = false := decide_eq_false (by omega)
   have g3 : ((b.size : Int) == 0) = true := by rw [beq_iff_eq]; omega
   obtain rfl : r = false := by rw [← hr]; exact form_zero (by rw [hb]; omega)
   clear hb hr hm
   go_enter Tryz.func66, Tryz.ntmps66
   go_wp2_with fail
   go_ret
   exact ⟨rfl, Below.refl _ _⟩
 ·obtain ⟨hx, hz, h0⟩ := body_extract hm
  rw [hb] at hx hz
  have hx0 : ∀ h : 0 < s.size, ((s[0]'h).toNat : Int) = 45 := fun h => by have := h0 h; omega
  have g1 : decide ((0 : Int) < (s.size : Int)) = true := decide_eq_true (by omega)
  have q1 : (0 < s.size) = True := eq_true (by omega)
  have q2 : ((0 : Int) < (s.size : Int)) = True := eq_true (by omega)
  have q3 : ((1 : Int) ≤ (s.size : Int)) = True := eq_true (by omega)
  have q4 : (1 ≤ s.size) = True := eq_true (by omega)
  clear h0 hz
  by_cases hb0 : b.size = 0
  ·have g3 : ((b.size : Int) == 0) = true := by rw [beq_iff_eq]; omega
   obtain rfl : r = false := by rw [← hr]; exact form_zero (by rw [hb]; exact hb0)
   clear hb hr hm
   go_enter Tryz.func66, Tryz.ntmps66
   go_wp2_with fail
   go_ret
   exact ⟨rfl, Below.refl _ _⟩
  ·have g3 : ((b.size : Int) == 0) = false := by rw [beq_eq_false_iff_ne]; omega
   have hb1 : 0 < b.size := by omega
   obtain ⟨c, hc⟩ : ∃ c : Nat, (b[0]'hb1).toNat = c := ⟨_, rfl⟩
   skip
   have hxb : ∀ h : 0 < b.size, ((b[0]'h).toNat : Int) = (c : Int) := fun h => by rw [hc]
   have q5 : (0 < b.size) = True := eq_true hb1
   have q6 : ((0 : Int) < (b.size : Int)) = True := eq_true (by omega)
   by_cases hm0 : s = ⟨#[45, 48]⟩
   ·have g4 : ((s).toList == [45, 48]) = true := by rw [hm0]; decide +kernel
    obtain rfl : r = false := by rw [← hr]; exact form_minus0 hm0
    clear hb hr hm hc hm0
    go_enter Tryz.func66, Tryz.ntmps66
    go_wp2_with fail
    go_ret
    exact ⟨rfl, Below.refl _ _⟩
   ·have g4 : ((s).toList == [45, 48]) = false := beq_no (b := ⟨#[45, 48]⟩) rfl hm0
    by_cases h1 : 1 < b.size
    ·have g5 : decide ((1 : Int) < (b.size : Int)) = true := decide_eq_true (by omega)
     by_cases h48 : c = 48
     ·have g6 : ((c : Int) == 48) = true := by simp; omega
      obtain rfl : r = false := by rw [← hr]; exact form_lead (s := s) (by rw [hb]; exact hb1) (c := c) (by have := hc; simp only [hb]; exact this) h48 (by rw [hb]; exact h1)
      clear hb hr hm hc hm0
      go_enter Tryz.func66, Tryz.ntmps66
      go_wp2_with fail
      go_ret
      exact ⟨rfl, Below.refl _ _⟩
     ·have g6 : ((c : Int) == 48) = false := by simp; omega
      obtain rfl : r = digitsB b := by rw [← hr, form_ok (s := s) (by rw [hb]; exact hb1) (c := c) (by have := hc; simp only [hb]; exact this) hm0 (by rw [hb]; omega), hb]
      have hbz : b.size ≤ 1000000 := by have := bodyB_size s; rw [hb] at this; omega
      clear hb hr hm hc hm0
      go_enter Tryz.func66, Tryz.ntmps66
      go_wp2_with fail
      go_loopw [4] (fun v4 W => ∃ i : Nat, v4 = .int .i64 (i : Int) ∧ i ≤ b.size ∧ Aside0 ((b.data.toList.take i).all isDig = true) ∧ W = w) (fun v4 _ => b.size - (intOf v4).toNat)
      case atStart => exact ⟨0, rfl, Nat.zero_le _, ⟨by simp⟩, by first | rfl | trivial⟩
      case round =>
       obtain ⟨i, rfl, hi, hall, rfl⟩ := hrel
       by_cases hlt : i < b.size
       ·obtain ⟨d, hd⟩ : ∃ d : Nat, (b[i]'hlt).toNat = d := ⟨_, rfl⟩
        have HD : Aside0 ((b[i]'hlt).toNat = d) := ⟨hd⟩
        have hxd : ∀ h : i < b.size, ((b[i]'h).toNat : Int) = (d : Int) := fun h => by rw [hd]
        have q7 : (i < b.size) = True := eq_true hlt
        have q8 : ((i : Int) < (b.size : Int)) = True := eq_true (by omega)
        have g7 : decide ((i : Int) < (b.size : Int)) = true := decide_eq_true (by omega)
        have e1 : IntKind.i64.wrap ((i : Int) + 1) = ((i + 1 : Nat) : Int) := by rw [IntWalk.i64_in _ (by omega)]; omega
        clear hd
        obtain ⟨z, hzz⟩ : ∃ z, (decide (48 ≤ d) && decide (d ≤ 57)) = z := ⟨_, rfl⟩
        have HZ := Aside0.mk hzz
        clear hzz
        cases z
        ·go_wp2_with (go_at_call 125; (with_reducible refine (risDigit_calls d _).mono ?_); rw [HZ.out]; rintro e wx ⟨rfl, hwx⟩; rw [hwx]; clear hwx wx)
         go_ret
         exact ⟨ret_b (all_false hlt (by unfold isDig; rw [HD.out]; exact HZ.out)).symm, Below.refl _ _⟩
        ·go_wp2_with (go_at_call 125; (with_reducible refine (risDigit_calls d _).mono ?_); rw [HZ.out]; rintro e wx ⟨rfl, hwx⟩; rw [hwx]; clear hwx wx)
         go_roundw
         case rel => exact ⟨i + 1, by first | rfl | go_num, hlt, ⟨by rw [all_take_succ hlt, hall.out]; unfold isDig; rw [HD.out, HZ.out]; rfl⟩, by first | rfl | trivial⟩
         case measure => simp [intOf]; omega
       ·have g7 : decide ((i : Int) < (b.size : Int)) = false := decide_eq_false (by omega)
        have q8 : ¬ ((i : Int) < (b.size : Int)) := by omega
        have HF : Aside0 (digitsB b = true) := ⟨by
         have h := hall.out
         rw [List.take_of_length_le (by (have : b.data.toList.length = b.size := by simp); omega)] at h
         unfold digitsB
         rw [h, Bool.true_and]
         exact decide_eq_true (by omega)⟩
        go_wp2
        go_ret
        exact ⟨ret_b HF.out.symm, Below.refl _ _⟩
    ·have g5 : decide ((1 : Int) < (b.size : Int)) = false := decide_eq_false (by omega)
     obtain rfl : r = digitsB b := by rw [← hr, form_ok (s := s) (by rw [hb]; exact hb1) (c := c) (by have := hc; simp only [hb]; exact this) hm0 (by rw [hb]; omega), hb]
     have hbz : b.size ≤ 1000000 := by have := bodyB_size s; rw [hb] at this; omega
     clear hb hr hm hc hm0
     go_enter Tryz.func66, Tryz.ntmps66
     go_wp2_with fail
     go_loopw [4] (fun v4 W => ∃ i : Nat, v4 = .int .i64 (i : Int) ∧ i ≤ b.size ∧ Aside0 ((b.data.toList.take i).all isDig = true) ∧ W = w) (fun v4 _ => b.size - (intOf v4).toNat)
     case atStart => exact ⟨0, rfl, Nat.zero_le _, ⟨by simp⟩, by first | rfl | trivial⟩
     case round =>
      obtain ⟨i, rfl, hi, hall, rfl⟩ := hrel
      by_cases hlt : i < b.size
      ·obtain ⟨d, hd⟩ : ∃ d : Nat, (b[i]'hlt).toNat = d := ⟨_, rfl⟩
       have HD : Aside0 ((b[i]'hlt).toNat = d) := ⟨hd⟩
       have hxd : ∀ h : i < b.size, ((b[i]'h).toNat : Int) = (d : Int) := fun h => by rw [hd]
       have q7 : (i < b.size) = True := eq_true hlt
       have q8 : ((i : Int) < (b.size : Int)) = True := eq_true (by omega)
       have g7 : decide ((i : Int) < (b.size : Int)) = true := decide_eq_true (by omega)
       have e1 : IntKind.i64.wrap ((i : Int) + 1) = ((i + 1 : Nat) : Int) := by rw [IntWalk.i64_in _ (by omega)]; omega
       clear hd
       obtain ⟨z, hzz⟩ : ∃ z, (decide (48 ≤ d) && decide (d ≤ 57)) = z := ⟨_, rfl⟩
       have HZ := Aside0.mk hzz
       clear hzz
       cases z
       ·go_wp2_with (go_at_call 125; (with_reducible refine (risDigit_calls d _).mono ?_); rw [HZ.out]; rintro e wx ⟨rfl, hwx⟩; rw [hwx]; clear hwx wx)
        go_ret
        exact ⟨ret_b (all_false hlt (by unfold isDig; rw [HD.out]; exact HZ.out)).symm, Below.refl _ _⟩
       ·go_wp2_with (go_at_call 125; (with_reducible refine (risDigit_calls d _).mono ?_); rw [HZ.out]; rintro e wx ⟨rfl, hwx⟩; rw [hwx]; clear hwx wx)
        go_roundw
        case rel => exact ⟨i + 1, by first | rfl | go_num, hlt, ⟨by rw [all_take_succ hlt, hall.out]; unfold isDig; rw [HD.out, HZ.out]; rfl⟩, by first | rfl | trivial⟩
        case measure => simp [intOf]; omega
      ·have g7 : decide ((i : Int) < (b.size : Int)) = false := decide_eq_false (by omega)
       have q8 : ¬ ((i : Int) < (b.size : Int)) := by omega
       have HF : Aside0 (digitsB b = true) := ⟨by
        have h := hall.out
        rw [List.take_of_length_le (by (have : b.data.toList.length = b.size := by simp); omega)] at h
        unfold digitsB
        rw [h, Bool.true_and]
        exact decide_eq_true (by omega)⟩
       go_wp2
       go_ret
       exact ⟨ret_b HF.out.symm, Below.refl _ _⟩
theorem check_form (s : ByteArray) : checkI s = if formB s = true then (if 120 < (bodyB s).size then 4 else 0) else 1 := by
 unfold checkI formB
 cases hd : digitsB (bodyB s)
 ·simp
 ·rw [if_neg (by simp)]
  by_cases h1 : (bodyB s).data.toList.head? = some 48
  ·by_cases h2 : minusB s = true ∨ 1 < (bodyB s).size
   ·rw [if_pos ⟨h1, h2⟩]
    have : (minusB s || decide (1 < (bodyB s).size)) = true := by
     rcases h2 with h2 | h2
     ·rw [h2]; rfl
     ·rw [decide_eq_true h2, Bool.or_true]
    rw [this, decide_eq_true h1]
    simp
   ·rw [if_neg (fun h => h2 h.2)]
    have : (minusB s || decide (1 < (bodyB s).size)) = false := by
     cases hm : minusB s
     ·rw [Bool.false_or]; exact decide_eq_false (fun h => h2 (.inr h))
     ·exact absurd (.inl hm) h2
    rw [this]
    simp
  ·rw [if_neg (fun h => h1 h.1)]
   rw [decide_eq_false h1]
   simp
theorem rCheck_calls (s : ByteArray) (hs : s.size ≤ 1000000) (w : World) :
 Calls Tryz.prog 13 #[.string s] w fun e w' => e = .returned (.int .i64 (checkI s)) ∧ Below w.heap.size w w' := by
 rw [check_form]
 have hF := rform_calls s hs w
 cases hf : formB s
 ·rw [hf] at hF
  have HF := Aside0.mk hF
  clear hF hf
  rw [if_neg (by decide)]
  go_enter Tryz.func13, Tryz.ntmps13
  go_wp2_with (go_at_call 66; (with_reducible refine HF.out.mono ?_); rintro e wx ⟨rfl, hbx⟩; have HB := Aside0.mk hbx; clear hbx)
  go_ret
  exact ⟨rfl, HB.out⟩
 ·rw [hf] at hF
  have HF := Aside0.mk hF
  rw [if_pos rfl]
  have hd : 0 < (bodyB s).size := by
   unfold formB at hf
   simp only [Bool.and_eq_true] at hf
   exact digits_pos hf.1
  clear hF hf
  obtain ⟨b, hb⟩ : ∃ b, bodyB s = b := ⟨_, rfl⟩
  rw [hb] at hd ⊢
  cases hm : minusB s
  ·have hbs := body_self hm
   rw [hb] at hbs
   subst hbs
   have hne := minus_not hm hd
   obtain ⟨a, ha⟩ : ∃ a : Nat, (b[0]'hd).toNat = a := ⟨_, rfl⟩
   rw [ha] at hne
   have hx0 : ∀ h : 0 < b.size, ((b[0]'h).toNat : Int) = (a : Int) := fun h => by rw [ha]
   have g2 : ((a : Int) == 45) = false := by rw [beq_eq_false_iff_ne]; omega
   have q1 : (0 < b.size) = True := eq_true hd
   have q2 : ((0 : Int) < (b.size : Int)) = True := eq_true (by omega)
   clear ha hne hb hm
   by_cases h120 : 120 < b.size
   ·have g5 : decide ((120 : Int) < (b.size : Int)) = true := decide_eq_true (by omega)
    rw [if_pos h120]
    go_enter Tryz.func13, Tryz.ntmps13
    go_wp2_with (first | (go_at_call 66; (with_reducible refine HF.out.mono ?_); rintro e wx ⟨rfl, hbx⟩; have HB := Aside0.mk hbx; clear hbx) | (go_at_call 67; (with_reducible refine (rwhen_calls _ 4 _).mono ?_); rintro e wy ⟨rfl, hwy⟩; rw [hwy]; clear hwy wy))
    go_ret
    exact ⟨by simp, HB.out⟩
   ·have g5 : decide ((120 : Int) < (b.size : Int)) = false := decide_eq_false (by omega)
    rw [if_neg h120]
    go_enter Tryz.func13, Tryz.ntmps13
    go_wp2_with (first | (go_at_call 66; (with_reducible refine HF.out.mono ?_); rintro e wx ⟨rfl, hbx⟩; have HB := Aside0.mk hbx; clear hbx) | (go_at_call 67; (with_reducible refine (rwhen_calls _ 4 _).mono ?_); rintro e wy ⟨rfl, hwy⟩; rw [hwy]; clear hwy wy))
    go_ret
    exact ⟨by simp, HB.out⟩
  ·obtain ⟨hx, hz, h0⟩ := body_extract hm
   rw [hb] at hx hz
   have hx0 : ∀ h : 0 < s.size, ((s[0]'h).toNat : Int) = 45 := fun h => by have := h0 h; omega
   have q1 : (0 < s.size) = True := eq_true (by omega)
   have q2 : ((0 : Int) < (s.size : Int)) = True := eq_true (by omega)
   have e1 : IntKind.i64.wrap ((s.size : Int) - 1) = (b.size : Int) := by rw [IntWalk.i64_in _ (by omega)]; omega
   clear h0 hz hx hb hm
   by_cases h120 : 120 < b.size
   ·have g5 : decide ((120 : Int) < (b.size : Int)) = true := decide_eq_true (by omega)
    rw [if_pos h120]
    go_enter Tryz.func13, Tryz.ntmps13
    go_wp2_with (first | (go_at_call 66; (with_reducible refine HF.out.mono ?_); rintro e wx ⟨rfl, hbx⟩; have HB := Aside0.mk hbx; clear hbx) | (go_at_call 67; (with_reducible refine (rwhen_calls _ 4 _).mono ?_); rintro e wy ⟨rfl, hwy⟩; rw [hwy]; clear hwy wy))
    go_ret
    exact ⟨by simp, HB.out⟩
   ·have g5 : decide ((120 : Int) < (b.size : Int)) = false := decide_eq_false (by omega)
    rw [if_neg h120]
    go_enter Tryz.func13, Tryz.ntmps13
    go_wp2_with (first | (go_at_call 66; (with_reducible refine HF.out.mono ?_); rintro e wx ⟨rfl, hbx⟩; have HB := Aside0.mk hbx; clear hbx) | (go_at_call 67; (with_reducible refine (rwhen_calls _ 4 _).mono ?_); rintro e wy ⟨rfl, hwy⟩; rw [hwy]; clear hwy wy))
    go_ret
    exact ⟨by simp, HB.out⟩
theorem read_two (w : World) (f : Bool) : BG ((w.alloc (.cells #[.bool false, .slice none 0 0] 77)).alloc (.cells #[.bool f, .slice none 0 0] 77)) (w.heap.size + 1) f none 0 0 ∧ BG ((w.alloc (.cells #[.bool false, .slice none 0 0] 77)).alloc (.cells #[.bool f, .slice none 0 0] 77)) w.heap.size false none 0 0 ∧ Below w.heap.size w ((w.alloc (.cells #[.bool false, .slice none 0 0] 77)).alloc (.cells #[.bool f, .slice none 0 0] 77)) ∧ w.heap.size + 2 ≤ ((w.alloc (.cells #[.bool false, .slice none 0 0] 77)).alloc (.cells #[.bool f, .slice none 0 0] 77)).heap.size := by
 refine ⟨?_, (BG.new w _ _ _ _).alloc _, by repeat (first | exact Below.refl _ _ | apply below_alloc), by simp⟩
 have h := BG.new (w.alloc (.cells #[.bool false, .slice none 0 0] 77)) f none 0 0
 simpa using h
theorem rRead_calls (s : ByteArray) (hs : s.size ≤ 90000) (hd : digitsB (bodyB s) = true) (w : World) :
 Calls Tryz.prog 72 #[.string s] w fun e w' => RX w (intI s) e w' := by
 have h0 := digits_pos hd
 have hbz := bodyB_size s
 have HI : Aside0 ((minusB s && decide (dv (bodyB s).data.toList ≠ 0)) = decide (intI s < 0) ∧ (intI s).natAbs = dv (bodyB s).data.toList) := ⟨by
  unfold intI
  generalize dv (bodyB s).data.toList = V
  cases minusB s
  ·first | (simp; done) | (simp; omega)
  ·first | (simp; done) | (simp; omega) | (simp; rw [Bool.eq_iff_iff]; simp; done) | (simp; rw [Bool.eq_iff_iff]; simp; omega)⟩
 have HDG : Aside0 (DG (bodyB s).data.toList) := ⟨isDig_of (by unfold digitsB at hd; simp only [Bool.and_eq_true] at hd; exact hd.1)⟩
 generalize intI s = z at *
 obtain ⟨b, hb⟩ : ∃ b, bodyB s = b := ⟨_, rfl⟩
 cases hm : minusB s
 ·have hbs := body_self hm
  rw [hb] at hbs
  subst hbs
  rw [hm] at HI
  rw [hb] at HI HDG h0
  have hne := minus_not hm h0
  obtain ⟨a, ha⟩ : ∃ a : Nat, (b[0]'h0).toNat = a := ⟨_, rfl⟩
  rw [ha] at hne
  have hx0 : ∀ h : 0 < b.size, ((b[0]'h).toNat : Int) = (a : Int) := fun h => by rw [ha]
  have g2 : ((a : Int) == 45) = false := by simp; omega
  have q1 : (0 < b.size) = True := eq_true (by omega)
  have q2 : ((0 : Int) < (b.size : Int)) = True := eq_true (by omega)
  clear hne ha hm hb hbz hd
  go_enter Tryz.func72, Tryz.ntmps72
  go_wp2_with fail
  have HG : Aside0 (BG ((w.alloc (.cells #[.bool false, .slice none 0 0] 77)).alloc (.cells #[.bool false, .slice none 0 0] 77)) (w.heap.size + 1) false none 0 0 ∧ BG ((w.alloc (.cells #[.bool false, .slice none 0 0] 77)).alloc (.cells #[.bool false, .slice none 0 0] 77)) w.heap.size false none 0 0 ∧ Below w.heap.size w ((w.alloc (.cells #[.bool false, .slice none 0 0] 77)).alloc (.cells #[.bool false, .slice none 0 0] 77)) ∧ w.heap.size + 2 ≤ ((w.alloc (.cells #[.bool false, .slice none 0 0] 77)).alloc (.cells #[.bool false, .slice none 0 0] 77)).heap.size) := ⟨(read_two w false)⟩
  go_loopw [4] (fun v4 W => ∃ (k : Int) (out : List Nat) (A : Option Addr) (c : Nat), v4 = .int .i64 k ∧ -4 < k ∧ k ≤ b.size ∧ Aside0 (((0 < k → 4 * out.length + k = b.size) ∧ 4 * out.length ≤ b.size + 3) ∧ (∀ d ∈ out, d < QQ) ∧ val QQ out + QQ ^ out.length * dv (b.data.toList.take k.toNat) = dv b.data.toList) ∧ Aside0 (BG W (w.heap.size + 1) false A out.length c ∧ BG W w.heap.size false none 0 0 ∧ Kd.R (Kd.int .i64) 3 W (w.heap.size + 2) (fun _ => True) (.slice A out.length c) (li out)) ∧ Aside0 (Below w.heap.size w W ∧ w.heap.size + 2 ≤ W.heap.size)) (fun v4 _ => (intOf v4).toNat)
  case atStart => exact ⟨(b.size : Int), [], none, 0, by first | rfl | go_num, by omega, Int.le_refl _, ⟨⟨fun _ => by simp, by simp⟩, by simp, by rw [Int.toNat_natCast, List.take_of_length_le (by simp)]; simp [val]⟩, ⟨HG.out.1, HG.out.2.1, Kd.R_nil _ _ _ _ _⟩, ⟨HG.out.2.2.1, HG.out.2.2.2⟩⟩
  case round =>
   obtain ⟨k, out, A, c, rfl, hk1, hk2, HK, HM, HB⟩ := hrel
   obtain ⟨X, rfl⟩ : ∃ X, X = wr := ⟨_, rfl⟩
   have x0 := HM.out.1.cell0
   have x1 := HM.out.1.cell1
   have x4 := HM.out.1.fr 1
   have hlt1 := HM.out.1.lt
   have hout : out.length ≤ 30000 := by have := HK.out.1.2; omega
   by_cases hk : 0 < k
   ·have hbl : b.data.toList.length = b.size := by simp
    by_cases h4 : 4 < k
    ·have h4' : ¬ k < 4 := by omega
     have e4 : IntKind.i64.wrap (k - 4) = k - 4 := IntWalk.i64_in _ (by omega)
     have g4 : (0 : Int) < k - 4 := by omega
     have g4' : ¬ (k - 4 : Int) < 0 := by omega
     have g5 : max (0 : Int) (k - 4) = k - 4 := by omega
     have hst4 : k.toNat ≤ (k.toNat - 4) + 4 ∧ ((k.toNat - 4 : Nat) : Int) = k - 4 := by omega
     clear h4
     obtain ⟨st, hst0⟩ : ∃ st : Nat, k.toNat - 4 = st := ⟨_, rfl⟩
     rw [hst0] at hst4
     go_wp2
     go_loopw [5, 6] (fun v5 v6 W => ∃ (i v : Nat), v5 = .int .i64 (v : Int) ∧ v6 = .int .i64 (i : Int) ∧ st ≤ i ∧ (i : Int) ≤ k ∧ Aside0 (v = dv ((b.data.toList.take i).drop st)) ∧ W = X) (fun _ v6 _ => k.toNat - (intOf v6).toNat)
     case atStart => exact ⟨st, 0, rfl, by first | rfl | (exact congrArg (Value.int .i64) (by omega)), Nat.le_refl _, by omega, ⟨by rw [List.drop_of_length_le (by rw [List.length_take]; exact Nat.min_le_left _ _)]; rfl⟩, rfl⟩
     case round =>
      obtain ⟨i, v, rfl, rfl, hst, hik, HV, rfl⟩ := hrel
      have hv : v < 10000 := by
       have h := dv_lt ((b.data.toList.take i).drop st) (fun c hc => HDG.out c (List.mem_of_mem_take (List.mem_of_mem_drop hc)))
       have hl : ((b.data.toList.take i).drop st).length ≤ 4 := by rw [List.length_drop, List.length_take]; omega
       have h2 := Nat.pow_le_pow_right (n := 10) (by decide) hl
       have := HV.out
       omega
      by_cases hlt : (i : Int) < k
      ·have hib : i < b.size := by omega
       obtain ⟨d, hd⟩ : ∃ d : Nat, (b[i]'hib).toNat = d := ⟨_, rfl⟩
       have hxd : ∀ h : i < b.size, ((b[i]'h).toNat : Int) = (d : Int) := fun h => by rw [hd]
       have hil : i < b.data.toList.length := by rw [hbl]; exact hib
       have hdl : (b.data.toList[i]'hil).toNat = d := by rw [← hd]; simp; rfl
       have hd2 : 48 ≤ d ∧ d ≤ 57 := by rw [← hdl]; exact HDG.out _ (List.getElem_mem _)
       have HN : Aside0 (10 * v + (d - 48) = dv ((b.data.toList.take (i + 1)).drop st)) := ⟨by rw [dv_piece hil hst, hdl, ← HV.out]⟩
       have q7 : (i < b.size) = True := eq_true hib
       have q8 : ((i : Int) < (b.size : Int)) = True := eq_true (by omega)
       have u1 : IntKind.u8.wrap ((d : Int) - 48) = (d : Int) - 48 := by simp [IntKind.wrap, IntKind.bits, IntKind.signed]; omega
       have u1' : ((d : Int) - 48) % 256 = (d : Int) - 48 := by omega
       have u2 : IntKind.i64.wrap ((d : Int) - 48) = (d : Int) - 48 := IntWalk.i64_in _ (by omega)
       have u3 : IntKind.i64.wrap (10 * (v : Int)) = 10 * (v : Int) := IntWalk.i64_in _ (by omega)
       have u4 : IntKind.i64.wrap (10 * (v : Int) + ((d : Int) - 48)) = 10 * (v : Int) + ((d : Int) - 48) := IntWalk.i64_in _ (by omega)
       have e1 : IntKind.i64.wrap ((i : Int) + 1) = ((i + 1 : Nat) : Int) := by rw [IntWalk.i64_in _ (by omega)]; omega
       clear hd hdl hil
       go_wp2
       go_roundw
       case rel => exact ⟨i + 1, 10 * v + (d - 48), congrArg (Value.int .i64) (by omega), by first | rfl | go_num, by omega, by omega, HN, by first | rfl | trivial⟩
       case measure => simp [intOf]; omega
      ·have hik2 : i = k.toNat := by omega
       subst hik2
       clear hlt hst hik
       go_wp2_with (first | ((with_reducible refine gate_builtin (b := .append) (xs := #[.tmp 36, .tmp 38]) rfl ?_); at_builtin; (refine Kd.R_append (Kd.int .i64) (w0 := wr) (w.heap.size + 2) rfl (.tmp 36) (.tmp 38) 75 3 (.int .i64 0) 8 rfl Tryz.underlying75 rinfo rfl (by decide) (by omega) (.slice A out.length c) (li out) (v : Int) [.int .i64 (v : Int)] (fun _ => True) (fun _ => False) rfl rfl ?aP (fun _ hk => hk.elim) ?aF ?aO ?aB ?aS ?aL ?_; (case aP => exact rfl); (case aB => exact Below.refl _ _); (case aF => exact (fun _ _ => trivial)); (case aO => exact HM.out.2.2); (case aS => exact HB.out.2); (case aL => rw [li_len]; omega); intro v38 w8 ho hb hg hat; obtain ⟨A2, c2, e2⟩ := Kd.R_slice ho; subst e2; have HO2 := Aside0.mk ho; have HB2 := Aside0.mk hb; have HG8 := Aside0.mk (BG.low HM.out.1 (by omega) hb); have HG0 := Aside0.mk (BG.low HM.out.2.1 (by omega) hb); have y1 := HG8.out.cell1; have y2 := HG8.out.fr 1; clear ho hb hg hat)))
       go_roundw
       case rel =>
        refine ⟨k - 4, out ++ [v], A2, c2, by first | rfl | go_num, by omega, by omega, ⟨?_⟩, ⟨?_, HG0.out.other (by omega) _ _, ?_⟩, ⟨?_, ?_⟩⟩
        ·(exact ⟨⟨fun _ => by have := HK.out.1.1 (by omega); simp; omega, by have := HK.out.1.1 (by omega); simp; omega⟩, fun e he => (List.mem_append.1 he).elim (HK.out.2.1 e) (fun he => by rw [List.mem_singleton.1 he]; exact hv), by have hc := dv_cut (l := b.data.toList) (i := st) (j := k.toNat) (by omega) (by omega); have h := HK.out.2.2; rw [hc] at h; have hp := parse_step h (by rw [List.length_drop, List.length_take]; rw [show min k.toNat b.data.toList.length - st = 4 by omega]); rw [HV.out, show (k - 4).toNat = st by omega]; exact hp⟩)
        ·have h := HG8.out.put1 A2 ((li out).length + 1) c2
         rw [show (out ++ [v]).length = (li out).length + 1 by rw [li_len]; simp]
         exact h
        ·have h := Kd.R_set HO2.out HG8.out (by decide) 1 (.slice A2 ((li out).length + 1) c2)
         rw [show (out ++ [v]).length = (li out ++ [(v : Int)]).length by rw [List.length_append, List.length_append, li_len]; rfl, li_snoc]
         exact h
        ·exact (HB.out.1.trans (HB2.out.mono (by omega))).setCell (p := ⟨w.heap.size + 1, 1, none⟩) (by simp) _
        ·have := HB2.out.size; have := HB.out.2; simp; omega
       case measure => simp [intOf]; omega
    ·have e4 : IntKind.i64.wrap (k - 4) = k - 4 := IntWalk.i64_in _ (by omega)
     have g5 : max (0 : Int) (k - 4) = 0 := by omega
     have g4 : ¬ (0 : Int) < k - 4 := by omega
     obtain ⟨st, hst0⟩ : ∃ st : Nat, st = 0 := ⟨_, rfl⟩
     have hst4 : k.toNat ≤ st + 4 ∧ (st : Int) = 0 := by omega
     go_wp2
     go_loopw [5, 6] (fun v5 v6 W => ∃ (i v : Nat), v5 = .int .i64 (v : Int) ∧ v6 = .int .i64 (i : Int) ∧ st ≤ i ∧ (i : Int) ≤ k ∧ Aside0 (v = dv ((b.data.toList.take i).drop st)) ∧ W = X) (fun _ v6 _ => k.toNat - (intOf v6).toNat)
     case atStart => exact ⟨st, 0, rfl, by first | rfl | (exact congrArg (Value.int .i64) (by omega)), Nat.le_refl _, by omega, ⟨by rw [List.drop_of_length_le (by rw [List.length_take]; exact Nat.min_le_left _ _)]; rfl⟩, rfl⟩
     case round =>
      obtain ⟨i, v, rfl, rfl, hst, hik, HV, rfl⟩ := hrel
      have hv : v < 10000 := by
       have h := dv_lt ((b.data.toList.take i).drop st) (fun c hc => HDG.out c (List.mem_of_mem_take (List.mem_of_mem_drop hc)))
       have hl : ((b.data.toList.take i).drop st).length ≤ 4 := by rw [List.length_drop, List.length_take]; omega
       have h2 := Nat.pow_le_pow_right (n := 10) (by decide) hl
       have := HV.out
       omega
      by_cases hlt : (i : Int) < k
      ·have hib : i < b.size := by omega
       obtain ⟨d, hd⟩ : ∃ d : Nat, (b[i]'hib).toNat = d := ⟨_, rfl⟩
       have hxd : ∀ h : i < b.size, ((b[i]'h).toNat : Int) = (d : Int) := fun h => by rw [hd]
       have hil : i < b.data.toList.length := by rw [hbl]; exact hib
       have hdl : (b.data.toList[i]'hil).toNat = d := by rw [← hd]; simp; rfl
       have hd2 : 48 ≤ d ∧ d ≤ 57 := by rw [← hdl]; exact HDG.out _ (List.getElem_mem _)
       have HN : Aside0 (10 * v + (d - 48) = dv ((b.data.toList.take (i + 1)).drop st)) := ⟨by rw [dv_piece hil hst, hdl, ← HV.out]⟩
       have q7 : (i < b.size) = True := eq_true hib
       have q8 : ((i : Int) < (b.size : Int)) = True := eq_true (by omega)
       have u1 : IntKind.u8.wrap ((d : Int) - 48) = (d : Int) - 48 := by simp [IntKind.wrap, IntKind.bits, IntKind.signed]; omega
       have u1' : ((d : Int) - 48) % 256 = (d : Int) - 48 := by omega
       have u2 : IntKind.i64.wrap ((d : Int) - 48) = (d : Int) - 48 := IntWalk.i64_in _ (by omega)
       have u3 : IntKind.i64.wrap (10 * (v : Int)) = 10 * (v : Int) := IntWalk.i64_in _ (by omega)
       have u4 : IntKind.i64.wrap (10 * (v : Int) + ((d : Int) - 48)) = 10 * (v : Int) + ((d : Int) - 48) := IntWalk.i64_in _ (by omega)
       have e1 : IntKind.i64.wrap ((i : Int) + 1) = ((i + 1 : Nat) : Int) := by rw [IntWalk.i64_in _ (by omega)]; omega
       clear hd hdl hil
       go_wp2
       go_roundw
       case rel => exact ⟨i + 1, 10 * v + (d - 48), congrArg (Value.int .i64) (by omega), by first | rfl | go_num, by omega, by omega, HN, by first | rfl | trivial⟩
       case measure => simp [intOf]; omega
      ·have hik2 : i = k.toNat := by omega
       subst hik2
       clear hlt hst hik
       go_wp2_with (first | ((with_reducible refine gate_builtin (b := .append) (xs := #[.tmp 36, .tmp 38]) rfl ?_); at_builtin; (refine Kd.R_append (Kd.int .i64) (w0 := wr) (w.heap.size + 2) rfl (.tmp 36) (.tmp 38) 75 3 (.int .i64 0) 8 rfl Tryz.underlying75 rinfo rfl (by decide) (by omega) (.slice A out.length c) (li out) (v : Int) [.int .i64 (v : Int)] (fun _ => True) (fun _ => False) rfl rfl ?aP (fun _ hk => hk.elim) ?aF ?aO ?aB ?aS ?aL ?_; (case aP => exact rfl); (case aB => exact Below.refl _ _); (case aF => exact (fun _ _ => trivial)); (case aO => exact HM.out.2.2); (case aS => exact HB.out.2); (case aL => rw [li_len]; omega); intro v38 w8 ho hb hg hat; obtain ⟨A2, c2, e2⟩ := Kd.R_slice ho; subst e2; have HO2 := Aside0.mk ho; have HB2 := Aside0.mk hb; have HG8 := Aside0.mk (BG.low HM.out.1 (by omega) hb); have HG0 := Aside0.mk (BG.low HM.out.2.1 (by omega) hb); have y1 := HG8.out.cell1; have y2 := HG8.out.fr 1; clear ho hb hg hat)))
       go_roundw
       case rel =>
        refine ⟨k - 4, out ++ [v], A2, c2, by first | rfl | go_num, by omega, by omega, ⟨?_⟩, ⟨?_, HG0.out.other (by omega) _ _, ?_⟩, ⟨?_, ?_⟩⟩
        ·(exact ⟨⟨fun h => by omega, by have := HK.out.1.1 (by omega); simp; omega⟩, fun e he => (List.mem_append.1 he).elim (HK.out.2.1 e) (fun he => by rw [List.mem_singleton.1 he]; exact hv), by have h := HK.out.2.2; have hp := parse_last h; rw [HV.out, show (k - 4).toNat = 0 by omega, hst0]; simpa [dv] using hp⟩)
        ·have h := HG8.out.put1 A2 ((li out).length + 1) c2
         rw [show (out ++ [v]).length = (li out).length + 1 by rw [li_len]; simp]
         exact h
        ·have h := Kd.R_set HO2.out HG8.out (by decide) 1 (.slice A2 ((li out).length + 1) c2)
         rw [show (out ++ [v]).length = (li out ++ [(v : Int)]).length by rw [List.length_append, List.length_append, li_len]; rfl, li_snoc]
         exact h
        ·exact (HB.out.1.trans (HB2.out.mono (by omega))).setCell (p := ⟨w.heap.size + 1, 1, none⟩) (by simp) _
        ·have := HB2.out.size; have := HB.out.2; simp; omega
       case measure => simp [intOf]; omega
   ·have hV : val QQ out = dv b.data.toList := by
     have h := HK.out.2.2
     rw [show k.toNat = 0 by omega] at h
     simpa [dv] using h
    have HR : Aside0 (RL X A out.length out ∧ out.length ≤ c ∧ (∀ d ∈ out, d < QQ)) := ⟨by
     have h := Kd.R_reads' HM.out.2.2
     rw [li_len] at h
     exact ⟨h.2.2, h.2.1, HK.out.2.1⟩⟩
    have HVV := Aside0.mk hV
    have HO := Aside0.mk HM.out.2.1
    clear hV HK hk1 hk2
    go_wp2_with (go_at_call 137; (with_reducible refine (rtrim_sign HR.out.1 HR.out.2.1 HR.out.2.2 _).mono ?_); rintro e wm ⟨k6, g6, rfl, hg6, hk6, hm6, hbq⟩; have HG6 := Aside0.mk (And.intro hg6 hk6); clear hg6 hk6; have HO2 := Aside0.mk (HO.out.below hbq); have hm6 := Aside0.mk hm6; have HBQ := Aside0.mk hbq; clear hbq; have q0 := HO2.out.cell0; have q1 := HO2.out.cell1; have q4 := HO2.out.fr 0; have q5 := HO2.out.fr 1)
    refine bodyPost_ret (v := .agg #[.bool g6, .slice A k6 c]) (by simp [results, Tryz.results72, go_sem, q0, q1]) rfl (RX.of (n := val QQ out) rfl ?_ HG6.out.2 ?_ ?_ ?_)
    ·rw [HG6.out.1, HVV.out]; exact HI.out.1
    ·exact HVV.out.trans HI.out.2.symm
    ·exact (hm6.out.bg HO2.out 0 _).bg (HO2.out.put0 _) 1 _
    ·exact ((HB.out.1.trans (HBQ.out.mono (Nat.le_trans (by omega) HB.out.2))).setCell (by simp) _).setCell (by simp) _
 ·obtain ⟨hx, hz, h1⟩ := body_extract hm
  rw [hb] at hx hz
  rw [hm] at HI
  rw [hb] at HI HDG h0
  have hx0 : ∀ h : 0 < s.size, ((s[0]'h).toNat : Int) = 45 := fun h => by have := h1 h; omega
  have q1 : (0 < s.size) = True := eq_true (by omega)
  have q2 : ((0 : Int) < (s.size : Int)) = True := eq_true (by omega)
  have q3 : ((1 : Int) ≤ (s.size : Int)) = True := eq_true (by omega)
  have q4 : (1 ≤ s.size) = True := eq_true (by omega)
  have hsb : b.size ≤ 90000 := by omega
  clear h1 hm hb hbz hd hz
  go_enter Tryz.func72, Tryz.ntmps72
  go_wp2_with fail
  have HG : Aside0 (BG ((w.alloc (.cells #[.bool false, .slice none 0 0] 77)).alloc (.cells #[.bool true, .slice none 0 0] 77)) (w.heap.size + 1) true none 0 0 ∧ BG ((w.alloc (.cells #[.bool false, .slice none 0 0] 77)).alloc (.cells #[.bool true, .slice none 0 0] 77)) w.heap.size false none 0 0 ∧ Below w.heap.size w ((w.alloc (.cells #[.bool false, .slice none 0 0] 77)).alloc (.cells #[.bool true, .slice none 0 0] 77)) ∧ w.heap.size + 2 ≤ ((w.alloc (.cells #[.bool false, .slice none 0 0] 77)).alloc (.cells #[.bool true, .slice none 0 0] 77)).heap.size) := ⟨(read_two w true)⟩
  go_loopw [4] (fun v4 W => ∃ (k : Int) (out : List Nat) (A : Option Addr) (c : Nat), v4 = .int .i64 k ∧ -4 < k ∧ k ≤ b.size ∧ Aside0 (((0 < k → 4 * out.length + k = b.size) ∧ 4 * out.length ≤ b.size + 3) ∧ (∀ d ∈ out, d < QQ) ∧ val QQ out + QQ ^ out.length * dv (b.data.toList.take k.toNat) = dv b.data.toList) ∧ Aside0 (BG W (w.heap.size + 1) true A out.length c ∧ BG W w.heap.size false none 0 0 ∧ Kd.R (Kd.int .i64) 3 W (w.heap.size + 2) (fun _ => True) (.slice A out.length c) (li out)) ∧ Aside0 (Below w.heap.size w W ∧ w.heap.size + 2 ≤ W.heap.size)) (fun v4 _ => (intOf v4).toNat)
  case atStart => exact ⟨(b.size : Int), [], none, 0, by first | rfl | go_num, by omega, Int.le_refl _, ⟨⟨fun _ => by simp, by simp⟩, by simp, by rw [Int.toNat_natCast, List.take_of_length_le (by simp)]; simp [val]⟩, ⟨HG.out.1, HG.out.2.1, Kd.R_nil _ _ _ _ _⟩, ⟨HG.out.2.2.1, HG.out.2.2.2⟩⟩
  case round =>
   obtain ⟨k, out, A, c, rfl, hk1, hk2, HK, HM, HB⟩ := hrel
   obtain ⟨X, rfl⟩ : ∃ X, X = wr := ⟨_, rfl⟩
   have x0 := HM.out.1.cell0
   have x1 := HM.out.1.cell1
   have x4 := HM.out.1.fr 1
   have hlt1 := HM.out.1.lt
   have hout : out.length ≤ 30000 := by have := HK.out.1.2; omega
   by_cases hk : 0 < k
   ·have hbl : b.data.toList.length = b.size := by simp
    by_cases h4 : 4 < k
    ·have h4' : ¬ k < 4 := by omega
     have e4 : IntKind.i64.wrap (k - 4) = k - 4 := IntWalk.i64_in _ (by omega)
     have g4 : (0 : Int) < k - 4 := by omega
     have g4' : ¬ (k - 4 : Int) < 0 := by omega
     have g5 : max (0 : Int) (k - 4) = k - 4 := by omega
     have hst4 : k.toNat ≤ (k.toNat - 4) + 4 ∧ ((k.toNat - 4 : Nat) : Int) = k - 4 := by omega
     clear h4
     obtain ⟨st, hst0⟩ : ∃ st : Nat, k.toNat - 4 = st := ⟨_, rfl⟩
     rw [hst0] at hst4
     go_wp2
     go_loopw [5, 6] (fun v5 v6 W => ∃ (i v : Nat), v5 = .int .i64 (v : Int) ∧ v6 = .int .i64 (i : Int) ∧ st ≤ i ∧ (i : Int) ≤ k ∧ Aside0 (v = dv ((b.data.toList.take i).drop st)) ∧ W = X) (fun _ v6 _ => k.toNat - (intOf v6).toNat)
     case atStart => exact ⟨st, 0, rfl, by first | rfl | (exact congrArg (Value.int .i64) (by omega)), Nat.le_refl _, by omega, ⟨by rw [List.drop_of_length_le (by rw [List.length_take]; exact Nat.min_le_left _ _)]; rfl⟩, rfl⟩
     case round =>
      obtain ⟨i, v, rfl, rfl, hst, hik, HV, rfl⟩ := hrel
      have hv : v < 10000 := by
       have h := dv_lt ((b.data.toList.take i).drop st) (fun c hc => HDG.out c (List.mem_of_mem_take (List.mem_of_mem_drop hc)))
       have hl : ((b.data.toList.take i).drop st).length ≤ 4 := by rw [List.length_drop, List.length_take]; omega
       have h2 := Nat.pow_le_pow_right (n := 10) (by decide) hl
       have := HV.out
       omega
      by_cases hlt : (i : Int) < k
      ·have hib : i < b.size := by omega
       obtain ⟨d, hd⟩ : ∃ d : Nat, (b[i]'hib).toNat = d := ⟨_, rfl⟩
       have hxd : ∀ h : i < b.size, ((b[i]'h).toNat : Int) = (d : Int) := fun h => by rw [hd]
       have hil : i < b.data.toList.length := by rw [hbl]; exact hib
       have hdl : (b.data.toList[i]'hil).toNat = d := by rw [← hd]; simp; rfl
       have hd2 : 48 ≤ d ∧ d ≤ 57 := by rw [← hdl]; exact HDG.out _ (List.getElem_mem _)
       have HN : Aside0 (10 * v + (d - 48) = dv ((b.data.toList.take (i + 1)).drop st)) := ⟨by rw [dv_piece hil hst, hdl, ← HV.out]⟩
       have q7 : (i < b.size) = True := eq_true hib
       have q8 : ((i : Int) < (b.size : Int)) = True := eq_true (by omega)
       have u1 : IntKind.u8.wrap ((d : Int) - 48) = (d : Int) - 48 := by simp [IntKind.wrap, IntKind.bits, IntKind.signed]; omega
       have u1' : ((d : Int) - 48) % 256 = (d : Int) - 48 := by omega
       have u2 : IntKind.i64.wrap ((d : Int) - 48) = (d : Int) - 48 := IntWalk.i64_in _ (by omega)
       have u3 : IntKind.i64.wrap (10 * (v : Int)) = 10 * (v : Int) := IntWalk.i64_in _ (by omega)
       have u4 : IntKind.i64.wrap (10 * (v : Int) + ((d : Int) - 48)) = 10 * (v : Int) + ((d : Int) - 48) := IntWalk.i64_in _ (by omega)
       have e1 : IntKind.i64.wrap ((i : Int) + 1) = ((i + 1 : Nat) : Int) := by rw [IntWalk.i64_in _ (by omega)]; omega
       clear hd hdl hil
       go_wp2
       go_roundw
       case rel => exact ⟨i + 1, 10 * v + (d - 48), congrArg (Value.int .i64) (by omega), by first | rfl | go_num, by omega, by omega, HN, by first | rfl | trivial⟩
       case measure => simp [intOf]; omega
      ·have hik2 : i = k.toNat := by omega
       subst hik2
       clear hlt hst hik
       go_wp2_with (first | ((with_reducible refine gate_builtin (b := .append) (xs := #[.tmp 36, .tmp 38]) rfl ?_); at_builtin; (refine Kd.R_append (Kd.int .i64) (w0 := wr) (w.heap.size + 2) rfl (.tmp 36) (.tmp 38) 75 3 (.int .i64 0) 8 rfl Tryz.underlying75 rinfo rfl (by decide) (by omega) (.slice A out.length c) (li out) (v : Int) [.int .i64 (v : Int)] (fun _ => True) (fun _ => False) rfl rfl ?aP (fun _ hk => hk.elim) ?aF ?aO ?aB ?aS ?aL ?_; (case aP => exact rfl); (case aB => exact Below.refl _ _); (case aF => exact (fun _ _ => trivial)); (case aO => exact HM.out.2.2); (case aS => exact HB.out.2); (case aL => rw [li_len]; omega); intro v38 w8 ho hb hg hat; obtain ⟨A2, c2, e2⟩ := Kd.R_slice ho; subst e2; have HO2 := Aside0.mk ho; have HB2 := Aside0.mk hb; have HG8 := Aside0.mk (BG.low HM.out.1 (by omega) hb); have HG0 := Aside0.mk (BG.low HM.out.2.1 (by omega) hb); have y1 := HG8.out.cell1; have y2 := HG8.out.fr 1; clear ho hb hg hat)))
       go_roundw
       case rel =>
        refine ⟨k - 4, out ++ [v], A2, c2, by first | rfl | go_num, by omega, by omega, ⟨?_⟩, ⟨?_, HG0.out.other (by omega) _ _, ?_⟩, ⟨?_, ?_⟩⟩
        ·(exact ⟨⟨fun _ => by have := HK.out.1.1 (by omega); simp; omega, by have := HK.out.1.1 (by omega); simp; omega⟩, fun e he => (List.mem_append.1 he).elim (HK.out.2.1 e) (fun he => by rw [List.mem_singleton.1 he]; exact hv), by have hc := dv_cut (l := b.data.toList) (i := st) (j := k.toNat) (by omega) (by omega); have h := HK.out.2.2; rw [hc] at h; have hp := parse_step h (by rw [List.length_drop, List.length_take]; rw [show min k.toNat b.data.toList.length - st = 4 by omega]); rw [HV.out, show (k - 4).toNat = st by omega]; exact hp⟩)
        ·have h := HG8.out.put1 A2 ((li out).length + 1) c2
         rw [show (out ++ [v]).length = (li out).length + 1 by rw [li_len]; simp]
         exact h
        ·have h := Kd.R_set HO2.out HG8.out (by decide) 1 (.slice A2 ((li out).length + 1) c2)
         rw [show (out ++ [v]).length = (li out ++ [(v : Int)]).length by rw [List.length_append, List.length_append, li_len]; rfl, li_snoc]
         exact h
        ·exact (HB.out.1.trans (HB2.out.mono (by omega))).setCell (p := ⟨w.heap.size + 1, 1, none⟩) (by simp) _
        ·have := HB2.out.size; have := HB.out.2; simp; omega
       case measure => simp [intOf]; omega
    ·have e4 : IntKind.i64.wrap (k - 4) = k - 4 := IntWalk.i64_in _ (by omega)
     have g5 : max (0 : Int) (k - 4) = 0 := by omega
     have g4 : ¬ (0 : Int) < k - 4 := by omega
     obtain ⟨st, hst0⟩ : ∃ st : Nat, st = 0 := ⟨_, rfl⟩
     have hst4 : k.toNat ≤ st + 4 ∧ (st : Int) = 0 := by omega
     go_wp2
     go_loopw [5, 6] (fun v5 v6 W => ∃ (i v : Nat), v5 = .int .i64 (v : Int) ∧ v6 = .int .i64 (i : Int) ∧ st ≤ i ∧ (i : Int) ≤ k ∧ Aside0 (v = dv ((b.data.toList.take i).drop st)) ∧ W = X) (fun _ v6 _ => k.toNat - (intOf v6).toNat)
     case atStart => exact ⟨st, 0, rfl, by first | rfl | (exact congrArg (Value.int .i64) (by omega)), Nat.le_refl _, by omega, ⟨by rw [List.drop_of_length_le (by rw [List.length_take]; exact Nat.min_le_left _ _)]; rfl⟩, rfl⟩
     case round =>
      obtain ⟨i, v, rfl, rfl, hst, hik, HV, rfl⟩ := hrel
      have hv : v < 10000 := by
       have h := dv_lt ((b.data.toList.take i).drop st) (fun c hc => HDG.out c (List.mem_of_mem_take (List.mem_of_mem_drop hc)))
       have hl : ((b.data.toList.take i).drop st).length ≤ 4 := by rw [List.length_drop, List.length_take]; omega
       have h2 := Nat.pow_le_pow_right (n := 10) (by decide) hl
       have := HV.out
       omega
      by_cases hlt : (i : Int) < k
      ·have hib : i < b.size := by omega
       obtain ⟨d, hd⟩ : ∃ d : Nat, (b[i]'hib).toNat = d := ⟨_, rfl⟩
       have hxd : ∀ h : i < b.size, ((b[i]'h).toNat : Int) = (d : Int) := fun h => by rw [hd]
       have hil : i < b.data.toList.length := by rw [hbl]; exact hib
       have hdl : (b.data.toList[i]'hil).toNat = d := by rw [← hd]; simp; rfl
       have hd2 : 48 ≤ d ∧ d ≤ 57 := by rw [← hdl]; exact HDG.out _ (List.getElem_mem _)
       have HN : Aside0 (10 * v + (d - 48) = dv ((b.data.toList.take (i + 1)).drop st)) := ⟨by rw [dv_piece hil hst, hdl, ← HV.out]⟩
       have q7 : (i < b.size) = True := eq_true hib
       have q8 : ((i : Int) < (b.size : Int)) = True := eq_true (by omega)
       have u1 : IntKind.u8.wrap ((d : Int) - 48) = (d : Int) - 48 := by simp [IntKind.wrap, IntKind.bits, IntKind.signed]; omega
       have u1' : ((d : Int) - 48) % 256 = (d : Int) - 48 := by omega
       have u2 : IntKind.i64.wrap ((d : Int) - 48) = (d : Int) - 48 := IntWalk.i64_in _ (by omega)
       have u3 : IntKind.i64.wrap (10 * (v : Int)) = 10 * (v : Int) := IntWalk.i64_in _ (by omega)
       have u4 : IntKind.i64.wrap (10 * (v : Int) + ((d : Int) - 48)) = 10 * (v : Int) + ((d : Int) - 48) := IntWalk.i64_in _ (by omega)
       have e1 : IntKind.i64.wrap ((i : Int) + 1) = ((i + 1 : Nat) : Int) := by rw [IntWalk.i64_in _ (by omega)]; omega
       clear hd hdl hil
       go_wp2
       go_roundw
       case rel => exact ⟨i + 1, 10 * v + (d - 48), congrArg (Value.int .i64) (by omega), by first | rfl | go_num, by omega, by omega, HN, by first | rfl | trivial⟩
       case measure => simp [intOf]; omega
      ·have hik2 : i = k.toNat := by omega
       subst hik2
       clear hlt hst hik
       go_wp2_with (first | ((with_reducible refine gate_builtin (b := .append) (xs := #[.tmp 36, .tmp 38]) rfl ?_); at_builtin; (refine Kd.R_append (Kd.int .i64) (w0 := wr) (w.heap.size + 2) rfl (.tmp 36) (.tmp 38) 75 3 (.int .i64 0) 8 rfl Tryz.underlying75 rinfo rfl (by decide) (by omega) (.slice A out.length c) (li out) (v : Int) [.int .i64 (v : Int)] (fun _ => True) (fun _ => False) rfl rfl ?aP (fun _ hk => hk.elim) ?aF ?aO ?aB ?aS ?aL ?_; (case aP => exact rfl); (case aB => exact Below.refl _ _); (case aF => exact (fun _ _ => trivial)); (case aO => exact HM.out.2.2); (case aS => exact HB.out.2); (case aL => rw [li_len]; omega); intro v38 w8 ho hb hg hat; obtain ⟨A2, c2, e2⟩ := Kd.R_slice ho; subst e2; have HO2 := Aside0.mk ho; have HB2 := Aside0.mk hb; have HG8 := Aside0.mk (BG.low HM.out.1 (by omega) hb); have HG0 := Aside0.mk (BG.low HM.out.2.1 (by omega) hb); have y1 := HG8.out.cell1; have y2 := HG8.out.fr 1; clear ho hb hg hat)))
       go_roundw
       case rel =>
        refine ⟨k - 4, out ++ [v], A2, c2, by first | rfl | go_num, by omega, by omega, ⟨?_⟩, ⟨?_, HG0.out.other (by omega) _ _, ?_⟩, ⟨?_, ?_⟩⟩
        ·(exact ⟨⟨fun h => by omega, by have := HK.out.1.1 (by omega); simp; omega⟩, fun e he => (List.mem_append.1 he).elim (HK.out.2.1 e) (fun he => by rw [List.mem_singleton.1 he]; exact hv), by have h := HK.out.2.2; have hp := parse_last h; rw [HV.out, show (k - 4).toNat = 0 by omega, hst0]; simpa [dv] using hp⟩)
        ·have h := HG8.out.put1 A2 ((li out).length + 1) c2
         rw [show (out ++ [v]).length = (li out).length + 1 by rw [li_len]; simp]
         exact h
        ·have h := Kd.R_set HO2.out HG8.out (by decide) 1 (.slice A2 ((li out).length + 1) c2)
         rw [show (out ++ [v]).length = (li out ++ [(v : Int)]).length by rw [List.length_append, List.length_append, li_len]; rfl, li_snoc]
         exact h
        ·exact (HB.out.1.trans (HB2.out.mono (by omega))).setCell (p := ⟨w.heap.size + 1, 1, none⟩) (by simp) _
        ·have := HB2.out.size; have := HB.out.2; simp; omega
       case measure => simp [intOf]; omega
   ·have hV : val QQ out = dv b.data.toList := by
     have h := HK.out.2.2
     rw [show k.toNat = 0 by omega] at h
     simpa [dv] using h
    have HR : Aside0 (RL X A out.length out ∧ out.length ≤ c ∧ (∀ d ∈ out, d < QQ)) := ⟨by
     have h := Kd.R_reads' HM.out.2.2
     rw [li_len] at h
     exact ⟨h.2.2, h.2.1, HK.out.2.1⟩⟩
    have HVV := Aside0.mk hV
    have HO := Aside0.mk HM.out.2.1
    clear hV HK hk1 hk2
    go_wp2_with (go_at_call 137; (with_reducible refine (rtrim_sign HR.out.1 HR.out.2.1 HR.out.2.2 _).mono ?_); rintro e wm ⟨k6, g6, rfl, hg6, hk6, hm6, hbq⟩; have HG6 := Aside0.mk (And.intro hg6 hk6); clear hg6 hk6; have HO2 := Aside0.mk (HO.out.below hbq); have hm6 := Aside0.mk hm6; have HBQ := Aside0.mk hbq; clear hbq; have q0 := HO2.out.cell0; have q1 := HO2.out.cell1; have q4 := HO2.out.fr 0; have q5 := HO2.out.fr 1)
    refine bodyPost_ret (v := .agg #[.bool g6, .slice A k6 c]) (by simp [results, Tryz.results72, go_sem, q0, q1]) rfl (RX.of (n := val QQ out) rfl ?_ HG6.out.2 ?_ ?_ ?_)
    ·rw [HG6.out.1, HVV.out]; exact HI.out.1
    ·exact HVV.out.trans HI.out.2.symm
    ·exact (hm6.out.bg HO2.out 0 _).bg (HO2.out.put0 _) 1 _
    ·exact ((HB.out.1.trans (HBQ.out.mono (Nat.le_trans (by omega) HB.out.2))).setCell (by simp) _).setCell (by simp) _
end
section
open Go.Proofs.YtillgofjlpjbcaaGreatDoorW.PrintLast Go.Proofs.YtillgofjlpjbcaaGreatDoorW.PrintMore Go.Proofs.YtillgofjlpjbcaaGreatDoorW.PrintWords Go.RowKit Go.Shelf
open Go.Lib (decDigits itoa)
theorem rinfo8 : (Tryz.prog.info? 5).map (fun i => (i.zero, i.size, i.bytes)) = some (some (.int .u8 0), 1, 1) := by kernel_rfl
/-- Bytes as the ints of a slice's cells. -/
def bi (l : List UInt8) : List Int := l.map fun c => (c.toNat : Int)
theorem bi_len (l : List UInt8) : (bi l).length = l.length := by simp [bi]
theorem bi_snoc (l : List UInt8) (c : UInt8) : bi (l ++ [c]) = bi l ++ [(c.toNat : Int)] := by simp [bi]
theorem bi_string (l : List UInt8) : strOfNums (bi l) = ⟨l.toArray⟩ := by
 unfold strOfNums bi
 simp only [List.map_map]
 rw [(List.map_congr_left (g := id) (fun c _ => by simp [Function.comp])).trans (List.map_id l)]
theorem dig_nat {r : Nat} (h : r < 10) : (UInt8.ofNat (48 + r)).toNat = 48 + r := by rw [UInt8.toNat_ofNat', Nat.mod_eq_of_lt (by omega)]
theorem wd_cell {w0 W : World} {b m l : Nat} {g cap : Nat} (h : Kd.R (Kd.int .u8) 5 W b (fun _ => True) (.slice (some ⟨g, 0, none⟩) l cap) (bi (rdig m l))) {k : Nat} (hk : k < l) : W.cell? ⟨g, k, none⟩ = some (.int .u8 ((48 + m / 10 ^ k % 10 : Nat) : Int)) := by
 have hx := (Kd.R_celln (enc := Value.int .u8) (h1 := fun _ => rfl) (0 : Int) h (k : Int) (by omega) (by omega)).1
 rw [Int.toNat_natCast] at hx
 rw [hx]
 congr 2
 show rdOf 0 (bi (rdig m l)) (k : Int) = _
 unfold rdOf bi
 have e : (rdig m l)[k]? = some (UInt8.ofNat (48 + m / 10 ^ k % 10)) := by
  simp [rdig, hk]
 simp only [Int.toNat_natCast, List.getD_eq_getElem?_getD, List.getElem?_map, e]
 simp only [Option.map_some, Option.getD_some]
 rw [dig_nat (Nat.mod_lt _ (by decide))]
theorem rWrite_nz {w : World} {A : Option Addr} {L c m : Nat} {neg : Bool} (h : RM w A L m) (h0 : 0 < m) (hL : L ≤ 20000) :
 Calls Tryz.prog 69 #[.agg #[.bool neg, .slice A L c]] w fun e w' => e = .returned (.string ⟨((if neg = true then [45] else []) ++ decDigits m).toArray⟩) ∧ Below w.heap.size w w' := by
 have H1 := h.at_below
 have hl0 : ¬ L = 0 := fun e => by have := h.len_zero.1 e; omega
 have g0 : ((L : Int) == 0) = false := by simp; omega
 have HD : Aside0 ((decDigits m).length ≤ 4 * L) := ⟨by
  have h2 := dg_lt_pow QQ1 m
  rw [h.len, show QQ ^ L = 10 ^ (4 * L) by rw [Nat.pow_mul]] at h2
  exact dec_len _ _ (by omega) h2⟩
 clear h
 go_enter Tryz.func69, Tryz.ntmps69
 go_wp2_with fail
 obtain ⟨wa, hwa⟩ : ∃ wa, w.alloc (.cells #[.bool neg, .slice A L c] 77) = wa := ⟨_, rfl⟩
 have HA : Aside0 (Below w.heap.size w wa ∧ wa.heap.size = w.heap.size + 1 ∧ BG wa w.heap.size neg A L c) := ⟨by subst hwa; exact below_alloc (Below.refl _ _) _, by subst hwa; simp, by subst hwa; exact BG.new w _ _ _ _⟩
 rw [hwa]
 clear hwa
 go_loopw [3, 4] (fun v3 v4 W => ∃ i : Nat, v4 = .int .i64 (i : Int) ∧ i ≤ L ∧ Aside0 (Kd.R (Kd.int .u8) 5 W (w.heap.size + 1) (fun _ => True) v3 (bi (rdig m (4 * i)))) ∧ Aside0 (Below (w.heap.size + 1) wa W)) (fun _ v4 _ => L - (intOf v4).toNat)
 case atStart => exact ⟨0, rfl, Nat.zero_le _, ⟨Kd.R_nil _ _ _ _ _⟩, ⟨Below.refl _ _⟩⟩
 case round =>
  obtain ⟨i, rfl, hi, HO, HB⟩ := hrel
  have x1 : wr.cell? ⟨w.heap.size, 1, none⟩ = some (.slice A L c) := (HB.out.cell (p := ⟨w.heap.size, 1, none⟩) (by simp)).trans HA.out.2.2.cell1
  by_cases hlt : i < L
  ·obtain ⟨ad, hA, hc⟩ := (H1.out _ (HA.out.1.trans (HB.out.mono (by omega)))).at hlt
   subst hA
   obtain ⟨d, hd⟩ : ∃ d, m / QQ ^ i % QQ = d := ⟨_, rfl⟩
   rw [hd] at hc
   have HDD := Aside0.mk hd
   have g1 : (i : Int) < (L : Int) := by omega
   clear hd
   go_wp2
   clear x1 hc
   go_loopw [3, 5, 6] (fun v3 v5 v6 W => ∃ k d : Nat, v5 = .int .i64 (d : Int) ∧ v6 = .int .i64 (k : Int) ∧ k ≤ 4 ∧ d ≤ 10000 ∧ Aside0 (m / QQ ^ i % QQ / 10 ^ k = d) ∧ Aside0 (Kd.R (Kd.int .u8) 5 W (w.heap.size + 1) (fun _ => True) v3 (bi (rdig m (4 * i + k)))) ∧ Aside0 (Below (w.heap.size + 1) wa W)) (fun _ _ v6 _ => 4 - (intOf v6).toNat)
   case atStart => exact ⟨0, d, rfl, rfl, by omega, by have := Nat.mod_lt (m / QQ ^ i) (show 0 < QQ by decide); have := HDD.out; unfold QQ at *; omega, ⟨by rw [HDD.out]; simp⟩, HO, HB⟩
   case round =>
    clear HDD HO HB
    obtain ⟨k, d, rfl, rfl, hk, hd4, HDD, HO, HB⟩ := hrel
    by_cases hk4 : k < 4
    ·have g2 : (k : Int) < 4 := by omega
     have HC : Aside0 (d % 10 = m / 10 ^ (4 * i + k) % 10 ∧ m / QQ ^ i % QQ / 10 ^ (k + 1) = d / 10) := ⟨by rw [← HDD.out]; exact limb_digit m i k hk4, by rw [Nat.pow_succ, ← Nat.div_div_eq_div_mul, HDD.out]⟩
     have u1 : IntKind.u8.wrap (48 + (d : Int) % 10) = 48 + (d : Int) % 10 := by simp [IntKind.wrap, IntKind.bits, IntKind.signed]; omega
     have u2 : (48 + (d : Int) % 10) % 256 = 48 + (d : Int) % 10 := by omega
     have e1 : IntKind.i64.wrap ((k : Int) + 1) = ((k + 1 : Nat) : Int) := by rw [IntWalk.i64_in _ (by omega)]; omega
     go_wp2_with (first | ((with_reducible refine gate_builtin (b := .append) (xs := #[.tmp 30, .tmp 35]) rfl ?_); at_builtin; (refine Kd.R_append (Kd.int .u8) (w0 := wa) (w.heap.size + 1) rfl (.tmp 30) (.tmp 35) 146 5 (.int .u8 0) 1 rfl Tryz.underlying146 rinfo8 rfl (by decide) (by omega) u3 (bi (rdig m (4 * i + k))) (48 + (d : Int) % 10) [.int .u8 (48 + (d : Int) % 10)] (fun _ => True) (fun _ => False) rfl rfl ?aP (fun _ hk => hk.elim) ?aF ?aO ?aB ?aS ?aL ?_; (case aP => exact rfl); (case aB => exact HB.out); (case aF => exact (fun _ _ => trivial)); (case aO => exact HO.out); (case aS => exact (by have := HA.out.2.1; have := HB.out.size; omega)); (case aL => rw [bi_len]; (rw [rdig_len]; omega)); intro v38 w8 ho hb hg hat; have HO2 := Aside0.mk ho; have HB2 := Aside0.mk hb; clear ho hb hg hat)))
     go_roundw
     case rel =>
      refine ⟨k + 1, d / 10, congrArg (Value.int .i64) (by omega), by first | rfl | go_num, hk4, by omega, ⟨HC.out.2⟩, ⟨?_⟩, HB2⟩
      rw [show 4 * i + (k + 1) = (4 * i + k) + 1 from rfl, rdig_succ, bi_snoc, dig_nat (Nat.mod_lt _ (by decide)), ← HC.out.1]
      rw [show ((48 + d % 10 : Nat) : Int) = 48 + (d : Int) % 10 by omega]
      exact HO2.out
     case measure => simp [intOf]; omega
    ·obtain rfl : k = 4 := by omega
     have e1 : IntKind.i64.wrap ((i : Int) + 1) = ((i + 1 : Nat) : Int) := by rw [IntWalk.i64_in _ (by omega)]; omega
     go_wp2
     go_roundw
     case rel => exact ⟨i + 1, by first | rfl | go_num, hlt, HO, HB⟩
     case measure => simp [intOf]; omega
  ·obtain rfl : i = L := by omega
   clear hi hlt
   obtain ⟨g, cap, hv, hgb, hgl, _⟩ := Kd.R_form HO.out (by rw [bi_len, rdig_len]; omega)
   rw [bi_len, rdig_len] at hv
   subst hv
   have HC : Aside0 (∀ k, k < 4 * i → wr.cell? ⟨g, k, none⟩ = some (.int .u8 ((48 + m / 10 ^ k % 10 : Nat) : Int))) := ⟨fun k hk => wd_cell (w0 := w) HO.out hk⟩
   have HW : Aside0 (Below w.heap.size w wr) := ⟨HA.out.1.trans (HB.out.mono (by omega))⟩
   have x0 : wr.cell? ⟨w.heap.size, 0, none⟩ = some (.bool neg) := (HB.out.cell (p := ⟨w.heap.size, 0, none⟩) (by simp)).trans HA.out.2.2.cell0
   have XX := Aside0.mk x0
   obtain ⟨X, rfl⟩ : ∃ X, X = wr := ⟨_, rfl⟩
   clear HO HB hgb
   go_wp2
   clear x0 x1
   go_loopw [7] (fun v7 W => ∃ n : Nat, v7 = .int .i64 (n : Int) ∧ n ≤ 4 * i ∧ Aside0 ((decDigits m).length ≤ n) ∧ W = X) (fun v7 _ => (intOf v7).toNat)
   case atStart => exact ⟨4 * i, by first | rfl | (exact congrArg (Value.int .i64) (by omega)), Nat.le_refl _, ⟨HD.out⟩, rfl⟩
   case round =>
    obtain ⟨n, rfl, hn, HN, rfl⟩ := hrel
    have hp := dec_pos m
    have hn1 : 1 ≤ n := by have := HN.out; omega
    have hcell := HC.out (n - 1) (by omega)
    obtain ⟨d, hd⟩ : ∃ d, m / 10 ^ (n - 1) % 10 = d := ⟨_, rfl⟩
    rw [hd] at hcell
    have hd9 : d < 10 := by rw [← hd]; exact Nat.mod_lt _ (by decide)
    have HDD := Aside0.mk hd
    have s1 : IntKind.i64.wrap ((n : Int) - 1) = ((n - 1 : Nat) : Int) := by rw [IntWalk.i64_in _ (by omega)]; omega
    have s2 : ((n - 1 : Nat) : Int) < ((4 * i : Nat) : Int) := by omega
    have s3 : ((n - 1 : Nat) : Int) < 4 * (i : Int) := by omega
    clear hd hp
    by_cases hdz : d = 0
    ·subst hdz
     have g6 : (((48 + 0 : Nat) : Int) == 48) = true := by decide
     go_wp2
     go_roundw
     case rel => exact ⟨n - 1, by first | rfl | go_num, by omega, ⟨by
      have h1 := HN.out
      rcases Nat.eq_or_lt_of_le h1 with h2 | h2
      ·exact absurd (by rw [h2]; exact HDD.out) (dec_at h0)
      ·omega⟩, by first | rfl | trivial⟩
     case measure => simp [intOf]; omega
    ·have g6 : (((48 + d : Nat) : Int) == 48) = false := by rw [beq_eq_false_iff_ne]; omega
     have g7 : ((48 + (d : Int)) == 48) = false := by rw [beq_eq_false_iff_ne]; omega
     have HE : Aside0 (n = (decDigits m).length) := ⟨dec_stop h0 HN.out (by rw [HDD.out]; exact hdz)⟩
     have x0 := XX.out
     cases neg
     ·skip
      obtain ⟨X, rfl⟩ : ∃ X, X = wr := ⟨_, rfl⟩
      go_wp2
      clear hcell
      go_loopw [8, 9] (fun v8 v9 W => ∃ j : Nat, v9 = .int .i64 ((n : Int) - 1 - (j : Int)) ∧ j ≤ n ∧ Aside0 (Kd.R (Kd.int .u8) 5 W X.heap.size (fun _ => True) v8 (bi (([] : List UInt8) ++ (decDigits m).take j))) ∧ Aside0 (Below X.heap.size X W)) (fun _ v9 _ => (intOf v9 + 1).toNat)
      case atStart => exact ⟨0, by first | rfl | (exact congrArg (Value.int .i64) (by omega)), Nat.zero_le _, ⟨Kd.R_nil _ _ _ _ _⟩, ⟨Below.refl _ _⟩⟩
      case round =>
       obtain ⟨j, rfl, hj, HO, HB⟩ := hrel
       by_cases hjn : j < n
       ·have hcell := HC.out (n - 1 - j) (by omega)
        replace hcell := (HB.out.cell (World.block_lt_of_cell? X _ hcell)).trans hcell
        obtain ⟨d, hd⟩ : ∃ d, m / 10 ^ (n - 1 - j) % 10 = d := ⟨_, rfl⟩
        rw [hd] at hcell
        have HX : Aside0 (bi (([] : List UInt8) ++ (decDigits m).take (j + 1)) = bi (([] : List UInt8) ++ (decDigits m).take j) ++ [((48 + d : Nat) : Int)]) := ⟨by
         have hjl : j < (decDigits m).length := by have := HE.out; omega
         have he : (decDigits m)[j]'hjl = UInt8.ofNat (48 + m / 10 ^ (n - 1 - j) % 10) := by
          have h1 : (decDigits m)[j]? = ((rdig m n).reverse)[j]? := by rw [HE.out, ← dec_take]
          rw [List.getElem?_reverse (by rw [rdig_len]; omega), rdig_len, List.getElem?_eq_getElem hjl] at h1
          have hk : n - 1 - j < n := by omega
          have h2 : (rdig m n)[n - 1 - j]? = some (UInt8.ofNat (48 + m / 10 ^ (n - 1 - j) % 10)) := by simp [rdig, hk]
          rw [h2] at h1
          exact Option.some.inj h1
         rw [List.take_succ_eq_append_getElem hjl, ← List.append_assoc, bi_snoc, he, hd, dig_nat (by rw [← hd]; exact Nat.mod_lt _ (by decide))]⟩
        have s1 : (0 : Int) ≤ (n : Int) - 1 - (j : Int) := by omega
        have s2 : ((n : Int) - 1 - (j : Int)).toNat = n - 1 - j := by omega
        have s3 : (n : Int) - 1 - (j : Int) < 4 * (i : Int) := by omega
        have s4 : IntKind.i64.wrap ((n : Int) - 1 - (j : Int) - 1) = (n : Int) - 1 - (j : Int) - 1 := IntWalk.i64_in _ (by omega)
        clear hd
        go_wp2_with (first | ((with_reducible refine gate_builtin (b := .append) (xs := #[.tmp 60, .tmp 65]) rfl ?_); at_builtin; (refine Kd.R_append (Kd.int .u8) (w0 := X) (X.heap.size) rfl (.tmp 60) (.tmp 65) 146 5 (.int .u8 0) 1 rfl Tryz.underlying146 rinfo8 rfl (by decide) (by omega) u8 (bi (([] : List UInt8) ++ (decDigits m).take j)) (((48 + d : Nat) : Int)) [.int .u8 (((48 + d : Nat) : Int))] (fun _ => True) (fun _ => False) rfl rfl ?aP (fun _ hk => hk.elim) ?aF ?aO ?aB ?aS ?aL ?_; (case aP => exact rfl); (case aB => exact HB.out); (case aF => exact (fun _ _ => trivial)); (case aO => exact HO.out); (case aS => exact HB.out.size); (case aL => rw [bi_len]; (rw [List.length_append, List.length_take]; simp; omega)); intro v38 w8 ho hb hg hat; have HO2 := Aside0.mk ho; have HB2 := Aside0.mk hb; clear ho hb hg hat)))
        go_roundw
        case rel => exact ⟨j + 1, congrArg (Value.int .i64) (by omega), hjn, ⟨by rw [HX.out]; exact HO2.out⟩, HB2⟩
        case measure => simp [intOf]; omega
       ·obtain rfl : j = n := by omega
        have g8 : ¬ (0 : Int) ≤ (j : Int) - 1 - (j : Int) := by omega
        obtain ⟨A5, c5, e5, hc5, hrd⟩ := Kd.R_reads HO.out
        rw [HE.out, List.take_length] at hrd e5
        generalize hLL : (([] : List UInt8) ++ decDigits m) = LL at hrd e5
        have HLL := Aside0.mk hLL
        clear hLL
        have hst := Kd.C_string (P := Tryz.prog) (c := c5) Tryz.underlying146 Tryz.underlying5 Tryz.underlying9 hrd
        rw [bi_string] at hst
        subst e5
        clear hrd hc5
        go_wp2
        go_ret
        exact ⟨by rw [← HLL.out]; rfl, HW.out.trans (HB.out.mono HW.out.size)⟩
     ·skip
      obtain ⟨X, rfl⟩ : ∃ X, X = wr := ⟨_, rfl⟩
      have HO : Aside0 (Kd.R (Kd.int .u8) 5 X X.heap.size (fun _ => True) (.slice none 0 0) (bi [])) := ⟨Kd.R_nil _ _ _ _ _⟩
      have HB : Aside0 (Below X.heap.size X X) := ⟨Below.refl _ _⟩
      go_wp2_with (first | ((with_reducible refine gate_builtin (b := .append) (xs := #[.tmp 51, .tmp 52]) rfl ?_); at_builtin; (refine Kd.R_append (Kd.int .u8) (w0 := X) (X.heap.size) rfl (.tmp 51) (.tmp 52) 146 5 (.int .u8 0) 1 rfl Tryz.underlying146 rinfo8 rfl (by decide) (by omega) (.slice none 0 0) (bi []) (45) [.int .u8 (45)] (fun _ => True) (fun _ => False) rfl rfl ?aP (fun _ hk => hk.elim) ?aF ?aO ?aB ?aS ?aL ?_; (case aP => exact rfl); (case aB => exact HB.out); (case aF => exact (fun _ _ => trivial)); (case aO => exact HO.out); (case aS => exact (Nat.le_refl _)); (case aL => rw [bi_len]; (simp)); intro v38 w8 ho hb hg hat; have HO2 := Aside0.mk ho; have HB2 := Aside0.mk hb; clear ho hb hg hat)))
      go_loopw [8, 9] (fun v8 v9 W => ∃ j : Nat, v9 = .int .i64 ((n : Int) - 1 - (j : Int)) ∧ j ≤ n ∧ Aside0 (Kd.R (Kd.int .u8) 5 W X.heap.size (fun _ => True) v8 (bi (([45] : List UInt8) ++ (decDigits m).take j))) ∧ Aside0 (Below X.heap.size X W)) (fun _ v9 _ => (intOf v9 + 1).toNat)
      case atStart => exact ⟨0, by first | rfl | (exact congrArg (Value.int .i64) (by omega)), Nat.zero_le _, HO2, HB2⟩
      case round =>
       obtain ⟨j, rfl, hj, HO, HB⟩ := hrel
       by_cases hjn : j < n
       ·have hcell := HC.out (n - 1 - j) (by omega)
        replace hcell := (HB.out.cell (World.block_lt_of_cell? X _ hcell)).trans hcell
        obtain ⟨d, hd⟩ : ∃ d, m / 10 ^ (n - 1 - j) % 10 = d := ⟨_, rfl⟩
        rw [hd] at hcell
        have HX : Aside0 (bi (([45] : List UInt8) ++ (decDigits m).take (j + 1)) = bi (([45] : List UInt8) ++ (decDigits m).take j) ++ [((48 + d : Nat) : Int)]) := ⟨by
         have hjl : j < (decDigits m).length := by have := HE.out; omega
         have he : (decDigits m)[j]'hjl = UInt8.ofNat (48 + m / 10 ^ (n - 1 - j) % 10) := by
          have h1 : (decDigits m)[j]? = ((rdig m n).reverse)[j]? := by rw [HE.out, ← dec_take]
          rw [List.getElem?_reverse (by rw [rdig_len]; omega), rdig_len, List.getElem?_eq_getElem hjl] at h1
          have hk : n - 1 - j < n := by omega
          have h2 : (rdig m n)[n - 1 - j]? = some (UInt8.ofNat (48 + m / 10 ^ (n - 1 - j) % 10)) := by simp [rdig, hk]
          rw [h2] at h1
          exact Option.some.inj h1
         rw [List.take_succ_eq_append_getElem hjl, ← List.append_assoc, bi_snoc, he, hd, dig_nat (by rw [← hd]; exact Nat.mod_lt _ (by decide))]⟩
        have s1 : (0 : Int) ≤ (n : Int) - 1 - (j : Int) := by omega
        have s2 : ((n : Int) - 1 - (j : Int)).toNat = n - 1 - j := by omega
        have s3 : (n : Int) - 1 - (j : Int) < 4 * (i : Int) := by omega
        have s4 : IntKind.i64.wrap ((n : Int) - 1 - (j : Int) - 1) = (n : Int) - 1 - (j : Int) - 1 := IntWalk.i64_in _ (by omega)
        clear hd
        go_wp2_with (first | ((with_reducible refine gate_builtin (b := .append) (xs := #[.tmp 60, .tmp 65]) rfl ?_); at_builtin; (refine Kd.R_append (Kd.int .u8) (w0 := X) (X.heap.size) rfl (.tmp 60) (.tmp 65) 146 5 (.int .u8 0) 1 rfl Tryz.underlying146 rinfo8 rfl (by decide) (by omega) u8 (bi (([45] : List UInt8) ++ (decDigits m).take j)) (((48 + d : Nat) : Int)) [.int .u8 (((48 + d : Nat) : Int))] (fun _ => True) (fun _ => False) rfl rfl ?aP (fun _ hk => hk.elim) ?aF ?aO ?aB ?aS ?aL ?_; (case aP => exact rfl); (case aB => exact HB.out); (case aF => exact (fun _ _ => trivial)); (case aO => exact HO.out); (case aS => exact HB.out.size); (case aL => rw [bi_len]; (rw [List.length_append, List.length_take]; simp; omega)); intro v38 w8 ho hb hg hat; have HO2 := Aside0.mk ho; have HB2 := Aside0.mk hb; clear ho hb hg hat)))
        go_roundw
        case rel => exact ⟨j + 1, congrArg (Value.int .i64) (by omega), hjn, ⟨by rw [HX.out]; exact HO2.out⟩, HB2⟩
        case measure => simp [intOf]; omega
       ·obtain rfl : j = n := by omega
        have g8 : ¬ (0 : Int) ≤ (j : Int) - 1 - (j : Int) := by omega
        obtain ⟨A5, c5, e5, hc5, hrd⟩ := Kd.R_reads HO.out
        rw [HE.out, List.take_length] at hrd e5
        generalize hLL : (([45] : List UInt8) ++ decDigits m) = LL at hrd e5
        have HLL := Aside0.mk hLL
        clear hLL
        have hst := Kd.C_string (P := Tryz.prog) (c := c5) Tryz.underlying146 Tryz.underlying5 Tryz.underlying9 hrd
        rw [bi_string] at hst
        subst e5
        clear hrd hc5
        go_wp2
        go_ret
        exact ⟨by rw [← HLL.out]; rfl, HW.out.trans (HB.out.mono HW.out.size)⟩
theorem rWrite_calls {w : World} {A : Option Addr} {L c : Nat} {x : Int} (h : RM w A L x.natAbs) (hL : L ≤ 20000) :
 Calls Tryz.prog 69 #[rV A L c x] w fun e w' => e = .returned (.string (strI x)) ∧ Below w.heap.size w w' := by
 unfold rV
 by_cases h0 : x = 0
 ·subst h0
  have hl : L = 0 := h.len_zero.2 rfl
  subst hl
  rw [show strI 0 = ⟨#[48]⟩ by decide +kernel]
  go_enter Tryz.func69, Tryz.ntmps69
  go_wp2_with fail
  go_ret
  exact ⟨rfl, by repeat (first | exact Below.refl _ _ | apply below_alloc)⟩
 ·have hs : strI x = ⟨((if decide (x < 0) = true then [45] else []) ++ decDigits x.natAbs).toArray⟩ := by unfold strI; rw [itoa_abs]; simp
  rw [hs]
  exact rWrite_nz h (by omega) hL
end
section
open Go.Proofs.YtillgofjlpjbcaaGreatDoorW.PrintLast Go.Proofs.YtillgofjlpjbcaaGreatDoorW.PrintMore Go.Proofs.YtillgofjlpjbcaaGreatDoorW.PrintWords Go.RowKit Go.Shelf
theorem strI_size2 {x : Int} {k : Nat} (h : Dig k x) (hk : 0 < k) : (strI x).size ≤ k + 1 := by
 have h1 := dec_len k x.natAbs hk h
 show (Lib.itoa x).toArray.size ≤ _
 rw [itoa_abs]
 simp
 split <;> simp <;> omega
theorem written_check (x : Int) : checkI (strI x) = wrE x := by
 have hs : (⟨(Lib.decDigits x.natAbs).toArray⟩ : ByteArray).size = (Lib.decDigits x.natAbs).length := rfl
 unfold checkI
 rw [strI_body, strI_minus]
 rw [if_neg, if_neg]
 ·rfl
 ·rintro ⟨h1, h2⟩
  have h3 := dec_head _ h1
  rcases h2 with h2 | h2
  ·have := of_decide_eq_true h2; omega
  ·rw [hs, h3, dec_small (by omega)] at h2
   simp at h2
 ·have hp := dec_pos x.natAbs
  unfold digitsB
  rw [show (⟨(Lib.decDigits x.natAbs).toArray⟩ : ByteArray).data.toList = Lib.decDigits x.natAbs from rfl, dg_all (dec_digits _)]
  simp only [Bool.true_and]
  intro h0
  have := of_decide_eq_false h0
  omega
theorem check_digits {s : ByteArray} (h : checkI s = 0) : digitsB (bodyB s) = true := by
 cases hd : digitsB (bodyB s)
 ·unfold checkI at h
  rw [hd] at h
  simp at h
 ·rfl
theorem RM.dig {w : World} {A : Option Addr} {L k : Nat} {x : Int} (h : RM w A L x.natAbs) (hx : Dig k x) (j : Nat) (hk : k ≤ 4 * j) : L ≤ j := by
 refine h.bound (Nat.lt_of_lt_of_le hx ?_)
 rw [show QQ ^ j = 10 ^ (4 * j) by rw [Nat.pow_mul]]
 exact Nat.pow_le_pow_right (by decide) hk
theorem rresult_calls {w : World} {A : Option Addr} {L c : Nat} {x : Int} (h : RM w A L x.natAbs) (hx : Dig 4000 x) :
 Calls Tryz.prog 77 #[rV A L c x] w fun e w' => e = .returned (.tuple #[.string (wrS x), .int .i64 (wrE x)]) ∧ Below w.heap.size w w' := by
 have HW : Aside0 (∀ W, Below w.heap.size w W → Calls Tryz.prog 69 #[rV A L c x] W fun e w' => e = .returned (.string (strI x)) ∧ Below W.heap.size W w') := ⟨fun W hb => rWrite_calls (h.below hb) (Nat.le_trans (h.dig hx 1000 (by omega)) (by omega))⟩
 have HCX := Aside0.mk (fun W => rCheck_calls (strI x) (by have := strI_size2 hx (by omega); omega) W)
 rw [written_check] at HCX
 have HB := Aside0.mk (Below.refl w.heap.size w)
 have hw : wrS x = if wrE x = 0 then strI x else ⟨#[]⟩ := by unfold wrS wrE; split <;> simp
 rw [hw]
 unfold rV at *
 generalize decide (x < 0) = f at *
 generalize strI x = S at *
 generalize wrE x = E at *
 clear h hx hw
 by_cases h0 : E = 0
 ·subst h0
  rw [if_pos rfl]
  go_enter Tryz.func77, Tryz.ntmps77
  go_wp2_with (first | (go_at_call 69; (with_reducible refine (HW.out _ (by first | exact below_alloc (Below.refl _ _) _ | exact HB.out)).mono ?_); rintro e wx ⟨rfl, hbx⟩; have HB2 := Aside0.mk ((below_alloc HB.out _).trans (hbx.mono (by simp))); clear HB; have HB := HB2; clear HB2 hbx) | (go_at_call 13; (with_reducible refine (HCX.out _).mono ?_); rintro e wx ⟨rfl, hbx⟩; have HB2 := Aside0.mk (HB.out.trans (hbx.mono HB.out.size)); clear HB; have HB := HB2; clear HB2; clear hbx))
  go_ret2
  exact ⟨rfl, HB.out⟩
 ·have hbe : (E != 0) = true := by simp [h0]
  rw [if_neg h0]
  go_enter Tryz.func77, Tryz.ntmps77
  go_wp2_with (first | (go_at_call 69; (with_reducible refine (HW.out _ (by first | exact below_alloc (Below.refl _ _) _ | exact HB.out)).mono ?_); rintro e wx ⟨rfl, hbx⟩; have HB2 := Aside0.mk ((below_alloc HB.out _).trans (hbx.mono (by simp))); clear HB; have HB := HB2; clear HB2 hbx) | (go_at_call 13; (with_reducible refine (HCX.out _).mono ?_); rintro e wx ⟨rfl, hbx⟩; have HB2 := Aside0.mk (HB.out.trans (hbx.mono HB.out.size)); clear HB; have HB := HB2; clear HB2; clear hbx))
  go_ret2
  exact ⟨rfl, HB.out⟩
/-- An operation of the reference on two integers. -/
abbrev RO2 (F : FuncId) (x y z : Int) : Prop :=
 ∀ (W : World) (A1 : Option Addr) (k1 c1 : Nat) (A2 : Option Addr) (k2 c2 : Nat), k1 ≤ c1 → k2 ≤ c2 → RM W A1 k1 x.natAbs → RM W A2 k2 y.natAbs →
  Calls Tryz.prog F #[rV A1 k1 c1 x, rV A2 k2 c2 y] W fun e w' => RX W z e w'
section
variable {x y : Int} {k : Nat}
theorem ro2_plus (hx : Dig 4000 x) (hy : Dig 4000 y) : RO2 82 x y (x + y) := fun W A1 k1 c1 A2 k2 c2 _ _ h1 h2 => rPlus_calls h1 h2 (Nat.le_trans (h1.dig hx 1000 (by omega)) (by omega)) (Nat.le_trans (h2.dig hy 1000 (by omega)) (by omega))
theorem ro2_minus (hx : Dig 4000 x) (hy : Dig 4000 y) : RO2 84 x y (x - y) := fun W A1 k1 c1 A2 k2 c2 _ hc h1 h2 => rMinus_calls h1 h2 hc (Nat.le_trans (h1.dig hx 1000 (by omega)) (by omega)) (Nat.le_trans (h2.dig hy 1000 (by omega)) (by omega))
theorem ro2_times (hx : Dig 4000 x) (hy : Dig 4000 y) : RO2 86 x y (x * y) := fun W A1 k1 c1 A2 k2 c2 _ _ h1 h2 => rTimes_calls h1 h2 (by have := h1.dig hx 1000 (by omega); have := h2.dig hy 1000 (by omega); omega)
end
theorem rAdd_calls (a b : ByteArray) (ha : a.size ≤ 90000) (hb : b.size ≤ 90000) (w : World) :
 Calls Tryz.prog 22 #[.string a, .string b] w fun e w' => e = .returned (.tuple #[.string (biS (· + ·) a b), .int .i64 (biR (· + ·) a b)]) ∧ Below w.heap.size w w' := by
 unfold biS biR
 have HCa := Aside0.mk (fun W => rCheck_calls a (by omega) W)
 have HCb := Aside0.mk (fun W => rCheck_calls b (by omega) W)
 obtain ⟨E, hE⟩ : ∃ E, biE a b = E := ⟨_, rfl⟩
 rw [hE]
 have HFI := Aside0.mk (fun (W : World) (g : Nat) (hg : g = W.heap.size) (t : TypeId) => rfirst2_ret (checkI a) (checkI b) E hE W g hg t)
 have HB := Aside0.mk (Below.refl w.heap.size w)
 by_cases h0 : E = 0
 ·subst h0
  have hz := biE_zero hE
  have HRa := Aside0.mk (fun W => rRead_calls a ha (check_digits hz.1) W)
  have HRb := Aside0.mk (fun W => rRead_calls b hb (check_digits hz.2) W)
  have dx := intI_dig hz.1
  have dy := intI_dig hz.2
  clear hE hz
  generalize checkI a = ca at *
  generalize checkI b = cb at *
  generalize intI a = x at *
  generalize intI b = y at *
  have HO : Aside0 (RO2 82 x y (x + y)) := ⟨ro2_plus (dx.more (by omega)) (dy.more (by omega))⟩
  have HRS := Aside0.mk (fun W A k c hm => rresult_calls (w := W) (A := A) (L := k) (c := c) (x := x + y) hm ((dx.add dy 121 (by omega) (by omega)).more (by omega)))
  rw [if_pos rfl, if_pos rfl]
  (try dsimp only)
  generalize hz : (x + y : Int) = z at *
  clear hz dx dy
  generalize wrS z = S at *
  generalize wrE z = R at *
  go_enter Tryz.func22, Tryz.ntmps22
  go_wp2_with (first | (go_at_call 13; (with_reducible refine (HCa.out _).mono ?_); rintro e wx ⟨rfl, hbx⟩; have HB2 := Aside0.mk (HB.out.trans (hbx.mono HB.out.size)); clear HB; have HB := HB2; clear HB2; clear hbx) | (go_at_call 13; (with_reducible refine (HCb.out _).mono ?_); rintro e wx ⟨rfl, hbx⟩; have HB2 := Aside0.mk (HB.out.trans (hbx.mono HB.out.size)); clear HB; have HB := HB2; clear HB2; clear hbx) | (go_at_call 81; (with_reducible refine (HFI.out _ _ rfl _).mono ?_); rintro e wx ⟨rfl, hwx⟩; rw [hwx]; clear hwx wx; have HB2 := Aside0.mk (below_alloc HB.out (.cells #[.int .i64 ca, .int .i64 cb] 3)); clear HB; have HB := HB2; clear HB2) | (go_at_call 72; (with_reducible refine (HRa.out _).mono ?_); rintro e wx ⟨A1, k1, c1, rfl, hk1, hm1, hbx⟩; have HM1 := Aside0.mk (And.intro hk1 hm1); have HB2 := Aside0.mk (HB.out.trans (hbx.mono HB.out.size)); clear HB; have HB := HB2; clear HB2; clear hbx hk1 hm1) | (go_at_call 72; (with_reducible refine (HRb.out _).mono ?_); rintro e wx ⟨A2, k2, c2, rfl, hk2, hm2, hbx⟩; have HM2 := Aside0.mk (And.intro hk2 hm2); have HM1 := Aside0.mk (And.intro HM1.out.1 (HM1.out.2.below hbx)); have HB2 := Aside0.mk (HB.out.trans (hbx.mono HB.out.size)); clear HB; have HB := HB2; clear HB2; clear hbx hk2 hm2) | (go_at_call 82; (with_reducible refine (HO.out _ _ _ _ _ _ _ HM1.out.1 HM2.out.1 HM1.out.2 HM2.out.2).mono ?_); rintro e wx ⟨A3, k3, c3, rfl, hk3, hm3, hbx⟩; have HM3 := Aside0.mk (And.intro hk3 hm3); have HB2 := Aside0.mk (HB.out.trans (hbx.mono HB.out.size)); clear HB; have HB := HB2; clear HB2; clear hbx hk3 hm3) | (go_at_call 77; (with_reducible refine (HRS.out _ _ _ _ HM3.out.2).mono ?_); rintro e wx ⟨rfl, hbx⟩; have HB2 := Aside0.mk (HB.out.trans (hbx.mono HB.out.size)); clear HB; have HB := HB2; clear HB2; clear hbx))
  go_ret2
  exact ⟨rfl, HB.out⟩
 ·have hbe : (E != 0) = true := by simp [h0]
  rw [if_neg h0, if_neg h0]
  clear hE
  generalize checkI a = ca at *
  generalize checkI b = cb at *
  go_enter Tryz.func22, Tryz.ntmps22
  go_wp2_with (first | (go_at_call 13; (with_reducible refine (HCa.out _).mono ?_); rintro e wx ⟨rfl, hbx⟩; have HB2 := Aside0.mk (HB.out.trans (hbx.mono HB.out.size)); clear HB; have HB := HB2; clear HB2; clear hbx) | (go_at_call 13; (with_reducible refine (HCb.out _).mono ?_); rintro e wx ⟨rfl, hbx⟩; have HB2 := Aside0.mk (HB.out.trans (hbx.mono HB.out.size)); clear HB; have HB := HB2; clear HB2; clear hbx) | (go_at_call 81; (with_reducible refine (HFI.out _ _ rfl _).mono ?_); rintro e wx ⟨rfl, hwx⟩; rw [hwx]; clear hwx wx; have HB2 := Aside0.mk (below_alloc HB.out (.cells #[.int .i64 ca, .int .i64 cb] 3)); clear HB; have HB := HB2; clear HB2))
  go_ret2
  exact ⟨rfl, HB.out⟩
theorem rSub_calls (a b : ByteArray) (ha : a.size ≤ 90000) (hb : b.size ≤ 90000) (w : World) :
 Calls Tryz.prog 24 #[.string a, .string b] w fun e w' => e = .returned (.tuple #[.string (biS (· - ·) a b), .int .i64 (biR (· - ·) a b)]) ∧ Below w.heap.size w w' := by
 unfold biS biR
 have HCa := Aside0.mk (fun W => rCheck_calls a (by omega) W)
 have HCb := Aside0.mk (fun W => rCheck_calls b (by omega) W)
 obtain ⟨E, hE⟩ : ∃ E, biE a b = E := ⟨_, rfl⟩
 rw [hE]
 have HFI := Aside0.mk (fun (W : World) (g : Nat) (hg : g = W.heap.size) (t : TypeId) => rfirst2_ret (checkI a) (checkI b) E hE W g hg t)
 have HB := Aside0.mk (Below.refl w.heap.size w)
 by_cases h0 : E = 0
 ·subst h0
  have hz := biE_zero hE
  have HRa := Aside0.mk (fun W => rRead_calls a ha (check_digits hz.1) W)
  have HRb := Aside0.mk (fun W => rRead_calls b hb (check_digits hz.2) W)
  have dx := intI_dig hz.1
  have dy := intI_dig hz.2
  clear hE hz
  generalize checkI a = ca at *
  generalize checkI b = cb at *
  generalize intI a = x at *
  generalize intI b = y at *
  have HO : Aside0 (RO2 84 x y (x - y)) := ⟨ro2_minus (dx.more (by omega)) (dy.more (by omega))⟩
  have HRS := Aside0.mk (fun W A k c hm => rresult_calls (w := W) (A := A) (L := k) (c := c) (x := x - y) hm ((dx.sub dy 121 (by omega) (by omega)).more (by omega)))
  rw [if_pos rfl, if_pos rfl]
  (try dsimp only)
  generalize hz : (x - y : Int) = z at *
  clear hz dx dy
  generalize wrS z = S at *
  generalize wrE z = R at *
  go_enter Tryz.func24, Tryz.ntmps24
  go_wp2_with (first | (go_at_call 13; (with_reducible refine (HCa.out _).mono ?_); rintro e wx ⟨rfl, hbx⟩; have HB2 := Aside0.mk (HB.out.trans (hbx.mono HB.out.size)); clear HB; have HB := HB2; clear HB2; clear hbx) | (go_at_call 13; (with_reducible refine (HCb.out _).mono ?_); rintro e wx ⟨rfl, hbx⟩; have HB2 := Aside0.mk (HB.out.trans (hbx.mono HB.out.size)); clear HB; have HB := HB2; clear HB2; clear hbx) | (go_at_call 81; (with_reducible refine (HFI.out _ _ rfl _).mono ?_); rintro e wx ⟨rfl, hwx⟩; rw [hwx]; clear hwx wx; have HB2 := Aside0.mk (below_alloc HB.out (.cells #[.int .i64 ca, .int .i64 cb] 3)); clear HB; have HB := HB2; clear HB2) | (go_at_call 72; (with_reducible refine (HRa.out _).mono ?_); rintro e wx ⟨A1, k1, c1, rfl, hk1, hm1, hbx⟩; have HM1 := Aside0.mk (And.intro hk1 hm1); have HB2 := Aside0.mk (HB.out.trans (hbx.mono HB.out.size)); clear HB; have HB := HB2; clear HB2; clear hbx hk1 hm1) | (go_at_call 72; (with_reducible refine (HRb.out _).mono ?_); rintro e wx ⟨A2, k2, c2, rfl, hk2, hm2, hbx⟩; have HM2 := Aside0.mk (And.intro hk2 hm2); have HM1 := Aside0.mk (And.intro HM1.out.1 (HM1.out.2.below hbx)); have HB2 := Aside0.mk (HB.out.trans (hbx.mono HB.out.size)); clear HB; have HB := HB2; clear HB2; clear hbx hk2 hm2) | (go_at_call 84; (with_reducible refine (HO.out _ _ _ _ _ _ _ HM1.out.1 HM2.out.1 HM1.out.2 HM2.out.2).mono ?_); rintro e wx ⟨A3, k3, c3, rfl, hk3, hm3, hbx⟩; have HM3 := Aside0.mk (And.intro hk3 hm3); have HB2 := Aside0.mk (HB.out.trans (hbx.mono HB.out.size)); clear HB; have HB := HB2; clear HB2; clear hbx hk3 hm3) | (go_at_call 77; (with_reducible refine (HRS.out _ _ _ _ HM3.out.2).mono ?_); rintro e wx ⟨rfl, hbx⟩; have HB2 := Aside0.mk (HB.out.trans (hbx.mono HB.out.size)); clear HB; have HB := HB2; clear HB2; clear hbx))
  go_ret2
  exact ⟨rfl, HB.out⟩
 ·have hbe : (E != 0) = true := by simp [h0]
  rw [if_neg h0, if_neg h0]
  clear hE
  generalize checkI a = ca at *
  generalize checkI b = cb at *
  go_enter Tryz.func24, Tryz.ntmps24
  go_wp2_with (first | (go_at_call 13; (with_reducible refine (HCa.out _).mono ?_); rintro e wx ⟨rfl, hbx⟩; have HB2 := Aside0.mk (HB.out.trans (hbx.mono HB.out.size)); clear HB; have HB := HB2; clear HB2; clear hbx) | (go_at_call 13; (with_reducible refine (HCb.out _).mono ?_); rintro e wx ⟨rfl, hbx⟩; have HB2 := Aside0.mk (HB.out.trans (hbx.mono HB.out.size)); clear HB; have HB := HB2; clear HB2; clear hbx) | (go_at_call 81; (with_reducible refine (HFI.out _ _ rfl _).mono ?_); rintro e wx ⟨rfl, hwx⟩; rw [hwx]; clear hwx wx; have HB2 := Aside0.mk (below_alloc HB.out (.cells #[.int .i64 ca, .int .i64 cb] 3)); clear HB; have HB := HB2; clear HB2))
  go_ret2
  exact ⟨rfl, HB.out⟩
theorem rMul_calls (a b : ByteArray) (ha : a.size ≤ 90000) (hb : b.size ≤ 90000) (w : World) :
 Calls Tryz.prog 26 #[.string a, .string b] w fun e w' => e = .returned (.tuple #[.string (biS (· * ·) a b), .int .i64 (biR (· * ·) a b)]) ∧ Below w.heap.size w w' := by
 unfold biS biR
 have HCa := Aside0.mk (fun W => rCheck_calls a (by omega) W)
 have HCb := Aside0.mk (fun W => rCheck_calls b (by omega) W)
 obtain ⟨E, hE⟩ : ∃ E, biE a b = E := ⟨_, rfl⟩
 rw [hE]
 have HFI := Aside0.mk (fun (W : World) (g : Nat) (hg : g = W.heap.size) (t : TypeId) => rfirst2_ret (checkI a) (checkI b) E hE W g hg t)
 have HB := Aside0.mk (Below.refl w.heap.size w)
 by_cases h0 : E = 0
 ·subst h0
  have hz := biE_zero hE
  have HRa := Aside0.mk (fun W => rRead_calls a ha (check_digits hz.1) W)
  have HRb := Aside0.mk (fun W => rRead_calls b hb (check_digits hz.2) W)
  have dx := intI_dig hz.1
  have dy := intI_dig hz.2
  clear hE hz
  generalize checkI a = ca at *
  generalize checkI b = cb at *
  generalize intI a = x at *
  generalize intI b = y at *
  have HO : Aside0 (RO2 86 x y (x * y)) := ⟨ro2_times (dx.more (by omega)) (dy.more (by omega))⟩
  have HRS := Aside0.mk (fun W A k c hm => rresult_calls (w := W) (A := A) (L := k) (c := c) (x := x * y) hm ((dx.mul dy).more (by omega)))
  rw [if_pos rfl, if_pos rfl]
  (try dsimp only)
  generalize hz : (x * y : Int) = z at *
  clear hz dx dy
  generalize wrS z = S at *
  generalize wrE z = R at *
  go_enter Tryz.func26, Tryz.ntmps26
  go_wp2_with (first | (go_at_call 13; (with_reducible refine (HCa.out _).mono ?_); rintro e wx ⟨rfl, hbx⟩; have HB2 := Aside0.mk (HB.out.trans (hbx.mono HB.out.size)); clear HB; have HB := HB2; clear HB2; clear hbx) | (go_at_call 13; (with_reducible refine (HCb.out _).mono ?_); rintro e wx ⟨rfl, hbx⟩; have HB2 := Aside0.mk (HB.out.trans (hbx.mono HB.out.size)); clear HB; have HB := HB2; clear HB2; clear hbx) | (go_at_call 81; (with_reducible refine (HFI.out _ _ rfl _).mono ?_); rintro e wx ⟨rfl, hwx⟩; rw [hwx]; clear hwx wx; have HB2 := Aside0.mk (below_alloc HB.out (.cells #[.int .i64 ca, .int .i64 cb] 3)); clear HB; have HB := HB2; clear HB2) | (go_at_call 72; (with_reducible refine (HRa.out _).mono ?_); rintro e wx ⟨A1, k1, c1, rfl, hk1, hm1, hbx⟩; have HM1 := Aside0.mk (And.intro hk1 hm1); have HB2 := Aside0.mk (HB.out.trans (hbx.mono HB.out.size)); clear HB; have HB := HB2; clear HB2; clear hbx hk1 hm1) | (go_at_call 72; (with_reducible refine (HRb.out _).mono ?_); rintro e wx ⟨A2, k2, c2, rfl, hk2, hm2, hbx⟩; have HM2 := Aside0.mk (And.intro hk2 hm2); have HM1 := Aside0.mk (And.intro HM1.out.1 (HM1.out.2.below hbx)); have HB2 := Aside0.mk (HB.out.trans (hbx.mono HB.out.size)); clear HB; have HB := HB2; clear HB2; clear hbx hk2 hm2) | (go_at_call 86; (with_reducible refine (HO.out _ _ _ _ _ _ _ HM1.out.1 HM2.out.1 HM1.out.2 HM2.out.2).mono ?_); rintro e wx ⟨A3, k3, c3, rfl, hk3, hm3, hbx⟩; have HM3 := Aside0.mk (And.intro hk3 hm3); have HB2 := Aside0.mk (HB.out.trans (hbx.mono HB.out.size)); clear HB; have HB := HB2; clear HB2; clear hbx hk3 hm3) | (go_at_call 77; (with_reducible refine (HRS.out _ _ _ _ HM3.out.2).mono ?_); rintro e wx ⟨rfl, hbx⟩; have HB2 := Aside0.mk (HB.out.trans (hbx.mono HB.out.size)); clear HB; have HB := HB2; clear HB2; clear hbx))
  go_ret2
  exact ⟨rfl, HB.out⟩
 ·have hbe : (E != 0) = true := by simp [h0]
  rw [if_neg h0, if_neg h0]
  clear hE
  generalize checkI a = ca at *
  generalize checkI b = cb at *
  go_enter Tryz.func26, Tryz.ntmps26
  go_wp2_with (first | (go_at_call 13; (with_reducible refine (HCa.out _).mono ?_); rintro e wx ⟨rfl, hbx⟩; have HB2 := Aside0.mk (HB.out.trans (hbx.mono HB.out.size)); clear HB; have HB := HB2; clear HB2; clear hbx) | (go_at_call 13; (with_reducible refine (HCb.out _).mono ?_); rintro e wx ⟨rfl, hbx⟩; have HB2 := Aside0.mk (HB.out.trans (hbx.mono HB.out.size)); clear HB; have HB := HB2; clear HB2; clear hbx) | (go_at_call 81; (with_reducible refine (HFI.out _ _ rfl _).mono ?_); rintro e wx ⟨rfl, hwx⟩; rw [hwx]; clear hwx wx; have HB2 := Aside0.mk (below_alloc HB.out (.cells #[.int .i64 ca, .int .i64 cb] 3)); clear HB; have HB := HB2; clear HB2))
  go_ret2
  exact ⟨rfl, HB.out⟩
theorem i64_dig {n : Int} (h1 : -9223372036854775808 ≤ n) (h2 : n ≤ 9223372036854775807) : Dig 19 n := by
 show n.natAbs < 10000000000000000000
 omega
theorem rFromInt_calls {n : Int} (h1 : -9223372036854775808 ≤ n) (h2 : n ≤ 9223372036854775807) (w : World) :
 Calls Tryz.prog 15 #[.int .i64 n] w fun e w' => e = .returned (.string (strI n)) ∧ Below w.heap.size w w' := by
 have HS := Aside0.mk (rSmall_calls (w := w) h1 h2)
 have HW := Aside0.mk (fun W A k c hm => rWrite_calls (w := W) (A := A) (L := k) (c := c) (x := n) hm (Nat.le_trans (RM.dig hm (i64_dig h1 h2) 5 (by omega)) (by omega)))
 clear h1 h2
 unfold RX rV at *
 generalize decide (n < 0) = f at *
 generalize strI n = S at *
 go_enter Tryz.func15, Tryz.ntmps15
 go_wp2_with (first | (go_at_call 70; (with_reducible refine HS.out.mono ?_); rintro e wx ⟨A1, k1, c1, rfl, hk1, hm1, hbx⟩; have HM1 := Aside0.mk hm1; have HB := Aside0.mk hbx; clear hbx hk1 hm1) | (go_at_call 69; (with_reducible refine (HW.out _ _ _ _ HM1.out).mono ?_); rintro e wx ⟨rfl, hbx⟩; have HB2 := Aside0.mk (HB.out.trans (hbx.mono HB.out.size)); clear HB; have HB := HB2; clear HB2; clear hbx))
 go_ret
 exact ⟨rfl, HB.out⟩
theorem neg_dig {x : Int} (h : Dig 120 x) : wrS (-x) = strI (-x) ∧ wrE (-x) = 0 := by
 have := wr_dig h.neg
 exact ⟨this.2, this.1⟩
theorem rNeg_calls (a : ByteArray) (ha : a.size ≤ 90000) (w : World) :
 Calls Tryz.prog 19 #[.string a] w fun e w' => e = .returned (.tuple #[.string (negS a), .int .i64 (checkI a)]) ∧ Below w.heap.size w w' := by
 have HCa := Aside0.mk (fun W => rCheck_calls a (by omega) W)
 have HB := Aside0.mk (Below.refl w.heap.size w)
 unfold negS
 by_cases h0 : checkI a = 0
 ·have HRa := Aside0.mk (fun W => rRead_calls a ha (check_digits h0) W)
  have dx := intI_dig h0
  have HN := Aside0.mk (fun W A k c hc hm => rNegative_calls (w := W) (A1 := A) (L1 := k) (c1 := c) (x := intI a) hm hc)
  have HRS := Aside0.mk (fun W A k c hm => rresult_calls (w := W) (A := A) (L := k) (c := c) (x := -(intI a)) hm (dx.neg.more (by omega)))
  rw [(neg_dig dx).1, (neg_dig dx).2] at HRS
  rw [h0] at HCa
  rw [if_pos h0, h0]
  clear h0 dx
  generalize intI a = x at *
  generalize hz : -x = z at *
  clear hz
  generalize strI z = S at *
  go_enter Tryz.func19, Tryz.ntmps19
  go_wp2_with (first | (go_at_call 13; (with_reducible refine (HCa.out _).mono ?_); rintro e wx ⟨rfl, hbx⟩; have HB2 := Aside0.mk (HB.out.trans (hbx.mono HB.out.size)); clear HB; have HB := HB2; clear HB2; clear hbx) | (go_at_call 72; (with_reducible refine (HRa.out _).mono ?_); rintro e wx ⟨A1, k1, c1, rfl, hk1, hm1, hbx⟩; have HM1 := Aside0.mk (And.intro hk1 hm1); have HB2 := Aside0.mk (HB.out.trans (hbx.mono HB.out.size)); clear HB; have HB := HB2; clear HB2; clear hbx hk1 hm1) | (go_at_call 78; (with_reducible refine (HN.out _ _ _ _ HM1.out.1 HM1.out.2).mono ?_); rintro e wx ⟨k3, c3, rfl, hk3, hm3, hbx⟩; have HM3 := Aside0.mk (And.intro hk3 hm3); have HB2 := Aside0.mk (HB.out.trans (hbx.mono HB.out.size)); clear HB; have HB := HB2; clear HB2; clear hbx hk3 hm3) | (go_at_call 77; (with_reducible refine (HRS.out _ _ _ _ HM3.out.2).mono ?_); rintro e wx ⟨rfl, hbx⟩; have HB2 := Aside0.mk (HB.out.trans (hbx.mono HB.out.size)); clear HB; have HB := HB2; clear HB2; clear hbx))
  go_ret2
  exact ⟨rfl, HB.out⟩
 ·rw [if_neg h0]
  have hbe : (checkI a != 0) = true := by simp [h0]
  generalize checkI a = E at *
  go_enter Tryz.func19, Tryz.ntmps19
  go_wp2_with (first | (go_at_call 13; (with_reducible refine (HCa.out _).mono ?_); rintro e wx ⟨rfl, hbx⟩; have HB2 := Aside0.mk (HB.out.trans (hbx.mono HB.out.size)); clear HB; have HB := HB2; clear HB2; clear hbx))
  go_ret2
  exact ⟨rfl, HB.out⟩
theorem rCompare_calls (a b : ByteArray) (ha : a.size ≤ 90000) (hb : b.size ≤ 90000) (w : World) :
 Calls Tryz.prog 30 #[.string a, .string b] w fun e w' => e = .returned (.tuple #[.int .i64 (cmpN a b), .int .i64 (biE a b)]) ∧ Below w.heap.size w w' := by
 unfold cmpN
 have HCa := Aside0.mk (fun W => rCheck_calls a (by omega) W)
 have HCb := Aside0.mk (fun W => rCheck_calls b (by omega) W)
 obtain ⟨E, hE⟩ : ∃ E, biE a b = E := ⟨_, rfl⟩
 rw [hE]
 have HFI := Aside0.mk (fun (W : World) (g : Nat) (hg : g = W.heap.size) (t : TypeId) => rfirst2_ret (checkI a) (checkI b) E hE W g hg t)
 have HB := Aside0.mk (Below.refl w.heap.size w)
 by_cases h0 : E = 0
 ·subst h0
  have hz := biE_zero hE
  have HRa := Aside0.mk (fun W => rRead_calls a ha (check_digits hz.1) W)
  have HRb := Aside0.mk (fun W => rRead_calls b hb (check_digits hz.2) W)
  have dx := intI_dig hz.1
  have dy := intI_dig hz.2
  have HO := Aside0.mk (fun W A1 k1 c1 A2 k2 c2 (hc : k2 ≤ c2) h1 h2 => rOrder_calls (w := W) (A1 := A1) (A2 := A2) (L1 := k1) (L2 := k2) (c1 := c1) (c2 := c2) (x := intI a) (y := intI b) h1 h2 hc (Nat.le_trans (RM.dig h1 dx 30 (by omega)) (by omega)) (Nat.le_trans (RM.dig h2 dy 30 (by omega)) (by omega)))
  rw [if_pos rfl]
  clear hE hz dx dy
  generalize checkI a = ca at *
  generalize checkI b = cb at *
  generalize intI a = x at *
  generalize intI b = y at *
  generalize cmpI x y = q at *
  go_enter Tryz.func30, Tryz.ntmps30
  go_wp2_with (first | (go_at_call 13; (with_reducible refine (HCa.out _).mono ?_); rintro e wx ⟨rfl, hbx⟩; have HB2 := Aside0.mk (HB.out.trans (hbx.mono HB.out.size)); clear HB; have HB := HB2; clear HB2; clear hbx) | (go_at_call 13; (with_reducible refine (HCb.out _).mono ?_); rintro e wx ⟨rfl, hbx⟩; have HB2 := Aside0.mk (HB.out.trans (hbx.mono HB.out.size)); clear HB; have HB := HB2; clear HB2; clear hbx) | (go_at_call 81; (with_reducible refine (HFI.out _ _ rfl _).mono ?_); rintro e wx ⟨rfl, hwx⟩; rw [hwx]; clear hwx wx; have HB2 := Aside0.mk (below_alloc HB.out (.cells #[.int .i64 ca, .int .i64 cb] 3)); clear HB; have HB := HB2; clear HB2) | (go_at_call 72; (with_reducible refine (HRa.out _).mono ?_); rintro e wx ⟨A1, k1, c1, rfl, hk1, hm1, hbx⟩; have HM1 := Aside0.mk (And.intro hk1 hm1); have HB2 := Aside0.mk (HB.out.trans (hbx.mono HB.out.size)); clear HB; have HB := HB2; clear HB2; clear hbx hk1 hm1) | (go_at_call 72; (with_reducible refine (HRb.out _).mono ?_); rintro e wx ⟨A2, k2, c2, rfl, hk2, hm2, hbx⟩; have HM2 := Aside0.mk (And.intro hk2 hm2); have HM1 := Aside0.mk (And.intro HM1.out.1 (HM1.out.2.below hbx)); have HB2 := Aside0.mk (HB.out.trans (hbx.mono HB.out.size)); clear HB; have HB := HB2; clear HB2; clear hbx hk2 hm2) | (go_at_call 73; (with_reducible refine (HO.out _ _ _ _ _ _ _ HM2.out.1 HM1.out.2 HM2.out.2).mono ?_); rintro e wx ⟨rfl, hbx⟩; have HB2 := Aside0.mk (HB.out.trans (hbx.mono HB.out.size)); clear HB; have HB := HB2; clear HB2; clear hbx))
  go_ret2
  exact ⟨rfl, HB.out⟩
 ·have hbe : (E != 0) = true := by simp [h0]
  rw [if_neg h0]
  clear hE
  generalize checkI a = ca at *
  generalize checkI b = cb at *
  go_enter Tryz.func30, Tryz.ntmps30
  go_wp2_with (first | (go_at_call 13; (with_reducible refine (HCa.out _).mono ?_); rintro e wx ⟨rfl, hbx⟩; have HB2 := Aside0.mk (HB.out.trans (hbx.mono HB.out.size)); clear HB; have HB := HB2; clear HB2; clear hbx) | (go_at_call 13; (with_reducible refine (HCb.out _).mono ?_); rintro e wx ⟨rfl, hbx⟩; have HB2 := Aside0.mk (HB.out.trans (hbx.mono HB.out.size)); clear HB; have HB := HB2; clear HB2; clear hbx) | (go_at_call 81; (with_reducible refine (HFI.out _ _ rfl _).mono ?_); rintro e wx ⟨rfl, hwx⟩; rw [hwx]; clear hwx wx; have HB2 := Aside0.mk (below_alloc HB.out (.cells #[.int .i64 ca, .int .i64 cb] 3)); clear HB; have HB := HB2; clear HB2))
  go_ret2
  exact ⟨rfl, HB.out⟩
end
end Go.Proofs.YtillgofjlpjbcaaGreatDoor.Nm
