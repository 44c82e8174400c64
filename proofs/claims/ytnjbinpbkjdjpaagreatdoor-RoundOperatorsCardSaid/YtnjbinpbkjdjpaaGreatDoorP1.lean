import Init
import Derived.Test.YtnjbinpbkjdjpaaGreatDoorProg
import Derived.Test.YtnjbinpbkjdjpaaGreatDoorPw
import Derived.Deep.QuietTactic
import Derived.BigQuiet
import Derived.Deep.LoopGhost
import Derived.Deep.DeepCutAuto
import Derived.Deep.RegionHeld3
import Derived.Outline
import Derived.WalkSpells
import Derived.Handy
import Derived.Lib.Hide
import Derived.Deep.AppendLies
import Derived.Deep.RegionLaw
import Derived.BigRegion
import Derived.Laws.MakeOwn
import Derived.Laws.OwnMore
import Derived.Laws.CopyOwn
import Derived.RangeFuncNested
import Derived.RangeFuncBound
import Derived.RangeFuncCalls
import Derived.RangeFuncLeaves
import Derived.WalkKit
import Derived.Shelf.Abstract
import Derived.Shelf.RegionOpen
import Derived.OwnWalkIn
import Derived.TacticsInMore
import Derived.LoopNIn
import Derived.LoopIn
/- Own text: contracts and laws on which the card rests (NmA NmB NmC NmD NmE NmF NmG NmH NmI NmJ NmR NmK NmM). -/
set_option linter.unusedVariables false
set_option linter.unusedSimpArgs false
set_option maxRecDepth 1000000
set_option maxHeartbeats 16000000
namespace Go.Proofs.YtnjbinpbkjdjpaaGreatDoor.Nm
section
/-- The digits of a number to a base, the least significant first, without zeros at the end. -/
def dg (b n : Nat) : List Nat := if h : 1 < b ∧ 0 < n then n % b :: dg b (n / b) else []
 termination_by n
 decreasing_by exact Nat.div_lt_self h.2 h.1
def val (b : Nat) : List Nat → Nat
 | [] => 0
 | d :: ds => d + b * val b ds
/-- A list without the zeros at its end. -/
def strip : List Nat → List Nat
 | [] => []
 | d :: ds => if d = 0 ∧ strip ds = [] then [] else d :: strip ds
theorem dg_zero (b : Nat) : dg b 0 = [] := by rw [dg, dif_neg (by omega)]
theorem dg_pos {b n : Nat} (hb : 1 < b) (hn : 0 < n) : dg b n = n % b :: dg b (n / b) := by rw [dg, dif_pos ⟨hb, hn⟩]
theorem dg_one {b n : Nat} (hb : 1 < b) (hn : 0 < n) (h : n < b) : dg b n = [n] := by
 rw [dg_pos hb hn, Nat.mod_eq_of_lt h, Nat.div_eq_of_lt h, dg_zero]
theorem val_dg {b : Nat} (hb : 1 < b) : ∀ n, val b (dg b n) = n := by
 intro n
 induction n using Nat.strongRecOn with
 | _ n ih =>
   by_cases hn : 0 < n
   ·rw [dg_pos hb hn, val, ih _ (Nat.div_lt_self hn hb)]
    exact Nat.mod_add_div n b
   ·rw [show n = 0 by omega, dg_zero]; rfl
theorem dg_lt {b : Nat} (hb : 1 < b) : ∀ n d, d ∈ dg b n → d < b := by
 intro n
 induction n using Nat.strongRecOn with
 | _ n ih =>
   intro d hd
   by_cases hn : 0 < n
   ·rw [dg_pos hb hn] at hd
    rcases List.mem_cons.1 hd with rfl | hd
    ·exact Nat.mod_lt _ (by omega)
    ·exact ih _ (Nat.div_lt_self hn hb) d hd
   ·rw [show n = 0 by omega, dg_zero] at hd; cases hd
theorem dg_nil {b n : Nat} (hb : 1 < b) : dg b n = [] ↔ n = 0 := by
 constructor
 ·intro h
  by_cases hn : 0 < n
  ·rw [dg_pos hb hn] at h; cases h
  ·omega
 ·rintro rfl; exact dg_zero b
theorem dg_inj {b m n : Nat} (hb : 1 < b) (h : dg b m = dg b n) : m = n := by
 rw [← val_dg hb m, h, val_dg hb]
theorem val_zero {b : Nat} {L : List Nat} (h : strip L = []) : val b L = 0 := by
 induction L with
 | nil => rfl
 | cons d L ih =>
   rw [strip] at h
   split at h
   ·rename_i c
    rw [val, c.1, ih c.2]; omega
   ·cases h
theorem strip_dg {b : Nat} (hb : 1 < b) : ∀ L : List Nat, (∀ d ∈ L, d < b) → strip L = dg b (val b L)
 | [], _ => (dg_zero b).symm
 | d :: L, h => by
   have ih := strip_dg hb L (fun x hx => h x (List.mem_cons_of_mem _ hx))
   have hd := h d (List.mem_cons_self)
   rw [strip, val]
   by_cases c : d = 0 ∧ strip L = []
   ·rw [if_pos c, c.1, val_zero c.2, Nat.mul_zero, Nat.add_zero, dg_zero]
   ·rw [if_neg c]
    have hpos : 0 < d + b * val b L := by
     by_cases hd0 : d = 0
     ·have : val b L ≠ 0 := fun e => c ⟨hd0, by rw [ih, e, dg_zero]⟩
      have := Nat.mul_pos (show 0 < b by omega) (Nat.pos_of_ne_zero this)
      omega
     ·omega
    rw [dg_pos hb hpos, Nat.add_mul_mod_self_left, Nat.mod_eq_of_lt hd, Nat.add_mul_div_left _ _ (by omega), Nat.div_eq_of_lt hd, Nat.zero_add, ← ih]
theorem val_append (b : Nat) : ∀ L M : List Nat, val b (L ++ M) = val b L + b ^ L.length * val b M
 | [], M => by simp [val]
 | d :: L, M => by
   rw [List.cons_append, val, val, val_append b L M, List.length_cons, Nat.pow_succ, Nat.mul_add, Nat.add_assoc]
   congr 2
   rw [← Nat.mul_assoc, Nat.mul_comm b]
theorem val_lt {b : Nat} (hb : 0 < b) : ∀ L : List Nat, (∀ d ∈ L, d < b) → val b L < b ^ L.length
 | [], _ => by simp [val]
 | d :: L, h => by
   have ih := val_lt hb L (fun x hx => h x (List.mem_cons_of_mem _ hx))
   have hd := h d (List.mem_cons_self)
   rw [val, List.length_cons, Nat.pow_succ, Nat.mul_comm _ b]
   have : b * (val b L + 1) ≤ b * b ^ L.length := Nat.mul_le_mul_left b ih
   rw [Nat.mul_add] at this
   omega
theorem val_zeros (b k : Nat) : val b (List.replicate k 0) = 0 := by
 induction k with
 | zero => rfl
 | succ k ih => rw [List.replicate_succ, val, ih]; omega
theorem val_snoc (b : Nat) (L : List Nat) (d : Nat) : val b (L ++ [d]) = val b L + b ^ L.length * d := by
 rw [val_append, val, val, Nat.mul_zero, Nat.add_zero]
theorem dg_length {b : Nat} (hb : 1 < b) : ∀ (k n : Nat), n < b ^ k → (dg b n).length ≤ k
 | 0, n, h => by
   have : n = 0 := by simpa using h
   rw [this, dg_zero]; exact Nat.le_refl _
 | k + 1, n, h => by
   by_cases hn : 0 < n
   ·rw [dg_pos hb hn, List.length_cons]
    have := dg_length hb k (n / b) (by rw [Nat.div_lt_iff_lt_mul (by omega), ← Nat.pow_succ]; exact h)
    omega
   ·rw [show n = 0 by omega, dg_zero]; exact Nat.zero_le _
theorem dg_lt_pow {b : Nat} (hb : 1 < b) (n : Nat) : n < b ^ (dg b n).length := by
 have := val_lt (by omega) (dg b n) (dg_lt hb n)
 rwa [val_dg hb] at this
/-- The last digit is not 0: a number of k + 1 digits is at least b to the k. -/
theorem dg_ge_pow {b : Nat} (hb : 1 < b) : ∀ (k n : Nat), (dg b n).length = k + 1 → b ^ k ≤ n := by
 intro k n h
 by_cases hlt : n < b ^ k
 ·have := dg_length hb k n hlt
  omega
 ·omega
/-- A digit at a place, 0 behind the end. -/
theorem dg_getD {b : Nat} (hb : 1 < b) : ∀ (i n : Nat), (dg b n).getD i 0 = n / b ^ i % b
 | i, n => by
   induction i generalizing n with
   | zero =>
     by_cases hn : 0 < n
     ·rw [dg_pos hb hn]; simp
     ·rw [show n = 0 by omega, dg_zero]; simp
   | succ i ih =>
     by_cases hn : 0 < n
     ·rw [dg_pos hb hn, List.getD_cons_succ, ih, Nat.pow_succ, Nat.mul_comm (b ^ i) b, Nat.div_div_eq_div_mul]
     ·rw [show n = 0 by omega, dg_zero]; simp
theorem val_getD {b : Nat} (hb : 1 < b) (L : List Nat) (h : ∀ d ∈ L, d < b) (i : Nat) : L.getD i 0 = val b L / b ^ i % b := by
 induction L generalizing i with
 | nil => simp [val]
 | cons d L ih =>
   have hd := h d (List.mem_cons_self)
   cases i with
   | zero => rw [List.getD_cons_zero, val, Nat.pow_zero, Nat.div_one, Nat.add_mul_mod_self_left, Nat.mod_eq_of_lt hd]
   | succ i => rw [List.getD_cons_succ, ih (fun x hx => h x (List.mem_cons_of_mem _ hx)), val, Nat.pow_succ, Nat.mul_comm (b ^ i) b, ← Nat.div_div_eq_div_mul, Nat.add_mul_div_left _ _ (by omega), Nat.div_eq_of_lt hd, Nat.zero_add]
theorem mod_pow_succ' (n b i : Nat) : n % b ^ (i + 1) = n % b ^ i + b ^ i * (n / b ^ i % b) := by
 rw [Nat.pow_succ, Nat.mod_mul]
/-- One more digit of a sum. -/
theorem add_step {b : Nat} (hb : 1 < b) {m n c i : Nat} {out : List Nat} (hl : out.length = i) (hc : c ≤ 1) (h : val b out + b ^ i * c = m % b ^ i + n % b ^ i) :
 val b (out ++ [(m / b ^ i % b + n / b ^ i % b + c) % b]) + b ^ (i + 1) * ((m / b ^ i % b + n / b ^ i % b + c) / b) = m % b ^ (i + 1) + n % b ^ (i + 1) ∧ (m / b ^ i % b + n / b ^ i % b + c) / b ≤ 1 ∧ (m / b ^ i % b + n / b ^ i % b + c) % b < b := by
 have h1 : m / b ^ i % b < b := Nat.mod_lt _ (by omega)
 have h2 : n / b ^ i % b < b := Nat.mod_lt _ (by omega)
 refine ⟨?_, ?_, Nat.mod_lt _ (by omega)⟩
 ·rw [val_snoc, hl, mod_pow_succ' m, mod_pow_succ' n, Nat.pow_succ]
  generalize m / b ^ i % b = x at *
  generalize n / b ^ i % b = y at *
  have h3 := Nat.mod_add_div (x + y + c) b
  have h4 : b ^ i * ((x + y + c) % b) + b ^ i * b * ((x + y + c) / b) = b ^ i * (x + y + c) := by
   rw [Nat.mul_assoc, ← Nat.mul_add, h3]
  rw [Nat.mul_add, Nat.mul_add] at h4
  omega
 ·have : m / b ^ i % b + n / b ^ i % b + c < 2 * b := by omega
  have : (m / b ^ i % b + n / b ^ i % b + c) / b < 2 := by
   rw [Nat.div_lt_iff_lt_mul (by omega)]; omega
  omega
theorem mod_big {b n i : Nat} (hb : 1 < b) (h : (dg b n).length ≤ i) : n % b ^ i = n :=
 Nat.mod_eq_of_lt (Nat.lt_of_lt_of_le (dg_lt_pow hb n) (Nat.pow_le_pow_right (by omega) h))
theorem add_end {b : Nat} (hb : 1 < b) {m n c i : Nat} {out : List Nat} (hl : out.length = i) (hc : c ≤ 1) (hd : ∀ d ∈ out, d < b) (h : val b out + b ^ i * c = m % b ^ i + n % b ^ i) (hm : (dg b m).length ≤ i) (hn : (dg b n).length ≤ i) :
 strip (out ++ [c]) = dg b (m + n) := by
 rw [strip_dg hb _ (by
  intro d hx
  rcases List.mem_append.1 hx with hx | hx
  ·exact hd d hx
  ·rw [List.mem_singleton.1 hx]; omega), val_snoc, hl, h, mod_big hb hm, mod_big hb hn]
/-- One more digit of a difference: x - y - r below 0 borrows. -/
theorem sub_step {b : Nat} (hb : 1 < b) {m n r i : Nat} {out : List Nat} (hl : out.length = i) (hr : r ≤ 1) (h : val b out + n % b ^ i = m % b ^ i + b ^ i * r) (d r' : Nat)
 (hd : d + (n / b ^ i % b + r) = m / b ^ i % b + b * r') :
 val b (out ++ [d]) + n % b ^ (i + 1) = m % b ^ (i + 1) + b ^ (i + 1) * r' := by
 rw [val_snoc, hl, mod_pow_succ' m, mod_pow_succ' n, Nat.pow_succ]
 have h4 : b ^ i * (d + (n / b ^ i % b + r)) = b ^ i * (m / b ^ i % b + b * r') := by rw [hd]
 rw [Nat.mul_add, Nat.mul_add, Nat.mul_add, ← Nat.mul_assoc] at h4
 omega
def digs (b n l : Nat) : List Nat := (List.range l).map fun j => n / b ^ j % b
theorem digs_length (b n l : Nat) : (digs b n l).length = l := by simp [digs]
theorem digs_succ (b n l : Nat) : digs b n (l + 1) = digs b n l ++ [n / b ^ l % b] := by
 simp [digs, List.range_succ]
theorem digs_lt {b : Nat} (hb : 1 < b) (n l : Nat) : ∀ d ∈ digs b n l, d < b := by
 intro d hd
 obtain ⟨j, _, rfl⟩ := List.mem_map.1 hd
 exact Nat.mod_lt _ (by omega)
theorem val_digs {b : Nat} (hb : 1 < b) (n : Nat) : ∀ l, val b (digs b n l) = n % b ^ l
 | 0 => by simp [digs, val, Nat.mod_one]
 | l + 1 => by rw [digs_succ, val_snoc, digs_length, val_digs hb n l, mod_pow_succ']
theorem val_set {b : Nat} : ∀ (L : List Nat) (j d : Nat), j < L.length → val b (L.set j d) + b ^ j * L.getD j 0 = val b L + b ^ j * d
 | [], j, d, h => absurd h (Nat.not_lt_zero _)
 | x :: L, 0, d, _ => by simp [val]; omega
 | x :: L, j + 1, d, h => by
   have ih := val_set (b := b) L j d (by simpa using h)
   rw [List.set_cons_succ, List.getD_cons_succ, val, val, Nat.pow_succ]
   have e : ∀ y : Nat, b ^ j * b * y = b * (b ^ j * y) := fun y => by rw [Nat.mul_comm (b ^ j) b, Nat.mul_assoc]
   rw [e, e]
   have h4 : b * (val b (L.set j d) + b ^ j * L.getD j 0) = b * (val b L + b ^ j * d) := by rw [ih]
   rw [Nat.mul_add, Nat.mul_add] at h4
   omega
theorem mul_step {b : Nat} {L : List Nat} {j y n : Nat} (hj : j < L.length) (hn : n = L.getD j 0 + y) :
 val b (L.set j (n % b)) + b ^ (j + 1) * (n / b) = val b L + b ^ j * y := by
 have h1 := val_set (b := b) L j (n % b) hj
 have h2 : b ^ j * (n % b) + b ^ j * b * (n / b) = b ^ j * n := by
  rw [Nat.mul_assoc, ← Nat.mul_add, Nat.mod_add_div]
 rw [hn, Nat.mul_add, ← hn] at h2
 rw [Nat.pow_succ]
 omega
/-- One digit of the row of the i-th digit a. -/
theorem row_step {b : Nat} {V0 : Nat} {L : List Nat} {i k a o c n : Nat} (hj : i + k < L.length)
 (hr : val b L + b ^ (i + k) * c = V0 + b ^ i * (a * (o % b ^ k)))
 (hn : n = L.getD (i + k) 0 + a * (o / b ^ k % b) + c) :
 val b (L.set (i + k) (n % b)) + b ^ (i + (k + 1)) * (n / b) = V0 + b ^ i * (a * (o % b ^ (k + 1))) := by
 have h1 := mul_step (b := b) (L := L) (j := i + k) (y := a * (o / b ^ k % b) + c) (n := n) hj (by omega)
 rw [show i + (k + 1) = i + k + 1 from rfl, h1, mod_pow_succ', Nat.mul_add, Nat.mul_add a, Nat.mul_add]
 have e : b ^ (i + k) * (a * (o / b ^ k % b)) = b ^ i * (a * (b ^ k * (o / b ^ k % b))) := by
  rw [Nat.pow_add, Nat.mul_assoc, Nat.mul_left_comm (b ^ k) a]
 rw [e]
 omega
/-- One digit, one more, and a carry: no carry comes to the base, the sum lies below its square. -/
theorem row_small {b d a x c : Nat} (hd : d < b) (ha : a < b) (hx : x < b) (hc : c < b) : d + a * x + c < b * b := by
 obtain ⟨k, rfl⟩ : ∃ k, b = k + 1 := ⟨b - 1, by omega⟩
 have h1 : a * x ≤ k * k := Nat.mul_le_mul (by omega) (by omega)
 have h2 : (k + 1) * (k + 1) = k * k + k + k + 1 := by rw [Nat.add_mul, Nat.mul_add]; omega
 omega
theorem row_end {b : Nat} (hb : 1 < b) {L : List Nat} {m o i lo c : Nat} (ho : o < b ^ lo)
 (hr : val b L + b ^ (i + (lo + 1)) * c = m % b ^ i * o + b ^ i * (m / b ^ i % b * (o % b ^ (lo + 1)))) :
 c = 0 ∧ val b L = m % b ^ (i + 1) * o := by
 have hpi : 0 < b ^ i := Nat.pow_pos (by omega)
 have ho1 : o < b ^ (lo + 1) := Nat.lt_of_lt_of_le ho (Nat.pow_le_pow_right (by omega) (by omega))
 have e : m % b ^ i * o + b ^ i * (m / b ^ i % b * o) = m % b ^ (i + 1) * o := by
  rw [mod_pow_succ', Nat.add_mul, Nat.mul_assoc]
 rw [Nat.mod_eq_of_lt ho1, e] at hr
 have hm : m % b ^ (i + 1) < b ^ (i + 1) := Nat.mod_lt _ (Nat.pow_pos (by omega))
 have hlt : m % b ^ (i + 1) * o < b ^ (i + (lo + 1)) := by
  rw [show i + (lo + 1) = (i + 1) + lo by omega, Nat.pow_add b (i + 1) lo]
  exact Nat.mul_lt_mul'' hm ho
 have hc : c = 0 := by
  rcases Nat.eq_zero_or_pos c with h | h
  ·exact h
  ·have : b ^ (i + (lo + 1)) * 1 ≤ b ^ (i + (lo + 1)) * c := Nat.mul_le_mul_left _ h
   omega
 subst hc
 exact ⟨rfl, by simpa using hr⟩
/-- The next digit of a quotient and the next remainder. -/
theorem quo_step {b d m i : Nat} (hb : 1 < b) (hd : 0 < d) :
 (m / b ^ (i + 1) % d * b + m / b ^ i % b) / d = m / d / b ^ i % b ∧ (m / b ^ (i + 1) % d * b + m / b ^ i % b) % d = m / b ^ i % d ∧
   (m / b ^ (i + 1) % d * b + m / b ^ i % b) < d * b := by
 have h0 : m / b ^ (i + 1) = m / b ^ i / b := by rw [Nat.pow_succ, ← Nat.div_div_eq_div_mul]
 have h1 : m / d / b ^ i = m / b ^ i / d := by rw [Nat.div_div_eq_div_mul, Nat.div_div_eq_div_mul, Nat.mul_comm]
 rw [h0, h1]
 generalize m / b ^ i = M
 have hr : M / b % d < d := Nat.mod_lt _ hd
 have hs : M % b < b := Nat.mod_lt _ (by omega)
 have hlt : M / b % d * b + M % b < d * b := by
  have : (M / b % d + 1) * b ≤ d * b := Nat.mul_le_mul_right b hr
  rw [Nat.add_mul] at this
  omega
 have hM : M = d * (b * (M / b / d)) + (M / b % d * b + M % b) := by
  have e1 := Nat.mod_add_div M b
  have e2 := Nat.mod_add_div (M / b) d
  have e3 : b * (M / b % d + d * (M / b / d)) = b * (M / b) := by rw [e2]
  rw [Nat.mul_add, Nat.mul_left_comm b d] at e3
  rw [Nat.mul_comm (M / b % d) b]
  omega
 refine ⟨?_, ?_, hlt⟩
 ·have hq : (M / b % d * b + M % b) / d < b := by rw [Nat.div_lt_iff_lt_mul hd, Nat.mul_comm b d]; exact hlt
  conv => rhs; rw [hM]
  rw [Nat.mul_add_div hd, Nat.mul_add_mod, Nat.mod_eq_of_lt hq]
 ·conv => rhs; rw [hM]
  rw [Nat.mul_add_mod]
/-- The list of a quotient's digits that are known: those from i on. -/
def tops (b n l i : Nat) : List Nat := (List.range l).map fun j => if j < i then 0 else n / b ^ j % b
theorem tops_length (b n l i : Nat) : (tops b n l i).length = l := by simp [tops]
theorem tops_full (b n l : Nat) : tops b n l 0 = digs b n l := by simp [tops, digs]
theorem tops_start (b n l i : Nat) (h : l ≤ i) : tops b n l i = List.replicate l 0 := by
 apply List.ext_getElem
 ·simp [tops]
 ·intro j h1 h2
  have : j < l := by simpa [tops] using h1
  simp [tops, show j < i by omega]
theorem tops_set (b n l i : Nat) : (tops b n l (i + 1)).set i (n / b ^ i % b) = tops b n l i := by
 apply List.ext_getElem
 ·simp [tops]
 ·intro j h1 h2
  have : j < l := by simpa [tops] using h2
  rw [List.getElem_set]
  by_cases h : i = j
  ·subst h; simp [tops]
  ·rw [if_neg h]
   simp only [tops, List.getElem_map, List.getElem_range]
   by_cases h3 : j < i
   ·rw [if_pos h3, if_pos (by omega)]
   ·rw [if_neg h3, if_neg (by omega)]
/-- R below B times b, B of k + 2 digits: what the loop over guesses keeps, and what it ends with. -/
structure Heads (b k R B : Nat) (head top next r2 : Nat) : Prop where
 hb : 1 < b
 lt : R < B * b
 etop : top = B / b ^ (k + 1)
 enext : next = B / b ^ k % b
 ehead : head = R / b ^ (k + 1)
 er2 : r2 = R / b ^ k % b
 pos : 0 < top
namespace Heads
variable {b k R B head top next r2 : Nat}
theorem bpos (h : Heads b k R B head top next r2) : 0 < b ^ k := Nat.pow_pos (by have := h.hb; omega)
theorem Bpos (h : Heads b k R B head top next r2) : 0 < B := by
 rcases Nat.eq_zero_or_pos B with e | e
 ·have := h.lt; rw [e] at this; omega
 ·exact e
/-- The two leading digits of B, the three of R. -/
theorem b2 (h : Heads b k R B head top next r2) : top * b + next = B / b ^ k := by
 rw [h.etop, h.enext, Nat.pow_succ, ← Nat.div_div_eq_div_mul, Nat.mul_comm]
 have := Nat.mod_add_div (B / b ^ k) b
 omega
theorem a3 (h : Heads b k R B head top next r2) : head * b + r2 = R / b ^ k := by
 rw [h.ehead, h.er2, Nat.pow_succ, ← Nat.div_div_eq_div_mul, Nat.mul_comm]
 have := Nat.mod_add_div (R / b ^ k) b
 omega
/-- The quotient times B's leading digits is at most R's. -/
theorem low (h : Heads b k R B head top next r2) : R / B * (top * b + next) ≤ head * b + r2 := by
 rw [h.b2, h.a3, Nat.le_div_iff_mul_le h.bpos]
 calc R / B * (B / b ^ k) * b ^ k = R / B * (B / b ^ k * b ^ k) := Nat.mul_assoc _ _ _
  _ ≤ R / B * B := Nat.mul_le_mul_left _ (Nat.div_mul_le_self _ _)
  _ ≤ R := Nat.div_mul_le_self _ _
theorem quo_lt (h : Heads b k R B head top next r2) : R / B < b := by
 rw [Nat.div_lt_iff_lt_mul h.Bpos, Nat.mul_comm]; exact h.lt
theorem head_le (h : Heads b k R B head top next r2) : head + 1 ≤ (top + 1) * b := by
 have hp : 0 < b ^ (k + 1) := Nat.pow_pos (by have := h.hb; omega)
 have h1 : B < (top + 1) * b ^ (k + 1) := by
  rw [h.etop, Nat.add_mul, Nat.one_mul]
  have := Nat.mod_add_div B (b ^ (k + 1))
  have h3 := Nat.mod_lt B hp
  rw [Nat.mul_comm (B / _)]; omega
 have h2 : R < (top + 1) * b * b ^ (k + 1) := by
  have : B * b < (top + 1) * b ^ (k + 1) * b := Nat.mul_lt_mul_of_pos_right h1 (by have := h.hb; omega)
  have e : (top + 1) * b ^ (k + 1) * b = (top + 1) * b * b ^ (k + 1) := Nat.mul_right_comm _ _ _
  have := h.lt
  omega
 have h3 : head < (top + 1) * b := by rw [h.ehead, Nat.div_lt_iff_lt_mul hp]; exact h2
 omega
/-- The first guess is not below the quotient. -/
theorem start (h : Heads b k R B head top next r2) {g l : Nat} (hg : g * top + l = head) (hl : l < top) : R / B ≤ g := by
 have h1 := h.low
 have hb := h.hb
 have hr : r2 < b := by rw [h.er2]; exact Nat.mod_lt _ (by omega)
 have h2 : R / B * top * b ≤ R / B * (top * b + next) := by rw [Nat.mul_assoc]; exact Nat.mul_le_mul_left _ (by omega)
 have h3 : R / B * top * b < (head + 1) * b := by rw [Nat.add_mul]; omega
 have h4 : R / B * top < head + 1 := Nat.lt_of_mul_lt_mul_right h3
 have h5 : R / B * top < (g + 1) * top := by rw [Nat.add_mul]; omega
 have := Nat.lt_of_mul_lt_mul_right h5
 omega
/-- Where the guess is tested too great, it is greater than the quotient. -/
theorem great (h : Heads b k R B head top next r2) {g l : Nat} (hg : g * top + l = head) (ht : b ≤ g ∨ l * b + r2 < g * next) : R / B < g := by
 rcases ht with ht | ht
 ·have := h.quo_lt; omega
 ·refine Nat.lt_of_not_le fun hle => ?_
  have h1 := h.low
  have h2 : g * (top * b + next) ≤ R / B * (top * b + next) := Nat.mul_le_mul_right _ hle
  rw [Nat.mul_add, ← Nat.mul_assoc] at h2
  have h3 : head * b = g * top * b + l * b := by rw [← hg, Nat.add_mul]
  omega
/-- Where the rest of the guess is no longer a digit, the guess is one, and small enough. -/
theorem broke (h : Heads b k R B head top next r2) {g l : Nat} (hg : g * top + l = head) (hl : b ≤ l) : g < b ∧ g * next ≤ l * b + r2 := by
 have h1 : g < b := by
  refine Nat.lt_of_not_le fun hle => ?_
  have h2 := h.head_le
  have h3 : b * top ≤ g * top := Nat.mul_le_mul_right _ hle
  rw [Nat.add_mul, Nat.one_mul, Nat.mul_comm top b] at h2
  omega
 refine ⟨h1, ?_⟩
 have hn : next < b := by rw [h.enext]; exact Nat.mod_lt _ (by have := h.hb; omega)
 have h4 : g * next ≤ b * b := Nat.mul_le_mul (by omega) (by omega)
 have h5 : b * b ≤ l * b := Nat.mul_le_mul_right _ hl
 omega
/-- The end of the loop: the guess is the quotient or one more. -/
theorem near (h : Heads b k R B head top next r2) {g l : Nat} (hg : g * top + l = head) (h1 : g < b) (h2 : g * next ≤ l * b + r2) : g ≤ R / B + 1 := by
 have hbp := h.bpos
 have e1 : g * (top * b + next) ≤ head * b + r2 := by
  rw [Nat.mul_add, ← Nat.mul_assoc, ← hg, Nat.add_mul]; omega
 rw [h.b2, h.a3] at e1
 rcases Nat.eq_zero_or_pos g with h0 | h0
 ·rw [h0]; exact Nat.zero_le _
 have hB : B < (B / b ^ k + 1) * b ^ k := by
  have := Nat.mod_add_div B (b ^ k)
  have h3 := Nat.mod_lt B hbp
  rw [Nat.add_mul, Nat.one_mul, Nat.mul_comm (B / _)]; omega
 have hR : R / b ^ k * b ^ k ≤ R := Nat.div_mul_le_self _ _
 have e2 : g * (B / b ^ k) * b ^ k ≤ R := Nat.le_trans (Nat.mul_le_mul_right _ e1) hR
 have e3 : g * B < g * ((B / b ^ k + 1) * b ^ k) := Nat.mul_lt_mul_of_pos_left hB h0
 have e4 : g * ((B / b ^ k + 1) * b ^ k) = g * (B / b ^ k) * b ^ k + g * b ^ k := by
  rw [Nat.add_mul, Nat.one_mul, Nat.mul_add, Nat.mul_assoc]
 have e5 : g * b ^ k ≤ B := by
  have s1 : g * b ^ k ≤ b * b ^ k := Nat.mul_le_mul_right _ (by omega)
  have s2 : b ^ (k + 1) ≤ B := by
   have := h.pos
   rw [h.etop] at this
   exact Nat.le_of_lt_succ (by
    refine Nat.lt_succ_of_le (Nat.le_of_not_lt fun hlt => ?_)
    rw [Nat.div_eq_of_lt hlt] at this; omega)
  rw [Nat.pow_succ, Nat.mul_comm] at s2
  omega
 have e6 : (g - 1) * B ≤ R := by
  obtain ⟨g', rfl⟩ : ∃ g', g = g' + 1 := ⟨g - 1, by omega⟩
  rw [Nat.add_mul, Nat.one_mul] at e3
  rw [Nat.add_sub_cancel]
  omega
 have := (Nat.le_div_iff_mul_le h.Bpos).2 e6
 omega
end Heads
/-- A guess that is the quotient or one more, put right by one comparison. -/
theorem guess_right {R B g : Nat} (hB : 0 < B) (h1 : R / B ≤ g) (h2 : g ≤ R / B + 1) : (R < B * g → g = R / B + 1) ∧ (B * g ≤ R → g = R / B) := by
 constructor
 ·intro h
  rcases Nat.lt_or_ge g (R / B + 1) with h3 | h3
  ·have : g = R / B := by omega
   subst this
   have := Nat.mul_div_le R B
   omega
  ·omega
 ·intro h
  have := (Nat.le_div_iff_mul_le hB).2 (show g * B ≤ R by rw [Nat.mul_comm]; exact h)
  omega
theorem rest_right {R B : Nat} : R - B * (R / B) = R % B := by
 have := Nat.mod_add_div R B
 omega
end
section
open Go.Proofs.YtnjbinpbkjdjpaaGreatDoorW.PrintLast Go.Proofs.YtnjbinpbkjdjpaaGreatDoorW.PrintMore Go.Proofs.YtnjbinpbkjdjpaaGreatDoorW.PrintWords Go.RowKit
def cmpI (a b : Int) : Int := if a < b then -1 else if b < a then 1 else 0
theorem ret_i {k : IntKind} {a b : Int} (h : a = b) : Ending.returned (.int k a) = .returned (.int k b) := by rw [h]
theorem ret_b {a b : Bool} (h : a = b) : Ending.returned (.bool a) = .returned (.bool b) := by rw [h]
theorem compare_calls (a b : Int) (w : World) :
 Calls Tryz.prog 217 #[.int .i64 a, .int .i64 b] w fun e w' => e = .returned (.int .i64 (cmpI a b)) ∧ w' = w := by
 go_enter Tryz.func217, Tryz.ntmps217
 go_wp2
 all_goals go_ret
 all_goals exact ⟨ret_i (by unfold cmpI; split <;> first | omega | (split <;> omega)), rfl⟩
/-- The base of the limbs. -/
def BB : Nat := 1000000000
theorem BB1 : 1 < BB := by decide
/-- A magnitude in memory: the limbs of n. -/
def Mag (w : World) (B : Nat) (A : Option Addr) (L n : Nat) : Prop :=
 (dg BB n).length = L ∧ L ≤ 100000 ∧ (0 < L → ∃ b, A = some ⟨b, 0, none⟩ ∧ b < B ∧ ∀ j, j < L → w.cell? ⟨b, j, none⟩ = some (.int .u32 ((dg BB n).getD j 0 : Nat)))
theorem Mag.below {w w' : World} {B : Nat} {A : Option Addr} {L n : Nat} (h : Mag w B A L n) (hb : Below B w w') : Mag w' B A L n := by
 obtain ⟨h1, h2, h3⟩ := h
 refine ⟨h1, h2, fun hL => ?_⟩
 obtain ⟨b, rfl, hlt, hc⟩ := h3 hL
 exact ⟨b, rfl, hlt, fun j hj => (hb.cell (p := ⟨b, j, none⟩) hlt).trans (hc j hj)⟩
theorem Mag.more {w : World} {B B' : Nat} {A : Option Addr} {L n : Nat} (h : Mag w B A L n) (hb : B ≤ B') : Mag w B' A L n := by
 obtain ⟨h1, h2, h3⟩ := h
 refine ⟨h1, h2, fun hL => ?_⟩
 obtain ⟨b, rfl, hlt, hc⟩ := h3 hL
 exact ⟨b, rfl, by omega, hc⟩
theorem Mag.zero (w : World) (B : Nat) (A : Option Addr) : Mag w B A 0 0 := ⟨by rw [dg_zero]; rfl, by omega, fun h => absurd h (by omega)⟩
theorem Mag.len_zero {w : World} {B : Nat} {A : Option Addr} {L n : Nat} (h : Mag w B A L n) : L = 0 ↔ n = 0 := by
 obtain ⟨h1, _, _⟩ := h
 rw [← h1, List.length_eq_zero_iff, dg_nil BB1]
theorem bcell {W w1 : World} (hb : Below W.heap.size W w1) : (∀ b o, b < W.heap.size → w1.cell? ⟨b, o, none⟩ = W.cell? ⟨b, o, none⟩) ∧ (∀ b o, b < W.heap.size → w1.frozen? ⟨b, o, none⟩ = W.frozen? ⟨b, o, none⟩) :=
 ⟨fun b o h => hb.cell (p := ⟨b, o, none⟩) h, fun b o h => hb.frozen (p := ⟨b, o, none⟩) h⟩
theorem isZero_calls {w : World} {B : Nat} {A : Option Addr} {L n : Nat} (h : Mag w B A L n) :
 Calls Tryz.prog 74 #[.agg #[.slice A L L]] w fun e w' => e = .returned (.bool (decide (n = 0))) ∧ Below w.heap.size w w' := by
 have hz := h.len_zero
 clear h
 go_enter Tryz.func74, Tryz.ntmps74
 go_wp2
 go_ret
 exact ⟨ret_b (by rw [Bool.eq_iff_iff]; simp; omega), (Below.refl _ _).alloc (Nat.le_refl _) _⟩
theorem limb_calls {w : World} {B : Nat} {A : Option Addr} {L n : Nat} (h : Mag w B A L n) (hB : B ≤ w.heap.size) (i : Nat) :
 Calls Tryz.prog 193 #[.agg #[.slice A L L], .int .i64 i] w fun e w' => e = .returned (.int .u64 (n / BB ^ i % BB : Nat)) ∧ Below w.heap.size w w' := by
 have hg := dg_getD BB1 i n
 obtain ⟨h1, h2, h3⟩ := h
 have hlt := dg_lt BB1 n
 by_cases hi : i < L
 ·obtain ⟨b, rfl, hb, hc⟩ := h3 (by omega)
  have hci := hc i hi
  rw [hg] at hci
  have hv : (n / BB ^ i % BB : Nat) < BB := Nat.mod_lt _ (by decide)
  clear h1 h3 hlt hg hc
  generalize n / BB ^ i % BB = v at *
  have hv2 : v < 1000000000 := hv
  clear hv
  have hbw : b < w.heap.size := by omega
  go_enter Tryz.func193, Tryz.ntmps193
  go_wp2
  go_ret
  exact ⟨rfl, (Below.refl _ _).alloc (Nat.le_refl _) _⟩
 ·have hz : n / BB ^ i % BB = 0 := by
   rw [← hg, List.getD_eq_getElem?_getD, List.getElem?_eq_none (by omega)]; rfl
  rw [hz]
  clear h1 h3 hlt hg hz
  go_enter Tryz.func193, Tryz.ntmps193
  go_wp2
  go_ret
  exact ⟨rfl, (Below.refl _ _).alloc (Nat.le_refl _) _⟩
theorem bl {B : Nat} {w W : World} (h : Below B w W := by repeat (first | (with_reducible exact HB.out) | (with_reducible exact Below.refl _ _) | (with_reducible apply below_alloc) | (with_reducible apply pw_below_drewN) | (with_reducible apply below_drew1) | refine below_set ?_ (by omega))) : Below B w W := h
theorem zb {k : Nat} {W w1 : World} (hb : Below W.heap.size W w1) (h : k < W.heap.size := by first | (with_reducible assumption) | omega | (simp only [World.size_alloc, World.size_setCell, World.size_drew, World.size_drewN]; omega) | (simp; omega) | (simp; done)) : k < w1.heap.size := Nat.lt_of_lt_of_le h hb.size
theorem sb {w W w1 : World} (hb : Below W.heap.size W w1) (h : Below w.heap.size w W := by repeat (first | (with_reducible exact HB.out) | (with_reducible exact Below.refl _ _) | (with_reducible apply below_alloc) | (with_reducible apply pw_below_drewN) | (with_reducible apply below_drew1) | refine below_set ?_ (by omega))) : Aside0 (Below w.heap.size w w1) := ⟨below_step h hb⟩
section
variable {P : Program} {md : Region.Mode} {ops : Array Oper} {Q : Exit → Act → World → Prop} {S : World → Prop} {oi : Oper} {fuel : Nat} {listed : Array Bool} {a : Act} {w : World}
theorem tk (i : Nat) {v : Value} (hy : ∀ w, S w → (execOp a.eval oi).run P w = .ok (.value v) w) (h : wpAnyH P md ops Q S fuel (listed.setIfInBounds i true) (a.put oi.dst v) w)
 (hi : ops[i]? = some oi := by exact rfl) (hs : Region.noSelect ops = true := by kernel_rfl) (hf : Region.free md ops listed i = true := by kernel_rfl) (hr : (Region.ready md ops listed).contains i = true := by kernel_rfl)
 (hQ : ∀ c a w, Q (.panic c) (a.put oi.dst v) w → Q (.panic c) a w := by exact fun _ _ _ h => h) (hg : Region.wanted oi (yielded ops a.tmps) = true := by rfl) (hS : S w := by assumption) : wpAnyH P md ops Q S (fuel + 1) listed a w :=
 wpAnyH_take hi hs hf hr hQ (.inl ⟨hg, hy⟩) hS h
theorem tu (i : Nat) (h : wpAnyH P md ops Q S fuel (listed.setIfInBounds i true) (a.put oi.dst undef) w)
 (hi : ops[i]? = some oi := by exact rfl) (hs : Region.noSelect ops = true := by kernel_rfl) (hf : Region.free md ops listed i = true := by kernel_rfl) (hr : (Region.ready md ops listed).contains i = true := by kernel_rfl)
 (hQ : ∀ c a w, Q (.panic c) (a.put oi.dst undef) w → Q (.panic c) a w := by exact fun _ _ _ h => h) (hg : Region.wanted oi (yielded ops a.tmps) = false := by rfl) (hS : S w := by assumption) : wpAnyH P md ops Q S (fuel + 1) listed a w :=
 wpAnyH_take hi hs hf hr hQ (.inr ⟨hg, rfl⟩) hS h
theorem tp (i : Nat) {v : Value} (h : wpAnyH P md ops Q S fuel (listed.setIfInBounds i true) (a.put oi.dst v) w) (hi : ops[i]? = some oi := by exact rfl)
 (hy : ∀ w, S w → (execOp a.eval oi).run P w = .ok (.value v) w := by (intro wS hSw; (try dsimp only at hSw); (first | (go_simp; done) | (go_simp; with_reducible rfl))))
 (hs : Region.noSelect ops = true := by kernel_rfl) (hf : Region.free md ops listed i = true := by kernel_rfl) (hr : (Region.ready md ops listed).contains i = true := by kernel_rfl)
 (hQ : ∀ c a w, Q (.panic c) (a.put oi.dst v) w → Q (.panic c) a w := by exact fun _ _ _ h => h) (hg : Region.wanted oi (yielded ops a.tmps) = true := by rfl) (hS : S w := by assumption) : wpAnyH P md ops Q S (fuel + 1) listed a w :=
 tk i hy h hi hs hf hr hQ hg hS
theorem tc (i : Nat) (h : ∀ K, Shut (∀ a w, S w → (S w → wpAnyH P md ops Q S fuel (listed.setIfInBounds i true) a w) → K a w) → if Region.wanted oi (yielded ops a.tmps) = true then Oper.wp P oi a w K Q else K (a.put oi.dst undef) w)
 (hi : ops[i]? = some oi := by exact rfl) (hr : Region.ready md ops listed = [i] := by kernel_rfl) : wpAnyH P md ops Q S (fuel + 1) listed a w := wpAnyH_ready hr (by simp) (AllReadyH.cons hi h AllReadyH.nil)
theorem wq {b0 : Nat} (KP : Aside0 (∀ V, Below b0 w V → S V)) {id : Nat} (h : S w.drew → wpAnyH P .any ops Q S ops.size (Array.replicate ops.size false) a w.drew) (hm : P.follows .mixedOrders = true := by kernel_rfl) : (Code.region id ops true).wp P Q a w :=
 wp_region_held_drew hm (KP.out _ (below_drew1 (Below.refl _ _))) h
end
theorem PU : (∀ (a : Act) (d : Nat) (v : Value), a.put (some d) v = { a with tmps := a.tmps.setIfInBounds d v }) ∧ (∀ (a : Act) (v : Value), a.put none v = a) ∧
 (∀ (l : List Value) (i : Nat) (v : Value), l.toArray.setIfInBounds i v = (l.set i v).toArray) ∧ (∀ (x : Value) (l : List Value) (v : Value), (x :: l).set 0 v = v :: l) ∧ (∀ (x : Value) (l : List Value) (i : Nat) (v : Value), (x :: l).set (i + 1) v = x :: l.set i v) ∧
 (∀ (l : List Bool) (i : Nat) (v : Bool), l.toArray.setIfInBounds i v = (l.set i v).toArray) ∧ (∀ (x : Bool) (l : List Bool) (v : Bool), (x :: l).set 0 v = v :: l) ∧ (∀ (x : Bool) (l : List Bool) (i : Nat) (v : Bool), (x :: l).set (i + 1) v = x :: l.set i v) ∧
 (∀ (l : List Oper) (i : Nat) (h : i < l.toArray.size), l.toArray[i]'h = l[i]'(by simpa using h)) ∧ (∀ (x : Oper) (l : List Oper) (h : 0 < (x :: l).length), (x :: l)[0]'h = x) ∧ (∀ (x : Oper) (l : List Oper) (i : Nat) (h : i + 1 < (x :: l).length), (x :: l)[i + 1]'h = l[i]'(Nat.lt_of_succ_lt_succ h)) :=
 ⟨fun _ _ _ => rfl, fun _ _ => rfl, fun _ _ _ => List.setIfInBounds_toArray .., fun _ _ _ => rfl, fun _ _ _ _ => rfl, fun _ _ _ => List.setIfInBounds_toArray .., fun _ _ _ => rfl, fun _ _ _ _ => rfl, fun _ _ _ => List.getElem_toArray .., fun _ _ _ => rfl, fun _ _ _ _ => rfl⟩
theorem strip_snoc0 : ∀ L : List Nat, strip (L ++ [0]) = strip L
 | [] => by simp [strip]
 | d :: L => by rw [List.cons_append, strip, strip, strip_snoc0 L]
theorem strip_snoc {d : Nat} (hd : d ≠ 0) : ∀ L : List Nat, strip (L ++ [d]) = L ++ [d]
 | [] => by simp [strip, hd]
 | x :: L => by rw [List.cons_append, strip, strip_snoc hd L, if_neg (by simp)]
theorem getD_lt {xs : List Nat} {k : Nat} (h : k < xs.length) : xs.getD k 0 = xs[k] := by simp [List.getD_eq_getElem?_getD, h]
theorem take_snoc' (xs : List Nat) {k : Nat} (h : k < xs.length) : xs.take (k + 1) = xs.take k ++ [xs.getD k 0] := by
 rw [List.take_succ_eq_append_getElem h, getD_lt h]
/-- The length of a slice. -/
def _root_.Go.Value.lenN : Value → Nat
 | .slice _ n _ => n
 | _ => 0
/-- A list of limbs in memory. -/
def Lst (w : World) (B : Nat) (A : Option Addr) (L : Nat) (xs : List Nat) : Prop :=
 xs.length = L ∧ (0 < L → ∃ b, A = some ⟨b, 0, none⟩ ∧ b < B ∧ ∀ j, j < L → w.cell? ⟨b, j, none⟩ = some (.int .u32 (xs.getD j 0 : Nat)))
theorem Lst.below {w w' : World} {B : Nat} {A : Option Addr} {L : Nat} {xs : List Nat} (h : Lst w B A L xs) (hb : Below B w w') : Lst w' B A L xs := by
 obtain ⟨h1, h3⟩ := h
 refine ⟨h1, fun hL => ?_⟩
 obtain ⟨b, rfl, hlt, hc⟩ := h3 hL
 exact ⟨b, rfl, hlt, fun j hj => (hb.cell (p := ⟨b, j, none⟩) hlt).trans (hc j hj)⟩
theorem Lst.mag {w : World} {B : Nat} {A : Option Addr} {L n : Nat} (h : Lst w B A L (dg BB n)) (hL : L ≤ 100000) : Mag w B A L n := ⟨h.1, hL, h.2⟩
theorem Mag.lst {w : World} {B : Nat} {A : Option Addr} {L n : Nat} (h : Mag w B A L n) : Lst w B A L (dg BB n) := ⟨h.1, h.2.2⟩
/-- What is left of a list when strip ends. -/
theorem Lst.stripped {w : World} {B : Nat} {A : Option Addr} {L k : Nat} {xs : List Nat} (h : Lst w B A L xs) (hd : ∀ d ∈ xs, d < BB) (hk : k ≤ L) (hL : L ≤ 100000)
 (hs : strip (xs.take k) = strip xs) (he : k = 0 ∨ xs.getD (k - 1) 0 ≠ 0) : Mag w B A k (val BB xs) := by
 have e : dg BB (val BB xs) = xs.take k := by
  rw [← strip_dg BB1 xs hd, ← hs]
  rcases he with rfl | he
  ·rfl
  ·rcases Nat.eq_zero_or_pos k with rfl | h0
   ·rfl
   ·obtain ⟨k, rfl⟩ : ∃ j, k = j + 1 := ⟨k - 1, by omega⟩
    rw [take_snoc' xs (by have := h.1; omega)]
    exact strip_snoc (by simpa using he) _
 obtain ⟨h1, h3⟩ := h
 refine ⟨by rw [e, List.length_take]; omega, by omega, fun h0 => ?_⟩
 obtain ⟨b, rfl, hlt, hc⟩ := h3 (by omega)
 refine ⟨b, rfl, hlt, fun j hj => ?_⟩
 rw [hc j (by omega), e, List.getD_eq_getElem?_getD, List.getD_eq_getElem?_getD, List.getElem?_take, if_pos hj]
theorem last_calls {w : World} {B : Nat} {A : Option Addr} {L c z k : Nat} {xs : List Nat} (h : Lst w B A L xs) (hk : k ≤ L) (hd : ∀ d ∈ xs, d < BB) (hc : k ≤ c)
 (hz : w.cell? ⟨z, 0, none⟩ = some (.int .u32 0)) (hL : L ≤ 100000) :
 Calls Tryz.prog 213 #[.slice A k c, .pointer (some ⟨z, 0, none⟩)] w fun e w' => e = .returned (.bool (decide (0 < k) && decide (xs.getD (k - 1) 0 = 0))) ∧ ∃ q, w' = w.drewN q := by
 by_cases h0 : 0 < k
 ·obtain ⟨h1, h3⟩ := h
  obtain ⟨b, rfl, hlt, hcl⟩ := h3 (by omega)
  obtain ⟨k, rfl⟩ : ∃ j, k = j + 1 := ⟨k - 1, by omega⟩
  have hck := hcl k (by omega)
  have hv : xs.getD k 0 < 1000000000 := by
   have := hd (xs.getD k 0) (by rw [getD_lt (by omega)]; exact List.getElem_mem _)
   exact this
  rw [show k + 1 - 1 = k from rfl, decide_eq_true h0, Bool.true_and]
  clear h1 h3 hcl hd h0
  generalize xs.getD k 0 = v at *
  have g1 : decide ((0 : Int) < (k : Int) + 1) = true := decide_eq_true (by omega)
  have g1' : decide ((0 : Int) < ((k + 1 : Nat) : Int)) = true := decide_eq_true (by omega)
  have g2 : IntKind.i64.wrap ((k : Int) + 1 - 1) = (k : Int) := by rw [show (k : Int) + 1 - 1 = (k : Int) by omega]; exact IntWalk.i64_in _ (by omega)
  have g2' : IntKind.i64.wrap (((k + 1 : Nat) : Int) - 1) = (k : Int) := by rw [show ((k + 1 : Nat) : Int) - 1 = (k : Int) by omega]; exact IntWalk.i64_in _ (by omega)
  go_enter Tryz.func213, Tryz.ntmps213
  go_wp2_with fail
  go_quiet (fail)
  go_wp2
  go_ret
  exact ⟨ret_b (by rw [Bool.eq_iff_iff]; simp; try omega), ⟨_, rfl⟩⟩
 ·obtain rfl : k = 0 := by omega
  have g1 : decide ((0 : Int) < ((0 : Nat) : Int)) = false := by decide
  go_enter Tryz.func213, Tryz.ntmps213
  go_wp2_with fail
  go_quiet (fail)
  go_wp2
  go_ret
  exact ⟨ret_b (by simp), ⟨_, rfl⟩⟩
theorem strip_calls {w : World} {B : Nat} {A : Option Addr} {L c : Nat} {xs : List Nat} (h : Lst w B A L xs) (hd : ∀ d ∈ xs, d < BB) (hLc : L ≤ c) (hL : L ≤ 100000) (hB : B ≤ w.heap.size) :
 Calls Tryz.prog 180 #[.slice A L c] w fun e w' => ∃ k : Nat, e = .returned (.slice A k k) ∧ Mag w' B A k (val BB xs) ∧ Below w.heap.size w w' := by
 have H : Aside0 (Lst w B A L xs) := ⟨h⟩
 have HD : Aside0 (∀ d ∈ xs, d < BB) := ⟨hd⟩
 clear h hd
 go_enter Tryz.func180, Tryz.ntmps180
 go_wp2_with fail
 have hz0 : ∀ q, ((w.alloc (.cells #[.int .u32 0] 22)).drewN q).cell? ⟨w.heap.size, 0, none⟩ = some (.int .u32 0) := fun q => by simp
 have HZ : Aside0 (∀ q, ((w.alloc (.cells #[.int .u32 0] 22)).drewN q).cell? ⟨w.heap.size, 0, none⟩ = some (.int .u32 0)) := ⟨hz0⟩
 clear hz0
 have HL : Aside0 (∀ q, Lst ((w.alloc (.cells #[.int .u32 0] 22)).drewN q) B A L xs) := ⟨fun q => H.out.below (pw_below_drewN ((Below.refl _ _).alloc hB _) q)⟩
 go_loopw [0] (fun v0 W => ∃ k : Nat, v0 = .slice A k c ∧ k ≤ L ∧ Aside0 (strip (xs.take k) = strip xs) ∧ ∃ q, W = (w.alloc (.cells #[.int .u32 0] 22)).drewN q) (fun v0 _ => Value.lenN v0)
 case atStart => exact ⟨L, rfl, Nat.le_refl _, ⟨by rw [List.take_of_length_le (by rw [H.out.1]; exact Nat.le_refl _)]⟩, 0, rfl⟩
 case round =>
  obtain ⟨k, rfl, hk, hs, q, rfl⟩ := hrel
  by_cases ht : 0 < k ∧ xs.getD (k - 1) 0 = 0
  ·obtain ⟨hk0, hx⟩ := ht
   have HX : Aside0 (xs.getD (k - 1) 0 = 0) := ⟨hx⟩
   clear hx
   go_wp2_with (go_at_call 213; (with_reducible refine (last_calls (HL.out q) hk HD.out (by omega) (HZ.out q) hL).mono ?_); rw [HX.out, decide_eq_true hk0]; rintro e w' ⟨rfl, q2, rfl⟩)
   go_roundw
   case rel => exact ⟨k - 1, rfl, by omega, ⟨by
    obtain ⟨k, rfl⟩ : ∃ j, k = j + 1 := ⟨k - 1, by omega⟩
    have hx := HX.out
    rw [show k + 1 - 1 = k from rfl] at hx ⊢
    rw [← hs.out, take_snoc' xs (by rw [H.out.1]; omega), hx, strip_snoc0]⟩, _, rfl⟩
   case measure => simp only [Value.lenN]; omega
  ·have hb : (decide (0 < k) && decide (xs.getD (k - 1) 0 = 0)) = false := by
    rw [Bool.eq_false_iff]; simp only [ne_eq, Bool.and_eq_true, decide_eq_true_eq]; exact ht
   have HBF : Aside0 ((decide (0 < k) && decide (xs.getD (k - 1) 0 = 0)) = false) := ⟨hb⟩
   have HT : Aside0 (¬ (0 < k ∧ xs.getD (k - 1) 0 = 0)) := ⟨ht⟩
   clear hb ht
   go_wp2_with (first | (go_at_call 213; (with_reducible refine (last_calls (HL.out q) hk HD.out (by omega) (HZ.out q) hL).mono ?_); rw [HBF.out]; rintro e w' ⟨rfl, q2, rfl⟩) | go_in)
   go_ret
   exact ⟨k, rfl, (HL.out _).stripped HD.out hk hL hs.out (by
    have := HT.out
    rcases Nat.eq_zero_or_pos k with h0 | h0
    ·exact .inl h0
    ·exact .inr fun hx => this ⟨h0, hx⟩), pw_below_drewN ((Below.refl _ _).alloc (Nat.le_refl _) _) _⟩
theorem info_u32 : (Tryz.prog.info? 22).map (fun i => (i.zero, i.size, i.bytes)) = some (some (.int .u32 0), 1, 4) := by kernel_rfl
theorem own_base {w : World} {base : Nat} {e : TypeId} {size n k : Nat} {v : Value} {xs : List Value} (h : w.ownsRow base e size v n xs) (hk : v.ownBlock = some k) : base ≤ k := by
 rcases h.2 with ⟨rfl, _⟩ | ⟨g, cap, cur, rfl, hb, _⟩
 ·simp [Value.ownBlock] at hk
 ·have : g = k := by simpa [Value.ownBlock] using hk
  omega
theorem push_calls {w : World} {p n : Nat} {v : Value} {xs : List Value} (hp : w.cell? ⟨p, 0, none⟩ = some v) (hf : w.frozen? ⟨p, 0, none⟩ = false) (hown : w.ownsRow (p + 1) 22 1 v n xs) (hn : n ≤ 100000) (d : Int) :
 Calls Tryz.prog 233 #[.agg #[.pointer (some ⟨p, 0, none⟩)], .int .u32 d] w fun e w' => e = .returned (.tuple #[]) ∧ ∃ g cap, w'.cell? ⟨p, 0, none⟩ = some (.slice (some ⟨g, 0, none⟩) (n + 1) cap) ∧
  w'.frozen? ⟨p, 0, none⟩ = false ∧ w'.ownsRow (p + 1) 22 1 (.slice (some ⟨g, 0, none⟩) (n + 1) cap) (n + 1) (xs ++ [.int .u32 d]) ∧ Below p w w' := by
 obtain ⟨i0, hi0, hz0, hz1, hz2⟩ := info_parts info_u32
 have hlt := World.block_lt_of_cell? w _ hp
 have HO : Aside0 (w.ownsRow (p + 1) 22 1 v n xs) := ⟨hown⟩
 clear hown
 have hne : some p ≠ v.ownBlock := fun e => by
  have := own_base HO.out e.symm
  have : p + 1 ≤ p := this
  omega
 have HN : Aside0 (((w.alloc (.cells #[.pointer (some ⟨p, 0, none⟩)] 272)).alloc (.cells #[.int .u32 d] 22)).heap[w.heap.size + 1]? = some (.cells #[.int .u32 d] 22)) := ⟨by
  have := heap_alloc_new (w.alloc (.cells #[.pointer (some ⟨p, 0, none⟩)] 272)) (.cells #[.int .u32 d] 22)
  rw [World.size_alloc] at this
  exact this⟩
 have HB : Aside0 (Below w.heap.size w ((w.alloc (.cells #[.pointer (some ⟨p, 0, none⟩)] 272)).alloc (.cells #[.int .u32 d] 22))) := ⟨((Below.refl _ _).alloc (Nat.le_refl _) _).alloc (by simp) _⟩
 have HC : Aside0 (((w.alloc (.cells #[.pointer (some ⟨p, 0, none⟩)] 272)).alloc (.cells #[.int .u32 d] 22)).cell? ⟨p, 0, none⟩ = some v ∧ ((w.alloc (.cells #[.pointer (some ⟨p, 0, none⟩)] 272)).alloc (.cells #[.int .u32 d] 22)).frozen? ⟨p, 0, none⟩ = false) := ⟨(HB.out.cell (p := ⟨p, 0, none⟩) hlt).trans hp, (HB.out.frozen (p := ⟨p, 0, none⟩) hlt).trans hf⟩
 have HD : Aside0 (((w.alloc (.cells #[.pointer (some ⟨p, 0, none⟩)] 272)).alloc (.cells #[.int .u32 d] 22)).cell? ⟨w.heap.size, 0, none⟩ = some (.pointer (some ⟨p, 0, none⟩))) := ⟨by simp⟩
 have hne2 : some w.heap.size ≠ v.ownBlock := fun e => by
  have := (HO.out.lt _ e.symm).2
  omega
 go_enter Tryz.func233, Tryz.ntmps233
 go_wp2_with fail
 go_region_law
  ((refine step_append_lies _ (by rfl) _ _ _ (by rfl) (p + 1) 22 i0 _ 1 4 Tryz.underlying99 hi0 hz0 hz1 hz2 rfl (by omega) v n xs (by rfl) (by repeat (first | exact HO.out | apply World.ownsRow.alloc | apply World.ownsRow.drew))
     ⟨w.heap.size + 1, 0, none⟩ 1 1 [.int .u32 d] (by rfl) (by rfl) (World.news_of_block (cs := #[.int .u32 d]) (t := 22) (fr := (0, 0)) HN.out) (by simp [Value.oneCell'])
     (by omega) (by unfold maxLen; omega) (by omega) (by simp; omega) (w.heap.size + 2) (by simp) ?_; intro gg cap w1 hown1 hgrow hat hltg;
    have hcp : w1.cell? ⟨p, 0, none⟩ = some v := (hgrow.cell_far ⟨p, 0, none⟩ (by simp; omega) hne).trans HC.out.1;
    have hfp : w1.frozen? ⟨p, 0, none⟩ = false := (hgrow.frozen_far ⟨p, 0, none⟩ (by simp; omega) hne).trans HC.out.2;
    have hcb : w1.cell? ⟨w.heap.size, 0, none⟩ = some (.pointer (some ⟨p, 0, none⟩)) := (hgrow.cell_far ⟨w.heap.size, 0, none⟩ (by simp; omega) hne2).trans HD.out))
 all_goals go_end0
 all_goals refine ⟨rfl, gg, cap, World.cell?_setCell_same' _ _ _ (by rw [hcp]; rfl), by rw [World.frozen?_setCell]; exact hfp, ownsRow_setCell_below hown1 (by simp) _, ?_⟩
 all_goals exact (((HB.out.mono (by omega)).drew.grown hgrow (by simp; omega) (fun k hk => by have := own_base HO.out hk; omega)).setCell (by simp) _)
theorem bJoin {w1 W W2 : World} (hb : Below W.heap.size W W2) (hS : Below w1.heap.size w1 W) : Below w1.heap.size w1 W2 := hS.trans (hb.mono hS.size)
theorem keepAt {w1 W2 : World} (h : Below w1.heap.size w1 W2) {b o : Nat} {v : Value} (hc : w1.cell? ⟨b, o, none⟩ = some v) : W2.cell? ⟨b, o, none⟩ = some v :=
 (h.cell (World.block_lt_of_cell? w1 _ hc)).trans hc
theorem Mag.keep {w w' : World} {B : Nat} {A : Option Addr} {L n : Nat} (h : Mag w B A L n) (hB : B ≤ w.heap.size) (hb : Below w.heap.size w w') : Mag w' B A L n := h.below (hb.mono hB)
theorem Mag.set {w : World} {B : Nat} {A : Option Addr} {L n : Nat} (h : Mag w B A L n) (p : Addr) (hp : ∀ b, b < B → A = some ⟨b, 0, none⟩ → b ≠ p.block) (u : Value) : Mag (w.setCell p u) B A L n := by
 obtain ⟨h1, h2, h3⟩ := h
 refine ⟨h1, h2, fun hL => ?_⟩
 obtain ⟨b, rfl, hlt, hc⟩ := h3 hL
 exact ⟨b, rfl, hlt, fun j hj => (World.cell?_setCell_other w p ⟨b, j, none⟩ u (fun e => hp b hlt rfl (by subst e; rfl))).trans (hc j hj)⟩
theorem limb_any {w W : World} {B : Nat} {A : Option Addr} {L n : Nat} (h : Mag w B A L n) (hB : B ≤ w.heap.size) (hb : Below w.heap.size w W) (i : Nat) {x : Nat} (hx : n / BB ^ i % BB = x) :
 Calls Tryz.prog 193 #[.agg #[.slice A L L], .int .i64 i] W fun e w' => e = .returned (.int .u64 x) ∧ Below W.heap.size W w' := by
 subst hx
 exact limb_calls (h.keep hB hb) (Nat.le_trans hB hb.size) i
theorem lst_one (w : World) (d : Nat) (t : TypeId) : Lst (w.alloc (.cells #[.int .u32 d] t)) (w.heap.size + 1) (some ⟨w.heap.size, 0, none⟩) 1 [d] :=
 ⟨rfl, fun _ => ⟨_, rfl, by omega, fun j hj => by
  obtain rfl : j = 0 := by omega
  simp⟩⟩
theorem val_one (d : Nat) : val BB [d] = d := by simp [val]
theorem strip_one {d : Nat} (hd : d < BB) (w : World) (b : Nat) (t : TypeId) (hb : b = w.heap.size) :
 Calls Tryz.prog 180 #[.slice (some ⟨b, 0, none⟩) 1 1] (w.alloc (.cells #[.int .u32 d] t)) fun e w' => ∃ k : Nat, e = .returned (.slice (some ⟨b, 0, none⟩) k k) ∧ Mag w' (b + 1) (some ⟨b, 0, none⟩) k d ∧ Below (b + 1) (w.alloc (.cells #[.int .u32 d] t)) w' := by
 subst hb
 refine (strip_calls (B := w.heap.size + 1) (xs := [d]) (c := 1) (lst_one _ d _) (by simpa using hd) (Nat.le_refl _) (by omega) (by simp)).mono ?_
 rintro e w' ⟨k, rfl, hm, hb⟩
 rw [val_one] at hm
 exact ⟨k, rfl, hm, by simpa using hb⟩
theorem small_calls {d : Nat} (hd : d < BB) (w : World) :
 Calls Tryz.prog 166 #[.int .u32 d] w fun e w' => ∃ A k, e = .returned (.agg #[.slice A k k, .bool false]) ∧ Mag w' w'.heap.size A k d ∧ Below w.heap.size w w' := by
 have HD : Aside0 (d < BB) := ⟨hd⟩
 clear hd
 go_enter Tryz.func166, Tryz.ntmps166
 go_wp2_with (go_at_call 180; (with_reducible refine (strip_one HD.out _ _ _ (by simp)).mono ?_); rintro e w1 ⟨k, rfl, hm, hb⟩; have hc0 : w1.cell? ⟨w.heap.size, 0, none⟩ = some (.slice none 0 0) := (hb.cell (p := ⟨w.heap.size, 0, none⟩) (by simp; omega)).trans (by simp); have hc1 : w1.cell? ⟨w.heap.size, 1, none⟩ = some (.bool false) := (hb.cell (p := ⟨w.heap.size, 1, none⟩) (by simp; omega)).trans (by simp); have hf0 : w1.frozen? ⟨w.heap.size, 0, none⟩ = false := (hb.frozen (p := ⟨w.heap.size, 0, none⟩) (by simp; omega)).trans (by simp); have hf1 : w1.frozen? ⟨w.heap.size, 1, none⟩ = false := (hb.frozen (p := ⟨w.heap.size, 1, none⟩) (by simp; omega)).trans (by simp))
 refine bodyPost_ret (v := .agg #[.slice (some ⟨w.heap.size + 1, 0, none⟩) k k, .bool false]) (by simp [results, Tryz.results166, go_sem, hc0, hc1]) rfl ⟨_, k, rfl, ?_, ?_⟩
 ·refine ((hm.set _ ?_ _).set _ ?_ _).more (by have := hb.size; simp at this ⊢; omega)
  all_goals (intro b _ e; injection e with e; injection e with e; subst e; simp)
 ·exact ((((((Below.refl _ _).alloc (Nat.le_refl _) _).alloc (by simp) _).trans (hb.mono (by omega))).setCell (by simp) _).setCell (by simp) _)
theorem isZero_any {w W : World} {B : Nat} {A : Option Addr} {L n : Nat} (h : Mag w B A L n) (hB : B ≤ w.heap.size) (hb : Below w.heap.size w W) {r : Bool} (hr : decide (n = 0) = r) :
 Calls Tryz.prog 74 #[.agg #[.slice A L L]] W fun e w' => e = .returned (.bool r) ∧ Below W.heap.size W w' := by
 subst hr
 exact isZero_calls (h.keep hB hb)
theorem signed_calls {w : World} {B : Nat} {A : Option Addr} {L n : Nat} (h : Mag w B A L n) (hB : B ≤ w.heap.size) (neg : Bool) :
 Calls Tryz.prog 139 #[.agg #[.slice A L L], .bool neg] w fun e w' => e = .returned (.agg #[.slice A L L, .bool (neg && decide (n ≠ 0))]) ∧ Mag w' B A L n ∧ Below w.heap.size w w' := by
 have H : Aside0 (Mag w B A L n) := ⟨h⟩
 clear h
 cases neg
 ·go_enter Tryz.func139, Tryz.ntmps139
  go_wp2_with fail
  go_region
  all_goals go_wp2
  have hb : Below w.heap.size w ((w.alloc (.cells #[.slice A L L] 109)).alloc (.cells #[.slice A L L, .bool false] 111)).drew := by repeat (first | exact Below.refl _ _ | apply below_alloc | apply below_drew1)
  refine bodyPost_ret (v := .agg #[.slice A L L, .bool false]) (by simp [results, Tryz.results139, go_sem]) rfl ⟨by simp, H.out.keep hB hb, hb⟩
 ·obtain ⟨r, hr⟩ : ∃ r, decide (n = 0) = r := ⟨_, rfl⟩
  have HR : Aside0 (decide (n = 0) = r) := ⟨hr⟩
  clear hr
  go_enter Tryz.func139, Tryz.ntmps139
  go_wp2_with fail
  go_region_with (go_at_call 74; (with_reducible refine (isZero_any H.out hB (by repeat (first | exact Below.refl _ _ | apply below_alloc | apply below_drew1)) HR.out).mono ?_); rintro e wq ⟨rfl, hbq⟩; have q0 : wq.cell? ⟨w.heap.size, 0, none⟩ = some (.slice A L L) := (hbq.cell (p := ⟨w.heap.size, 0, none⟩) (by first | (simp; omega) | simp)).trans (by simp); have q1 : wq.cell? ⟨w.heap.size + 1, 0, none⟩ = some (.slice none 0 0) := (hbq.cell (p := ⟨w.heap.size + 1, 0, none⟩) (by first | (simp; omega) | simp)).trans (by simp); have q2 : wq.cell? ⟨w.heap.size + 1, 1, none⟩ = some (.bool false) := (hbq.cell (p := ⟨w.heap.size + 1, 1, none⟩) (by first | (simp; omega) | simp)).trans (by simp); have q3 : wq.frozen? ⟨w.heap.size + 1, 0, none⟩ = false := (hbq.frozen (p := ⟨w.heap.size + 1, 0, none⟩) (by first | (simp; omega) | simp)).trans (by simp); have q4 : wq.frozen? ⟨w.heap.size + 1, 1, none⟩ = false := (hbq.frozen (p := ⟨w.heap.size + 1, 1, none⟩) (by first | (simp; omega) | simp)).trans (by simp))
  all_goals go_wp2
  all_goals have hb : Below w.heap.size w ((wq.setCell ⟨w.heap.size + 1, 0, none⟩ (.slice A L L)).setCell ⟨w.heap.size + 1, 1, none⟩ (.bool !r)) :=
   ((below_step (by repeat (first | exact Below.refl _ _ | apply below_alloc | apply below_drew1)) hbq).setCell (by simp) _).setCell (by simp) _
  all_goals refine bodyPost_ret (v := .agg #[.slice A L L, .bool !r]) (by simp [results, Tryz.results139, go_sem, q1, q2]) rfl ⟨?_, H.out.keep hB hb, hb⟩
  all_goals (rw [← HR.out]; simp)
/-- A list of limbs that grows behind a variable p: its cells are out's. -/
def Grows (w : World) (p : Nat) (out : List Nat) : Prop :=
 ∃ v, w.cell? ⟨p, 0, none⟩ = some v ∧ w.frozen? ⟨p, 0, none⟩ = false ∧ w.ownsRow (p + 1) 22 1 v out.length (out.map fun d : Nat => Value.int .u32 (d : Int))
theorem grows_push {w : World} {p : Nat} {out : List Nat} (h : Grows w p out) (hn : out.length ≤ 100000) (d : Int) (e : Nat) (he : d = e) :
 Calls Tryz.prog 233 #[.agg #[.pointer (some ⟨p, 0, none⟩)], .int .u32 d] w fun r w' => r = .returned (.tuple #[]) ∧ Grows w' p (out ++ [e]) ∧ Below p w w' := by
 subst he
 obtain ⟨v, hc, hf, ho⟩ := h
 refine (push_calls hc hf ho hn (e : Int)).mono ?_
 rintro r w' ⟨rfl, g, cap, h1, h2, h3, h4⟩
 exact ⟨rfl, ⟨_, h1, h2, by rw [List.length_append, List.map_append]; exact h3⟩, h4⟩
theorem grows_keep {w w' : World} {p : Nat} {out : List Nat} (h : Grows w p out) (hb : Below w.heap.size w w') : Grows w' p out := by
 obtain ⟨v, hc, hf, ho⟩ := h
 have hl := World.block_lt_of_cell? w _ hc
 exact ⟨v, (hb.cell (p := ⟨p, 0, none⟩) hl).trans hc, (hb.frozen (p := ⟨p, 0, none⟩) hl).trans hf, pw_own_below ho hb⟩
/-- What has grown, as a slice. -/
theorem Grows.lst {w : World} {p : Nat} {out : List Nat} (h : Grows w p out) : ∃ A c, w.cell? ⟨p, 0, none⟩ = some (.slice A out.length c) ∧ out.length ≤ c ∧ (∀ b, A = some ⟨b, 0, none⟩ → p < b) ∧ Lst w w.heap.size A out.length out := by
 obtain ⟨v, hc, hf, ho⟩ := h
 obtain ⟨A, c, rfl⟩ := own_slice ho
 refine ⟨A, c, hc, ?_, ?_, rfl, fun h0 => ?_⟩
 ·rcases ho.2 with ⟨_, h0⟩ | ⟨g, cap, cur, hv, _, _, hnc, _⟩
  ·omega
  ·injection hv with _ _ hcc
   omega
 ·rintro b rfl
  have := own_base ho rfl
  exact this
 ·obtain ⟨g, cap, hv, h1, h2⟩ := ho.form h0
  injection hv with hA
  subst hA
  refine ⟨g, rfl, h2, fun j hj => ?_⟩
  have := ho.cells (g := g) rfl j (.int .u32 (out.getD j 0 : Nat)) (by rw [List.getElem?_map, List.getElem?_eq_getElem hj, getD_lt hj]; rfl)
  have hadd : (⟨g, 0, none⟩ : Addr).add j = ⟨g, j, none⟩ := by unfold Addr.add; split <;> simp_all
  rwa [hadd] at this
theorem appender_calls (p : Nat) (w : World) : Calls Tryz.prog 220 #[.pointer (some ⟨p, 0, none⟩)] w fun r w' => r = .returned (.func (.func 233) #[.agg #[.pointer (some ⟨p, 0, none⟩)]] #[]) ∧ Below w.heap.size w w' := by
 go_enter Tryz.func220, Tryz.ntmps220
 go_wp2
 go_ret
 exact ⟨rfl, by repeat (first | exact Below.refl _ _ | apply below_alloc | refine below_set ?_ (by simp))⟩
theorem add_calls {w : World} {B : Nat} {A1 A2 : Option Addr} {L1 L2 m n : Nat} (h1 : Mag w B A1 L1 m) (h2 : Mag w B A2 L2 n) (hB : B ≤ w.heap.size) (hL1 : L1 ≤ 90000) (hL2 : L2 ≤ 90000) :
 Calls Tryz.prog 191 #[.agg #[.slice A1 L1 L1], .agg #[.slice A2 L2 L2]] w fun e w' => ∃ A k, e = .returned (.agg #[.slice A k k]) ∧ Mag w' w'.heap.size A k (m + n) ∧ Below w.heap.size w w' := by
 have H1 : Aside0 (Mag w B A1 L1 m) := ⟨h1⟩
 have H2 : Aside0 (Mag w B A2 L2 n) := ⟨h2⟩
 clear h1 h2
 by_cases h : L1 < L2
 ·have h' : ¬ L2 < L1 := by omega
  have HM : Aside0 (L1 ≤ L2 ∧ L2 ≤ L2) := ⟨by omega⟩
  go_enter Tryz.func191, Tryz.ntmps191
  go_wp2_with (go_at_call 220; (with_reducible refine (appender_calls _ _).mono ?_); rintro e wa ⟨rfl, hba⟩; obtain ⟨hca, hfa⟩ := bcell hba)
  have hsz : w.heap.size + 4 ≤ wa.heap.size := by have := hba.size; simp at this; omega
  have HS : Aside0 (w.heap.size + 4 ≤ wa.heap.size) := ⟨hsz⟩
  have HA : Aside0 (Below w.heap.size w wa) := ⟨below_step (by repeat (first | exact Below.refl _ _ | apply below_alloc)) hba⟩
  have HX : Aside0 (wa.cell? ⟨w.heap.size, 0, none⟩ = some (.slice A1 L1 L1) ∧ wa.cell? ⟨w.heap.size + 1, 0, none⟩ = some (.slice A2 L2 L2) ∧ wa.cell? ⟨w.heap.size + 2, 0, none⟩ = some (.slice none 0 0) ∧ wa.frozen? ⟨w.heap.size + 2, 0, none⟩ = false) :=
   ⟨(hca w.heap.size 0 (by first | (simp; omega) | simp)).trans (by simp [go_sem]), (hca (w.heap.size + 1) 0 (by first | (simp; omega) | simp)).trans (by simp [go_sem]), (hca (w.heap.size + 2) 0 (by first | (simp; omega) | simp)).trans (by simp [go_sem]), (hfa (w.heap.size + 2) 0 (by first | (simp; omega) | simp)).trans (by simp [go_sem])⟩
  have HG : Aside0 (Grows wa (w.heap.size + 3) []) := ⟨⟨.slice none 0 0, (hca (w.heap.size + 3) 0 (by first | (simp; omega) | simp)).trans (by simp [go_sem]), (hfa (w.heap.size + 3) 0 (by first | (simp; omega) | simp)).trans (by simp [go_sem]), World.ownsRow_nil _ _ _ _⟩⟩
  clear hca hfa hba hsz
  go_loopw [7, 18] (fun v7 v18 W => ∃ i c : Nat, v7 = .int .u64 (c : Int) ∧ v18 = .int .i64 (i : Int) ∧ i ≤ L2 ∧ c ≤ 1 ∧ Aside0 (∃ out, out.length = i ∧ (∀ d ∈ out, d < BB) ∧ val BB out + BB ^ i * c = m % BB ^ i + n % BB ^ i ∧ Grows W (w.heap.size + 3) out) ∧ Aside0 (Below (w.heap.size + 3) wa W)) (fun _ v18 _ => L2 - (intOf v18).toNat)
  case atStart => exact ⟨0, 0, rfl, rfl, by omega, by omega, ⟨[], rfl, by simp, by simp [val, Nat.mod_one], HG.out⟩, ⟨Below.refl _ _⟩⟩
  case round =>
   obtain ⟨i, c, rfl, rfl, hi, hc1, hout, hbr⟩ := hrel
   have HW : Aside0 (Below w.heap.size w wr) := ⟨HA.out.trans (hbr.out.mono (by omega))⟩
   have HZ : Aside0 (w.heap.size + 4 ≤ wr.heap.size) := ⟨Nat.le_trans HS.out hbr.out.size⟩
   by_cases hlt : i < L2
   ·obtain ⟨x, hx⟩ : ∃ x, m / BB ^ i % BB = x := ⟨_, rfl⟩
    obtain ⟨y, hy⟩ : ∃ y, n / BB ^ i % BB = y := ⟨_, rfl⟩
    have hx1 : x < 1000000000 := by rw [← hx]; exact Nat.mod_lt _ (by decide)
    have hy1 : y < 1000000000 := by rw [← hy]; exact Nat.mod_lt _ (by decide)
    have HXY : Aside0 (m / BB ^ i % BB = x ∧ n / BB ^ i % BB = y) := ⟨hx, hy⟩
    clear hx hy
    have q0 : wr.cell? ⟨w.heap.size, 0, none⟩ = some (.slice A1 L1 L1) := (hbr.out.cell (p := ⟨w.heap.size, 0, none⟩) (by simp)).trans HX.out.1
    have q1 : wr.cell? ⟨w.heap.size + 1, 0, none⟩ = some (.slice A2 L2 L2) := (hbr.out.cell (p := ⟨w.heap.size + 1, 0, none⟩) (by simp)).trans HX.out.2.1
    have e1 : IntKind.u64.wrap ((x : Int) + (y : Int)) = (x : Int) + (y : Int) := IntWalk.u64_in _ (by omega)
    have e2 : IntKind.u64.wrap ((x : Int) + (y : Int) + (c : Int)) = (x : Int) + (y : Int) + (c : Int) := IntWalk.u64_in _ (by omega)
    have tb : Below wr.heap.size wr wr.drew := below_drew1 (Below.refl _ _)
    go_wp2_with fail
    go_region_held3 (fun W => W.cell? ⟨w.heap.size, 0, none⟩ = some (.slice A1 L1 L1) ∧ W.cell? ⟨w.heap.size + 1, 0, none⟩ = some (.slice A2 L2 L2) ∧ Below wr.heap.size wr W)
     (first
       | go_keep
       | (go_split_ands
          have hBB := bJoin (w1 := wr) hbq (by assumption)
          exact ⟨keepAt hBB q0, keepAt hBB q1, hBB⟩))
     (first
       | (go_at_call 193; (with_reducible refine (limb_any H1.out hB (below_step HW.out (by first | assumption | exact (‹_ ∧ _ ∧ Below wr.heap.size wr _›).2.2)) i HXY.out.1).mono ?_); rintro e wq ⟨rfl, hbq⟩)
       | (go_at_call 193; (with_reducible refine (limb_any H2.out hB (below_step HW.out (by first | assumption | exact (‹_ ∧ _ ∧ Below wr.heap.size wr _›).2.2)) i HXY.out.2).mono ?_); rintro e wq ⟨rfl, hbq⟩))
    have tq : Below wr.heap.size wr wq := (‹_ ∧ _ ∧ Below wr.heap.size wr wq›).2.2
    have HG2 : Aside0 (∃ out, out.length = i ∧ (∀ d ∈ out, d < BB) ∧ val BB out + BB ^ i * c = m % BB ^ i + n % BB ^ i ∧ Grows wq (w.heap.size + 3) out) := ⟨by
     obtain ⟨out, o1, o2, o3, o4⟩ := hout.out
     exact ⟨out, o1, o2, o3, grows_keep o4 tq⟩⟩
    obtain ⟨out, o1, o2, o3, o4⟩ := HG2.out
    have HO : Aside0 (out.length = i ∧ (∀ d ∈ out, d < BB) ∧ val BB out + BB ^ i * c = m % BB ^ i + n % BB ^ i) := ⟨o1, o2, o3⟩
    have HP : Aside0 (Grows wq (w.heap.size + 3) out ∧ out.length ≤ 100000) := ⟨o4, by omega⟩
    have HB2 : Aside0 (Below (w.heap.size + 3) wa wq) := ⟨hbr.out.trans (tq.mono (by have := HZ.out; omega))⟩
    clear o1 o2 o3 o4 HG2 tb tq hbq q0 q1 e1 e2 hout hbr
    go_wp2_with (go_at_call 233; (with_reducible refine (grows_push HP.out.1 HP.out.2 _ ((x + y + c) % 1000000000) (by first | omega | (simp; omega) | simp)).mono ?_); rintro e w3 ⟨rfl, hg3, hb3⟩)
    go_roundw
    case rel =>
     have hs := add_step BB1 HO.out.1 hc1 HO.out.2.2
     rw [HXY.out.1, HXY.out.2] at hs
     refine ⟨i + 1, (x + y + c) / 1000000000, congrArg (Value.int .u64) (by omega), by go_num, by omega, hs.2.1, ⟨out ++ [(x + y + c) % 1000000000], by simp [HO.out.1], ?_, hs.1, hg3⟩, ⟨HB2.out.trans hb3⟩⟩
     intro d hd
     rcases List.mem_append.1 hd with hd | hd
     ·exact HO.out.2.1 d hd
     ·rw [List.mem_singleton.1 hd]; exact hs.2.2
    case measure => simp [intOf]; omega
   ·obtain rfl : i = L2 := by omega
    clear hi hlt
    obtain ⟨out, o1, o2, o3, o4⟩ := hout.out
    have HO : Aside0 (strip (out ++ [c]) = dg BB (m + n) ∧ (∀ d ∈ out ++ [c], d < BB) ∧ (out ++ [c]).length = i + 1) :=
     ⟨add_end BB1 o1 hc1 o2 o3 (by rw [H1.out.1]; exact HM.out.1) (by rw [H2.out.1]; exact HM.out.2), by
      intro d hd
      rcases List.mem_append.1 hd with hd | hd
      ·exact o2 d hd
      ·rw [List.mem_singleton.1 hd]; exact Nat.lt_of_le_of_lt hc1 (by decide), by simp [o1]⟩
    have HP : Aside0 (Grows wr (w.heap.size + 3) out ∧ out.length ≤ 100000) := ⟨o4, by omega⟩
    clear o1 o2 o3 o4 hout
    go_wp2_with (first
     | (go_at_call 233; (with_reducible refine (grows_push HP.out.1 HP.out.2 _ c (by first | omega | (simp; omega) | simp)).mono ?_); rintro e w3 ⟨rfl, hg3, hb3⟩; obtain ⟨A, cp, g1, g2, g3, g4⟩ := hg3.lst; have HB3 : Aside0 (Below (w.heap.size + 3) wa w3) := ⟨hbr.out.trans hb3⟩; rw [HO.out.2.2] at g1 g2 g4; have G : Aside0 (i + 1 ≤ cp ∧ (∀ b, A = some ⟨b, 0, none⟩ → w.heap.size + 3 < b) ∧ Lst w3 w3.heap.size A (i + 1) (out ++ [c])) := ⟨g2, g3, g4⟩; clear g2 g3 g4 hb3 hg3)
     | (go_at_call 180; (with_reducible refine (strip_calls G.out.2.2 HO.out.2.1 G.out.1 (by omega) (Nat.le_refl _)).mono ?_); rintro e w4 ⟨k, rfl, hm4, hb4⟩; have hz3 : w.heap.size + 4 ≤ w3.heap.size := Nat.le_trans HS.out HB3.out.size; have k1 : w4.cell? ⟨w.heap.size + 1 + 1, 0, none⟩ = some (.slice none 0 0) := (hb4.cell (p := ⟨w.heap.size + 2, 0, none⟩) (show w.heap.size + 2 < w3.heap.size by omega)).trans ((HB3.out.cell (p := ⟨w.heap.size + 2, 0, none⟩) (by simp)).trans HX.out.2.2.1); have k2 : w4.frozen? ⟨w.heap.size + 1 + 1, 0, none⟩ = false := (hb4.frozen (p := ⟨w.heap.size + 2, 0, none⟩) (show w.heap.size + 2 < w3.heap.size by omega)).trans ((HB3.out.frozen (p := ⟨w.heap.size + 2, 0, none⟩) (by simp)).trans HX.out.2.2.2)))
    have ev : val BB (out ++ [c]) = m + n := dg_inj BB1 (by rw [← strip_dg BB1 _ HO.out.2.1]; exact HO.out.1)
    rw [ev] at hm4
    refine bodyPost_ret (v := .agg #[.slice A k k]) (by simp [results, Tryz.results191, go_sem, k1]) rfl ⟨A, k, rfl, ?_, ?_⟩
    ·exact (hm4.set _ (fun b _ e => by have := G.out.2.1 b e; simp; omega) _).more (by simpa using hb4.size)
    ·exact ((HA.out.trans (HB3.out.mono (by omega))).trans (hb4.mono (by omega))).setCell (by simp; omega) _
 ·have HM : Aside0 (L1 ≤ L1 ∧ L2 ≤ L1) := ⟨by omega⟩
  go_enter Tryz.func191, Tryz.ntmps191
  go_wp2_with (go_at_call 220; (with_reducible refine (appender_calls _ _).mono ?_); rintro e wa ⟨rfl, hba⟩; obtain ⟨hca, hfa⟩ := bcell hba)
  have hsz : w.heap.size + 4 ≤ wa.heap.size := by have := hba.size; simp at this; omega
  have HS : Aside0 (w.heap.size + 4 ≤ wa.heap.size) := ⟨hsz⟩
  have HA : Aside0 (Below w.heap.size w wa) := ⟨below_step (by repeat (first | exact Below.refl _ _ | apply below_alloc)) hba⟩
  have HX : Aside0 (wa.cell? ⟨w.heap.size, 0, none⟩ = some (.slice A1 L1 L1) ∧ wa.cell? ⟨w.heap.size + 1, 0, none⟩ = some (.slice A2 L2 L2) ∧ wa.cell? ⟨w.heap.size + 2, 0, none⟩ = some (.slice none 0 0) ∧ wa.frozen? ⟨w.heap.size + 2, 0, none⟩ = false) :=
   ⟨(hca w.heap.size 0 (by first | (simp; omega) | simp)).trans (by simp [go_sem]), (hca (w.heap.size + 1) 0 (by first | (simp; omega) | simp)).trans (by simp [go_sem]), (hca (w.heap.size + 2) 0 (by first | (simp; omega) | simp)).trans (by simp [go_sem]), (hfa (w.heap.size + 2) 0 (by first | (simp; omega) | simp)).trans (by simp [go_sem])⟩
  have HG : Aside0 (Grows wa (w.heap.size + 3) []) := ⟨⟨.slice none 0 0, (hca (w.heap.size + 3) 0 (by first | (simp; omega) | simp)).trans (by simp [go_sem]), (hfa (w.heap.size + 3) 0 (by first | (simp; omega) | simp)).trans (by simp [go_sem]), World.ownsRow_nil _ _ _ _⟩⟩
  clear hca hfa hba hsz
  go_loopw [7, 18] (fun v7 v18 W => ∃ i c : Nat, v7 = .int .u64 (c : Int) ∧ v18 = .int .i64 (i : Int) ∧ i ≤ L1 ∧ c ≤ 1 ∧ Aside0 (∃ out, out.length = i ∧ (∀ d ∈ out, d < BB) ∧ val BB out + BB ^ i * c = m % BB ^ i + n % BB ^ i ∧ Grows W (w.heap.size + 3) out) ∧ Aside0 (Below (w.heap.size + 3) wa W)) (fun _ v18 _ => L1 - (intOf v18).toNat)
  case atStart => exact ⟨0, 0, rfl, rfl, by omega, by omega, ⟨[], rfl, by simp, by simp [val, Nat.mod_one], HG.out⟩, ⟨Below.refl _ _⟩⟩
  case round =>
   obtain ⟨i, c, rfl, rfl, hi, hc1, hout, hbr⟩ := hrel
   have HW : Aside0 (Below w.heap.size w wr) := ⟨HA.out.trans (hbr.out.mono (by omega))⟩
   have HZ : Aside0 (w.heap.size + 4 ≤ wr.heap.size) := ⟨Nat.le_trans HS.out hbr.out.size⟩
   by_cases hlt : i < L1
   ·obtain ⟨x, hx⟩ : ∃ x, m / BB ^ i % BB = x := ⟨_, rfl⟩
    obtain ⟨y, hy⟩ : ∃ y, n / BB ^ i % BB = y := ⟨_, rfl⟩
    have hx1 : x < 1000000000 := by rw [← hx]; exact Nat.mod_lt _ (by decide)
    have hy1 : y < 1000000000 := by rw [← hy]; exact Nat.mod_lt _ (by decide)
    have HXY : Aside0 (m / BB ^ i % BB = x ∧ n / BB ^ i % BB = y) := ⟨hx, hy⟩
    clear hx hy
    have q0 : wr.cell? ⟨w.heap.size, 0, none⟩ = some (.slice A1 L1 L1) := (hbr.out.cell (p := ⟨w.heap.size, 0, none⟩) (by simp)).trans HX.out.1
    have q1 : wr.cell? ⟨w.heap.size + 1, 0, none⟩ = some (.slice A2 L2 L2) := (hbr.out.cell (p := ⟨w.heap.size + 1, 0, none⟩) (by simp)).trans HX.out.2.1
    have e1 : IntKind.u64.wrap ((x : Int) + (y : Int)) = (x : Int) + (y : Int) := IntWalk.u64_in _ (by omega)
    have e2 : IntKind.u64.wrap ((x : Int) + (y : Int) + (c : Int)) = (x : Int) + (y : Int) + (c : Int) := IntWalk.u64_in _ (by omega)
    have tb : Below wr.heap.size wr wr.drew := below_drew1 (Below.refl _ _)
    go_wp2_with fail
    go_region_held3 (fun W => W.cell? ⟨w.heap.size, 0, none⟩ = some (.slice A1 L1 L1) ∧ W.cell? ⟨w.heap.size + 1, 0, none⟩ = some (.slice A2 L2 L2) ∧ Below wr.heap.size wr W)
     (first
       | go_keep
       | (go_split_ands
          have hBB := bJoin (w1 := wr) hbq (by assumption)
          exact ⟨keepAt hBB q0, keepAt hBB q1, hBB⟩))
     (first
       | (go_at_call 193; (with_reducible refine (limb_any H1.out hB (below_step HW.out (by first | assumption | exact (‹_ ∧ _ ∧ Below wr.heap.size wr _›).2.2)) i HXY.out.1).mono ?_); rintro e wq ⟨rfl, hbq⟩)
       | (go_at_call 193; (with_reducible refine (limb_any H2.out hB (below_step HW.out (by first | assumption | exact (‹_ ∧ _ ∧ Below wr.heap.size wr _›).2.2)) i HXY.out.2).mono ?_); rintro e wq ⟨rfl, hbq⟩))
    have tq : Below wr.heap.size wr wq := (‹_ ∧ _ ∧ Below wr.heap.size wr wq›).2.2
    have HG2 : Aside0 (∃ out, out.length = i ∧ (∀ d ∈ out, d < BB) ∧ val BB out + BB ^ i * c = m % BB ^ i + n % BB ^ i ∧ Grows wq (w.heap.size + 3) out) := ⟨by
     obtain ⟨out, o1, o2, o3, o4⟩ := hout.out
     exact ⟨out, o1, o2, o3, grows_keep o4 tq⟩⟩
    obtain ⟨out, o1, o2, o3, o4⟩ := HG2.out
    have HO : Aside0 (out.length = i ∧ (∀ d ∈ out, d < BB) ∧ val BB out + BB ^ i * c = m % BB ^ i + n % BB ^ i) := ⟨o1, o2, o3⟩
    have HP : Aside0 (Grows wq (w.heap.size + 3) out ∧ out.length ≤ 100000) := ⟨o4, by omega⟩
    have HB2 : Aside0 (Below (w.heap.size + 3) wa wq) := ⟨hbr.out.trans (tq.mono (by have := HZ.out; omega))⟩
    clear o1 o2 o3 o4 HG2 tb tq hbq q0 q1 e1 e2 hout hbr
    go_wp2_with (go_at_call 233; (with_reducible refine (grows_push HP.out.1 HP.out.2 _ ((x + y + c) % 1000000000) (by first | omega | (simp; omega) | simp)).mono ?_); rintro e w3 ⟨rfl, hg3, hb3⟩)
    go_roundw
    case rel =>
     have hs := add_step BB1 HO.out.1 hc1 HO.out.2.2
     rw [HXY.out.1, HXY.out.2] at hs
     refine ⟨i + 1, (x + y + c) / 1000000000, congrArg (Value.int .u64) (by omega), by go_num, by omega, hs.2.1, ⟨out ++ [(x + y + c) % 1000000000], by simp [HO.out.1], ?_, hs.1, hg3⟩, ⟨HB2.out.trans hb3⟩⟩
     intro d hd
     rcases List.mem_append.1 hd with hd | hd
     ·exact HO.out.2.1 d hd
     ·rw [List.mem_singleton.1 hd]; exact hs.2.2
    case measure => simp [intOf]; omega
   ·obtain rfl : i = L1 := by omega
    clear hi hlt
    obtain ⟨out, o1, o2, o3, o4⟩ := hout.out
    have HO : Aside0 (strip (out ++ [c]) = dg BB (m + n) ∧ (∀ d ∈ out ++ [c], d < BB) ∧ (out ++ [c]).length = i + 1) :=
     ⟨add_end BB1 o1 hc1 o2 o3 (by rw [H1.out.1]; exact HM.out.1) (by rw [H2.out.1]; exact HM.out.2), by
      intro d hd
      rcases List.mem_append.1 hd with hd | hd
      ·exact o2 d hd
      ·rw [List.mem_singleton.1 hd]; exact Nat.lt_of_le_of_lt hc1 (by decide), by simp [o1]⟩
    have HP : Aside0 (Grows wr (w.heap.size + 3) out ∧ out.length ≤ 100000) := ⟨o4, by omega⟩
    clear o1 o2 o3 o4 hout
    go_wp2_with (first
     | (go_at_call 233; (with_reducible refine (grows_push HP.out.1 HP.out.2 _ c (by first | omega | (simp; omega) | simp)).mono ?_); rintro e w3 ⟨rfl, hg3, hb3⟩; obtain ⟨A, cp, g1, g2, g3, g4⟩ := hg3.lst; have HB3 : Aside0 (Below (w.heap.size + 3) wa w3) := ⟨hbr.out.trans hb3⟩; rw [HO.out.2.2] at g1 g2 g4; have G : Aside0 (i + 1 ≤ cp ∧ (∀ b, A = some ⟨b, 0, none⟩ → w.heap.size + 3 < b) ∧ Lst w3 w3.heap.size A (i + 1) (out ++ [c])) := ⟨g2, g3, g4⟩; clear g2 g3 g4 hb3 hg3)
     | (go_at_call 180; (with_reducible refine (strip_calls G.out.2.2 HO.out.2.1 G.out.1 (by omega) (Nat.le_refl _)).mono ?_); rintro e w4 ⟨k, rfl, hm4, hb4⟩; have hz3 : w.heap.size + 4 ≤ w3.heap.size := Nat.le_trans HS.out HB3.out.size; have k1 : w4.cell? ⟨w.heap.size + 1 + 1, 0, none⟩ = some (.slice none 0 0) := (hb4.cell (p := ⟨w.heap.size + 2, 0, none⟩) (show w.heap.size + 2 < w3.heap.size by omega)).trans ((HB3.out.cell (p := ⟨w.heap.size + 2, 0, none⟩) (by simp)).trans HX.out.2.2.1); have k2 : w4.frozen? ⟨w.heap.size + 1 + 1, 0, none⟩ = false := (hb4.frozen (p := ⟨w.heap.size + 2, 0, none⟩) (show w.heap.size + 2 < w3.heap.size by omega)).trans ((HB3.out.frozen (p := ⟨w.heap.size + 2, 0, none⟩) (by simp)).trans HX.out.2.2.2)))
    have ev : val BB (out ++ [c]) = m + n := dg_inj BB1 (by rw [← strip_dg BB1 _ HO.out.2.1]; exact HO.out.1)
    rw [ev] at hm4
    refine bodyPost_ret (v := .agg #[.slice A k k]) (by simp [results, Tryz.results191, go_sem, k1]) rfl ⟨A, k, rfl, ?_, ?_⟩
    ·exact (hm4.set _ (fun b _ e => by have := G.out.2.1 b e; simp; omega) _).more (by simpa using hb4.size)
    ·exact ((HA.out.trans (HB3.out.mono (by omega))).trans (hb4.mono (by omega))).setCell (by simp; omega) _
/-- A block that is just the limbs xs. -/
def Row (w : World) (g : Nat) (xs : List Nat) : Prop := w.heap[g]? = some (.cells (xs.map fun d : Nat => Value.int .u32 (d : Int)).toArray 22 (0, 0))
theorem Row.lt {w : World} {g : Nat} {xs : List Nat} (h : Row w g xs) : g < w.heap.size := by
 rcases Nat.lt_or_ge g w.heap.size with hlt | hge
 ·exact hlt
 ·unfold Row at h; rw [Array.getElem?_eq_none hge] at h; cases h
theorem Row.cell {w : World} {g : Nat} {xs : List Nat} (h : Row w g xs) {j : Nat} (hj : j < xs.length) : w.cell? ⟨g, j, none⟩ = some (.int .u32 (xs.getD j 0 : Nat)) := by
 rw [cell_of_row w g j _ _ (0, 0) h]
 simp [hj, List.getD_eq_getElem?_getD]
theorem Row.frozen {w : World} {g : Nat} {xs : List Nat} (h : Row w g xs) (j : Nat) : w.frozen? ⟨g, j, none⟩ = false := by
 unfold Row at h
 simp [World.frozen?, h]
theorem Row.keep {w w' : World} {g : Nat} {xs : List Nat} (h : Row w g xs) (hb : Below w.heap.size w w') : Row w' g xs := (hb.block g h.lt).trans h
theorem Row.set {w : World} {g : Nat} {xs : List Nat} (h : Row w g xs) (j d : Nat) : Row (w.setCell ⟨g, j, none⟩ (.int .u32 (d : Int))) g (xs.set j d) := by
 unfold Row at h ⊢
 simp [World.setCell, Array.getElem?_modify, h]
theorem Row.lst {w : World} {g : Nat} {xs : List Nat} (h : Row w g xs) : Lst w (g + 1) (some ⟨g, 0, none⟩) xs.length xs :=
 ⟨rfl, fun _ => ⟨g, rfl, by omega, fun j hj => h.cell hj⟩⟩
/-- make([]uint32, n): a block of zeros. -/
def zeros (N : Nat) : Obj := .cells ((List.replicate N 0).map fun d : Nat => Value.int .u32 (d : Int)).toArray 22
theorem make_u32 (l : Int) (N : Nat) (hl : l = N) (hN : N ≤ 1000000) (W : World) :
 (Instr.makeSlice 99 (.int .i64 l) (.int .i64 l)).run Tryz.prog W = .ok (.slice (some ⟨W.heap.size, 0, none⟩) N N) (W.alloc (zeros N)) := by
 subst hl
 obtain ⟨i0, hi0, hz0, hz1, hz2⟩ := info_parts info_u32
 have h := run_make (P := Tryz.prog) W 99 22 i0 _ Tryz.underlying99 hi0 hz0 .i64 .i64 N N (by omega) (by omega) (by rw [hz2]; omega) (by omega)
 rw [hz1, Int.toNat_natCast, Nat.mul_one] at h
 rw [h]
 have e : madeCells (Value.int .u32 0).cells N = ((List.replicate N 0).map fun d : Nat => Value.int .u32 (d : Int)).toArray := by
  apply Array.toList_inj.1
  have := toList_madeCells_one (.int .u32 0) N
  rw [show (Value.int .u32 0).cells = #[Value.int .u32 0] from rfl, this]
  simp
 rw [e]; rfl
theorem row_zeros (W : World) (N : Nat) : Row (W.alloc (zeros N)) W.heap.size (List.replicate N 0) := heap_alloc_new W _
theorem mul_calls {w : World} {B : Nat} {A1 A2 : Option Addr} {L1 L2 m n : Nat} (h1 : Mag w B A1 L1 m) (h2 : Mag w B A2 L2 n) (hB : B ≤ w.heap.size) (hL : L1 + L2 ≤ 90000) :
 Calls Tryz.prog 140 #[.agg #[.slice A1 L1 L1], .agg #[.slice A2 L2 L2]] w fun e w' => ∃ A k, e = .returned (.agg #[.slice A k k]) ∧ Mag w' w'.heap.size A k (m * n) ∧ Below w.heap.size w w' := by
 have H1 : Aside0 (Mag w B A1 L1 m) := ⟨h1⟩
 have H2 : Aside0 (Mag w B A2 L2 n) := ⟨h2⟩
 clear h1 h2
 have hmk := make_u32 ((L1 : Int) + L2 + 1) (L1 + L2 + 1) (by omega) (by omega)
 go_enter Tryz.func140, Tryz.ntmps140
 go_wp2_with fail
 have HX0 : Aside0 (((((w.alloc (.cells #[.slice A1 L1 L1] 109)).alloc (.cells #[.slice A2 L2 L2] 109)).alloc (.cells #[.slice none 0 0] 109)).alloc (zeros (L1 + L2 + 1))).heap.size = w.heap.size + 4) := ⟨by simp⟩
 have hgo : Row ((((w.alloc (.cells #[.slice A1 L1 L1] 109)).alloc (.cells #[.slice A2 L2 L2] 109)).alloc (.cells #[.slice none 0 0] 109)).alloc (zeros (L1 + L2 + 1))) (w.heap.size + 3) (List.replicate (L1 + L2 + 1) 0) := by
  have := row_zeros (((w.alloc (.cells #[.slice A1 L1 L1] 109)).alloc (.cells #[.slice A2 L2 L2] 109)).alloc (.cells #[.slice none 0 0] 109)) (L1 + L2 + 1)
  simpa using this
 obtain ⟨wa, hwa⟩ : ∃ wa, ((((w.alloc (.cells #[.slice A1 L1 L1] 109)).alloc (.cells #[.slice A2 L2 L2] 109)).alloc (.cells #[.slice none 0 0] 109)).alloc (zeros (L1 + L2 + 1))) = wa := ⟨_, rfl⟩
 have HX : Aside0 (wa.cell? ⟨w.heap.size, 0, none⟩ = some (.slice A1 L1 L1) ∧ wa.cell? ⟨w.heap.size + 1, 0, none⟩ = some (.slice A2 L2 L2) ∧ wa.cell? ⟨w.heap.size + 2, 0, none⟩ = some (.slice none 0 0) ∧ wa.frozen? ⟨w.heap.size + 2, 0, none⟩ = false) := ⟨by
  subst hwa
  refine ⟨?_, ?_, ?_, ?_⟩ <;> simp [go_sem]⟩
 have HA : Aside0 (Below w.heap.size w wa) := ⟨by subst hwa; repeat (first | exact Below.refl _ _ | apply below_alloc)⟩
 rw [hwa] at hgo HX0 ⊢
 have HG : Aside0 (Row wa (w.heap.size + 3) (List.replicate (L1 + L2 + 1) 0)) := ⟨hgo⟩
 clear hgo hwa hmk
 go_loopw [23] (fun v23 W => ∃ i : Nat, v23 = .int .i64 (i : Int) ∧ i ≤ L1 ∧ Aside0 (∃ xs, xs.length = L1 + L2 + 1 ∧ (∀ d ∈ xs, d < BB) ∧ val BB xs = m % BB ^ i * n ∧ Row W (w.heap.size + 3) xs) ∧ Aside0 (Below (w.heap.size + 3) wa W)) (fun v23 _ => L1 - (intOf v23).toNat)
 case atStart => exact ⟨0, rfl, by omega, ⟨_, by simp, by intro d hd; rw [List.eq_of_mem_replicate hd]; decide, by rw [val_zeros]; simp [Nat.mod_one], HG.out⟩, ⟨Below.refl _ _⟩⟩
 case round =>
  obtain ⟨i, rfl, hi, hout, hbr⟩ := hrel
  by_cases hlt : i < L1
  ·have HW : Aside0 (Below w.heap.size w wr) := ⟨HA.out.trans (hbr.out.mono (by omega))⟩
   obtain ⟨b1, hA1, hb1, hc1⟩ := (H1.out.keep hB HW.out).2.2 (by omega)
   have q2 := hc1 i hlt
   rw [dg_getD BB1] at q2
   obtain ⟨a, ha⟩ : ∃ a, m / BB ^ i % BB = a := ⟨_, rfl⟩
   rw [ha] at q2
   have ha1 : a < 1000000000 := by rw [← ha]; exact Nat.mod_lt _ (by decide)
   have HAa : Aside0 (m / BB ^ i % BB = a) := ⟨ha⟩
   subst hA1
   have q1 : wr.cell? ⟨w.heap.size + 1, 0, none⟩ = some (.slice A2 L2 L2) := (hbr.out.cell (p := ⟨w.heap.size + 1, 0, none⟩) (by simp)).trans HX.out.2.1
   have hi0 : (i : Int) < (L1 : Int) := by omega
   clear hc1 ha hb1
   go_wp2_with fail
   clear q1 q2
   go_loopw [8, 32] (fun v8 v32 W => ∃ k c : Nat, v8 = .int .u64 (c : Int) ∧ v32 = .int .i64 (k : Int) ∧ k ≤ L2 + 1 ∧ c < 1000000000 ∧ Aside0 (∃ xs, xs.length = L1 + L2 + 1 ∧ (∀ d ∈ xs, d < BB) ∧ val BB xs + BB ^ (i + k) * c = m % BB ^ i * n + BB ^ i * (a * (n % BB ^ k)) ∧ Row W (w.heap.size + 3) xs) ∧ Aside0 (Below (w.heap.size + 3) wa W)) (fun _ v32 _ => L2 + 1 - (intOf v32).toNat)
   case atStart =>
    obtain ⟨xs, o1, o2, o3, o4⟩ := hout.out
    exact ⟨0, 0, rfl, rfl, by omega, by omega, ⟨xs, o1, o2, by rw [o3]; simp [Nat.mod_one], o4⟩, hbr⟩
   case round =>
    clear hout hbr HW
    obtain ⟨k, c, rfl, rfl, hk, hc1, hout, hbr⟩ := hrel
    by_cases hkl : k < L2 + 1
    ·obtain ⟨xs, o1, o2, o3, o4⟩ := hout.out
     obtain ⟨x, hx⟩ : ∃ x, n / BB ^ k % BB = x := ⟨_, rfl⟩
     have hx1 : x < 1000000000 := by rw [← hx]; exact Nat.mod_lt _ (by decide)
     obtain ⟨d, hd⟩ : ∃ d, xs.getD (i + k) 0 = d := ⟨_, rfl⟩
     have hd1 : d < 1000000000 := by
      rw [← hd, getD_lt (by omega)]
      exact o2 _ (List.getElem_mem _)
     have q0 : wr.cell? ⟨w.heap.size + 1 + 1 + 1, i + k, none⟩ = some (.int .u32 (d : Int)) := by rw [← hd]; exact o4.cell (by omega)
     have q1 : wr.cell? ⟨w.heap.size + 1, 0, none⟩ = some (.slice A2 L2 L2) := (hbr.out.cell (p := ⟨w.heap.size + 1, 0, none⟩) (by simp)).trans HX.out.2.1
     have HXD : Aside0 (n / BB ^ k % BB = x ∧ xs.getD (i + k) 0 = d) := ⟨hx, hd⟩
     have HO : Aside0 (xs.length = L1 + L2 + 1 ∧ (∀ d ∈ xs, d < BB) ∧ val BB xs + BB ^ (i + k) * c = m % BB ^ i * n + BB ^ i * (a * (n % BB ^ k))) := ⟨o1, o2, o3⟩
     have HR : Aside0 (Row wr (w.heap.size + 3) xs) := ⟨o4⟩
     clear hx hd o1 o2 o3 o4 hout
     have hm1 : d + a * x + c < 1000000000 * 1000000000 := row_small hd1 ha1 hx1 hc1
     have hax : (a : Int) * (x : Int) = ((a * x : Nat) : Int) := by simp
     have s1 : IntKind.i64.wrap ((i : Int) + (k : Int)) = (i : Int) + (k : Int) := IntWalk.i64_in _ (by omega)
     have s2 : (0 : Int) ≤ (i : Int) + (k : Int) := by omega
     have s3 : ((i : Int) + (k : Int)).toNat = i + k := by omega
     have s4 : (i : Int) + (k : Int) < (L1 : Int) + (L2 : Int) + 1 := by omega
     have w1 : IntKind.u64.wrap (d : Int) = (d : Int) := IntWalk.u64_in _ (by omega)
     have w2 : IntKind.u64.wrap (a : Int) = (a : Int) := IntWalk.u64_in _ (by omega)
     have p1 : IntKind.u64.wrap ((a : Int) * (x : Int)) = (a : Int) * (x : Int) := IntWalk.u64_in _ (by rw [hax]; omega)
     have p2 : IntKind.u64.wrap ((d : Int) + (a : Int) * (x : Int)) = (d : Int) + (a : Int) * (x : Int) := IntWalk.u64_in _ (by rw [hax]; omega)
     have p3 : IntKind.u64.wrap ((d : Int) + (a : Int) * (x : Int) + (c : Int)) = (d : Int) + (a : Int) * (x : Int) + (c : Int) := IntWalk.u64_in _ (by rw [hax]; omega)
     have HM : Aside0 (d + a * x + c < 1000000000 * 1000000000) := ⟨hm1⟩
     have HW : Aside0 (Below w.heap.size w wr) := ⟨HA.out.trans (hbr.out.mono (by omega))⟩
     have tb : Below wr.heap.size wr wr.drew := below_drew1 (Below.refl _ _)
     clear hm1 hax
     go_wp2_with fail
     go_region_held3 (fun W => W.cell? ⟨w.heap.size + 1 + 1 + 1, i + k, none⟩ = some (.int .u32 (d : Int)) ∧ W.cell? ⟨w.heap.size + 1, 0, none⟩ = some (.slice A2 L2 L2) ∧ Below wr.heap.size wr W)
      (first
        | go_keep
        | (go_split_ands
           have hBB := bJoin (w1 := wr) hbq (by assumption)
           exact ⟨keepAt hBB q0, keepAt hBB q1, hBB⟩))
      (first
        | (go_at_call 193; (with_reducible refine (limb_any H2.out hB (below_step HW.out (by first | assumption | exact (‹_ ∧ _ ∧ Below wr.heap.size wr _›).2.2)) k HXD.out.1).mono ?_); rintro e wq ⟨rfl, hbq⟩))
     have tq : Below wr.heap.size wr wq := (‹_ ∧ _ ∧ Below wr.heap.size wr wq›).2.2
     have hRq : Row wq (w.heap.size + 3) xs := HR.out.keep tq
     have r0 : wq.cell? ⟨w.heap.size + 1 + 1 + 1, i + k, none⟩ = some (.int .u32 (d : Int)) := (‹_ ∧ _ ∧ Below wr.heap.size wr wq›).1
     have r1 : wq.frozen? ⟨w.heap.size + 1 + 1 + 1, i + k, none⟩ = false := hRq.frozen _
     have HRq := Aside0.mk hRq
     have HBq : Aside0 (Below (w.heap.size + 3) wa wq) := ⟨hbr.out.trans (tq.mono (by have := HR.out.lt; omega))⟩
     obtain ⟨N, hN⟩ : ∃ N, d + a * x + c = N := ⟨_, rfl⟩
     have hNi : (d : Int) + (a : Int) * (x : Int) + (c : Int) = (N : Int) := by rw [← hN]; simp
     have hN1 : N < 1000000000 * 1000000000 := by rw [← hN]; exact HM.out
     rw [hNi]
     have HN : Aside0 (d + a * x + c = N) := ⟨hN⟩
     clear hRq tb tq hbq q0 q1 w1 w2 p1 p2 p3 hNi hN hbr
     go_wp2_with fail
     go_roundw
     case rel =>
      have eN : ((N : Int) % 1000000000) = ((N % BB : Nat) : Int) := by unfold BB; omega
      rw [eN]
      refine ⟨k + 1, N / BB, congrArg (Value.int .u64) (by unfold BB; omega), by go_num, by omega, by unfold BB; omega, ⟨xs.set (i + k) (N % BB), by rw [List.length_set]; exact HO.out.1, ?_, ?_, HRq.out.set _ _⟩, ⟨HBq.out.setCell (by simp) _⟩⟩
      ·intro d' hd'
       rcases List.mem_or_eq_of_mem_set hd' with h | h
       ·exact HO.out.2.1 d' h
       ·rw [h]; exact Nat.mod_lt _ (by decide)
      ·exact row_step (by rw [HO.out.1]; omega) HO.out.2.2 (by rw [HXD.out.1, HXD.out.2, HN.out])
     case measure => simp [intOf]; omega
    ·obtain rfl : k = L2 + 1 := by omega
     have HE : Aside0 (∃ xs, xs.length = L1 + L2 + 1 ∧ (∀ d ∈ xs, d < BB) ∧ val BB xs = m % BB ^ (i + 1) * n ∧ Row wr (w.heap.size + 3) xs) := ⟨by
      obtain ⟨xs, o1, o2, o3, o4⟩ := hout.out
      rw [← HAa.out] at o3
      have := row_end BB1 (lo := L2) (by have := dg_lt_pow BB1 n; rwa [H2.out.1] at this) o3
      exact ⟨xs, o1, o2, this.2, o4⟩⟩
     clear hout
     go_wp2_with fail
     go_roundw
     case rel => exact ⟨i + 1, by go_num, by omega, HE, hbr⟩
     case measure => simp [intOf]; omega
  ·obtain rfl : i = L1 := by omega
   clear hi hlt
   obtain ⟨xs, o1, o2, o3, o4⟩ := hout.out
   have HO : Aside0 ((∀ d ∈ xs, d < BB) ∧ val BB xs = m * n ∧ Lst wr (w.heap.size + 4) (some ⟨w.heap.size + 3, 0, none⟩) (i + L2 + 1) xs) := ⟨o2, by rw [o3, mod_big BB1 (Nat.le_of_eq H1.out.1)], by have := o4.lst; rw [o1] at this; exact this⟩
   clear o1 o2 o3 o4 hout
   have hz3 : w.heap.size + 4 ≤ wr.heap.size := by rw [← HX0.out]; exact hbr.out.size
   have HZ := Aside0.mk hz3
   clear hz3
   go_wp2_with (go_at_call 180; (with_reducible refine (strip_calls HO.out.2.2 HO.out.1 (Nat.le_refl _) (by omega) HZ.out).mono ?_); rintro e w4 ⟨k, rfl, hm4, hb4⟩; have hz3 : w.heap.size + 4 ≤ wr.heap.size := HZ.out; have k1 : w4.cell? ⟨w.heap.size + 1 + 1, 0, none⟩ = some (.slice none 0 0) := (hb4.cell (p := ⟨w.heap.size + 2, 0, none⟩) (show w.heap.size + 2 < wr.heap.size by omega)).trans ((hbr.out.cell (p := ⟨w.heap.size + 2, 0, none⟩) (by simp)).trans HX.out.2.2.1); have k2 : w4.frozen? ⟨w.heap.size + 1 + 1, 0, none⟩ = false := (hb4.frozen (p := ⟨w.heap.size + 2, 0, none⟩) (show w.heap.size + 2 < wr.heap.size by omega)).trans ((hbr.out.frozen (p := ⟨w.heap.size + 2, 0, none⟩) (by simp)).trans HX.out.2.2.2))
   rw [HO.out.2.1] at hm4
   refine bodyPost_ret (v := .agg #[.slice (some ⟨w.heap.size + 3, 0, none⟩) k k]) (by simp [results, Tryz.results140, go_sem, k1]) rfl ⟨_, k, rfl, ?_, ?_⟩
   ·exact (hm4.set _ (fun b _ e => by injection e with e; injection e with e; subst e; simp) _).more (by have := hb4.size; have := HZ.out; simp; omega)
   ·exact ((HA.out.trans (hbr.out.mono (by omega))).trans (hb4.mono (by omega))).setCell (by simp; omega) _
theorem size_u32 : (Tryz.prog.info? 22).map (·.size) = some 1 := by kernel_rfl
theorem less_end {b : Nat} (hb : 1 < b) {xs : List Nat} {m n l r : Nat} (hd : ∀ d ∈ xs, d < b) (hl : xs.length = l) (hm : m < b ^ l) (hnm : n ≤ m) (h : val b xs + n % b ^ l = m % b ^ l + b ^ l * r) : val b xs = m - n := by
 rw [Nat.mod_eq_of_lt (by omega), Nat.mod_eq_of_lt hm] at h
 have hv := val_lt (b := b) (by omega) xs hd
 rw [hl] at hv
 rcases Nat.eq_zero_or_pos r with h0 | h0
 ·subst h0; omega
 ·have : b ^ l * 1 ≤ b ^ l * r := Nat.mul_le_mul_left _ h0
  omega
theorem copy_u32 {W : World} {B g L m : Nat} {A : Option Addr} (hR : Row W g (List.replicate L 0)) (hM : Mag W B A L m) :
 ∃ wa, (Builtin.copy_ #[99, 99] 3 #[.slice (some ⟨g, 0, none⟩) L L, .slice A L L]).run Tryz.prog W = .ok (goInt L) wa ∧ Row wa g (dg BB m) ∧ Below g W wa := by
 obtain ⟨h1, h2, h3⟩ := hM
 rcases Nat.eq_zero_or_pos L with h0 | h0
 ·subst h0
  refine ⟨W, run_copy_none W _ _ _ 22 _ _ _ _ _ _ Tryz.underlying99 size_u32 (by simp), ?_, Below.refl _ _⟩
  rw [List.eq_nil_of_length_eq_zero h1]
  exact hR
 ·obtain ⟨b, rfl, hb, hc⟩ := h3 h0
  have hrun := run_copy_row (P := Tryz.prog) W 99 99 3 22 g 0 L L ⟨b, 0, none⟩ L L _ _ ((dg BB m).map fun d : Nat => Value.int .u32 (d : Int)) Tryz.underlying99 size_u32 hR
   (by rw [List.length_map, h1]; exact (Nat.min_self _).symm)
   (fun j v hj => by
     have hadd : (⟨b, 0, none⟩ : Addr).add j = ⟨b, j, none⟩ := by unfold Addr.add; split <;> simp_all
     have hjl : j < L := by
      have := (List.getElem?_eq_some_iff.1 hj).1
      rw [List.length_map, h1] at this; exact this
     rw [hadd, hc j hjl, ← hj, List.getElem?_map, List.getElem?_eq_getElem (by omega), getD_lt (by omega)]; rfl)
   (by simp [h1]) (by simp [Value.oneCell'])
  rw [List.length_map, h1] at hrun
  refine ⟨_, hrun, ?_, below_setRow (Below.refl _ _) (Nat.le_refl _) _⟩
  unfold Row
  rw [setRow_heap W g _ _ _ _ hR]
  simp [h1]
theorem less_fresh {w : World} {B : Nat} {A1 A2 : Option Addr} {L1 L2 m n : Nat} (h1 : Mag w B A1 L1 m) (h2 : Mag w B A2 L2 n) (hB : B ≤ w.heap.size) (hnm : n ≤ m) :
 Calls Tryz.prog 192 #[.agg #[.slice A1 L1 L1], .agg #[.slice A2 L2 L2]] w fun e w' => ∃ A k, e = .returned (.agg #[.slice A k k]) ∧ (∀ b, A = some ⟨b, 0, none⟩ → w.heap.size ≤ b) ∧ Mag w' w'.heap.size A k (m - n) ∧ Below w.heap.size w w' := by
 have hL := h1.2.1
 have H1 : Aside0 (Mag w B A1 L1 m) := ⟨h1⟩
 have H2 : Aside0 (Mag w B A2 L2 n) := ⟨h2⟩
 have HN : Aside0 (n ≤ m) := ⟨hnm⟩
 clear h1 h2 hnm
 have hmk := make_u32 (L1 : Int) L1 rfl (by omega)
 have HR : Aside0 (Row ((((w.alloc (.cells #[.slice A1 L1 L1] 109)).alloc (.cells #[.slice A2 L2 L2] 109)).alloc (.cells #[.slice none 0 0] 109)).alloc (zeros L1)) (w.heap.size + 3) (List.replicate L1 0)) := ⟨by
  have := row_zeros (((w.alloc (.cells #[.slice A1 L1 L1] 109)).alloc (.cells #[.slice A2 L2 L2] 109)).alloc (.cells #[.slice none 0 0] 109)) L1
  simpa using this⟩
 have HB0 : Aside0 (Below w.heap.size w ((((w.alloc (.cells #[.slice A1 L1 L1] 109)).alloc (.cells #[.slice A2 L2 L2] 109)).alloc (.cells #[.slice none 0 0] 109)).alloc (zeros L1))) := ⟨by repeat (first | exact Below.refl _ _ | apply below_alloc)⟩
 have HX0 : Aside0 (((((w.alloc (.cells #[.slice A1 L1 L1] 109)).alloc (.cells #[.slice A2 L2 L2] 109)).alloc (.cells #[.slice none 0 0] 109)).alloc (zeros L1)).heap.size = w.heap.size + 4) := ⟨by simp⟩
 obtain ⟨wa, hcp, hRa, hBa⟩ := copy_u32 (B := B) (A := A1) (m := m) HR.out (H1.out.keep hB HB0.out)
 have HX : Aside0 (wa.cell? ⟨w.heap.size, 0, none⟩ = some (.slice A1 L1 L1) ∧ wa.cell? ⟨w.heap.size + 1, 0, none⟩ = some (.slice A2 L2 L2) ∧ wa.cell? ⟨w.heap.size + 2, 0, none⟩ = some (.slice none 0 0) ∧ wa.frozen? ⟨w.heap.size + 2, 0, none⟩ = false) :=
  ⟨(hBa.cell (p := ⟨w.heap.size, 0, none⟩) (by simp)).trans (by simp [go_sem]), (hBa.cell (p := ⟨w.heap.size + 1, 0, none⟩) (by simp)).trans (by simp [go_sem]), (hBa.cell (p := ⟨w.heap.size + 2, 0, none⟩) (by simp)).trans (by simp [go_sem]), (hBa.frozen (p := ⟨w.heap.size + 2, 0, none⟩) (by simp)).trans (by simp [go_sem])⟩
 have HA : Aside0 (Below w.heap.size w wa) := ⟨HB0.out.trans (hBa.mono (by omega))⟩
 have HS : Aside0 (w.heap.size + 4 ≤ wa.heap.size) := ⟨by rw [← HX0.out]; exact hBa.size⟩
 have HRa := Aside0.mk hRa
 clear hRa hBa
 go_enter Tryz.func192, Tryz.ntmps192
 go_wp2_with fail
 clear hcp hmk
 go_loopw [6, 19] (fun v6 v19 W => ∃ i r : Nat, v6 = .int .i64 (r : Int) ∧ v19 = .int .i64 (i : Int) ∧ i ≤ L1 ∧ r ≤ 1 ∧ Aside0 (∃ xs, xs.length = L1 ∧ (∀ d ∈ xs, d < BB) ∧ (∀ j, i ≤ j → j < L1 → xs.getD j 0 = m / BB ^ j % BB) ∧ val BB (xs.take i) + n % BB ^ i = m % BB ^ i + BB ^ i * r ∧ Row W (w.heap.size + 3) xs) ∧ Aside0 (Below (w.heap.size + 3) wa W)) (fun _ v19 _ => L1 - (intOf v19).toNat)
 case atStart => exact ⟨0, 0, rfl, rfl, by omega, by omega, ⟨_, H1.out.1, dg_lt BB1 m, fun j _ _ => dg_getD BB1 j m, by simp [val, Nat.mod_one], HRa.out⟩, ⟨Below.refl _ _⟩⟩
 case round =>
  obtain ⟨i, r, rfl, rfl, hi, hr1, hout, hbr⟩ := hrel
  by_cases hlt : i < L1
  ·obtain ⟨xs, o1, o2, o3, o4, o5⟩ := hout.out
   have HW : Aside0 (Below w.heap.size w wr) := ⟨HA.out.trans (hbr.out.mono (by omega))⟩
   obtain ⟨x, hx⟩ : ∃ x, n / BB ^ i % BB = x := ⟨_, rfl⟩
   have hx1 : x < 1000000000 := by rw [← hx]; exact Nat.mod_lt _ (by decide)
   obtain ⟨d, hd⟩ : ∃ d, m / BB ^ i % BB = d := ⟨_, rfl⟩
   have hd1 : d < 1000000000 := by rw [← hd]; exact Nat.mod_lt _ (by decide)
   have q0 : wr.cell? ⟨w.heap.size + 1 + 1 + 1, i, none⟩ = some (.int .u32 (d : Int)) := by rw [← hd, ← o3 i (Nat.le_refl _) hlt]; exact o5.cell (by omega)
   have q1 : wr.cell? ⟨w.heap.size + 1, 0, none⟩ = some (.slice A2 L2 L2) := (hbr.out.cell (p := ⟨w.heap.size + 1, 0, none⟩) (by simp)).trans HX.out.2.1
   have HXD : Aside0 (n / BB ^ i % BB = x ∧ m / BB ^ i % BB = d) := ⟨hx, hd⟩
   have HO : Aside0 (xs.length = L1 ∧ (∀ d ∈ xs, d < BB) ∧ (∀ j, i ≤ j → j < L1 → xs.getD j 0 = m / BB ^ j % BB) ∧ val BB (xs.take i) + n % BB ^ i = m % BB ^ i + BB ^ i * r) := ⟨o1, o2, o3, o4⟩
   have HR' : Aside0 (Row wr (w.heap.size + 3) xs) := ⟨o5⟩
   clear hx hd o1 o2 o3 o4 o5 hout
   have s4 : (i : Int) < (L1 : Int) := by omega
   have w1 : IntKind.i64.wrap (d : Int) = (d : Int) := IntWalk.i64_in _ (by omega)
   have w2 : IntKind.i64.wrap (x : Int) = (x : Int) := IntWalk.i64_in _ (by omega)
   have p1 : IntKind.i64.wrap ((d : Int) - (x : Int)) = (d : Int) - (x : Int) := IntWalk.i64_in _ (by omega)
   have p2 : IntKind.i64.wrap ((d : Int) - (x : Int) - (r : Int)) = (d : Int) - (x : Int) - (r : Int) := IntWalk.i64_in _ (by omega)
   have tb : Below wr.heap.size wr wr.drew := below_drew1 (Below.refl _ _)
   go_wp2_with fail
   go_region_held3 (fun W => W.cell? ⟨w.heap.size + 1 + 1 + 1, i, none⟩ = some (.int .u32 (d : Int)) ∧ W.cell? ⟨w.heap.size + 1, 0, none⟩ = some (.slice A2 L2 L2) ∧ Below wr.heap.size wr W)
    (first
      | go_keep
      | (go_split_ands
         have hBB := bJoin (w1 := wr) hbq (by assumption)
         exact ⟨keepAt hBB q0, keepAt hBB q1, hBB⟩))
    (first
      | (go_at_call 193; (with_reducible refine (limb_any H2.out hB (below_step HW.out (by first | assumption | exact (‹_ ∧ _ ∧ Below wr.heap.size wr _›).2.2)) i HXD.out.1).mono ?_); rintro e wq ⟨rfl, hbq⟩))
   have tq : Below wr.heap.size wr wq := (‹_ ∧ _ ∧ Below wr.heap.size wr wq›).2.2
   have hRq : Row wq (w.heap.size + 3) xs := HR'.out.keep tq
   have r0 : wq.cell? ⟨w.heap.size + 1 + 1 + 1, i, none⟩ = some (.int .u32 (d : Int)) := (‹_ ∧ _ ∧ Below wr.heap.size wr wq›).1
   have r1 : wq.frozen? ⟨w.heap.size + 1 + 1 + 1, i, none⟩ = false := hRq.frozen _
   have HRq := Aside0.mk hRq
   have HBq : Aside0 (Below (w.heap.size + 3) wa wq) := ⟨hbr.out.trans (tq.mono (by have := HR'.out.lt; omega))⟩
   clear hRq tb tq hbq q0 q1 w1 w2 p1 p2 hbr
   have FIN : Aside0 (∀ d' r', d' + (x + r) = d + BB * r' → d' < BB → r' ≤ 1 → ∃ xs, xs.length = L1 ∧ (∀ d ∈ xs, d < BB) ∧ (∀ j, i + 1 ≤ j → j < L1 → xs.getD j 0 = m / BB ^ j % BB) ∧ val BB (xs.take (i + 1)) + n % BB ^ (i + 1) = m % BB ^ (i + 1) + BB ^ (i + 1) * r' ∧ Row (wq.setCell ⟨w.heap.size + 1 + 1 + 1, i, none⟩ (.int .u32 (d' : Int))) (w.heap.size + 3) xs) := ⟨fun d' r' e1 e2 e3 => by
    have hl := HO.out.1
    refine ⟨xs.set i d', by rw [List.length_set]; exact hl, ?_, ?_, ?_, HRq.out.set _ _⟩
    ·intro y hy
     rcases List.mem_or_eq_of_mem_set hy with h | h
     ·exact HO.out.2.1 y h
     ·rw [h]; exact e2
    ·intro j h1 h2
     rw [← HO.out.2.2.1 j (by omega) h2, List.getD_eq_getElem?_getD, List.getD_eq_getElem?_getD, List.getElem?_set_ne (by omega)]
    ·have := sub_step BB1 (by rw [List.length_take]; omega) hr1 HO.out.2.2.2 d' r' (by rw [HXD.out.1, HXD.out.2]; exact e1)
     rw [take_snoc' _ (by rw [List.length_set]; omega), List.take_set_of_le (Nat.le_refl _), getD_lt (by rw [List.length_set]; omega), List.getElem_set_self]
     exact this⟩
   by_cases hneg : d < x + r
   ·have c1 : decide ((d : Int) - (x : Int) - (r : Int) < 0) = true := decide_eq_true (by omega)
    have c2 : (d : Int) - (x : Int) - (r : Int) < 0 := by omega
    have p3 : IntKind.i64.wrap ((d : Int) - (x : Int) - (r : Int) + 1000000000) = (d : Int) - (x : Int) - (r : Int) + 1000000000 := IntWalk.i64_in _ (by omega)
    go_wp2_with fail
    have eN : (d : Int) - (x : Int) - (r : Int) + 1000000000 = ((d + 1000000000 - (x + r) : Nat) : Int) := by omega
    rw [eN]
    exact ⟨⟨i + 1, 1, rfl, by go_num, by omega, by omega, ⟨FIN.out _ 1 (by unfold BB; omega) (by unfold BB; omega) (by omega)⟩, ⟨HBq.out.setCell (by simp) _⟩⟩, by simp [intOf]; omega⟩
   ·have c1 : decide ((d : Int) - (x : Int) - (r : Int) < 0) = false := decide_eq_false (by omega)
    have c2 : ¬ (d : Int) - (x : Int) - (r : Int) < 0 := by omega
    go_wp2_with fail
    have eN : (d : Int) - (x : Int) - (r : Int) = ((d - (x + r) : Nat) : Int) := by omega
    rw [eN]
    exact ⟨⟨i + 1, 0, rfl, by go_num, by omega, by omega, ⟨FIN.out _ 0 (by unfold BB; omega) (by unfold BB; omega) (by omega)⟩, ⟨HBq.out.setCell (by simp) _⟩⟩, by simp [intOf]; omega⟩
  ·obtain rfl : i = L1 := by omega
   clear hi hlt
   obtain ⟨xs, o1, o2, o3, o4, o5⟩ := hout.out
   have HO : Aside0 ((∀ d ∈ xs, d < BB) ∧ val BB xs = m - n ∧ Lst wr (w.heap.size + 4) (some ⟨w.heap.size + 3, 0, none⟩) i xs) := ⟨o2, less_end BB1 o2 o1 (by have := dg_lt_pow BB1 m; rwa [H1.out.1] at this) HN.out (by rwa [List.take_of_length_le (by omega)] at o4), by have := o5.lst; rw [o1] at this; exact this⟩
   clear o1 o2 o3 o4 o5 hout
   have HZ : Aside0 (w.heap.size + 4 ≤ wr.heap.size) := ⟨Nat.le_trans HS.out hbr.out.size⟩
   go_wp2_with (go_at_call 180; (with_reducible refine (strip_calls HO.out.2.2 HO.out.1 (Nat.le_refl _) (by omega) HZ.out).mono ?_); rintro e w4 ⟨k, rfl, hm4, hb4⟩; have hz3 : w.heap.size + 4 ≤ wr.heap.size := HZ.out; have k1 : w4.cell? ⟨w.heap.size + 1 + 1, 0, none⟩ = some (.slice none 0 0) := (hb4.cell (p := ⟨w.heap.size + 2, 0, none⟩) (show w.heap.size + 2 < wr.heap.size by omega)).trans ((hbr.out.cell (p := ⟨w.heap.size + 2, 0, none⟩) (by simp)).trans HX.out.2.2.1); have k2 : w4.frozen? ⟨w.heap.size + 1 + 1, 0, none⟩ = false := (hb4.frozen (p := ⟨w.heap.size + 2, 0, none⟩) (show w.heap.size + 2 < wr.heap.size by omega)).trans ((hbr.out.frozen (p := ⟨w.heap.size + 2, 0, none⟩) (by simp)).trans HX.out.2.2.2))
   rw [HO.out.2.1] at hm4
   refine bodyPost_ret (v := .agg #[.slice (some ⟨w.heap.size + 3, 0, none⟩) k k]) (by simp [results, Tryz.results192, go_sem, k1]) rfl ⟨_, k, rfl, (fun b e => by injection e with e; injection e with e; omega), ?_, ?_⟩
   ·exact (hm4.set _ (fun b _ e => by injection e with e; injection e with e; subst e; simp) _).more (by have := hb4.size; have := HZ.out; simp; omega)
   ·exact ((HA.out.trans (hbr.out.mono (by omega))).trans (hb4.mono (by omega))).setCell (by simp; omega) _
theorem less_calls {w : World} {B : Nat} {A1 A2 : Option Addr} {L1 L2 m n : Nat} (h1 : Mag w B A1 L1 m) (h2 : Mag w B A2 L2 n) (hB : B ≤ w.heap.size) (hnm : n ≤ m) :
 Calls Tryz.prog 192 #[.agg #[.slice A1 L1 L1], .agg #[.slice A2 L2 L2]] w fun e w' => ∃ A k, e = .returned (.agg #[.slice A k k]) ∧ Mag w' w'.heap.size A k (m - n) ∧ Below w.heap.size w w' :=
 (less_fresh h1 h2 hB hnm).mono fun e w' ⟨A, k, h1, _, h3, h4⟩ => ⟨A, k, h1, h3, h4⟩
end
end Go.Proofs.YtnjbinpbkjdjpaaGreatDoor.Nm
namespace Go.Proofs.YtnjbinpbkjdjpaaGreatDoor.Rf
section
open Go Go.RowKit
variable {F : Fence} {n : Nat} {P : Program}
/-- What the iterator does between two rounds: new blocks, and whatever it likes with its own. -/
structure Step (own : List Nat) (A B : World) : Prop where
 os : B.os = A.os
 tape : B.tape = A.tape
 output : B.output = A.output
 size : A.heap.size ≤ B.heap.size
 block : ∀ k, k < A.heap.size → k ∉ own → B.heap[k]? = A.heap[k]?
theorem Step.refl (own : List Nat) (A : World) : Step own A A := ⟨rfl, rfl, rfl, Nat.le_refl _, fun _ _ _ => rfl⟩
theorem Step.trans {own : List Nat} {A B C : World} (h : Step own A B) (k : Step own B C) : Step own A C :=
 ⟨k.os.trans h.os, k.tape.trans h.tape, k.output.trans h.output, Nat.le_trans h.size k.size, fun i hi ho => (k.block i (Nat.lt_of_lt_of_le hi h.size) ho).trans (h.block i hi ho)⟩
theorem Step.of_below {own : List Nat} {A B : World} (h : Below A.heap.size A B) : Step own A B := ⟨h.os, h.tape, h.output, h.size, fun i hi _ => h.block i hi⟩
theorem Step.set {own : List Nat} {A : World} {b o : Nat} (v : Value) (h : b ∈ own) : Step own A (A.setCell ⟨b, o, none⟩ v) :=
 ⟨rfl, rfl, rfl, by simp [World.setCell], fun k _ ho => Below.heap_setCell _ _ _ _ (fun e => ho (by rw [e]; exact h))⟩
/-- What the caller's word must not mind: the iterator's own blocks; whatever is no cells, from n₀ on. -/
structure Turn (n₀ : Nat) (own : List Nat) (A B : World) : Prop where
 os : B.os = A.os
 tape : B.tape = A.tape
 output : B.output = A.output
 size : A.heap.size ≤ B.heap.size
 low : ∀ k, k < n₀ → B.heap[k]? = A.heap[k]?
 cells : ∀ (k : Nat) (o : Obj), A.heap[k]? = some o → o.isCells = true → k ∉ own → B.heap[k]? = some o
theorem Turn.of_step {n₀ : Nat} {own : List Nat} {A B : World} (h : Step own A B) (hn : n₀ ≤ A.heap.size) (ho : ∀ r, r ∈ own → n₀ ≤ r) : Turn n₀ own A B :=
 ⟨h.os, h.tape, h.output, h.size, fun k hk => h.block k (by omega) (fun e => by have := ho k e; omega),
  fun k o hk _ hno => (h.block k (Array.getElem?_eq_some_iff.1 hk).1 hno).trans hk⟩
theorem Turn.putObj {n₀ : Nat} {own : List Nat} {A : World} {l : Nat} {o : Obj} (o' : Obj) (hl : A.heap[l]? = some o) (ho : o.isCells = false) (hn : n₀ ≤ l) : Turn n₀ own A (A.putObj l o') :=
 ⟨rfl, rfl, rfl, by simp, fun k hk => World.putObj_heap_other (by omega), fun k o2 hk hc _ => (World.putObj_heap_other (fun e => by subst e; rw [hl] at hk; cases hk; rw [ho] at hc; cases hc)).trans hk⟩
theorem Turn.alloc {n₀ : Nat} {own : List Nat} {A : World} (o : Obj) (hn : n₀ ≤ A.heap.size) : Turn n₀ own A (A.alloc o) :=
 ⟨rfl, rfl, rfl, by simp, fun k hk => Below.heap_alloc _ _ _ (by omega), fun k o2 hk _ _ => (Below.heap_alloc _ _ _ (Array.getElem?_eq_some_iff.1 hk).1).trans hk⟩
/-- What a round keeps for the iterator. -/
structure Kept (n₀ : Nat) (own : List Nat) (A B : World) : Prop where
 below : Below n₀ A B
 own : ∀ r, r ∈ own → r < A.heap.size → B.heap[r]? = A.heap[r]?
theorem Kept.refl (n₀ : Nat) (own : List Nat) (A : World) : Kept n₀ own A A := ⟨Below.refl _ _, fun _ _ _ => rfl⟩
theorem Kept.trans {n₀ : Nat} {own : List Nat} {A B C : World} (h : Kept n₀ own A B) (k : Kept n₀ own B C) : Kept n₀ own A C :=
 ⟨h.below.trans k.below, fun r hr hl => (k.own r hr (Nat.lt_of_lt_of_le hl h.below.size)).trans (h.own r hr hl)⟩
theorem Kept.putObj {n₀ : Nat} {own : List Nat} {A : World} {l : Nat} (o' : Obj) (hn : n₀ ≤ l) (hno : l ∉ own) : Kept n₀ own A (A.putObj l o') :=
 ⟨⟨rfl, rfl, rfl, by simp, fun k hk => World.putObj_heap_other (by omega)⟩, fun r hr _ => World.putObj_heap_other (fun e => hno (by rw [← e]; exact hr))⟩
/-- THE ITERATOR's CONTRACT. -/
def Seq {α : Type} (F : Fence) (n : Nat) (P : Program) (g : Nat) (lb : Array Value) (encs : α → Array Value) (S Sp : List α → Prop) (Nx : List α → α → Prop) (n₀ : Nat) (own0 : List Nat) (w : World) : Prop :=
 ∀ (l : Nat) (J Jx : List α → List Nat → World → Prop) (W : World), Below w.heap.size w W →
  (∀ pre own A B, J pre own A → Step own A B → J pre own B) →
  (∀ pre own A r, J pre own A → A.heap.size ≤ r → J pre (r :: own) A) →
  (∀ pre own A B, Jx pre own A → Step own A B → Jx pre own B) →
  (∀ pre own x W1, J pre own W1 → (∀ r, r ∈ own → r < W1.heap.size) → Nx pre x → YieldAt F (n - 1) P l (encs x) W1 fun e W' =>
    (e = .returned (.bool true) ∧ J (pre ++ [x]) own W' ∧ Kept n₀ own W1 W') ∨ (e = .returned (.bool false) ∧ Jx (pre ++ [x]) own W')) →
  J [] own0 W →
  CallsIn F n P g (#[.func (.yield l) #[] #[]] ++ lb) W fun e W' => (∃ v, e = .returned v) ∧ ((∃ xs own, S xs ∧ J xs own W') ∨ (∃ pre own, Sp pre ∧ Jx pre own W'))
/-- How the body of a round may be left. -/
def bodyEnds {α : Type} (n₀ B : Nat) (own : List Nat) (I : List α → List Nat → World → Prop) (Ix : Code → List α → List Nat → World → Prop) (xs : List α) (W : World) : Exit → Act → World → Prop
 | .normal, _, W' => KeepsFrom B W W' ∧ Kept n₀ own W W' ∧ I xs own W'
 | .ret, _, W' => KeepsFrom B W W' ∧ Ix .ret xs own W'
 | .exit id, _, W' => KeepsFrom B W W' ∧ Ix (.exit id) xs own W'
 | .goto t, _, W' => KeepsFrom B W W' ∧ Ix (.goto t) xs own W'
 | .panic _, _, _ => False
 | .outgrown, _, _ => False
/-- THE STATEMENT 'for x := range seq' OVER SUCH AN ITERATOR. -/
theorem wpIn_range {α : Type} {g : Operand} {ps : Array Tmp} {assign body : Code} {Q : Exit → Act → World → Prop} {a : Act} {w : World}
 (hro : F.round = none) (h1 : 1 ≤ n) {gf : Nat} {lb : Array Value} (hg : a.eval g = .func (.func gf) #[] lb) (hFg : F.fn gf) (eg : ∀ args w, (callFunc gf args).run P w = .ok (.enter gf args) w)
 {encs : α → Array Value} {S Sp : List α → Prop} {Nx : List α → α → Prop} {n₀ : Nat} {own0 : List Nat} (hseq : Seq F (n - 1) P gf lb encs S Sp Nx n₀ own0 w) (hn₀ : n₀ ≤ w.heap.size) (hps : ∀ x, (encs x).size = ps.size)
 (hown0 : ∀ r, r ∈ own0 → n₀ ≤ r ∧ r < w.heap.size)
 (I : List α → List Nat → World → Prop) (Ix : Code → List α → List Nat → World → Prop)
 (hI : ∀ pre own A B, I pre own A → Turn n₀ own A B → I pre own B) (hIa : ∀ pre own A r, I pre own A → A.heap.size ≤ r → I pre (r :: own) A)
 (hIx : ∀ c pre own A B, Ix c pre own A → Turn n₀ own A B → Ix c pre own B)
 (h0 : I [] own0 w) (Ax : List α → List Nat → α → Act → World → Prop) (hAx : ∀ pre own x a' A B, Ax pre own x a' A → Turn n₀ own A B → Ax pre own x a' B)
 (hassign : ∀ (l : Nat) (pre : List α) (own : List Nat) (x : α) (W : World) (K : Act → World → Prop), (∀ r, r ∈ own → n₀ ≤ r ∧ r < W.heap.size) → w.heap.size ≤ W.heap.size → I pre own W →
   (∀ a' W', KeepsFrom w.heap.size W W' → Kept n₀ own W W' → I pre own W' → Ax pre own x a' W' → K a' W') →
   assign.wpIn (F.inRound l) (n - 1 - 1) P (Exit.then K (fun _ _ _ => False)) { tmps := (ps.zip (encs x)).foldl (fun t (p, v) => t.setIfInBounds p v) a.tmps, defers := [] } W)
 (hbody : ∀ (l : Nat) (pre : List α) (own : List Nat) (x : α) (a' : Act) (W : World), (∀ r, r ∈ own → n₀ ≤ r ∧ r < W.heap.size) → w.heap.size ≤ W.heap.size → I pre own W → Ax pre own x a' W → Nx pre x →
   body.wpIn (F.inRound l) (n - 1 - 1) P (bodyEnds n₀ w.heap.size own I Ix (pre ++ [x]) W) a' W)
 (hdone : ∀ (D : Nat) (xs : List α) (own : List Nat) (W : World), w.heap.size ≤ D → S xs → I xs own W → W.heap[D]? = some (.deferred (some [])) → Q .normal { a with defers := { target := .collected D, args := #[] } :: a.defers } W)
 (hstop : ∀ (D : Nat) (c : Code) (pre : List α) (own : List Nat) (W : World), w.heap.size ≤ D → Sp pre → Ix c pre own W → W.heap[D]? = some (.deferred (some [])) → c.wpIn F n P Q { a with defers := { target := .collected D, args := #[] } :: a.defers } W) :
 (Code.rangeFunc g ps assign body).wpIn F n P Q a w := by
 refine wpIn_rangeFunc (fun fn hfn => ?_)
 rw [hro]
 obtain ⟨rec, hrec⟩ : ∃ rec : LoopState → Option Code → Loop, rec = fun st pe => { state := st, pending := pe, fn, tmps := a.tmps, params := ps, assign, body, defers := w.heap.size } := ⟨_, rfl⟩
 obtain ⟨W1, hW1⟩ : ∃ W1, (w.alloc (.deferred (some []))).alloc (.loop (rec .ready none)) = W1 := ⟨_, rfl⟩
 have hL1 : W1.heap[w.heap.size + 1]? = some (.loop (rec .ready none)) := by
  rw [← hW1]
  have := World.alloc_heap_new (w.alloc (.deferred (some []))) (.loop (rec .ready none))
  rwa [World.size_alloc] at this
 have hK1 : W1.heap[w.heap.size]? = some (.deferred (some [])) := by
  rw [← hW1]
  exact (Below.heap_alloc _ _ _ (by simp)).trans (World.alloc_heap_new w _)
 have hI1 : I [] own0 W1 := by
  rw [← hW1]
  exact hI _ _ _ _ (hI _ _ _ _ h0 (Turn.alloc _ hn₀)) (Turn.alloc _ (by simp; omega))
 have hb1 : Below w.heap.size w W1 := by
  rw [← hW1]
  exact ((Below.refl _ w).alloc (Nat.le_refl _) _).alloc (by simp) _
 refine ⟨w.heap.size + 1, [{ target := .collected w.heap.size, args := #[] }], W1, { target := .fn (.func gf) lb, args := #[.func (.yield (w.heap.size + 1)) #[] #[]] }, W1, gf,
  #[.func (.yield (w.heap.size + 1)) #[] #[]] ++ lb, W1, ?_, ?_, ?_, ?_, fun _ => h1, ?_⟩
 ·rw [← hW1, hrec]
  exact run_enterLoop_outer _ _ _ _ _
 ·simp only [resolve, hg]
  simp [go_sem]
 ·intro f' hf'
  simp [Target.leads] at hf'
  subst hf'
  exact hFg
 ·simp [invoke, go_sem, eg]
 ·let Bk : List Nat → LoopState → Option Code → World → Prop := fun own st pe W => w.heap.size + 1 ∉ own ∧ w.heap.size ∉ own ∧ (∀ r, r ∈ own → n₀ ≤ r) ∧ W.heap[w.heap.size + 1]? = some (.loop (rec st pe)) ∧ W.heap[w.heap.size]? = some (.deferred (some []))
  have bkStep : ∀ own st pe A B, Bk own st pe A → Step own A B → Bk own st pe B := by
   rintro own st pe A B ⟨g1, g2, g3, g4, g5⟩ hs
   exact ⟨g1, g2, g3, (hs.block _ (Array.getElem?_eq_some_iff.1 g4).1 g1).trans g4, (hs.block _ (Array.getElem?_eq_some_iff.1 g5).1 g2).trans g5⟩
  have bkTurn : ∀ own st pe A B, Bk own st pe A → Step own A B → Turn n₀ own A B := by
   rintro own st pe A B ⟨g1, g2, g3, g4, g5⟩ hs
   exact Turn.of_step hs (by have := (Array.getElem?_eq_some_iff.1 g5).1; omega) g3
  refine (hseq (w.heap.size + 1) (fun pre own W => I pre own W ∧ Bk own .ready none W) (fun pre own W => ∃ c, Ix c pre own W ∧ Bk own .done (some c) W) W1 hb1 ?_ ?_ ?_ ?_ ⟨hI1, ?_⟩).mono ?_
  ·rintro pre own A B ⟨hi, hb⟩ hs
   exact ⟨hI _ _ _ _ hi (bkTurn _ _ _ _ _ hb hs), bkStep _ _ _ _ _ hb hs⟩
  ·rintro pre own A r ⟨hi, g1, g2, g3, g4, g5⟩ hr
   have k4 := (Array.getElem?_eq_some_iff.1 g4).1
   refine ⟨hIa _ _ _ _ hi hr, ?_, ?_, ?_, g4, g5⟩
   ·simp only [List.mem_cons, not_or]
    exact ⟨by omega, g1⟩
   ·simp only [List.mem_cons, not_or]
    exact ⟨by omega, g2⟩
   ·intro q hq
    rcases List.mem_cons.1 hq with rfl | hq
    ·omega
    ·exact g3 q hq
  ·rintro pre own A B ⟨c, hi, hb⟩ hs
   exact ⟨c, hIx _ _ _ _ _ hi (bkTurn _ _ _ _ _ hb hs), bkStep _ _ _ _ _ hb hs⟩
  ·rintro pre own x W ⟨hi, g1, g2, g3, hl, hk⟩ hol hlen
   have hlt : w.heap.size + 1 < W.heap.size := (Array.getElem?_eq_some_iff.1 hl).1
   have hy := run_yield (P := P) (args := encs x) hl (by rw [hrec]; exact hps x)
   rw [hrec] at hy
   refine ⟨fn, _, assign, body, hy, roundIn_of_wpIn hfn (hassign _ pre own x W _ (fun r hr => ⟨g3 r hr, hol r hr⟩) (by omega) hi ?_)⟩
   clear hy
   intro a' Wa kfa kpa hia hax
   have hla := kfa.same _ _ (by omega) hl rfl
   have hka := kfa.same _ _ (Nat.le_refl _) hk rfl
   have hlta : w.heap.size + 1 < Wa.heap.size := (Array.getElem?_eq_some_iff.1 hla).1
   refine ⟨_, run_beginRound hla (by rw [hrec]), ?_⟩
   have t2 : Turn n₀ own Wa (Wa.putObj (w.heap.size + 1) (.loop { rec .ready none with state := .busy })) := Turn.putObj _ hla rfl (by omega)
   have hl2 : (Wa.putObj (w.heap.size + 1) (.loop { rec .ready none with state := .busy })).heap[w.heap.size + 1]? = some (.loop { rec .ready none with state := .busy }) := World.putObj_heap_same hlta
   have hk2 : (Wa.putObj (w.heap.size + 1) (.loop { rec .ready none with state := .busy })).heap[w.heap.size]? = some (.deferred (some [])) := (World.putObj_heap_other (by omega)).trans hka
   have kp2 : Kept n₀ own Wa (Wa.putObj (w.heap.size + 1) (.loop { rec .ready none with state := .busy })) := Kept.putObj _ (by omega) g1
   refine wpIn_mono (hbody _ pre own x a' _ (fun r hr => ⟨g3 r hr, by have := hol r hr; have := kfa.size; simp; omega⟩) (by simp; omega) (hI _ _ _ _ hia t2) (hAx _ _ _ _ _ _ hax t2) hlen) ?_
   have fin : ∀ (jump : Option Code) (W3 : World), KeepsFrom w.heap.size (Wa.putObj (w.heap.size + 1) (.loop { rec .ready none with state := .busy })) W3 →
    (Instr.endRound (w.heap.size + 1) jump).run P W3 = .ok (.bool jump.isNone) (W3.putObj (w.heap.size + 1) (.loop (rec (if jump.isNone then .ready else .done) jump))) ∧
    W3.heap[w.heap.size + 1]? = some (.loop { rec .ready none with state := .busy }) ∧
    Bk own (if jump.isNone then .ready else .done) jump (W3.putObj (w.heap.size + 1) (.loop (rec (if jump.isNone then .ready else .done) jump))) := by
    intro jump W3 k3
    have hl3 := k3.same _ _ (by omega) hl2 rfl
    have hr := run_endRound (P := P) jump hl3
    rw [hrec] at hr ⊢
    refine ⟨hr, by rw [hrec] at hl3; exact hl3, g1, g2, g3, ?_, ?_⟩
    ·rw [World.putObj_heap_same (Array.getElem?_eq_some_iff.1 hl3).1, hrec]
    ·exact (World.putObj_heap_other (by omega)).trans (k3.same _ _ (Nat.le_refl _) hk2 rfl)
   rintro e a3 W3 hp
   cases e with
   | normal =>
     obtain ⟨k3, kp3, hi3⟩ := hp
     obtain ⟨hr, hl3, hb3⟩ := fin none W3 k3
     exact ⟨_, _, hr, .inl ⟨rfl, ⟨hI _ _ _ _ hi3 (Turn.putObj _ hl3 rfl (by omega)), hb3⟩, (kpa.trans (kp2.trans kp3)).trans (Kept.putObj _ (by omega) g1)⟩⟩
   | ret =>
     obtain ⟨k3, hi3⟩ := hp
     obtain ⟨hr, hl3, hb3⟩ := fin (some .ret) W3 k3
     exact ⟨_, _, hr, .inr ⟨rfl, .ret, hIx _ _ _ _ _ hi3 (Turn.putObj _ hl3 rfl (by omega)), hb3⟩⟩
   | exit id =>
     obtain ⟨k3, hi3⟩ := hp
     obtain ⟨hr, hl3, hb3⟩ := fin (some (.exit id)) W3 k3
     exact ⟨_, _, hr, .inr ⟨rfl, .exit id, hIx _ _ _ _ _ hi3 (Turn.putObj _ hl3 rfl (by omega)), hb3⟩⟩
   | goto t =>
     obtain ⟨k3, hi3⟩ := hp
     obtain ⟨hr, hl3, hb3⟩ := fin (some (.goto t)) W3 k3
     exact ⟨_, _, hr, .inr ⟨rfl, .goto t, hIx _ _ _ _ _ hi3 (Turn.putObj _ hl3 rfl (by omega)), hb3⟩⟩
   | panic ch => exact hp.elim
   | outgrown => exact hp.elim
  ·exact ⟨fun h => by have := (hown0 _ h).2; omega, fun h => by have := (hown0 _ h).2; omega, fun r hr => (hown0 r hr).1, hL1, hK1⟩
  ·rintro e W2 ⟨⟨v, rfl⟩, h⟩
   rcases h with ⟨xs, own, hS, hi, g1, g2, g3, hl, hk⟩ | ⟨pre, own, hSp, c, hi, g1, g2, g3, hl, hk⟩
   ·have hr := run_endLoop (P := P) hl (by rw [hrec]; simp)
    rw [hrec] at hr
    exact ⟨none, _, hr, hdone _ xs own _ (Nat.le_refl _) hS (hI _ _ _ _ hi (Turn.putObj _ hl rfl (by omega))) ((World.putObj_heap_other (by omega)).trans hk)⟩
   ·have hr := run_endLoop (P := P) hl (by rw [hrec]; simp)
    rw [hrec] at hr
    exact ⟨some c, _, hr, hstop _ c pre own _ (Nat.le_refl _) hSp (hIx _ _ _ _ _ hi (Turn.putObj _ hl rfl (by omega))) ((World.putObj_heap_other (by omega)).trans hk)⟩
end
end Go.Proofs.YtnjbinpbkjdjpaaGreatDoor.Rf
namespace Go.Proofs.YtnjbinpbkjdjpaaGreatDoor.Nm
section
open Go.Proofs.YtnjbinpbkjdjpaaGreatDoor.Rf Go.Proofs.YtnjbinpbkjdjpaaGreatDoorW.PrintLast Go.Proofs.YtnjbinpbkjdjpaaGreatDoorW.PrintMore Go.Proofs.YtnjbinpbkjdjpaaGreatDoorW.PrintWords Go.RowKit Go.Shelf
attribute [local go_sem] Oper.semAt_some
/-- What comes k-th: the place and the limb. -/
def backAt (xs : List Nat) (k : Nat) : Nat × Nat := (xs.length - 1 - k, xs.getD (xs.length - 1 - k) 0)
def backs (xs : List Nat) (k : Nat) : List (Nat × Nat) := (List.range k).map (backAt xs)
theorem backs_succ (xs : List Nat) (k : Nat) : backs xs (k + 1) = backs xs k ++ [backAt xs k] := by simp [backs, List.range_succ]
def backV (x : Nat × Nat) : Array Value := #[.int .i64 (x.1 : Int), .int .u32 (x.2 : Int)]
theorem back_seq (n : Nat) (hn : 1 ≤ n) {A : Option Addr} {L n₀ Bs : Nat} {xs : List Nat} {w : World} (hl : Lst w n₀ A L xs) (hL : L ≤ 100000) (hBs : w.cell? ⟨Bs, 0, none⟩ = some (.slice A L L)) (hn₀ : n₀ ≤ w.heap.size) :
 Seq Fence.wide n Tryz.prog 227 #[.pointer (some ⟨Bs, 0, none⟩)] backV (fun ys => ys = backs xs L) (fun pre => ∃ k, k ≤ L ∧ pre = backs xs k) (fun pre x => ∃ k, k < L ∧ pre = backs xs k ∧ x = backAt xs k) n₀ [Bs] w := by
 intro l J Jx W hW hJ hJa hJx hY h0
 have hBW : W.cell? ⟨Bs, 0, none⟩ = some (.slice A L L) := pw_cell_below hW hBs
 have hBlt : Bs < W.heap.size := World.block_lt_of_cell? W _ hBW
 have hlW : Lst W n₀ A L xs := hl.below (hW.mono hn₀)
 have HLW := Aside0.mk hlW
 have hlen := hl.1
 have w1 : IntKind.i64.wrap ((L : Int) - 1) = (L : Int) - 1 := IntWalk.i64_in _ (by omega)
 clear hlW hl hW hBs
 refine callsIn_of_wp Tryz.func227 rfl trivial ?_ rfl
 simp only [Tryz.ntmps227, List.size_toArray, List.length_cons, List.length_nil, Nat.reduceAdd, Nat.reduceSub, Array.replicate_succ, Array.replicate_zero, List.push_toArray, List.append_toArray, List.nil_append, List.cons_append]
 gi_wp2
 gi_loopw [3] (fun v3 wr => ∃ k : Nat, v3 = .int .i64 ((L : Int) - 1 - (k : Int)) ∧ k ≤ L ∧ Aside0 (J (backs xs k) [Bs] wr) ∧ Aside0 (Below n₀ W wr ∧ Bs < wr.heap.size ∧ wr.cell? ⟨Bs, 0, none⟩ = some (.slice A L L))) (fun v3 _ => (intOf v3 + 1).toNat)
 case atStart => exact ⟨0, by simp, by omega, ⟨h0⟩, ⟨Below.refl _ _, hBlt, hBW⟩⟩
 case round =>
  obtain ⟨k, rfl, hk, HJ, HT⟩ := hrel
  by_cases hlt : k < L
  ·obtain ⟨j, hj⟩ : ∃ j, k + 1 + j = L := ⟨L - 1 - k, by omega⟩
   have ej : (L : Int) - 1 - (k : Int) = (j : Int) := by omega
   obtain ⟨d, hd⟩ : ∃ d, xs.getD j 0 = d := ⟨_, rfl⟩
   have eb : backAt xs k = (j, d) := by
    unfold backAt
    rw [show xs.length - 1 - k = j by omega, hd]
   obtain ⟨b, hA, hb, hc⟩ := (HLW.out.below HT.out.1).2 (by omega)
   have hcj := hc j (by omega)
   rw [hd] at hcj
   obtain ⟨fn, tmps, assign, body, hy, hR⟩ := hY (backs xs k) [Bs] (backAt xs k) wr HJ.out (by intro r hr; rw [List.mem_singleton.1 hr]; exact HT.out.2.1) ⟨k, hlt, rfl, rfl⟩
   rw [eb] at hy
   simp only [backV] at hy
   rw [ej]
   subst hA
   have hcB := HT.out.2.2
   have hji : (j : Int) < (L : Int) := by omega
   have HK := Aside0.mk eb
   clear hc eb ej hY hd
   gi_wp2
   refine hR.mono ?_
   rintro e W3 (⟨rfl, hJ3, hk3⟩ | ⟨rfl, hJx3⟩)
   ·have h3 : W3.cell? ⟨Bs, 0, none⟩ = some (.slice (some ⟨b, 0, none⟩) L L) := (World.cell?_of_block (hk3.own Bs (by simp) HT.out.2.1)).trans hcB
    have w2 : IntKind.i64.wrap ((j : Int) - 1) = (j : Int) - 1 := IntWalk.i64_in _ (by omega)
    gi_wp2
    go_roundw
    case rel => exact ⟨k + 1, congrArg (Value.int .i64) (by omega), by omega, ⟨by rw [backs_succ]; exact hJ3⟩, ⟨HT.out.1.trans hk3.below, World.block_lt_of_cell? W3 _ h3, h3⟩⟩
    case measure => simp [intOf]
   ·gi_wp2
    refine bodyPost_ret (results_none rfl _ _ _) rfl ?_
    exact ⟨⟨_, rfl⟩, .inr ⟨_, _, ⟨k + 1, by omega, (backs_succ xs k).symm⟩, hJx3⟩⟩
  ·obtain rfl : k = L := by omega
   have e0 : (k : Int) - 1 - (k : Int) = -1 := by omega
   rw [e0]
   clear e0
   gi_wp2
   go_end0
   exact ⟨⟨_, rfl⟩, .inl ⟨_, _, rfl, HJ.out⟩⟩
end
section
open Go.Proofs.YtnjbinpbkjdjpaaGreatDoorW.PrintLast Go.Proofs.YtnjbinpbkjdjpaaGreatDoorW.PrintMore Go.Proofs.YtnjbinpbkjdjpaaGreatDoorW.PrintWords Go.RowKit
theorem dg_len_one {n : Nat} (h : (dg BB n).length = 1) : (dg BB n).getD 0 0 = n := by
 have h1 := dg_lt_pow BB1 n
 rw [h, Nat.pow_one] at h1
 rw [dg_getD BB1, Nat.pow_zero, Nat.div_one, Nat.mod_eq_of_lt h1]
theorem isOne_calls {w : World} {B : Nat} {A : Option Addr} {L n : Nat} (h : Mag w B A L n) (hB : B ≤ w.heap.size) :
 Calls Tryz.prog 127 #[.agg #[.slice A L L]] w fun e w' => e = .returned (.bool (decide (n = 1))) ∧ Below w.heap.size w w' := by
 obtain ⟨h1, h2, h3⟩ := h
 by_cases hL : L = 1
 ·subst hL
  obtain ⟨b, rfl, hb, hc⟩ := h3 (by omega)
  have hc0 := hc 0 (by omega)
  rw [dg_len_one h1] at hc0
  have hbw : b < w.heap.size := by omega
  clear hc h3 h1
  go_enter Tryz.func127, Tryz.ntmps127
  go_wp2
  go_ret
  exact ⟨ret_b (by rw [Bool.eq_iff_iff]; simp; try omega), (Below.refl _ _).alloc (Nat.le_refl _) _⟩
 ·have hn : decide (n = 1) = false := by
   refine decide_eq_false fun e => hL ?_
   rw [← h1, e, dg_one BB1 (by omega) (by decide)]; rfl
  rw [hn]
  clear h1 h3 hn
  have hd : decide (L = 1) = false := decide_eq_false hL
  have hd2 : ((L : Int) == 1) = false := by simp; omega
  go_enter Tryz.func127, Tryz.ntmps127
  go_wp2
  go_ret
  exact ⟨ret_b (by simp), (Below.refl _ _).alloc (Nat.le_refl _) _⟩
/-- The value of an integer whose limbs lie at A. -/
def iV (A : Option Addr) (L : Nat) (x : Int) : Value := .agg #[.slice A L L, .bool (decide (x < 0))]
theorem negative_calls {w : World} {B : Nat} {A : Option Addr} {L : Nat} {x : Int} (h : Mag w B A L x.natAbs) (hB : B ≤ w.heap.size) :
 Calls Tryz.prog 69 #[iV A L x] w fun e w' => e = .returned (iV A L (-x)) ∧ Mag w' B A L (-x).natAbs ∧ Below w.heap.size w w' := by
 unfold iV
 have H : Aside0 (Mag w B A L x.natAbs) := ⟨h⟩
 clear h
 obtain ⟨g, hg⟩ : ∃ g, decide (x < 0) = g := ⟨_, rfl⟩
 obtain ⟨N, hN⟩ : ∃ N, x.natAbs = N := ⟨_, rfl⟩
 have hr : (!g && decide (N ≠ 0)) = decide (-x < 0) := by
  rw [← hg, ← hN, Bool.eq_iff_iff]; simp; omega
 rw [hN] at H
 have HR : Aside0 ((!g && decide (N ≠ 0)) = decide (-x < 0) ∧ (-x).natAbs = N) := ⟨hr, by rw [← hN]; omega⟩
 rw [hg]
 clear hr hg hN
 go_enter Tryz.func69, Tryz.ntmps69
 go_wp2_with (go_at_call 139; (with_reducible refine (signed_calls (H.out.keep hB (by repeat (first | exact Below.refl _ _ | apply below_alloc))) (by simp; omega) _).mono ?_); rintro e wq ⟨rfl, hm, hbq⟩; have q1 : wq.cell? ⟨w.heap.size + 1, 0, none⟩ = some (.slice none 0 0) := (hbq.cell (p := ⟨w.heap.size + 1, 0, none⟩) (by first | (simp; omega) | simp)).trans (by simp [go_sem]); have q2 : wq.cell? ⟨w.heap.size + 1, 1, none⟩ = some (.bool false) := (hbq.cell (p := ⟨w.heap.size + 1, 1, none⟩) (by first | (simp; omega) | simp)).trans (by simp [go_sem]); have q3 : wq.frozen? ⟨w.heap.size + 1, 0, none⟩ = false := (hbq.frozen (p := ⟨w.heap.size + 1, 0, none⟩) (by first | (simp; omega) | simp)).trans (by simp [go_sem]); have q4 : wq.frozen? ⟨w.heap.size + 1, 1, none⟩ = false := (hbq.frozen (p := ⟨w.heap.size + 1, 1, none⟩) (by first | (simp; omega) | simp)).trans (by simp [go_sem]); have HQ : Aside0 (Below w.heap.size w wq ∧ Mag wq B A L N) := ⟨below_step (by repeat (first | exact Below.refl _ _ | apply below_alloc)) hbq, hm⟩; clear hm hbq)
 refine bodyPost_ret (v := .agg #[.slice A L L, .bool (!g && decide (N ≠ 0))]) (by simp [results, Tryz.results69, go_sem, q1, q2]) rfl ⟨by rw [HR.out.1], ?_, ?_⟩
 ·rw [HR.out.2]
  exact (HQ.out.2.set _ (fun b hb _ => by simp; omega) _).set _ (fun b hb _ => by simp; omega) _
 ·exact (HQ.out.1.setCell (by simp) _).setCell (by simp) _
end
end Go.Proofs.YtnjbinpbkjdjpaaGreatDoor.Nm
