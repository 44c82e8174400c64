import Derived.Test.YtillgofjlpjbcaaGreatDoorH7
import Derived.Lib.ParseIntB
import Derived.Lib.SmallJoins
import Derived.Test.YtillgofjlpjbcaaGreatDoorH3
import Derived.Laws.MakeOwn
import Derived.Laws.OwnMore
import Derived.Test.YtillgofjlpjbcaaGreatDoorH4
/- Own text: contracts and laws on which the card rests (NnN NnO NnP RaF RaG RaH RaI RaL RaO RaR). -/
set_option linter.unusedVariables false
set_option linter.unusedSimpArgs false
set_option maxRecDepth 1000000
set_option maxHeartbeats 16000000
namespace Go.Proofs.YtillgofjlpjbcaaGreatDoor.Nm
section
open Go.Lib Go.Proofs.YtillgofjlpjbcaaGreatDoorW.PrintLast Go.Proofs.YtillgofjlpjbcaaGreatDoorW.PrintMore Go.Proofs.YtillgofjlpjbcaaGreatDoorW.PrintWords Go.RowKit Go.Shelf
/-- An integer's variable. -/
def IB (W : World) (b : Nat) (A : Option Addr) (L : Nat) (f : Bool) : Prop := W.heap[b]? = some (.cells #[.slice A L L, .bool f] 89 (0, 0))
theorem IB.cell0 {W : World} {b : Nat} {A : Option Addr} {L : Nat} {f : Bool} (h : IB W b A L f) : W.cell? ⟨b, 0, none⟩ = some (.slice A L L) := by rw [Lib.cell_of_heap h]; rfl
theorem IB.cell1 {W : World} {b : Nat} {A : Option Addr} {L : Nat} {f : Bool} (h : IB W b A L f) : W.cell? ⟨b, 1, none⟩ = some (.bool f) := by rw [Lib.cell_of_heap h]; rfl
theorem IB.fr {W : World} {b : Nat} {A : Option Addr} {L : Nat} {f : Bool} (h : IB W b A L f) (o : Nat) : W.frozen? ⟨b, o, none⟩ = false := Lib.frozen_of_heap h o
theorem IB.lt {W : World} {b : Nat} {A : Option Addr} {L : Nat} {f : Bool} (h : IB W b A L f) : b < W.heap.size := (Array.getElem?_eq_some_iff.1 h).1
theorem IB.below {W X : World} {b : Nat} {A : Option Addr} {L : Nat} {f : Bool} (h : IB W b A L f) (hb : Below W.heap.size W X) : IB X b A L f := (hb.block b h.lt).trans h
theorem IB.put {W : World} {b : Nat} {A : Option Addr} {L : Nat} {f : Bool} (h : IB W b A L f) (A' : Option Addr) (L' : Nat) (f' : Bool) : IB ((W.setCell ⟨b, 0, none⟩ (.slice A' L' L')).setCell ⟨b, 1, none⟩ (.bool f')) b A' L' f' := by
 unfold IB at *
 simp [World.setCell, Array.getElem?_modify, h]
theorem IB.other {W : World} {b c : Nat} {A : Option Addr} {L : Nat} {f : Bool} (h : IB W b A L f) (hne : c ≠ b) (u u' : Value) : IB ((W.setCell ⟨c, 0, none⟩ u).setCell ⟨c, 1, none⟩ u') b A L f := by
 unfold IB at *
 rw [Below.heap_setCell _ _ _ _ (fun e => hne (by first | exact e | exact e.symm)), Below.heap_setCell _ _ _ _ (fun e => hne (by first | exact e | exact e.symm))]
 exact h
theorem IB.mag {W : World} {b : Nat} {A : Option Addr} {L : Nat} {f : Bool} (h : IB W b A L f) {B L' n : Nat} {A' : Option Addr} (hm : Mag W B A' L' n) (u u' : Value) : Mag ((W.setCell ⟨b, 0, none⟩ u).setCell ⟨b, 1, none⟩ u') B A' L' n :=
 have hp := hm.apart h.cell0 (fun d => by simp)
 (hm.setA hp 0 u).setA hp 1 u'
theorem IB.new (W : World) (A : Option Addr) (L : Nat) (f : Bool) : IB (W.alloc (.cells #[.slice A L L, .bool f] 89)) W.heap.size A L f := heap_alloc_new W _
theorem IB.alloc {W : World} {b : Nat} {A : Option Addr} {L : Nat} {f : Bool} (h : IB W b A L f) (o : Obj) : IB (W.alloc o) b A L f := h.below (below_alloc (Below.refl _ _) _)
/-- What lies in memory between two rounds of Pow. -/
structure PW (w : World) (b : Nat) (Ax : Option Addr) (kx : Nat) (fx : Bool) (mx : Nat) (A : Option Addr) (L : Nat) (f : Bool) (m : Nat) (W : World) : Prop where
 x : IB W b Ax kx fx
 o : IB W (b + 1) A L f
 mx : Mag W W.heap.size Ax kx mx
 mo : Mag W W.heap.size A L m
 bl : Below w.heap.size w W
 lt : w.heap.size ≤ b
theorem PW.below {w : World} {b : Nat} {Ax : Option Addr} {kx : Nat} {fx : Bool} {mx : Nat} {A : Option Addr} {L : Nat} {f : Bool} {m : Nat} {W X : World} (h : PW w b Ax kx fx mx A L f m W) (hb : Below W.heap.size W X) : PW w b Ax kx fx mx A L f m X :=
 ⟨h.x.below hb, h.o.below hb, h.mx.up hb, h.mo.up hb, h.bl.trans (hb.mono h.bl.size), h.lt⟩
theorem PW.put {w : World} {b : Nat} {Ax : Option Addr} {kx : Nat} {fx : Bool} {mx : Nat} {A : Option Addr} {L : Nat} {f : Bool} {m : Nat} {W : World} (h : PW w b Ax kx fx mx A L f m W) {A' : Option Addr} {L' m' : Nat} (hm : Mag W W.heap.size A' L' m') (f' : Bool) :
 PW w b Ax kx fx mx A' L' f' m' ((W.setCell ⟨b + 1, 0, none⟩ (.slice A' L' L')).setCell ⟨b + 1, 1, none⟩ (.bool f')) := by
 have hl := h.lt
 refine ⟨h.x.other (by omega) _ _, h.o.put _ _ _, ?_, ?_, (h.bl.setCell (p := ⟨b + 1, 0, none⟩) (by show w.heap.size ≤ b + 1; omega) _).setCell (p := ⟨b + 1, 1, none⟩) (by show w.heap.size ≤ b + 1; omega) _, hl⟩
 ·exact (h.o.mag h.mx _ _).more (by simp)
 ·exact (h.o.mag hm _ _).more (by simp)
theorem pow_big {x : Int} {i n : Nat} (hin : i ≤ n) (h : wrE (x ^ i) ≠ 0) : wrE (x ^ n) = 4 ∧ wrS (x ^ n) = ⟨#[]⟩ := by
 have h1 : ¬ Dig 120 (x ^ i) := fun hd => h (wr_dig hd).1
 have h2 : ¬ Dig 120 (x ^ n) := by
  intro hd
  apply h1
  unfold Dig at *
  rw [Int.natAbs_pow] at *
  rcases Nat.lt_or_ge x.natAbs 1 with h0 | h0
  ·have : x.natAbs = 0 := by omega
   rw [this]
   rcases Nat.eq_zero_or_pos i with hi | hi
   ·subst hi; exact Nat.one_lt_pow (by decide) (by decide)
   ·rw [Nat.zero_pow hi]; exact Nat.pow_pos (by decide)
  ·exact Nat.lt_of_le_of_lt (Nat.pow_le_pow_right h0 hin) hd
 have h3 : 120 < lenI (x ^ n) := by
  rcases Nat.lt_or_ge 120 (lenI (x ^ n)) with h | h
  ·exact h
  ·exact absurd (dig_wr (x := x ^ n) (by unfold wrE; rw [if_neg (by omega)])) h2
 unfold wrE wrS
 rw [if_pos h3, if_pos h3]
 exact ⟨rfl, rfl⟩
theorem pow_ok (a : ByteArray) (ha : a.size ≤ 90000) (hca : checkI a = 0) (n : Nat) (hn : n ≤ 1000) (w : World) (htab : Tens w) :
 Calls Tryz.prog 31 #[.string a, .int .i64 (n : Int)] w fun e w' => e = .returned (.tuple #[.string (wrS (intI a ^ n)), .int .i64 (wrE (intI a ^ n))]) ∧ Below w.heap.size w w' := by
 have hdx := intI_dig hca
 have HP := parseI_calls a ha hca
 have HC : Aside0 (∀ w, Calls Tryz.prog 12 #[.string a] w fun e w' => e = .returned (.int .i64 0) ∧ Below w.heap.size w w') := ⟨fun w => hca ▸ check_calls a (by omega) w⟩
 have HB := Aside0.mk (Below.refl w.heap.size w)
 have hn0 : decide ((n : Int) < 0) = false := decide_eq_false (by omega)
 have hn1 : decide ((1000 : Int) < (n : Int)) = false := decide_eq_false (by omega)
 clear hca ha
 generalize intI a = x at *
 obtain ⟨fn, hfn⟩ : ∃ fn : Nat → Bool, ∀ i, fn i = decide (x ^ i < 0) := ⟨_, fun _ => rfl⟩
 obtain ⟨mn, hmn⟩ : ∃ mn : Nat → Nat, ∀ i, mn i = (x ^ i).natAbs := ⟨_, fun _ => rfl⟩
 obtain ⟨En, hEn⟩ : ∃ En : Nat → Int, ∀ i, En i = wrE (x ^ i) := ⟨_, fun _ => rfl⟩
 obtain ⟨Sn, hSn⟩ : ∃ Sn : Nat → ByteArray, ∀ i, Sn i = wrS (x ^ i) := ⟨_, fun _ => rfl⟩
 have HT : Aside0 (∀ (W : World) (A1 A2 : Option Addr) (L1 L2 : Nat) (i : Nat), En i = 0 → Mag W W.heap.size A1 L1 (mn i) → Mag W W.heap.size A2 L2 x.natAbs → Calls Tryz.prog 85 #[.agg #[.slice A1 L1 L1, .bool (fn i)], .agg #[.slice A2 L2 L2, .bool (decide (x < 0))]] W fun e w' => ∃ A k, e = .returned (.agg #[.slice A k k, .bool (fn (i + 1))]) ∧ Mag w' w'.heap.size A k (mn (i + 1)) ∧ Below W.heap.size W w') := ⟨fun W A1 A2 L1 L2 i hi h1 h2 => by
  rw [hmn] at h1
  rw [hEn] at hi
  rw [hmn, hfn, hfn, Int.pow_succ]
  exact op2_times ((dig_wr hi).more (by omega)) (hdx.more (by omega)) W A1 A2 L1 L2 h1 h2⟩
 have HW : Aside0 (∀ (W : World) (A : Option Addr) (L : Nat) (i : Nat), Below w.heap.size w W → Mag W W.heap.size A L (mn i) → Calls Tryz.prog 91 #[.agg #[.slice A L L, .bool (fn i)]] W fun e w' => e = .returned (.tuple #[.string (Sn i), .int .i64 (En i)]) ∧ Below W.heap.size W w') := ⟨fun W A L i hb hm => by
  rw [hmn] at hm
  rw [hSn, hEn, hfn]
  exact written_calls hm (Nat.le_refl _) (htab.below hb)⟩
 have HBIG : Aside0 (∀ i, i ≤ n → En i ≠ 0 → En n = 4 ∧ Sn n = ⟨#[]⟩) := ⟨fun i hi h => by rw [hEn] at h; rw [hEn, hSn]; exact pow_big hi h⟩
 have H4 : Aside0 (∀ i, En i = 0 ∨ En i = 4) := ⟨fun i => by rw [hEn]; unfold wrE; split <;> simp⟩
 have HE0 : Aside0 (En 0 = 0 ∧ fn 0 = false ∧ mn 0 = 1) := ⟨by rw [hEn, hfn, hmn]; exact ⟨(wr_dig (x := x ^ 0) (by unfold Dig; rw [Int.pow_zero]; decide)).1, by simp, by simp⟩⟩
 rw [← hSn, ← hEn]
 have HP := Aside0.mk HP
 have HS := Aside0.mk small_one
 clear hdx hfn hmn hEn hSn htab
 generalize decide (x < 0) = fx at *
 generalize x.natAbs = mx at *
 go_enter Tryz.func31, Tryz.ntmps31
 go_wp2_with (first
  | (go_at_call 12; ((with_reducible refine (HC.out _).mono ?_); rintro e w1 ⟨rfl, hb1⟩; obtain ⟨hc1, hf1⟩ := bcell hb1; have nB1 : Aside0 (Below w.heap.size w w1) := sb hb1; clear HB; have HB := nB1; clear nB1))
  | (go_at_call 65; (with_reducible refine (when_calls _ _ _).mono ?_); rintro e w' ⟨rfl, rfl⟩)
  | (go_at_call 88; (with_reducible refine (first2_ret _ _ 0 F00.out _ _ (by simp) _).mono ?_); rintro e w' ⟨rfl, rfl⟩)
  | (go_at_call 74; ((with_reducible refine (HP.out _).mono ?_); rintro e w2 ⟨Ax, kx, rfl, hmx, hb2⟩; obtain ⟨hc2, hf2⟩ := bcell hb2; have nB2 : Aside0 (Below w.heap.size w w2) := sb hb2; clear HB; have HB := nB2; clear nB2; have HMX := Aside0.mk hmx; clear hmx))
  | (go_at_call 94; ((with_reducible refine (HS.out _).mono ?_); rintro e w3 ⟨Ao, ko, rfl, hmo, hb3⟩; obtain ⟨hc3, hf3⟩ := bcell hb3; have nB3 : Aside0 (Below w.heap.size w w3) := sb hb3; clear HB; have HB := nB3; clear nB3; have HMO := Aside0.mk hmo; clear hmo)))
 have I0 : Aside0 (PW w w3.heap.size Ax kx fx mx Ao ko (fn 0) (mn 0) ((w3.alloc (.cells #[.slice Ax kx kx, .bool fx] 89)).alloc (.cells #[.slice Ao ko ko, .bool false] 89))) := ⟨by
  have hb : Below w3.heap.size w3 ((w3.alloc (.cells #[.slice Ax kx kx, .bool fx] 89)).alloc (.cells #[.slice Ao ko ko, .bool false] 89)) := by repeat (first | exact Below.refl _ _ | apply below_alloc)
  rw [HE0.out.2.1, HE0.out.2.2]
  exact ⟨(IB.new w3 _ _ _).alloc _, by have h := IB.new (w3.alloc (.cells #[.slice Ax kx kx, .bool fx] 89)) Ao ko false; simpa using h, (HMX.out.up hb3).up hb, HMO.out.up hb, HB.out.trans (hb.mono HB.out.size), HB.out.size⟩⟩
 generalize ((w3.alloc (.cells #[.slice Ax kx kx, .bool fx] 89)).alloc (.cells #[.slice Ao ko ko, .bool false] 89)) = W0 at *
 generalize w3.heap.size = b at *
 clear HMX HMO HB hb3 hc1 hc2 hc3 hf1 hf2 hf3 hb1 hb2
 go_loopw [29] (fun v29 W => ∃ (i : Nat) (A : Option Addr) (L : Nat), v29 = .int .i64 (i : Int) ∧ i ≤ n ∧ Aside0 (En i = 0) ∧ Aside0 (PW w b Ax kx fx mx A L (fn i) (mn i) W)) (fun v29 _ => n - (RowKit.intOf v29).toNat)
 case atStart => exact ⟨0, Ao, ko, rfl, Nat.zero_le _, ⟨HE0.out.1⟩, I0⟩
 case round =>
  obtain ⟨i, A, L, rfl, hi, hEi, HI⟩ := hrel
  have c0 := HI.out.x.cell0
  have c1 := HI.out.x.cell1
  have o0 := HI.out.o.cell0
  have o1 := HI.out.o.cell1
  have e1 : IntKind.i64.wrap ((i : Int) + 1) = ((i + 1 : Nat) : Int) := by rw [IntWalk.i64_in _ (by omega)]; omega
  by_cases hlt : i < n
  ·have hlt' : (i : Int) < (n : Int) := by omega
   obtain ⟨E1, hE1⟩ : ∃ E1, En (i + 1) = E1 := ⟨_, rfl⟩
   have HE1 := Aside0.mk hE1
   have HW1 : Aside0 (∀ (W : World) (A : Option Addr) (L : Nat), Below w.heap.size w W → Mag W W.heap.size A L (mn (i + 1)) → Calls Tryz.prog 91 #[.agg #[.slice A L L, .bool (fn (i + 1))]] W fun e w' => e = .returned (.tuple #[.string (Sn (i + 1)), .int .i64 E1]) ∧ Below W.heap.size W w') := ⟨fun W A L => by rw [← hE1]; exact HW.out W A L (i + 1)⟩
   clear hE1
   by_cases hz : E1 = 0
   ·subst hz
    go_wp2_with (first
     | (go_at_call 85; (with_reducible refine (HT.out _ _ _ _ _ i hEi.out HI.out.mo HI.out.mx).mono ?_); rintro e wt ⟨At, kt, rfl, hmt, hbt⟩; have HI2 := Aside0.mk (HI.out.below hbt); have c0 := HI2.out.o.cell0; have c1 := HI2.out.o.cell1; have f0 := HI2.out.o.fr 0; have f1 := HI2.out.o.fr 1; have HMT := Aside0.mk hmt; clear hmt hbt)
     | (go_at_call 91; (with_reducible refine (HW1.out _ _ _ (HI2.out.put HMT.out (fn (i + 1))).bl (HI2.out.put HMT.out (fn (i + 1))).mo).mono ?_); rintro e ww ⟨rfl, hbw⟩; have HI3 := Aside0.mk ((HI2.out.put HMT.out (fn (i + 1))).below hbw); clear hbw))
    go_roundw
    case rel => exact ⟨i + 1, At, kt, by first | rfl | go_num, hlt, HE1, HI3⟩
    case measure => simp [RowKit.intOf]; omega
   ·have hbe : (E1 != 0) = true := by simp [hz]
    go_wp2_with (first
     | (go_at_call 85; (with_reducible refine (HT.out _ _ _ _ _ i hEi.out HI.out.mo HI.out.mx).mono ?_); rintro e wt ⟨At, kt, rfl, hmt, hbt⟩; have HI2 := Aside0.mk (HI.out.below hbt); have c0 := HI2.out.o.cell0; have c1 := HI2.out.o.cell1; have f0 := HI2.out.o.fr 0; have f1 := HI2.out.o.fr 1; have HMT := Aside0.mk hmt; clear hmt hbt)
     | (go_at_call 91; (with_reducible refine (HW1.out _ _ _ (HI2.out.put HMT.out (fn (i + 1))).bl (HI2.out.put HMT.out (fn (i + 1))).mo).mono ?_); rintro e ww ⟨rfl, hbw⟩; have HI3 := Aside0.mk ((HI2.out.put HMT.out (fn (i + 1))).below hbw); clear hbw))
    go_ret2
    obtain ⟨h1, h2⟩ := HBIG.out (i + 1) hlt (by rw [HE1.out]; exact hz)
    have h3 : E1 = 4 := by rw [← HE1.out]; exact (H4.out (i + 1)).resolve_left (by rw [HE1.out]; exact hz)
    exact ⟨by rw [h1, h2, h3]; rfl, HI3.out.bl⟩
  ·have hlt' : ¬ (i : Int) < (n : Int) := by omega
   obtain rfl : i = n := by omega
   go_wp2_with (first
    | (go_at_call 91; (with_reducible refine (HW.out _ _ _ _ HI.out.bl HI.out.mo).mono ?_); rintro e ww ⟨rfl, hbw⟩; have HI3 := Aside0.mk (HI.out.below hbw); clear hbw))
   go_ret2
   exact ⟨rfl, HI3.out.bl⟩
/-- The error of a power's arguments; what Pow answers. -/
def powE (a : ByteArray) (n : Int) : Int := firstI [checkI a, if n < 0 ∨ 1000 < n then 3 else 0]
def powS (a : ByteArray) (n : Int) : ByteArray := if powE a n = 0 then wrS (intI a ^ n.toNat) else ⟨#[]⟩
def powR (a : ByteArray) (n : Int) : Int := if powE a n = 0 then wrE (intI a ^ n.toNat) else powE a n
theorem powE_zero {a : ByteArray} {n : Int} (h : powE a n = 0) : checkI a = 0 ∧ 0 ≤ n ∧ n ≤ 1000 := by
 unfold powE firstI firstI firstI at h
 split at h
 ·rename_i h1
  refine ⟨h1, ?_⟩
  by_cases h2 : n < 0 ∨ 1000 < n
  ·rw [if_pos h2] at h; simp at h
  ·omega
 ·rename_i h1; exact absurd h h1
theorem pow_calls (a : ByteArray) (ha : a.size ≤ 90000) (n : Int) (w : World) (htab : Tens w) :
 Calls Tryz.prog 31 #[.string a, .int .i64 n] w fun e w' => e = .returned (.tuple #[.string (powS a n), .int .i64 (powR a n)]) ∧ Below w.heap.size w w' := by
 unfold powS powR
 by_cases h : powE a n = 0
 ·obtain ⟨h1, h2, h3⟩ := powE_zero h
  rw [if_pos h, if_pos h]
  obtain ⟨m, rfl⟩ : ∃ m : Nat, n = (m : Int) := ⟨n.toNat, by omega⟩
  rw [show (m : Int).toNat = m from rfl]
  exact pow_ok a ha h1 m (by omega) w htab
 ·rw [if_neg h, if_neg h]
  obtain ⟨E, hE⟩ : ∃ E, powE a n = E := ⟨_, rfl⟩
  rw [hE] at h ⊢
  unfold powE at hE
  have HC : Aside0 (∀ w, Calls Tryz.prog 12 #[.string a] w fun e w' => e = .returned (.int .i64 (checkI a)) ∧ Below w.heap.size w w') := ⟨fun w => check_calls a (by omega) w⟩
  have HB := Aside0.mk (Below.refl w.heap.size w)
  have hbe : (E != 0) = true := by simp [h]
  generalize checkI a = c at *
  by_cases hn : n < 0
  ·rw [if_pos (.inl hn)] at hE
   have HF := Aside0.mk hE
   clear hE h
   go_enter Tryz.func31, Tryz.ntmps31
   go_wp2_with (first
    | (go_at_call 12; ((with_reducible refine (HC.out _).mono ?_); rintro e w1 ⟨rfl, hb1⟩; obtain ⟨hc1, hf1⟩ := bcell hb1; have nB1 : Aside0 (Below w.heap.size w w1) := sb hb1; clear HB; have HB := nB1; clear nB1))
    | (go_at_call 65; (with_reducible refine (when_calls _ _ _).mono ?_); rintro e w' ⟨rfl, rfl⟩)
    | (go_at_call 88; (with_reducible refine (first2_ret _ _ E HF.out _ _ (by simp) _).mono ?_); rintro e w' ⟨rfl, rfl⟩))
   go_ret2
   exact ⟨rfl, bl⟩
  ·by_cases hn2 : 1000 < n
   ·rw [if_pos (.inr hn2)] at hE
    have HF := Aside0.mk hE
    have hd1 : decide (n < 0) = false := decide_eq_false hn
    have hd2 : decide (1000 < n) = true := decide_eq_true hn2
    clear hE h
    go_enter Tryz.func31, Tryz.ntmps31
    go_wp2_with (first
     | (go_at_call 12; ((with_reducible refine (HC.out _).mono ?_); rintro e w1 ⟨rfl, hb1⟩; obtain ⟨hc1, hf1⟩ := bcell hb1; have nB1 : Aside0 (Below w.heap.size w w1) := sb hb1; clear HB; have HB := nB1; clear nB1))
     | (go_at_call 65; (with_reducible refine (when_calls _ _ _).mono ?_); rintro e w' ⟨rfl, rfl⟩)
     | (go_at_call 88; (with_reducible refine (first2_ret _ _ E HF.out _ _ (by simp) _).mono ?_); rintro e w' ⟨rfl, rfl⟩))
    go_ret2
    exact ⟨rfl, bl⟩
   ·rw [if_neg (by omega)] at hE
    have HF := Aside0.mk hE
    have hd1 : decide (n < 0) = false := decide_eq_false hn
    have hd2 : decide (1000 < n) = false := decide_eq_false hn2
    clear hE h
    go_enter Tryz.func31, Tryz.ntmps31
    go_wp2_with (first
     | (go_at_call 12; ((with_reducible refine (HC.out _).mono ?_); rintro e w1 ⟨rfl, hb1⟩; obtain ⟨hc1, hf1⟩ := bcell hb1; have nB1 : Aside0 (Below w.heap.size w w1) := sb hb1; clear HB; have HB := nB1; clear nB1))
     | (go_at_call 65; (with_reducible refine (when_calls _ _ _).mono ?_); rintro e w' ⟨rfl, rfl⟩)
     | (go_at_call 88; (with_reducible refine (first2_ret _ _ E HF.out _ _ (by simp) _).mono ?_); rintro e w' ⟨rfl, rfl⟩))
    go_ret2
    exact ⟨rfl, bl⟩
/-- The variables that the calls read. -/
structure EN (w : World) : Prop where
 tens : Tens w
 mln : ∃ m, w.cell? ⟨4, 0, none⟩ = some (.int .i64 m)
 syn : ∃ tp p, w.var? Tryz.prog "strconv.ErrSyntax" = some #[.iface tp p]
 ran : ∃ tp p, w.var? Tryz.prog "strconv.ErrRange" = some #[.iface tp p]
 ops : ∀ j : Nat, j < 10 → w.cell? ⟨0, 2 * j, none⟩ = some (.func (.func (221 + j)) #[] #[]) ∧ w.cell? ⟨0, 2 * j + 1, none⟩ = some (.bool (decide (j = 3 ∨ j = 4)))
theorem var_below {w w' : World} {n : String} {v : Array Value} (h : w.var? Tryz.prog n = some v) (hb : Below w.heap.size w w') : w'.var? Tryz.prog n = some v := by
 unfold World.var? at *
 cases hg : Tryz.prog.globalNamed n with
 | none => simp [hg] at h
 | some g =>
   simp only [hg, Option.bind_some] at h ⊢
   have hlt : g < w.heap.size := by
    rcases Nat.lt_or_ge g w.heap.size with h' | h'
    ·exact h'
    ·rw [Array.getElem?_eq_none h'] at h; simp at h
   rw [hb.block g hlt]
   exact h
theorem EN.below {w w' : World} (h : EN w) (hb : Below w.heap.size w w') : EN w' := by
 obtain ⟨m, hm⟩ := h.mln
 obtain ⟨tp, p, hs⟩ := h.syn
 obtain ⟨tq, q, hr⟩ := h.ran
 exact ⟨h.tens.below hb, ⟨m, pw_cell_below hb hm⟩, ⟨tp, p, var_below hs hb⟩, ⟨tq, q, var_below hr hb⟩, fun j hj => ⟨pw_cell_below hb (h.ops j hj).1, pw_cell_below hb (h.ops j hj).2⟩⟩
theorem dv_cons (c : UInt8) (l : List UInt8) : dv (c :: l) = (c.toNat - 48) * 10 ^ l.length + dv l := by
 show List.foldl _ _ _ = _
 rw [List.foldl_cons, Nat.mul_zero, Nat.zero_add]
 exact dv_from l _
theorem parseM_eq : ∀ (l : List UInt8) (acc : Nat), DG l → Lib.parseUintM 18446744073709551615 acc l = if acc * 10 ^ l.length + dv l ≤ 18446744073709551615 ∨ l = [] then .ok (acc * 10 ^ l.length + dv l) else .range
 | [], acc, _ => by rw [if_pos (.inr rfl)]; simp [Lib.parseUintM, dv]
 | c :: l, acc, h => by
   have hc := h c (by simp)
   have hl : DG l := fun d hd => h d (by simp [hd])
   have e : acc * 10 ^ (c :: l).length + dv (c :: l) = (acc * 10 + (c.toNat - 48)) * 10 ^ l.length + dv l := by
    rw [dv_cons, List.length_cons, Nat.pow_succ, Nat.add_mul, Nat.mul_assoc acc 10, Nat.mul_comm 10, Nat.add_assoc]
   rw [e]
   have hp : 0 < 10 ^ l.length := Nat.pow_pos (by decide)
   have hge : (acc * 10 + (c.toNat - 48)) ≤ (acc * 10 + (c.toNat - 48)) * 10 ^ l.length := Nat.le_mul_of_pos_right _ hp
   rw [Lib.parseUintM, if_pos hc]
   by_cases h1 : 1844674407370955162 ≤ acc
   ·rw [if_pos h1, if_neg (by simp; omega)]
   ·rw [if_neg h1]
    by_cases h2 : 18446744073709551615 < acc * 10 + (c.toNat - 48)
    ·rw [if_pos h2, if_neg (by simp; omega)]
    ·rw [if_neg h2, parseM_eq l _ hl]
     by_cases h4 : l = []
     ·subst h4
      rw [if_pos (.inr rfl), if_pos (.inl (by simp [dv]; omega))]
     ·by_cases h3 : (acc * 10 + (c.toNat - 48)) * 10 ^ l.length + dv l ≤ 18446744073709551615
      ·rw [if_pos (.inl h3), if_pos (.inl h3)]
      ·rw [if_neg (by rintro (h | h); exact h3 h; exact h4 h), if_neg (by rintro (h | h); exact h3 h; cases h)]
theorem parseU_eq {l : List UInt8} (h : DG l) (h0 : l ≠ []) : Lib.parseUintB 64 l = if dv l ≤ 18446744073709551615 then .ok (dv l) else .range := by
 unfold Lib.parseUintB
 rw [if_neg h0, show (2 ^ 64 - 1 : Nat) = 18446744073709551615 from rfl, parseM_eq l 0 h]
 simp [h0]
theorem list_of {s : ByteArray} (h : checkI s = 0) : DG (bodyB s).data.toList ∧ (bodyB s).data.toList ≠ [] ∧ s.data.toList = (if minusB s = true then [45] else []) ++ (bodyB s).data.toList := by
 obtain ⟨h1, h2⟩ := check_ok h
 refine ⟨isDig_of (by unfold digitsB at h1; simp only [Bool.and_eq_true] at h1; exact h1.1), fun e => ?_, ?_⟩
 ·have := digits_pos h1
  have h3 : (bodyB s).data.toList.length = (bodyB s).size := by simp
  rw [e] at h3
  simp at h3
  omega
 ·unfold minusB bodyB Lib.trimPrefix
  by_cases hp : Lib.hasPrefix s.data.toList [45] = true
  ·rw [if_pos hp, if_pos hp]
   unfold Lib.hasPrefix at hp
   cases hl : s.data.toList with
   | nil => rw [hl] at hp; simp at hp
   | cons c r =>
     rw [hl] at hp
     simp at hp
     subst hp
     simp
  ·rw [if_neg hp, if_neg hp]; simp
/-- Does an integer fit into 64 bits. -/
def fit64 (x : Int) : Bool := decide (-9223372036854775808 ≤ x) && decide (x ≤ 9223372036854775807)
theorem e63 : (2 : Nat) ^ (64 - 1) = 9223372036854775808 := rfl
theorem parseI_eq {s : ByteArray} (h : checkI s = 0) : Lib.parseIntB 64 s.data.toList = if fit64 (intI s) = true then .ok (intI s) else .range := by
 obtain ⟨h1, h2, h3⟩ := list_of h
 have hU := parseU_eq h1 h2
 unfold intI fit64
 rw [h3]
 generalize (bodyB s).data.toList = l at *
 by_cases hm : minusB s = true
 ·rw [if_pos hm, if_pos hm]
  simp only [List.cons_append, List.nil_append]
  unfold Lib.parseIntB
  simp only
  rw [if_pos (.inr (by decide)), hU]
  by_cases h4 : dv l ≤ 18446744073709551615
  ·rw [if_pos h4]
   simp only
   by_cases h5 : dv l ≤ 9223372036854775808
   ·have hfit : (decide (-9223372036854775808 ≤ -(dv l : Int)) && decide (-(dv l : Int) ≤ 9223372036854775807)) = true := by simp only [Bool.and_eq_true, decide_eq_true_eq]; omega
    rw [if_pos hfit, e63, if_neg (by simp), if_neg (by simp; omega)]; simp
   ·rw [e63, if_neg (by simp), if_pos (by simp; omega), if_neg (by simp only [Bool.and_eq_true, decide_eq_true_eq]; omega)]
  ·rw [if_neg h4]
   simp only
   rw [if_neg (by simp only [Bool.and_eq_true, decide_eq_true_eq]; omega)]
 ·rw [if_neg hm, if_neg hm, List.nil_append]
  cases l with
  | nil => exact absurd rfl h2
  | cons c r =>
    have hc := h1 c (by simp)
    unfold Lib.parseIntB
    simp only
    rw [if_neg (by omega), hU]
    by_cases h4 : dv (c :: r) ≤ 18446744073709551615
    ·rw [if_pos h4]
     simp only
     by_cases h5 : dv (c :: r) < 9223372036854775808
     ·have hfit : (decide (-9223372036854775808 ≤ (dv (c :: r) : Int)) && decide ((dv (c :: r) : Int) ≤ 9223372036854775807)) = true := by simp only [Bool.and_eq_true, decide_eq_true_eq]; omega
      have hn45 : ¬ c.toNat = 45 := by omega
      rw [if_pos hfit, e63, if_neg (by omega), if_neg (by omega), if_neg hn45]
     ·rw [e63, if_pos (by omega), if_neg (by simp only [Bool.and_eq_true, decide_eq_true_eq]; omega)]
    ·rw [if_neg h4]
     simp only
     rw [if_neg (by simp only [Bool.and_eq_true, decide_eq_true_eq]; omega)]
theorem parseInt_ok (s : ByteArray) (hs : s.size ≤ 90000) (hc : checkI s = 0) (hf : fit64 (intI s) = true) (w : World) :
 Calls Tryz.prog 71 #[.string s, .int .i64 10, .int .i64 64] w fun e w' => e = .returned (.tuple #[.int .i64 (intI s), .nilIface]) ∧ Below w.heap.size w w' := by
 refine (Tryz.strconv_ParseInt_10_at64_ok s (by omega) (intI s) (by rw [parseI_eq hc, if_pos hf]) w).mono ?_
 rintro e w' ⟨rfl, h⟩
 refine ⟨rfl, ?_⟩
 rcases h with rfl | ⟨t, rfl⟩
 ·exact Below.refl _ _
 ·exact bytes_below (Below.refl _ _) (Nat.le_refl _) _ _
theorem parseInt_bad (s : ByteArray) (hs : s.size ≤ 90000) (hc : checkI s = 0) (hf : fit64 (intI s) = false) (w : World) (hE : EN w) :
 Calls Tryz.prog 71 #[.string s, .int .i64 10, .int .i64 64] w fun e w' => ∃ v t p, e = .returned (.tuple #[.int .i64 v, .iface t p]) ∧ Below w.heap.size w w' := by
 obtain ⟨tp, p, hr⟩ := hE.ran
 refine (Tryz.strconv_ParseInt_10_at64_range_var s (by omega) (by rw [parseI_eq hc, if_neg (by simp [hf])]) tp p w hr).mono ?_
 rintro e w' ⟨N, rfl, h1, h2, h3⟩
 exact ⟨_, _, _, rfl, h3⟩
/-- What ToInt answers. -/
def toIV (s : ByteArray) : Int := if checkI s = 0 then (if fit64 (intI s) = true then intI s else 0) else 0
def toIE (s : ByteArray) : Int := if checkI s = 0 then (if fit64 (intI s) = true then 0 else 4) else checkI s
theorem toInt_calls (s : ByteArray) (hs : s.size ≤ 90000) (w : World) (hE : EN w) :
 Calls Tryz.prog 16 #[.string s] w fun e w' => e = .returned (.tuple #[.int .i64 (toIV s), .int .i64 (toIE s)]) ∧ Below w.heap.size w w' := by
 unfold toIV toIE
 have HC := Aside0.mk (fun w => check_calls s (by omega) w)
 have HB := Aside0.mk (Below.refl w.heap.size w)
 by_cases hc : checkI s = 0
 ·rw [if_pos hc, if_pos hc]
  by_cases hf : fit64 (intI s) = true
  ·have HP := Aside0.mk (parseInt_ok s hs hc hf)
   rw [if_pos hf, if_pos hf]
   have hb1 : -9223372036854775808 ≤ intI s ∧ intI s ≤ 9223372036854775807 := by unfold fit64 at hf; simpa using hf
   rw [hc] at HC
   clear hf hc hE
   generalize intI s = x at *
   have e1 : IntKind.i64.wrap x = x := IntWalk.i64_in _ hb1
   go_enter Tryz.func16, Tryz.ntmps16
   go_wp2_with (first
    | (go_at_call 12; ((with_reducible refine (HC.out _).mono ?_); rintro e w1 ⟨rfl, hb1⟩; obtain ⟨hc1, hf1⟩ := bcell hb1; have nB1 : Aside0 (Below w.heap.size w w1) := sb hb1; clear HB; have HB := nB1; clear nB1))
    | (go_at_call 71; ((with_reducible refine (HP.out _).mono ?_); rintro e w2 ⟨rfl, hb2⟩; obtain ⟨hc2, hf2⟩ := bcell hb2; have nB2 : Aside0 (Below w.heap.size w w2) := sb hb2; clear HB; have HB := nB2; clear nB2)))
   go_ret2
   exact ⟨rfl, bl⟩
  ·have hf' : fit64 (intI s) = false := by simpa using hf
   have HP : Aside0 (∀ W, Below w.heap.size w W → Calls Tryz.prog 71 #[.string s, .int .i64 10, .int .i64 64] W fun e w' => ∃ v t p, e = .returned (.tuple #[.int .i64 v, .iface t p]) ∧ Below W.heap.size W w') := ⟨fun W hb => parseInt_bad s hs hc hf' W (hE.below hb)⟩
   rw [if_neg hf, if_neg hf]
   rw [hc] at HC
   clear hf hf' hc hE
   go_enter Tryz.func16, Tryz.ntmps16
   go_wp2_with (first
    | (go_at_call 12; ((with_reducible refine (HC.out _).mono ?_); rintro e w1 ⟨rfl, hb1⟩; obtain ⟨hc1, hf1⟩ := bcell hb1; have nB1 : Aside0 (Below w.heap.size w w1) := sb hb1; clear HB; have HB := nB1; clear nB1))
    | (go_at_call 71; ((with_reducible refine (HP.out _ bl).mono ?_); rintro e w2 ⟨v, t, p, rfl, hb2⟩; obtain ⟨hc2, hf2⟩ := bcell hb2; have nB2 : Aside0 (Below w.heap.size w w2) := sb hb2; clear HB; have HB := nB2; clear nB2)))
   go_ret2
   exact ⟨rfl, bl⟩
 ·rw [if_neg hc, if_neg hc]
  generalize checkI s = E at *
  have hbe : (E != 0) = true := by simp [hc]
  go_enter Tryz.func16, Tryz.ntmps16
  go_wp2_with (first | (go_at_call 12; ((with_reducible refine (HC.out _).mono ?_); rintro e w1 ⟨rfl, hb1⟩; obtain ⟨hc1, hf1⟩ := bcell hb1; have nB1 : Aside0 (Below w.heap.size w w1) := sb hb1; clear HB; have HB := nB1; clear nB1)))
  go_ret2
  exact ⟨rfl, bl⟩
/-- The parts of a string about a byte. -/
def cutA (c : UInt8) (s : ByteArray) : ByteArray := ⟨(Lib.cut s.data.toList [c]).1.toArray⟩
def cutB (c : UInt8) (s : ByteArray) : ByteArray := ⟨(Lib.cut s.data.toList [c]).2.1.toArray⟩
def cutF (c : UInt8) (s : ByteArray) : Bool := (Lib.cut s.data.toList [c]).2.2
theorem cut_size (c : UInt8) (s : ByteArray) : (cutA c s).size ≤ s.size ∧ (cutB c s).size ≤ s.size := by
 have e : s.data.toList.length = s.size := by simp
 constructor
 ·show (Lib.cut s.data.toList [c]).1.toArray.size ≤ _
  unfold Lib.cut
  split <;> simp <;> omega
 ·show (Lib.cut s.data.toList [c]).2.1.toArray.size ≤ _
  unfold Lib.cut
  split <;> simp
theorem cut1_calls (c : UInt8) (s : ByteArray) (hs : s.size ≤ 90000) (w : World) (hE : EN w) :
 Calls Tryz.prog 118 #[.string s, .string ⟨#[c]⟩] w fun e w' => e = .returned (.tuple #[.string (cutA c s), .string (cutB c s), .bool (cutF c s)]) ∧ Below w.heap.size w w' := by
 obtain ⟨m, hm⟩ := hE.mln
 refine (Tryz.strings_Cut s ⟨#[c]⟩ m w (by omega) hm).mono ?_
 rintro e w' ⟨rfl, n, rfl⟩
 exact ⟨rfl, pw_below_drewN (Below.refl _ _) _⟩
/-- Does a string hold a byte. -/
def hasB (c : UInt8) (s : ByteArray) : Bool := decide (0 ≤ Lib.indexByte s.data.toList c)
theorem contains_calls (c : UInt8) (s : ByteArray) (w : World) : Calls Tryz.prog 119 #[.string s, .string ⟨#[c]⟩] w fun e w' => e = .returned (.bool (hasB c s)) ∧ w' = w :=
 Tryz.strings_Contains_one s c w
/-- A fraction's variable. -/
def FB (W : World) (b : Nat) (A1 : Option Addr) (L1 : Nat) (f1 : Bool) (A2 : Option Addr) (L2 : Nat) (f2 : Bool) : Prop := W.heap[b]? = some (.cells #[.slice A1 L1 L1, .bool f1, .slice A2 L2 L2, .bool f2] 116 (0, 0))
section
variable {W X : World} {b : Nat} {A1 : Option Addr} {L1 : Nat} {f1 : Bool} {A2 : Option Addr} {L2 : Nat} {f2 : Bool}
theorem FB.cell0 (h : FB W b A1 L1 f1 A2 L2 f2) : W.cell? ⟨b, 0, none⟩ = some (.slice A1 L1 L1) := by rw [Lib.cell_of_heap h]; rfl
theorem FB.cell1 (h : FB W b A1 L1 f1 A2 L2 f2) : W.cell? ⟨b, 1, none⟩ = some (.bool f1) := by rw [Lib.cell_of_heap h]; rfl
theorem FB.cell2 (h : FB W b A1 L1 f1 A2 L2 f2) : W.cell? ⟨b, 2, none⟩ = some (.slice A2 L2 L2) := by rw [Lib.cell_of_heap h]; rfl
theorem FB.cell3 (h : FB W b A1 L1 f1 A2 L2 f2) : W.cell? ⟨b, 3, none⟩ = some (.bool f2) := by rw [Lib.cell_of_heap h]; rfl
theorem FB.fr (h : FB W b A1 L1 f1 A2 L2 f2) (o : Nat) : W.frozen? ⟨b, o, none⟩ = false := Lib.frozen_of_heap h o
theorem FB.lt (h : FB W b A1 L1 f1 A2 L2 f2) : b < W.heap.size := (Array.getElem?_eq_some_iff.1 h).1
theorem FB.below (h : FB W b A1 L1 f1 A2 L2 f2) (hb : Below W.heap.size W X) : FB X b A1 L1 f1 A2 L2 f2 := (hb.block b h.lt).trans h
theorem FB.put (h : FB W b A1 L1 f1 A2 L2 f2) (B1 : Option Addr) (K1 : Nat) (g1 : Bool) (B2 : Option Addr) (K2 : Nat) (g2 : Bool) :
 FB ((((W.setCell ⟨b, 0, none⟩ (.slice B1 K1 K1)).setCell ⟨b, 1, none⟩ (.bool g1)).setCell ⟨b, 2, none⟩ (.slice B2 K2 K2)).setCell ⟨b, 3, none⟩ (.bool g2)) b B1 K1 g1 B2 K2 g2 := by
 unfold FB at *
 simp [World.setCell, Array.getElem?_modify, h]
theorem FB.other (h : FB W b A1 L1 f1 A2 L2 f2) {c : Nat} (hne : c ≠ b) (o : Nat) (u : Value) : FB (W.setCell ⟨c, o, none⟩ u) b A1 L1 f1 A2 L2 f2 := by
 unfold FB at *
 rw [Below.heap_setCell _ _ _ _ (fun e => hne (by first | exact e | exact e.symm))]
 exact h
theorem FB.mag (h : FB W b A1 L1 f1 A2 L2 f2) {B L n : Nat} {A : Option Addr} (hm : Mag W B A L n) (u u' v v' : Value) : Mag ((((W.setCell ⟨b, 0, none⟩ u).setCell ⟨b, 1, none⟩ u').setCell ⟨b, 2, none⟩ v).setCell ⟨b, 3, none⟩ v') B A L n :=
 have hp := hm.apart h.cell0 (fun d => by simp)
 (((hm.setA hp 0 u).setA hp 1 u').setA hp 2 v).setA hp 3 v'
theorem FB.new (W : World) (A1 : Option Addr) (L1 : Nat) (f1 : Bool) (A2 : Option Addr) (L2 : Nat) (f2 : Bool) : FB (W.alloc (.cells #[.slice A1 L1 L1, .bool f1, .slice A2 L2 L2, .bool f2] 116)) W.heap.size A1 L1 f1 A2 L2 f2 := heap_alloc_new W _
theorem FB.alloc (h : FB W b A1 L1 f1 A2 L2 f2) (o : Obj) : FB (W.alloc o) b A1 L1 f1 A2 L2 f2 := h.below (below_alloc (Below.refl _ _) _)
end
theorem below_put4 {B : Nat} {w W : World} (h : Below B w W) {b : Nat} (hb : B ≤ b) (u u' v v' : Value) : Below B w ((((W.setCell ⟨b, 0, none⟩ u).setCell ⟨b, 1, none⟩ u').setCell ⟨b, 2, none⟩ v).setCell ⟨b, 3, none⟩ v') :=
 (((h.setCell (p := ⟨b, 0, none⟩) hb _).setCell (p := ⟨b, 1, none⟩) hb _).setCell (p := ⟨b, 2, none⟩) hb _).setCell (p := ⟨b, 3, none⟩) hb _
/-- The value of a fraction. -/
def fV (A1 : Option Addr) (L1 : Nat) (p : Int) (A2 : Option Addr) (L2 : Nat) (q : Int) : Value := .agg #[.slice A1 L1 L1, .bool (decide (p < 0)), .slice A2 L2 L2, .bool (decide (q < 0))]
theorem real_calls (s : ByteArray) (hs : s.size ≤ 90000) (h1 : checkI (cutA 47 s) = 0) (h2 : checkI (cutB 47 s) = 0) (w : World) (hE : EN w) :
 Calls Tryz.prog 107 #[.string s] w fun e w' => ∃ A1 k1 A2 k2, e = .returned (fV A1 k1 (intI (cutA 47 s)) A2 k2 (intI (cutB 47 s))) ∧ Mag w' w'.heap.size A1 k1 (intI (cutA 47 s)).natAbs ∧ Mag w' w'.heap.size A2 k2 (intI (cutB 47 s)).natAbs ∧ Below w.heap.size w w' := by
 obtain ⟨hz1, hz2⟩ := cut_size 47 s
 have hC := cut1_calls 47 s hs
 have hP1 := parseI_calls (cutA 47 s) (by omega) h1
 have hP2 := parseI_calls (cutB 47 s) (by omega) h2
 have hC : ∀ W, Below w.heap.size w W → Calls Tryz.prog 118 #[.string s, .string ⟨#[47]⟩] W fun e w' => e = .returned (.tuple #[.string (cutA 47 s), .string (cutB 47 s), .bool (cutF 47 s)]) ∧ Below W.heap.size W w' := fun W hb => hC W (hE.below hb)
 unfold fV
 generalize cutF 47 s = F at *
 generalize cutA 47 s = a at *
 generalize cutB 47 s = b at *
 generalize decide (intI a < 0) = fa at *
 generalize (intI a).natAbs = ma at *
 generalize decide (intI b < 0) = fb at *
 generalize (intI b).natAbs = mb at *
 have HC := Aside0.mk hC
 have HP1 := Aside0.mk hP1
 have HP2 := Aside0.mk hP2
 have HB := Aside0.mk (Below.refl w.heap.size w)
 clear hC hP1 hP2 h1 h2 hE
 go_enter Tryz.func107, Tryz.ntmps107
 go_wp2_with (first
  | (go_at_call 118; ((with_reducible refine (HC.out _ bl).mono ?_); rintro e w1 ⟨rfl, hb1⟩; obtain ⟨hc1, hf1⟩ := bcell hb1; have z1_0 : (w.heap.size) < w1.heap.size := zb hb1; have nB1 : Aside0 (Below w.heap.size w w1) := sb hb1; clear HB; have HB := nB1; clear nB1))
  | (go_at_call 74; ((with_reducible refine (HP1.out _).mono ?_); rintro e w2 ⟨A1, k1, rfl, hm1, hb2⟩; obtain ⟨hc2, hf2⟩ := bcell hb2; have z2_0 : (w.heap.size) < w2.heap.size := zb hb2; have nB2 : Aside0 (Below w.heap.size w w2) := sb hb2; clear HB; have HB := nB2; clear nB2; have HM1 := Aside0.mk hm1; clear hm1 HP1))
  | (go_at_call 74; ((with_reducible refine (HP2.out _).mono ?_); rintro e w3 ⟨A2, k2, rfl, hm2, hb3⟩; obtain ⟨hc3, hf3⟩ := bcell hb3; have z3_0 : (w.heap.size) < w3.heap.size := zb hb3; have nB3 : Aside0 (Below w.heap.size w w3) := sb hb3; clear HB; have HB := nB3; clear nB3; have HM2 := Aside0.mk hm2; clear hm2)))
 have q : FB w3 w.heap.size none 0 false none 0 false := (((FB.new w none 0 false none 0 false).below hb1).below hb2).below hb3
 have q0 := q.cell0
 have q1 := q.cell1
 have q2 := q.cell2
 have q3 := q.cell3
 refine bodyPost_ret (v := .agg #[.slice A1 k1 k1, .bool fa, .slice A2 k2 k2, .bool fb]) (by simp [results, Tryz.results107, go_sem, q0, q1, q2, q3]) rfl ⟨A1, k1, A2, k2, rfl, ?_, ?_, ?_⟩
 ·exact (q.mag (HM1.out.up hb3) _ _ _ _).more (by simp)
 ·exact (q.mag HM2.out _ _ _ _).more (by simp)
 ·exact below_put4 HB.out (Nat.le_refl _) _ _ _ _
end
section
open Go.Proofs.YtillgofjlpjbcaaGreatDoorW.PrintLast Go.Proofs.YtillgofjlpjbcaaGreatDoorW.PrintMore Go.Proofs.YtillgofjlpjbcaaGreatDoorW.PrintWords Go.RowKit Go.Shelf
/-- A variable of type Big. -/
def BG (W : World) (b : Nat) (f : Bool) (A : Option Addr) (L c : Nat) : Prop := W.heap[b]? = some (.cells #[.bool f, .slice A L c] 77 (0, 0))
section
variable {W X : World} {b : Nat} {f : Bool} {A : Option Addr} {L c n : Nat}
theorem BG.cell0 (h : BG W b f A L c) : W.cell? ⟨b, 0, none⟩ = some (.bool f) := by rw [Lib.cell_of_heap h]; rfl
theorem BG.cell1 (h : BG W b f A L c) : W.cell? ⟨b, 1, none⟩ = some (.slice A L c) := by rw [Lib.cell_of_heap h]; rfl
theorem BG.fr (h : BG W b f A L c) (o : Nat) : W.frozen? ⟨b, o, none⟩ = false := Lib.frozen_of_heap h o
theorem BG.lt (h : BG W b f A L c) : b < W.heap.size := (Array.getElem?_eq_some_iff.1 h).1
theorem BG.below (h : BG W b f A L c) (hb : Below W.heap.size W X) : BG X b f A L c := (hb.block b h.lt).trans h
theorem BG.alloc (h : BG W b f A L c) (o : Obj) : BG (W.alloc o) b f A L c := h.below (below_alloc (Below.refl _ _) _)
theorem BG.new (W : World) (f : Bool) (A : Option Addr) (L c : Nat) : BG (W.alloc (.cells #[.bool f, .slice A L c] 77)) W.heap.size f A L c := heap_alloc_new W _
theorem BG.put0 (h : BG W b f A L c) (g : Bool) : BG (W.setCell ⟨b, 0, none⟩ (.bool g)) b g A L c := by
 unfold BG at *
 simp [World.setCell, Array.getElem?_modify, h]
theorem BG.put1 (h : BG W b f A L c) (A' : Option Addr) (L' c' : Nat) : BG (W.setCell ⟨b, 1, none⟩ (.slice A' L' c')) b f A' L' c' := by
 unfold BG at *
 simp [World.setCell, Array.getElem?_modify, h]
theorem RL.bg {A' : Option Addr} {L' : Nat} {xs : List Nat} (h : RL W A' L' xs) (hb : BG W b f A L c) (o : Nat) (u : Value) : RL (W.setCell ⟨b, o, none⟩ u) A' L' xs := by
 obtain ⟨h1, h2, h3⟩ := h
 refine ⟨h1, h2, fun h0 => ?_⟩
 obtain ⟨ad, e, hc⟩ := h3 h0
 refine ⟨ad, e, fun j p hp => ?_⟩
 obtain ⟨cs, k1, k2, k3⟩ := hc j p hp
 refine ⟨cs, k1, k2, fun i u' hu => ?_⟩
 have hq := k3 i u' hu
 rw [World.cell?_setCell_far]
 ·exact hq
 ·intro e2
  have hcs : cs = [.int .i64 p] := k2
  subst hcs
  have hi : i = 0 := by
   rcases Nat.eq_zero_or_pos i with h | h
   ·exact h
   ·rw [List.getElem?_eq_none (by simp; omega)] at hu; cases hu
  subst hi
  have hu' : u' = .int .i64 p := by simpa using hu.symm
  subst hu'
  unfold World.cell? at hq
  rw [← show b = _ from e2] at hq
  rw [show W.heap[b]? = _ from hb] at hq
  dsimp only at hq
  split at hq
  ·cases hq
  ·generalize (ad.add (j * (Kd.int .i64).sz + 0)).off = o' at hq
   match o' with
   | 0 => simp at hq
   | 1 => simp at hq
   | o' + 2 => simp at hq
theorem RM.bg {A' : Option Addr} {L' : Nat} (h : RM W A' L' n) (hb : BG W b f A L c) (o : Nat) (u : Value) : RM (W.setCell ⟨b, o, none⟩ u) A' L' n := RL.bg h hb o u
end
theorem keepB2 {W X : World} {p : Addr} {v : Value} (hb : Below W.heap.size W X) (h : W.cell? p = some v) : X.cell? p = some v := (hb.cell (World.block_lt_of_cell? W _ h)).trans h
theorem RM.le {w w' : World} {A A' : Option Addr} {L k : Nat} {xs : List Nat} (h : RL w A L xs) (hd : ∀ d ∈ xs, d < QQ) (hm : RM w' A' k (val QQ xs)) : k ≤ L := by
 have h2 := val_lt (by decide : 0 < QQ) xs hd
 rw [h.len] at h2
 exact hm.bound h2
theorem rtrim_sign {w : World} {A : Option Addr} {L c : Nat} {xs : List Nat} (h : RL w A L xs) (hc : L ≤ c) (hd : ∀ d ∈ xs, d < QQ) (neg : Bool) :
 Calls Tryz.prog 137 #[.agg #[.bool neg, .slice A L c]] w fun e w' => ∃ k g, e = .returned (.agg #[.bool g, .slice A k c]) ∧ g = (neg && decide (val QQ xs ≠ 0)) ∧ k ≤ c ∧ RM w' A k (val QQ xs) ∧ Below w.heap.size w w' :=
 (rtrim_calls h hc hd neg).mono fun e w' ⟨k, h1, h2, h3⟩ => ⟨k, _, h1, rfl, Nat.le_trans (RM.le h hd h2) hc, h2, h3⟩
theorem rPlus_same {w : World} {A1 A2 : Option Addr} {L1 L2 c1 c2 m n : Nat} {f1 f2 : Bool} (h1 : RM w A1 L1 m) (h2 : RM w A2 L2 n) (hf : f1 = f2) (hL1 : L1 ≤ 100000) (hL2 : L2 ≤ 100000) :
 Calls Tryz.prog 82 #[.agg #[.bool f1, .slice A1 L1 c1], .agg #[.bool f2, .slice A2 L2 c2]] w fun e w' => ∃ A k c, e = .returned (.agg #[.bool (f1 && decide (m + n ≠ 0)), .slice A k c]) ∧ k ≤ c ∧ RM w' A k (m + n) ∧ Below w.heap.size w w' := by
 have H1 := h1.at_below
 have H2 := h2.at_below
 have hff : (f1 == f2) = true := by simp [hf]
 clear h1 h2 hf
 go_enter Tryz.func82, Tryz.ntmps82
 go_wp2_with fail
 obtain ⟨wr, hwr⟩ : ∃ wr, (((w.alloc (.cells #[.bool f1, .slice A1 L1 c1] 77)).alloc (.cells #[.bool f2, .slice A2 L2 c2] 77)).alloc (.cells #[.bool false, .slice none 0 0] 77)) = wr := ⟨_, rfl⟩
 have HF : BG wr w.heap.size f1 A1 L1 c1 ∧ BG wr (w.heap.size + 1) f2 A2 L2 c2 ∧ BG wr (w.heap.size + 1 + 1) false none 0 0 := by
  subst hwr
  refine ⟨((BG.new w _ _ _ _).alloc _).alloc _, BG.alloc ?_ _, ?_⟩
  ·have h := BG.new (w.alloc (.cells #[.bool f1, .slice A1 L1 c1] 77)) f2 A2 L2 c2
   simpa using h
  ·have h := BG.new ((w.alloc (.cells #[.bool f1, .slice A1 L1 c1] 77)).alloc (.cells #[.bool f2, .slice A2 L2 c2] 77)) false none 0 0
   simpa using h
 have HX : Aside0 (wr.cell? ⟨w.heap.size, 0, none⟩ = some (.bool f1) ∧ wr.cell? ⟨w.heap.size, 1, none⟩ = some (.slice A1 L1 c1) ∧ wr.cell? ⟨w.heap.size + 1, 0, none⟩ = some (.bool f2) ∧ wr.cell? ⟨w.heap.size + 1, 1, none⟩ = some (.slice A2 L2 c2)) :=
  ⟨HF.1.cell0, HF.1.cell1, HF.2.1.cell0, HF.2.1.cell1⟩
 have HO := Aside0.mk HF.2.2
 have HA : Aside0 (Below w.heap.size w wr ∧ w.heap.size + 3 ≤ wr.heap.size) := ⟨by subst hwr; repeat (first | exact Below.refl _ _ | apply below_alloc), by subst hwr; simp⟩
 have x0 := HX.out.1
 have x1 := HX.out.2.1
 have x2 := HX.out.2.2.1
 have x3 := HX.out.2.2.2
 rw [hwr]
 clear hwr HF
 go_wp2_with fail
 rename_i Q' K hK
 have KP : Aside0 (∀ V, Below (w.heap.size + 2) wr V → (fun V => V.cell? ⟨w.heap.size, 0, none⟩ = some (.bool f1) ∧ V.cell? ⟨w.heap.size, 1, none⟩ = some (.slice A1 L1 c1) ∧ V.cell? ⟨w.heap.size + 1, 0, none⟩ = some (.bool f2) ∧ V.cell? ⟨w.heap.size + 1, 1, none⟩ = some (.slice A2 L2 c2) ∧ Below (w.heap.size + 2) wr V) V) := ⟨fun V hBB => ⟨keepB hBB (by omega) HX.out.1, keepB hBB (by omega) HX.out.2.1, keepB hBB (by omega) HX.out.2.2.1, keepB hBB (by omega) HX.out.2.2.2, hBB⟩⟩
 refine wq KP fun hHeld => ?_
 refine tp 0 ?_
 try simp only [PU]
 refine tp 1 ?_
 try simp only [PU]
 refine tp 2 ?_
 try simp only [PU]
 refine tp 3 ?_
 try simp only [PU]
 refine tp 4 ?_
 try simp only [PU]
 refine tp 5 ?_
 try simp only [PU]
 refine tc 6 fun K hK => ?_
 go_simp
 (go_at_call 146; (with_reducible refine (rplus_calls (H1.out _ (HA.out.1.trans (hHeld.2.2.2.2.mono (by omega)))) (H2.out _ (HA.out.1.trans (hHeld.2.2.2.2.mono (by omega)))) hL1 hL2).mono ?_); rintro e wm ⟨A5, k5, c5, xs5, rfl, hk5, hm5, hd5, hv5, hbq⟩; have HO := Aside0.mk ((HO.out.below (below_drew1 (Below.refl _ _))).below hbq); have hm5 := Aside0.mk hm5; have hd5 := Aside0.mk hd5; have hv5 := Aside0.mk hv5)
 refine hK.out _ _ ?_ fun hHeld => ?_
 ·(first | exact KP.out _ (bKeep hbq hHeld.2.2.2.2 (by have := HA.out.2; omega)) | (refine KP.out _ ?_; repeat (first | exact hHeld.2.2.2.2 | refine Below.setCell ?_ (by first | (simp; done) | (simp; omega)) _)))
 clear hK K; try simp only [PU]
 refine tp 7 ?_
 try simp only [PU]
 refine tc 8 fun K hK => ?_
 go_simp
 (go_at_call 137; (with_reducible refine (rtrim_sign hm5.out hk5 hd5.out _).mono ?_); rintro e wm ⟨k6, g6, rfl, hg6, hk6, hm6, hbq⟩; have HG := Aside0.mk (And.intro hg6 hk6); clear hg6 hk6; have HO := Aside0.mk (HO.out.below hbq); have hm6 := Aside0.mk hm6; have q0 := HO.out.cell0; have q1 := HO.out.cell1; have q4 := HO.out.fr 0; have q5 := HO.out.fr 1)
 refine hK.out _ _ ?_ fun hHeld => ?_
 ·(first | exact KP.out _ (bKeep hbq hHeld.2.2.2.2 (by have := HA.out.2; omega)) | (refine KP.out _ ?_; repeat (first | exact hHeld.2.2.2.2 | refine Below.setCell ?_ (by first | (simp; done) | (simp; omega)) _)))
 clear hK K; try simp only [PU]
 refine tc 9 fun K hK => ?_
 go_simp
 refine hK.out _ _ ?_ fun hHeld => ?_
 ·(first | exact KP.out _ (bKeep hbq hHeld.2.2.2.2 (by have := HA.out.2; omega)) | (refine KP.out _ ?_; repeat (first | exact hHeld.2.2.2.2 | refine Below.setCell ?_ (by first | (simp; done) | (simp; omega)) _)))
 clear hK K; try simp only [PU]
 refine wpAnyH_done (by kernel_rfl) ?_ _
 refine hK _ _ ?_
 go_wp2
 refine bodyPost_ret (v := .agg #[.bool g6, .slice A5 k6 c5]) (by simp [results, Tryz.results82, go_sem, q0, q1]) rfl ⟨A5, k6, c5, by rw [HG.out.1, hv5.out] <;> simp, HG.out.2, ?_, HA.out.1.trans (hHeld.2.2.2.2.mono (by omega))⟩
 have h := hm6.out
 rw [hv5.out] at h
 exact (h.bg HO.out 0 _).bg (HO.out.put0 _) 1 _
theorem rPlus_ge {w : World} {A1 A2 : Option Addr} {L1 L2 c1 c2 m n : Nat} {f1 f2 : Bool} (h1 : RM w A1 L1 m) (h2 : RM w A2 L2 n) (hf : f1 ≠ f2) (hle : n ≤ m) (hL1 : L1 ≤ 100000) :
 Calls Tryz.prog 82 #[.agg #[.bool f1, .slice A1 L1 c1], .agg #[.bool f2, .slice A2 L2 c2]] w fun e w' => ∃ A k c, e = .returned (.agg #[.bool (f1 && decide (m - n ≠ 0)), .slice A k c]) ∧ k ≤ c ∧ RM w' A k (m - n) ∧ Below w.heap.size w w' := by
 have H1 := h1.at_below
 have H2 := h2.at_below
 have hff : (f1 == f2) = false := by simp [hf]
 have HV : Aside0 (val QQ (dg QQ (m - n)) = m - n) := ⟨val_dg QQ1 _⟩
 have HMG : Aside0 (∀ W, Below w.heap.size w W → Calls Tryz.prog 147 #[.slice A1 L1 c1, .slice A2 L2 c2] W fun e w' => e = .returned (.int .i64 (cmpI m n)) ∧ Drawn0 W w') := ⟨fun W hb => rmagnitude_calls (h1.below hb) (h2.below hb) (by omega)⟩
 have HC : Aside0 (decide ((0 : Int) ≤ cmpI (m : Int) n) = true) := ⟨(decide_eq_true (by unfold cmpI; split <;> (try split) <;> omega))⟩
 generalize cmpI (m : Int) n = q at *
 have hq1 := HC.out
 clear h1 h2 hf
 go_enter Tryz.func82, Tryz.ntmps82
 go_wp2_with fail
 obtain ⟨wr, hwr⟩ : ∃ wr, (((w.alloc (.cells #[.bool f1, .slice A1 L1 c1] 77)).alloc (.cells #[.bool f2, .slice A2 L2 c2] 77)).alloc (.cells #[.bool false, .slice none 0 0] 77)) = wr := ⟨_, rfl⟩
 have HF : BG wr w.heap.size f1 A1 L1 c1 ∧ BG wr (w.heap.size + 1) f2 A2 L2 c2 ∧ BG wr (w.heap.size + 1 + 1) false none 0 0 := by
  subst hwr
  refine ⟨((BG.new w _ _ _ _).alloc _).alloc _, BG.alloc ?_ _, ?_⟩
  ·have h := BG.new (w.alloc (.cells #[.bool f1, .slice A1 L1 c1] 77)) f2 A2 L2 c2
   simpa using h
  ·have h := BG.new ((w.alloc (.cells #[.bool f1, .slice A1 L1 c1] 77)).alloc (.cells #[.bool f2, .slice A2 L2 c2] 77)) false none 0 0
   simpa using h
 have HX : Aside0 (wr.cell? ⟨w.heap.size, 0, none⟩ = some (.bool f1) ∧ wr.cell? ⟨w.heap.size, 1, none⟩ = some (.slice A1 L1 c1) ∧ wr.cell? ⟨w.heap.size + 1, 0, none⟩ = some (.bool f2) ∧ wr.cell? ⟨w.heap.size + 1, 1, none⟩ = some (.slice A2 L2 c2)) :=
  ⟨HF.1.cell0, HF.1.cell1, HF.2.1.cell0, HF.2.1.cell1⟩
 have HO := Aside0.mk HF.2.2
 have HA : Aside0 (Below w.heap.size w wr ∧ w.heap.size + 3 ≤ wr.heap.size) := ⟨by subst hwr; repeat (first | exact Below.refl _ _ | apply below_alloc), by subst hwr; simp⟩
 have x0 := HX.out.1
 have x1 := HX.out.2.1
 have x2 := HX.out.2.2.1
 have x3 := HX.out.2.2.2
 rw [hwr]
 clear hwr HF
 go_wp2_with (first | (go_at_call 147; (with_reducible refine (HMG.out _ HA.out.1).mono ?_); rintro e W2 ⟨rfl, hdr⟩; have hbq := hdr.below; have HX := Aside0.mk (And.intro (keepB2 hbq HX.out.1) (And.intro (keepB2 hbq HX.out.2.1) (And.intro (keepB2 hbq HX.out.2.2.1) (keepB2 hbq HX.out.2.2.2)))); have HO := Aside0.mk (HO.out.below hbq); have HA : Aside0 (Below w.heap.size w W2 ∧ w.heap.size + 3 ≤ W2.heap.size) := ⟨HA.out.1.trans (hbq.mono HA.out.1.size), Nat.le_trans HA.out.2 hbq.size⟩; clear hdr hbq x0 x1 x2 x3; have x0 := HX.out.1; have x1 := HX.out.2.1; have x2 := HX.out.2.2.1; have x3 := HX.out.2.2.2))
 rename_i Q' K hK
 have KP : Aside0 (∀ V, Below (w.heap.size + 2) W2 V → (fun V => V.cell? ⟨w.heap.size, 0, none⟩ = some (.bool f1) ∧ V.cell? ⟨w.heap.size, 1, none⟩ = some (.slice A1 L1 c1) ∧ V.cell? ⟨w.heap.size + 1, 0, none⟩ = some (.bool f2) ∧ V.cell? ⟨w.heap.size + 1, 1, none⟩ = some (.slice A2 L2 c2) ∧ Below (w.heap.size + 2) W2 V) V) := ⟨fun V hBB => ⟨keepB hBB (by omega) HX.out.1, keepB hBB (by omega) HX.out.2.1, keepB hBB (by omega) HX.out.2.2.1, keepB hBB (by omega) HX.out.2.2.2, hBB⟩⟩
 refine wq KP fun hHeld => ?_
 refine tp 0 ?_
 try simp only [PU]
 refine tp 1 ?_
 try simp only [PU]
 refine tp 2 ?_
 try simp only [PU]
 refine tp 3 ?_
 try simp only [PU]
 refine tp 4 ?_
 try simp only [PU]
 refine tp 5 ?_
 try simp only [PU]
 refine tc 6 fun K hK => ?_
 go_simp
 (go_at_call 148; (with_reducible refine (rminus_calls (H1.out _ (HA.out.1.trans (hHeld.2.2.2.2.mono (by omega)))) (H2.out _ (HA.out.1.trans (hHeld.2.2.2.2.mono (by omega)))) hle hL1).mono ?_); rintro e wm ⟨A5, k5, c5, rfl, hk5, hm5, hbq⟩; have HO := Aside0.mk ((HO.out.below (below_drew1 (Below.refl _ _))).below hbq); have hm5 : Aside0 (RL wm A5 k5 (dg QQ (m - n))) := ⟨hm5⟩; have hd5 : Aside0 (∀ d ∈ dg QQ (m - n), d < QQ) := ⟨dg_lt QQ1 _⟩)
 refine hK.out _ _ ?_ fun hHeld => ?_
 ·(first | exact KP.out _ (bKeep hbq hHeld.2.2.2.2 (by have := HA.out.2; omega)) | (refine KP.out _ ?_; repeat (first | exact hHeld.2.2.2.2 | refine Below.setCell ?_ (by first | (simp; done) | (simp; omega)) _)))
 clear hK K; try simp only [PU]
 refine tp 7 ?_
 try simp only [PU]
 refine tc 8 fun K hK => ?_
 go_simp
 (go_at_call 137; (with_reducible refine (rtrim_sign hm5.out hk5 hd5.out _).mono ?_); rintro e wm ⟨k6, g6, rfl, hg6, hk6, hm6, hbq⟩; have HG := Aside0.mk (And.intro hg6 hk6); clear hg6 hk6; have HO := Aside0.mk (HO.out.below hbq); have hm6 := Aside0.mk hm6; have q0 := HO.out.cell0; have q1 := HO.out.cell1; have q4 := HO.out.fr 0; have q5 := HO.out.fr 1)
 refine hK.out _ _ ?_ fun hHeld => ?_
 ·(first | exact KP.out _ (bKeep hbq hHeld.2.2.2.2 (by have := HA.out.2; omega)) | (refine KP.out _ ?_; repeat (first | exact hHeld.2.2.2.2 | refine Below.setCell ?_ (by first | (simp; done) | (simp; omega)) _)))
 clear hK K; try simp only [PU]
 refine tc 9 fun K hK => ?_
 go_simp
 refine hK.out _ _ ?_ fun hHeld => ?_
 ·(first | exact KP.out _ (bKeep hbq hHeld.2.2.2.2 (by have := HA.out.2; omega)) | (refine KP.out _ ?_; repeat (first | exact hHeld.2.2.2.2 | refine Below.setCell ?_ (by first | (simp; done) | (simp; omega)) _)))
 clear hK K; try simp only [PU]
 refine wpAnyH_done (by kernel_rfl) ?_ _
 refine hK _ _ ?_
 go_wp2
 refine bodyPost_ret (v := .agg #[.bool g6, .slice A5 k6 c5]) (by simp [results, Tryz.results82, go_sem, q0, q1]) rfl ⟨A5, k6, c5, by rw [HG.out.1, HV.out] <;> simp, HG.out.2, ?_, HA.out.1.trans (hHeld.2.2.2.2.mono (by omega))⟩
 have h := hm6.out
 rw [HV.out] at h
 exact (h.bg HO.out 0 _).bg (HO.out.put0 _) 1 _
theorem rPlus_lt {w : World} {A1 A2 : Option Addr} {L1 L2 c1 c2 m n : Nat} {f1 f2 : Bool} (h1 : RM w A1 L1 m) (h2 : RM w A2 L2 n) (hf : f1 ≠ f2) (hle : m < n) (hL1 : L1 ≤ 100000) (hL2 : L2 ≤ 100000) :
 Calls Tryz.prog 82 #[.agg #[.bool f1, .slice A1 L1 c1], .agg #[.bool f2, .slice A2 L2 c2]] w fun e w' => ∃ A k c, e = .returned (.agg #[.bool (f2 && decide (n - m ≠ 0)), .slice A k c]) ∧ k ≤ c ∧ RM w' A k (n - m) ∧ Below w.heap.size w w' := by
 have H1 := h1.at_below
 have H2 := h2.at_below
 have hff : (f1 == f2) = false := by simp [hf]
 have HV : Aside0 (val QQ (dg QQ (n - m)) = n - m) := ⟨val_dg QQ1 _⟩
 have hle' := Nat.le_of_lt hle
 have HMG : Aside0 (∀ W, Below w.heap.size w W → Calls Tryz.prog 147 #[.slice A1 L1 c1, .slice A2 L2 c2] W fun e w' => e = .returned (.int .i64 (cmpI m n)) ∧ Drawn0 W w') := ⟨fun W hb => rmagnitude_calls (h1.below hb) (h2.below hb) (by omega)⟩
 have HC : Aside0 (decide ((0 : Int) ≤ cmpI (m : Int) n) = false) := ⟨(decide_eq_false (by unfold cmpI; split <;> (try split) <;> omega))⟩
 generalize cmpI (m : Int) n = q at *
 have hq1 := HC.out
 clear h1 h2 hf
 go_enter Tryz.func82, Tryz.ntmps82
 go_wp2_with fail
 obtain ⟨wr, hwr⟩ : ∃ wr, (((w.alloc (.cells #[.bool f1, .slice A1 L1 c1] 77)).alloc (.cells #[.bool f2, .slice A2 L2 c2] 77)).alloc (.cells #[.bool false, .slice none 0 0] 77)) = wr := ⟨_, rfl⟩
 have HF : BG wr w.heap.size f1 A1 L1 c1 ∧ BG wr (w.heap.size + 1) f2 A2 L2 c2 ∧ BG wr (w.heap.size + 1 + 1) false none 0 0 := by
  subst hwr
  refine ⟨((BG.new w _ _ _ _).alloc _).alloc _, BG.alloc ?_ _, ?_⟩
  ·have h := BG.new (w.alloc (.cells #[.bool f1, .slice A1 L1 c1] 77)) f2 A2 L2 c2
   simpa using h
  ·have h := BG.new ((w.alloc (.cells #[.bool f1, .slice A1 L1 c1] 77)).alloc (.cells #[.bool f2, .slice A2 L2 c2] 77)) false none 0 0
   simpa using h
 have HX : Aside0 (wr.cell? ⟨w.heap.size, 0, none⟩ = some (.bool f1) ∧ wr.cell? ⟨w.heap.size, 1, none⟩ = some (.slice A1 L1 c1) ∧ wr.cell? ⟨w.heap.size + 1, 0, none⟩ = some (.bool f2) ∧ wr.cell? ⟨w.heap.size + 1, 1, none⟩ = some (.slice A2 L2 c2)) :=
  ⟨HF.1.cell0, HF.1.cell1, HF.2.1.cell0, HF.2.1.cell1⟩
 have HO := Aside0.mk HF.2.2
 have HA : Aside0 (Below w.heap.size w wr ∧ w.heap.size + 3 ≤ wr.heap.size) := ⟨by subst hwr; repeat (first | exact Below.refl _ _ | apply below_alloc), by subst hwr; simp⟩
 have x0 := HX.out.1
 have x1 := HX.out.2.1
 have x2 := HX.out.2.2.1
 have x3 := HX.out.2.2.2
 rw [hwr]
 clear hwr HF
 go_wp2_with (first | (go_at_call 147; (with_reducible refine (HMG.out _ HA.out.1).mono ?_); rintro e W2 ⟨rfl, hdr⟩; have hbq := hdr.below; have HX := Aside0.mk (And.intro (keepB2 hbq HX.out.1) (And.intro (keepB2 hbq HX.out.2.1) (And.intro (keepB2 hbq HX.out.2.2.1) (keepB2 hbq HX.out.2.2.2)))); have HO := Aside0.mk (HO.out.below hbq); have HA : Aside0 (Below w.heap.size w W2 ∧ w.heap.size + 3 ≤ W2.heap.size) := ⟨HA.out.1.trans (hbq.mono HA.out.1.size), Nat.le_trans HA.out.2 hbq.size⟩; clear hdr hbq x0 x1 x2 x3; have x0 := HX.out.1; have x1 := HX.out.2.1; have x2 := HX.out.2.2.1; have x3 := HX.out.2.2.2))
 rename_i Q' K hK
 have KP : Aside0 (∀ V, Below (w.heap.size + 2) W2 V → (fun V => V.cell? ⟨w.heap.size, 0, none⟩ = some (.bool f1) ∧ V.cell? ⟨w.heap.size, 1, none⟩ = some (.slice A1 L1 c1) ∧ V.cell? ⟨w.heap.size + 1, 0, none⟩ = some (.bool f2) ∧ V.cell? ⟨w.heap.size + 1, 1, none⟩ = some (.slice A2 L2 c2) ∧ Below (w.heap.size + 2) W2 V) V) := ⟨fun V hBB => ⟨keepB hBB (by omega) HX.out.1, keepB hBB (by omega) HX.out.2.1, keepB hBB (by omega) HX.out.2.2.1, keepB hBB (by omega) HX.out.2.2.2, hBB⟩⟩
 refine wq KP fun hHeld => ?_
 refine tp 0 ?_
 try simp only [PU]
 refine tp 1 ?_
 try simp only [PU]
 refine tp 2 ?_
 try simp only [PU]
 refine tp 3 ?_
 try simp only [PU]
 refine tp 4 ?_
 try simp only [PU]
 refine tp 5 ?_
 try simp only [PU]
 refine tc 6 fun K hK => ?_
 go_simp
 (go_at_call 148; (with_reducible refine (rminus_calls (H2.out _ (HA.out.1.trans (hHeld.2.2.2.2.mono (by omega)))) (H1.out _ (HA.out.1.trans (hHeld.2.2.2.2.mono (by omega)))) hle' hL2).mono ?_); rintro e wm ⟨A5, k5, c5, rfl, hk5, hm5, hbq⟩; have HO := Aside0.mk ((HO.out.below (below_drew1 (Below.refl _ _))).below hbq); have hm5 : Aside0 (RL wm A5 k5 (dg QQ (n - m))) := ⟨hm5⟩; have hd5 : Aside0 (∀ d ∈ dg QQ (n - m), d < QQ) := ⟨dg_lt QQ1 _⟩)
 refine hK.out _ _ ?_ fun hHeld => ?_
 ·(first | exact KP.out _ (bKeep hbq hHeld.2.2.2.2 (by have := HA.out.2; omega)) | (refine KP.out _ ?_; repeat (first | exact hHeld.2.2.2.2 | refine Below.setCell ?_ (by first | (simp; done) | (simp; omega)) _)))
 clear hK K; try simp only [PU]
 refine tp 7 ?_
 try simp only [PU]
 refine tc 8 fun K hK => ?_
 go_simp
 (go_at_call 137; (with_reducible refine (rtrim_sign hm5.out hk5 hd5.out _).mono ?_); rintro e wm ⟨k6, g6, rfl, hg6, hk6, hm6, hbq⟩; have HG := Aside0.mk (And.intro hg6 hk6); clear hg6 hk6; have HO := Aside0.mk (HO.out.below hbq); have hm6 := Aside0.mk hm6; have q0 := HO.out.cell0; have q1 := HO.out.cell1; have q4 := HO.out.fr 0; have q5 := HO.out.fr 1)
 refine hK.out _ _ ?_ fun hHeld => ?_
 ·(first | exact KP.out _ (bKeep hbq hHeld.2.2.2.2 (by have := HA.out.2; omega)) | (refine KP.out _ ?_; repeat (first | exact hHeld.2.2.2.2 | refine Below.setCell ?_ (by first | (simp; done) | (simp; omega)) _)))
 clear hK K; try simp only [PU]
 refine tc 9 fun K hK => ?_
 go_simp
 refine hK.out _ _ ?_ fun hHeld => ?_
 ·(first | exact KP.out _ (bKeep hbq hHeld.2.2.2.2 (by have := HA.out.2; omega)) | (refine KP.out _ ?_; repeat (first | exact hHeld.2.2.2.2 | refine Below.setCell ?_ (by first | (simp; done) | (simp; omega)) _)))
 clear hK K; try simp only [PU]
 refine wpAnyH_done (by kernel_rfl) ?_ _
 refine hK _ _ ?_
 go_wp2
 refine bodyPost_ret (v := .agg #[.bool g6, .slice A5 k6 c5]) (by simp [results, Tryz.results82, go_sem, q0, q1]) rfl ⟨A5, k6, c5, by rw [HG.out.1, HV.out] <;> simp, HG.out.2, ?_, HA.out.1.trans (hHeld.2.2.2.2.mono (by omega))⟩
 have h := hm6.out
 rw [HV.out] at h
 exact (h.bg HO.out 0 _).bg (HO.out.put0 _) 1 _
/-- The value of an integer of the reference. -/
def rV (A : Option Addr) (L c : Nat) (x : Int) : Value := .agg #[.bool (decide (x < 0)), .slice A L c]
/-- What a function that gives an integer answers. -/
def RX (w : World) (x : Int) (e : Ending) (w' : World) : Prop := ∃ A k c, e = .returned (rV A k c x) ∧ k ≤ c ∧ RM w' A k x.natAbs ∧ Below w.heap.size w w'
theorem RX.of {w w' : World} {e : Ending} {x : Int} {A : Option Addr} {k c n : Nat} {g : Bool} (he : e = .returned (.agg #[.bool g, .slice A k c])) (hg : g = decide (x < 0)) (hk : k ≤ c) (hn : n = x.natAbs) (hm : RM w' A k n) (hb : Below w.heap.size w w') : RX w x e w' := by
 subst hg hn
 exact ⟨A, k, c, he, hk, hm, hb⟩
theorem rPlus_calls {w : World} {A1 A2 : Option Addr} {L1 L2 c1 c2 : Nat} {x y : Int} (h1 : RM w A1 L1 x.natAbs) (h2 : RM w A2 L2 y.natAbs) (hL1 : L1 ≤ 100000) (hL2 : L2 ≤ 100000) :
 Calls Tryz.prog 82 #[rV A1 L1 c1 x, rV A2 L2 c2 y] w fun e w' => RX w (x + y) e w' := by
 unfold rV
 by_cases hf : decide (x < 0) = decide (y < 0)
 ·refine (rPlus_same h1 h2 hf hL1 hL2).mono fun e w' ⟨A, k, c, h3, h4, h5, h6⟩ => ?_
  have hf' : x < 0 ↔ y < 0 := by simpa using hf
  refine RX.of h3 ?_ h4 ?_ h5 h6
  ·rw [Bool.eq_iff_iff]; simp; omega
  ·omega
 ·have hf' : ¬ (x < 0 ↔ y < 0) := by simpa using hf
  rcases Nat.lt_or_ge x.natAbs y.natAbs with hl | hl
  ·refine (rPlus_lt h1 h2 hf hl hL1 hL2).mono fun e w' ⟨A, k, c, h3, h4, h5, h6⟩ => ?_
   refine RX.of h3 ?_ h4 ?_ h5 h6
   ·rw [Bool.eq_iff_iff]; simp; omega
   ·omega
  ·refine (rPlus_ge h1 h2 hf hl hL1).mono fun e w' ⟨A, k, c, h3, h4, h5, h6⟩ => ?_
   refine RX.of h3 ?_ h4 ?_ h5 h6
   ·rw [Bool.eq_iff_iff]; simp; omega
   ·omega
theorem rNegative_calls {w : World} {A1 : Option Addr} {L1 c1 : Nat} {x : Int} (h1 : RM w A1 L1 x.natAbs) (hc : L1 ≤ c1) :
 Calls Tryz.prog 78 #[rV A1 L1 c1 x] w fun e w' => ∃ k c, e = .returned (rV A1 k c (-x)) ∧ k ≤ c ∧ RM w' A1 k (-x).natAbs ∧ Below w.heap.size w w' := by
 unfold rV
 have HV : Aside0 (val QQ (dg QQ x.natAbs) = (-x).natAbs ∧ (!decide (x < 0) && decide ((-x).natAbs ≠ 0)) = decide (-x < 0)) := ⟨by rw [val_dg QQ1, Int.natAbs_neg], by rw [Bool.eq_iff_iff]; simp; omega⟩
 have H1 : Aside0 (∀ W, Below w.heap.size w W → RL W A1 L1 (dg QQ x.natAbs)) := ⟨fun W hb => h1.below hb⟩
 have HD : Aside0 (∀ d ∈ dg QQ x.natAbs, d < QQ) := ⟨dg_lt QQ1 _⟩
 generalize hxs : dg QQ x.natAbs = xs at *
 generalize decide (x < 0) = f1 at *
 generalize decide (-x < 0) = f3 at *
 generalize (-x).natAbs = n3 at *
 clear h1 hxs
 go_enter Tryz.func78, Tryz.ntmps78
 go_wp2_with fail
 obtain ⟨wr, hwr⟩ : ∃ wr, ((w.alloc (.cells #[.bool f1, .slice A1 L1 c1] 77)).alloc (.cells #[.bool false, .slice none 0 0] 77)) = wr := ⟨_, rfl⟩
 have HO : Aside0 (BG wr (w.heap.size + 1) false none 0 0) := ⟨by
  subst hwr
  have h := BG.new (w.alloc (.cells #[.bool f1, .slice A1 L1 c1] 77)) false none 0 0
  simpa using h⟩
 have HF : BG wr w.heap.size f1 A1 L1 c1 := by subst hwr; exact (BG.new w _ _ _ _).alloc _
 have HA : Aside0 (Below w.heap.size w wr ∧ w.heap.size + 2 ≤ wr.heap.size) := ⟨by subst hwr; repeat (first | exact Below.refl _ _ | apply below_alloc), by subst hwr; simp⟩
 have x0 := HF.cell0
 have x1 := HF.cell1
 rw [hwr]
 clear hwr HF
 go_wp2_with (go_at_call 137; (with_reducible refine (rtrim_sign (H1.out _ HA.out.1) hc HD.out _).mono ?_); rintro e wm ⟨k6, g6, rfl, hg6, hk6, hm6, hbq⟩; have HG := Aside0.mk (And.intro hg6 hk6); have hm6 := Aside0.mk hm6; have HO := Aside0.mk (HO.out.below hbq); have hbq := Aside0.mk hbq; have q0 := HO.out.cell0; have q1 := HO.out.cell1; have q4 := HO.out.fr 0; have q5 := HO.out.fr 1; clear hg6 hk6)
 refine bodyPost_ret (v := .agg #[.bool g6, .slice A1 k6 c1]) (by simp [results, Tryz.results78, go_sem, q0, q1]) rfl ⟨k6, c1, by rw [HG.out.1, HV.out.1, HV.out.2], HG.out.2, ?_, ?_⟩
 ·have h := hm6.out
  rw [HV.out.1] at h
  exact (h.bg HO.out 0 _).bg (HO.out.put0 _) 1 _
 ·exact ((HA.out.1.trans (hbq.out.mono HA.out.1.size)).setCell (p := ⟨w.heap.size + 1, 0, none⟩) (by simp) _).setCell (p := ⟨w.heap.size + 1, 1, none⟩) (by simp) _
theorem rMinus_calls {w : World} {A1 A2 : Option Addr} {L1 L2 c1 c2 : Nat} {x y : Int} (h1 : RM w A1 L1 x.natAbs) (h2 : RM w A2 L2 y.natAbs) (hc2 : L2 ≤ c2) (hL1 : L1 ≤ 100000) (hL2 : L2 ≤ 100000) :
 Calls Tryz.prog 84 #[rV A1 L1 c1 x, rV A2 L2 c2 y] w fun e w' => RX w (x - y) e w' := by
 have H1 := h1.at_below
 have HN : Aside0 (∀ W, Below w.heap.size w W → Calls Tryz.prog 78 #[rV A2 L2 c2 y] W fun e w' => ∃ k c, e = .returned (rV A2 k c (-y)) ∧ k ≤ c ∧ RM w' A2 k (-y).natAbs ∧ Below W.heap.size W w') := ⟨fun W hb => rNegative_calls (h2.below hb) hc2⟩
 have HP : Aside0 (∀ W k c, RM W A1 L1 x.natAbs → RM W A2 k (-y).natAbs → Calls Tryz.prog 82 #[rV A1 L1 c1 x, rV A2 k c (-y)] W fun e w' => RX W (x - y) e w') := ⟨fun W k c g1 g2 => by
  have hk : k ≤ 100000 := by rw [Int.natAbs_neg] at g2; rw [← g2.len, h2.len]; exact hL2
  have h := rPlus_calls (c1 := c1) (c2 := c) g1 g2 hL1 hk
  rwa [← Int.sub_eq_add_neg] at h⟩
 unfold RX at *
 unfold rV at *
 generalize decide (x < 0) = f1 at *
 generalize decide (y < 0) = f2 at *
 generalize decide (-y < 0) = f4 at *
 generalize decide (x - y < 0) = f3 at *
 generalize (x - y).natAbs = n3 at *
 generalize (-y).natAbs = n4 at *
 generalize x.natAbs = n1 at *
 clear h1 h2
 go_enter Tryz.func84, Tryz.ntmps84
 go_wp2_with fail
 obtain ⟨wr, hwr⟩ : ∃ wr, (((w.alloc (.cells #[.bool f1, .slice A1 L1 c1] 77)).alloc (.cells #[.bool f2, .slice A2 L2 c2] 77)).alloc (.cells #[.bool false, .slice none 0 0] 77)) = wr := ⟨_, rfl⟩
 have HF : BG wr w.heap.size f1 A1 L1 c1 ∧ BG wr (w.heap.size + 1) f2 A2 L2 c2 ∧ BG wr (w.heap.size + 1 + 1) false none 0 0 := by
  subst hwr
  refine ⟨((BG.new w _ _ _ _).alloc _).alloc _, BG.alloc ?_ _, ?_⟩
  ·have h := BG.new (w.alloc (.cells #[.bool f1, .slice A1 L1 c1] 77)) f2 A2 L2 c2
   simpa using h
  ·have h := BG.new ((w.alloc (.cells #[.bool f1, .slice A1 L1 c1] 77)).alloc (.cells #[.bool f2, .slice A2 L2 c2] 77)) false none 0 0
   simpa using h
 have HX : Aside0 (wr.cell? ⟨w.heap.size, 0, none⟩ = some (.bool f1) ∧ wr.cell? ⟨w.heap.size, 1, none⟩ = some (.slice A1 L1 c1) ∧ wr.cell? ⟨w.heap.size + 1, 0, none⟩ = some (.bool f2) ∧ wr.cell? ⟨w.heap.size + 1, 1, none⟩ = some (.slice A2 L2 c2)) :=
  ⟨HF.1.cell0, HF.1.cell1, HF.2.1.cell0, HF.2.1.cell1⟩
 have HO := Aside0.mk HF.2.2
 have HA : Aside0 (Below w.heap.size w wr ∧ w.heap.size + 3 ≤ wr.heap.size) := ⟨by subst hwr; repeat (first | exact Below.refl _ _ | apply below_alloc), by subst hwr; simp⟩
 have x0 := HX.out.1
 have x1 := HX.out.2.1
 have x2 := HX.out.2.2.1
 have x3 := HX.out.2.2.2
 rw [hwr]
 clear hwr HF
 rename_i Q' K hK
 have KP : Aside0 (∀ V, Below (w.heap.size + 2) wr V → (fun V => V.cell? ⟨w.heap.size, 0, none⟩ = some (.bool f1) ∧ V.cell? ⟨w.heap.size, 1, none⟩ = some (.slice A1 L1 c1) ∧ V.cell? ⟨w.heap.size + 1, 0, none⟩ = some (.bool f2) ∧ V.cell? ⟨w.heap.size + 1, 1, none⟩ = some (.slice A2 L2 c2) ∧ Below (w.heap.size + 2) wr V) V) := ⟨fun V hBB => ⟨keepB hBB (by omega) HX.out.1, keepB hBB (by omega) HX.out.2.1, keepB hBB (by omega) HX.out.2.2.1, keepB hBB (by omega) HX.out.2.2.2, hBB⟩⟩
 refine wq KP fun hHeld => ?_
 refine tp 0 ?_
 try simp only [PU]
 refine tp 1 ?_
 try simp only [PU]
 refine tc 2 fun K hK => ?_
 go_simp
 (go_at_call 78; (with_reducible refine (HN.out _ (HA.out.1.trans (hHeld.2.2.2.2.mono (by omega)))).mono ?_); rintro e wm ⟨k5, c5, rfl, hk5, hm5, hbq⟩; have HO := Aside0.mk ((HO.out.below (below_drew1 (Below.refl _ _))).below hbq); have hm5 := Aside0.mk hm5)
 refine hK.out _ _ ?_ fun hHeld => ?_
 ·(first | exact KP.out _ (bKeep hbq hHeld.2.2.2.2 (by have := HA.out.2; omega)) | (refine KP.out _ ?_; repeat (first | exact hHeld.2.2.2.2 | refine Below.setCell ?_ (by first | (simp; done) | (simp; omega)) _)))
 clear hK K; try simp only [PU]
 refine tc 3 fun K hK => ?_
 go_simp
 (go_at_call 82; (with_reducible refine (HP.out _ _ _ (H1.out _ (HA.out.1.trans (hHeld.2.2.2.2.mono (by omega)))) hm5.out).mono ?_); rintro e wm ⟨A6, k6, c6, rfl, hk6, hm6, hbq⟩; have HO := Aside0.mk (HO.out.below hbq); have hm6 := Aside0.mk hm6; have HK6 := Aside0.mk hk6; have q0 := HO.out.cell0; have q1 := HO.out.cell1; have q4 := HO.out.fr 0; have q5 := HO.out.fr 1)
 refine hK.out _ _ ?_ fun hHeld => ?_
 ·(first | exact KP.out _ (bKeep hbq hHeld.2.2.2.2 (by have := HA.out.2; omega)) | (refine KP.out _ ?_; repeat (first | exact hHeld.2.2.2.2 | refine Below.setCell ?_ (by first | (simp; done) | (simp; omega)) _)))
 clear hK K; try simp only [PU]
 refine tc 4 fun K hK => ?_
 go_simp
 refine hK.out _ _ ?_ fun hHeld => ?_
 ·(first | exact KP.out _ (bKeep hbq hHeld.2.2.2.2 (by have := HA.out.2; omega)) | (refine KP.out _ ?_; repeat (first | exact hHeld.2.2.2.2 | refine Below.setCell ?_ (by first | (simp; done) | (simp; omega)) _)))
 clear hK K; try simp only [PU]
 refine wpAnyH_done (by kernel_rfl) ?_ _
 refine hK _ _ ?_
 go_wp2
 refine bodyPost_ret (v := .agg #[.bool f3, .slice A6 k6 c6]) (by simp [results, Tryz.results84, go_sem, q0, q1]) rfl ⟨A6, k6, c6, rfl, HK6.out, ?_, HA.out.1.trans (hHeld.2.2.2.2.mono (by omega))⟩
 exact (hm6.out.bg HO.out 0 _).bg (HO.out.put0 _) 1 _
theorem cmp_sub (x y : Int) : (x - y = 0 → cmpI x y = 0) ∧ (x - y < 0 → cmpI x y = -1) ∧ (0 < x - y → cmpI x y = 1) := by
 unfold cmpI
 refine ⟨fun h => ?_, fun h => ?_, fun h => ?_⟩
 ·rw [if_neg (by omega), if_neg (by omega)]
 ·rw [if_pos (by omega)]
 ·rw [if_neg (by omega), if_pos (by omega)]
theorem rOrder_calls {w : World} {A1 A2 : Option Addr} {L1 L2 c1 c2 : Nat} {x y : Int} (h1 : RM w A1 L1 x.natAbs) (h2 : RM w A2 L2 y.natAbs) (hc2 : L2 ≤ c2) (hL1 : L1 ≤ 100000) (hL2 : L2 ≤ 100000) :
 Calls Tryz.prog 73 #[rV A1 L1 c1 x, rV A2 L2 c2 y] w fun e w' => e = .returned (.int .i64 (cmpI x y)) ∧ Below w.heap.size w w' := by
 have HM : Aside0 (∀ W, Below w.heap.size w W → Calls Tryz.prog 84 #[rV A1 L1 c1 x, rV A2 L2 c2 y] W fun e w' => RX W (x - y) e w') := ⟨fun W hb => rMinus_calls (h1.below hb) (h2.below hb) hc2 hL1 hL2⟩
 have HC := Aside0.mk (cmp_sub x y)
 unfold RX at *
 unfold rV at *
 generalize decide (x < 0) = f1 at *
 generalize decide (y < 0) = f2 at *
 generalize cmpI x y = q at *
 generalize x - y = z at *
 clear h1 h2 hc2 hL1 hL2
 rcases Int.lt_trichotomy z 0 with hz | hz | hz
 ·have hd : decide (z < 0) = true := decide_eq_true hz
  rw [HC.out.2.1 hz]
  rw [hd] at HM
  have HB := Aside0.mk (Below.refl w.heap.size w)
  go_enter Tryz.func73, Tryz.ntmps73
  go_wp2_with (go_at_call 84; (with_reducible refine (HM.out _ bl).mono ?_); rintro e wm ⟨A6, k6, c6, rfl, hk6, hm6, hb6⟩; have g : ((k6 : Int) == 0) = false := (by have := hm6.len_zero; simp; omega); have HL : Aside0 (Below w.heap.size w wm) := sb hb6; clear HB; have HB := HL; clear HL hm6 hb6)
  go_ret
  exact ⟨rfl, by repeat (first | exact HB.out | apply below_alloc)⟩
 ·have hd : decide (z < 0) = false := decide_eq_false (by omega)
  rw [HC.out.1 hz]
  rw [hd] at HM
  have HB := Aside0.mk (Below.refl w.heap.size w)
  go_enter Tryz.func73, Tryz.ntmps73
  go_wp2_with (go_at_call 84; (with_reducible refine (HM.out _ bl).mono ?_); rintro e wm ⟨A6, k6, c6, rfl, hk6, hm6, hb6⟩; have g : ((k6 : Int) == 0) = true := (by have := hm6.len_zero; simp; omega); have HL : Aside0 (Below w.heap.size w wm) := sb hb6; clear HB; have HB := HL; clear HL hm6 hb6)
  go_ret
  exact ⟨rfl, by repeat (first | exact HB.out | apply below_alloc)⟩
 ·have hd : decide (z < 0) = false := decide_eq_false (by omega)
  rw [HC.out.2.2 hz]
  rw [hd] at HM
  have HB := Aside0.mk (Below.refl w.heap.size w)
  go_enter Tryz.func73, Tryz.ntmps73
  go_wp2_with (go_at_call 84; (with_reducible refine (HM.out _ bl).mono ?_); rintro e wm ⟨A6, k6, c6, rfl, hk6, hm6, hb6⟩; have g : ((k6 : Int) == 0) = false := (by have := hm6.len_zero; simp; omega); have HL : Aside0 (Below w.heap.size w wm) := sb hb6; clear HB; have HB := HL; clear HL hm6 hb6)
  go_ret
  exact ⟨rfl, by repeat (first | exact HB.out | apply below_alloc)⟩
theorem BG.other {W : World} {b b' : Nat} {f : Bool} {A : Option Addr} {L c : Nat} (h : BG W b f A L c) (hne : b ≠ b') (o : Nat) (u : Value) : BG (W.setCell ⟨b', o, none⟩ u) b f A L c := by
 unfold BG at *
 rw [Below.heap_setCell _ _ _ _ hne]
 exact h
theorem BG.low {W X : World} {b B : Nat} {f : Bool} {A : Option Addr} {L c : Nat} (h : BG W b f A L c) (hl : b < B) (hb : Below B W X) : BG X b f A L c := (hb.block b hl).trans h
theorem rSmall_calls {w : World} {n : Int} (h1 : -9223372036854775808 ≤ n) (h2 : n ≤ 9223372036854775807) :
 Calls Tryz.prog 70 #[.int .i64 n] w fun e w' => RX w n e w' := by
 go_enter Tryz.func70, Tryz.ntmps70
 go_wp2_with fail
 have HG : Aside0 (BG ((w.alloc (.cells #[.bool false, .slice none 0 0] 77)).alloc (.cells #[.bool (decide (n < 0)), .slice none 0 0] 77)) (w.heap.size + 1) (decide (n < 0)) none 0 0 ∧ BG ((w.alloc (.cells #[.bool false, .slice none 0 0] 77)).alloc (.cells #[.bool (decide (n < 0)), .slice none 0 0] 77)) w.heap.size false none 0 0) := ⟨by
  refine ⟨?_, (BG.new w _ _ _ _).alloc _⟩
  have h := BG.new (w.alloc (.cells #[.bool false, .slice none 0 0] 77)) (decide (n < 0)) none 0 0
  simpa using h⟩
 go_loopw [0] (fun v0 W => ∃ (k : Int) (out : List Nat) (A : Option Addr) (c : Nat), v0 = .int .i64 k ∧ Aside0 (-9223372036854775808 ≤ k ∧ k ≤ 9223372036854775807 ∧ (k < 0 → n < 0) ∧ (0 < k → ¬ n < 0) ∧ dg QQ n.natAbs = out ++ dg QQ k.natAbs ∧ (dg QQ n.natAbs).length ≤ 5) ∧ Aside0 (BG W (w.heap.size + 1) (decide (n < 0)) A out.length c ∧ BG W w.heap.size false none 0 0 ∧ Kd.R (Kd.int .i64) 3 W (w.heap.size + 2) (fun _ => True) (.slice A out.length c) (li out)) ∧ Aside0 (Below w.heap.size w W ∧ w.heap.size + 2 ≤ W.heap.size)) (fun v0 _ => (intOf v0).natAbs)
 case atStart => exact ⟨n, [], none, 0, rfl, ⟨h1, h2, id, fun h => by omega, rfl, dg_length QQ1 _ _ (by show n.natAbs < 10000 ^ 5; omega)⟩, ⟨HG.out.1, HG.out.2, Kd.R_nil _ _ _ _ _⟩, ⟨by repeat (first | exact Below.refl _ _ | apply below_alloc), by simp⟩⟩
 case round =>
  obtain ⟨k, out, A, c, rfl, HK, HM, HB⟩ := hrel
  have x0 := HM.out.1.cell0
  have x1 := HM.out.1.cell1
  have x4 := HM.out.1.fr 1
  have HLT := Aside0.mk HM.out.1.lt
  have hlt := HM.out.1.lt
  by_cases hk : k = 0
  ·subst hk
   have hK := HK.out
   have e0 : dg QQ n.natAbs = out := by rw [hK.2.2.2.2.1, show (0 : Int).natAbs = 0 from rfl, dg_zero, List.append_nil]
   have g1 : ((0 : Int) != 0) = false := by decide
   have HR : Aside0 (RM wr A out.length n.natAbs ∧ out.length ≤ c) := ⟨by
    have h := Kd.R_reads' HM.out.2.2
    rw [li_len] at h
    exact ⟨by unfold RM RL; rw [e0]; exact h.2.2, h.2.1⟩⟩
   have z0 := HM.out.2.1.cell0
   have z1 := HM.out.2.1.cell1
   have z2 := HM.out.2.1.fr 0
   have z3 := HM.out.2.1.fr 1
   clear hK e0
   go_wp2
   refine bodyPost_ret (v := .agg #[.bool (decide (n < 0)), .slice A out.length c]) (by simp [results, Tryz.results70, go_sem, z0, z1]) rfl ⟨A, out.length, c, rfl, HR.out.2, (HR.out.1.bg HM.out.2.1 0 _).bg (HM.out.2.1.put0 _) 1 _, ?_⟩
   exact ((HB.out.1.setCell (p := ⟨w.heap.size, 0, none⟩) (by simp) _).setCell (p := ⟨w.heap.size, 1, none⟩) (by simp) _)
  ·rcases Int.lt_or_lt_of_ne hk with hk | hk
   ·obtain ⟨a, rfl⟩ : ∃ a : Nat, k = -(a : Int) := ⟨(-k).toNat, by omega⟩
    have g1 : (-(a : Int) != 0) = true := by simp; omega
    have HA : Aside0 (0 < a ∧ dg QQ (-(a : Int)).natAbs = a % 10000 :: dg QQ (a / 10000)) := ⟨by omega, by rw [Int.natAbs_neg]; exact dg_pos QQ1 (by show 0 < a; omega)⟩
    have hout : out.length ≤ 5 := by have h3 := HK.out.2.2.2.2; have h4 := congrArg List.length h3.1; rw [List.length_append] at h4; omega
    have e1 : wrap64 (-((a : Int) / 10000)) = -((a / 10000 : Nat) : Int) := by
     have h := IntWalk.i64_in (-((a : Int) / 10000)) (by have := HK.out; omega)
     rw [i64_w] at h
     rw [h]
     omega
    clear hk
    by_cases hr : a % 10000 = 0
    ·have g2 : decide (-((a : Int) % 10000) < 0) = false := decide_eq_false (by omega)
     have g3 : decide (0 < (a : Int) % 10000) = false := decide_eq_false (by omega)
     have g4 : decide (0 < a % 10000) = false := decide_eq_false (by omega)
     have HR := Aside0.mk hr
     clear hr
     go_wp2_with (first | ((with_reducible refine gate_builtin (b := .append) (xs := #[.tmp 17, .tmp 19]) rfl ?_); at_builtin; (refine Kd.R_append (Kd.int .i64) (w0 := wr) (w.heap.size + 2) rfl (.tmp 17) (.tmp 19) 75 3 (.int .i64 0) 8 rfl Tryz.underlying75 rinfo rfl (by decide) (by omega) (.slice A out.length c) (li out) ((-((a : Int) % 10000))) [.int .i64 ((-((a : Int) % 10000)))] (fun _ => True) (fun _ => False) rfl rfl ?aP (fun _ hk => hk.elim) ?aF ?aO ?aB ?aS ?aL ?_; (case aP => exact rfl); (case aB => exact Below.refl _ _); (case aF => exact (fun _ _ => trivial)); (case aO => exact HM.out.2.2); (case aS => exact HB.out.2); (case aL => rw [li_len]; omega); intro v38 w8 ho hb hg hat; obtain ⟨A2, c2, e2⟩ := Kd.R_slice ho; subst e2; have HO2 := Aside0.mk ho; have HB2 := Aside0.mk hb; have HG8 := Aside0.mk (BG.low HM.out.1 (by omega) hb); have HG0 := Aside0.mk (BG.low HM.out.2.1 (by omega) hb); have y1 := HG8.out.cell1; have y2 := HG8.out.fr 1; clear ho hb hg hat)))
     go_roundw
     case rel =>
      have hK := HK.out
      have hP : ((a % 10000 : Nat) : Int) = (-((a : Int) % 10000)) := by (try have := HR.out); omega
      refine ⟨-((a / 10000 : Nat) : Int), out ++ [a % 10000], A2, c2, congrArg (Value.int .i64) e1, ⟨by have := hK.1; omega, by omega, fun _ => hK.2.2.1 (by have := HA.out.1; omega), fun h => by omega, ?_, hK.2.2.2.2.2⟩, ⟨?_, HG0.out.other (by omega) _ _, ?_⟩, ⟨?_, ?_⟩⟩
      ·rw [hK.2.2.2.2.1, HA.out.2, List.append_assoc, show (-((a / 10000 : Nat) : Int)).natAbs = a / 10000 by omega]; rfl
      ·have h := HG8.out.put1 A2 ((li out).length + 1) c2
       rw [show (out ++ [a % 10000]).length = (li out).length + 1 by rw [li_len]; simp]
       exact h
      ·have h := Kd.R_set HO2.out HG8.out (by decide) 1 (.slice A2 ((li out).length + 1) c2)
       rw [show (out ++ [a % 10000]).length = (li out ++ [(-((a : Int) % 10000))]).length by rw [List.length_append, List.length_append, li_len]; rfl, li_snoc, hP]
       exact h
      ·exact (HB.out.1.trans (HB2.out.mono (by omega))).setCell (p := ⟨w.heap.size + 1, 1, none⟩) (by simp) _
      ·have := HB2.out.size; have := HB.out.2; simp; omega
     case measure =>
      rw [e1]
      have := HA.out.1
      simp only [intOf]
      omega
    ·have g2 : decide (-((a : Int) % 10000) < 0) = true := decide_eq_true (by omega)
     have g3 : decide (0 < (a : Int) % 10000) = true := decide_eq_true (by omega)
     have g4 : decide (0 < a % 10000) = true := decide_eq_true (by omega)
     have HR := Aside0.mk hr
     clear hr
     go_wp2_with (first | ((with_reducible refine gate_builtin (b := .append) (xs := #[.tmp 17, .tmp 19]) rfl ?_); at_builtin; (refine Kd.R_append (Kd.int .i64) (w0 := wr) (w.heap.size + 2) rfl (.tmp 17) (.tmp 19) 75 3 (.int .i64 0) 8 rfl Tryz.underlying75 rinfo rfl (by decide) (by omega) (.slice A out.length c) (li out) (((a : Int) % 10000)) [.int .i64 (((a : Int) % 10000))] (fun _ => True) (fun _ => False) rfl rfl ?aP (fun _ hk => hk.elim) ?aF ?aO ?aB ?aS ?aL ?_; (case aP => exact rfl); (case aB => exact Below.refl _ _); (case aF => exact (fun _ _ => trivial)); (case aO => exact HM.out.2.2); (case aS => exact HB.out.2); (case aL => rw [li_len]; omega); intro v38 w8 ho hb hg hat; obtain ⟨A2, c2, e2⟩ := Kd.R_slice ho; subst e2; have HO2 := Aside0.mk ho; have HB2 := Aside0.mk hb; have HG8 := Aside0.mk (BG.low HM.out.1 (by omega) hb); have HG0 := Aside0.mk (BG.low HM.out.2.1 (by omega) hb); have y1 := HG8.out.cell1; have y2 := HG8.out.fr 1; clear ho hb hg hat)))
     go_roundw
     case rel =>
      have hK := HK.out
      have hP : ((a % 10000 : Nat) : Int) = ((a : Int) % 10000) := by (try have := HR.out); omega
      refine ⟨-((a / 10000 : Nat) : Int), out ++ [a % 10000], A2, c2, congrArg (Value.int .i64) e1, ⟨by have := hK.1; omega, by omega, fun _ => hK.2.2.1 (by have := HA.out.1; omega), fun h => by omega, ?_, hK.2.2.2.2.2⟩, ⟨?_, HG0.out.other (by omega) _ _, ?_⟩, ⟨?_, ?_⟩⟩
      ·rw [hK.2.2.2.2.1, HA.out.2, List.append_assoc, show (-((a / 10000 : Nat) : Int)).natAbs = a / 10000 by omega]; rfl
      ·have h := HG8.out.put1 A2 ((li out).length + 1) c2
       rw [show (out ++ [a % 10000]).length = (li out).length + 1 by rw [li_len]; simp]
       exact h
      ·have h := Kd.R_set HO2.out HG8.out (by decide) 1 (.slice A2 ((li out).length + 1) c2)
       rw [show (out ++ [a % 10000]).length = (li out ++ [((a : Int) % 10000)]).length by rw [List.length_append, List.length_append, li_len]; rfl, li_snoc, hP]
       exact h
      ·exact (HB.out.1.trans (HB2.out.mono (by omega))).setCell (p := ⟨w.heap.size + 1, 1, none⟩) (by simp) _
      ·have := HB2.out.size; have := HB.out.2; simp; omega
     case measure =>
      rw [e1]
      have := HA.out.1
      simp only [intOf]
      omega
   ·obtain ⟨a, rfl⟩ : ∃ a : Nat, k = (a : Int) := ⟨k.toNat, by omega⟩
    have g1 : ((a : Int) != 0) = true := by simp; omega
    have HA : Aside0 (0 < a ∧ dg QQ (a : Int).natAbs = a % 10000 :: dg QQ (a / 10000)) := ⟨by omega, dg_pos QQ1 (by omega)⟩
    have hout : out.length ≤ 5 := by have h3 := HK.out.2.2.2.2; have h4 := congrArg List.length h3.1; rw [List.length_append] at h4; omega
    have g2 : decide ((a : Int) % 10000 < 0) = false := decide_eq_false (by omega)
    clear hk
    have e1 : wrap64 ((a : Int) / 10000) = ((a / 10000 : Nat) : Int) := by
     have h := IntWalk.i64_in ((a : Int) / 10000) (by have := HK.out; omega)
     first | (rw [i64_w] at h; rw [h]; omega) | (show IntKind.i64.wrap _ = _; rw [h]; omega)
    go_wp2_with (first | ((with_reducible refine gate_builtin (b := .append) (xs := #[.tmp 17, .tmp 19]) rfl ?_); at_builtin; (refine Kd.R_append (Kd.int .i64) (w0 := wr) (w.heap.size + 2) rfl (.tmp 17) (.tmp 19) 75 3 (.int .i64 0) 8 rfl Tryz.underlying75 rinfo rfl (by decide) (by omega) (.slice A out.length c) (li out) (((a : Int) % 10000)) [.int .i64 (((a : Int) % 10000))] (fun _ => True) (fun _ => False) rfl rfl ?aP (fun _ hk => hk.elim) ?aF ?aO ?aB ?aS ?aL ?_; (case aP => exact rfl); (case aB => exact Below.refl _ _); (case aF => exact (fun _ _ => trivial)); (case aO => exact HM.out.2.2); (case aS => exact HB.out.2); (case aL => rw [li_len]; omega); intro v38 w8 ho hb hg hat; obtain ⟨A2, c2, e2⟩ := Kd.R_slice ho; subst e2; have HO2 := Aside0.mk ho; have HB2 := Aside0.mk hb; have HG8 := Aside0.mk (BG.low HM.out.1 (by omega) hb); have HG0 := Aside0.mk (BG.low HM.out.2.1 (by omega) hb); have y1 := HG8.out.cell1; have y2 := HG8.out.fr 1; clear ho hb hg hat)))
    go_roundw
    case rel =>
     have hK := HK.out
     have hP : ((a % 10000 : Nat) : Int) = ((a : Int) % 10000) := by (try have := HR.out); omega
     refine ⟨((a / 10000 : Nat) : Int), out ++ [a % 10000], A2, c2, congrArg (Value.int .i64) e1, ⟨by omega, by omega, by omega, fun h => hK.2.2.2.1 (by omega), ?_, hK.2.2.2.2.2⟩, ⟨?_, HG0.out.other (by omega) _ _, ?_⟩, ⟨?_, ?_⟩⟩
     ·rw [hK.2.2.2.2.1, HA.out.2, List.append_assoc, show (((a / 10000 : Nat) : Int)).natAbs = a / 10000 by omega]; rfl
     ·have h := HG8.out.put1 A2 ((li out).length + 1) c2
      rw [show (out ++ [a % 10000]).length = (li out).length + 1 by rw [li_len]; simp]
      exact h
     ·have h := Kd.R_set HO2.out HG8.out (by decide) 1 (.slice A2 ((li out).length + 1) c2)
      rw [show (out ++ [a % 10000]).length = (li out ++ [((a : Int) % 10000)]).length by rw [List.length_append, List.length_append, li_len]; rfl, li_snoc, hP]
      exact h
     ·exact (HB.out.1.trans (HB2.out.mono (by omega))).setCell (p := ⟨w.heap.size + 1, 1, none⟩) (by simp) _
     ·have := HB2.out.size; have := HB.out.2; simp; omega
    case measure =>
     rw [e1]
     have := HA.out.1
     simp only [intOf]
     omega
/-- A block that is just these limbs. -/
def RowI (w : World) (g : Nat) (xs : List Nat) : Prop := w.heap[g]? = some (.cells (xs.map fun d : Nat => Value.int .i64 (d : Int)).toArray 3 (0, 0))
section
variable {w w' : World} {g : Nat} {xs : List Nat}
theorem RowI.lt (h : RowI w g xs) : g < w.heap.size := (Array.getElem?_eq_some_iff.1 h).1
theorem RowI.cell (h : RowI w g xs) {j : Nat} (hj : j < xs.length) : w.cell? ⟨g, j, none⟩ = some (.int .i64 (xs.getD j 0 : Nat)) := by
 rw [cell_of_row w g j _ _ (0, 0) h]
 simp [hj, List.getD_eq_getElem?_getD]
theorem RowI.frozen (h : RowI w g xs) (j : Nat) : w.frozen? ⟨g, j, none⟩ = false := by
 unfold RowI at h
 simp [World.frozen?, h]
theorem RowI.keep (h : RowI w g xs) (hb : Below w.heap.size w w') : RowI w' g xs := (hb.block g h.lt).trans h
theorem RowI.set (h : RowI w g xs) (j d : Nat) : RowI (w.setCell ⟨g, j, none⟩ (.int .i64 (d : Int))) g (xs.set j d) := by
 unfold RowI at h ⊢
 simp [World.setCell, Array.getElem?_modify, h]
theorem RowI.rl (h : RowI w g xs) (hl : xs.length ≤ 1000000) : RL w (some ⟨g, 0, none⟩) xs.length xs := by
 refine Kd.C_of_reads (enc := Value.int .i64) (d := (0 : Int)) (h1 := fun _ => rfl) ⟨li_len xs, by omega, fun _ => ⟨⟨g, 0, none⟩, rfl, fun j hj => ?_⟩⟩
 have hadd : (⟨g, 0, none⟩ : Addr).add j = ⟨g, j, none⟩ := by unfold Addr.add; split <;> simp_all
 rw [hadd, h.cell hj]
 have e := rd_li xs j
 unfold rd at e
 rw [Int.toNat_natCast] at e
 rw [e]
end
/-- make([]int, n): a block of zeros. -/
def zerosI (N : Nat) : Obj := .cells ((List.replicate N 0).map fun d : Nat => Value.int .i64 (d : Int)).toArray 3
theorem make_int (l : Int) (N : Nat) (hl : l = N) (hN : N ≤ 1000000) (W : World) :
 (Instr.makeSlice 75 (.int .i64 l) (.int .i64 l)).run Tryz.prog W = .ok (.slice (some ⟨W.heap.size, 0, none⟩) N N) (W.alloc (zerosI N)) := by
 subst hl
 obtain ⟨i0, hi0, hz0, hz1, hz2⟩ := info_parts rinfo
 have h := run_make (P := Tryz.prog) W 75 3 i0 _ Tryz.underlying75 hi0 hz0 .i64 .i64 N N (by omega) (by omega) (by rw [hz2]; omega) (by omega)
 rw [hz1, Int.toNat_natCast, Nat.mul_one] at h
 rw [h]
 have e : madeCells (Value.int .i64 0).cells N = ((List.replicate N 0).map fun d : Nat => Value.int .i64 (d : Int)).toArray := by
  apply Array.toList_inj.1
  have := toList_madeCells_one (.int .i64 0) N
  rw [show (Value.int .i64 0).cells = #[Value.int .i64 0] from rfl, this]
  simp
 rw [e]; rfl
theorem rowI_zeros (W : World) (N : Nat) : RowI (W.alloc (zerosI N)) W.heap.size (List.replicate N 0) := heap_alloc_new W _
theorem rlimb_b {w W : World} {A : Option Addr} {L c n x : Nat} (h : RM w A L n) (hb : Below w.heap.size w W) (i : Nat) (hx : n / QQ ^ i % QQ = x) :
 Calls Tryz.prog 150 #[.slice A L c, .int .i64 (i : Int)] W fun e w' => e = .returned (.int .i64 (x : Int)) ∧ Below W.heap.size W w' := by
 subst hx
 exact (rlimb_calls (h.below hb) i).mono fun e w' h => ⟨h.1, by rw [h.2]; exact Below.refl _ _⟩
theorem rTimes_abs {w : World} {A1 A2 : Option Addr} {L1 L2 c1 c2 m n : Nat} {f1 f2 : Bool} (h1 : RM w A1 L1 m) (h2 : RM w A2 L2 n) (hL : L1 + L2 ≤ 90000) :
 Calls Tryz.prog 86 #[.agg #[.bool f1, .slice A1 L1 c1], .agg #[.bool f2, .slice A2 L2 c2]] w fun e w' => ∃ A k c, e = .returned (.agg #[.bool ((f1 != f2) && decide (m * n ≠ 0)), .slice A k c]) ∧ k ≤ c ∧ RM w' A k (m * n) ∧ Below w.heap.size w w' := by
 have H1 : Aside0 (RM w A1 L1 m) := ⟨h1⟩
 have H2 : Aside0 (RM w A2 L2 n) := ⟨h2⟩
 clear h1 h2
 have hmk := make_int ((L1 : Int) + L2 + 1) (L1 + L2 + 1) (by omega) (by omega)
 go_enter Tryz.func86, Tryz.ntmps86
 go_wp2_with fail
 obtain ⟨wa, hwa⟩ : ∃ wa, ((((w.alloc (.cells #[.bool f1, .slice A1 L1 c1] 77)).alloc (.cells #[.bool f2, .slice A2 L2 c2] 77)).alloc (.cells #[.bool false, .slice none 0 0] 77)).alloc (zerosI (L1 + L2 + 1))) = wa := ⟨_, rfl⟩
 have hx0 : wa.heap.size = w.heap.size + 4 := by subst hwa; simp
 have hgo : RowI wa (w.heap.size + 3) (List.replicate (L1 + L2 + 1) 0) := by
  subst hwa
  have := rowI_zeros (((w.alloc (.cells #[.bool f1, .slice A1 L1 c1] 77)).alloc (.cells #[.bool f2, .slice A2 L2 c2] 77)).alloc (.cells #[.bool false, .slice none 0 0] 77)) (L1 + L2 + 1)
  simpa using this
 have hbg : BG wa w.heap.size f1 A1 L1 c1 ∧ BG wa (w.heap.size + 1) f2 A2 L2 c2 ∧ BG wa (w.heap.size + 2) false none 0 0 := by
  subst hwa
  refine ⟨(((BG.new w _ _ _ _).alloc _).alloc _).alloc _, BG.alloc (BG.alloc ?_ _) _, BG.alloc ?_ _⟩
  ·have h := BG.new (w.alloc (.cells #[.bool f1, .slice A1 L1 c1] 77)) f2 A2 L2 c2
   simpa using h
  ·have h := BG.new ((w.alloc (.cells #[.bool f1, .slice A1 L1 c1] 77)).alloc (.cells #[.bool f2, .slice A2 L2 c2] 77)) false none 0 0
   simpa using h
 have hbe : Below w.heap.size w wa := by subst hwa; repeat (first | exact Below.refl _ _ | apply below_alloc)
 rw [hwa]
 have HX0 := Aside0.mk hx0
 have HX := Aside0.mk hbg
 have HA := Aside0.mk hbe
 have HG := Aside0.mk hgo
 clear hgo hwa hmk hbg hbe hx0
 go_loopw [6] (fun v6 W => ∃ i : Nat, v6 = .int .i64 (i : Int) ∧ i ≤ L1 ∧ Aside0 (∃ xs, xs.length = L1 + L2 + 1 ∧ (∀ d ∈ xs, d < QQ) ∧ val QQ xs = m % QQ ^ i * n ∧ RowI W (w.heap.size + 3) xs) ∧ Aside0 (Below (w.heap.size + 3) wa W)) (fun v6 _ => L1 - (intOf v6).toNat)
 case atStart => exact ⟨0, rfl, by omega, ⟨_, by simp, by intro d hd; rw [List.eq_of_mem_replicate hd]; decide, by rw [val_zeros]; simp [Nat.mod_one], HG.out⟩, ⟨Below.refl _ _⟩⟩
 case round =>
  obtain ⟨i, rfl, hi, hout, hbr⟩ := hrel
  have qa : wr.cell? ⟨w.heap.size, 1, none⟩ = some (.slice A1 L1 c1) := (hbr.out.cell (p := ⟨w.heap.size, 1, none⟩) (by simp)).trans HX.out.1.cell1
  by_cases hlt : i < L1
  ·have HW : Aside0 (Below w.heap.size w wr) := ⟨HA.out.trans (hbr.out.mono (by omega))⟩
   have hi0 : (i : Int) < (L1 : Int) := by omega
   go_wp2_with fail
   clear qa
   go_loopw [7, 8] (fun v7 v8 W => ∃ k c : Nat, v7 = .int .i64 (c : Int) ∧ v8 = .int .i64 (k : Int) ∧ k ≤ L2 + 1 ∧ c < 10000 ∧ Aside0 (∃ xs, xs.length = L1 + L2 + 1 ∧ (∀ d ∈ xs, d < QQ) ∧ val QQ xs + QQ ^ (i + k) * c = m % QQ ^ i * n + QQ ^ i * (m / QQ ^ i % QQ * (n % QQ ^ k)) ∧ RowI W (w.heap.size + 3) xs) ∧ Aside0 (Below (w.heap.size + 3) wa W)) (fun _ v8 _ => L2 + 1 - (intOf v8).toNat)
   case atStart =>
    obtain ⟨xs, o1, o2, o3, o4⟩ := hout.out
    exact ⟨0, 0, rfl, rfl, by omega, by omega, ⟨xs, o1, o2, by rw [o3]; simp [Nat.mod_one], o4⟩, hbr⟩
   case round =>
    clear hout hbr HW
    obtain ⟨k, c, rfl, rfl, hk, hc1, hout, hbr⟩ := hrel
    have q2 : wr.cell? ⟨w.heap.size + 1, 1, none⟩ = some (.slice A2 L2 c2) := (hbr.out.cell (p := ⟨w.heap.size + 1, 1, none⟩) (by simp)).trans HX.out.2.1.cell1
    have HEND : Aside0 ((¬ k < L2 ∧ ¬ 0 < c) ∨ k = L2 + 1 → c = 0 ∧ ∃ xs, xs.length = L1 + L2 + 1 ∧ (∀ d ∈ xs, d < QQ) ∧ val QQ xs = m % QQ ^ (i + 1) * n ∧ RowI wr (w.heap.size + 3) xs) := ⟨fun h => by
     obtain ⟨xs, o1, o2, o3, o4⟩ := hout.out
     have hn := dg_lt_pow QQ1 n
     rw [H2.out.len] at hn
     by_cases hk2 : k = L2 + 1
     ·subst hk2
      have := row_end QQ1 (lo := L2) hn o3
      exact ⟨this.1, xs, o1, o2, this.2, o4⟩
     ·have hc0 : c = 0 := by omega
      subst hc0
      refine ⟨rfl, xs, o1, o2, ?_, o4⟩
      rw [Nat.mod_eq_of_lt (Nat.lt_of_lt_of_le hn (Nat.pow_le_pow_right (by decide) (by omega))), Nat.mul_zero, Nat.add_zero] at o3
      rw [o3, mod_pow_succ', Nat.add_mul, Nat.mul_assoc]⟩
    by_cases hgo : k < L2 ∨ (0 < c ∧ k < L2 + 1)
    ·obtain ⟨xs, o1, o2, o3, o4⟩ := hout.out
     obtain ⟨x, hx⟩ : ∃ x, n / QQ ^ k % QQ = x := ⟨_, rfl⟩
     have hx1 : x < 10000 := by rw [← hx]; exact Nat.mod_lt _ (by decide)
     obtain ⟨a, ha⟩ : ∃ a, m / QQ ^ i % QQ = a := ⟨_, rfl⟩
     have ha1 : a < 10000 := by rw [← ha]; exact Nat.mod_lt _ (by decide)
     rw [ha] at o3
     obtain ⟨d, hd⟩ : ∃ d, xs.getD (i + k) 0 = d := ⟨_, rfl⟩
     have hd1 : d < 10000 := by
      rw [← hd, getD_lt (by omega)]
      exact o2 _ (List.getElem_mem _)
     have HWr : Below w.heap.size w wr := HA.out.trans (hbr.out.mono (by omega))
     obtain ⟨ad, hA1, hc⟩ := (H1.out.below HWr).at hlt
     rw [ha] at hc
     have q0 : wr.cell? ⟨w.heap.size + 1 + 1 + 1, i + k, none⟩ = some (.int .i64 (d : Int)) := by rw [← hd]; exact o4.cell (by omega)
     have q1 : wr.cell? ⟨w.heap.size, 1, none⟩ = some (.slice A1 L1 c1) := (hbr.out.cell (p := ⟨w.heap.size, 1, none⟩) (by simp)).trans HX.out.1.cell1
     have HXD : Aside0 (n / QQ ^ k % QQ = x ∧ xs.getD (i + k) 0 = d ∧ m / QQ ^ i % QQ = a) := ⟨hx, hd, ha⟩
     have HO : Aside0 (xs.length = L1 + L2 + 1 ∧ (∀ d ∈ xs, d < QQ) ∧ val QQ xs + QQ ^ (i + k) * c = m % QQ ^ i * n + QQ ^ i * (a * (n % QQ ^ k))) := ⟨o1, o2, o3⟩
     have HR : Aside0 (RowI wr (w.heap.size + 3) xs) := ⟨o4⟩
     have HW : Aside0 (Below w.heap.size w wr) := ⟨HWr⟩
     clear hx hd ha o1 o2 o3 o4 hout HWr HEND
     subst hA1
     have hm1 : d + a * x + c < 10000 * 10000 := row_small hd1 ha1 hx1 hc1
     have hax : (a : Int) * (x : Int) = ((a * x : Nat) : Int) := by simp
     have s1 : IntKind.i64.wrap ((i : Int) + (k : Int)) = (i : Int) + (k : Int) := IntWalk.i64_in _ (by omega)
     have s2 : (0 : Int) ≤ (i : Int) + (k : Int) := by omega
     have s3 : ((i : Int) + (k : Int)).toNat = i + k := by omega
     have s4 : (i : Int) + (k : Int) < (L1 : Int) + (L2 : Int) + 1 := by omega
     have p1 : IntKind.i64.wrap ((a : Int) * (x : Int)) = (a : Int) * (x : Int) := IntWalk.i64_in _ (by rw [hax]; omega)
     have p2 : IntKind.i64.wrap ((d : Int) + (a : Int) * (x : Int)) = (d : Int) + (a : Int) * (x : Int) := IntWalk.i64_in _ (by rw [hax]; omega)
     have p3 : IntKind.i64.wrap ((d : Int) + (a : Int) * (x : Int) + (c : Int)) = (d : Int) + (a : Int) * (x : Int) + (c : Int) := IntWalk.i64_in _ (by rw [hax]; omega)
     have HM : Aside0 (d + a * x + c < 10000 * 10000) := ⟨hm1⟩
     have tb : Below wr.heap.size wr wr.drew := below_drew1 (Below.refl _ _)
     clear hm1 hax
     by_cases hkl : k < L2
     ·have hkl' : (k : Int) < (L2 : Int) := by omega
      go_wp2_with fail
      go_region_held3 (fun W => W.cell? ⟨w.heap.size + 1 + 1 + 1, i + k, none⟩ = some (.int .i64 (d : Int)) ∧ W.cell? (ad.add i) = some (.int .i64 (a : Int)) ∧ W.cell? ⟨w.heap.size, 1, none⟩ = some (.slice (some ad) L1 c1) ∧ W.cell? ⟨w.heap.size + 1, 1, none⟩ = some (.slice A2 L2 c2) ∧ Below wr.heap.size wr W)
       (first
         | go_keep
         | (go_split_ands
            have hBB := bJoin (w1 := wr) hbq (by first | assumption | exact (‹_ ∧ _ ∧ _ ∧ _ ∧ Below wr.heap.size wr _›).2.2.2.2)
            exact ⟨keepB2 hBB q0, keepB2 hBB hc, keepB2 hBB q1, keepB2 hBB q2, hBB⟩))
       (first
         | (go_at_call 150; (with_reducible refine (rlimb_b H2.out (below_step HW.out (by first | assumption | exact (‹_ ∧ _ ∧ _ ∧ _ ∧ Below wr.heap.size wr _›).2.2.2.2)) k HXD.out.1).mono ?_); rintro e wq ⟨rfl, hbq⟩))
      have tq : Below wr.heap.size wr wq := (‹_ ∧ _ ∧ _ ∧ _ ∧ Below wr.heap.size wr wq›).2.2.2.2
      have hRq : RowI wq (w.heap.size + 3) xs := HR.out.keep tq
      have r0 : wq.cell? ⟨w.heap.size + 1 + 1 + 1, i + k, none⟩ = some (.int .i64 (d : Int)) := (‹_ ∧ _ ∧ _ ∧ _ ∧ Below wr.heap.size wr wq›).1
      have r1 : wq.frozen? ⟨w.heap.size + 1 + 1 + 1, i + k, none⟩ = false := hRq.frozen _
      have HRq := Aside0.mk hRq
      have HBq : Aside0 (Below (w.heap.size + 3) wa wq) := ⟨hbr.out.trans (tq.mono (by have := HR.out.lt; omega))⟩
      obtain ⟨N, hN⟩ : ∃ N, d + a * x + c = N := ⟨_, rfl⟩
      have hNi : (d : Int) + (a : Int) * (x : Int) + (c : Int) = (N : Int) := by rw [← hN]; simp
      have hN1 : N < 10000 * 10000 := by rw [← hN]; exact HM.out
      rw [hNi]
      have HN : Aside0 (d + a * x + c = N) := ⟨hN⟩
      clear hRq tb tq hbq q0 q1 q2 hc p1 p2 p3 hNi hN hbr
      go_wp2_with fail
      go_roundw
      case rel =>
       have eN : ((N : Int) % 10000) = ((N % QQ : Nat) : Int) := by unfold QQ; omega
       rw [eN]
       refine ⟨k + 1, N / QQ, congrArg (Value.int .i64) (by unfold QQ; omega), by go_num, by omega, by unfold QQ; omega, ⟨xs.set (i + k) (N % QQ), by rw [List.length_set]; exact HO.out.1, ?_, ?_, HRq.out.set _ _⟩, ⟨HBq.out.setCell (by simp) _⟩⟩
       ·intro d' hd'
        rcases List.mem_or_eq_of_mem_set hd' with h | h
        ·exact HO.out.2.1 d' h
        ·rw [h]; exact Nat.mod_lt _ (by decide)
       ·rw [HXD.out.2.2]
        exact row_step (by rw [HO.out.1]; omega) HO.out.2.2 (by rw [HXD.out.1, HXD.out.2.1, HN.out])
      case measure => simp [intOf]; omega
     ·have hkl' : ¬ (k : Int) < (L2 : Int) := by omega
      have hc0 : (0 : Int) < (c : Int) := by omega
      have hkk : k < L2 + 1 := by omega
      go_wp2_with fail
      go_region_held3 (fun W => W.cell? ⟨w.heap.size + 1 + 1 + 1, i + k, none⟩ = some (.int .i64 (d : Int)) ∧ W.cell? (ad.add i) = some (.int .i64 (a : Int)) ∧ W.cell? ⟨w.heap.size, 1, none⟩ = some (.slice (some ad) L1 c1) ∧ W.cell? ⟨w.heap.size + 1, 1, none⟩ = some (.slice A2 L2 c2) ∧ Below wr.heap.size wr W)
       (first
         | go_keep
         | (go_split_ands
            have hBB := bJoin (w1 := wr) hbq (by first | assumption | exact (‹_ ∧ _ ∧ _ ∧ _ ∧ Below wr.heap.size wr _›).2.2.2.2)
            exact ⟨keepB2 hBB q0, keepB2 hBB hc, keepB2 hBB q1, keepB2 hBB q2, hBB⟩))
       (first
         | (go_at_call 150; (with_reducible refine (rlimb_b H2.out (below_step HW.out (by first | assumption | exact (‹_ ∧ _ ∧ _ ∧ _ ∧ Below wr.heap.size wr _›).2.2.2.2)) k HXD.out.1).mono ?_); rintro e wq ⟨rfl, hbq⟩))
      have tq : Below wr.heap.size wr wq := (‹_ ∧ _ ∧ _ ∧ _ ∧ Below wr.heap.size wr wq›).2.2.2.2
      have hRq : RowI wq (w.heap.size + 3) xs := HR.out.keep tq
      have r0 : wq.cell? ⟨w.heap.size + 1 + 1 + 1, i + k, none⟩ = some (.int .i64 (d : Int)) := (‹_ ∧ _ ∧ _ ∧ _ ∧ Below wr.heap.size wr wq›).1
      have r1 : wq.frozen? ⟨w.heap.size + 1 + 1 + 1, i + k, none⟩ = false := hRq.frozen _
      have HRq := Aside0.mk hRq
      have HBq : Aside0 (Below (w.heap.size + 3) wa wq) := ⟨hbr.out.trans (tq.mono (by have := HR.out.lt; omega))⟩
      obtain ⟨N, hN⟩ : ∃ N, d + a * x + c = N := ⟨_, rfl⟩
      have hNi : (d : Int) + (a : Int) * (x : Int) + (c : Int) = (N : Int) := by rw [← hN]; simp
      have hN1 : N < 10000 * 10000 := by rw [← hN]; exact HM.out
      rw [hNi]
      have HN : Aside0 (d + a * x + c = N) := ⟨hN⟩
      clear hRq tb tq hbq q0 q1 q2 hc p1 p2 p3 hNi hN hbr
      go_wp2_with fail
      go_roundw
      case rel =>
       have eN : ((N : Int) % 10000) = ((N % QQ : Nat) : Int) := by unfold QQ; omega
       rw [eN]
       refine ⟨k + 1, N / QQ, congrArg (Value.int .i64) (by unfold QQ; omega), by go_num, by omega, by unfold QQ; omega, ⟨xs.set (i + k) (N % QQ), by rw [List.length_set]; exact HO.out.1, ?_, ?_, HRq.out.set _ _⟩, ⟨HBq.out.setCell (by simp) _⟩⟩
       ·intro d' hd'
        rcases List.mem_or_eq_of_mem_set hd' with h | h
        ·exact HO.out.2.1 d' h
        ·rw [h]; exact Nat.mod_lt _ (by decide)
       ·rw [HXD.out.2.2]
        exact row_step (by rw [HO.out.1]; omega) HO.out.2.2 (by rw [HXD.out.1, HXD.out.2.1, HN.out])
      case measure => simp [intOf]; omega
    ·have hend : (¬ k < L2 ∧ ¬ 0 < c) ∨ k = L2 + 1 := by omega
     obtain ⟨rfl, hE0⟩ := HEND.out hend
     have HE := Aside0.mk hE0
     have hkl : ¬ (k : Int) < (L2 : Int) := by omega
     clear hout hE0 HEND hgo hend
     go_wp2_with fail
     go_roundw
     case rel => exact ⟨i + 1, by go_num, by omega, HE, hbr⟩
     case measure => simp [intOf]; omega
  ·obtain rfl : i = L1 := by omega
   clear hi hlt
   obtain ⟨xs, o1, o2, o3, o4⟩ := hout.out
   have HO : Aside0 ((∀ d ∈ xs, d < QQ) ∧ val QQ xs = m * n ∧ RL wr (some ⟨w.heap.size + 3, 0, none⟩) (i + L2 + 1) xs) := ⟨o2, by rw [o3, mod_big QQ1 (Nat.le_of_eq H1.out.len)], by have := o4.rl (by omega); rwa [o1] at this⟩
   have HB2 : Aside0 (BG wr (w.heap.size + 2) false none 0 0) := ⟨HX.out.2.2.low (B := w.heap.size + 3) (by omega) hbr.out⟩
   have qb : wr.cell? ⟨w.heap.size, 0, none⟩ = some (.bool f1) := (hbr.out.cell (p := ⟨w.heap.size, 0, none⟩) (by simp)).trans HX.out.1.cell0
   have qc : wr.cell? ⟨w.heap.size + 1, 0, none⟩ = some (.bool f2) := (hbr.out.cell (p := ⟨w.heap.size + 1, 0, none⟩) (by simp)).trans HX.out.2.1.cell0
   have HW : Aside0 (Below w.heap.size w wr ∧ w.heap.size + 3 ≤ wr.heap.size) := ⟨HA.out.trans (hbr.out.mono (by omega)), by have := HX0.out; have := hbr.out.size; omega⟩
   clear o1 o2 o3 o4 hout hbr
   go_wp2_with (go_at_call 137; (with_reducible refine (rtrim_sign HO.out.2.2 (Nat.le_refl _) HO.out.1 _).mono ?_); rintro e wm ⟨k6, g6, rfl, hg6, hk6, hm6, hbq⟩; have HG6 := Aside0.mk (And.intro hg6 hk6); clear hg6 hk6; have HO2 := Aside0.mk (HB2.out.below hbq); have hm6 := Aside0.mk hm6; have HBQ := Aside0.mk hbq; clear hbq; have q0 := HO2.out.cell0; have q1 := HO2.out.cell1; have q4 := HO2.out.fr 0; have q5 := HO2.out.fr 1)
   refine bodyPost_ret (v := .agg #[.bool g6, .slice (some ⟨w.heap.size + 3, 0, none⟩) k6 (i + L2 + 1)]) (by simp [results, Tryz.results86, go_sem, q0, q1]) rfl ⟨some ⟨w.heap.size + 3, 0, none⟩, k6, i + L2 + 1, by rw [HG6.out.1, HO.out.2.1]; rfl, HG6.out.2, ?_, ?_⟩
   ·have h := hm6.out
    rw [HO.out.2.1] at h
    exact (h.bg HO2.out 0 _).bg (HO2.out.put0 _) 1 _
   ·exact ((HW.out.1.trans (HBQ.out.mono (Nat.le_trans (by omega) HW.out.2))).setCell (by simp; omega) _).setCell (by simp; omega) _
theorem rTimes_calls {w : World} {A1 A2 : Option Addr} {L1 L2 c1 c2 : Nat} {x y : Int} (h1 : RM w A1 L1 x.natAbs) (h2 : RM w A2 L2 y.natAbs) (hL : L1 + L2 ≤ 90000) :
 Calls Tryz.prog 86 #[rV A1 L1 c1 x, rV A2 L2 c2 y] w fun e w' => RX w (x * y) e w' :=
 (rTimes_abs h1 h2 hL).mono fun e w' ⟨A, k, c, h3, h4, h5, h6⟩ => RX.of h3 (sign_mul x y) h4 (Int.natAbs_mul x y).symm h5 h6
theorem RM.one {W : World} {b d : Nat} (hc : W.cell? ⟨b, 0, none⟩ = some (.int .i64 (d : Int))) (h0 : 0 < d) (h1 : d < QQ) : RM W (some ⟨b, 0, none⟩) 1 d := by
 unfold RM
 rw [dg_one QQ1 h0 h1]
 refine Kd.C_of_reads (enc := Value.int .i64) (d := (0 : Int)) (h1 := fun _ => rfl) ⟨rfl, by omega, fun _ => ⟨⟨b, 0, none⟩, rfl, fun j hj => ?_⟩⟩
 obtain rfl : j = 0 := by omega
 exact hc
theorem RL.far {W : World} {b g L : Nat} {xs : List Nat} (h : RL W (some ⟨b, 0, none⟩) L xs) (hne : b ≠ g) (o : Nat) (u : Value) : RL (W.setCell ⟨g, o, none⟩ u) (some ⟨b, 0, none⟩) L xs := by
 obtain ⟨h1, h2, h3⟩ := h
 refine ⟨h1, h2, fun h0 => ?_⟩
 obtain ⟨ad, e, hc⟩ := h3 h0
 injection e with e
 subst e
 refine ⟨_, rfl, fun j p hp => ?_⟩
 obtain ⟨cs, k1, k2, k3⟩ := hc j p hp
 refine ⟨cs, k1, k2, fun i u' hu => ?_⟩
 rw [World.cell?_setCell_far]
 ·exact k3 i u' hu
 ·intro e2
  refine hne (Eq.trans ?_ e2.symm)
  show b = (Addr.add _ _).block
  unfold Addr.add
  split <;> rfl
theorem RM.far {W : World} {b g L n : Nat} (h : RM W (some ⟨b, 0, none⟩) L n) (hne : b ≠ g) (o : Nat) (u : Value) : RM (W.setCell ⟨g, o, none⟩ u) (some ⟨b, 0, none⟩) L n := RL.far h hne o u
theorem rbyLimb_calls {w : World} {A : Option Addr} {L c n d : Nat} (h : RM w A L n) (hL : L ≤ 80000) (h0 : 0 < d) (h1 : d < 10000) :
 Calls Tryz.prog 180 #[.slice A L c, .int .i64 (d : Int)] w fun e w' => ∃ A' k c', e = .returned (.slice A' k c') ∧ k ≤ c' ∧ RM w' A' k (n * d) ∧ Below w.heap.size w w' := by
 have HT : Aside0 (∀ (t : TypeId) g, g = w.heap.size → Calls Tryz.prog 86 #[.agg #[.bool false, .slice A L c], .agg #[.bool false, .slice (some ⟨g, 0, none⟩) 1 1]] (w.alloc (.cells #[.int .i64 (d : Int)] t)) fun e w' => ∃ A k c, e = .returned (.agg #[.bool ((false != false) && decide (n * d ≠ 0)), .slice A k c]) ∧ k ≤ c ∧ RM w' A k (n * d) ∧ Below (w.alloc (.cells #[.int .i64 (d : Int)] t)).heap.size (w.alloc (.cells #[.int .i64 (d : Int)] t)) w') := ⟨fun t g hg => by
  subst hg
  exact rTimes_abs (h.below (below_alloc (Below.refl _ _) _)) (RM.one (by simp [go_sem]) h0 h1) (by omega)⟩
 have hu77 := bigF1
 clear h
 go_enter Tryz.func180, Tryz.ntmps180
 go_wp2_with (go_at_call 86; (with_reducible refine (HT.out _ _ rfl).mono ?_); rintro e wx ⟨A5, k5, c5, rfl, hk5, hm5, hbx⟩; have HM5 := Aside0.mk (And.intro hk5 hm5); have HB5 := Aside0.mk hbx; clear hk5 hm5 hbx)
 repeat (go_quiet (fail); try go_wp2)
 go_ret
 exact ⟨A5, k5, c5, rfl, HM5.out.1, HM5.out.2, (below_alloc (Below.refl _ _) _).trans (HB5.out.mono (by simp))⟩
theorem RL.of {w : World} {g : Nat} {xs : List Nat} (hl : xs.length ≤ 1000000) (h : ∀ j, j < xs.length → w.cell? ⟨g, j, none⟩ = some (.int .i64 (xs.getD j 0 : Nat))) : RL w (some ⟨g, 0, none⟩) xs.length xs := by
 refine Kd.C_of_reads (enc := Value.int .i64) (d := (0 : Int)) (h1 := fun _ => rfl) ⟨li_len xs, by omega, fun _ => ⟨⟨g, 0, none⟩, rfl, fun j hj => ?_⟩⟩
 have hadd : (⟨g, 0, none⟩ : Addr).add j = ⟨g, j, none⟩ := by unfold Addr.add; split <;> simp_all
 rw [hadd, h j hj]
 have e := rd_li xs j
 unfold rd at e
 rw [Int.toNat_natCast] at e
 rw [e]
theorem own_litI (W : World) (d : Nat) : (W.alloc (.cells #[.int .i64 d] 3)).ownsRow W.heap.size 3 1 (.slice (some ⟨W.heap.size, 0, none⟩) 1 1) 1 [.int .i64 (d : Int)] :=
 ⟨rfl, .inr ⟨W.heap.size, 1, _, rfl, Nat.le_refl _, heap_alloc_new W _, Nat.le_refl _, by unfold maxLen; omega, by simp, by simp⟩⟩
end
end Go.Proofs.YtillgofjlpjbcaaGreatDoor.Nm
