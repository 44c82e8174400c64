import Derived.Test.YtillgofjlpjbcaaGreatDoorH8
import Derived.Test.YtillgofjlpjbcaaGreatDoorH6
/- Own text: contracts and laws on which the card rests (RaE RaF RaG RaH RaI RaL RaJ RaK RaP). -/
set_option linter.unusedVariables false
set_option linter.unusedSimpArgs false
set_option maxRecDepth 1000000
set_option maxHeartbeats 16000000
namespace Go.Proofs.YtillgofjlpjbcaaGreatDoor.Nm
section
open Go.Proofs.YtillgofjlpjbcaaGreatDoorW.PrintLast Go.Proofs.YtillgofjlpjbcaaGreatDoorW.PrintMore Go.Proofs.YtillgofjlpjbcaaGreatDoorW.PrintWords Go.RowKit Go.Shelf
theorem cmp_lt {a b : Int} (h : a < b) : cmpI a b = -1 := by unfold cmpI; rw [if_pos h]
theorem cmp_gt {a b : Int} (h : b < a) : cmpI a b = 1 := by unfold cmpI; rw [if_neg (by omega), if_pos h]
theorem cmp_self (a : Int) : cmpI a a = 0 := by unfold cmpI; rw [if_neg (by omega), if_neg (by omega)]
theorem RM.short {w : World} {A1 A2 : Option Addr} {L1 L2 m n : Nat} (h1 : RM w A1 L1 m) (h2 : RM w A2 L2 n) (h : L1 < L2) : m < n := by
 have a := dg_lt_pow QQ1 m
 rw [h1.len] at a
 obtain ⟨k, rfl⟩ : ∃ k, L2 = k + 1 := ⟨L2 - 1, by omega⟩
 have b := dg_ge_pow QQ1 k n h2.len
 exact Nat.lt_of_lt_of_le a (Nat.le_trans (Nat.pow_le_pow_right (by decide) (by omega)) b)
theorem div_up (m k : Nat) : m / QQ ^ k = QQ * (m / QQ ^ (k + 1)) + m / QQ ^ k % QQ := by
 rw [Nat.pow_succ, ← Nat.div_div_eq_div_mul]
 exact (Nat.div_add_mod _ _).symm
theorem high_lt {m n k : Nat} (h : m / QQ ^ (k + 1) = n / QQ ^ (k + 1)) (hl : m / QQ ^ k % QQ < n / QQ ^ k % QQ) : m < n := by
 have a := div_up m k
 have b := div_up n k
 rw [h] at a
 exact Nat.lt_of_not_le fun hle => by have := Nat.div_le_div_right (c := QQ ^ k) hle; omega
theorem rmagnitude_calls {w : World} {A1 A2 : Option Addr} {L1 L2 c1 c2 m n : Nat} (h1 : RM w A1 L1 m) (h2 : RM w A2 L2 n) (hL1 : L1 ≤ 1000000) :
 Calls Tryz.prog 147 #[.slice A1 L1 c1, .slice A2 L2 c2] w fun e w' => e = .returned (.int .i64 (cmpI m n)) ∧ Drawn0 w w' := by
 have hm2 := Kd.C_max h2
 rcases Nat.lt_trichotomy L1 L2 with h | h | h
 ·have g1 : ((L1 : Int) != (L2 : Int)) = true := by simp; omega
  have g2 : decide ((L1 : Int) < (L2 : Int)) = true := decide_eq_true (by omega)
  rw [cmp_lt (a := (m : Int)) (b := n) (by have := h1.short h2 h; omega)]
  clear h1 h2
  go_enter Tryz.func147, Tryz.ntmps147
  go_wp2_with fail
  go_ret
  exact ⟨rfl, Drawn0.refl _⟩
 ·subst h
  have HE : Aside0 (m / QQ ^ L1 = 0 ∧ n / QQ ^ L1 = 0) := ⟨by
   have a := dg_lt_pow QQ1 m
   have b := dg_lt_pow QQ1 n
   rw [h1.len] at a
   rw [h2.len] at b
   exact ⟨Nat.div_eq_of_lt a, Nat.div_eq_of_lt b⟩⟩
  have H1 := Aside0.mk h1
  have H2 := Aside0.mk h2
  obtain ⟨q, hq⟩ : ∃ q, cmpI (m : Int) n = q := ⟨_, rfl⟩
  rw [hq]
  have HC := Aside0.mk hq
  clear h1 h2 hq
  go_enter Tryz.func147, Tryz.ntmps147
  go_wp2_with fail
  go_loopw [5] (fun v5 W => ∃ k : Nat, v5 = .int .i64 ((k : Int) - 1) ∧ k ≤ L1 ∧ Aside0 (m / QQ ^ k = n / QQ ^ k) ∧ Aside0 (Drawn0 w W)) (fun v5 _ => (intOf v5 + 1).toNat)
  case atStart => exact ⟨L1, by first | rfl | go_num, Nat.le_refl _, ⟨by rw [HE.out.1, HE.out.2]⟩, ⟨Drawn0.refl _⟩⟩
  case round =>
   obtain ⟨k, rfl, hk, HQ, HW⟩ := hrel
   rcases Nat.eq_zero_or_pos k with rfl | h0
   ·have g1 : decide ((0 : Int) ≤ ((0 : Nat) : Int) - 1) = false := by decide
    have HF : Aside0 (cmpI (m : Int) n = 0) := ⟨by have hq := HQ.out; simp only [Nat.pow_zero, Nat.div_one] at hq; subst hq; exact cmp_self _⟩
    go_wp2
    go_ret
    exact ⟨ret_i (by rw [← HC.out]; exact HF.out.symm), HW.out⟩
   ·obtain ⟨j, rfl⟩ : ∃ j, k = j + 1 := ⟨k - 1, by omega⟩
    have ej : ((j + 1 : Nat) : Int) - 1 = (j : Int) := by omega
    rw [ej]
    obtain ⟨ad, hA, hc⟩ := H1.out.at (i := j) (by omega)
    obtain ⟨ae, hA2, hc2⟩ := H2.out.at (i := j) (by omega)
    subst hA hA2
    obtain ⟨nd, hnd⟩ := HW.out
    have hb : Below w.heap.size w wr := by rw [hnd]; exact pw_below_drewN (Below.refl _ _) _
    replace hc := (hb.cell (World.block_lt_of_cell? w _ hc)).trans hc
    replace hc2 := (hb.cell (World.block_lt_of_cell? w _ hc2)).trans hc2
    obtain ⟨x, hx⟩ : ∃ x, m / QQ ^ j % QQ = x := ⟨_, rfl⟩
    obtain ⟨y, hy⟩ : ∃ y, n / QQ ^ j % QQ = y := ⟨_, rfl⟩
    rw [hx] at hc
    rw [hy] at hc2
    have HX : Aside0 (m / QQ ^ j % QQ = x ∧ n / QQ ^ j % QQ = y) := ⟨hx, hy⟩
    have g1 : decide ((0 : Int) ≤ (j : Int)) = true := decide_eq_true (by omega)
    have g2 : (j : Int) < (L1 : Int) := by omega
    have e1 : IntKind.i64.wrap ((j : Int) - 1) = (j : Int) - 1 := IntWalk.i64_in _ (by omega)
    clear hx hy hnd hb
    rcases Nat.lt_trichotomy x y with h | h | h
    ·have g3 : decide ((x : Int) < (y : Int)) = true := decide_eq_true (by omega)
     have HF : Aside0 (cmpI (m : Int) n = -1) := ⟨cmp_lt (by have := high_lt HQ.out (by rw [HX.out.1, HX.out.2]; exact h); omega)⟩
     go_wp2
     repeat (go_quiet (fail); try go_wp2)
     go_ret
     exact ⟨ret_i (by rw [← HC.out]; exact HF.out.symm), by first | exact HW.out.step _ | exact (HW.out.step _).step _⟩
    ·subst h
     go_wp2
     repeat (go_quiet (fail); try go_wp2)
     go_roundw
     case rel => exact ⟨j, rfl, by omega, ⟨by rw [div_up m j, div_up n j, HQ.out, HX.out.1, HX.out.2]⟩, by first | exact ⟨HW.out.step _⟩ | exact ⟨(HW.out.step _).step _⟩⟩
     case measure => simp [intOf]
    ·have g3 : decide ((x : Int) < (y : Int)) = false := decide_eq_false (by omega)
     have g4 : decide ((y : Int) < (x : Int)) = true := decide_eq_true (by omega)
     have HF : Aside0 (cmpI (m : Int) n = 1) := ⟨cmp_gt (by have := high_lt HQ.out.symm (by rw [HX.out.1, HX.out.2]; exact h); omega)⟩
     go_wp2
     repeat (go_quiet (fail); try go_wp2)
     go_ret
     exact ⟨ret_i (by rw [← HC.out]; exact HF.out.symm), by first | exact HW.out.step _ | exact (HW.out.step _).step _⟩
 ·have g1 : ((L1 : Int) != (L2 : Int)) = true := by simp; omega
  have g2 : decide ((L1 : Int) < (L2 : Int)) = false := decide_eq_false (by omega)
  rw [cmp_gt (a := (m : Int)) (b := n) (by have := h2.short h1 h; omega)]
  clear h1 h2
  go_enter Tryz.func147, Tryz.ntmps147
  go_wp2_with fail
  go_ret
  exact ⟨rfl, Drawn0.refl _⟩
/-- A variable of type Big. -/
def BG (W : World) (b : Nat) (f : Bool) (A : Option Addr) (L c : Nat) : Prop := W.heap[b]? = some (.cells #[.bool f, .slice A L c] 77 (0, 0))
section
variable {W X : World} {b : Nat} {f : Bool} {A : Option Addr} {L c n : Nat}
theorem BG.cell0 (h : BG W b f A L c) : W.cell? ⟨b, 0, none⟩ = some (.bool f) := by rw [Lib.cell_of_heap h]; rfl
theorem BG.cell1 (h : BG W b f A L c) : W.cell? ⟨b, 1, none⟩ = some (.slice A L c) := by rw [Lib.cell_of_heap h]; rfl
theorem BG.fr (h : BG W b f A L c) (o : Nat) : W.frozen? ⟨b, o, none⟩ = false := Lib.frozen_of_heap h o
theorem BG.lt (h : BG W b f A L c) : b < W.heap.size := (Array.getElem?_eq_some_iff.1 h).1
theorem BG.below (h : BG W b f A L c) (hb : Below W.heap.size W X) : BG X b f A L c := (hb.block b h.lt).trans h
theorem BG.alloc (h : BG W b f A L c) (o : Obj) : BG (W.alloc o) b f A L c := h.below (below_alloc (Below.refl _ _) _)
theorem BG.new (W : World) (f : Bool) (A : Option Addr) (L c : Nat) : BG (W.alloc (.cells #[.bool f, .slice A L c] 77)) W.heap.size f A L c := heap_alloc_new W _
theorem BG.put0 (h : BG W b f A L c) (g : Bool) : BG (W.setCell ⟨b, 0, none⟩ (.bool g)) b g A L c := by
 unfold BG at *
 simp [World.setCell, Array.getElem?_modify, h]
theorem BG.put1 (h : BG W b f A L c) (A' : Option Addr) (L' c' : Nat) : BG (W.setCell ⟨b, 1, none⟩ (.slice A' L' c')) b f A' L' c' := by
 unfold BG at *
 simp [World.setCell, Array.getElem?_modify, h]
theorem RL.bg {A' : Option Addr} {L' : Nat} {xs : List Nat} (h : RL W A' L' xs) (hb : BG W b f A L c) (o : Nat) (u : Value) : RL (W.setCell ⟨b, o, none⟩ u) A' L' xs := by
 obtain ⟨h1, h2, h3⟩ := h
 refine ⟨h1, h2, fun h0 => ?_⟩
 obtain ⟨ad, e, hc⟩ := h3 h0
 refine ⟨ad, e, fun j p hp => ?_⟩
 obtain ⟨cs, k1, k2, k3⟩ := hc j p hp
 refine ⟨cs, k1, k2, fun i u' hu => ?_⟩
 have hq := k3 i u' hu
 rw [World.cell?_setCell_far]
 ·exact hq
 ·intro e2
  have hcs : cs = [.int .i64 p] := k2
  subst hcs
  have hi : i = 0 := by
   rcases Nat.eq_zero_or_pos i with h | h
   ·exact h
   ·rw [List.getElem?_eq_none (by simp; omega)] at hu; cases hu
  subst hi
  have hu' : u' = .int .i64 p := by simpa using hu.symm
  subst hu'
  unfold World.cell? at hq
  rw [← show b = _ from e2] at hq
  rw [show W.heap[b]? = _ from hb] at hq
  dsimp only at hq
  split at hq
  ·cases hq
  ·generalize (ad.add (j * (Kd.int .i64).sz + 0)).off = o' at hq
   match o' with
   | 0 => simp at hq
   | 1 => simp at hq
   | o' + 2 => simp at hq
theorem RM.bg {A' : Option Addr} {L' : Nat} (h : RM W A' L' n) (hb : BG W b f A L c) (o : Nat) (u : Value) : RM (W.setCell ⟨b, o, none⟩ u) A' L' n := RL.bg h hb o u
end
theorem keepB2 {W X : World} {p : Addr} {v : Value} (hb : Below W.heap.size W X) (h : W.cell? p = some v) : X.cell? p = some v := (hb.cell (World.block_lt_of_cell? W _ h)).trans h
theorem RM.le {w w' : World} {A A' : Option Addr} {L k : Nat} {xs : List Nat} (h : RL w A L xs) (hd : ∀ d ∈ xs, d < QQ) (hm : RM w' A' k (val QQ xs)) : k ≤ L := by
 have h2 := val_lt (by decide : 0 < QQ) xs hd
 rw [h.len] at h2
 exact hm.bound h2
theorem rtrim_sign {w : World} {A : Option Addr} {L c : Nat} {xs : List Nat} (h : RL w A L xs) (hc : L ≤ c) (hd : ∀ d ∈ xs, d < QQ) (neg : Bool) :
 Calls Tryz.prog 137 #[.agg #[.bool neg, .slice A L c]] w fun e w' => ∃ k g, e = .returned (.agg #[.bool g, .slice A k c]) ∧ g = (neg && decide (val QQ xs ≠ 0)) ∧ k ≤ c ∧ RM w' A k (val QQ xs) ∧ Below w.heap.size w w' :=
 (rtrim_calls h hc hd neg).mono fun e w' ⟨k, h1, h2, h3⟩ => ⟨k, _, h1, rfl, Nat.le_trans (RM.le h hd h2) hc, h2, h3⟩
theorem rPlus_same {w : World} {A1 A2 : Option Addr} {L1 L2 c1 c2 m n : Nat} {f1 f2 : Bool} (h1 : RM w A1 L1 m) (h2 : RM w A2 L2 n) (hf : f1 = f2) (hL1 : L1 ≤ 100000) (hL2 : L2 ≤ 100000) :
 Calls Tryz.prog 82 #[.agg #[.bool f1, .slice A1 L1 c1], .agg #[.bool f2, .slice A2 L2 c2]] w fun e w' => ∃ A k c, e = .returned (.agg #[.bool (f1 && decide (m + n ≠ 0)), .slice A k c]) ∧ k ≤ c ∧ RM w' A k (m + n) ∧ Below w.heap.size w w' := by
 have H1 := h1.at_below
 have H2 := h2.at_below
 have hff : (f1 == f2) = true := by simp [hf]
 clear h1 h2 hf
 go_enter Tryz.func82, Tryz.ntmps82
 go_wp2_with fail
 obtain ⟨wr, hwr⟩ : ∃ wr, (((w.alloc (.cells #[.bool f1, .slice A1 L1 c1] 77)).alloc (.cells #[.bool f2, .slice A2 L2 c2] 77)).alloc (.cells #[.bool false, .slice none 0 0] 77)) = wr := ⟨_, rfl⟩
 have HF : BG wr w.heap.size f1 A1 L1 c1 ∧ BG wr (w.heap.size + 1) f2 A2 L2 c2 ∧ BG wr (w.heap.size + 1 + 1) false none 0 0 := by
  subst hwr
  refine ⟨((BG.new w _ _ _ _).alloc _).alloc _, BG.alloc ?_ _, ?_⟩
  ·have h := BG.new (w.alloc (.cells #[.bool f1, .slice A1 L1 c1] 77)) f2 A2 L2 c2
   simpa using h
  ·have h := BG.new ((w.alloc (.cells #[.bool f1, .slice A1 L1 c1] 77)).alloc (.cells #[.bool f2, .slice A2 L2 c2] 77)) false none 0 0
   simpa using h
 have HX : Aside0 (wr.cell? ⟨w.heap.size, 0, none⟩ = some (.bool f1) ∧ wr.cell? ⟨w.heap.size, 1, none⟩ = some (.slice A1 L1 c1) ∧ wr.cell? ⟨w.heap.size + 1, 0, none⟩ = some (.bool f2) ∧ wr.cell? ⟨w.heap.size + 1, 1, none⟩ = some (.slice A2 L2 c2)) :=
  ⟨HF.1.cell0, HF.1.cell1, HF.2.1.cell0, HF.2.1.cell1⟩
 have HO := Aside0.mk HF.2.2
 have HA : Aside0 (Below w.heap.size w wr ∧ w.heap.size + 3 ≤ wr.heap.size) := ⟨by subst hwr; repeat (first | exact Below.refl _ _ | apply below_alloc), by subst hwr; simp⟩
 have x0 := HX.out.1
 have x1 := HX.out.2.1
 have x2 := HX.out.2.2.1
 have x3 := HX.out.2.2.2
 rw [hwr]
 clear hwr HF
 go_wp2_with fail
 rename_i Q' K hK
 have KP : Aside0 (∀ V, Below (w.heap.size + 2) wr V → (fun V => V.cell? ⟨w.heap.size, 0, none⟩ = some (.bool f1) ∧ V.cell? ⟨w.heap.size, 1, none⟩ = some (.slice A1 L1 c1) ∧ V.cell? ⟨w.heap.size + 1, 0, none⟩ = some (.bool f2) ∧ V.cell? ⟨w.heap.size + 1, 1, none⟩ = some (.slice A2 L2 c2) ∧ Below (w.heap.size + 2) wr V) V) := ⟨fun V hBB => ⟨keepB hBB (by omega) HX.out.1, keepB hBB (by omega) HX.out.2.1, keepB hBB (by omega) HX.out.2.2.1, keepB hBB (by omega) HX.out.2.2.2, hBB⟩⟩
 refine wq KP fun hHeld => ?_
 refine tp 0 ?_
 try simp only [PU]
 refine tp 1 ?_
 try simp only [PU]
 refine tp 2 ?_
 try simp only [PU]
 refine tp 3 ?_
 try simp only [PU]
 refine tp 4 ?_
 try simp only [PU]
 refine tp 5 ?_
 try simp only [PU]
 refine tc 6 fun K hK => ?_
 go_simp
 (go_at_call 146; (with_reducible refine (rplus_calls (H1.out _ (HA.out.1.trans (hHeld.2.2.2.2.mono (by omega)))) (H2.out _ (HA.out.1.trans (hHeld.2.2.2.2.mono (by omega)))) hL1 hL2).mono ?_); rintro e wm ⟨A5, k5, c5, xs5, rfl, hk5, hm5, hd5, hv5, hbq⟩; have HO := Aside0.mk ((HO.out.below (below_drew1 (Below.refl _ _))).below hbq); have hm5 := Aside0.mk hm5; have hd5 := Aside0.mk hd5; have hv5 := Aside0.mk hv5)
 refine hK.out _ _ ?_ fun hHeld => ?_
 ·(first | exact KP.out _ (bKeep hbq hHeld.2.2.2.2 (by have := HA.out.2; omega)) | (refine KP.out _ ?_; repeat (first | exact hHeld.2.2.2.2 | refine Below.setCell ?_ (by first | (simp; done) | (simp; omega)) _)))
 clear hK K; try simp only [PU]
 refine tp 7 ?_
 try simp only [PU]
 refine tc 8 fun K hK => ?_
 go_simp
 (go_at_call 137; (with_reducible refine (rtrim_sign hm5.out hk5 hd5.out _).mono ?_); rintro e wm ⟨k6, g6, rfl, hg6, hk6, hm6, hbq⟩; have HG := Aside0.mk (And.intro hg6 hk6); clear hg6 hk6; have HO := Aside0.mk (HO.out.below hbq); have hm6 := Aside0.mk hm6; have q0 := HO.out.cell0; have q1 := HO.out.cell1; have q4 := HO.out.fr 0; have q5 := HO.out.fr 1)
 refine hK.out _ _ ?_ fun hHeld => ?_
 ·(first | exact KP.out _ (bKeep hbq hHeld.2.2.2.2 (by have := HA.out.2; omega)) | (refine KP.out _ ?_; repeat (first | exact hHeld.2.2.2.2 | refine Below.setCell ?_ (by first | (simp; done) | (simp; omega)) _)))
 clear hK K; try simp only [PU]
 refine tc 9 fun K hK => ?_
 go_simp
 refine hK.out _ _ ?_ fun hHeld => ?_
 ·(first | exact KP.out _ (bKeep hbq hHeld.2.2.2.2 (by have := HA.out.2; omega)) | (refine KP.out _ ?_; repeat (first | exact hHeld.2.2.2.2 | refine Below.setCell ?_ (by first | (simp; done) | (simp; omega)) _)))
 clear hK K; try simp only [PU]
 refine wpAnyH_done (by kernel_rfl) ?_ _
 refine hK _ _ ?_
 go_wp2
 refine bodyPost_ret (v := .agg #[.bool g6, .slice A5 k6 c5]) (by simp [results, Tryz.results82, go_sem, q0, q1]) rfl ⟨A5, k6, c5, by rw [HG.out.1, hv5.out] <;> simp, HG.out.2, ?_, HA.out.1.trans (hHeld.2.2.2.2.mono (by omega))⟩
 have h := hm6.out
 rw [hv5.out] at h
 exact (h.bg HO.out 0 _).bg (HO.out.put0 _) 1 _
theorem rPlus_ge {w : World} {A1 A2 : Option Addr} {L1 L2 c1 c2 m n : Nat} {f1 f2 : Bool} (h1 : RM w A1 L1 m) (h2 : RM w A2 L2 n) (hf : f1 ≠ f2) (hle : n ≤ m) (hL1 : L1 ≤ 100000) :
 Calls Tryz.prog 82 #[.agg #[.bool f1, .slice A1 L1 c1], .agg #[.bool f2, .slice A2 L2 c2]] w fun e w' => ∃ A k c, e = .returned (.agg #[.bool (f1 && decide (m - n ≠ 0)), .slice A k c]) ∧ k ≤ c ∧ RM w' A k (m - n) ∧ Below w.heap.size w w' := by
 have H1 := h1.at_below
 have H2 := h2.at_below
 have hff : (f1 == f2) = false := by simp [hf]
 have HV : Aside0 (val QQ (dg QQ (m - n)) = m - n) := ⟨val_dg QQ1 _⟩
 have HMG : Aside0 (∀ W, Below w.heap.size w W → Calls Tryz.prog 147 #[.slice A1 L1 c1, .slice A2 L2 c2] W fun e w' => e = .returned (.int .i64 (cmpI m n)) ∧ Drawn0 W w') := ⟨fun W hb => rmagnitude_calls (h1.below hb) (h2.below hb) (by omega)⟩
 have HC : Aside0 (decide ((0 : Int) ≤ cmpI (m : Int) n) = true) := ⟨(decide_eq_true (by unfold cmpI; split <;> (try split) <;> omega))⟩
 generalize cmpI (m : Int) n = q at *
 have hq1 := HC.out
 clear h1 h2 hf
 go_enter Tryz.func82, Tryz.ntmps82
 go_wp2_with fail
 obtain ⟨wr, hwr⟩ : ∃ wr, (((w.alloc (.cells #[.bool f1, .slice A1 L1 c1] 77)).alloc (.cells #[.bool f2, .slice A2 L2 c2] 77)).alloc (.cells #[.bool false, .slice none 0 0] 77)) = wr := ⟨_, rfl⟩
 have HF : BG wr w.heap.size f1 A1 L1 c1 ∧ BG wr (w.heap.size + 1) f2 A2 L2 c2 ∧ BG wr (w.heap.size + 1 + 1) false none 0 0 := by
  subst hwr
  refine ⟨((BG.new w _ _ _ _).alloc _).alloc _, BG.alloc ?_ _, ?_⟩
  ·have h := BG.new (w.alloc (.cells #[.bool f1, .slice A1 L1 c1] 77)) f2 A2 L2 c2
   simpa using h
  ·have h := BG.new ((w.alloc (.cells #[.bool f1, .slice A1 L1 c1] 77)).alloc (.cells #[.bool f2, .slice A2 L2 c2] 77)) false none 0 0
   simpa using h
 have HX : Aside0 (wr.cell? ⟨w.heap.size, 0, none⟩ = some (.bool f1) ∧ wr.cell? ⟨w.heap.size, 1, none⟩ = some (.slice A1 L1 c1) ∧ wr.cell? ⟨w.heap.size + 1, 0, none⟩ = some (.bool f2) ∧ wr.cell? ⟨w.heap.size + 1, 1, none⟩ = some (.slice A2 L2 c2)) :=
  ⟨HF.1.cell0, HF.1.cell1, HF.2.1.cell0, HF.2.1.cell1⟩
 have HO := Aside0.mk HF.2.2
 have HA : Aside0 (Below w.heap.size w wr ∧ w.heap.size + 3 ≤ wr.heap.size) := ⟨by subst hwr; repeat (first | exact Below.refl _ _ | apply below_alloc), by subst hwr; simp⟩
 have x0 := HX.out.1
 have x1 := HX.out.2.1
 have x2 := HX.out.2.2.1
 have x3 := HX.out.2.2.2
 rw [hwr]
 clear hwr HF
 go_wp2_with (first | (go_at_call 147; (with_reducible refine (HMG.out _ HA.out.1).mono ?_); rintro e W2 ⟨rfl, hdr⟩; have hbq := hdr.below; have HX := Aside0.mk (And.intro (keepB2 hbq HX.out.1) (And.intro (keepB2 hbq HX.out.2.1) (And.intro (keepB2 hbq HX.out.2.2.1) (keepB2 hbq HX.out.2.2.2)))); have HO := Aside0.mk (HO.out.below hbq); have HA : Aside0 (Below w.heap.size w W2 ∧ w.heap.size + 3 ≤ W2.heap.size) := ⟨HA.out.1.trans (hbq.mono HA.out.1.size), Nat.le_trans HA.out.2 hbq.size⟩; clear hdr hbq x0 x1 x2 x3; have x0 := HX.out.1; have x1 := HX.out.2.1; have x2 := HX.out.2.2.1; have x3 := HX.out.2.2.2))
 rename_i Q' K hK
 have KP : Aside0 (∀ V, Below (w.heap.size + 2) W2 V → (fun V => V.cell? ⟨w.heap.size, 0, none⟩ = some (.bool f1) ∧ V.cell? ⟨w.heap.size, 1, none⟩ = some (.slice A1 L1 c1) ∧ V.cell? ⟨w.heap.size + 1, 0, none⟩ = some (.bool f2) ∧ V.cell? ⟨w.heap.size + 1, 1, none⟩ = some (.slice A2 L2 c2) ∧ Below (w.heap.size + 2) W2 V) V) := ⟨fun V hBB => ⟨keepB hBB (by omega) HX.out.1, keepB hBB (by omega) HX.out.2.1, keepB hBB (by omega) HX.out.2.2.1, keepB hBB (by omega) HX.out.2.2.2, hBB⟩⟩
 refine wq KP fun hHeld => ?_
 refine tp 0 ?_
 try simp only [PU]
 refine tp 1 ?_
 try simp only [PU]
 refine tp 2 ?_
 try simp only [PU]
 refine tp 3 ?_
 try simp only [PU]
 refine tp 4 ?_
 try simp only [PU]
 refine tp 5 ?_
 try simp only [PU]
 refine tc 6 fun K hK => ?_
 go_simp
 (go_at_call 148; (with_reducible refine (rminus_calls (H1.out _ (HA.out.1.trans (hHeld.2.2.2.2.mono (by omega)))) (H2.out _ (HA.out.1.trans (hHeld.2.2.2.2.mono (by omega)))) hle hL1).mono ?_); rintro e wm ⟨A5, k5, c5, rfl, hk5, hm5, hbq⟩; have HO := Aside0.mk ((HO.out.below (below_drew1 (Below.refl _ _))).below hbq); have hm5 : Aside0 (RL wm A5 k5 (dg QQ (m - n))) := ⟨hm5⟩; have hd5 : Aside0 (∀ d ∈ dg QQ (m - n), d < QQ) := ⟨dg_lt QQ1 _⟩)
 refine hK.out _ _ ?_ fun hHeld => ?_
 ·(first | exact KP.out _ (bKeep hbq hHeld.2.2.2.2 (by have := HA.out.2; omega)) | (refine KP.out _ ?_; repeat (first | exact hHeld.2.2.2.2 | refine Below.setCell ?_ (by first | (simp; done) | (simp; omega)) _)))
 clear hK K; try simp only [PU]
 refine tp 7 ?_
 try simp only [PU]
 refine tc 8 fun K hK => ?_
 go_simp
 (go_at_call 137; (with_reducible refine (rtrim_sign hm5.out hk5 hd5.out _).mono ?_); rintro e wm ⟨k6, g6, rfl, hg6, hk6, hm6, hbq⟩; have HG := Aside0.mk (And.intro hg6 hk6); clear hg6 hk6; have HO := Aside0.mk (HO.out.below hbq); have hm6 := Aside0.mk hm6; have q0 := HO.out.cell0; have q1 := HO.out.cell1; have q4 := HO.out.fr 0; have q5 := HO.out.fr 1)
 refine hK.out _ _ ?_ fun hHeld => ?_
 ·(first | exact KP.out _ (bKeep hbq hHeld.2.2.2.2 (by have := HA.out.2; omega)) | (refine KP.out _ ?_; repeat (first | exact hHeld.2.2.2.2 | refine Below.setCell ?_ (by first | (simp; done) | (simp; omega)) _)))
 clear hK K; try simp only [PU]
 refine tc 9 fun K hK => ?_
 go_simp
 refine hK.out _ _ ?_ fun hHeld => ?_
 ·(first | exact KP.out _ (bKeep hbq hHeld.2.2.2.2 (by have := HA.out.2; omega)) | (refine KP.out _ ?_; repeat (first | exact hHeld.2.2.2.2 | refine Below.setCell ?_ (by first | (simp; done) | (simp; omega)) _)))
 clear hK K; try simp only [PU]
 refine wpAnyH_done (by kernel_rfl) ?_ _
 refine hK _ _ ?_
 go_wp2
 refine bodyPost_ret (v := .agg #[.bool g6, .slice A5 k6 c5]) (by simp [results, Tryz.results82, go_sem, q0, q1]) rfl ⟨A5, k6, c5, by rw [HG.out.1, HV.out] <;> simp, HG.out.2, ?_, HA.out.1.trans (hHeld.2.2.2.2.mono (by omega))⟩
 have h := hm6.out
 rw [HV.out] at h
 exact (h.bg HO.out 0 _).bg (HO.out.put0 _) 1 _
theorem rPlus_lt {w : World} {A1 A2 : Option Addr} {L1 L2 c1 c2 m n : Nat} {f1 f2 : Bool} (h1 : RM w A1 L1 m) (h2 : RM w A2 L2 n) (hf : f1 ≠ f2) (hle : m < n) (hL1 : L1 ≤ 100000) (hL2 : L2 ≤ 100000) :
 Calls Tryz.prog 82 #[.agg #[.bool f1, .slice A1 L1 c1], .agg #[.bool f2, .slice A2 L2 c2]] w fun e w' => ∃ A k c, e = .returned (.agg #[.bool (f2 && decide (n - m ≠ 0)), .slice A k c]) ∧ k ≤ c ∧ RM w' A k (n - m) ∧ Below w.heap.size w w' := by
 have H1 := h1.at_below
 have H2 := h2.at_below
 have hff : (f1 == f2) = false := by simp [hf]
 have HV : Aside0 (val QQ (dg QQ (n - m)) = n - m) := ⟨val_dg QQ1 _⟩
 have hle' := Nat.le_of_lt hle
 have HMG : Aside0 (∀ W, Below w.heap.size w W → Calls Tryz.prog 147 #[.slice A1 L1 c1, .slice A2 L2 c2] W fun e w' => e = .returned (.int .i64 (cmpI m n)) ∧ Drawn0 W w') := ⟨fun W hb => rmagnitude_calls (h1.below hb) (h2.below hb) (by omega)⟩
 have HC : Aside0 (decide ((0 : Int) ≤ cmpI (m : Int) n) = false) := ⟨(decide_eq_false (by unfold cmpI; split <;> (try split) <;> omega))⟩
 generalize cmpI (m : Int) n = q at *
 have hq1 := HC.out
 clear h1 h2 hf
 go_enter Tryz.func82, Tryz.ntmps82
 go_wp2_with fail
 obtain ⟨wr, hwr⟩ : ∃ wr, (((w.alloc (.cells #[.bool f1, .slice A1 L1 c1] 77)).alloc (.cells #[.bool f2, .slice A2 L2 c2] 77)).alloc (.cells #[.bool false, .slice none 0 0] 77)) = wr := ⟨_, rfl⟩
 have HF : BG wr w.heap.size f1 A1 L1 c1 ∧ BG wr (w.heap.size + 1) f2 A2 L2 c2 ∧ BG wr (w.heap.size + 1 + 1) false none 0 0 := by
  subst hwr
  refine ⟨((BG.new w _ _ _ _).alloc _).alloc _, BG.alloc ?_ _, ?_⟩
  ·have h := BG.new (w.alloc (.cells #[.bool f1, .slice A1 L1 c1] 77)) f2 A2 L2 c2
   simpa using h
  ·have h := BG.new ((w.alloc (.cells #[.bool f1, .slice A1 L1 c1] 77)).alloc (.cells #[.bool f2, .slice A2 L2 c2] 77)) false none 0 0
   simpa using h
 have HX : Aside0 (wr.cell? ⟨w.heap.size, 0, none⟩ = some (.bool f1) ∧ wr.cell? ⟨w.heap.size, 1, none⟩ = some (.slice A1 L1 c1) ∧ wr.cell? ⟨w.heap.size + 1, 0, none⟩ = some (.bool f2) ∧ wr.cell? ⟨w.heap.size + 1, 1, none⟩ = some (.slice A2 L2 c2)) :=
  ⟨HF.1.cell0, HF.1.cell1, HF.2.1.cell0, HF.2.1.cell1⟩
 have HO := Aside0.mk HF.2.2
 have HA : Aside0 (Below w.heap.size w wr ∧ w.heap.size + 3 ≤ wr.heap.size) := ⟨by subst hwr; repeat (first | exact Below.refl _ _ | apply below_alloc), by subst hwr; simp⟩
 have x0 := HX.out.1
 have x1 := HX.out.2.1
 have x2 := HX.out.2.2.1
 have x3 := HX.out.2.2.2
 rw [hwr]
 clear hwr HF
 go_wp2_with (first | (go_at_call 147; (with_reducible refine (HMG.out _ HA.out.1).mono ?_); rintro e W2 ⟨rfl, hdr⟩; have hbq := hdr.below; have HX := Aside0.mk (And.intro (keepB2 hbq HX.out.1) (And.intro (keepB2 hbq HX.out.2.1) (And.intro (keepB2 hbq HX.out.2.2.1) (keepB2 hbq HX.out.2.2.2)))); have HO := Aside0.mk (HO.out.below hbq); have HA : Aside0 (Below w.heap.size w W2 ∧ w.heap.size + 3 ≤ W2.heap.size) := ⟨HA.out.1.trans (hbq.mono HA.out.1.size), Nat.le_trans HA.out.2 hbq.size⟩; clear hdr hbq x0 x1 x2 x3; have x0 := HX.out.1; have x1 := HX.out.2.1; have x2 := HX.out.2.2.1; have x3 := HX.out.2.2.2))
 rename_i Q' K hK
 have KP : Aside0 (∀ V, Below (w.heap.size + 2) W2 V → (fun V => V.cell? ⟨w.heap.size, 0, none⟩ = some (.bool f1) ∧ V.cell? ⟨w.heap.size, 1, none⟩ = some (.slice A1 L1 c1) ∧ V.cell? ⟨w.heap.size + 1, 0, none⟩ = some (.bool f2) ∧ V.cell? ⟨w.heap.size + 1, 1, none⟩ = some (.slice A2 L2 c2) ∧ Below (w.heap.size + 2) W2 V) V) := ⟨fun V hBB => ⟨keepB hBB (by omega) HX.out.1, keepB hBB (by omega) HX.out.2.1, keepB hBB (by omega) HX.out.2.2.1, keepB hBB (by omega) HX.out.2.2.2, hBB⟩⟩
 refine wq KP fun hHeld => ?_
 refine tp 0 ?_
 try simp only [PU]
 refine tp 1 ?_
 try simp only [PU]
 refine tp 2 ?_
 try simp only [PU]
 refine tp 3 ?_
 try simp only [PU]
 refine tp 4 ?_
 try simp only [PU]
 refine tp 5 ?_
 try simp only [PU]
 refine tc 6 fun K hK => ?_
 go_simp
 (go_at_call 148; (with_reducible refine (rminus_calls (H2.out _ (HA.out.1.trans (hHeld.2.2.2.2.mono (by omega)))) (H1.out _ (HA.out.1.trans (hHeld.2.2.2.2.mono (by omega)))) hle' hL2).mono ?_); rintro e wm ⟨A5, k5, c5, rfl, hk5, hm5, hbq⟩; have HO := Aside0.mk ((HO.out.below (below_drew1 (Below.refl _ _))).below hbq); have hm5 : Aside0 (RL wm A5 k5 (dg QQ (n - m))) := ⟨hm5⟩; have hd5 : Aside0 (∀ d ∈ dg QQ (n - m), d < QQ) := ⟨dg_lt QQ1 _⟩)
 refine hK.out _ _ ?_ fun hHeld => ?_
 ·(first | exact KP.out _ (bKeep hbq hHeld.2.2.2.2 (by have := HA.out.2; omega)) | (refine KP.out _ ?_; repeat (first | exact hHeld.2.2.2.2 | refine Below.setCell ?_ (by first | (simp; done) | (simp; omega)) _)))
 clear hK K; try simp only [PU]
 refine tp 7 ?_
 try simp only [PU]
 refine tc 8 fun K hK => ?_
 go_simp
 (go_at_call 137; (with_reducible refine (rtrim_sign hm5.out hk5 hd5.out _).mono ?_); rintro e wm ⟨k6, g6, rfl, hg6, hk6, hm6, hbq⟩; have HG := Aside0.mk (And.intro hg6 hk6); clear hg6 hk6; have HO := Aside0.mk (HO.out.below hbq); have hm6 := Aside0.mk hm6; have q0 := HO.out.cell0; have q1 := HO.out.cell1; have q4 := HO.out.fr 0; have q5 := HO.out.fr 1)
 refine hK.out _ _ ?_ fun hHeld => ?_
 ·(first | exact KP.out _ (bKeep hbq hHeld.2.2.2.2 (by have := HA.out.2; omega)) | (refine KP.out _ ?_; repeat (first | exact hHeld.2.2.2.2 | refine Below.setCell ?_ (by first | (simp; done) | (simp; omega)) _)))
 clear hK K; try simp only [PU]
 refine tc 9 fun K hK => ?_
 go_simp
 refine hK.out _ _ ?_ fun hHeld => ?_
 ·(first | exact KP.out _ (bKeep hbq hHeld.2.2.2.2 (by have := HA.out.2; omega)) | (refine KP.out _ ?_; repeat (first | exact hHeld.2.2.2.2 | refine Below.setCell ?_ (by first | (simp; done) | (simp; omega)) _)))
 clear hK K; try simp only [PU]
 refine wpAnyH_done (by kernel_rfl) ?_ _
 refine hK _ _ ?_
 go_wp2
 refine bodyPost_ret (v := .agg #[.bool g6, .slice A5 k6 c5]) (by simp [results, Tryz.results82, go_sem, q0, q1]) rfl ⟨A5, k6, c5, by rw [HG.out.1, HV.out] <;> simp, HG.out.2, ?_, HA.out.1.trans (hHeld.2.2.2.2.mono (by omega))⟩
 have h := hm6.out
 rw [HV.out] at h
 exact (h.bg HO.out 0 _).bg (HO.out.put0 _) 1 _
/-- The value of an integer of the reference. -/
def rV (A : Option Addr) (L c : Nat) (x : Int) : Value := .agg #[.bool (decide (x < 0)), .slice A L c]
/-- What a function that gives an integer answers. -/
def RX (w : World) (x : Int) (e : Ending) (w' : World) : Prop := ∃ A k c, e = .returned (rV A k c x) ∧ k ≤ c ∧ RM w' A k x.natAbs ∧ Below w.heap.size w w'
theorem RX.of {w w' : World} {e : Ending} {x : Int} {A : Option Addr} {k c n : Nat} {g : Bool} (he : e = .returned (.agg #[.bool g, .slice A k c])) (hg : g = decide (x < 0)) (hk : k ≤ c) (hn : n = x.natAbs) (hm : RM w' A k n) (hb : Below w.heap.size w w') : RX w x e w' := by
 subst hg hn
 exact ⟨A, k, c, he, hk, hm, hb⟩
theorem rPlus_calls {w : World} {A1 A2 : Option Addr} {L1 L2 c1 c2 : Nat} {x y : Int} (h1 : RM w A1 L1 x.natAbs) (h2 : RM w A2 L2 y.natAbs) (hL1 : L1 ≤ 100000) (hL2 : L2 ≤ 100000) :
 Calls Tryz.prog 82 #[rV A1 L1 c1 x, rV A2 L2 c2 y] w fun e w' => RX w (x + y) e w' := by
 unfold rV
 by_cases hf : decide (x < 0) = decide (y < 0)
 ·refine (rPlus_same h1 h2 hf hL1 hL2).mono fun e w' ⟨A, k, c, h3, h4, h5, h6⟩ => ?_
  have hf' : x < 0 ↔ y < 0 := by simpa using hf
  refine RX.of h3 ?_ h4 ?_ h5 h6
  ·rw [Bool.eq_iff_iff]; simp; omega
  ·omega
 ·have hf' : ¬ (x < 0 ↔ y < 0) := by simpa using hf
  rcases Nat.lt_or_ge x.natAbs y.natAbs with hl | hl
  ·refine (rPlus_lt h1 h2 hf hl hL1 hL2).mono fun e w' ⟨A, k, c, h3, h4, h5, h6⟩ => ?_
   refine RX.of h3 ?_ h4 ?_ h5 h6
   ·rw [Bool.eq_iff_iff]; simp; omega
   ·omega
  ·refine (rPlus_ge h1 h2 hf hl hL1).mono fun e w' ⟨A, k, c, h3, h4, h5, h6⟩ => ?_
   refine RX.of h3 ?_ h4 ?_ h5 h6
   ·rw [Bool.eq_iff_iff]; simp; omega
   ·omega
theorem rNegative_calls {w : World} {A1 : Option Addr} {L1 c1 : Nat} {x : Int} (h1 : RM w A1 L1 x.natAbs) (hc : L1 ≤ c1) :
 Calls Tryz.prog 78 #[rV A1 L1 c1 x] w fun e w' => ∃ k c, e = .returned (rV A1 k c (-x)) ∧ k ≤ c ∧ RM w' A1 k (-x).natAbs ∧ Below w.heap.size w w' := by
 unfold rV
 have HV : Aside0 (val QQ (dg QQ x.natAbs) = (-x).natAbs ∧ (!decide (x < 0) && decide ((-x).natAbs ≠ 0)) = decide (-x < 0)) := ⟨by rw [val_dg QQ1, Int.natAbs_neg], by rw [Bool.eq_iff_iff]; simp; omega⟩
 have H1 : Aside0 (∀ W, Below w.heap.size w W → RL W A1 L1 (dg QQ x.natAbs)) := ⟨fun W hb => h1.below hb⟩
 have HD : Aside0 (∀ d ∈ dg QQ x.natAbs, d < QQ) := ⟨dg_lt QQ1 _⟩
 generalize hxs : dg QQ x.natAbs = xs at *
 generalize decide (x < 0) = f1 at *
 generalize decide (-x < 0) = f3 at *
 generalize (-x).natAbs = n3 at *
 clear h1 hxs
 go_enter Tryz.func78, Tryz.ntmps78
 go_wp2_with fail
 obtain ⟨wr, hwr⟩ : ∃ wr, ((w.alloc (.cells #[.bool f1, .slice A1 L1 c1] 77)).alloc (.cells #[.bool false, .slice none 0 0] 77)) = wr := ⟨_, rfl⟩
 have HO : Aside0 (BG wr (w.heap.size + 1) false none 0 0) := ⟨by
  subst hwr
  have h := BG.new (w.alloc (.cells #[.bool f1, .slice A1 L1 c1] 77)) false none 0 0
  simpa using h⟩
 have HF : BG wr w.heap.size f1 A1 L1 c1 := by subst hwr; exact (BG.new w _ _ _ _).alloc _
 have HA : Aside0 (Below w.heap.size w wr ∧ w.heap.size + 2 ≤ wr.heap.size) := ⟨by subst hwr; repeat (first | exact Below.refl _ _ | apply below_alloc), by subst hwr; simp⟩
 have x0 := HF.cell0
 have x1 := HF.cell1
 rw [hwr]
 clear hwr HF
 go_wp2_with (go_at_call 137; (with_reducible refine (rtrim_sign (H1.out _ HA.out.1) hc HD.out _).mono ?_); rintro e wm ⟨k6, g6, rfl, hg6, hk6, hm6, hbq⟩; have HG := Aside0.mk (And.intro hg6 hk6); have hm6 := Aside0.mk hm6; have HO := Aside0.mk (HO.out.below hbq); have hbq := Aside0.mk hbq; have q0 := HO.out.cell0; have q1 := HO.out.cell1; have q4 := HO.out.fr 0; have q5 := HO.out.fr 1; clear hg6 hk6)
 refine bodyPost_ret (v := .agg #[.bool g6, .slice A1 k6 c1]) (by simp [results, Tryz.results78, go_sem, q0, q1]) rfl ⟨k6, c1, by rw [HG.out.1, HV.out.1, HV.out.2], HG.out.2, ?_, ?_⟩
 ·have h := hm6.out
  rw [HV.out.1] at h
  exact (h.bg HO.out 0 _).bg (HO.out.put0 _) 1 _
 ·exact ((HA.out.1.trans (hbq.out.mono HA.out.1.size)).setCell (p := ⟨w.heap.size + 1, 0, none⟩) (by simp) _).setCell (p := ⟨w.heap.size + 1, 1, none⟩) (by simp) _
theorem rMinus_calls {w : World} {A1 A2 : Option Addr} {L1 L2 c1 c2 : Nat} {x y : Int} (h1 : RM w A1 L1 x.natAbs) (h2 : RM w A2 L2 y.natAbs) (hc2 : L2 ≤ c2) (hL1 : L1 ≤ 100000) (hL2 : L2 ≤ 100000) :
 Calls Tryz.prog 84 #[rV A1 L1 c1 x, rV A2 L2 c2 y] w fun e w' => RX w (x - y) e w' := by
 have H1 := h1.at_below
 have HN : Aside0 (∀ W, Below w.heap.size w W → Calls Tryz.prog 78 #[rV A2 L2 c2 y] W fun e w' => ∃ k c, e = .returned (rV A2 k c (-y)) ∧ k ≤ c ∧ RM w' A2 k (-y).natAbs ∧ Below W.heap.size W w') := ⟨fun W hb => rNegative_calls (h2.below hb) hc2⟩
 have HP : Aside0 (∀ W k c, RM W A1 L1 x.natAbs → RM W A2 k (-y).natAbs → Calls Tryz.prog 82 #[rV A1 L1 c1 x, rV A2 k c (-y)] W fun e w' => RX W (x - y) e w') := ⟨fun W k c g1 g2 => by
  have hk : k ≤ 100000 := by rw [Int.natAbs_neg] at g2; rw [← g2.len, h2.len]; exact hL2
  have h := rPlus_calls (c1 := c1) (c2 := c) g1 g2 hL1 hk
  rwa [← Int.sub_eq_add_neg] at h⟩
 unfold RX at *
 unfold rV at *
 generalize decide (x < 0) = f1 at *
 generalize decide (y < 0) = f2 at *
 generalize decide (-y < 0) = f4 at *
 generalize decide (x - y < 0) = f3 at *
 generalize (x - y).natAbs = n3 at *
 generalize (-y).natAbs = n4 at *
 generalize x.natAbs = n1 at *
 clear h1 h2
 go_enter Tryz.func84, Tryz.ntmps84
 go_wp2_with fail
 obtain ⟨wr, hwr⟩ : ∃ wr, (((w.alloc (.cells #[.bool f1, .slice A1 L1 c1] 77)).alloc (.cells #[.bool f2, .slice A2 L2 c2] 77)).alloc (.cells #[.bool false, .slice none 0 0] 77)) = wr := ⟨_, rfl⟩
 have HF : BG wr w.heap.size f1 A1 L1 c1 ∧ BG wr (w.heap.size + 1) f2 A2 L2 c2 ∧ BG wr (w.heap.size + 1 + 1) false none 0 0 := by
  subst hwr
  refine ⟨((BG.new w _ _ _ _).alloc _).alloc _, BG.alloc ?_ _, ?_⟩
  ·have h := BG.new (w.alloc (.cells #[.bool f1, .slice A1 L1 c1] 77)) f2 A2 L2 c2
   simpa using h
  ·have h := BG.new ((w.alloc (.cells #[.bool f1, .slice A1 L1 c1] 77)).alloc (.cells #[.bool f2, .slice A2 L2 c2] 77)) false none 0 0
   simpa using h
 have HX : Aside0 (wr.cell? ⟨w.heap.size, 0, none⟩ = some (.bool f1) ∧ wr.cell? ⟨w.heap.size, 1, none⟩ = some (.slice A1 L1 c1) ∧ wr.cell? ⟨w.heap.size + 1, 0, none⟩ = some (.bool f2) ∧ wr.cell? ⟨w.heap.size + 1, 1, none⟩ = some (.slice A2 L2 c2)) :=
  ⟨HF.1.cell0, HF.1.cell1, HF.2.1.cell0, HF.2.1.cell1⟩
 have HO := Aside0.mk HF.2.2
 have HA : Aside0 (Below w.heap.size w wr ∧ w.heap.size + 3 ≤ wr.heap.size) := ⟨by subst hwr; repeat (first | exact Below.refl _ _ | apply below_alloc), by subst hwr; simp⟩
 have x0 := HX.out.1
 have x1 := HX.out.2.1
 have x2 := HX.out.2.2.1
 have x3 := HX.out.2.2.2
 rw [hwr]
 clear hwr HF
 rename_i Q' K hK
 have KP : Aside0 (∀ V, Below (w.heap.size + 2) wr V → (fun V => V.cell? ⟨w.heap.size, 0, none⟩ = some (.bool f1) ∧ V.cell? ⟨w.heap.size, 1, none⟩ = some (.slice A1 L1 c1) ∧ V.cell? ⟨w.heap.size + 1, 0, none⟩ = some (.bool f2) ∧ V.cell? ⟨w.heap.size + 1, 1, none⟩ = some (.slice A2 L2 c2) ∧ Below (w.heap.size + 2) wr V) V) := ⟨fun V hBB => ⟨keepB hBB (by omega) HX.out.1, keepB hBB (by omega) HX.out.2.1, keepB hBB (by omega) HX.out.2.2.1, keepB hBB (by omega) HX.out.2.2.2, hBB⟩⟩
 refine wq KP fun hHeld => ?_
 refine tp 0 ?_
 try simp only [PU]
 refine tp 1 ?_
 try simp only [PU]
 refine tc 2 fun K hK => ?_
 go_simp
 (go_at_call 78; (with_reducible refine (HN.out _ (HA.out.1.trans (hHeld.2.2.2.2.mono (by omega)))).mono ?_); rintro e wm ⟨k5, c5, rfl, hk5, hm5, hbq⟩; have HO := Aside0.mk ((HO.out.below (below_drew1 (Below.refl _ _))).below hbq); have hm5 := Aside0.mk hm5)
 refine hK.out _ _ ?_ fun hHeld => ?_
 ·(first | exact KP.out _ (bKeep hbq hHeld.2.2.2.2 (by have := HA.out.2; omega)) | (refine KP.out _ ?_; repeat (first | exact hHeld.2.2.2.2 | refine Below.setCell ?_ (by first | (simp; done) | (simp; omega)) _)))
 clear hK K; try simp only [PU]
 refine tc 3 fun K hK => ?_
 go_simp
 (go_at_call 82; (with_reducible refine (HP.out _ _ _ (H1.out _ (HA.out.1.trans (hHeld.2.2.2.2.mono (by omega)))) hm5.out).mono ?_); rintro e wm ⟨A6, k6, c6, rfl, hk6, hm6, hbq⟩; have HO := Aside0.mk (HO.out.below hbq); have hm6 := Aside0.mk hm6; have HK6 := Aside0.mk hk6; have q0 := HO.out.cell0; have q1 := HO.out.cell1; have q4 := HO.out.fr 0; have q5 := HO.out.fr 1)
 refine hK.out _ _ ?_ fun hHeld => ?_
 ·(first | exact KP.out _ (bKeep hbq hHeld.2.2.2.2 (by have := HA.out.2; omega)) | (refine KP.out _ ?_; repeat (first | exact hHeld.2.2.2.2 | refine Below.setCell ?_ (by first | (simp; done) | (simp; omega)) _)))
 clear hK K; try simp only [PU]
 refine tc 4 fun K hK => ?_
 go_simp
 refine hK.out _ _ ?_ fun hHeld => ?_
 ·(first | exact KP.out _ (bKeep hbq hHeld.2.2.2.2 (by have := HA.out.2; omega)) | (refine KP.out _ ?_; repeat (first | exact hHeld.2.2.2.2 | refine Below.setCell ?_ (by first | (simp; done) | (simp; omega)) _)))
 clear hK K; try simp only [PU]
 refine wpAnyH_done (by kernel_rfl) ?_ _
 refine hK _ _ ?_
 go_wp2
 refine bodyPost_ret (v := .agg #[.bool f3, .slice A6 k6 c6]) (by simp [results, Tryz.results84, go_sem, q0, q1]) rfl ⟨A6, k6, c6, rfl, HK6.out, ?_, HA.out.1.trans (hHeld.2.2.2.2.mono (by omega))⟩
 exact (hm6.out.bg HO.out 0 _).bg (HO.out.put0 _) 1 _
theorem cmp_sub (x y : Int) : (x - y = 0 → cmpI x y = 0) ∧ (x - y < 0 → cmpI x y = -1) ∧ (0 < x - y → cmpI x y = 1) := by
 unfold cmpI
 refine ⟨fun h => ?_, fun h => ?_, fun h => ?_⟩
 ·rw [if_neg (by omega), if_neg (by omega)]
 ·rw [if_pos (by omega)]
 ·rw [if_neg (by omega), if_pos (by omega)]
theorem rOrder_calls {w : World} {A1 A2 : Option Addr} {L1 L2 c1 c2 : Nat} {x y : Int} (h1 : RM w A1 L1 x.natAbs) (h2 : RM w A2 L2 y.natAbs) (hc2 : L2 ≤ c2) (hL1 : L1 ≤ 100000) (hL2 : L2 ≤ 100000) :
 Calls Tryz.prog 73 #[rV A1 L1 c1 x, rV A2 L2 c2 y] w fun e w' => e = .returned (.int .i64 (cmpI x y)) ∧ Below w.heap.size w w' := by
 have HM : Aside0 (∀ W, Below w.heap.size w W → Calls Tryz.prog 84 #[rV A1 L1 c1 x, rV A2 L2 c2 y] W fun e w' => RX W (x - y) e w') := ⟨fun W hb => rMinus_calls (h1.below hb) (h2.below hb) hc2 hL1 hL2⟩
 have HC := Aside0.mk (cmp_sub x y)
 unfold RX at *
 unfold rV at *
 generalize decide (x < 0) = f1 at *
 generalize decide (y < 0) = f2 at *
 generalize cmpI x y = q at *
 generalize x - y = z at *
 clear h1 h2 hc2 hL1 hL2
 rcases Int.lt_trichotomy z 0 with hz | hz | hz
 ·have hd : decide (z < 0) = true := decide_eq_true hz
  rw [HC.out.2.1 hz]
  rw [hd] at HM
  have HB := Aside0.mk (Below.refl w.heap.size w)
  go_enter Tryz.func73, Tryz.ntmps73
  go_wp2_with (go_at_call 84; (with_reducible refine (HM.out _ bl).mono ?_); rintro e wm ⟨A6, k6, c6, rfl, hk6, hm6, hb6⟩; have g : ((k6 : Int) == 0) = false := (by have := hm6.len_zero; simp; omega); have HL : Aside0 (Below w.heap.size w wm) := sb hb6; clear HB; have HB := HL; clear HL hm6 hb6)
  go_ret
  exact ⟨rfl, by repeat (first | exact HB.out | apply below_alloc)⟩
 ·have hd : decide (z < 0) = false := decide_eq_false (by omega)
  rw [HC.out.1 hz]
  rw [hd] at HM
  have HB := Aside0.mk (Below.refl w.heap.size w)
  go_enter Tryz.func73, Tryz.ntmps73
  go_wp2_with (go_at_call 84; (with_reducible refine (HM.out _ bl).mono ?_); rintro e wm ⟨A6, k6, c6, rfl, hk6, hm6, hb6⟩; have g : ((k6 : Int) == 0) = true := (by have := hm6.len_zero; simp; omega); have HL : Aside0 (Below w.heap.size w wm) := sb hb6; clear HB; have HB := HL; clear HL hm6 hb6)
  go_ret
  exact ⟨rfl, by repeat (first | exact HB.out | apply below_alloc)⟩
 ·have hd : decide (z < 0) = false := decide_eq_false (by omega)
  rw [HC.out.2.2 hz]
  rw [hd] at HM
  have HB := Aside0.mk (Below.refl w.heap.size w)
  go_enter Tryz.func73, Tryz.ntmps73
  go_wp2_with (go_at_call 84; (with_reducible refine (HM.out _ bl).mono ?_); rintro e wm ⟨A6, k6, c6, rfl, hk6, hm6, hb6⟩; have g : ((k6 : Int) == 0) = false := (by have := hm6.len_zero; simp; omega); have HL : Aside0 (Below w.heap.size w wm) := sb hb6; clear HB; have HB := HL; clear HL hm6 hb6)
  go_ret
  exact ⟨rfl, by repeat (first | exact HB.out | apply below_alloc)⟩
theorem BG.other {W : World} {b b' : Nat} {f : Bool} {A : Option Addr} {L c : Nat} (h : BG W b f A L c) (hne : b ≠ b') (o : Nat) (u : Value) : BG (W.setCell ⟨b', o, none⟩ u) b f A L c := by
 unfold BG at *
 rw [Below.heap_setCell _ _ _ _ hne]
 exact h
theorem BG.low {W X : World} {b B : Nat} {f : Bool} {A : Option Addr} {L c : Nat} (h : BG W b f A L c) (hl : b < B) (hb : Below B W X) : BG X b f A L c := (hb.block b hl).trans h
theorem rSmall_calls {w : World} {n : Int} (h1 : -9223372036854775808 ≤ n) (h2 : n ≤ 9223372036854775807) :
 Calls Tryz.prog 70 #[.int .i64 n] w fun e w' => RX w n e w' := by
 go_enter Tryz.func70, Tryz.ntmps70
 go_wp2_with fail
 have HG : Aside0 (BG ((w.alloc (.cells #[.bool false, .slice none 0 0] 77)).alloc (.cells #[.bool (decide (n < 0)), .slice none 0 0] 77)) (w.heap.size + 1) (decide (n < 0)) none 0 0 ∧ BG ((w.alloc (.cells #[.bool false, .slice none 0 0] 77)).alloc (.cells #[.bool (decide (n < 0)), .slice none 0 0] 77)) w.heap.size false none 0 0) := ⟨by
  refine ⟨?_, (BG.new w _ _ _ _).alloc _⟩
  have h := BG.new (w.alloc (.cells #[.bool false, .slice none 0 0] 77)) (decide (n < 0)) none 0 0
  simpa using h⟩
 go_loopw [0] (fun v0 W => ∃ (k : Int) (out : List Nat) (A : Option Addr) (c : Nat), v0 = .int .i64 k ∧ Aside0 (-9223372036854775808 ≤ k ∧ k ≤ 9223372036854775807 ∧ (k < 0 → n < 0) ∧ (0 < k → ¬ n < 0) ∧ dg QQ n.natAbs = out ++ dg QQ k.natAbs ∧ (dg QQ n.natAbs).length ≤ 5) ∧ Aside0 (BG W (w.heap.size + 1) (decide (n < 0)) A out.length c ∧ BG W w.heap.size false none 0 0 ∧ Kd.R (Kd.int .i64) 3 W (w.heap.size + 2) (fun _ => True) (.slice A out.length c) (li out)) ∧ Aside0 (Below w.heap.size w W ∧ w.heap.size + 2 ≤ W.heap.size)) (fun v0 _ => (intOf v0).natAbs)
 case atStart => exact ⟨n, [], none, 0, rfl, ⟨h1, h2, id, fun h => by omega, rfl, dg_length QQ1 _ _ (by show n.natAbs < 10000 ^ 5; omega)⟩, ⟨HG.out.1, HG.out.2, Kd.R_nil _ _ _ _ _⟩, ⟨by repeat (first | exact Below.refl _ _ | apply below_alloc), by simp⟩⟩
 case round =>
  obtain ⟨k, out, A, c, rfl, HK, HM, HB⟩ := hrel
  have x0 := HM.out.1.cell0
  have x1 := HM.out.1.cell1
  have x4 := HM.out.1.fr 1
  have HLT := Aside0.mk HM.out.1.lt
  have hlt := HM.out.1.lt
  by_cases hk : k = 0
  ·subst hk
   have hK := HK.out
   have e0 : dg QQ n.natAbs = out := by rw [hK.2.2.2.2.1, show (0 : Int).natAbs = 0 from rfl, dg_zero, List.append_nil]
   have g1 : ((0 : Int) != 0) = false := by decide
   have HR : Aside0 (RM wr A out.length n.natAbs ∧ out.length ≤ c) := ⟨by
    have h := Kd.R_reads' HM.out.2.2
    rw [li_len] at h
    exact ⟨by unfold RM RL; rw [e0]; exact h.2.2, h.2.1⟩⟩
   have z0 := HM.out.2.1.cell0
   have z1 := HM.out.2.1.cell1
   have z2 := HM.out.2.1.fr 0
   have z3 := HM.out.2.1.fr 1
   clear hK e0
   go_wp2
   refine bodyPost_ret (v := .agg #[.bool (decide (n < 0)), .slice A out.length c]) (by simp [results, Tryz.results70, go_sem, z0, z1]) rfl ⟨A, out.length, c, rfl, HR.out.2, (HR.out.1.bg HM.out.2.1 0 _).bg (HM.out.2.1.put0 _) 1 _, ?_⟩
   exact ((HB.out.1.setCell (p := ⟨w.heap.size, 0, none⟩) (by simp) _).setCell (p := ⟨w.heap.size, 1, none⟩) (by simp) _)
  ·rcases Int.lt_or_lt_of_ne hk with hk | hk
   ·obtain ⟨a, rfl⟩ : ∃ a : Nat, k = -(a : Int) := ⟨(-k).toNat, by omega⟩
    have g1 : (-(a : Int) != 0) = true := by simp; omega
    have HA : Aside0 (0 < a ∧ dg QQ (-(a : Int)).natAbs = a % 10000 :: dg QQ (a / 10000)) := ⟨by omega, by rw [Int.natAbs_neg]; exact dg_pos QQ1 (by show 0 < a; omega)⟩
    have hout : out.length ≤ 5 := by have h3 := HK.out.2.2.2.2; have h4 := congrArg List.length h3.1; rw [List.length_append] at h4; omega
    have e1 : wrap64 (-((a : Int) / 10000)) = -((a / 10000 : Nat) : Int) := by
     have h := IntWalk.i64_in (-((a : Int) / 10000)) (by have := HK.out; omega)
     rw [i64_w] at h
     rw [h]
     omega
    clear hk
    by_cases hr : a % 10000 = 0
    ·have g2 : decide (-((a : Int) % 10000) < 0) = false := decide_eq_false (by omega)
     have g3 : decide (0 < (a : Int) % 10000) = false := decide_eq_false (by omega)
     have g4 : decide (0 < a % 10000) = false := decide_eq_false (by omega)
     have HR := Aside0.mk hr
     clear hr
     go_wp2_with (first | ((with_reducible refine gate_builtin (b := .append) (xs := #[.tmp 17, .tmp 19]) rfl ?_); at_builtin; (refine Kd.R_append (Kd.int .i64) (w0 := wr) (w.heap.size + 2) rfl (.tmp 17) (.tmp 19) 75 3 (.int .i64 0) 8 rfl Tryz.underlying75 rinfo rfl (by decide) (by omega) (.slice A out.length c) (li out) ((-((a : Int) % 10000))) [.int .i64 ((-((a : Int) % 10000)))] (fun _ => True) (fun _ => False) rfl rfl ?aP (fun _ hk => hk.elim) ?aF ?aO ?aB ?aS ?aL ?_; (case aP => exact rfl); (case aB => exact Below.refl _ _); (case aF => exact (fun _ _ => trivial)); (case aO => exact HM.out.2.2); (case aS => exact HB.out.2); (case aL => rw [li_len]; omega); intro v38 w8 ho hb hg hat; obtain ⟨A2, c2, e2⟩ := Kd.R_slice ho; subst e2; have HO2 := Aside0.mk ho; have HB2 := Aside0.mk hb; have HG8 := Aside0.mk (BG.low HM.out.1 (by omega) hb); have HG0 := Aside0.mk (BG.low HM.out.2.1 (by omega) hb); have y1 := HG8.out.cell1; have y2 := HG8.out.fr 1; clear ho hb hg hat)))
     go_roundw
     case rel =>
      have hK := HK.out
      have hP : ((a % 10000 : Nat) : Int) = (-((a : Int) % 10000)) := by (try have := HR.out); omega
      refine ⟨-((a / 10000 : Nat) : Int), out ++ [a % 10000], A2, c2, congrArg (Value.int .i64) e1, ⟨by have := hK.1; omega, by omega, fun _ => hK.2.2.1 (by have := HA.out.1; omega), fun h => by omega, ?_, hK.2.2.2.2.2⟩, ⟨?_, HG0.out.other (by omega) _ _, ?_⟩, ⟨?_, ?_⟩⟩
      ·rw [hK.2.2.2.2.1, HA.out.2, List.append_assoc, show (-((a / 10000 : Nat) : Int)).natAbs = a / 10000 by omega]; rfl
      ·have h := HG8.out.put1 A2 ((li out).length + 1) c2
       rw [show (out ++ [a % 10000]).length = (li out).length + 1 by rw [li_len]; simp]
       exact h
      ·have h := Kd.R_set HO2.out HG8.out (by decide) 1 (.slice A2 ((li out).length + 1) c2)
       rw [show (out ++ [a % 10000]).length = (li out ++ [(-((a : Int) % 10000))]).length by rw [List.length_append, List.length_append, li_len]; rfl, li_snoc, hP]
       exact h
      ·exact (HB.out.1.trans (HB2.out.mono (by omega))).setCell (p := ⟨w.heap.size + 1, 1, none⟩) (by simp) _
      ·have := HB2.out.size; have := HB.out.2; simp; omega
     case measure =>
      rw [e1]
      have := HA.out.1
      simp only [intOf]
      omega
    ·have g2 : decide (-((a : Int) % 10000) < 0) = true := decide_eq_true (by omega)
     have g3 : decide (0 < (a : Int) % 10000) = true := decide_eq_true (by omega)
     have g4 : decide (0 < a % 10000) = true := decide_eq_true (by omega)
     have HR := Aside0.mk hr
     clear hr
     go_wp2_with (first | ((with_reducible refine gate_builtin (b := .append) (xs := #[.tmp 17, .tmp 19]) rfl ?_); at_builtin; (refine Kd.R_append (Kd.int .i64) (w0 := wr) (w.heap.size + 2) rfl (.tmp 17) (.tmp 19) 75 3 (.int .i64 0) 8 rfl Tryz.underlying75 rinfo rfl (by decide) (by omega) (.slice A out.length c) (li out) (((a : Int) % 10000)) [.int .i64 (((a : Int) % 10000))] (fun _ => True) (fun _ => False) rfl rfl ?aP (fun _ hk => hk.elim) ?aF ?aO ?aB ?aS ?aL ?_; (case aP => exact rfl); (case aB => exact Below.refl _ _); (case aF => exact (fun _ _ => trivial)); (case aO => exact HM.out.2.2); (case aS => exact HB.out.2); (case aL => rw [li_len]; omega); intro v38 w8 ho hb hg hat; obtain ⟨A2, c2, e2⟩ := Kd.R_slice ho; subst e2; have HO2 := Aside0.mk ho; have HB2 := Aside0.mk hb; have HG8 := Aside0.mk (BG.low HM.out.1 (by omega) hb); have HG0 := Aside0.mk (BG.low HM.out.2.1 (by omega) hb); have y1 := HG8.out.cell1; have y2 := HG8.out.fr 1; clear ho hb hg hat)))
     go_roundw
     case rel =>
      have hK := HK.out
      have hP : ((a % 10000 : Nat) : Int) = ((a : Int) % 10000) := by (try have := HR.out); omega
      refine ⟨-((a / 10000 : Nat) : Int), out ++ [a % 10000], A2, c2, congrArg (Value.int .i64) e1, ⟨by have := hK.1; omega, by omega, fun _ => hK.2.2.1 (by have := HA.out.1; omega), fun h => by omega, ?_, hK.2.2.2.2.2⟩, ⟨?_, HG0.out.other (by omega) _ _, ?_⟩, ⟨?_, ?_⟩⟩
      ·rw [hK.2.2.2.2.1, HA.out.2, List.append_assoc, show (-((a / 10000 : Nat) : Int)).natAbs = a / 10000 by omega]; rfl
      ·have h := HG8.out.put1 A2 ((li out).length + 1) c2
       rw [show (out ++ [a % 10000]).length = (li out).length + 1 by rw [li_len]; simp]
       exact h
      ·have h := Kd.R_set HO2.out HG8.out (by decide) 1 (.slice A2 ((li out).length + 1) c2)
       rw [show (out ++ [a % 10000]).length = (li out ++ [((a : Int) % 10000)]).length by rw [List.length_append, List.length_append, li_len]; rfl, li_snoc, hP]
       exact h
      ·exact (HB.out.1.trans (HB2.out.mono (by omega))).setCell (p := ⟨w.heap.size + 1, 1, none⟩) (by simp) _
      ·have := HB2.out.size; have := HB.out.2; simp; omega
     case measure =>
      rw [e1]
      have := HA.out.1
      simp only [intOf]
      omega
   ·obtain ⟨a, rfl⟩ : ∃ a : Nat, k = (a : Int) := ⟨k.toNat, by omega⟩
    have g1 : ((a : Int) != 0) = true := by simp; omega
    have HA : Aside0 (0 < a ∧ dg QQ (a : Int).natAbs = a % 10000 :: dg QQ (a / 10000)) := ⟨by omega, dg_pos QQ1 (by omega)⟩
    have hout : out.length ≤ 5 := by have h3 := HK.out.2.2.2.2; have h4 := congrArg List.length h3.1; rw [List.length_append] at h4; omega
    have g2 : decide ((a : Int) % 10000 < 0) = false := decide_eq_false (by omega)
    clear hk
    have e1 : wrap64 ((a : Int) / 10000) = ((a / 10000 : Nat) : Int) := by
     have h := IntWalk.i64_in ((a : Int) / 10000) (by have := HK.out; omega)
     first | (rw [i64_w] at h; rw [h]; omega) | (show IntKind.i64.wrap _ = _; rw [h]; omega)
    go_wp2_with (first | ((with_reducible refine gate_builtin (b := .append) (xs := #[.tmp 17, .tmp 19]) rfl ?_); at_builtin; (refine Kd.R_append (Kd.int .i64) (w0 := wr) (w.heap.size + 2) rfl (.tmp 17) (.tmp 19) 75 3 (.int .i64 0) 8 rfl Tryz.underlying75 rinfo rfl (by decide) (by omega) (.slice A out.length c) (li out) (((a : Int) % 10000)) [.int .i64 (((a : Int) % 10000))] (fun _ => True) (fun _ => False) rfl rfl ?aP (fun _ hk => hk.elim) ?aF ?aO ?aB ?aS ?aL ?_; (case aP => exact rfl); (case aB => exact Below.refl _ _); (case aF => exact (fun _ _ => trivial)); (case aO => exact HM.out.2.2); (case aS => exact HB.out.2); (case aL => rw [li_len]; omega); intro v38 w8 ho hb hg hat; obtain ⟨A2, c2, e2⟩ := Kd.R_slice ho; subst e2; have HO2 := Aside0.mk ho; have HB2 := Aside0.mk hb; have HG8 := Aside0.mk (BG.low HM.out.1 (by omega) hb); have HG0 := Aside0.mk (BG.low HM.out.2.1 (by omega) hb); have y1 := HG8.out.cell1; have y2 := HG8.out.fr 1; clear ho hb hg hat)))
    go_roundw
    case rel =>
     have hK := HK.out
     have hP : ((a % 10000 : Nat) : Int) = ((a : Int) % 10000) := by (try have := HR.out); omega
     refine ⟨((a / 10000 : Nat) : Int), out ++ [a % 10000], A2, c2, congrArg (Value.int .i64) e1, ⟨by omega, by omega, by omega, fun h => hK.2.2.2.1 (by omega), ?_, hK.2.2.2.2.2⟩, ⟨?_, HG0.out.other (by omega) _ _, ?_⟩, ⟨?_, ?_⟩⟩
     ·rw [hK.2.2.2.2.1, HA.out.2, List.append_assoc, show (((a / 10000 : Nat) : Int)).natAbs = a / 10000 by omega]; rfl
     ·have h := HG8.out.put1 A2 ((li out).length + 1) c2
      rw [show (out ++ [a % 10000]).length = (li out).length + 1 by rw [li_len]; simp]
      exact h
     ·have h := Kd.R_set HO2.out HG8.out (by decide) 1 (.slice A2 ((li out).length + 1) c2)
      rw [show (out ++ [a % 10000]).length = (li out ++ [((a : Int) % 10000)]).length by rw [List.length_append, List.length_append, li_len]; rfl, li_snoc, hP]
      exact h
     ·exact (HB.out.1.trans (HB2.out.mono (by omega))).setCell (p := ⟨w.heap.size + 1, 1, none⟩) (by simp) _
     ·have := HB2.out.size; have := HB.out.2; simp; omega
    case measure =>
     rw [e1]
     have := HA.out.1
     simp only [intOf]
     omega
theorem risDigit_calls (c : Nat) (w : World) :
 Calls Tryz.prog 125 #[.int .u8 (c : Int)] w fun e w' => e = .returned (.bool (decide (48 ≤ c) && decide (c ≤ 57))) ∧ w' = w := by
 by_cases h1 : 48 ≤ c
 ·have g1 : decide ((48 : Int) ≤ (c : Int)) = true := decide_eq_true (by omega)
  by_cases h2 : c ≤ 57
  ·have g2 : decide ((c : Int) ≤ 57) = true := decide_eq_true (by omega)
   go_enter Tryz.func125, Tryz.ntmps125
   go_wp2_with fail
   go_ret
   exact ⟨ret_b (by simp [h1, h2]), rfl⟩
  ·have g2 : decide ((c : Int) ≤ 57) = false := decide_eq_false (by omega)
   go_enter Tryz.func125, Tryz.ntmps125
   go_wp2_with fail
   go_ret
   exact ⟨ret_b (by simp [h1, h2]), rfl⟩
 ·have g1 : decide ((48 : Int) ≤ (c : Int)) = false := decide_eq_false (by omega)
  go_enter Tryz.func125, Tryz.ntmps125
  go_wp2_with fail
  go_ret
  exact ⟨ret_b (by simp [h1]), rfl⟩
/-- What form says. -/
def formB (s : ByteArray) : Bool := digitsB (bodyB s) && !(decide ((bodyB s).data.toList.head? = some 48) && (minusB s || decide (1 < (bodyB s).size)))
theorem minus_cons {s : ByteArray} (h : minusB s = true) : s.data.toList = 45 :: (bodyB s).data.toList := by
 unfold minusB Lib.hasPrefix at h
 unfold bodyB Lib.trimPrefix Lib.hasPrefix
 cases hl : s.data.toList with
 | nil => rw [hl] at h; simp at h
 | cons c l =>
   rw [hl] at h
   have hc : 45 = c := by simpa [List.isPrefixOf] using h
   subst hc
   simp [List.isPrefixOf]
theorem body_self {s : ByteArray} (h : minusB s = false) : bodyB s = s := by
 unfold minusB at h
 unfold bodyB Lib.trimPrefix
 rw [h]
 apply ByteArray.ext
 simp
theorem body_extract {s : ByteArray} (h : minusB s = true) : s.extract 1 s.size = bodyB s ∧ s.size = (bodyB s).size + 1 ∧ ∀ h0 : 0 < s.size, (s[0]'h0).toNat = 45 := by
 have hc := minus_cons h
 have hz : s.size = (bodyB s).size + 1 := by
  have := congrArg List.length hc
  simpa using this
 refine ⟨?_, hz, fun h0 => ?_⟩
 ·apply ByteArray.ext
  apply Array.toList_inj.1
  rw [ByteArray.data_extract, Array.toList_extract, hc]
  simp
  rw [hz]
  exact List.take_of_length_le (by simp)
 ·have hl : 0 < s.data.toList.length := by rw [hc]; simp
  have e : s[0]'h0 = s.data.toList[0]'hl := by simp; rfl
  rw [e]
  simp [hc]
theorem minus_not {s : ByteArray} (h : minusB s = false) (h0 : 0 < s.size) : (s[0]'h0).toNat ≠ 45 := by
 intro e
 unfold minusB Lib.hasPrefix at h
 have hl : 0 < s.data.toList.length := by simpa using h0
 have e1 : s[0]'h0 = s.data.toList[0]'hl := by simp; rfl
 cases hs : s.data.toList with
 | nil => rw [hs] at hl; simp at hl
 | cons c l =>
   rw [hs] at h
   have e2 : s.data.toList[0]'hl = c := by simp [hs]
   rw [e1, e2] at e
   have : c = 45 := UInt8.toNat_inj.1 e
   subst this
   simp [List.isPrefixOf] at h
theorem form_zero {s : ByteArray} (h : (bodyB s).size = 0) : formB s = false := by unfold formB digitsB; simp [h]
theorem form_minus0 {s : ByteArray} (h : s = ⟨#[45, 48]⟩) : formB s = false := by subst h; decide +kernel
theorem head48 {b : ByteArray} (h : 0 < b.size) {c : Nat} (hc : (b[0]'h).toNat = c) : (b.data.toList.head? = some 48) ↔ c = 48 := by
 have hl : 0 < b.data.toList.length := by simpa using h
 have e : b[0]'h = b.data.toList[0]'hl := by simp; rfl
 rw [e] at hc
 cases hb : b.data.toList with
 | nil => rw [hb] at hl; simp at hl
 | cons d l =>
   have e2 : b.data.toList[0]'hl = d := by simp [hb]
   rw [e2] at hc
   simp only [List.head?_cons, Option.some.injEq]
   constructor
   ·intro h; subst h; rw [← hc]; rfl
   ·intro h; rw [h] at hc; exact UInt8.toNat_inj.1 hc
theorem form_lead {s : ByteArray} (h : 0 < (bodyB s).size) {c : Nat} (hc : ((bodyB s)[0]'h).toNat = c) (h48 : c = 48) (h1 : 1 < (bodyB s).size) : formB s = false := by
 unfold formB
 rw [decide_eq_true ((head48 h hc).2 h48), decide_eq_true h1]
 simp
theorem form_ok {s : ByteArray} (h : 0 < (bodyB s).size) {c : Nat} (hc : ((bodyB s)[0]'h).toNat = c) (h0 : s ≠ ⟨#[45, 48]⟩) (h1 : ¬ 1 < (bodyB s).size ∨ c ≠ 48) : formB s = digitsB (bodyB s) := by
 unfold formB
 by_cases h48 : c = 48
 ·have h2 : ¬ 1 < (bodyB s).size := h1.resolve_right (fun h => h h48)
  cases hm : minusB s
  ·rw [decide_eq_false h2]; simp
  ·exfalso
   apply h0
   apply ByteArray.ext
   apply Array.toList_inj.1
   rw [minus_cons hm]
   have hh := (head48 h hc).2 h48
   have hl : (bodyB s).data.toList.length = 1 := by (have : (bodyB s).data.toList.length = (bodyB s).size := by simp); omega
   cases hb : (bodyB s).data.toList with
   | nil => rw [hb] at hl; simp at hl
   | cons d l =>
     rw [hb] at hh hl
     simp at hh hl
     subst hh hl
     rfl
 ·rw [decide_eq_false (fun h2 => h48 ((head48 h hc).1 h2))]
  simp
theorem rform_calls (s : ByteArray) (hs : s.size ≤ 1000000) (w : World) :
 Calls Tryz.prog 66 #[.string s] w fun e w' => e = .returned (.bool (formB s)) ∧ Below w.heap.size w w' := by
 obtain ⟨b, hb⟩ : ∃ b, bodyB s = b := ⟨_, rfl⟩
 obtain ⟨r, hr⟩ : ∃ r, formB s = r := ⟨_, rfl⟩
 rw [hr]
 cases hm : minusB s
 ·have hbs := body_self hm
  rw [hb] at hbs
  subst hbs
  by_cases hs0 : 0 < b.size
  ·have hne := minus_not hm hs0
   obtain ⟨a, ha⟩ : ∃ a : Nat, (b[0]'hs0).toNat = a := ⟨_, rfl⟩
   rw [ha] at hne
   have hx0 : ∀ h : 0 < b.size, ((b[0]'h).toNat : Int) = (a : Int) := fun h => by rw [ha]
   have g2 : ((a : Int) == 45) = false := by simp; omega
   have g1 : decide ((0 : Int) < (b.size : Int)) = true := decide_eq_true (by omega)
   have q1 : (0 < b.size) = True := eq_true (by omega)
   have q2 : ((0 : Int) < (b.size : Int)) = True := eq_true (by omega)
   have HS : Aside0 (b = b) := ⟨rfl⟩
   clear hne
   by_cases hb0 : b.size = 0
   ·have g3 : ((b.size : Int) == 0) = true := by rw [beq_iff_eq]; omega
    obtain rfl : r = false := by rw [← hr]; exact form_zero (by rw [hb]; exact hb0)
    clear hb hr hm
    go_enter Tryz.func66, Tryz.ntmps66
    go_wp2_with fail
    go_ret
    exact ⟨rfl, Below.refl _ _⟩
   ·have g3 : ((b.size : Int) == 0) = false := by rw [beq_eq_false_iff_ne]; omega
    have hb1 : 0 < b.size := by omega
    obtain ⟨c, hc⟩ : ∃ c : Nat, (b[0]'hb1).toNat = c := ⟨_, rfl⟩
    (obtain rfl : c = a := hc.symm.trans ha)
    have hxb : ∀ h : 0 < b.size, ((b[0]'h).toNat : Int) = (c : Int) := fun h => by rw [hc]
    have q5 : (0 < b.size) = True := eq_true hb1
    have q6 : ((0 : Int) < (b.size : Int)) = True := eq_true (by omega)
    by_cases hm0 : b = ⟨#[45, 48]⟩
    ·have g4 : ((b).toList == [45, 48]) = true := by rw [hm0]; decide +kernel
     obtain rfl : r = false := by rw [← hr]; exact form_minus0 hm0
     clear hb hr hm hc hm0
     go_enter Tryz.func66, Tryz.ntmps66
     go_wp2_with fail
     go_ret
     exact ⟨rfl, Below.refl _ _⟩
    ·have g4 : ((b).toList == [45, 48]) = false := beq_no (b := ⟨#[45, 48]⟩) rfl hm0
     by_cases h1 : 1 < b.size
     ·have g5 : decide ((1 : Int) < (b.size : Int)) = true := decide_eq_true (by omega)
      by_cases h48 : c = 48
      ·have g6 : ((c : Int) == 48) = true := by simp; omega
       obtain rfl : r = false := by rw [← hr]; exact form_lead (s := b) (by rw [hb]; exact hb1) (c := c) (by have := hc; simp only [hb]; exact this) h48 (by rw [hb]; exact h1)
       clear hb hr hm hc hm0
       go_enter Tryz.func66, Tryz.ntmps66
       go_wp2_with fail
       go_ret
       exact ⟨rfl, Below.refl _ _⟩
      ·have g6 : ((c : Int) == 48) = false := by simp; omega
       obtain rfl : r = digitsB b := by rw [← hr, form_ok (s := b) (by rw [hb]; exact hb1) (c := c) (by have := hc; simp only [hb]; exact this) hm0 (by rw [hb]; omega), hb]
       have hbz : b.size ≤ 1000000 := by have := bodyB_size b; rw [hb] at this; omega
       clear hb hr hm hc hm0
       go_enter Tryz.func66, Tryz.ntmps66
       go_wp2_with fail
       go_loopw [4] (fun v4 W => ∃ i : Nat, v4 = .int .i64 (i : Int) ∧ i ≤ b.size ∧ Aside0 ((b.data.toList.take i).all isDig = true) ∧ W = w) (fun v4 _ => b.size - (intOf v4).toNat)
       case atStart => exact ⟨0, rfl, Nat.zero_le _, ⟨by simp⟩, by first | rfl | trivial⟩
       case round =>
        obtain ⟨i, rfl, hi, hall, rfl⟩ := hrel
        by_cases hlt : i < b.size
        ·obtain ⟨d, hd⟩ : ∃ d : Nat, (b[i]'hlt).toNat = d := ⟨_, rfl⟩
         have HD : Aside0 ((b[i]'hlt).toNat = d) := ⟨hd⟩
         have hxd : ∀ h : i < b.size, ((b[i]'h).toNat : Int) = (d : Int) := fun h => by rw [hd]
         have q7 : (i < b.size) = True := eq_true hlt
         have q8 : ((i : Int) < (b.size : Int)) = True := eq_true (by omega)
         have g7 : decide ((i : Int) < (b.size : Int)) = true := decide_eq_true (by omega)
         have e1 : IntKind.i64.wrap ((i : Int) + 1) = ((i + 1 : Nat) : Int) := by rw [IntWalk.i64_in _ (by omega)]; omega
         clear hd
         obtain ⟨z, hzz⟩ : ∃ z, (decide (48 ≤ d) && decide (d ≤ 57)) = z := ⟨_, rfl⟩
         have HZ := Aside0.mk hzz
         clear hzz
         cases z
         ·go_wp2_with (go_at_call 125; (with_reducible refine (risDigit_calls d _).mono ?_); rw [HZ.out]; rintro e wx ⟨rfl, hwx⟩; rw [hwx]; clear hwx wx)
          go_ret
          exact ⟨ret_b (all_false hlt (by unfold isDig; rw [HD.out]; exact HZ.out)).symm, Below.refl _ _⟩
         ·go_wp2_with (go_at_call 125; (with_reducible refine (risDigit_calls d _).mono ?_); rw [HZ.out]; rintro e wx ⟨rfl, hwx⟩; rw [hwx]; clear hwx wx)
          go_roundw
          case rel => exact ⟨i + 1, by first | rfl | go_num, hlt, ⟨by rw [all_take_succ hlt, hall.out]; unfold isDig; rw [HD.out, HZ.out]; rfl⟩, by first | rfl | trivial⟩
          case measure => simp [intOf]; omega
        ·have g7 : decide ((i : Int) < (b.size : Int)) = false := decide_eq_false (by omega)
         have q8 : ¬ ((i : Int) < (b.size : Int)) := by omega
         have HF : Aside0 (digitsB b = true) := ⟨by
          have h := hall.out
          rw [List.take_of_length_le (by (have : b.data.toList.length = b.size := by simp); omega)] at h
          unfold digitsB
          rw [h, Bool.true_and]
          exact decide_eq_true (by omega)⟩
         go_wp2
         go_ret
         exact ⟨ret_b HF.out.symm, Below.refl _ _⟩
     ·have g5 : decide ((1 : Int) < (b.size : Int)) = false := decide_eq_false (by omega)
      obtain rfl : r = digitsB b := by rw [← hr, form_ok (s := b) (by rw [hb]; exact hb1) (c := c) (by have := hc; simp only [hb]; exact this) hm0 (by rw [hb]; omega), hb]
      have hbz : b.size ≤ 1000000 := by have := bodyB_size b; rw [hb] at this; omega
      clear hb hr hm hc hm0
      go_enter Tryz.func66, Tryz.ntmps66
      go_wp2_with fail
      go_loopw [4] (fun v4 W => ∃ i : Nat, v4 = .int .i64 (i : Int) ∧ i ≤ b.size ∧ Aside0 ((b.data.toList.take i).all isDig = true) ∧ W = w) (fun v4 _ => b.size - (intOf v4).toNat)
      case atStart => exact ⟨0, rfl, Nat.zero_le _, ⟨by simp⟩, by first | rfl | trivial⟩
      case round =>
       obtain ⟨i, rfl, hi, hall, rfl⟩ := hrel
       by_cases hlt : i < b.size
       ·obtain ⟨d, hd⟩ : ∃ d : Nat, (b[i]'hlt).toNat = d := ⟨_, rfl⟩
        have HD : Aside0 ((b[i]'hlt).toNat = d) := ⟨hd⟩
        have hxd : ∀ h : i < b.size, ((b[i]'h).toNat : Int) = (d : Int) := fun h => by rw [hd]
        have q7 : (i < b.size) = True := eq_true hlt
        have q8 : ((i : Int) < (b.size : Int)) = True := eq_true (by omega)
        have g7 : decide ((i : Int) < (b.size : Int)) = true := decide_eq_true (by omega)
        have e1 : IntKind.i64.wrap ((i : Int) + 1) = ((i + 1 : Nat) : Int) := by rw [IntWalk.i64_in _ (by omega)]; omega
        clear hd
        obtain ⟨z, hzz⟩ : ∃ z, (decide (48 ≤ d) && decide (d ≤ 57)) = z := ⟨_, rfl⟩
        have HZ := Aside0.mk hzz
        clear hzz
        cases z
        ·go_wp2_with (go_at_call 125; (with_reducible refine (risDigit_calls d _).mono ?_); rw [HZ.out]; rintro e wx ⟨rfl, hwx⟩; rw [hwx]; clear hwx wx)
         go_ret
         exact ⟨ret_b (all_false hlt (by unfold isDig; rw [HD.out]; exact HZ.out)).symm, Below.refl _ _⟩
        ·go_wp2_with (go_at_call 125; (with_reducible refine (risDigit_calls d _).mono ?_); rw [HZ.out]; rintro e wx ⟨rfl, hwx⟩; rw [hwx]; clear hwx wx)
         go_roundw
         case rel => exact ⟨i + 1, by first | rfl | go_num, hlt, ⟨by rw [all_take_succ hlt, hall.out]; unfold isDig; rw [HD.out, HZ.out]; rfl⟩, by first | rfl | trivial⟩
         case measure => simp [intOf]; omega
       ·have g7 : decide ((i : Int) < (b.size : Int)) = false := decide_eq_false (by omega)
        have q8 : ¬ ((i : Int) < (b.size : Int)) := by omega
        have HF : Aside0 (digitsB b = true) := ⟨by
         have h := hall.out
         rw [List.take_of_length_le (by (have : b.data.toList.length = b.size := by simp); omega)] at h
         unfold digitsB
         rw [h, Bool.true_and]
         exact decide_eq_true (by omega)⟩
        go_wp2
        go_ret
        exact ⟨ret_b HF.out.symm, Below.refl _ _⟩
  ·have g1 : decide ((0 : Int) < (b.size : Int)) = false := decide_eq_false (by omega)
   have g3 : ((b.size : Int) == 0) = true := by rw [beq_iff_eq]; omega
   obtain rfl : r = false := by rw [← hr]; exact form_zero (by rw [hb]; omega)
   clear hb hr hm
   go_enter Tryz.func66, Tryz.ntmps66
   go_wp2_with fail
   go_ret
   exact ⟨rfl, Below.refl _ _⟩
 ·obtain ⟨hx, hz, h0⟩ := body_extract hm
  rw [hb] at hx hz
  have hx0 : ∀ h : 0 < s.size, ((s[0]'h).toNat : Int) = 45 := fun h => by have := h0 h; omega
  have g1 : decide ((0 : Int) < (s.size : Int)) = true := decide_eq_true (by omega)
  have q1 : (0 < s.size) = True := eq_true (by omega)
  have q2 : ((0 : Int) < (s.size : Int)) = True := eq_true (by omega)
  have q3 : ((1 : Int) ≤ (s.size : Int)) = True := eq_true (by omega)
  have q4 : (1 ≤ s.size) = True := eq_true (by omega)
  clear h0 hz
  by_cases hb0 : b.size = 0
  ·have g3 : ((b.size : Int) == 0) = true := by rw [beq_iff_eq]; omega
   obtain rfl : r = false := by rw [← hr]; exact form_zero (by rw [hb]; exact hb0)
   clear hb hr hm
   go_enter Tryz.func66, Tryz.ntmps66
   go_wp2_with fail
   go_ret
   exact ⟨rfl, Below.refl _ _⟩
  ·have g3 : ((b.size : Int) == 0) = false := by rw [beq_eq_false_iff_ne]; omega
   have hb1 : 0 < b.size := by omega
   obtain ⟨c, hc⟩ : ∃ c : Nat, (b[0]'hb1).toNat = c := ⟨_, rfl⟩
   skip
   have hxb : ∀ h : 0 < b.size, ((b[0]'h).toNat : Int) = (c : Int) := fun h => by rw [hc]
   have q5 : (0 < b.size) = True := eq_true hb1
   have q6 : ((0 : Int) < (b.size : Int)) = True := eq_true (by omega)
   by_cases hm0 : s = ⟨#[45, 48]⟩
   ·have g4 : ((s).toList == [45, 48]) = true := by rw [hm0]; decide +kernel
    obtain rfl : r = false := by rw [← hr]; exact form_minus0 hm0
    clear hb hr hm hc hm0
    go_enter Tryz.func66, Tryz.ntmps66
    go_wp2_with fail
    go_ret
    exact ⟨rfl, Below.refl _ _⟩
   ·have g4 : ((s).toList == [45, 48]) = false := beq_no (b := ⟨#[45, 48]⟩) rfl hm0
    by_cases h1 : 1 < b.size
    ·have g5 : decide ((1 : Int) < (b.size : Int)) = true := decide_eq_true (by omega)
     by_cases h48 : c = 48
     ·have g6 : ((c : Int) == 48) = true := by simp; omega
      obtain rfl : r = false := by rw [← hr]; exact form_lead (s := s) (by rw [hb]; exact hb1) (c := c) (by have := hc; simp only [hb]; exact this) h48 (by rw [hb]; exact h1)
      clear hb hr hm hc hm0
      go_enter Tryz.func66, Tryz.ntmps66
      go_wp2_with fail
      go_ret
      exact ⟨rfl, Below.refl _ _⟩
     ·have g6 : ((c : Int) == 48) = false := by simp; omega
      obtain rfl : r = digitsB b := by rw [← hr, form_ok (s := s) (by rw [hb]; exact hb1) (c := c) (by have := hc; simp only [hb]; exact this) hm0 (by rw [hb]; omega), hb]
      have hbz : b.size ≤ 1000000 := by have := bodyB_size s; rw [hb] at this; omega
      clear hb hr hm hc hm0
      go_enter Tryz.func66, Tryz.ntmps66
      go_wp2_with fail
      go_loopw [4] (fun v4 W => ∃ i : Nat, v4 = .int .i64 (i : Int) ∧ i ≤ b.size ∧ Aside0 ((b.data.toList.take i).all isDig = true) ∧ W = w) (fun v4 _ => b.size - (intOf v4).toNat)
      case atStart => exact ⟨0, rfl, Nat.zero_le _, ⟨by simp⟩, by first | rfl | trivial⟩
      case round =>
       obtain ⟨i, rfl, hi, hall, rfl⟩ := hrel
       by_cases hlt : i < b.size
       ·obtain ⟨d, hd⟩ : ∃ d : Nat, (b[i]'hlt).toNat = d := ⟨_, rfl⟩
        have HD : Aside0 ((b[i]'hlt).toNat = d) := ⟨hd⟩
        have hxd : ∀ h : i < b.size, ((b[i]'h).toNat : Int) = (d : Int) := fun h => by rw [hd]
        have q7 : (i < b.size) = True := eq_true hlt
        have q8 : ((i : Int) < (b.size : Int)) = True := eq_true (by omega)
        have g7 : decide ((i : Int) < (b.size : Int)) = true := decide_eq_true (by omega)
        have e1 : IntKind.i64.wrap ((i : Int) + 1) = ((i + 1 : Nat) : Int) := by rw [IntWalk.i64_in _ (by omega)]; omega
        clear hd
        obtain ⟨z, hzz⟩ : ∃ z, (decide (48 ≤ d) && decide (d ≤ 57)) = z := ⟨_, rfl⟩
        have HZ := Aside0.mk hzz
        clear hzz
        cases z
        ·go_wp2_with (go_at_call 125; (with_reducible refine (risDigit_calls d _).mono ?_); rw [HZ.out]; rintro e wx ⟨rfl, hwx⟩; rw [hwx]; clear hwx wx)
         go_ret
         exact ⟨ret_b (all_false hlt (by unfold isDig; rw [HD.out]; exact HZ.out)).symm, Below.refl _ _⟩
        ·go_wp2_with (go_at_call 125; (with_reducible refine (risDigit_calls d _).mono ?_); rw [HZ.out]; rintro e wx ⟨rfl, hwx⟩; rw [hwx]; clear hwx wx)
         go_roundw
         case rel => exact ⟨i + 1, by first | rfl | go_num, hlt, ⟨by rw [all_take_succ hlt, hall.out]; unfold isDig; rw [HD.out, HZ.out]; rfl⟩, by first | rfl | trivial⟩
         case measure => simp [intOf]; omega
       ·have g7 : decide ((i : Int) < (b.size : Int)) = false := decide_eq_false (by omega)
        have q8 : ¬ ((i : Int) < (b.size : Int)) := by omega
        have HF : Aside0 (digitsB b = true) := ⟨by
         have h := hall.out
         rw [List.take_of_length_le (by (have : b.data.toList.length = b.size := by simp); omega)] at h
         unfold digitsB
         rw [h, Bool.true_and]
         exact decide_eq_true (by omega)⟩
        go_wp2
        go_ret
        exact ⟨ret_b HF.out.symm, Below.refl _ _⟩
    ·have g5 : decide ((1 : Int) < (b.size : Int)) = false := decide_eq_false (by omega)
     obtain rfl : r = digitsB b := by rw [← hr, form_ok (s := s) (by rw [hb]; exact hb1) (c := c) (by have := hc; simp only [hb]; exact this) hm0 (by rw [hb]; omega), hb]
     have hbz : b.size ≤ 1000000 := by have := bodyB_size s; rw [hb] at this; omega
     clear hb hr hm hc hm0
     go_enter Tryz.func66, Tryz.ntmps66
     go_wp2_with fail
     go_loopw [4] (fun v4 W => ∃ i : Nat, v4 = .int .i64 (i : Int) ∧ i ≤ b.size ∧ Aside0 ((b.data.toList.take i).all isDig = true) ∧ W = w) (fun v4 _ => b.size - (intOf v4).toNat)
     case atStart => exact ⟨0, rfl, Nat.zero_le _, ⟨by simp⟩, by first | rfl | trivial⟩
     case round =>
      obtain ⟨i, rfl, hi, hall, rfl⟩ := hrel
      by_cases hlt : i < b.size
      ·obtain ⟨d, hd⟩ : ∃ d : Nat, (b[i]'hlt).toNat = d := ⟨_, rfl⟩
       have HD : Aside0 ((b[i]'hlt).toNat = d) := ⟨hd⟩
       have hxd : ∀ h : i < b.size, ((b[i]'h).toNat : Int) = (d : Int) := fun h => by rw [hd]
       have q7 : (i < b.size) = True := eq_true hlt
       have q8 : ((i : Int) < (b.size : Int)) = True := eq_true (by omega)
       have g7 : decide ((i : Int) < (b.size : Int)) = true := decide_eq_true (by omega)
       have e1 : IntKind.i64.wrap ((i : Int) + 1) = ((i + 1 : Nat) : Int) := by rw [IntWalk.i64_in _ (by omega)]; omega
       clear hd
       obtain ⟨z, hzz⟩ : ∃ z, (decide (48 ≤ d) && decide (d ≤ 57)) = z := ⟨_, rfl⟩
       have HZ := Aside0.mk hzz
       clear hzz
       cases z
       ·go_wp2_with (go_at_call 125; (with_reducible refine (risDigit_calls d _).mono ?_); rw [HZ.out]; rintro e wx ⟨rfl, hwx⟩; rw [hwx]; clear hwx wx)
        go_ret
        exact ⟨ret_b (all_false hlt (by unfold isDig; rw [HD.out]; exact HZ.out)).symm, Below.refl _ _⟩
       ·go_wp2_with (go_at_call 125; (with_reducible refine (risDigit_calls d _).mono ?_); rw [HZ.out]; rintro e wx ⟨rfl, hwx⟩; rw [hwx]; clear hwx wx)
        go_roundw
        case rel => exact ⟨i + 1, by first | rfl | go_num, hlt, ⟨by rw [all_take_succ hlt, hall.out]; unfold isDig; rw [HD.out, HZ.out]; rfl⟩, by first | rfl | trivial⟩
        case measure => simp [intOf]; omega
      ·have g7 : decide ((i : Int) < (b.size : Int)) = false := decide_eq_false (by omega)
       have q8 : ¬ ((i : Int) < (b.size : Int)) := by omega
       have HF : Aside0 (digitsB b = true) := ⟨by
        have h := hall.out
        rw [List.take_of_length_le (by (have : b.data.toList.length = b.size := by simp); omega)] at h
        unfold digitsB
        rw [h, Bool.true_and]
        exact decide_eq_true (by omega)⟩
       go_wp2
       go_ret
       exact ⟨ret_b HF.out.symm, Below.refl _ _⟩
theorem check_form (s : ByteArray) : checkI s = if formB s = true then (if 120 < (bodyB s).size then 4 else 0) else 1 := by
 unfold checkI formB
 cases hd : digitsB (bodyB s)
 ·simp
 ·rw [if_neg (by simp)]
  by_cases h1 : (bodyB s).data.toList.head? = some 48
  ·by_cases h2 : minusB s = true ∨ 1 < (bodyB s).size
   ·rw [if_pos ⟨h1, h2⟩]
    have : (minusB s || decide (1 < (bodyB s).size)) = true := by
     rcases h2 with h2 | h2
     ·rw [h2]; rfl
     ·rw [decide_eq_true h2, Bool.or_true]
    rw [this, decide_eq_true h1]
    simp
   ·rw [if_neg (fun h => h2 h.2)]
    have : (minusB s || decide (1 < (bodyB s).size)) = false := by
     cases hm : minusB s
     ·rw [Bool.false_or]; exact decide_eq_false (fun h => h2 (.inr h))
     ·exact absurd (.inl hm) h2
    rw [this]
    simp
  ·rw [if_neg (fun h => h1 h.1)]
   rw [decide_eq_false h1]
   simp
theorem rCheck_calls (s : ByteArray) (hs : s.size ≤ 1000000) (w : World) :
 Calls Tryz.prog 13 #[.string s] w fun e w' => e = .returned (.int .i64 (checkI s)) ∧ Below w.heap.size w w' := by
 rw [check_form]
 have hF := rform_calls s hs w
 cases hf : formB s
 ·rw [hf] at hF
  have HF := Aside0.mk hF
  clear hF hf
  rw [if_neg (by decide)]
  go_enter Tryz.func13, Tryz.ntmps13
  go_wp2_with (go_at_call 66; (with_reducible refine HF.out.mono ?_); rintro e wx ⟨rfl, hbx⟩; have HB := Aside0.mk hbx; clear hbx)
  go_ret
  exact ⟨rfl, HB.out⟩
 ·rw [hf] at hF
  have HF := Aside0.mk hF
  rw [if_pos rfl]
  have hd : 0 < (bodyB s).size := by
   unfold formB at hf
   simp only [Bool.and_eq_true] at hf
   exact digits_pos hf.1
  clear hF hf
  obtain ⟨b, hb⟩ : ∃ b, bodyB s = b := ⟨_, rfl⟩
  rw [hb] at hd ⊢
  cases hm : minusB s
  ·have hbs := body_self hm
   rw [hb] at hbs
   subst hbs
   have hne := minus_not hm hd
   obtain ⟨a, ha⟩ : ∃ a : Nat, (b[0]'hd).toNat = a := ⟨_, rfl⟩
   rw [ha] at hne
   have hx0 : ∀ h : 0 < b.size, ((b[0]'h).toNat : Int) = (a : Int) := fun h => by rw [ha]
   have g2 : ((a : Int) == 45) = false := by rw [beq_eq_false_iff_ne]; omega
   have q1 : (0 < b.size) = True := eq_true hd
   have q2 : ((0 : Int) < (b.size : Int)) = True := eq_true (by omega)
   clear ha hne hb hm
   by_cases h120 : 120 < b.size
   ·have g5 : decide ((120 : Int) < (b.size : Int)) = true := decide_eq_true (by omega)
    rw [if_pos h120]
    go_enter Tryz.func13, Tryz.ntmps13
    go_wp2_with (first | (go_at_call 66; (with_reducible refine HF.out.mono ?_); rintro e wx ⟨rfl, hbx⟩; have HB := Aside0.mk hbx; clear hbx) | (go_at_call 67; (with_reducible refine (rwhen_calls _ 4 _).mono ?_); rintro e wy ⟨rfl, hwy⟩; rw [hwy]; clear hwy wy))
    go_ret
    exact ⟨by simp, HB.out⟩
   ·have g5 : decide ((120 : Int) < (b.size : Int)) = false := decide_eq_false (by omega)
    rw [if_neg h120]
    go_enter Tryz.func13, Tryz.ntmps13
    go_wp2_with (first | (go_at_call 66; (with_reducible refine HF.out.mono ?_); rintro e wx ⟨rfl, hbx⟩; have HB := Aside0.mk hbx; clear hbx) | (go_at_call 67; (with_reducible refine (rwhen_calls _ 4 _).mono ?_); rintro e wy ⟨rfl, hwy⟩; rw [hwy]; clear hwy wy))
    go_ret
    exact ⟨by simp, HB.out⟩
  ·obtain ⟨hx, hz, h0⟩ := body_extract hm
   rw [hb] at hx hz
   have hx0 : ∀ h : 0 < s.size, ((s[0]'h).toNat : Int) = 45 := fun h => by have := h0 h; omega
   have q1 : (0 < s.size) = True := eq_true (by omega)
   have q2 : ((0 : Int) < (s.size : Int)) = True := eq_true (by omega)
   have e1 : IntKind.i64.wrap ((s.size : Int) - 1) = (b.size : Int) := by rw [IntWalk.i64_in _ (by omega)]; omega
   clear h0 hz hx hb hm
   by_cases h120 : 120 < b.size
   ·have g5 : decide ((120 : Int) < (b.size : Int)) = true := decide_eq_true (by omega)
    rw [if_pos h120]
    go_enter Tryz.func13, Tryz.ntmps13
    go_wp2_with (first | (go_at_call 66; (with_reducible refine HF.out.mono ?_); rintro e wx ⟨rfl, hbx⟩; have HB := Aside0.mk hbx; clear hbx) | (go_at_call 67; (with_reducible refine (rwhen_calls _ 4 _).mono ?_); rintro e wy ⟨rfl, hwy⟩; rw [hwy]; clear hwy wy))
    go_ret
    exact ⟨by simp, HB.out⟩
   ·have g5 : decide ((120 : Int) < (b.size : Int)) = false := decide_eq_false (by omega)
    rw [if_neg h120]
    go_enter Tryz.func13, Tryz.ntmps13
    go_wp2_with (first | (go_at_call 66; (with_reducible refine HF.out.mono ?_); rintro e wx ⟨rfl, hbx⟩; have HB := Aside0.mk hbx; clear hbx) | (go_at_call 67; (with_reducible refine (rwhen_calls _ 4 _).mono ?_); rintro e wy ⟨rfl, hwy⟩; rw [hwy]; clear hwy wy))
    go_ret
    exact ⟨by simp, HB.out⟩
theorem read_two (w : World) (f : Bool) : BG ((w.alloc (.cells #[.bool false, .slice none 0 0] 77)).alloc (.cells #[.bool f, .slice none 0 0] 77)) (w.heap.size + 1) f none 0 0 ∧ BG ((w.alloc (.cells #[.bool false, .slice none 0 0] 77)).alloc (.cells #[.bool f, .slice none 0 0] 77)) w.heap.size false none 0 0 ∧ Below w.heap.size w ((w.alloc (.cells #[.bool false, .slice none 0 0] 77)).alloc (.cells #[.bool f, .slice none 0 0] 77)) ∧ w.heap.size + 2 ≤ ((w.alloc (.cells #[.bool false, .slice none 0 0] 77)).alloc (.cells #[.bool f, .slice none 0 0] 77)).heap.size := by
 refine ⟨?_, (BG.new w _ _ _ _).alloc _, by repeat (first | exact Below.refl _ _ | apply below_alloc), by simp⟩
 have h := BG.new (w.alloc (.cells #[.bool false, .slice none 0 0] 77)) f none 0 0
 simpa using h
theorem rRead_calls (s : ByteArray) (hs : s.size ≤ 90000) (hd : digitsB (bodyB s) = true) (w : World) :
 Calls Tryz.prog 72 #[.string s] w fun e w' => RX w (intI s) e w' := by
 have h0 := digits_pos hd
 have hbz := bodyB_size s
 have HI : Aside0 ((minusB s && decide (dv (bodyB s).data.toList ≠ 0)) = decide (intI s < 0) ∧ (intI s).natAbs = dv (bodyB s).data.toList) := ⟨by
  unfold intI
  generalize dv (bodyB s).data.toList = V
  cases minusB s
  ·first | (simp; done) | (simp; omega)
  ·first | (simp; done) | (simp; omega) | (simp; rw [Bool.eq_iff_iff]; simp; done) | (simp; rw [Bool.eq_iff_iff]; simp; omega)⟩
 have HDG : Aside0 (DG (bodyB s).data.toList) := ⟨isDig_of (by unfold digitsB at hd; simp only [Bool.and_eq_true] at hd; exact hd.1)⟩
 generalize intI s = z at *
 obtain ⟨b, hb⟩ : ∃ b, bodyB s = b := ⟨_, rfl⟩
 cases hm : minusB s
 ·have hbs := body_self hm
  rw [hb] at hbs
  subst hbs
  rw [hm] at HI
  rw [hb] at HI HDG h0
  have hne := minus_not hm h0
  obtain ⟨a, ha⟩ : ∃ a : Nat, (b[0]'h0).toNat = a := ⟨_, rfl⟩
  rw [ha] at hne
  have hx0 : ∀ h : 0 < b.size, ((b[0]'h).toNat : Int) = (a : Int) := fun h => by rw [ha]
  have g2 : ((a : Int) == 45) = false := by simp; omega
  have q1 : (0 < b.size) = True := eq_true (by omega)
  have q2 : ((0 : Int) < (b.size : Int)) = True := eq_true (by omega)
  clear hne ha hm hb hbz hd
  go_enter Tryz.func72, Tryz.ntmps72
  go_wp2_with fail
  have HG : Aside0 (BG ((w.alloc (.cells #[.bool false, .slice none 0 0] 77)).alloc (.cells #[.bool false, .slice none 0 0] 77)) (w.heap.size + 1) false none 0 0 ∧ BG ((w.alloc (.cells #[.bool false, .slice none 0 0] 77)).alloc (.cells #[.bool false, .slice none 0 0] 77)) w.heap.size false none 0 0 ∧ Below w.heap.size w ((w.alloc (.cells #[.bool false, .slice none 0 0] 77)).alloc (.cells #[.bool false, .slice none 0 0] 77)) ∧ w.heap.size + 2 ≤ ((w.alloc (.cells #[.bool false, .slice none 0 0] 77)).alloc (.cells #[.bool false, .slice none 0 0] 77)).heap.size) := ⟨(read_two w false)⟩
  go_loopw [4] (fun v4 W => ∃ (k : Int) (out : List Nat) (A : Option Addr) (c : Nat), v4 = .int .i64 k ∧ -4 < k ∧ k ≤ b.size ∧ Aside0 (((0 < k → 4 * out.length + k = b.size) ∧ 4 * out.length ≤ b.size + 3) ∧ (∀ d ∈ out, d < QQ) ∧ val QQ out + QQ ^ out.length * dv (b.data.toList.take k.toNat) = dv b.data.toList) ∧ Aside0 (BG W (w.heap.size + 1) false A out.length c ∧ BG W w.heap.size false none 0 0 ∧ Kd.R (Kd.int .i64) 3 W (w.heap.size + 2) (fun _ => True) (.slice A out.length c) (li out)) ∧ Aside0 (Below w.heap.size w W ∧ w.heap.size + 2 ≤ W.heap.size)) (fun v4 _ => (intOf v4).toNat)
  case atStart => exact ⟨(b.size : Int), [], none, 0, by first | rfl | go_num, by omega, Int.le_refl _, ⟨⟨fun _ => by simp, by simp⟩, by simp, by rw [Int.toNat_natCast, List.take_of_length_le (by simp)]; simp [val]⟩, ⟨HG.out.1, HG.out.2.1, Kd.R_nil _ _ _ _ _⟩, ⟨HG.out.2.2.1, HG.out.2.2.2⟩⟩
  case round =>
   obtain ⟨k, out, A, c, rfl, hk1, hk2, HK, HM, HB⟩ := hrel
   obtain ⟨X, rfl⟩ : ∃ X, X = wr := ⟨_, rfl⟩
   have x0 := HM.out.1.cell0
   have x1 := HM.out.1.cell1
   have x4 := HM.out.1.fr 1
   have hlt1 := HM.out.1.lt
   have hout : out.length ≤ 30000 := by have := HK.out.1.2; omega
   by_cases hk : 0 < k
   ·have hbl : b.data.toList.length = b.size := by simp
    by_cases h4 : 4 < k
    ·have h4' : ¬ k < 4 := by omega
     have e4 : IntKind.i64.wrap (k - 4) = k - 4 := IntWalk.i64_in _ (by omega)
     have g4 : (0 : Int) < k - 4 := by omega
     have g4' : ¬ (k - 4 : Int) < 0 := by omega
     have g5 : max (0 : Int) (k - 4) = k - 4 := by omega
     have hst4 : k.toNat ≤ (k.toNat - 4) + 4 ∧ ((k.toNat - 4 : Nat) : Int) = k - 4 := by omega
     clear h4
     obtain ⟨st, hst0⟩ : ∃ st : Nat, k.toNat - 4 = st := ⟨_, rfl⟩
     rw [hst0] at hst4
     go_wp2
     go_loopw [5, 6] (fun v5 v6 W => ∃ (i v : Nat), v5 = .int .i64 (v : Int) ∧ v6 = .int .i64 (i : Int) ∧ st ≤ i ∧ (i : Int) ≤ k ∧ Aside0 (v = dv ((b.data.toList.take i).drop st)) ∧ W = X) (fun _ v6 _ => k.toNat - (intOf v6).toNat)
     case atStart => exact ⟨st, 0, rfl, by first | rfl | (exact congrArg (Value.int .i64) (by omega)), Nat.le_refl _, by omega, ⟨by rw [List.drop_of_length_le (by rw [List.length_take]; exact Nat.min_le_left _ _)]; rfl⟩, rfl⟩
     case round =>
      obtain ⟨i, v, rfl, rfl, hst, hik, HV, rfl⟩ := hrel
      have hv : v < 10000 := by
       have h := dv_lt ((b.data.toList.take i).drop st) (fun c hc => HDG.out c (List.mem_of_mem_take (List.mem_of_mem_drop hc)))
       have hl : ((b.data.toList.take i).drop st).length ≤ 4 := by rw [List.length_drop, List.length_take]; omega
       have h2 := Nat.pow_le_pow_right (n := 10) (by decide) hl
       have := HV.out
       omega
      by_cases hlt : (i : Int) < k
      ·have hib : i < b.size := by omega
       obtain ⟨d, hd⟩ : ∃ d : Nat, (b[i]'hib).toNat = d := ⟨_, rfl⟩
       have hxd : ∀ h : i < b.size, ((b[i]'h).toNat : Int) = (d : Int) := fun h => by rw [hd]
       have hil : i < b.data.toList.length := by rw [hbl]; exact hib
       have hdl : (b.data.toList[i]'hil).toNat = d := by rw [← hd]; simp; rfl
       have hd2 : 48 ≤ d ∧ d ≤ 57 := by rw [← hdl]; exact HDG.out _ (List.getElem_mem _)
       have HN : Aside0 (10 * v + (d - 48) = dv ((b.data.toList.take (i + 1)).drop st)) := ⟨by rw [dv_piece hil hst, hdl, ← HV.out]⟩
       have q7 : (i < b.size) = True := eq_true hib
       have q8 : ((i : Int) < (b.size : Int)) = True := eq_true (by omega)
       have u1 : IntKind.u8.wrap ((d : Int) - 48) = (d : Int) - 48 := by simp [IntKind.wrap, IntKind.bits, IntKind.signed]; omega
       have u1' : ((d : Int) - 48) % 256 = (d : Int) - 48 := by omega
       have u2 : IntKind.i64.wrap ((d : Int) - 48) = (d : Int) - 48 := IntWalk.i64_in _ (by omega)
       have u3 : IntKind.i64.wrap (10 * (v : Int)) = 10 * (v : Int) := IntWalk.i64_in _ (by omega)
       have u4 : IntKind.i64.wrap (10 * (v : Int) + ((d : Int) - 48)) = 10 * (v : Int) + ((d : Int) - 48) := IntWalk.i64_in _ (by omega)
       have e1 : IntKind.i64.wrap ((i : Int) + 1) = ((i + 1 : Nat) : Int) := by rw [IntWalk.i64_in _ (by omega)]; omega
       clear hd hdl hil
       go_wp2
       go_roundw
       case rel => exact ⟨i + 1, 10 * v + (d - 48), congrArg (Value.int .i64) (by omega), by first | rfl | go_num, by omega, by omega, HN, by first | rfl | trivial⟩
       case measure => simp [intOf]; omega
      ·have hik2 : i = k.toNat := by omega
       subst hik2
       clear hlt hst hik
       go_wp2_with (first | ((with_reducible refine gate_builtin (b := .append) (xs := #[.tmp 36, .tmp 38]) rfl ?_); at_builtin; (refine Kd.R_append (Kd.int .i64) (w0 := wr) (w.heap.size + 2) rfl (.tmp 36) (.tmp 38) 75 3 (.int .i64 0) 8 rfl Tryz.underlying75 rinfo rfl (by decide) (by omega) (.slice A out.length c) (li out) (v : Int) [.int .i64 (v : Int)] (fun _ => True) (fun _ => False) rfl rfl ?aP (fun _ hk => hk.elim) ?aF ?aO ?aB ?aS ?aL ?_; (case aP => exact rfl); (case aB => exact Below.refl _ _); (case aF => exact (fun _ _ => trivial)); (case aO => exact HM.out.2.2); (case aS => exact HB.out.2); (case aL => rw [li_len]; omega); intro v38 w8 ho hb hg hat; obtain ⟨A2, c2, e2⟩ := Kd.R_slice ho; subst e2; have HO2 := Aside0.mk ho; have HB2 := Aside0.mk hb; have HG8 := Aside0.mk (BG.low HM.out.1 (by omega) hb); have HG0 := Aside0.mk (BG.low HM.out.2.1 (by omega) hb); have y1 := HG8.out.cell1; have y2 := HG8.out.fr 1; clear ho hb hg hat)))
       go_roundw
       case rel =>
        refine ⟨k - 4, out ++ [v], A2, c2, by first | rfl | go_num, by omega, by omega, ⟨?_⟩, ⟨?_, HG0.out.other (by omega) _ _, ?_⟩, ⟨?_, ?_⟩⟩
        ·(exact ⟨⟨fun _ => by have := HK.out.1.1 (by omega); simp; omega, by have := HK.out.1.1 (by omega); simp; omega⟩, fun e he => (List.mem_append.1 he).elim (HK.out.2.1 e) (fun he => by rw [List.mem_singleton.1 he]; exact hv), by have hc := dv_cut (l := b.data.toList) (i := st) (j := k.toNat) (by omega) (by omega); have h := HK.out.2.2; rw [hc] at h; have hp := parse_step h (by rw [List.length_drop, List.length_take]; rw [show min k.toNat b.data.toList.length - st = 4 by omega]); rw [HV.out, show (k - 4).toNat = st by omega]; exact hp⟩)
        ·have h := HG8.out.put1 A2 ((li out).length + 1) c2
         rw [show (out ++ [v]).length = (li out).length + 1 by rw [li_len]; simp]
         exact h
        ·have h := Kd.R_set HO2.out HG8.out (by decide) 1 (.slice A2 ((li out).length + 1) c2)
         rw [show (out ++ [v]).length = (li out ++ [(v : Int)]).length by rw [List.length_append, List.length_append, li_len]; rfl, li_snoc]
         exact h
        ·exact (HB.out.1.trans (HB2.out.mono (by omega))).setCell (p := ⟨w.heap.size + 1, 1, none⟩) (by simp) _
        ·have := HB2.out.size; have := HB.out.2; simp; omega
       case measure => simp [intOf]; omega
    ·have e4 : IntKind.i64.wrap (k - 4) = k - 4 := IntWalk.i64_in _ (by omega)
     have g5 : max (0 : Int) (k - 4) = 0 := by omega
     have g4 : ¬ (0 : Int) < k - 4 := by omega
     obtain ⟨st, hst0⟩ : ∃ st : Nat, st = 0 := ⟨_, rfl⟩
     have hst4 : k.toNat ≤ st + 4 ∧ (st : Int) = 0 := by omega
     go_wp2
     go_loopw [5, 6] (fun v5 v6 W => ∃ (i v : Nat), v5 = .int .i64 (v : Int) ∧ v6 = .int .i64 (i : Int) ∧ st ≤ i ∧ (i : Int) ≤ k ∧ Aside0 (v = dv ((b.data.toList.take i).drop st)) ∧ W = X) (fun _ v6 _ => k.toNat - (intOf v6).toNat)
     case atStart => exact ⟨st, 0, rfl, by first | rfl | (exact congrArg (Value.int .i64) (by omega)), Nat.le_refl _, by omega, ⟨by rw [List.drop_of_length_le (by rw [List.length_take]; exact Nat.min_le_left _ _)]; rfl⟩, rfl⟩
     case round =>
      obtain ⟨i, v, rfl, rfl, hst, hik, HV, rfl⟩ := hrel
      have hv : v < 10000 := by
       have h := dv_lt ((b.data.toList.take i).drop st) (fun c hc => HDG.out c (List.mem_of_mem_take (List.mem_of_mem_drop hc)))
       have hl : ((b.data.toList.take i).drop st).length ≤ 4 := by rw [List.length_drop, List.length_take]; omega
       have h2 := Nat.pow_le_pow_right (n := 10) (by decide) hl
       have := HV.out
       omega
      by_cases hlt : (i : Int) < k
      ·have hib : i < b.size := by omega
       obtain ⟨d, hd⟩ : ∃ d : Nat, (b[i]'hib).toNat = d := ⟨_, rfl⟩
       have hxd : ∀ h : i < b.size, ((b[i]'h).toNat : Int) = (d : Int) := fun h => by rw [hd]
       have hil : i < b.data.toList.length := by rw [hbl]; exact hib
       have hdl : (b.data.toList[i]'hil).toNat = d := by rw [← hd]; simp; rfl
       have hd2 : 48 ≤ d ∧ d ≤ 57 := by rw [← hdl]; exact HDG.out _ (List.getElem_mem _)
       have HN : Aside0 (10 * v + (d - 48) = dv ((b.data.toList.take (i + 1)).drop st)) := ⟨by rw [dv_piece hil hst, hdl, ← HV.out]⟩
       have q7 : (i < b.size) = True := eq_true hib
       have q8 : ((i : Int) < (b.size : Int)) = True := eq_true (by omega)
       have u1 : IntKind.u8.wrap ((d : Int) - 48) = (d : Int) - 48 := by simp [IntKind.wrap, IntKind.bits, IntKind.signed]; omega
       have u1' : ((d : Int) - 48) % 256 = (d : Int) - 48 := by omega
       have u2 : IntKind.i64.wrap ((d : Int) - 48) = (d : Int) - 48 := IntWalk.i64_in _ (by omega)
       have u3 : IntKind.i64.wrap (10 * (v : Int)) = 10 * (v : Int) := IntWalk.i64_in _ (by omega)
       have u4 : IntKind.i64.wrap (10 * (v : Int) + ((d : Int) - 48)) = 10 * (v : Int) + ((d : Int) - 48) := IntWalk.i64_in _ (by omega)
       have e1 : IntKind.i64.wrap ((i : Int) + 1) = ((i + 1 : Nat) : Int) := by rw [IntWalk.i64_in _ (by omega)]; omega
       clear hd hdl hil
       go_wp2
       go_roundw
       case rel => exact ⟨i + 1, 10 * v + (d - 48), congrArg (Value.int .i64) (by omega), by first | rfl | go_num, by omega, by omega, HN, by first | rfl | trivial⟩
       case measure => simp [intOf]; omega
      ·have hik2 : i = k.toNat := by omega
       subst hik2
       clear hlt hst hik
       go_wp2_with (first | ((with_reducible refine gate_builtin (b := .append) (xs := #[.tmp 36, .tmp 38]) rfl ?_); at_builtin; (refine Kd.R_append (Kd.int .i64) (w0 := wr) (w.heap.size + 2) rfl (.tmp 36) (.tmp 38) 75 3 (.int .i64 0) 8 rfl Tryz.underlying75 rinfo rfl (by decide) (by omega) (.slice A out.length c) (li out) (v : Int) [.int .i64 (v : Int)] (fun _ => True) (fun _ => False) rfl rfl ?aP (fun _ hk => hk.elim) ?aF ?aO ?aB ?aS ?aL ?_; (case aP => exact rfl); (case aB => exact Below.refl _ _); (case aF => exact (fun _ _ => trivial)); (case aO => exact HM.out.2.2); (case aS => exact HB.out.2); (case aL => rw [li_len]; omega); intro v38 w8 ho hb hg hat; obtain ⟨A2, c2, e2⟩ := Kd.R_slice ho; subst e2; have HO2 := Aside0.mk ho; have HB2 := Aside0.mk hb; have HG8 := Aside0.mk (BG.low HM.out.1 (by omega) hb); have HG0 := Aside0.mk (BG.low HM.out.2.1 (by omega) hb); have y1 := HG8.out.cell1; have y2 := HG8.out.fr 1; clear ho hb hg hat)))
       go_roundw
       case rel =>
        refine ⟨k - 4, out ++ [v], A2, c2, by first | rfl | go_num, by omega, by omega, ⟨?_⟩, ⟨?_, HG0.out.other (by omega) _ _, ?_⟩, ⟨?_, ?_⟩⟩
        ·(exact ⟨⟨fun h => by omega, by have := HK.out.1.1 (by omega); simp; omega⟩, fun e he => (List.mem_append.1 he).elim (HK.out.2.1 e) (fun he => by rw [List.mem_singleton.1 he]; exact hv), by have h := HK.out.2.2; have hp := parse_last h; rw [HV.out, show (k - 4).toNat = 0 by omega, hst0]; simpa [dv] using hp⟩)
        ·have h := HG8.out.put1 A2 ((li out).length + 1) c2
         rw [show (out ++ [v]).length = (li out).length + 1 by rw [li_len]; simp]
         exact h
        ·have h := Kd.R_set HO2.out HG8.out (by decide) 1 (.slice A2 ((li out).length + 1) c2)
         rw [show (out ++ [v]).length = (li out ++ [(v : Int)]).length by rw [List.length_append, List.length_append, li_len]; rfl, li_snoc]
         exact h
        ·exact (HB.out.1.trans (HB2.out.mono (by omega))).setCell (p := ⟨w.heap.size + 1, 1, none⟩) (by simp) _
        ·have := HB2.out.size; have := HB.out.2; simp; omega
       case measure => simp [intOf]; omega
   ·have hV : val QQ out = dv b.data.toList := by
     have h := HK.out.2.2
     rw [show k.toNat = 0 by omega] at h
     simpa [dv] using h
    have HR : Aside0 (RL X A out.length out ∧ out.length ≤ c ∧ (∀ d ∈ out, d < QQ)) := ⟨by
     have h := Kd.R_reads' HM.out.2.2
     rw [li_len] at h
     exact ⟨h.2.2, h.2.1, HK.out.2.1⟩⟩
    have HVV := Aside0.mk hV
    have HO := Aside0.mk HM.out.2.1
    clear hV HK hk1 hk2
    go_wp2_with (go_at_call 137; (with_reducible refine (rtrim_sign HR.out.1 HR.out.2.1 HR.out.2.2 _).mono ?_); rintro e wm ⟨k6, g6, rfl, hg6, hk6, hm6, hbq⟩; have HG6 := Aside0.mk (And.intro hg6 hk6); clear hg6 hk6; have HO2 := Aside0.mk (HO.out.below hbq); have hm6 := Aside0.mk hm6; have HBQ := Aside0.mk hbq; clear hbq; have q0 := HO2.out.cell0; have q1 := HO2.out.cell1; have q4 := HO2.out.fr 0; have q5 := HO2.out.fr 1)
    refine bodyPost_ret (v := .agg #[.bool g6, .slice A k6 c]) (by simp [results, Tryz.results72, go_sem, q0, q1]) rfl (RX.of (n := val QQ out) rfl ?_ HG6.out.2 ?_ ?_ ?_)
    ·rw [HG6.out.1, HVV.out]; exact HI.out.1
    ·exact HVV.out.trans HI.out.2.symm
    ·exact (hm6.out.bg HO2.out 0 _).bg (HO2.out.put0 _) 1 _
    ·exact ((HB.out.1.trans (HBQ.out.mono (Nat.le_trans (by omega) HB.out.2))).setCell (by simp) _).setCell (by simp) _
 ·obtain ⟨hx, hz, h1⟩ := body_extract hm
  rw [hb] at hx hz
  rw [hm] at HI
  rw [hb] at HI HDG h0
  have hx0 : ∀ h : 0 < s.size, ((s[0]'h).toNat : Int) = 45 := fun h => by have := h1 h; omega
  have q1 : (0 < s.size) = True := eq_true (by omega)
  have q2 : ((0 : Int) < (s.size : Int)) = True := eq_true (by omega)
  have q3 : ((1 : Int) ≤ (s.size : Int)) = True := eq_true (by omega)
  have q4 : (1 ≤ s.size) = True := eq_true (by omega)
  have hsb : b.size ≤ 90000 := by omega
  clear h1 hm hb hbz hd hz
  go_enter Tryz.func72, Tryz.ntmps72
  go_wp2_with fail
  have HG : Aside0 (BG ((w.alloc (.cells #[.bool false, .slice none 0 0] 77)).alloc (.cells #[.bool true, .slice none 0 0] 77)) (w.heap.size + 1) true none 0 0 ∧ BG ((w.alloc (.cells #[.bool false, .slice none 0 0] 77)).alloc (.cells #[.bool true, .slice none 0 0] 77)) w.heap.size false none 0 0 ∧ Below w.heap.size w ((w.alloc (.cells #[.bool false, .slice none 0 0] 77)).alloc (.cells #[.bool true, .slice none 0 0] 77)) ∧ w.heap.size + 2 ≤ ((w.alloc (.cells #[.bool false, .slice none 0 0] 77)).alloc (.cells #[.bool true, .slice none 0 0] 77)).heap.size) := ⟨(read_two w true)⟩
  go_loopw [4] (fun v4 W => ∃ (k : Int) (out : List Nat) (A : Option Addr) (c : Nat), v4 = .int .i64 k ∧ -4 < k ∧ k ≤ b.size ∧ Aside0 (((0 < k → 4 * out.length + k = b.size) ∧ 4 * out.length ≤ b.size + 3) ∧ (∀ d ∈ out, d < QQ) ∧ val QQ out + QQ ^ out.length * dv (b.data.toList.take k.toNat) = dv b.data.toList) ∧ Aside0 (BG W (w.heap.size + 1) true A out.length c ∧ BG W w.heap.size false none 0 0 ∧ Kd.R (Kd.int .i64) 3 W (w.heap.size + 2) (fun _ => True) (.slice A out.length c) (li out)) ∧ Aside0 (Below w.heap.size w W ∧ w.heap.size + 2 ≤ W.heap.size)) (fun v4 _ => (intOf v4).toNat)
  case atStart => exact ⟨(b.size : Int), [], none, 0, by first | rfl | go_num, by omega, Int.le_refl _, ⟨⟨fun _ => by simp, by simp⟩, by simp, by rw [Int.toNat_natCast, List.take_of_length_le (by simp)]; simp [val]⟩, ⟨HG.out.1, HG.out.2.1, Kd.R_nil _ _ _ _ _⟩, ⟨HG.out.2.2.1, HG.out.2.2.2⟩⟩
  case round =>
   obtain ⟨k, out, A, c, rfl, hk1, hk2, HK, HM, HB⟩ := hrel
   obtain ⟨X, rfl⟩ : ∃ X, X = wr := ⟨_, rfl⟩
   have x0 := HM.out.1.cell0
   have x1 := HM.out.1.cell1
   have x4 := HM.out.1.fr 1
   have hlt1 := HM.out.1.lt
   have hout : out.length ≤ 30000 := by have := HK.out.1.2; omega
   by_cases hk : 0 < k
   ·have hbl : b.data.toList.length = b.size := by simp
    by_cases h4 : 4 < k
    ·have h4' : ¬ k < 4 := by omega
     have e4 : IntKind.i64.wrap (k - 4) = k - 4 := IntWalk.i64_in _ (by omega)
     have g4 : (0 : Int) < k - 4 := by omega
     have g4' : ¬ (k - 4 : Int) < 0 := by omega
     have g5 : max (0 : Int) (k - 4) = k - 4 := by omega
     have hst4 : k.toNat ≤ (k.toNat - 4) + 4 ∧ ((k.toNat - 4 : Nat) : Int) = k - 4 := by omega
     clear h4
     obtain ⟨st, hst0⟩ : ∃ st : Nat, k.toNat - 4 = st := ⟨_, rfl⟩
     rw [hst0] at hst4
     go_wp2
     go_loopw [5, 6] (fun v5 v6 W => ∃ (i v : Nat), v5 = .int .i64 (v : Int) ∧ v6 = .int .i64 (i : Int) ∧ st ≤ i ∧ (i : Int) ≤ k ∧ Aside0 (v = dv ((b.data.toList.take i).drop st)) ∧ W = X) (fun _ v6 _ => k.toNat - (intOf v6).toNat)
     case atStart => exact ⟨st, 0, rfl, by first | rfl | (exact congrArg (Value.int .i64) (by omega)), Nat.le_refl _, by omega, ⟨by rw [List.drop_of_length_le (by rw [List.length_take]; exact Nat.min_le_left _ _)]; rfl⟩, rfl⟩
     case round =>
      obtain ⟨i, v, rfl, rfl, hst, hik, HV, rfl⟩ := hrel
      have hv : v < 10000 := by
       have h := dv_lt ((b.data.toList.take i).drop st) (fun c hc => HDG.out c (List.mem_of_mem_take (List.mem_of_mem_drop hc)))
       have hl : ((b.data.toList.take i).drop st).length ≤ 4 := by rw [List.length_drop, List.length_take]; omega
       have h2 := Nat.pow_le_pow_right (n := 10) (by decide) hl
       have := HV.out
       omega
      by_cases hlt : (i : Int) < k
      ·have hib : i < b.size := by omega
       obtain ⟨d, hd⟩ : ∃ d : Nat, (b[i]'hib).toNat = d := ⟨_, rfl⟩
       have hxd : ∀ h : i < b.size, ((b[i]'h).toNat : Int) = (d : Int) := fun h => by rw [hd]
       have hil : i < b.data.toList.length := by rw [hbl]; exact hib
       have hdl : (b.data.toList[i]'hil).toNat = d := by rw [← hd]; simp; rfl
       have hd2 : 48 ≤ d ∧ d ≤ 57 := by rw [← hdl]; exact HDG.out _ (List.getElem_mem _)
       have HN : Aside0 (10 * v + (d - 48) = dv ((b.data.toList.take (i + 1)).drop st)) := ⟨by rw [dv_piece hil hst, hdl, ← HV.out]⟩
       have q7 : (i < b.size) = True := eq_true hib
       have q8 : ((i : Int) < (b.size : Int)) = True := eq_true (by omega)
       have u1 : IntKind.u8.wrap ((d : Int) - 48) = (d : Int) - 48 := by simp [IntKind.wrap, IntKind.bits, IntKind.signed]; omega
       have u1' : ((d : Int) - 48) % 256 = (d : Int) - 48 := by omega
       have u2 : IntKind.i64.wrap ((d : Int) - 48) = (d : Int) - 48 := IntWalk.i64_in _ (by omega)
       have u3 : IntKind.i64.wrap (10 * (v : Int)) = 10 * (v : Int) := IntWalk.i64_in _ (by omega)
       have u4 : IntKind.i64.wrap (10 * (v : Int) + ((d : Int) - 48)) = 10 * (v : Int) + ((d : Int) - 48) := IntWalk.i64_in _ (by omega)
       have e1 : IntKind.i64.wrap ((i : Int) + 1) = ((i + 1 : Nat) : Int) := by rw [IntWalk.i64_in _ (by omega)]; omega
       clear hd hdl hil
       go_wp2
       go_roundw
       case rel => exact ⟨i + 1, 10 * v + (d - 48), congrArg (Value.int .i64) (by omega), by first | rfl | go_num, by omega, by omega, HN, by first | rfl | trivial⟩
       case measure => simp [intOf]; omega
      ·have hik2 : i = k.toNat := by omega
       subst hik2
       clear hlt hst hik
       go_wp2_with (first | ((with_reducible refine gate_builtin (b := .append) (xs := #[.tmp 36, .tmp 38]) rfl ?_); at_builtin; (refine Kd.R_append (Kd.int .i64) (w0 := wr) (w.heap.size + 2) rfl (.tmp 36) (.tmp 38) 75 3 (.int .i64 0) 8 rfl Tryz.underlying75 rinfo rfl (by decide) (by omega) (.slice A out.length c) (li out) (v : Int) [.int .i64 (v : Int)] (fun _ => True) (fun _ => False) rfl rfl ?aP (fun _ hk => hk.elim) ?aF ?aO ?aB ?aS ?aL ?_; (case aP => exact rfl); (case aB => exact Below.refl _ _); (case aF => exact (fun _ _ => trivial)); (case aO => exact HM.out.2.2); (case aS => exact HB.out.2); (case aL => rw [li_len]; omega); intro v38 w8 ho hb hg hat; obtain ⟨A2, c2, e2⟩ := Kd.R_slice ho; subst e2; have HO2 := Aside0.mk ho; have HB2 := Aside0.mk hb; have HG8 := Aside0.mk (BG.low HM.out.1 (by omega) hb); have HG0 := Aside0.mk (BG.low HM.out.2.1 (by omega) hb); have y1 := HG8.out.cell1; have y2 := HG8.out.fr 1; clear ho hb hg hat)))
       go_roundw
       case rel =>
        refine ⟨k - 4, out ++ [v], A2, c2, by first | rfl | go_num, by omega, by omega, ⟨?_⟩, ⟨?_, HG0.out.other (by omega) _ _, ?_⟩, ⟨?_, ?_⟩⟩
        ·(exact ⟨⟨fun _ => by have := HK.out.1.1 (by omega); simp; omega, by have := HK.out.1.1 (by omega); simp; omega⟩, fun e he => (List.mem_append.1 he).elim (HK.out.2.1 e) (fun he => by rw [List.mem_singleton.1 he]; exact hv), by have hc := dv_cut (l := b.data.toList) (i := st) (j := k.toNat) (by omega) (by omega); have h := HK.out.2.2; rw [hc] at h; have hp := parse_step h (by rw [List.length_drop, List.length_take]; rw [show min k.toNat b.data.toList.length - st = 4 by omega]); rw [HV.out, show (k - 4).toNat = st by omega]; exact hp⟩)
        ·have h := HG8.out.put1 A2 ((li out).length + 1) c2
         rw [show (out ++ [v]).length = (li out).length + 1 by rw [li_len]; simp]
         exact h
        ·have h := Kd.R_set HO2.out HG8.out (by decide) 1 (.slice A2 ((li out).length + 1) c2)
         rw [show (out ++ [v]).length = (li out ++ [(v : Int)]).length by rw [List.length_append, List.length_append, li_len]; rfl, li_snoc]
         exact h
        ·exact (HB.out.1.trans (HB2.out.mono (by omega))).setCell (p := ⟨w.heap.size + 1, 1, none⟩) (by simp) _
        ·have := HB2.out.size; have := HB.out.2; simp; omega
       case measure => simp [intOf]; omega
    ·have e4 : IntKind.i64.wrap (k - 4) = k - 4 := IntWalk.i64_in _ (by omega)
     have g5 : max (0 : Int) (k - 4) = 0 := by omega
     have g4 : ¬ (0 : Int) < k - 4 := by omega
     obtain ⟨st, hst0⟩ : ∃ st : Nat, st = 0 := ⟨_, rfl⟩
     have hst4 : k.toNat ≤ st + 4 ∧ (st : Int) = 0 := by omega
     go_wp2
     go_loopw [5, 6] (fun v5 v6 W => ∃ (i v : Nat), v5 = .int .i64 (v : Int) ∧ v6 = .int .i64 (i : Int) ∧ st ≤ i ∧ (i : Int) ≤ k ∧ Aside0 (v = dv ((b.data.toList.take i).drop st)) ∧ W = X) (fun _ v6 _ => k.toNat - (intOf v6).toNat)
     case atStart => exact ⟨st, 0, rfl, by first | rfl | (exact congrArg (Value.int .i64) (by omega)), Nat.le_refl _, by omega, ⟨by rw [List.drop_of_length_le (by rw [List.length_take]; exact Nat.min_le_left _ _)]; rfl⟩, rfl⟩
     case round =>
      obtain ⟨i, v, rfl, rfl, hst, hik, HV, rfl⟩ := hrel
      have hv : v < 10000 := by
       have h := dv_lt ((b.data.toList.take i).drop st) (fun c hc => HDG.out c (List.mem_of_mem_take (List.mem_of_mem_drop hc)))
       have hl : ((b.data.toList.take i).drop st).length ≤ 4 := by rw [List.length_drop, List.length_take]; omega
       have h2 := Nat.pow_le_pow_right (n := 10) (by decide) hl
       have := HV.out
       omega
      by_cases hlt : (i : Int) < k
      ·have hib : i < b.size := by omega
       obtain ⟨d, hd⟩ : ∃ d : Nat, (b[i]'hib).toNat = d := ⟨_, rfl⟩
       have hxd : ∀ h : i < b.size, ((b[i]'h).toNat : Int) = (d : Int) := fun h => by rw [hd]
       have hil : i < b.data.toList.length := by rw [hbl]; exact hib
       have hdl : (b.data.toList[i]'hil).toNat = d := by rw [← hd]; simp; rfl
       have hd2 : 48 ≤ d ∧ d ≤ 57 := by rw [← hdl]; exact HDG.out _ (List.getElem_mem _)
       have HN : Aside0 (10 * v + (d - 48) = dv ((b.data.toList.take (i + 1)).drop st)) := ⟨by rw [dv_piece hil hst, hdl, ← HV.out]⟩
       have q7 : (i < b.size) = True := eq_true hib
       have q8 : ((i : Int) < (b.size : Int)) = True := eq_true (by omega)
       have u1 : IntKind.u8.wrap ((d : Int) - 48) = (d : Int) - 48 := by simp [IntKind.wrap, IntKind.bits, IntKind.signed]; omega
       have u1' : ((d : Int) - 48) % 256 = (d : Int) - 48 := by omega
       have u2 : IntKind.i64.wrap ((d : Int) - 48) = (d : Int) - 48 := IntWalk.i64_in _ (by omega)
       have u3 : IntKind.i64.wrap (10 * (v : Int)) = 10 * (v : Int) := IntWalk.i64_in _ (by omega)
       have u4 : IntKind.i64.wrap (10 * (v : Int) + ((d : Int) - 48)) = 10 * (v : Int) + ((d : Int) - 48) := IntWalk.i64_in _ (by omega)
       have e1 : IntKind.i64.wrap ((i : Int) + 1) = ((i + 1 : Nat) : Int) := by rw [IntWalk.i64_in _ (by omega)]; omega
       clear hd hdl hil
       go_wp2
       go_roundw
       case rel => exact ⟨i + 1, 10 * v + (d - 48), congrArg (Value.int .i64) (by omega), by first | rfl | go_num, by omega, by omega, HN, by first | rfl | trivial⟩
       case measure => simp [intOf]; omega
      ·have hik2 : i = k.toNat := by omega
       subst hik2
       clear hlt hst hik
       go_wp2_with (first | ((with_reducible refine gate_builtin (b := .append) (xs := #[.tmp 36, .tmp 38]) rfl ?_); at_builtin; (refine Kd.R_append (Kd.int .i64) (w0 := wr) (w.heap.size + 2) rfl (.tmp 36) (.tmp 38) 75 3 (.int .i64 0) 8 rfl Tryz.underlying75 rinfo rfl (by decide) (by omega) (.slice A out.length c) (li out) (v : Int) [.int .i64 (v : Int)] (fun _ => True) (fun _ => False) rfl rfl ?aP (fun _ hk => hk.elim) ?aF ?aO ?aB ?aS ?aL ?_; (case aP => exact rfl); (case aB => exact Below.refl _ _); (case aF => exact (fun _ _ => trivial)); (case aO => exact HM.out.2.2); (case aS => exact HB.out.2); (case aL => rw [li_len]; omega); intro v38 w8 ho hb hg hat; obtain ⟨A2, c2, e2⟩ := Kd.R_slice ho; subst e2; have HO2 := Aside0.mk ho; have HB2 := Aside0.mk hb; have HG8 := Aside0.mk (BG.low HM.out.1 (by omega) hb); have HG0 := Aside0.mk (BG.low HM.out.2.1 (by omega) hb); have y1 := HG8.out.cell1; have y2 := HG8.out.fr 1; clear ho hb hg hat)))
       go_roundw
       case rel =>
        refine ⟨k - 4, out ++ [v], A2, c2, by first | rfl | go_num, by omega, by omega, ⟨?_⟩, ⟨?_, HG0.out.other (by omega) _ _, ?_⟩, ⟨?_, ?_⟩⟩
        ·(exact ⟨⟨fun h => by omega, by have := HK.out.1.1 (by omega); simp; omega⟩, fun e he => (List.mem_append.1 he).elim (HK.out.2.1 e) (fun he => by rw [List.mem_singleton.1 he]; exact hv), by have h := HK.out.2.2; have hp := parse_last h; rw [HV.out, show (k - 4).toNat = 0 by omega, hst0]; simpa [dv] using hp⟩)
        ·have h := HG8.out.put1 A2 ((li out).length + 1) c2
         rw [show (out ++ [v]).length = (li out).length + 1 by rw [li_len]; simp]
         exact h
        ·have h := Kd.R_set HO2.out HG8.out (by decide) 1 (.slice A2 ((li out).length + 1) c2)
         rw [show (out ++ [v]).length = (li out ++ [(v : Int)]).length by rw [List.length_append, List.length_append, li_len]; rfl, li_snoc]
         exact h
        ·exact (HB.out.1.trans (HB2.out.mono (by omega))).setCell (p := ⟨w.heap.size + 1, 1, none⟩) (by simp) _
        ·have := HB2.out.size; have := HB.out.2; simp; omega
       case measure => simp [intOf]; omega
   ·have hV : val QQ out = dv b.data.toList := by
     have h := HK.out.2.2
     rw [show k.toNat = 0 by omega] at h
     simpa [dv] using h
    have HR : Aside0 (RL X A out.length out ∧ out.length ≤ c ∧ (∀ d ∈ out, d < QQ)) := ⟨by
     have h := Kd.R_reads' HM.out.2.2
     rw [li_len] at h
     exact ⟨h.2.2, h.2.1, HK.out.2.1⟩⟩
    have HVV := Aside0.mk hV
    have HO := Aside0.mk HM.out.2.1
    clear hV HK hk1 hk2
    go_wp2_with (go_at_call 137; (with_reducible refine (rtrim_sign HR.out.1 HR.out.2.1 HR.out.2.2 _).mono ?_); rintro e wm ⟨k6, g6, rfl, hg6, hk6, hm6, hbq⟩; have HG6 := Aside0.mk (And.intro hg6 hk6); clear hg6 hk6; have HO2 := Aside0.mk (HO.out.below hbq); have hm6 := Aside0.mk hm6; have HBQ := Aside0.mk hbq; clear hbq; have q0 := HO2.out.cell0; have q1 := HO2.out.cell1; have q4 := HO2.out.fr 0; have q5 := HO2.out.fr 1)
    refine bodyPost_ret (v := .agg #[.bool g6, .slice A k6 c]) (by simp [results, Tryz.results72, go_sem, q0, q1]) rfl (RX.of (n := val QQ out) rfl ?_ HG6.out.2 ?_ ?_ ?_)
    ·rw [HG6.out.1, HVV.out]; exact HI.out.1
    ·exact HVV.out.trans HI.out.2.symm
    ·exact (hm6.out.bg HO2.out 0 _).bg (HO2.out.put0 _) 1 _
    ·exact ((HB.out.1.trans (HBQ.out.mono (Nat.le_trans (by omega) HB.out.2))).setCell (by simp) _).setCell (by simp) _
end
end Go.Proofs.YtillgofjlpjbcaaGreatDoor.Nm
