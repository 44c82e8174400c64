import Derived.Test.YtillgofjlpjbcaaGreatDoorH9
import Derived.Test.YtillgofjlpjbcaaGreatDoorH12
/- Own text: contracts and laws on which the card rests (RaW RaX RaY RaZ NoG NoH NiB NiC). -/
set_option linter.unusedVariables false
set_option linter.unusedSimpArgs false
set_option maxRecDepth 1000000
set_option maxHeartbeats 16000000
namespace Go.Proofs.YtillgofjlpjbcaaGreatDoor.Nm
section
open Go.Proofs.YtillgofjlpjbcaaGreatDoorW.PrintLast Go.Proofs.YtillgofjlpjbcaaGreatDoorW.PrintMore Go.Proofs.YtillgofjlpjbcaaGreatDoorW.PrintWords Go.RowKit Go.Shelf
/-- What Over answers. -/
abbrev OvPost (w : World) (q r : Int) (e : Ending) (w' : World) : Prop := ∃ A k c A' k' c', e = .returned (.tuple #[rV A k c q, rV A' k' c' r]) ∧ k ≤ c ∧ k' ≤ c' ∧ RM w' A k q.natAbs ∧ RM w' A' k' r.natAbs ∧ Below w.heap.size w w'
theorem rOver_calls {w : World} {A1 A2 : Option Addr} {L1 L2 c1 c2 : Nat} {x y : Int} (h1 : RM w A1 L1 x.natAbs) (h2 : RM w A2 L2 y.natAbs) (hy : y ≠ 0) (hL1 : L1 ≤ 40000) (hL2 : L2 ≤ 40000) :
 Calls Tryz.prog 92 #[rV A1 L1 c1 x, rV A2 L2 c2 y] w fun e w' => OvPost w (x / y) (x % y) e w' := by
 obtain ⟨o1, o2, o3⟩ := over_law (x := x) hy rfl rfl
 have hr : decide (x % y < 0) = false := decide_eq_false (by omega)
 unfold OvPost rV
 by_cases hc : x < 0 ∧ x.natAbs % y.natAbs ≠ 0
 ·obtain ⟨p1, p2, p3⟩ := o2 hc
  have hx : decide (x < 0) = true := decide_eq_true hc.1
  rw [hx, hr, p3]
  obtain ⟨q, hq⟩ : ∃ q, x.natAbs / y.natAbs = q := ⟨_, rfl⟩
  rw [hq] at p1 p2
  refine rOver_adj (xq := if y < 0 then (q : Int) else -(q : Int)) (z := x / y) rfl rfl h1 h2 (by omega) hL1 hL2 hc.2 ?_ ?_ ?_
  ·rw [hq]; split <;> omega
  ·rw [hq]
   by_cases h : y < 0
   ·rw [if_pos h, decide_eq_true h]; simp
   ·rw [if_neg h, decide_eq_false h]
    rw [Bool.eq_iff_iff]
    simp
    omega
  ·rw [hx] at p1
   by_cases h : y < 0
   ·rw [decide_eq_true h] at p1 ⊢
    rw [if_pos rfl, if_pos h]
    have : ¬ x / y < 0 := by simpa using p1.symm
    omega
   ·rw [decide_eq_false h] at p1 ⊢
    rw [if_neg (by simp), if_neg h]
    have : x / y < 0 := by simpa using p1.symm
    omega
 ·have hc' : ¬ x < 0 ∨ x.natAbs % y.natAbs = 0 := by omega
  obtain ⟨p1, p2, p3⟩ := o1 hc'
  rw [hr, p2, p3, ← p1]
  exact rOver_plain h1 h2 (by omega) hL1 hL2 (hc'.imp (fun h => decide_eq_false h) id)
/-- What lies in memory between two rounds of Common. -/
structure CQ (w : World) (G y : Nat) (A1 : Option Addr) (L1 c1 : Nat) (A2 : Option Addr) (L2 c2 x : Nat) (W : World) : Prop where
 b0 : BG W w.heap.size false A1 L1 c1
 b1 : BG W (w.heap.size + 1) false A2 L2 c2
 b2 : BG W (w.heap.size + 1 + 1) false none 0 0
 m1 : RM W A1 L1 x
 m2 : RM W A2 L2 y
 g : Nat.gcd x y = G
 bl : Below w.heap.size w W
section
variable {w : World} {G y : Nat} {A1 A2 : Option Addr} {L1 c1 L2 c2 x : Nat} {W X : World}
theorem CQ.below (h : CQ w G y A1 L1 c1 A2 L2 c2 x W) (hb : Below W.heap.size W X) : CQ w G y A1 L1 c1 A2 L2 c2 x X :=
 ⟨h.b0.below hb, h.b1.below hb, h.b2.below hb, h.m1.below hb, h.m2.below hb, h.g, h.bl.trans (hb.mono h.bl.size)⟩
theorem CQ.swap (h : CQ w G y A1 L1 c1 A2 L2 c2 x X) {A6 : Option Addr} {k6 c6 : Nat} (hm : RM X A6 k6 (x % y)) :
 CQ w G (x % y) A2 L2 c2 A6 k6 c6 y ((((X.setCell ⟨w.heap.size, 0, none⟩ (.bool false)).setCell ⟨w.heap.size, 1, none⟩ (.slice A2 L2 c2)).setCell ⟨w.heap.size + 1, 0, none⟩ (.bool false)).setCell ⟨w.heap.size + 1, 1, none⟩ (.slice A6 k6 c6)) := by
 have p1 := h.b0.put0 false
 have p2 := p1.put1 A2 L2 c2
 have r1 := (h.b1.other (b' := w.heap.size) (by omega) 0 (.bool false)).other (b' := w.heap.size) (by omega) 1 (.slice A2 L2 c2)
 have r2 := r1.put0 false
 refine ⟨(p2.other (by omega) _ _).other (by omega) _ _, r2.put1 _ _ _, (((h.b2.other (by omega) _ _).other (by omega) _ _).other (by omega) _ _).other (by omega) _ _, (((h.m2.bg h.b0 0 _).bg p1 1 _).bg r1 0 _).bg r2 1 _, (((hm.bg h.b0 0 _).bg p1 1 _).bg r1 0 _).bg r2 1 _, ?_, (((h.bl.setCell (p := ⟨w.heap.size, 0, none⟩) (Nat.le_refl _) _).setCell (p := ⟨w.heap.size, 1, none⟩) (Nat.le_refl _) _).setCell (by simp) _).setCell (by simp) _⟩
 rw [← h.g, Nat.gcd_comm y, Nat.gcd_comm x, ← Nat.gcd_rec]
end
theorem rOver_nat {w : World} {A1 A2 : Option Addr} {L1 L2 c1 c2 x y : Nat} (h1 : RM w A1 L1 x) (h2 : RM w A2 L2 y) (h0 : 0 < y) (hL1 : L1 ≤ 40000) (hL2 : L2 ≤ 40000) :
 Calls Tryz.prog 92 #[.agg #[.bool false, .slice A1 L1 c1], .agg #[.bool false, .slice A2 L2 c2]] w fun e w' => ∃ A k c A' k' c', e = .returned (.tuple #[.agg #[.bool false, .slice A k c], .agg #[.bool false, .slice A' k' c']]) ∧ k' ≤ c' ∧ RM w' A' k' (x % y) ∧ Below w.heap.size w w' :=
 (rOver_plain h1 h2 h0 hL1 hL2 (.inl rfl)).mono fun e w' ⟨A, k, c, A', k', c', h1, _, h3, _, h5, h6⟩ => ⟨A, k, c, A', k', c', h1, h3, h5, h6⟩
theorem rCommon_abs {w : World} {A1 A2 : Option Addr} {L1 L2 c1 c2 x y : Nat} {f1 f2 : Bool} (h1 : RM w A1 L1 x) (h2 : RM w A2 L2 y) (hk1 : L1 ≤ c1) (hk2 : L2 ≤ c2) (hs1 : L1 ≤ 40000) (hs2 : L2 ≤ 40000) :
 Calls Tryz.prog 97 #[.agg #[.bool f1, .slice A1 L1 c1], .agg #[.bool f2, .slice A2 L2 c2]] w fun e w' => ∃ A k c, e = .returned (.agg #[.bool false, .slice A k c]) ∧ k ≤ c ∧ RM w' A k (Nat.gcd x y) ∧ Below w.heap.size w w' := by
 obtain ⟨G, hG⟩ : ∃ G, Nat.gcd x y = G := ⟨_, rfl⟩
 rw [hG]
 have H1 := h1.at_below
 have H2 := h2.at_below
 clear h1 h2
 go_enter Tryz.func97, Tryz.ntmps97
 go_wp2_with fail
 have I0 : Aside0 (CQ w G y A1 L1 c1 A2 L2 c2 x (((w.alloc (.cells #[.bool false, .slice A1 L1 c1] 77)).alloc (.cells #[.bool false, .slice A2 L2 c2] 77)).alloc (.cells #[.bool false, .slice none 0 0] 77))) := ⟨by
  have hb : Below w.heap.size w (((w.alloc (.cells #[.bool false, .slice A1 L1 c1] 77)).alloc (.cells #[.bool false, .slice A2 L2 c2] 77)).alloc (.cells #[.bool false, .slice none 0 0] 77)) := by repeat (first | exact Below.refl _ _ | apply below_alloc)
  have n : ∀ (W : World) (b : Nat) (hb : W.heap.size = b) (f : Bool) (A : Option Addr) (L c : Nat), BG (W.alloc (.cells #[.bool f, .slice A L c] 77)) b f A L c := fun W b hb f A L c => by subst hb; exact BG.new W f A L c
  exact ⟨((n _ _ rfl _ _ _ _).alloc _).alloc _, (n _ _ (by simp) _ _ _ _).alloc _, n _ _ (by simp) _ _ _ _, H1.out _ hb, H2.out _ hb, hG, hb⟩⟩
 clear H1 H2 hG
 go_loopg [] y (fun k W => ∃ A1 L1 c1 A2 L2 c2 x, L1 ≤ 40000 ∧ L2 ≤ 40000 ∧ L1 ≤ c1 ∧ L2 ≤ c2 ∧ Aside0 (CQ w G k A1 L1 c1 A2 L2 c2 x W))
 case atStart => exact ⟨A1, L1, c1, A2, L2, c2, x, hs1, hs2, hk1, hk2, I0⟩
 case round =>
  clear I0 hs1 hs2 hk1 hk2
  obtain ⟨A1, L1, c1, A2, L2, c2, x, hs1, hs2, hk1, hk2, HI⟩ := hrel
  have x0 := HI.out.b0.cell0
  have x1 := HI.out.b0.cell1
  have x2 := HI.out.b1.cell0
  have x3 := HI.out.b1.cell1
  have y0 := HI.out.b0.lt
  have y1 := HI.out.b1.lt
  by_cases hk : gk = 0
  ·have HZ : Aside0 (x = G) := ⟨by have := HI.out.g; rw [hk, Nat.gcd_zero_right] at this; exact this⟩
   have hl : L2 = 0 := HI.out.m2.len_zero.2 hk
   subst hl
   have q0 := HI.out.b2.cell0
   have q1 := HI.out.b2.cell1
   have q2 := HI.out.b2.fr 0
   have q3 := HI.out.b2.fr 1
   clear hk
   go_wp2_with fail
   refine bodyPost_ret (v := .agg #[.bool false, .slice A1 L1 c1]) (by simp [results, Tryz.results97, go_sem, q0, q1]) rfl ⟨A1, L1, c1, rfl, hk1, ?_, (HI.out.bl.setCell (by simp; omega) _).setCell (by simp; omega) _⟩
   rw [← HZ.out]
   exact (HI.out.m1.bg HI.out.b2 0 _).bg (HI.out.b2.put0 _) 1 _
  ·have HZ : Aside0 (0 < gk) := ⟨by omega⟩
   have hl : 0 < L2 := Nat.pos_of_ne_zero (fun e => hk (HI.out.m2.len_zero.1 e))
   have hl2 : (0 : Int) < (L2 : Int) := by omega
   clear hk
   go_upto_region 4 with (first | (go_at_call 92; (with_reducible refine (rOver_nat HI.out.m1 HI.out.m2 HZ.out hs1 hs2).mono ?_); rintro e W2 ⟨Aq, kq, cq, Ar, kr, cr, rfl, hkr, hmr, hbx⟩; have HD := Aside0.mk (HI.out.below hbx); have HMR := Aside0.mk (And.intro hkr hmr); clear hbx hkr hmr x0 x1 x2 x3 y0 y1))
   have hk6 : kr ≤ 40000 := by
    have h1 := dg_lt_pow QQ1 gk
    rw [HI.out.m2.len] at h1
    exact Nat.le_trans (HMR.out.2.bound (Nat.lt_trans (Nat.mod_lt _ HZ.out) h1)) hs2
   obtain ⟨Y, hY⟩ : ∃ Y, ((W2.alloc (.cells #[.bool false, .slice Aq kq cq] 77)).alloc (.cells #[.bool false, .slice Ar kr cr] 77)) = Y := ⟨_, rfl⟩
   have hyb : Below W2.heap.size W2 Y := by subst hY; repeat (first | exact Below.refl _ _ | apply below_alloc)
   have hq : BG Y (W2.heap.size + 1) false Ar kr cr := by subst hY; exact (QR.new _ _ _ _ _ _ _ _ _).2
   have HP : Aside0 (W2.heap.size + 1 ≠ w.heap.size ∧ W2.heap.size + 1 ≠ w.heap.size + 1) := ⟨by have := HD.out.b2.lt; omega⟩
   have hbx : Below Y.heap.size Y Y.drew := below_drew1 (Below.refl _ _)
   have HD2 := Aside0.mk ((HD.out.below hyb).below hbx)
   have HMR2 := Aside0.mk (And.intro HMR.out.1 ((HMR.out.2.below hyb).below hbx))
   have hq2 := hq.below hbx
   have z0 := hq2.cell0
   have z1 := hq2.cell1
   rw [hY]
   clear hY hyb HD HMR hq hq2 hbx HI
   generalize W2.heap.size + 1 = r at *
   rename_i K hK
   refine wp_region_held_drew (S := (fun V => V.cell? ⟨r, 0, none⟩ = some (.bool false) ∧ V.cell? ⟨r, 1, none⟩ = some (.slice Ar kr cr))) (by kernel_rfl) ?_ (fun hHeld => ?_)
   ·exact ⟨z0, z1⟩
   (obtain ⟨Z, hZ⟩ : ∃ Z, Y.drew = Z := ⟨_, rfl⟩; rw [hZ] at HD2 HMR2 hHeld ⊢; clear hZ z0 z1; have x0 := HD2.out.b0.cell0; have x1 := HD2.out.b0.cell1; have x2 := HD2.out.b1.cell0; have x3 := HD2.out.b1.cell1; have x4 := HD2.out.b0.fr 0; have x5 := HD2.out.b0.fr 1; have x6 := HD2.out.b1.fr 0; have x7 := HD2.out.b1.fr 1)
   refine tp 1 ?_
   try simp only [PU]
   refine tc 0 fun K hK => ?_
   go_simp
   refine hK.out _ _ ?_ fun hHeld => ?_
   ·(first | exact hHeld | exact ⟨cell_far2 hHeld.1 HP.out.1, cell_far2 hHeld.2 HP.out.1⟩ | exact ⟨cell_far2 hHeld.1 HP.out.2, cell_far2 hHeld.2 HP.out.2⟩)
   clear hK K; try simp only [PU]
   refine tc 2 fun K hK => ?_
   go_simp
   refine hK.out _ _ ?_ fun hHeld => ?_
   ·(first | exact hHeld | exact ⟨cell_far2 hHeld.1 HP.out.1, cell_far2 hHeld.2 HP.out.1⟩ | exact ⟨cell_far2 hHeld.1 HP.out.2, cell_far2 hHeld.2 HP.out.2⟩)
   clear hK K; try simp only [PU]
   refine tc 3 fun K hK => ?_
   go_simp
   refine hK.out _ _ ?_ fun hHeld => ?_
   ·(first | exact hHeld | exact ⟨cell_far2 hHeld.1 HP.out.1, cell_far2 hHeld.2 HP.out.1⟩ | exact ⟨cell_far2 hHeld.1 HP.out.2, cell_far2 hHeld.2 HP.out.2⟩)
   clear hK K; try simp only [PU]
   refine wpAnyH_done (by kernel_rfl) ?_ _
   refine hK _ _ ?_
   go_wp2
   have HS := Aside0.mk (HD2.out.swap (c6 := cr) HMR2.out.2)
   go_roundg (x % gk)
   case measure => exact Nat.mod_lt _ HZ.out
   case rel => exact ⟨A2, L2, c2, Ar, kr, cr, gk, hs2, hk6, hk2, HMR2.out.1, HS⟩
/-- The greatest common divisor, by value. -/
theorem ro2_common {x y : Int} (hx : Dig 4000 x) (hy : Dig 4000 y) : RO2 97 x y (Int.gcd x y) := fun W A1 k1 c1 A2 k2 c2 g1 g2 h1 h2 => by
 refine (rCommon_abs h1 h2 g1 g2 (Nat.le_trans (h1.dig hx 1000 (by omega)) (by omega)) (Nat.le_trans (h2.dig hy 1000 (by omega)) (by omega))).mono fun e w' ⟨A, k, c, e1, e2, e3, e4⟩ => ?_
 exact RX.of e1 (decide_eq_false (by omega)).symm e2 rfl e3 e4
theorem gcd_dig {k : Nat} {x y : Int} (hx : Dig k x) (hy : Dig k y) : Dig k (Int.gcd x y : Int) := by
 unfold Dig at *
 rw [Int.natAbs_natCast]
 show Nat.gcd x.natAbs y.natAbs < _
 rcases Nat.eq_zero_or_pos y.natAbs with h | h
 ·rw [h, Nat.gcd_zero_right]; exact hx
 ·exact Nat.lt_of_le_of_lt (Nat.gcd_le_right _ h) hy
theorem rGcd_calls (a b : ByteArray) (ha : a.size ≤ 90000) (hb : b.size ≤ 90000) (w : World) :
 Calls Tryz.prog 34 #[.string a, .string b] w fun e w' => e = .returned (.tuple #[.string (biS (fun x y : Int => (Int.gcd x y : Int)) a b), .int .i64 (biR (fun x y : Int => (Int.gcd x y : Int)) a b)]) ∧ Below w.heap.size w w' := by
 unfold biS biR
 have HCa := Aside0.mk (fun W => rCheck_calls a (by omega) W)
 have HCb := Aside0.mk (fun W => rCheck_calls b (by omega) W)
 obtain ⟨E, hE⟩ : ∃ E, biE a b = E := ⟨_, rfl⟩
 rw [hE]
 have HFI := Aside0.mk (fun (W : World) (g : Nat) (hg : g = W.heap.size) (t : TypeId) => rfirst2_ret (checkI a) (checkI b) E hE W g hg t)
 have HB := Aside0.mk (Below.refl w.heap.size w)
 by_cases h0 : E = 0
 ·subst h0
  have hz := biE_zero hE
  have HRa := Aside0.mk (fun W => rRead_calls a ha (check_digits hz.1) W)
  have HRb := Aside0.mk (fun W => rRead_calls b hb (check_digits hz.2) W)
  have dx := intI_dig hz.1
  have dy := intI_dig hz.2
  clear hE hz
  generalize checkI a = ca at *
  generalize checkI b = cb at *
  generalize intI a = x at *
  generalize intI b = y at *
  have HO : Aside0 (RO2 97 x y ((Int.gcd x y : Int))) := ⟨ro2_common (dx.more (by omega)) (dy.more (by omega))⟩
  have HRS := Aside0.mk (fun W A k c hm => rresult_calls (w := W) (A := A) (L := k) (c := c) (x := (Int.gcd x y : Int)) hm ((gcd_dig dx dy).more (by omega)))
  rw [if_pos rfl, if_pos rfl]
  (try dsimp only)
  generalize hz : ((Int.gcd x y : Int) : Int) = z at *
  clear hz dx dy
  generalize wrS z = S at *
  generalize wrE z = R at *
  go_enter Tryz.func34, Tryz.ntmps34
  go_wp2_with (first | (go_at_call 13; (with_reducible refine (HCa.out _).mono ?_); rintro e wx ⟨rfl, hbx⟩; have HB2 := Aside0.mk (HB.out.trans (hbx.mono HB.out.size)); clear HB; have HB := HB2; clear HB2; clear hbx) | (go_at_call 13; (with_reducible refine (HCb.out _).mono ?_); rintro e wx ⟨rfl, hbx⟩; have HB2 := Aside0.mk (HB.out.trans (hbx.mono HB.out.size)); clear HB; have HB := HB2; clear HB2; clear hbx) | (go_at_call 81; (with_reducible refine (HFI.out _ _ rfl _).mono ?_); rintro e wx ⟨rfl, hwx⟩; rw [hwx]; clear hwx wx; have HB2 := Aside0.mk (below_alloc HB.out (.cells #[.int .i64 ca, .int .i64 cb] 3)); clear HB; have HB := HB2; clear HB2) | (go_at_call 72; (with_reducible refine (HRa.out _).mono ?_); rintro e wx ⟨A1, k1, c1, rfl, hk1, hm1, hbx⟩; have HM1 := Aside0.mk (And.intro hk1 hm1); have HB2 := Aside0.mk (HB.out.trans (hbx.mono HB.out.size)); clear HB; have HB := HB2; clear HB2; clear hbx hk1 hm1) | (go_at_call 72; (with_reducible refine (HRb.out _).mono ?_); rintro e wx ⟨A2, k2, c2, rfl, hk2, hm2, hbx⟩; have HM2 := Aside0.mk (And.intro hk2 hm2); have HM1 := Aside0.mk (And.intro HM1.out.1 (HM1.out.2.below hbx)); have HB2 := Aside0.mk (HB.out.trans (hbx.mono HB.out.size)); clear HB; have HB := HB2; clear HB2; clear hbx hk2 hm2) | (go_at_call 97; (with_reducible refine (HO.out _ _ _ _ _ _ _ HM1.out.1 HM2.out.1 HM1.out.2 HM2.out.2).mono ?_); rintro e wx ⟨A3, k3, c3, rfl, hk3, hm3, hbx⟩; have HM3 := Aside0.mk (And.intro hk3 hm3); have HB2 := Aside0.mk (HB.out.trans (hbx.mono HB.out.size)); clear HB; have HB := HB2; clear HB2; clear hbx hk3 hm3) | (go_at_call 77; (with_reducible refine (HRS.out _ _ _ _ HM3.out.2).mono ?_); rintro e wx ⟨rfl, hbx⟩; have HB2 := Aside0.mk (HB.out.trans (hbx.mono HB.out.size)); clear HB; have HB := HB2; clear HB2; clear hbx))
  go_ret2
  exact ⟨rfl, HB.out⟩
 ·have hbe : (E != 0) = true := by simp [h0]
  rw [if_neg h0, if_neg h0]
  clear hE
  generalize checkI a = ca at *
  generalize checkI b = cb at *
  go_enter Tryz.func34, Tryz.ntmps34
  go_wp2_with (first | (go_at_call 13; (with_reducible refine (HCa.out _).mono ?_); rintro e wx ⟨rfl, hbx⟩; have HB2 := Aside0.mk (HB.out.trans (hbx.mono HB.out.size)); clear HB; have HB := HB2; clear HB2; clear hbx) | (go_at_call 13; (with_reducible refine (HCb.out _).mono ?_); rintro e wx ⟨rfl, hbx⟩; have HB2 := Aside0.mk (HB.out.trans (hbx.mono HB.out.size)); clear HB; have HB := HB2; clear HB2; clear hbx) | (go_at_call 81; (with_reducible refine (HFI.out _ _ rfl _).mono ?_); rintro e wx ⟨rfl, hwx⟩; rw [hwx]; clear hwx wx; have HB2 := Aside0.mk (below_alloc HB.out (.cells #[.int .i64 ca, .int .i64 cb] 3)); clear HB; have HB := HB2; clear HB2))
  go_ret2
  exact ⟨rfl, HB.out⟩
theorem zero_str {b : ByteArray} (h : checkI b = 0) : (b.toList == [48]) = decide (intI b = 0) := by
 by_cases h0 : intI b = 0
 ·rw [decide_eq_true h0]
  have e := strI_intI h
  rw [h0] at e
  rw [← e]
  decide +kernel
 ·rw [decide_eq_false h0]
  refine beq_no (b := ⟨#[48]⟩) rfl (fun e => h0 ?_)
  rw [e]
  decide +kernel
theorem div_first (a b : ByteArray) : firstI [checkI a, checkI b, if (b.toList == [48]) = true then 30 else 0] = divE a b := by
 unfold divE biE
 by_cases h1 : checkI a = 0
 ·by_cases h2 : checkI b = 0
  ·rw [zero_str h2, h1, h2]
   simp [firstI]
  ·simp [firstI, h1, h2]
 ·simp [firstI, h1]
theorem rDivMod_calls (a b : ByteArray) (ha : a.size ≤ 90000) (hb : b.size ≤ 90000) (w : World) :
 Calls Tryz.prog 28 #[.string a, .string b] w fun e w' => e = .returned (.tuple #[.string (dmS (fun x y => x / y) a b), .string (dmS (fun x y => x % y) a b), .int .i64 (divE a b)]) ∧ Below w.heap.size w w' := by
 unfold dmS
 have HCa := Aside0.mk (fun W => rCheck_calls a (by omega) W)
 have HCb := Aside0.mk (fun W => rCheck_calls b (by omega) W)
 obtain ⟨E, hE⟩ : ∃ E, divE a b = E := ⟨_, rfl⟩
 rw [hE]
 have hf := (div_first a b).trans hE
 have HWN := Aside0.mk (fun W => rwhen_calls (b.toList == [48]) 30 W)
 have HFI := Aside0.mk (fun (W : World) (g : Nat) (hg : g = W.heap.size) (t : TypeId) => rfirst3_ret (checkI a) (checkI b) (if (b.toList == [48]) = true then 30 else 0) E hf W g hg t)
 have HF0 := Aside0.mk (fun (W : World) (g : Nat) (hg : g = W.heap.size) (t : TypeId) => rfirst2_ret 0 0 0 rfl W g hg t)
 have HB := Aside0.mk (Below.refl w.heap.size w)
 by_cases h0 : E = 0
 ·subst h0
  have hz0 : biE a b = 0 ∧ intI b ≠ 0 := by
   unfold divE at hE
   split at hE
   ·rename_i h
    refine ⟨h, fun h2 => ?_⟩
    rw [if_pos h2] at hE
    omega
   ·exact absurd hE ‹_›
  have hz := biE_zero hz0.1
  have HRa := Aside0.mk (fun W => rRead_calls a ha (check_digits hz.1) W)
  have HRb := Aside0.mk (fun W => rRead_calls b hb (check_digits hz.2) W)
  have dx := intI_dig hz.1
  have dy := intI_dig hz.2
  have HOV := Aside0.mk (fun W A1 k1 c1 A2 k2 c2 h1 h2 => rOver_calls (w := W) (A1 := A1) (A2 := A2) (L1 := k1) (L2 := k2) (c1 := c1) (c2 := c2) (x := intI a) (y := intI b) h1 h2 hz0.2 (Nat.le_trans (RM.dig h1 dx 30 (by omega)) (by omega)) (Nat.le_trans (RM.dig h2 dy 30 (by omega)) (by omega)))
  have dq : Dig 120 (intI a / intI b) := dx.ediv
  have dr : Dig 120 (intI a % intI b) := Dig.emod dy hz0.2
  have HRQ := Aside0.mk (fun W A k c hm => rresult_calls (w := W) (A := A) (L := k) (c := c) (x := intI a / intI b) hm (dq.more (by omega)))
  have HRR := Aside0.mk (fun W A k c hm => rresult_calls (w := W) (A := A) (L := k) (c := c) (x := intI a % intI b) hm (dr.more (by omega)))
  rw [(wr_dig dq).1, (wr_dig dq).2] at HRQ
  rw [(wr_dig dr).1, (wr_dig dr).2] at HRR
  rw [if_pos rfl, if_pos rfl]
  (try dsimp only)
  clear hE hz dx dy dq dr hz0 hf
  unfold OvPost at HOV
  unfold RX at *
  generalize (if (b.toList == [48]) = true then (30 : Int) else 0) = cc at *
  generalize checkI a = ca at *
  generalize checkI b = cb at *
  generalize intI a = x at *
  generalize intI b = y at *
  generalize x / y = q at *
  generalize x % y = r at *
  unfold rV at *
  generalize decide (x < 0) = gx at *
  generalize decide (y < 0) = gy at *
  generalize decide (q < 0) = gq at *
  generalize decide (r < 0) = gr at *
  generalize strI q = SQ at *
  generalize strI r = SR at *
  go_enter Tryz.func28, Tryz.ntmps28
  go_wp2_with (first | (go_at_call 13; (with_reducible refine (HCa.out _).mono ?_); rintro e wx ⟨rfl, hbx⟩; have HB2 := Aside0.mk (HB.out.trans (hbx.mono HB.out.size)); clear HB; have HB := HB2; clear HB2; clear hbx) | (go_at_call 13; (with_reducible refine (HCb.out _).mono ?_); rintro e wx ⟨rfl, hbx⟩; have HB2 := Aside0.mk (HB.out.trans (hbx.mono HB.out.size)); clear HB; have HB := HB2; clear HB2; clear hbx) | (go_at_call 67; (with_reducible refine (HWN.out _).mono ?_); rintro e wy ⟨rfl, hwy⟩; rw [hwy]; clear hwy wy) | (go_at_call 81; (with_reducible refine (HFI.out _ _ rfl _).mono ?_); rintro e wx ⟨rfl, hwx⟩; rw [hwx]; clear hwx wx; have HB2 := Aside0.mk (below_alloc HB.out (.cells #[.int .i64 ca, .int .i64 cb, .int .i64 cc] 3)); clear HB; have HB := HB2; clear HB2) | (go_at_call 72; (with_reducible refine (HRa.out _).mono ?_); rintro e wx ⟨A1, k1, c1, rfl, hk1, hm1, hbx⟩; have HM1 := Aside0.mk (And.intro hk1 hm1); have HB2 := Aside0.mk (HB.out.trans (hbx.mono HB.out.size)); clear HB; have HB := HB2; clear HB2; clear hbx hk1 hm1) | (go_at_call 72; (with_reducible refine (HRb.out _).mono ?_); rintro e wx ⟨A2, k2, c2, rfl, hk2, hm2, hbx⟩; have HM2 := Aside0.mk (And.intro hk2 hm2); have HM1 := Aside0.mk (And.intro HM1.out.1 (HM1.out.2.below hbx)); have HB2 := Aside0.mk (HB.out.trans (hbx.mono HB.out.size)); clear HB; have HB := HB2; clear HB2; clear hbx hk2 hm2) | (go_at_call 92; (with_reducible refine (HOV.out _ _ _ _ _ _ _ HM1.out.2 HM2.out.2).mono ?_); rintro e W9 ⟨Aq, kq, cq, Ar, kr, cr, rfl, hkq, hkr, hmq, hmr, hbx⟩; have HMQ := Aside0.mk hmq; have HMR := Aside0.mk hmr; have HB2 := Aside0.mk (HB.out.trans (hbx.mono HB.out.size)); clear HB; have HB := HB2; clear HB2; clear hbx hkq hkr hmq hmr) | (go_at_call 77; (with_reducible refine (HRQ.out _ _ _ _ (HMQ.out.below (by repeat (first | exact Below.refl _ _ | apply below_alloc)))).mono ?_); rintro e wx ⟨rfl, hbx⟩; have z2 : wx.cell? ⟨W9.heap.size + 1, 0, none⟩ = some (.bool gr) := keepB2 hbx (by simp [go_sem]); have z3 : wx.cell? ⟨W9.heap.size + 1, 1, none⟩ = some (.slice Ar kr cr) := keepB2 hbx (by simp [go_sem]); have HMR2 := Aside0.mk ((HMR.out.below (by repeat (first | exact Below.refl _ _ | apply below_alloc))).below hbx); clear HMR; have HMR := HMR2; clear HMR2; have HB2 := Aside0.mk ((below_alloc (below_alloc HB.out _) _).trans (hbx.mono (by simp; have := HB.out.size; omega))); clear HB; have HB := HB2; clear HB2 hbx) | (go_at_call 77; (with_reducible refine (HRR.out _ _ _ _ HMR.out).mono ?_); rintro e wx ⟨rfl, hbx⟩; have HB2 := Aside0.mk (HB.out.trans (hbx.mono HB.out.size)); clear HB; have HB := HB2; clear HB2; clear hbx) | (go_at_call 81; (with_reducible refine (HF0.out _ _ rfl _).mono ?_); rintro e wx ⟨rfl, hwx⟩; rw [hwx]; clear hwx wx; have HB2 := Aside0.mk (below_alloc HB.out (.cells #[.int .i64 0, .int .i64 0] 3)); clear HB; have HB := HB2; clear HB2))
  go_ret3
  exact ⟨rfl, HB.out⟩
 ·have hbe : (E != 0) = true := by simp [h0]
  rw [if_neg h0, if_neg h0]
  clear hE hf
  generalize (if (b.toList == [48]) = true then (30 : Int) else 0) = cc at *
  generalize checkI a = ca at *
  generalize checkI b = cb at *
  go_enter Tryz.func28, Tryz.ntmps28
  go_wp2_with (first | (go_at_call 13; (with_reducible refine (HCa.out _).mono ?_); rintro e wx ⟨rfl, hbx⟩; have HB2 := Aside0.mk (HB.out.trans (hbx.mono HB.out.size)); clear HB; have HB := HB2; clear HB2; clear hbx) | (go_at_call 13; (with_reducible refine (HCb.out _).mono ?_); rintro e wx ⟨rfl, hbx⟩; have HB2 := Aside0.mk (HB.out.trans (hbx.mono HB.out.size)); clear HB; have HB := HB2; clear HB2; clear hbx) | (go_at_call 67; (with_reducible refine (HWN.out _).mono ?_); rintro e wy ⟨rfl, hwy⟩; rw [hwy]; clear hwy wy) | (go_at_call 81; (with_reducible refine (HFI.out _ _ rfl _).mono ?_); rintro e wx ⟨rfl, hwx⟩; rw [hwx]; clear hwx wx; have HB2 := Aside0.mk (below_alloc HB.out (.cells #[.int .i64 ca, .int .i64 cb, .int .i64 cc] 3)); clear HB; have HB := HB2; clear HB2))
  go_ret3
  exact ⟨rfl, HB.out⟩
/-- What lies in memory between two rounds of Pow. -/
structure PQ (w : World) (p : Nat) (g gx : Bool) (A : Option Addr) (k c m : Nat) (A2 : Option Addr) (k2 c2 m2 : Nat) (W : World) : Prop where
 b0 : BG W p g A k c
 b1 : BG W (p + 1) gx A2 k2 c2
 m1 : RM W A k m
 m2 : RM W A2 k2 m2
 bl : Below w.heap.size w W
 lp : w.heap.size ≤ p
theorem PQ.below {w : World} {p : Nat} {g gx : Bool} {A : Option Addr} {k c m : Nat} {A2 : Option Addr} {k2 c2 m2 : Nat} {W X : World} (h : PQ w p g gx A k c m A2 k2 c2 m2 W) (hb : Below W.heap.size W X) : PQ w p g gx A k c m A2 k2 c2 m2 X :=
 ⟨h.b0.below hb, h.b1.below hb, h.m1.below hb, h.m2.below hb, h.bl.trans (hb.mono h.bl.size), h.lp⟩
theorem PQ.put {w : World} {p : Nat} {g gx : Bool} {A : Option Addr} {k c m : Nat} {A2 : Option Addr} {k2 c2 m2 : Nat} {W : World} (h : PQ w p g gx A k c m A2 k2 c2 m2 W) {A' : Option Addr} {k' c' m' : Nat} (hm : RM W A' k' m') (g' : Bool) :
 PQ w p g' gx A' k' c' m' A2 k2 c2 m2 ((W.setCell ⟨p, 0, none⟩ (.bool g')).setCell ⟨p, 1, none⟩ (.slice A' k' c')) :=
 ⟨(h.b0.put0 g').put1 A' k' c', (h.b1.other (by omega) _ _).other (by omega) _ _, (hm.bg h.b0 0 _).bg (h.b0.put0 g') 1 _, (h.m2.bg h.b0 0 _).bg (h.b0.put0 g') 1 _, (h.bl.setCell h.lp _).setCell h.lp _, h.lp⟩
theorem rPow_ok (a : ByteArray) (ha : a.size ≤ 90000) (hca : checkI a = 0) (n : Nat) (hn : n ≤ 1000) (w : World) :
 Calls Tryz.prog 32 #[.string a, .int .i64 (n : Int)] w fun e w' => e = .returned (.tuple #[.string (wrS (intI a ^ n)), .int .i64 (wrE (intI a ^ n))]) ∧ Below w.heap.size w w' := by
 have HCa := Aside0.mk (fun W => rCheck_calls a (by omega) W)
 rw [hca] at HCa
 have HWN := Aside0.mk (fun W => rwhen_calls false 3 W)
 have HFI := Aside0.mk (fun (W : World) (g : Nat) (hg : g = W.heap.size) (t : TypeId) => rfirst2_ret 0 0 0 rfl W g hg t)
 have HB := Aside0.mk (Below.refl w.heap.size w)
 have HRa := Aside0.mk (fun W => rRead_calls a ha (check_digits hca) W)
 have HSM := Aside0.mk (fun W => rSmall_calls (w := W) (n := 1) (by omega) (by omega))
 have dx := intI_dig hca
 have hn1 : decide ((n : Int) < 0) = false := decide_eq_false (by omega)
 have hn2 : decide ((1000 : Int) < (n : Int)) = false := decide_eq_false (by omega)
 generalize intI a = x at *
 have HX := Aside0.mk dx
 have HRF : Aside0 (∀ W A k c, RM W A k (x ^ n).natAbs → Dig 120 (x ^ n) → Calls Tryz.prog 77 #[.agg #[.bool (decide (x ^ n < 0)), .slice A k c]] W fun e w' => e = .returned (.tuple #[.string (wrS (x ^ n)), .int .i64 (wrE (x ^ n))]) ∧ Below W.heap.size W w') := ⟨fun W A k c h hd => rresult_calls h (hd.more (by omega))⟩
 have HPB : Aside0 (∀ i, i ≤ n → wrE (x ^ i) ≠ 0 → wrE (x ^ n) = 4 ∧ wrS (x ^ n) = ⟨#[]⟩) := ⟨fun i hi h => pow_big hi h⟩
 obtain ⟨S, hS⟩ : ∃ S, wrS (x ^ n) = S := ⟨_, rfl⟩
 obtain ⟨E, hE⟩ : ∃ E, wrE (x ^ n) = E := ⟨_, rfl⟩
 rw [hS, hE]
 rw [hS, hE] at HRF HPB
 clear hS hE dx hca
 unfold RX at *
 unfold rV at *
 obtain ⟨gx, hgx⟩ : ∃ gx, decide (x < 0) = gx := ⟨_, rfl⟩
 rw [hgx] at HRa
 have HGX := Aside0.mk hgx
 clear hgx
 go_enter Tryz.func32, Tryz.ntmps32
 go_upto_region 5 with (first | (go_at_call 13; (with_reducible refine (HCa.out _).mono ?_); rintro e wx ⟨rfl, hbx⟩; have HB2 := Aside0.mk (HB.out.trans (hbx.mono HB.out.size)); clear HB; have HB := HB2; clear HB2; clear hbx) | (go_at_call 67; (with_reducible refine (HWN.out _).mono ?_); rintro e wy ⟨rfl, hwy⟩; rw [hwy]; clear hwy wy) | (go_at_call 81; (with_reducible refine (HFI.out _ _ rfl _).mono ?_); rintro e wx ⟨rfl, hwx⟩; rw [hwx]; clear hwx wx; have HB2 := Aside0.mk (below_alloc HB.out (.cells #[.int .i64 0, .int .i64 0] 3)); clear HB; have HB := HB2; clear HB2) | (go_at_call 70; (with_reducible refine (HSM.out _).mono ?_); rintro e wx ⟨A1, k1, c1, rfl, hk1, hm1, hbx⟩; have HM2 := Aside0.mk (And.intro hk1 hm1); have HB2 := Aside0.mk (HB.out.trans (hbx.mono HB.out.size)); clear HB; have HB := HB2; clear HB2; clear hbx hk1 hm1) | (go_at_call 72; (with_reducible refine (HRa.out _).mono ?_); rintro e W9 ⟨A2, k2, c2, rfl, hk2, hm2, hbx⟩; have HM1 := Aside0.mk (And.intro HM2.out.1 (HM2.out.2.below hbx)); clear HM2; have HM2 := Aside0.mk (And.intro hk2 hm2); have HB2 := Aside0.mk (HB.out.trans (hbx.mono HB.out.size)); clear HB; have HB := HB2; clear HB2; clear hbx hk2 hm2))
 have HPQ : Aside0 (PQ w W9.heap.size false gx A1 k1 c1 1 A2 k2 c2 x.natAbs ((W9.alloc (.cells #[.bool false, .slice A1 k1 c1] 77)).alloc (.cells #[.bool gx, .slice A2 k2 c2] 77))) := ⟨by
  have hb : Below W9.heap.size W9 ((W9.alloc (.cells #[.bool false, .slice A1 k1 c1] 77)).alloc (.cells #[.bool gx, .slice A2 k2 c2] 77)) := by repeat (first | exact Below.refl _ _ | apply below_alloc)
  exact ⟨(QR.new _ _ _ _ _ _ _ _ _).1, (QR.new _ _ _ _ _ _ _ _ _).2, HM1.out.2.below hb, HM2.out.2.below hb, HB.out.trans (hb.mono HB.out.size), HB.out.size⟩⟩
 obtain ⟨Y, hY⟩ : ∃ Y, ((W9.alloc (.cells #[.bool false, .slice A1 k1 c1] 77)).alloc (.cells #[.bool gx, .slice A2 k2 c2] 77)) = Y := ⟨_, rfl⟩
 rw [hY] at HPQ ⊢
 have HK := Aside0.mk (And.intro HM1.out.1 HM2.out.1)
 clear hY HM1 HM2 HB HSM HRa HFI HWN HCa
 generalize W9.heap.size = p at *
 go_wp2_with fail
 go_loopw [9] (fun v9 W => ∃ (i : Nat) (A : Option Addr) (k c : Nat) (g : Bool), v9 = .int .i64 (i : Int) ∧ i ≤ n ∧ Aside0 (PQ w p g gx A k c (x ^ i).natAbs A2 k2 c2 x.natAbs W ∧ g = decide (x ^ i < 0) ∧ k ≤ c ∧ Dig 120 (x ^ i))) (fun v9 _ => n - (intOf v9).toNat)
 case atStart => exact ⟨0, A1, k1, c1, false, rfl, Nat.zero_le _, ⟨by rw [Int.pow_zero]; exact ⟨HPQ.out, by simp, HK.out.1, d1 119⟩⟩⟩
 case round =>
  clear HPQ
  obtain ⟨i, A, k, c, g, rfl, hi, HQ⟩ := hrel
  have z0 := HQ.out.1.b0.cell0
  have z1 := HQ.out.1.b0.cell1
  have z2 := HQ.out.1.b1.cell0
  have z3 := HQ.out.1.b1.cell1
  by_cases hlt : i < n
  ·have hlt' : (i : Int) < (n : Int) := by omega
   have hT := fun W h1 h2 => rTimes_calls (w := W) (A1 := A) (A2 := A2) (L1 := k) (L2 := k2) (c1 := c) (c2 := c2) (x := x ^ i) (y := x) h1 h2 (by have := RM.dig h1 HQ.out.2.2.2 30 (by omega); have := RM.dig h2 HX.out 30 (by omega); omega)
   obtain ⟨z, hz⟩ : ∃ z, x ^ i * x = z := ⟨_, rfl⟩
   have hzd : Dig 240 z := by rw [← hz]; exact HQ.out.2.2.2.mul HX.out
   have HZ : Aside0 (x ^ (i + 1) = z) := ⟨by rw [Int.pow_succ, hz]⟩
   have HR := Aside0.mk (fun W A k c hm => rresult_calls (w := W) (A := A) (L := k) (c := c) (x := z) hm (hzd.more (by omega)))
   rw [hz] at hT
   unfold RX rV at *
   rw [← HQ.out.2.1, HGX.out] at hT
   have HT := Aside0.mk hT
   clear hT hz hzd
   obtain ⟨g', hg'⟩ : ∃ g', decide (z < 0) = g' := ⟨_, rfl⟩
   rw [hg'] at HT HR
   have HG' := Aside0.mk hg'
   clear hg'
   by_cases hE : wrE z = 0
   ·rw [hE] at HR
    have HDZ := Aside0.mk (dig_wr hE)
    clear hE
    go_wp2_with (first | (go_at_call 86; (with_reducible refine (HT.out _ HQ.out.1.m1 HQ.out.1.m2).mono ?_); rintro e W7 ⟨A9, k9, c9, rfl, hk9, hm9, hbx⟩; have HK9 := Aside0.mk hk9; have HPY := Aside0.mk (HQ.out.1.below hbx); have HPW := Aside0.mk (HPY.out.put (c' := c9) hm9 g'); have z4 := HPY.out.b0.cell0; have z5 := HPY.out.b0.cell1; have z6 := HPY.out.b0.fr 0; have z7 := HPY.out.b0.fr 1; clear hbx hk9 hm9) | (go_at_call 77; (with_reducible refine (HR.out _ _ _ _ HPW.out.m1).mono ?_); rintro e W8 ⟨rfl, hbx⟩; have HPZ := Aside0.mk (HPW.out.below hbx); clear hbx))
    go_roundw
    case rel => exact ⟨i + 1, A9, k9, c9, g', by first | rfl | go_num, by omega, ⟨by rw [HZ.out]; exact HPZ.out, by rw [HZ.out]; exact HG'.out.symm, HK9.out, by rw [HZ.out]; exact HDZ.out⟩⟩
    case measure => simp [intOf]; omega
   ·have HB4 := Aside0.mk (HPB.out (i + 1) hlt (by rw [HZ.out]; exact hE))
    have hbe : (wrE z != 0) = true := by simp [hE]
    have HE4 : Aside0 (wrE z = 4) := ⟨(show wrE z = 0 ∨ wrE z = 4 by unfold wrE; split <;> simp).resolve_left hE⟩
    generalize wrE z = ez at *
    go_wp2_with (first | (go_at_call 86; (with_reducible refine (HT.out _ HQ.out.1.m1 HQ.out.1.m2).mono ?_); rintro e W7 ⟨A9, k9, c9, rfl, hk9, hm9, hbx⟩; have HK9 := Aside0.mk hk9; have HPY := Aside0.mk (HQ.out.1.below hbx); have HPW := Aside0.mk (HPY.out.put (c' := c9) hm9 g'); have z4 := HPY.out.b0.cell0; have z5 := HPY.out.b0.cell1; have z6 := HPY.out.b0.fr 0; have z7 := HPY.out.b0.fr 1; clear hbx hk9 hm9) | (go_at_call 77; (with_reducible refine (HR.out _ _ _ _ HPW.out.m1).mono ?_); rintro e W8 ⟨rfl, hbx⟩; have HPZ := Aside0.mk (HPW.out.below hbx); clear hbx))
    go_ret2
    exact ⟨by rw [HB4.out.1, HB4.out.2, HE4.out]; rfl, HPZ.out.bl⟩
  ·obtain rfl : i = n := by omega
   have HRX : Aside0 (∀ W A k c, RM W A k (x ^ i).natAbs → Calls Tryz.prog 77 #[.agg #[.bool g, .slice A k c]] W fun e w' => e = .returned (.tuple #[.string S, .int .i64 E]) ∧ Below W.heap.size W w') := ⟨fun W A k c h => by rw [HQ.out.2.1]; exact HRF.out W A k c h HQ.out.2.2.2⟩
   go_wp2_with (go_at_call 77; (with_reducible refine (HRX.out _ _ _ _ HQ.out.1.m1).mono ?_); rintro e wx ⟨rfl, hbx⟩; have HB := Aside0.mk (HQ.out.1.bl.trans (hbx.mono HQ.out.1.bl.size)); clear hbx)
   go_ret2
   exact ⟨rfl, HB.out⟩
theorem rPow_calls (a : ByteArray) (ha : a.size ≤ 90000) (n : Int) (w : World) :
 Calls Tryz.prog 32 #[.string a, .int .i64 n] w fun e w' => e = .returned (.tuple #[.string (powS a n), .int .i64 (powR a n)]) ∧ Below w.heap.size w w' := by
 unfold powS powR
 by_cases h : powE a n = 0
 ·obtain ⟨h1, h2, h3⟩ := powE_zero h
  rw [if_pos h, if_pos h]
  obtain ⟨m, rfl⟩ : ∃ m : Nat, n = (m : Int) := ⟨n.toNat, by omega⟩
  rw [show (m : Int).toNat = m from rfl]
  exact rPow_ok a ha h1 m (by omega) w
 ·rw [if_neg h, if_neg h]
  obtain ⟨E, hE⟩ : ∃ E, powE a n = E := ⟨_, rfl⟩
  rw [hE] at h ⊢
  unfold powE at hE
  have HCa := Aside0.mk (fun W => rCheck_calls a (by omega) W)
  have HB := Aside0.mk (Below.refl w.heap.size w)
  have hbe : (E != 0) = true := by simp [h]
  have HFI := Aside0.mk (fun (W : World) (g : Nat) (hg : g = W.heap.size) (t : TypeId) => rfirst2_ret (checkI a) (if n < 0 ∨ 1000 < n then 3 else 0) E hE W g hg t)
  clear hE h
  generalize checkI a = ca at *
  by_cases hn : n < 0
  ·rw [if_pos (.inl hn)] at HFI
   have HWN := Aside0.mk (fun W => rwhen_calls true 3 W)
   go_enter Tryz.func32, Tryz.ntmps32
   go_wp2_with (first | (go_at_call 13; (with_reducible refine (HCa.out _).mono ?_); rintro e wx ⟨rfl, hbx⟩; have HB2 := Aside0.mk (HB.out.trans (hbx.mono HB.out.size)); clear HB; have HB := HB2; clear HB2; clear hbx) | (go_at_call 67; (with_reducible refine (HWN.out _).mono ?_); rintro e wy ⟨rfl, hwy⟩; rw [hwy]; clear hwy wy) | (go_at_call 81; (with_reducible refine (HFI.out _ _ rfl _).mono ?_); rintro e wx ⟨rfl, hwx⟩; rw [hwx]; clear hwx wx; have HB2 := Aside0.mk (below_alloc HB.out (.cells #[.int .i64 ca, .int .i64 3] 3)); clear HB; have HB := HB2; clear HB2))
   go_ret2
   exact ⟨rfl, HB.out⟩
  ·have hn1 : decide (n < 0) = false := decide_eq_false hn
   by_cases hn2 : 1000 < n
   ·rw [if_pos (.inr hn2)] at HFI
    have hn3 : decide (1000 < n) = true := decide_eq_true hn2
    have HWN := Aside0.mk (fun W => rwhen_calls true 3 W)
    go_enter Tryz.func32, Tryz.ntmps32
    go_wp2_with (first | (go_at_call 13; (with_reducible refine (HCa.out _).mono ?_); rintro e wx ⟨rfl, hbx⟩; have HB2 := Aside0.mk (HB.out.trans (hbx.mono HB.out.size)); clear HB; have HB := HB2; clear HB2; clear hbx) | (go_at_call 67; (with_reducible refine (HWN.out _).mono ?_); rintro e wy ⟨rfl, hwy⟩; rw [hwy]; clear hwy wy) | (go_at_call 81; (with_reducible refine (HFI.out _ _ rfl _).mono ?_); rintro e wx ⟨rfl, hwx⟩; rw [hwx]; clear hwx wx; have HB2 := Aside0.mk (below_alloc HB.out (.cells #[.int .i64 ca, .int .i64 3] 3)); clear HB; have HB := HB2; clear HB2))
    go_ret2
    exact ⟨rfl, HB.out⟩
   ·rw [if_neg (fun h => h.elim hn hn2)] at HFI
    have hn3 : decide (1000 < n) = false := decide_eq_false hn2
    have HWN := Aside0.mk (fun W => rwhen_calls false 3 W)
    go_enter Tryz.func32, Tryz.ntmps32
    go_wp2_with (first | (go_at_call 13; (with_reducible refine (HCa.out _).mono ?_); rintro e wx ⟨rfl, hbx⟩; have HB2 := Aside0.mk (HB.out.trans (hbx.mono HB.out.size)); clear HB; have HB := HB2; clear HB2; clear hbx) | (go_at_call 67; (with_reducible refine (HWN.out _).mono ?_); rintro e wy ⟨rfl, hwy⟩; rw [hwy]; clear hwy wy) | (go_at_call 81; (with_reducible refine (HFI.out _ _ rfl _).mono ?_); rintro e wx ⟨rfl, hwx⟩; rw [hwx]; clear hwx wx; have HB2 := Aside0.mk (below_alloc HB.out (.cells #[.int .i64 ca, .int .i64 0] 3)); clear HB; have HB := HB2; clear HB2))
    go_ret2
    exact ⟨rfl, HB.out⟩
theorem lit_max (W : World) : Calls Tryz.prog 72 #[.string ⟨#[57, 50, 50, 51, 51, 55, 50, 48, 51, 54, 56, 53, 52, 55, 55, 53, 56, 48, 55]⟩] W fun e w' => RX W 9223372036854775807 e w' := by
 have h := rRead_calls ⟨#[57, 50, 50, 51, 51, 55, 50, 48, 51, 54, 56, 53, 52, 55, 55, 53, 56, 48, 55]⟩ (by decide) (by decide +kernel) W
 rwa [show intI ⟨#[57, 50, 50, 51, 51, 55, 50, 48, 51, 54, 56, 53, 52, 55, 55, 53, 56, 48, 55]⟩ = 9223372036854775807 by decide +kernel] at h
theorem lit_min (W : World) : Calls Tryz.prog 72 #[.string ⟨#[45, 57, 50, 50, 51, 51, 55, 50, 48, 51, 54, 56, 53, 52, 55, 55, 53, 56, 48, 56]⟩] W fun e w' => RX W (-9223372036854775808) e w' := by
 have h := rRead_calls ⟨#[45, 57, 50, 50, 51, 51, 55, 50, 48, 51, 54, 56, 53, 52, 55, 55, 53, 56, 48, 56]⟩ (by decide) (by decide +kernel) W
 rwa [show intI ⟨#[45, 57, 50, 50, 51, 51, 55, 50, 48, 51, 54, 56, 53, 52, 55, 55, 53, 56, 48, 56]⟩ = -9223372036854775808 by decide +kernel] at h
theorem rToInt_over (s : ByteArray) (hs : s.size ≤ 90000) (hc : checkI s = 0) (hx : 9223372036854775807 < intI s) (w : World) :
 Calls Tryz.prog 17 #[.string s] w fun e w' => e = .returned (.tuple #[.int .i64 0, .int .i64 4]) ∧ Below w.heap.size w w' := by
 have HCa := Aside0.mk (fun W => rCheck_calls s (by omega) W)
 rw [hc] at HCa
 have HB := Aside0.mk (Below.refl w.heap.size w)
 have HRa := Aside0.mk (fun W => rRead_calls s hs (check_digits hc) W)
 have dx := intI_dig hc
 generalize intI s = x at *
 have HLL := Aside0.mk lit_max
 have HHH := Aside0.mk lit_min
 have HOL := Aside0.mk (fun W A1 k1 c1 A2 k2 c2 (hc : k2 ≤ c2) h1 h2 => rOrder_calls (w := W) (A1 := A1) (A2 := A2) (L1 := k1) (L2 := k2) (c1 := c1) (c2 := c2) (x := x) (y := 9223372036854775807) h1 h2 hc (Nat.le_trans (RM.dig h1 dx 30 (by omega)) (by omega)) (Nat.le_trans (RM.dig (k := 19) h2 (by unfold Dig; decide) 5 (by omega)) (by omega)))
 have HOH := Aside0.mk (fun W A1 k1 c1 A2 k2 c2 (hc : k2 ≤ c2) h1 h2 => rOrder_calls (w := W) (A1 := A1) (A2 := A2) (L1 := k1) (L2 := k2) (c1 := c1) (c2 := c2) (x := x) (y := -9223372036854775808) h1 h2 hc (Nat.le_trans (RM.dig h1 dx 30 (by omega)) (by omega)) (Nat.le_trans (RM.dig (k := 19) h2 (by unfold Dig; decide) 5 (by omega)) (by omega)))
 clear dx
 obtain ⟨qL, hqL⟩ : ∃ q, cmpI x 9223372036854775807 = q := ⟨_, rfl⟩
 obtain ⟨qH, hqH⟩ : ∃ q, cmpI x (-9223372036854775808) = q := ⟨_, rfl⟩
 rw [hqL] at HOL
 rw [hqH] at HOH
 unfold RX at *
 unfold rV at *
 obtain ⟨f, hf⟩ : ∃ f, decide (x < 0) = f := ⟨_, rfl⟩
 rw [hf] at HRa HOL HOH
 rw [show decide ((9223372036854775807 : Int) < 0) = false from rfl] at HLL HOL
 rw [show decide ((-9223372036854775808 : Int) < 0) = true from rfl] at HHH HOH
 have g1 : decide (0 < qL) = true := by rw [← hqL]; unfold cmpI; rw [if_neg (by omega), if_pos (by omega)]; rfl
 clear hqL hqH hf hx hc
 go_enter Tryz.func17, Tryz.ntmps17
 go_upto_region 5 with (first | (go_at_call 13; (with_reducible refine (HCa.out _).mono ?_); rintro e wx ⟨rfl, hbx⟩; have HB2 := Aside0.mk (HB.out.trans (hbx.mono HB.out.size)); clear HB; have HB := HB2; clear HB2; clear hbx) | (go_at_call 72; (with_reducible refine (HRa.out _).mono ?_); rintro e W9 ⟨A, k, c, rfl, hk, hm, hbx⟩; have HM := Aside0.mk (And.intro hk hm); have HB2 := Aside0.mk (HB.out.trans (hbx.mono HB.out.size)); clear HB; have HB := HB2; clear HB2; clear hbx hk hm))
 obtain ⟨Y, hY⟩ : ∃ Y, (W9.alloc (.cells #[.bool f, .slice A k c] 77)) = Y := ⟨_, rfl⟩
 have HQ : Aside0 (BG Y W9.heap.size f A k c) := ⟨by subst hY; exact BG.new _ _ _ _ _⟩
 have hyb : Below W9.heap.size W9 Y := by subst hY; exact below_alloc (Below.refl _ _) _
 have HM2 := Aside0.mk (And.intro HM.out.1 (HM.out.2.below hyb))
 have HB2 := Aside0.mk (HB.out.trans (hyb.mono HB.out.size))
 clear HM HB hyb
 have HM := HM2
 have HB := HB2
 clear HM2 HB2 HRa HCa
 rw [hY]
 clear hY
 have z0 := HQ.out.cell0
 have z1 := HQ.out.cell1
 generalize W9.heap.size = p at *
 rename_i K hK
 refine wp_region_held_drew (S := (fun V => V.cell? ⟨p, 0, none⟩ = some (.bool f) ∧ V.cell? ⟨p, 1, none⟩ = some (.slice A k c))) (by kernel_rfl) ?_ (fun hHeld => ?_)
 ·exact ⟨z0, z1⟩
 (obtain ⟨Z, hZ⟩ : ∃ Z, Y.drew = Z := ⟨_, rfl⟩; have hbx : Below Y.heap.size Y Z := (by subst hZ; exact below_drew1 (Below.refl _ _)); have HQ2 := Aside0.mk (HQ.out.below hbx); clear HQ; have HQ := HQ2; clear HQ2; have HM2 := Aside0.mk (And.intro HM.out.1 (HM.out.2.below hbx)); clear HM; have HM := HM2; clear HM2; have HB2 := Aside0.mk (HB.out.trans (hbx.mono HB.out.size)); clear HB; have HB := HB2; clear HB2; rw [hZ] at hHeld ⊢; clear hZ hbx z0 z1)
 refine tp 0 ?_
 try simp only [PU]
 refine tc 1 fun K hK => ?_
 go_simp
 (go_at_call 72; (with_reducible refine (HLL.out _).mono ?_); rintro e W6 ⟨AL, kL, cL, rfl, hkL, hmL, hbx⟩; have HML := Aside0.mk (And.intro hkL hmL); have HQ2 := Aside0.mk (HQ.out.below hbx); clear HQ; have HQ := HQ2; clear HQ2; have HM2 := Aside0.mk (And.intro HM.out.1 (HM.out.2.below hbx)); clear HM; have HM := HM2; clear HM2; have HB2 := Aside0.mk (HB.out.trans (hbx.mono HB.out.size)); clear HB; have HB := HB2; clear HB2; clear hkL hmL)
 refine hK.out _ _ ?_ fun hHeld => ?_
 ·exact ⟨keepB2 hbx hHeld.1, keepB2 hbx hHeld.2⟩
 clear hK K; try simp only [PU]
 refine tc 2 fun K hK => ?_
 go_simp
 (go_at_call 73; (with_reducible refine (HOL.out _ _ _ _ _ _ _ HML.out.1 HM.out.2 HML.out.2).mono ?_); rintro e W7 ⟨rfl, hbx⟩; have HQ2 := Aside0.mk (HQ.out.below hbx); clear HQ; have HQ := HQ2; clear HQ2; have HM2 := Aside0.mk (And.intro HM.out.1 (HM.out.2.below hbx)); clear HM; have HM := HM2; clear HM2; have HB2 := Aside0.mk (HB.out.trans (hbx.mono HB.out.size)); clear HB; have HB := HB2; clear HB2; clear HML)
 refine hK.out _ _ ?_ fun hHeld => ?_
 ·exact ⟨keepB2 hbx hHeld.1, keepB2 hbx hHeld.2⟩
 clear hK K; try simp only [PU]
 refine tp 3 ?_
 try simp only [PU]
 refine tp 4 ?_
 try simp only [PU]
 refine tu 5 ?_
 try simp only [PU]
 refine tu 6 ?_
 try simp only [PU]
 refine tu 7 ?_
 try simp only [PU]
 refine tu 8 ?_
 try simp only [PU]
 refine tp 9 ?_
 try simp only [PU]
 refine wpAnyH_done (by kernel_rfl) ?_ _
 refine hK _ _ ?_
 go_wp2
 go_ret2
 exact ⟨rfl, HB.out⟩
theorem rToInt_under (s : ByteArray) (hs : s.size ≤ 90000) (hc : checkI s = 0) (hx : intI s < -9223372036854775808) (w : World) :
 Calls Tryz.prog 17 #[.string s] w fun e w' => e = .returned (.tuple #[.int .i64 0, .int .i64 4]) ∧ Below w.heap.size w w' := by
 have HCa := Aside0.mk (fun W => rCheck_calls s (by omega) W)
 rw [hc] at HCa
 have HB := Aside0.mk (Below.refl w.heap.size w)
 have HRa := Aside0.mk (fun W => rRead_calls s hs (check_digits hc) W)
 have dx := intI_dig hc
 generalize intI s = x at *
 have HLL := Aside0.mk lit_max
 have HHH := Aside0.mk lit_min
 have HOL := Aside0.mk (fun W A1 k1 c1 A2 k2 c2 (hc : k2 ≤ c2) h1 h2 => rOrder_calls (w := W) (A1 := A1) (A2 := A2) (L1 := k1) (L2 := k2) (c1 := c1) (c2 := c2) (x := x) (y := 9223372036854775807) h1 h2 hc (Nat.le_trans (RM.dig h1 dx 30 (by omega)) (by omega)) (Nat.le_trans (RM.dig (k := 19) h2 (by unfold Dig; decide) 5 (by omega)) (by omega)))
 have HOH := Aside0.mk (fun W A1 k1 c1 A2 k2 c2 (hc : k2 ≤ c2) h1 h2 => rOrder_calls (w := W) (A1 := A1) (A2 := A2) (L1 := k1) (L2 := k2) (c1 := c1) (c2 := c2) (x := x) (y := -9223372036854775808) h1 h2 hc (Nat.le_trans (RM.dig h1 dx 30 (by omega)) (by omega)) (Nat.le_trans (RM.dig (k := 19) h2 (by unfold Dig; decide) 5 (by omega)) (by omega)))
 clear dx
 obtain ⟨qL, hqL⟩ : ∃ q, cmpI x 9223372036854775807 = q := ⟨_, rfl⟩
 obtain ⟨qH, hqH⟩ : ∃ q, cmpI x (-9223372036854775808) = q := ⟨_, rfl⟩
 rw [hqL] at HOL
 rw [hqH] at HOH
 unfold RX at *
 unfold rV at *
 obtain ⟨f, hf⟩ : ∃ f, decide (x < 0) = f := ⟨_, rfl⟩
 rw [hf] at HRa HOL HOH
 rw [show decide ((9223372036854775807 : Int) < 0) = false from rfl] at HLL HOL
 rw [show decide ((-9223372036854775808 : Int) < 0) = true from rfl] at HHH HOH
 have g1 : decide (0 < qL) = false := by rw [← hqL]; unfold cmpI; rw [if_pos (by omega)]; rfl
 have g2 : decide (qH < 0) = true := by rw [← hqH]; unfold cmpI; rw [if_pos (by omega)]; rfl
 clear hqL hqH hf hx hc
 go_enter Tryz.func17, Tryz.ntmps17
 go_upto_region 5 with (first | (go_at_call 13; (with_reducible refine (HCa.out _).mono ?_); rintro e wx ⟨rfl, hbx⟩; have HB2 := Aside0.mk (HB.out.trans (hbx.mono HB.out.size)); clear HB; have HB := HB2; clear HB2; clear hbx) | (go_at_call 72; (with_reducible refine (HRa.out _).mono ?_); rintro e W9 ⟨A, k, c, rfl, hk, hm, hbx⟩; have HM := Aside0.mk (And.intro hk hm); have HB2 := Aside0.mk (HB.out.trans (hbx.mono HB.out.size)); clear HB; have HB := HB2; clear HB2; clear hbx hk hm))
 obtain ⟨Y, hY⟩ : ∃ Y, (W9.alloc (.cells #[.bool f, .slice A k c] 77)) = Y := ⟨_, rfl⟩
 have HQ : Aside0 (BG Y W9.heap.size f A k c) := ⟨by subst hY; exact BG.new _ _ _ _ _⟩
 have hyb : Below W9.heap.size W9 Y := by subst hY; exact below_alloc (Below.refl _ _) _
 have HM2 := Aside0.mk (And.intro HM.out.1 (HM.out.2.below hyb))
 have HB2 := Aside0.mk (HB.out.trans (hyb.mono HB.out.size))
 clear HM HB hyb
 have HM := HM2
 have HB := HB2
 clear HM2 HB2 HRa HCa
 rw [hY]
 clear hY
 have z0 := HQ.out.cell0
 have z1 := HQ.out.cell1
 generalize W9.heap.size = p at *
 rename_i K hK
 refine wp_region_held_drew (S := (fun V => V.cell? ⟨p, 0, none⟩ = some (.bool f) ∧ V.cell? ⟨p, 1, none⟩ = some (.slice A k c))) (by kernel_rfl) ?_ (fun hHeld => ?_)
 ·exact ⟨z0, z1⟩
 (obtain ⟨Z, hZ⟩ : ∃ Z, Y.drew = Z := ⟨_, rfl⟩; have hbx : Below Y.heap.size Y Z := (by subst hZ; exact below_drew1 (Below.refl _ _)); have HQ2 := Aside0.mk (HQ.out.below hbx); clear HQ; have HQ := HQ2; clear HQ2; have HM2 := Aside0.mk (And.intro HM.out.1 (HM.out.2.below hbx)); clear HM; have HM := HM2; clear HM2; have HB2 := Aside0.mk (HB.out.trans (hbx.mono HB.out.size)); clear HB; have HB := HB2; clear HB2; rw [hZ] at hHeld ⊢; clear hZ hbx z0 z1)
 refine tp 0 ?_
 try simp only [PU]
 refine tc 1 fun K hK => ?_
 go_simp
 (go_at_call 72; (with_reducible refine (HLL.out _).mono ?_); rintro e W6 ⟨AL, kL, cL, rfl, hkL, hmL, hbx⟩; have HML := Aside0.mk (And.intro hkL hmL); have HQ2 := Aside0.mk (HQ.out.below hbx); clear HQ; have HQ := HQ2; clear HQ2; have HM2 := Aside0.mk (And.intro HM.out.1 (HM.out.2.below hbx)); clear HM; have HM := HM2; clear HM2; have HB2 := Aside0.mk (HB.out.trans (hbx.mono HB.out.size)); clear HB; have HB := HB2; clear HB2; clear hkL hmL)
 refine hK.out _ _ ?_ fun hHeld => ?_
 ·exact ⟨keepB2 hbx hHeld.1, keepB2 hbx hHeld.2⟩
 clear hK K; try simp only [PU]
 refine tc 2 fun K hK => ?_
 go_simp
 (go_at_call 73; (with_reducible refine (HOL.out _ _ _ _ _ _ _ HML.out.1 HM.out.2 HML.out.2).mono ?_); rintro e W7 ⟨rfl, hbx⟩; have HQ2 := Aside0.mk (HQ.out.below hbx); clear HQ; have HQ := HQ2; clear HQ2; have HM2 := Aside0.mk (And.intro HM.out.1 (HM.out.2.below hbx)); clear HM; have HM := HM2; clear HM2; have HB2 := Aside0.mk (HB.out.trans (hbx.mono HB.out.size)); clear HB; have HB := HB2; clear HB2; clear HML)
 refine hK.out _ _ ?_ fun hHeld => ?_
 ·exact ⟨keepB2 hbx hHeld.1, keepB2 hbx hHeld.2⟩
 clear hK K; try simp only [PU]
 refine tp 3 ?_
 try simp only [PU]
 refine tp 4 ?_
 try simp only [PU]
 refine tp 5 ?_
 try simp only [PU]
 refine tc 6 fun K hK => ?_
 go_simp
 (go_at_call 72; (with_reducible refine (HHH.out _).mono ?_); rintro e W4 ⟨AH, kH, cH, rfl, hkH, hmH, hbx⟩; have HMH := Aside0.mk (And.intro hkH hmH); have HQ2 := Aside0.mk (HQ.out.below hbx); clear HQ; have HQ := HQ2; clear HQ2; have HM2 := Aside0.mk (And.intro HM.out.1 (HM.out.2.below hbx)); clear HM; have HM := HM2; clear HM2; have HB2 := Aside0.mk (HB.out.trans (hbx.mono HB.out.size)); clear HB; have HB := HB2; clear HB2; clear hkH hmH)
 refine hK.out _ _ ?_ fun hHeld => ?_
 ·exact ⟨keepB2 hbx hHeld.1, keepB2 hbx hHeld.2⟩
 clear hK K; try simp only [PU]
 refine tc 7 fun K hK => ?_
 go_simp
 (go_at_call 73; (with_reducible refine (HOH.out _ _ _ _ _ _ _ HMH.out.1 HM.out.2 HMH.out.2).mono ?_); rintro e W5 ⟨rfl, hbx⟩; have HQ2 := Aside0.mk (HQ.out.below hbx); clear HQ; have HQ := HQ2; clear HQ2; have HM2 := Aside0.mk (And.intro HM.out.1 (HM.out.2.below hbx)); clear HM; have HM := HM2; clear HM2; have HB2 := Aside0.mk (HB.out.trans (hbx.mono HB.out.size)); clear HB; have HB := HB2; clear HB2; clear HMH)
 refine hK.out _ _ ?_ fun hHeld => ?_
 ·exact ⟨keepB2 hbx hHeld.1, keepB2 hbx hHeld.2⟩
 clear hK K; try simp only [PU]
 refine tp 8 ?_
 try simp only [PU]
 refine tp 9 ?_
 try simp only [PU]
 refine wpAnyH_done (by kernel_rfl) ?_ _
 refine hK _ _ ?_
 go_wp2
 go_ret2
 exact ⟨rfl, HB.out⟩
theorem div_len {w : World} {A : Option Addr} {k m : Nat} (h : RM w A k m) : m / QQ ^ k = 0 := by
 have := dg_lt_pow QQ1 m
 rw [h.len] at this
 exact Nat.div_eq_of_lt this
theorem int_up {m q q2 d : Nat} (hm : m ≤ 9223372036854775807) (hle : q2 ≤ m) (h : q2 = 10000 * q + d) : IntKind.i64.wrap ((q : Int) * 10000) = (q : Int) * 10000 ∧ IntKind.i64.wrap ((q : Int) * 10000 + (d : Int)) = (q : Int) * 10000 + (d : Int) ∧ wrap64 (10000 * (q : Int) + (d : Int)) = (q2 : Int) :=
 ⟨IntWalk.i64_in _ (by omega), IntWalk.i64_in _ (by omega), by have e := IntWalk.i64_in (10000 * (q : Int) + (d : Int)) (by omega); rw [i64_w] at e; rw [e]; omega⟩
theorem int_down {m q q2 d : Nat} (hm : m ≤ 9223372036854775808) (hle : q2 ≤ m) (h : q2 = 10000 * q + d) : IntKind.i64.wrap (-(q : Int) * 10000) = -(q : Int) * 10000 ∧ IntKind.i64.wrap (-(q : Int) * 10000 - (d : Int)) = -(q : Int) * 10000 - (d : Int) ∧ -(10000 * (q : Int) + (d : Int)) = -(q2 : Int) :=
 ⟨IntWalk.i64_in _ (by omega), IntWalk.i64_in _ (by omega), by omega⟩
theorem rToInt_ok (s : ByteArray) (hs : s.size ≤ 90000) (hc : checkI s = 0) (hx1 : -9223372036854775808 ≤ intI s) (hx2 : intI s ≤ 9223372036854775807) (w : World) :
 Calls Tryz.prog 17 #[.string s] w fun e w' => e = .returned (.tuple #[.int .i64 (intI s), .int .i64 0]) ∧ Below w.heap.size w w' := by
 have HCa := Aside0.mk (fun W => rCheck_calls s (by omega) W)
 rw [hc] at HCa
 have HB := Aside0.mk (Below.refl w.heap.size w)
 have HRa := Aside0.mk (fun W => rRead_calls s hs (check_digits hc) W)
 have dx := intI_dig hc
 generalize intI s = x at *
 have HLL := Aside0.mk lit_max
 have HHH := Aside0.mk lit_min
 have HOL := Aside0.mk (fun W A1 k1 c1 A2 k2 c2 (hc : k2 ≤ c2) h1 h2 => rOrder_calls (w := W) (A1 := A1) (A2 := A2) (L1 := k1) (L2 := k2) (c1 := c1) (c2 := c2) (x := x) (y := 9223372036854775807) h1 h2 hc (Nat.le_trans (RM.dig h1 dx 30 (by omega)) (by omega)) (Nat.le_trans (RM.dig (k := 19) h2 (by unfold Dig; decide) 5 (by omega)) (by omega)))
 have HOH := Aside0.mk (fun W A1 k1 c1 A2 k2 c2 (hc : k2 ≤ c2) h1 h2 => rOrder_calls (w := W) (A1 := A1) (A2 := A2) (L1 := k1) (L2 := k2) (c1 := c1) (c2 := c2) (x := x) (y := -9223372036854775808) h1 h2 hc (Nat.le_trans (RM.dig h1 dx 30 (by omega)) (by omega)) (Nat.le_trans (RM.dig (k := 19) h2 (by unfold Dig; decide) 5 (by omega)) (by omega)))
 clear dx
 obtain ⟨qL, hqL⟩ : ∃ q, cmpI x 9223372036854775807 = q := ⟨_, rfl⟩
 obtain ⟨qH, hqH⟩ : ∃ q, cmpI x (-9223372036854775808) = q := ⟨_, rfl⟩
 rw [hqL] at HOL
 rw [hqH] at HOH
 unfold RX at *
 unfold rV at *
 obtain ⟨f, hf⟩ : ∃ f, decide (x < 0) = f := ⟨_, rfl⟩
 rw [hf] at HRa HOL HOH
 rw [show decide ((9223372036854775807 : Int) < 0) = false from rfl] at HLL HOL
 rw [show decide ((-9223372036854775808 : Int) < 0) = true from rfl] at HHH HOH
 have g1 : decide (0 < qL) = false := by rw [← hqL]; unfold cmpI; split <;> (try split) <;> first | rfl | omega
 have g2 : decide (qH < 0) = false := by rw [← hqH]; unfold cmpI; split <;> (try split) <;> first | rfl | omega
 obtain ⟨m, hm0⟩ : ∃ m, x.natAbs = m := ⟨_, rfl⟩
 have HXM : Aside0 (x = (if f = true then -(m : Int) else (m : Int)) ∧ m ≤ 9223372036854775808 ∧ (f = false → m ≤ 9223372036854775807)) := ⟨by
  subst hm0 hf
  by_cases h : x < 0
  ·rw [decide_eq_true h]; simp; omega
  ·rw [decide_eq_false h]; simp; omega⟩
 rw [hm0] at HRa HOL HOH
 clear hqL hqH hf hx1 hx2 hc hm0
 go_enter Tryz.func17, Tryz.ntmps17
 go_upto_region 5 with (first | (go_at_call 13; (with_reducible refine (HCa.out _).mono ?_); rintro e wx ⟨rfl, hbx⟩; have HB2 := Aside0.mk (HB.out.trans (hbx.mono HB.out.size)); clear HB; have HB := HB2; clear HB2; clear hbx) | (go_at_call 72; (with_reducible refine (HRa.out _).mono ?_); rintro e W9 ⟨A, k, c, rfl, hk, hm, hbx⟩; have HM := Aside0.mk (And.intro hk hm); have HB2 := Aside0.mk (HB.out.trans (hbx.mono HB.out.size)); clear HB; have HB := HB2; clear HB2; clear hbx hk hm))
 obtain ⟨Y, hY⟩ : ∃ Y, (W9.alloc (.cells #[.bool f, .slice A k c] 77)) = Y := ⟨_, rfl⟩
 have HQ : Aside0 (BG Y W9.heap.size f A k c) := ⟨by subst hY; exact BG.new _ _ _ _ _⟩
 have hyb : Below W9.heap.size W9 Y := by subst hY; exact below_alloc (Below.refl _ _) _
 have HM2 := Aside0.mk (And.intro HM.out.1 (HM.out.2.below hyb))
 have HB2 := Aside0.mk (HB.out.trans (hyb.mono HB.out.size))
 clear HM HB hyb
 have HM := HM2
 have HB := HB2
 clear HM2 HB2 HRa HCa
 rw [hY]
 clear hY
 have z0 := HQ.out.cell0
 have z1 := HQ.out.cell1
 generalize W9.heap.size = p at *
 rename_i K hK
 refine wp_region_held_drew (S := (fun V => V.cell? ⟨p, 0, none⟩ = some (.bool f) ∧ V.cell? ⟨p, 1, none⟩ = some (.slice A k c))) (by kernel_rfl) ?_ (fun hHeld => ?_)
 ·exact ⟨z0, z1⟩
 (obtain ⟨Z, hZ⟩ : ∃ Z, Y.drew = Z := ⟨_, rfl⟩; have hbx : Below Y.heap.size Y Z := (by subst hZ; exact below_drew1 (Below.refl _ _)); have HQ2 := Aside0.mk (HQ.out.below hbx); clear HQ; have HQ := HQ2; clear HQ2; have HM2 := Aside0.mk (And.intro HM.out.1 (HM.out.2.below hbx)); clear HM; have HM := HM2; clear HM2; have HB2 := Aside0.mk (HB.out.trans (hbx.mono HB.out.size)); clear HB; have HB := HB2; clear HB2; rw [hZ] at hHeld ⊢; clear hZ hbx z0 z1)
 refine tp 0 ?_
 try simp only [PU]
 refine tc 1 fun K hK => ?_
 go_simp
 (go_at_call 72; (with_reducible refine (HLL.out _).mono ?_); rintro e W6 ⟨AL, kL, cL, rfl, hkL, hmL, hbx⟩; have HML := Aside0.mk (And.intro hkL hmL); have HQ2 := Aside0.mk (HQ.out.below hbx); clear HQ; have HQ := HQ2; clear HQ2; have HM2 := Aside0.mk (And.intro HM.out.1 (HM.out.2.below hbx)); clear HM; have HM := HM2; clear HM2; have HB2 := Aside0.mk (HB.out.trans (hbx.mono HB.out.size)); clear HB; have HB := HB2; clear HB2; clear hkL hmL)
 refine hK.out _ _ ?_ fun hHeld => ?_
 ·exact ⟨keepB2 hbx hHeld.1, keepB2 hbx hHeld.2⟩
 clear hK K; try simp only [PU]
 refine tc 2 fun K hK => ?_
 go_simp
 (go_at_call 73; (with_reducible refine (HOL.out _ _ _ _ _ _ _ HML.out.1 HM.out.2 HML.out.2).mono ?_); rintro e W7 ⟨rfl, hbx⟩; have HQ2 := Aside0.mk (HQ.out.below hbx); clear HQ; have HQ := HQ2; clear HQ2; have HM2 := Aside0.mk (And.intro HM.out.1 (HM.out.2.below hbx)); clear HM; have HM := HM2; clear HM2; have HB2 := Aside0.mk (HB.out.trans (hbx.mono HB.out.size)); clear HB; have HB := HB2; clear HB2; clear HML)
 refine hK.out _ _ ?_ fun hHeld => ?_
 ·exact ⟨keepB2 hbx hHeld.1, keepB2 hbx hHeld.2⟩
 clear hK K; try simp only [PU]
 refine tp 3 ?_
 try simp only [PU]
 refine tp 4 ?_
 try simp only [PU]
 refine tp 5 ?_
 try simp only [PU]
 refine tc 6 fun K hK => ?_
 go_simp
 (go_at_call 72; (with_reducible refine (HHH.out _).mono ?_); rintro e W4 ⟨AH, kH, cH, rfl, hkH, hmH, hbx⟩; have HMH := Aside0.mk (And.intro hkH hmH); have HQ2 := Aside0.mk (HQ.out.below hbx); clear HQ; have HQ := HQ2; clear HQ2; have HM2 := Aside0.mk (And.intro HM.out.1 (HM.out.2.below hbx)); clear HM; have HM := HM2; clear HM2; have HB2 := Aside0.mk (HB.out.trans (hbx.mono HB.out.size)); clear HB; have HB := HB2; clear HB2; clear hkH hmH)
 refine hK.out _ _ ?_ fun hHeld => ?_
 ·exact ⟨keepB2 hbx hHeld.1, keepB2 hbx hHeld.2⟩
 clear hK K; try simp only [PU]
 refine tc 7 fun K hK => ?_
 go_simp
 (go_at_call 73; (with_reducible refine (HOH.out _ _ _ _ _ _ _ HMH.out.1 HM.out.2 HMH.out.2).mono ?_); rintro e W5 ⟨rfl, hbx⟩; have HQ2 := Aside0.mk (HQ.out.below hbx); clear HQ; have HQ := HQ2; clear HQ2; have HM2 := Aside0.mk (And.intro HM.out.1 (HM.out.2.below hbx)); clear HM; have HM := HM2; clear HM2; have HB2 := Aside0.mk (HB.out.trans (hbx.mono HB.out.size)); clear HB; have HB := HB2; clear HB2; clear HMH)
 refine hK.out _ _ ?_ fun hHeld => ?_
 ·exact ⟨keepB2 hbx hHeld.1, keepB2 hbx hHeld.2⟩
 clear hK K; try simp only [PU]
 refine tp 8 ?_
 try simp only [PU]
 refine tp 9 ?_
 try simp only [PU]
 refine wpAnyH_done (by kernel_rfl) ?_ _
 refine hK _ _ ?_
 obtain ⟨X, rfl⟩ : ∃ X, X = W5 := ⟨_, rfl⟩
 have z0 := HQ.out.cell0
 have z1 := HQ.out.cell1
 have HKM := HM.out.2.len
 clear hK K hHeld hbx
 cases f
 ·skip
  have hm63 := HXM.out.2
  have hkX : k ≤ 90000 := Nat.le_trans (HM.out.2.bound (k := 5) (show m < QQ ^ 5 by show m < 100000000000000000000; omega)) (by omega)
  go_wp2
  go_loopw [6, 7] (fun v6 v7 W => ∃ j : Nat, v6 = .int .i64 (((m / QQ ^ j : Nat) : Int)) ∧ v7 = .int .i64 ((j : Int) - 1) ∧ j ≤ k ∧ W = X) (fun _ v7 _ => (intOf v7 + 1).toNat)
  case atStart => exact ⟨k, by rw [div_len HM.out.2]; rfl, by first | rfl | go_num, Nat.le_refl _, rfl⟩
  case round =>
   obtain ⟨j, rfl, rfl, hj, rfl⟩ := hrel
   rcases Nat.eq_zero_or_pos j with rfl | hj0
   ·have g3 : ¬ (0 : Int) ≤ ((0 : Nat) : Int) - 1 := by decide
    go_wp2
    go_ret2
    refine ⟨?_, HB.out⟩
    rw [HXM.out.1]
    simp
   ·obtain ⟨j, rfl⟩ : ∃ i, j = i + 1 := ⟨j - 1, by omega⟩
    have ej : ((j + 1 : Nat) : Int) - 1 = (j : Int) := by omega
    rw [ej]
    clear ej
    obtain ⟨ad, hA, hc⟩ := HM.out.2.at (i := j) (by omega)
    subst hA
    have hdu := div_up m j
    have hle : m / QQ ^ j ≤ m := Nat.div_le_self _ _
    obtain ⟨d, hd⟩ : ∃ d, m / QQ ^ j % QQ = d := ⟨_, rfl⟩
    obtain ⟨q, hq⟩ : ∃ q, m / QQ ^ (j + 1) = q := ⟨_, rfl⟩
    obtain ⟨q2, hq2⟩ : ∃ q, m / QQ ^ j = q := ⟨_, rfl⟩
    rw [hd, hq, hq2] at hdu
    rw [hq2] at hle
    rw [hd] at hc
    rw [hq]
    have HQ2 := Aside0.mk hq2
    have g2 : (0 : Int) ≤ (j : Int) := by omega
    have g3 : (j : Int) < (k : Int) := by omega
    have hdu2 : q2 = 10000 * q + d := hdu
    have s4 : IntKind.i64.wrap ((j : Int) - 1) = (j : Int) - 1 := IntWalk.i64_in _ (by omega)
    (obtain ⟨e1, e2, e3⟩ : IntKind.i64.wrap ((q : Int) * 10000) = (q : Int) * 10000 ∧ IntKind.i64.wrap ((q : Int) * 10000 + (d : Int)) = (q : Int) * 10000 + (d : Int) ∧ wrap64 (10000 * (q : Int) + (d : Int)) = (q2 : Int) := int_up (by first | exact hm63.2 rfl | exact hm63.2 trivial | exact hm63.2) hle hdu2)
    clear hd hq hq2 hdu
    go_wp2
    go_roundw
    case rel => exact ⟨j, by rw [HQ2.out]; exact congrArg (Value.int .i64) (by first | exact e3 | omega), by first | rfl | go_num, by omega, by first | rfl | trivial⟩
    case measure => simp [intOf]
 ·skip
  have hm63 := HXM.out.2
  have hkX : k ≤ 90000 := Nat.le_trans (HM.out.2.bound (k := 5) (show m < QQ ^ 5 by show m < 100000000000000000000; omega)) (by omega)
  go_wp2
  go_loopw [6, 7] (fun v6 v7 W => ∃ j : Nat, v6 = .int .i64 (-((m / QQ ^ j : Nat) : Int)) ∧ v7 = .int .i64 ((j : Int) - 1) ∧ j ≤ k ∧ W = X) (fun _ v7 _ => (intOf v7 + 1).toNat)
  case atStart => exact ⟨k, by rw [div_len HM.out.2]; rfl, by first | rfl | go_num, Nat.le_refl _, rfl⟩
  case round =>
   obtain ⟨j, rfl, rfl, hj, rfl⟩ := hrel
   rcases Nat.eq_zero_or_pos j with rfl | hj0
   ·have g3 : ¬ (0 : Int) ≤ ((0 : Nat) : Int) - 1 := by decide
    go_wp2
    go_ret2
    refine ⟨?_, HB.out⟩
    rw [HXM.out.1]
    simp
   ·obtain ⟨j, rfl⟩ : ∃ i, j = i + 1 := ⟨j - 1, by omega⟩
    have ej : ((j + 1 : Nat) : Int) - 1 = (j : Int) := by omega
    rw [ej]
    clear ej
    obtain ⟨ad, hA, hc⟩ := HM.out.2.at (i := j) (by omega)
    subst hA
    have hdu := div_up m j
    have hle : m / QQ ^ j ≤ m := Nat.div_le_self _ _
    obtain ⟨d, hd⟩ : ∃ d, m / QQ ^ j % QQ = d := ⟨_, rfl⟩
    obtain ⟨q, hq⟩ : ∃ q, m / QQ ^ (j + 1) = q := ⟨_, rfl⟩
    obtain ⟨q2, hq2⟩ : ∃ q, m / QQ ^ j = q := ⟨_, rfl⟩
    rw [hd, hq, hq2] at hdu
    rw [hq2] at hle
    rw [hd] at hc
    rw [hq]
    have HQ2 := Aside0.mk hq2
    have g2 : (0 : Int) ≤ (j : Int) := by omega
    have g3 : (j : Int) < (k : Int) := by omega
    have hdu2 : q2 = 10000 * q + d := hdu
    have s4 : IntKind.i64.wrap ((j : Int) - 1) = (j : Int) - 1 := IntWalk.i64_in _ (by omega)
    (obtain ⟨e1, e2, e3⟩ : IntKind.i64.wrap (-(q : Int) * 10000) = -(q : Int) * 10000 ∧ IntKind.i64.wrap (-(q : Int) * 10000 - (d : Int)) = -(q : Int) * 10000 - (d : Int) ∧ -(10000 * (q : Int) + (d : Int)) = -(q2 : Int) := int_down hm63.1 hle hdu2)
    clear hd hq hq2 hdu
    go_wp2
    go_roundw
    case rel => exact ⟨j, by rw [HQ2.out]; exact congrArg (Value.int .i64) (by first | exact e3 | omega), by first | rfl | go_num, by omega, by first | rfl | trivial⟩
    case measure => simp [intOf]
theorem rToInt_calls (s : ByteArray) (hs : s.size ≤ 90000) (w : World) :
 Calls Tryz.prog 17 #[.string s] w fun e w' => e = .returned (.tuple #[.int .i64 (toIV s), .int .i64 (toIE s)]) ∧ Below w.heap.size w w' := by
 unfold toIV toIE fit64
 by_cases hc : checkI s = 0
 ·rw [if_pos hc, if_pos hc]
  by_cases h1 : 9223372036854775807 < intI s
  ·rw [if_neg (by simp; omega), if_neg (by simp; omega)]
   exact rToInt_over s hs hc h1 w
  ·by_cases h2 : intI s < -9223372036854775808
   ·rw [if_neg (by simp; omega), if_neg (by simp; omega)]
    exact rToInt_under s hs hc h2 w
   ·rw [if_pos (by simp; omega), if_pos (by simp; omega)]
    exact rToInt_ok s hs hc (by omega) (by omega) w
 ·rw [if_neg hc, if_neg hc]
  have HCa := Aside0.mk (fun W => rCheck_calls s (by omega) W)
  have HB := Aside0.mk (Below.refl w.heap.size w)
  generalize checkI s = E at *
  have hbe : (E != 0) = true := by simp [hc]
  go_enter Tryz.func17, Tryz.ntmps17
  go_wp2_with (first | (go_at_call 13; (with_reducible refine (HCa.out _).mono ?_); rintro e wx ⟨rfl, hbx⟩; have HB2 := Aside0.mk (HB.out.trans (hbx.mono HB.out.size)); clear HB; have HB := HB2; clear HB2; clear hbx))
  go_ret2
  exact ⟨rfl, HB.out⟩
end
section
open Go.Lib Go.Proofs.YtillgofjlpjbcaaGreatDoorW.PrintLast Go.Proofs.YtillgofjlpjbcaaGreatDoorW.PrintMore Go.Proofs.YtillgofjlpjbcaaGreatDoorW.PrintWords Go.RowKit Go.Shelf
set_option maxRecDepth 100000
def nines : ByteArray := ⟨(List.replicate 120 57).toArray⟩
theorem nines_size : nines.size = 120 := by show (List.replicate 120 (57 : UInt8)).toArray.size = 120; simp
theorem nines_calls (W : World) : Calls Tryz.prog 62 #[.string ⟨#[57]⟩, .int .i64 120] W fun e w' => e = .returned (.string nines) ∧ Below W.heap.size W w' := by
 have h := Tryz.strings_Repeat ⟨#[57]⟩ 120 W (by omega) (by show 1 * 120 ≤ _; omega)
 have e : Lib.repeatL [57] 120 = List.replicate 120 57 := by
  have : ∀ q, Lib.repeatL [57] q = List.replicate q 57 := fun q => by
   induction q with
   | zero => rfl
   | succ q ih => rw [Lib.repeatL, ih]; rfl
  exact this 120
 rw [show (⟨#[57]⟩ : ByteArray).data.toList = [57] from rfl, e] at h
 exact h
def awF : Nat → FuncId
 | 0 => 21
 | 1 => 23
 | 2 => 25
 | 3 => 33
 | 4 => 55
 | 5 => 35
 | 6 => 37
 | 7 => 39
 | _ => 41
def awA : Nat → ByteArray
 | 0 => ⟨#[57, 57]⟩
 | 1 => ⟨#[53]⟩
 | 2 => ⟨#[45, 49, 50]⟩
 | 3 => ⟨#[45, 49, 50]⟩
 | 4 => ⟨#[54]⟩
 | 5 => ⟨#[49, 47, 50]⟩
 | 6 => ⟨#[49, 47, 50]⟩
 | 7 => ⟨#[50, 47, 51]⟩
 | _ => ⟨#[49, 47, 50]⟩
def awB : Nat → ByteArray
 | 0 => ⟨#[49]⟩
 | 1 => ⟨#[49, 50]⟩
 | 2 => ⟨#[49, 50]⟩
 | 3 => ⟨#[49, 56]⟩
 | 4 => ⟨#[45, 52]⟩
 | 5 => ⟨#[49, 47, 51]⟩
 | 6 => ⟨#[49, 47, 50]⟩
 | 7 => ⟨#[51, 47, 52]⟩
 | _ => ⟨#[45, 51, 47, 52]⟩
def awC : Nat → ByteArray
 | 0 => ⟨#[49, 48, 48]⟩
 | 1 => ⟨#[45, 55]⟩
 | 2 => ⟨#[45, 49, 52, 52]⟩
 | 3 => ⟨#[54]⟩
 | 4 => ⟨#[45, 51, 47, 50]⟩
 | 5 => ⟨#[53, 47, 54]⟩
 | 6 => ⟨#[48, 47, 49]⟩
 | 7 => ⟨#[49, 47, 50]⟩
 | _ => ⟨#[45, 50, 47, 51]⟩
def dmA : Nat → ByteArray
 | 0 => ⟨#[45, 55]⟩
 | 1 => ⟨#[45, 55]⟩
 | _ => ⟨#[55]⟩
def dmB : Nat → ByteArray
 | 0 => ⟨#[50]⟩
 | 1 => ⟨#[45, 50]⟩
 | _ => ⟨#[45, 50]⟩
def dmC : Nat → ByteArray
 | 0 => ⟨#[45, 52]⟩
 | 1 => ⟨#[52]⟩
 | _ => ⟨#[45, 51]⟩
def dmD : Nat → ByteArray
 | 0 => ⟨#[49]⟩
 | 1 => ⟨#[49]⟩
 | _ => ⟨#[49]⟩
theorem aw0 (W : World) (hE : EN W) : Calls Tryz.prog 21 #[.string ⟨#[57, 57]⟩, .string ⟨#[49]⟩] W fun e w' => e = .returned (.tuple #[.string ⟨#[49, 48, 48]⟩, .int .i64 0]) ∧ Below W.heap.size W w' := by
 have h := addN_calls ⟨#[57, 57]⟩ ⟨#[49]⟩ (by decide) (by decide) W hE.tens
 rw [show biS (fun x y : Int => x + y) ⟨#[57, 57]⟩ ⟨#[49]⟩ = ⟨#[49, 48, 48]⟩ from by decide +kernel, show biR (fun x y : Int => x + y) ⟨#[57, 57]⟩ ⟨#[49]⟩ = 0 from by decide +kernel] at h
 exact h
theorem aw1 (W : World) (hE : EN W) : Calls Tryz.prog 23 #[.string ⟨#[53]⟩, .string ⟨#[49, 50]⟩] W fun e w' => e = .returned (.tuple #[.string ⟨#[45, 55]⟩, .int .i64 0]) ∧ Below W.heap.size W w' := by
 have h := subN_calls ⟨#[53]⟩ ⟨#[49, 50]⟩ (by decide) (by decide) W hE.tens
 rw [show biS (fun x y : Int => x - y) ⟨#[53]⟩ ⟨#[49, 50]⟩ = ⟨#[45, 55]⟩ from by decide +kernel, show biR (fun x y : Int => x - y) ⟨#[53]⟩ ⟨#[49, 50]⟩ = 0 from by decide +kernel] at h
 exact h
theorem aw2 (W : World) (hE : EN W) : Calls Tryz.prog 25 #[.string ⟨#[45, 49, 50]⟩, .string ⟨#[49, 50]⟩] W fun e w' => e = .returned (.tuple #[.string ⟨#[45, 49, 52, 52]⟩, .int .i64 0]) ∧ Below W.heap.size W w' := by
 have h := mulN_calls ⟨#[45, 49, 50]⟩ ⟨#[49, 50]⟩ (by decide) (by decide) W hE.tens
 rw [show biS (fun x y : Int => x * y) ⟨#[45, 49, 50]⟩ ⟨#[49, 50]⟩ = ⟨#[45, 49, 52, 52]⟩ from by decide +kernel, show biR (fun x y : Int => x * y) ⟨#[45, 49, 50]⟩ ⟨#[49, 50]⟩ = 0 from by decide +kernel] at h
 exact h
theorem aw3 (W : World) (hE : EN W) : Calls Tryz.prog 33 #[.string ⟨#[45, 49, 50]⟩, .string ⟨#[49, 56]⟩] W fun e w' => e = .returned (.tuple #[.string ⟨#[54]⟩, .int .i64 0]) ∧ Below W.heap.size W w' := by
 have h := gcdN_calls ⟨#[45, 49, 50]⟩ ⟨#[49, 56]⟩ (by decide) (by decide) W hE.tens
 rw [show biS (fun x y : Int => (Int.gcd x y : Int)) ⟨#[45, 49, 50]⟩ ⟨#[49, 56]⟩ = ⟨#[54]⟩ from by decide +kernel, show biR (fun x y : Int => (Int.gcd x y : Int)) ⟨#[45, 49, 50]⟩ ⟨#[49, 56]⟩ = 0 from by decide +kernel] at h
 exact h
theorem aw4 (W : World) (hE : EN W) : Calls Tryz.prog 55 #[.string ⟨#[54]⟩, .string ⟨#[45, 52]⟩] W fun e w' => e = .returned (.tuple #[.string ⟨#[45, 51, 47, 50]⟩, .int .i64 0]) ∧ Below W.heap.size W w' := by
 have h := realR_calls ⟨#[54]⟩ ⟨#[45, 52]⟩ (by decide) (by decide) W hE.tens
 rw [show rlS ⟨#[54]⟩ ⟨#[45, 52]⟩ = ⟨#[45, 51, 47, 50]⟩ from by decide +kernel, show rlR ⟨#[54]⟩ ⟨#[45, 52]⟩ = 0 from by decide +kernel] at h
 exact h
theorem aw5 (W : World) (hE : EN W) : Calls Tryz.prog 35 #[.string ⟨#[49, 47, 50]⟩, .string ⟨#[49, 47, 51]⟩] W fun e w' => e = .returned (.tuple #[.string ⟨#[53, 47, 54]⟩, .int .i64 0]) ∧ Below W.heap.size W w' := by
 have h := addReal_calls ⟨#[49, 47, 50]⟩ ⟨#[49, 47, 51]⟩ (by decide) (by decide) W hE
 rw [show reS ofAdd ⟨#[49, 47, 50]⟩ ⟨#[49, 47, 51]⟩ = ⟨#[53, 47, 54]⟩ from by decide +kernel, show reR ofAdd ⟨#[49, 47, 50]⟩ ⟨#[49, 47, 51]⟩ = 0 from by decide +kernel] at h
 exact h
theorem aw6 (W : World) (hE : EN W) : Calls Tryz.prog 37 #[.string ⟨#[49, 47, 50]⟩, .string ⟨#[49, 47, 50]⟩] W fun e w' => e = .returned (.tuple #[.string ⟨#[48, 47, 49]⟩, .int .i64 0]) ∧ Below W.heap.size W w' := by
 have h := subReal_calls ⟨#[49, 47, 50]⟩ ⟨#[49, 47, 50]⟩ (by decide) (by decide) W hE
 rw [show reS ofSub ⟨#[49, 47, 50]⟩ ⟨#[49, 47, 50]⟩ = ⟨#[48, 47, 49]⟩ from by decide +kernel, show reR ofSub ⟨#[49, 47, 50]⟩ ⟨#[49, 47, 50]⟩ = 0 from by decide +kernel] at h
 exact h
theorem aw7 (W : World) (hE : EN W) : Calls Tryz.prog 39 #[.string ⟨#[50, 47, 51]⟩, .string ⟨#[51, 47, 52]⟩] W fun e w' => e = .returned (.tuple #[.string ⟨#[49, 47, 50]⟩, .int .i64 0]) ∧ Below W.heap.size W w' := by
 have h := mulReal_calls ⟨#[50, 47, 51]⟩ ⟨#[51, 47, 52]⟩ (by decide) (by decide) W hE
 rw [show reS ofMul ⟨#[50, 47, 51]⟩ ⟨#[51, 47, 52]⟩ = ⟨#[49, 47, 50]⟩ from by decide +kernel, show reR ofMul ⟨#[50, 47, 51]⟩ ⟨#[51, 47, 52]⟩ = 0 from by decide +kernel] at h
 exact h
theorem aw8 (W : World) (hE : EN W) : Calls Tryz.prog 41 #[.string ⟨#[49, 47, 50]⟩, .string ⟨#[45, 51, 47, 52]⟩] W fun e w' => e = .returned (.tuple #[.string ⟨#[45, 50, 47, 51]⟩, .int .i64 0]) ∧ Below W.heap.size W w' := by
 have h := divReal_calls ⟨#[49, 47, 50]⟩ ⟨#[45, 51, 47, 52]⟩ (by decide) (by decide) W hE
 rw [show drS ⟨#[49, 47, 50]⟩ ⟨#[45, 51, 47, 52]⟩ = ⟨#[45, 50, 47, 51]⟩ from by decide +kernel, show drR ⟨#[49, 47, 50]⟩ ⟨#[45, 51, 47, 52]⟩ = 0 from by decide +kernel] at h
 exact h
theorem aw_calls (i : Nat) (hi : i < 9) (W : World) (hE : EN W) : Calls Tryz.prog (awF i) #[.string (awA i), .string (awB i)] W fun e w' => e = .returned (.tuple #[.string (awC i), .int .i64 0]) ∧ Below W.heap.size W w' :=
 match i, hi with
 | 0, _ => aw0 W hE
 | 1, _ => aw1 W hE
 | 2, _ => aw2 W hE
 | 3, _ => aw3 W hE
 | 4, _ => aw4 W hE
 | 5, _ => aw5 W hE
 | 6, _ => aw6 W hE
 | 7, _ => aw7 W hE
 | 8, _ => aw8 W hE
theorem aw_enters (i : Nat) (hi : i < 9) : ∀ (args : Array Value) (w : World), (callFunc (awF i) args).run Tryz.prog w = .ok (.enter (awF i) args) w :=
 match i, hi with
 | 0, _ => enters_of Tryz.func21 (by kernel_rfl) rfl
 | 1, _ => enters_of Tryz.func23 (by kernel_rfl) rfl
 | 2, _ => enters_of Tryz.func25 (by kernel_rfl) rfl
 | 3, _ => enters_of Tryz.func33 (by kernel_rfl) rfl
 | 4, _ => enters_of Tryz.func55 (by kernel_rfl) rfl
 | 5, _ => enters_of Tryz.func35 (by kernel_rfl) rfl
 | 6, _ => enters_of Tryz.func37 (by kernel_rfl) rfl
 | 7, _ => enters_of Tryz.func39 (by kernel_rfl) rfl
 | 8, _ => enters_of Tryz.func41 (by kernel_rfl) rfl
theorem dm0 (W : World) (hE : EN W) : Calls Tryz.prog 27 #[.string ⟨#[45, 55]⟩, .string ⟨#[50]⟩] W fun e w' => e = .returned (.tuple #[.string ⟨#[45, 52]⟩, .string ⟨#[49]⟩, .int .i64 0]) ∧ Below W.heap.size W w' := by
 have h := divMod_calls ⟨#[45, 55]⟩ ⟨#[50]⟩ (by decide) (by decide) W hE.tens
 rw [show dmS (fun x y => x / y) ⟨#[45, 55]⟩ ⟨#[50]⟩ = ⟨#[45, 52]⟩ from by decide +kernel, show dmS (fun x y => x % y) ⟨#[45, 55]⟩ ⟨#[50]⟩ = ⟨#[49]⟩ from by decide +kernel, show divE ⟨#[45, 55]⟩ ⟨#[50]⟩ = 0 from by decide +kernel] at h
 exact h
theorem dm1 (W : World) (hE : EN W) : Calls Tryz.prog 27 #[.string ⟨#[45, 55]⟩, .string ⟨#[45, 50]⟩] W fun e w' => e = .returned (.tuple #[.string ⟨#[52]⟩, .string ⟨#[49]⟩, .int .i64 0]) ∧ Below W.heap.size W w' := by
 have h := divMod_calls ⟨#[45, 55]⟩ ⟨#[45, 50]⟩ (by decide) (by decide) W hE.tens
 rw [show dmS (fun x y => x / y) ⟨#[45, 55]⟩ ⟨#[45, 50]⟩ = ⟨#[52]⟩ from by decide +kernel, show dmS (fun x y => x % y) ⟨#[45, 55]⟩ ⟨#[45, 50]⟩ = ⟨#[49]⟩ from by decide +kernel, show divE ⟨#[45, 55]⟩ ⟨#[45, 50]⟩ = 0 from by decide +kernel] at h
 exact h
theorem dm2 (W : World) (hE : EN W) : Calls Tryz.prog 27 #[.string ⟨#[55]⟩, .string ⟨#[45, 50]⟩] W fun e w' => e = .returned (.tuple #[.string ⟨#[45, 51]⟩, .string ⟨#[49]⟩, .int .i64 0]) ∧ Below W.heap.size W w' := by
 have h := divMod_calls ⟨#[55]⟩ ⟨#[45, 50]⟩ (by decide) (by decide) W hE.tens
 rw [show dmS (fun x y => x / y) ⟨#[55]⟩ ⟨#[45, 50]⟩ = ⟨#[45, 51]⟩ from by decide +kernel, show dmS (fun x y => x % y) ⟨#[55]⟩ ⟨#[45, 50]⟩ = ⟨#[49]⟩ from by decide +kernel, show divE ⟨#[55]⟩ ⟨#[45, 50]⟩ = 0 from by decide +kernel] at h
 exact h
theorem dm_calls (i : Nat) (hi : i < 3) (W : World) (hE : EN W) : Calls Tryz.prog 27 #[.string (dmA i), .string (dmB i)] W fun e w' => e = .returned (.tuple #[.string (dmC i), .string (dmD i), .int .i64 0]) ∧ Below W.heap.size W w' :=
 match i, hi with
 | 0, _ => dm0 W hE
 | 1, _ => dm1 W hE
 | 2, _ => dm2 W hE
theorem ax16 (W : World) (hE : EN W) : Calls Tryz.prog 21 #[.string nines, .string ⟨#[49]⟩] W fun e w' => e = .returned (.tuple #[.string ⟨#[]⟩, .int .i64 4]) ∧ Below W.heap.size W w' := by
 have h := addN_calls nines ⟨#[49]⟩ (by rw [nines_size]; omega) (by decide) W hE.tens
 rw [show biS (fun x y : Int => x + y) nines ⟨#[49]⟩ = ⟨#[]⟩ from by decide +kernel, show biR (fun x y : Int => x + y) nines ⟨#[49]⟩ = 4 from by decide +kernel] at h
 exact h
theorem ax17 (W : World) (hE : EN W) : Calls Tryz.prog 27 #[.string ⟨#[55]⟩, .string ⟨#[48]⟩] W fun e w' => e = .returned (.tuple #[.string ⟨#[]⟩, .string ⟨#[]⟩, .int .i64 30]) ∧ Below W.heap.size W w' := by
 have h := divMod_calls ⟨#[55]⟩ ⟨#[48]⟩ (by decide) (by decide) W hE.tens
 rw [show dmS (fun x y => x / y) ⟨#[55]⟩ ⟨#[48]⟩ = ⟨#[]⟩ from by decide +kernel, show dmS (fun x y => x % y) ⟨#[55]⟩ ⟨#[48]⟩ = ⟨#[]⟩ from by decide +kernel, show divE ⟨#[55]⟩ ⟨#[48]⟩ = 30 from by decide +kernel] at h
 exact h
theorem ax18 (W : World) (hE : EN W) : Calls Tryz.prog 31 #[.string ⟨#[45, 50]⟩, .int .i64 5] W fun e w' => e = .returned (.tuple #[.string ⟨#[45, 51, 50]⟩, .int .i64 0]) ∧ Below W.heap.size W w' := by
 have h := pow_calls ⟨#[45, 50]⟩ (by decide) 5 W hE.tens
 rw [show powS ⟨#[45, 50]⟩ 5 = ⟨#[45, 51, 50]⟩ from by decide +kernel, show powR ⟨#[45, 50]⟩ 5 = 0 from by decide +kernel] at h
 exact h
theorem ax19 (W : World) (hE : EN W) : Calls Tryz.prog 53 #[.string ⟨#[45, 51, 47, 50]⟩] W fun e w' => e = .returned (.tuple #[.string ⟨#[45, 50]⟩, .int .i64 0]) ∧ Below W.heap.size W w' := by
 have h := floor_calls ⟨#[45, 51, 47, 50]⟩ (by decide) W hE
 rw [show flS ⟨#[45, 51, 47, 50]⟩ = ⟨#[45, 50]⟩ from by decide +kernel, show flR ⟨#[45, 51, 47, 50]⟩ = 0 from by decide +kernel] at h
 exact h
theorem ax20 (W : World) (hE : EN W) : Calls Tryz.prog 59 #[.string ⟨#[49, 50, 46, 53, 48]⟩] W fun e w' => e = .returned (.tuple #[.string ⟨#[50, 53, 47, 50]⟩, .int .i64 0]) ∧ Below W.heap.size W w' := by
 have h := fromDecimal_calls ⟨#[49, 50, 46, 53, 48]⟩ (by decide) W hE
 rw [show fdS ⟨#[49, 50, 46, 53, 48]⟩ = ⟨#[50, 53, 47, 50]⟩ from by decide +kernel, show fdR ⟨#[49, 50, 46, 53, 48]⟩ = 0 from by decide +kernel] at h
 exact h
theorem ax21 (W : World) (hE : EN W) : Calls Tryz.prog 45 #[.string ⟨#[45, 49]⟩, .int .i64 8] W fun e w' => e = .returned (.tuple #[.string ⟨#[50, 53, 53]⟩, .int .i64 0]) ∧ Below W.heap.size W w' := by
 have h := wrap_calls ⟨#[45, 49]⟩ (by decide) 8 W hE.tens
 rw [show wpS ⟨#[45, 49]⟩ 8 = ⟨#[50, 53, 53]⟩ from by decide +kernel, show wpE ⟨#[45, 49]⟩ 8 = 0 from by decide +kernel] at h
 exact h
theorem ax22 (W : World) (hE : EN W) : Calls Tryz.prog 47 #[.int .i64 0, .int .i64 8, .string ⟨#[50, 48, 48]⟩, .string ⟨#[49, 48, 48]⟩] W fun e w' => e = .returned (.tuple #[.string ⟨#[52, 52]⟩, .int .i64 0]) ∧ Below W.heap.size W w' := by
 have h := bits_calls 0 8 ⟨#[50, 48, 48]⟩ ⟨#[49, 48, 48]⟩ (by decide) (by decide) W hE
 rw [show btS 0 8 ⟨#[50, 48, 48]⟩ ⟨#[49, 48, 48]⟩ = ⟨#[52, 52]⟩ from by decide +kernel, show btR 0 8 ⟨#[50, 48, 48]⟩ ⟨#[49, 48, 48]⟩ = 0 from by decide +kernel] at h
 exact h
theorem ax23 (W : World) (hE : EN W) : Calls Tryz.prog 47 #[.int .i64 8, .int .i64 8, .string ⟨#[49]⟩, .string ⟨#[56]⟩] W fun e w' => e = .returned (.tuple #[.string ⟨#[48]⟩, .int .i64 0]) ∧ Below W.heap.size W w' := by
 have h := bits_calls 8 8 ⟨#[49]⟩ ⟨#[56]⟩ (by decide) (by decide) W hE
 rw [show btS 8 8 ⟨#[49]⟩ ⟨#[56]⟩ = ⟨#[48]⟩ from by decide +kernel, show btR 8 8 ⟨#[49]⟩ ⟨#[56]⟩ = 0 from by decide +kernel] at h
 exact h
theorem ax24 (W : World) (hE : EN W) : Calls Tryz.prog 47 #[.int .i64 7, .int .i64 8, .string ⟨#[49, 50]⟩, .string ⟨#[49, 48]⟩] W fun e w' => e = .returned (.tuple #[.string ⟨#[54]⟩, .int .i64 0]) ∧ Below W.heap.size W w' := by
 have h := bits_calls 7 8 ⟨#[49, 50]⟩ ⟨#[49, 48]⟩ (by decide) (by decide) W hE
 rw [show btS 7 8 ⟨#[49, 50]⟩ ⟨#[49, 48]⟩ = ⟨#[54]⟩ from by decide +kernel, show btR 7 8 ⟨#[49, 50]⟩ ⟨#[49, 48]⟩ = 0 from by decide +kernel] at h
 exact h
theorem ax25 (W : World) (hE : EN W) : Calls Tryz.prog 29 #[.string ⟨#[45, 53]⟩, .string ⟨#[51]⟩] W fun e w' => e = .returned (.tuple #[.int .i64 (-1), .int .i64 0]) ∧ Below W.heap.size W w' := by
 have h := compareN_calls ⟨#[45, 53]⟩ ⟨#[51]⟩ (by decide) (by decide) W
 rw [show cmpN ⟨#[45, 53]⟩ ⟨#[51]⟩ = -1 from by decide +kernel, show biE ⟨#[45, 53]⟩ ⟨#[51]⟩ = 0 from by decide +kernel] at h
 exact h
theorem ax26 (W : World) (hE : EN W) : Calls Tryz.prog 43 #[.string ⟨#[49, 47, 51]⟩, .string ⟨#[49, 47, 52]⟩] W fun e w' => e = .returned (.tuple #[.int .i64 1, .int .i64 0]) ∧ Below W.heap.size W w' := by
 have h := compareReal_calls ⟨#[49, 47, 51]⟩ ⟨#[49, 47, 52]⟩ (by decide) (by decide) W hE
 rw [show cmpR ⟨#[49, 47, 51]⟩ ⟨#[49, 47, 52]⟩ = 1 from by decide +kernel, show reE ⟨#[49, 47, 51]⟩ ⟨#[49, 47, 52]⟩ = 0 from by decide +kernel] at h
 exact h
theorem ax27 (W : World) (hE : EN W) : Calls Tryz.prog 16 #[.string ⟨#[45, 52, 50]⟩] W fun e w' => e = .returned (.tuple #[.int .i64 (-42), .int .i64 0]) ∧ Below W.heap.size W w' := by
 have h := toInt_calls ⟨#[45, 52, 50]⟩ (by decide) W hE
 rw [show toIV ⟨#[45, 52, 50]⟩ = -42 from by decide +kernel, show toIE ⟨#[45, 52, 50]⟩ = 0 from by decide +kernel] at h
 exact h
theorem ax28 (W : World) (hE : EN W) : Calls Tryz.prog 18 #[.string ⟨#[48]⟩] W fun e w' => e = .returned (.tuple #[.string ⟨#[48]⟩, .int .i64 0]) ∧ Below W.heap.size W w' := by
 have h := negN_calls ⟨#[48]⟩ (by decide) W hE.tens
 rw [show negS ⟨#[48]⟩ = ⟨#[48]⟩ from by decide +kernel, show checkI ⟨#[48]⟩ = 0 from by decide +kernel] at h
 exact h
theorem ax30 (W : World) (hE : EN W) : Calls Tryz.prog 12 #[.string ⟨#[48, 48, 55]⟩] W fun e w' => e = .returned (.int .i64 1) ∧ Below W.heap.size W w' := by
 have h := check_calls ⟨#[48, 48, 55]⟩ (by decide) W
 rw [show checkI ⟨#[48, 48, 55]⟩ = 1 from by decide +kernel] at h
 exact h
theorem ax31 (W : World) (hE : EN W) : Calls Tryz.prog 12 #[.string ⟨#[45, 48]⟩] W fun e w' => e = .returned (.int .i64 1) ∧ Below W.heap.size W w' := by
 have h := check_calls ⟨#[45, 48]⟩ (by decide) W
 rw [show checkI ⟨#[45, 48]⟩ = 1 from by decide +kernel] at h
 exact h
theorem ax32 (W : World) (hE : EN W) : Calls Tryz.prog 12 #[.string (nines ++ ⟨#[57]⟩)] W fun e w' => e = .returned (.int .i64 4) ∧ Below W.heap.size W w' := by
 have h := check_calls (nines ++ ⟨#[57]⟩) (by rw [ByteArray.size_append, nines_size]; decide) W
 rw [show checkI (nines ++ ⟨#[57]⟩) = 4 from by decide +kernel] at h
 exact h
theorem ax33 (W : World) (hE : EN W) : Calls Tryz.prog 51 #[.string ⟨#[50, 47, 52]⟩] W fun e w' => e = .returned (.int .i64 1) ∧ Below W.heap.size W w' := by
 have h := checkR_calls ⟨#[50, 47, 52]⟩ (by decide) W hE
 rw [show checkR ⟨#[50, 47, 52]⟩ = 1 from by decide +kernel] at h
 exact h
theorem ax34 (W : World) (hE : EN W) : Calls Tryz.prog 14 #[.int .i64 (-9)] W fun e w' => e = .returned (.string ⟨#[45, 57]⟩) ∧ Below W.heap.size W w' := by
 have h := fromInt_calls (-9) (by omega) (by omega) W hE.tens
 rw [show (⟨(Lib.itoa (-9)).toArray⟩ : ByteArray) = ⟨#[45, 57]⟩ from by decide +kernel] at h
 exact h
/-- A table in memory. -/
def TB (W : World) (b : Nat) (tab : Array Value) : Prop := ∃ T, W.heap[b]? = some (.cells tab T (0, 0))
theorem TB.cell {W : World} {b : Nat} {tab : Array Value} (h : TB W b tab) {o : Nat} {v : Value} (ho : tab[o]? = some v) : W.cell? ⟨b, o, none⟩ = some v := by
 obtain ⟨T, h⟩ := h
 rw [Lib.cell_of_heap h]
 exact ho
theorem TB.lt {W : World} {b : Nat} {tab : Array Value} (h : TB W b tab) : b < W.heap.size := by
 obtain ⟨T, h⟩ := h
 exact (Array.getElem?_eq_some_iff.1 h).1
theorem TB.below {W X : World} {b : Nat} {tab : Array Value} (h : TB W b tab) (hb : Below W.heap.size W X) : TB X b tab := by
 have hl := h.lt
 obtain ⟨T, h⟩ := h
 exact ⟨T, (hb.block b hl).trans h⟩
def awTab : Array Value := #[.func (.func 21) #[] #[], .string ⟨#[57, 57]⟩, .string ⟨#[49]⟩, .string ⟨#[49, 48, 48]⟩, .func (.func 23) #[] #[], .string ⟨#[53]⟩, .string ⟨#[49, 50]⟩, .string ⟨#[45, 55]⟩, .func (.func 25) #[] #[], .string ⟨#[45, 49, 50]⟩, .string ⟨#[49, 50]⟩, .string ⟨#[45, 49, 52, 52]⟩, .func (.func 33) #[] #[], .string ⟨#[45, 49, 50]⟩, .string ⟨#[49, 56]⟩, .string ⟨#[54]⟩, .func (.func 55) #[] #[], .string ⟨#[54]⟩, .string ⟨#[45, 52]⟩, .string ⟨#[45, 51, 47, 50]⟩, .func (.func 35) #[] #[], .string ⟨#[49, 47, 50]⟩, .string ⟨#[49, 47, 51]⟩, .string ⟨#[53, 47, 54]⟩, .func (.func 37) #[] #[], .string ⟨#[49, 47, 50]⟩, .string ⟨#[49, 47, 50]⟩, .string ⟨#[48, 47, 49]⟩, .func (.func 39) #[] #[], .string ⟨#[50, 47, 51]⟩, .string ⟨#[51, 47, 52]⟩, .string ⟨#[49, 47, 50]⟩, .func (.func 41) #[] #[], .string ⟨#[49, 47, 50]⟩, .string ⟨#[45, 51, 47, 52]⟩, .string ⟨#[45, 50, 47, 51]⟩]
def dmTab : Array Value := #[.string ⟨#[45, 55]⟩, .string ⟨#[50]⟩, .string ⟨#[45, 52]⟩, .string ⟨#[49]⟩, .string ⟨#[45, 55]⟩, .string ⟨#[45, 50]⟩, .string ⟨#[52]⟩, .string ⟨#[49]⟩, .string ⟨#[55]⟩, .string ⟨#[45, 50]⟩, .string ⟨#[45, 51]⟩, .string ⟨#[49]⟩]
theorem awTab_get (i : Nat) (hi : i < 9) : awTab[i * 4]? = some (.func (.func (awF i)) #[] #[]) ∧ awTab[i * 4 + 1]? = some (.string (awA i)) ∧ awTab[i * 4 + 2]? = some (.string (awB i)) ∧ awTab[i * 4 + 3]? = some (.string (awC i)) :=
 match i, hi with
 | 0, _ => ⟨rfl, rfl, rfl, rfl⟩
 | 1, _ => ⟨rfl, rfl, rfl, rfl⟩
 | 2, _ => ⟨rfl, rfl, rfl, rfl⟩
 | 3, _ => ⟨rfl, rfl, rfl, rfl⟩
 | 4, _ => ⟨rfl, rfl, rfl, rfl⟩
 | 5, _ => ⟨rfl, rfl, rfl, rfl⟩
 | 6, _ => ⟨rfl, rfl, rfl, rfl⟩
 | 7, _ => ⟨rfl, rfl, rfl, rfl⟩
 | 8, _ => ⟨rfl, rfl, rfl, rfl⟩
theorem dmTab_get (i : Nat) (hi : i < 3) : dmTab[i * 4]? = some (.string (dmA i)) ∧ dmTab[i * 4 + 1]? = some (.string (dmB i)) ∧ dmTab[i * 4 + 2]? = some (.string (dmC i)) ∧ dmTab[i * 4 + 3]? = some (.string (dmD i)) :=
 match i, hi with
 | 0, _ => ⟨rfl, rfl, rfl, rfl⟩
 | 1, _ => ⟨rfl, rfl, rfl, rfl⟩
 | 2, _ => ⟨rfl, rfl, rfl, rfl⟩
theorem awake_calls (w : World) (hE : EN w) : Calls Tryz.prog 10 #[] w fun e w' => e = .returned (.bool true) ∧ Below w.heap.size w w' := by
 have HE := Aside0.mk hE
 have hns : nines.size = 120 := nines_size
 clear hE
 go_enter Tryz.func10, Tryz.ntmps10
 go_wp2_with fail
 obtain ⟨b, hb⟩ : ∃ b, w.heap.size = b := ⟨_, rfl⟩
 have I0 : Aside0 (TB (w.alloc (.cells #[.func (.func 21) #[] #[], .string ⟨#[57, 57]⟩, .string ⟨#[49]⟩, .string ⟨#[49, 48, 48]⟩, .func (.func 23) #[] #[], .string ⟨#[53]⟩, .string ⟨#[49, 50]⟩, .string ⟨#[45, 55]⟩, .func (.func 25) #[] #[], .string ⟨#[45, 49, 50]⟩, .string ⟨#[49, 50]⟩, .string ⟨#[45, 49, 52, 52]⟩, .func (.func 33) #[] #[], .string ⟨#[45, 49, 50]⟩, .string ⟨#[49, 56]⟩, .string ⟨#[54]⟩, .func (.func 55) #[] #[], .string ⟨#[54]⟩, .string ⟨#[45, 52]⟩, .string ⟨#[45, 51, 47, 50]⟩, .func (.func 35) #[] #[], .string ⟨#[49, 47, 50]⟩, .string ⟨#[49, 47, 51]⟩, .string ⟨#[53, 47, 54]⟩, .func (.func 37) #[] #[], .string ⟨#[49, 47, 50]⟩, .string ⟨#[49, 47, 50]⟩, .string ⟨#[48, 47, 49]⟩, .func (.func 39) #[] #[], .string ⟨#[50, 47, 51]⟩, .string ⟨#[51, 47, 52]⟩, .string ⟨#[49, 47, 50]⟩, .func (.func 41) #[] #[], .string ⟨#[49, 47, 50]⟩, .string ⟨#[45, 51, 47, 52]⟩, .string ⟨#[45, 50, 47, 51]⟩] 63)) b awTab ∧ Below w.heap.size w (w.alloc (.cells #[.func (.func 21) #[] #[], .string ⟨#[57, 57]⟩, .string ⟨#[49]⟩, .string ⟨#[49, 48, 48]⟩, .func (.func 23) #[] #[], .string ⟨#[53]⟩, .string ⟨#[49, 50]⟩, .string ⟨#[45, 55]⟩, .func (.func 25) #[] #[], .string ⟨#[45, 49, 50]⟩, .string ⟨#[49, 50]⟩, .string ⟨#[45, 49, 52, 52]⟩, .func (.func 33) #[] #[], .string ⟨#[45, 49, 50]⟩, .string ⟨#[49, 56]⟩, .string ⟨#[54]⟩, .func (.func 55) #[] #[], .string ⟨#[54]⟩, .string ⟨#[45, 52]⟩, .string ⟨#[45, 51, 47, 50]⟩, .func (.func 35) #[] #[], .string ⟨#[49, 47, 50]⟩, .string ⟨#[49, 47, 51]⟩, .string ⟨#[53, 47, 54]⟩, .func (.func 37) #[] #[], .string ⟨#[49, 47, 50]⟩, .string ⟨#[49, 47, 50]⟩, .string ⟨#[48, 47, 49]⟩, .func (.func 39) #[] #[], .string ⟨#[50, 47, 51]⟩, .string ⟨#[51, 47, 52]⟩, .string ⟨#[49, 47, 50]⟩, .func (.func 41) #[] #[], .string ⟨#[49, 47, 50]⟩, .string ⟨#[45, 51, 47, 52]⟩, .string ⟨#[45, 50, 47, 51]⟩] 63))) := ⟨⟨_, by rw [← hb]; exact heap_alloc_new w _⟩, below_alloc (Below.refl _ _) _⟩
 rw [hb]
 clear hb
 go_loopw [50] (fun v50 W => ∃ i : Nat, v50 = .int .i64 (i : Int) ∧ i ≤ 9 ∧ Aside0 (TB W b awTab ∧ Below w.heap.size w W)) (fun v50 _ => 9 - (RowKit.intOf v50).toNat)
 case atStart => exact ⟨0, rfl, Nat.zero_le _, I0⟩
 case round =>
  obtain ⟨i, rfl, hi, HI⟩ := hrel
  have e1 : IntKind.i64.wrap ((i : Int) + 1) = ((i + 1 : Nat) : Int) := by rw [IntWalk.i64_in _ (by omega)]; omega
  by_cases hlt : i < 9
  ·have hlt' : (i : Int) < 9 := by omega
   obtain ⟨g0, g1, g2, g3⟩ := awTab_get i hlt
   have c0 := HI.out.1.cell g0
   have c1 := HI.out.1.cell g1
   have c2 := HI.out.1.cell g2
   have c3 := HI.out.1.cell g3
   have hbl := HI.out.1.lt
   have eg := aw_enters i hlt
   have HA := Aside0.mk (fun W hb => aw_calls i hlt W (HE.out.below hb))
   clear g0 g1 g2 g3
   generalize awF i = F at *
   generalize awA i = sa at *
   generalize awB i = sb at *
   generalize awC i = sc at *
   go_wp2_with (first | (go_at_fn F; ((with_reducible refine (HA.out _ (below_alloc HI.out.2 _)).mono ?_); rintro e w2 ⟨rfl, hb2⟩; obtain ⟨hc2, hf2⟩ := bcell hb2; have z2 : wr.heap.size < w2.heap.size := Nat.lt_of_lt_of_le (by simp) hb2.size; have HN := Aside0.mk (And.intro (HI.out.1.below ((below_alloc (Below.refl _ _) _).trans (hb2.mono (by simp)))) ((below_alloc HI.out.2 _).trans (hb2.mono (below_alloc HI.out.2 _).size))))))
   go_roundw
   case rel => exact ⟨i + 1, by first | rfl | go_num, hlt, HN⟩
   case measure => simp [RowKit.intOf]; omega
  ·have hlt' : ¬ (i : Int) < 9 := by omega
   obtain rfl : i = 9 := by omega
   have HB0 := Aside0.mk HI.out.2
   clear HI e1 hlt I0
   go_wp2_with fail
   obtain ⟨b2, hb2⟩ : ∃ b2, wr.heap.size = b2 := ⟨_, rfl⟩
   have I1 : Aside0 (TB (wr.alloc (.cells #[.string ⟨#[45, 55]⟩, .string ⟨#[50]⟩, .string ⟨#[45, 52]⟩, .string ⟨#[49]⟩, .string ⟨#[45, 55]⟩, .string ⟨#[45, 50]⟩, .string ⟨#[52]⟩, .string ⟨#[49]⟩, .string ⟨#[55]⟩, .string ⟨#[45, 50]⟩, .string ⟨#[45, 51]⟩, .string ⟨#[49]⟩] 65)) b2 dmTab ∧ Below w.heap.size w (wr.alloc (.cells #[.string ⟨#[45, 55]⟩, .string ⟨#[50]⟩, .string ⟨#[45, 52]⟩, .string ⟨#[49]⟩, .string ⟨#[45, 55]⟩, .string ⟨#[45, 50]⟩, .string ⟨#[52]⟩, .string ⟨#[49]⟩, .string ⟨#[55]⟩, .string ⟨#[45, 50]⟩, .string ⟨#[45, 51]⟩, .string ⟨#[49]⟩] 65))) := ⟨⟨_, by rw [← hb2]; exact heap_alloc_new wr _⟩, below_alloc HB0.out _⟩
   rw [hb2]
   clear hb2 HB0
   go_loopw [78] (fun v78 W => ∃ i : Nat, v78 = .int .i64 (i : Int) ∧ i ≤ 3 ∧ Aside0 (TB W b2 dmTab ∧ Below w.heap.size w W)) (fun v78 _ => 3 - (RowKit.intOf v78).toNat)
   case atStart => exact ⟨0, rfl, Nat.zero_le _, I1⟩
   case round =>
    obtain ⟨i, rfl, hi, HI⟩ := hrel
    have e1 : IntKind.i64.wrap ((i : Int) + 1) = ((i + 1 : Nat) : Int) := by rw [IntWalk.i64_in _ (by omega)]; omega
    by_cases hlt : i < 3
    ·have hlt' : (i : Int) < 3 := by omega
     obtain ⟨g0, g1, g2, g3⟩ := dmTab_get i hlt
     have c0 := HI.out.1.cell g0
     have c1 := HI.out.1.cell g1
     have c2 := HI.out.1.cell g2
     have c3 := HI.out.1.cell g3
     have hbl := HI.out.1.lt
     have HA := Aside0.mk (fun W hb => dm_calls i hlt W (HE.out.below hb))
     clear g0 g1 g2 g3
     generalize dmA i = sa at *
     generalize dmB i = sb at *
     generalize dmC i = sc at *
     generalize dmD i = sd at *
     go_wp2_with (first | (go_at_call 27; ((with_reducible refine (HA.out _ (below_alloc HI.out.2 _)).mono ?_); rintro e w2 ⟨rfl, hb2⟩; obtain ⟨hc2, hf2⟩ := bcell hb2; have z2 : wr.heap.size < w2.heap.size := Nat.lt_of_lt_of_le (by simp) hb2.size; have HN := Aside0.mk (And.intro (HI.out.1.below ((below_alloc (Below.refl _ _) _).trans (hb2.mono (by simp)))) ((below_alloc HI.out.2 _).trans (hb2.mono (below_alloc HI.out.2 _).size))))))
     go_roundw
     case rel => exact ⟨i + 1, by first | rfl | go_num, hlt, HN⟩
     case measure => simp [RowKit.intOf]; omega
    ·have hlt' : ¬ (i : Int) < 3 := by omega
     obtain rfl : i = 3 := by omega
     have HC := Aside0.mk HI.out.2
     clear HI e1 hlt I1
     go_wp2_with (first | (go_at_call 62; (with_reducible refine (nines_calls _).mono ?_); rintro e wx ⟨rfl, hbx⟩; have HC2 := Aside0.mk (HC.out.trans (hbx.mono HC.out.size)); clear HC; have HC := HC2; clear HC2 hbx) | (go_at_call 21; (with_reducible refine (ax16 _ (HE.out.below HC.out)).mono ?_); rintro e wx ⟨rfl, hbx⟩; have HC2 := Aside0.mk (HC.out.trans (hbx.mono HC.out.size)); clear HC; have HC := HC2; clear HC2 hbx) | (go_at_call 27; (with_reducible refine (ax17 _ (HE.out.below HC.out)).mono ?_); rintro e wx ⟨rfl, hbx⟩; have HC2 := Aside0.mk (HC.out.trans (hbx.mono HC.out.size)); clear HC; have HC := HC2; clear HC2 hbx) | (go_at_call 31; (with_reducible refine (ax18 _ (HE.out.below HC.out)).mono ?_); rintro e wx ⟨rfl, hbx⟩; have HC2 := Aside0.mk (HC.out.trans (hbx.mono HC.out.size)); clear HC; have HC := HC2; clear HC2 hbx) | (go_at_call 53; (with_reducible refine (ax19 _ (HE.out.below HC.out)).mono ?_); rintro e wx ⟨rfl, hbx⟩; have HC2 := Aside0.mk (HC.out.trans (hbx.mono HC.out.size)); clear HC; have HC := HC2; clear HC2 hbx) | (go_at_call 59; (with_reducible refine (ax20 _ (HE.out.below HC.out)).mono ?_); rintro e wx ⟨rfl, hbx⟩; have HC2 := Aside0.mk (HC.out.trans (hbx.mono HC.out.size)); clear HC; have HC := HC2; clear HC2 hbx) | (go_at_call 45; (with_reducible refine (ax21 _ (HE.out.below HC.out)).mono ?_); rintro e wx ⟨rfl, hbx⟩; have HC2 := Aside0.mk (HC.out.trans (hbx.mono HC.out.size)); clear HC; have HC := HC2; clear HC2 hbx) | (go_at_call 47; (with_reducible refine (ax22 _ (HE.out.below HC.out)).mono ?_); rintro e wx ⟨rfl, hbx⟩; have HC2 := Aside0.mk (HC.out.trans (hbx.mono HC.out.size)); clear HC; have HC := HC2; clear HC2 hbx) | (go_at_call 47; (with_reducible refine (ax23 _ (HE.out.below HC.out)).mono ?_); rintro e wx ⟨rfl, hbx⟩; have HC2 := Aside0.mk (HC.out.trans (hbx.mono HC.out.size)); clear HC; have HC := HC2; clear HC2 hbx) | (go_at_call 47; (with_reducible refine (ax24 _ (HE.out.below HC.out)).mono ?_); rintro e wx ⟨rfl, hbx⟩; have HC2 := Aside0.mk (HC.out.trans (hbx.mono HC.out.size)); clear HC; have HC := HC2; clear HC2 hbx) | (go_at_call 29; (with_reducible refine (ax25 _ (HE.out.below HC.out)).mono ?_); rintro e wx ⟨rfl, hbx⟩; have HC2 := Aside0.mk (HC.out.trans (hbx.mono HC.out.size)); clear HC; have HC := HC2; clear HC2 hbx) | (go_at_call 43; (with_reducible refine (ax26 _ (HE.out.below HC.out)).mono ?_); rintro e wx ⟨rfl, hbx⟩; have HC2 := Aside0.mk (HC.out.trans (hbx.mono HC.out.size)); clear HC; have HC := HC2; clear HC2 hbx) | (go_at_call 16; (with_reducible refine (ax27 _ (HE.out.below HC.out)).mono ?_); rintro e wx ⟨rfl, hbx⟩; have HC2 := Aside0.mk (HC.out.trans (hbx.mono HC.out.size)); clear HC; have HC := HC2; clear HC2 hbx) | (go_at_call 18; (with_reducible refine (ax28 _ (HE.out.below HC.out)).mono ?_); rintro e wx ⟨rfl, hbx⟩; have HC2 := Aside0.mk (HC.out.trans (hbx.mono HC.out.size)); clear HC; have HC := HC2; clear HC2 hbx) | (go_at_call 12; (with_reducible refine (ax30 _ (HE.out.below HC.out)).mono ?_); rintro e wx ⟨rfl, hbx⟩; have HC2 := Aside0.mk (HC.out.trans (hbx.mono HC.out.size)); clear HC; have HC := HC2; clear HC2 hbx) | (go_at_call 12; (with_reducible refine (ax31 _ (HE.out.below HC.out)).mono ?_); rintro e wx ⟨rfl, hbx⟩; have HC2 := Aside0.mk (HC.out.trans (hbx.mono HC.out.size)); clear HC; have HC := HC2; clear HC2 hbx) | (go_at_call 12; (with_reducible refine (ax32 _ (HE.out.below HC.out)).mono ?_); rintro e wx ⟨rfl, hbx⟩; have HC2 := Aside0.mk (HC.out.trans (hbx.mono HC.out.size)); clear HC; have HC := HC2; clear HC2 hbx) | (go_at_call 51; (with_reducible refine (ax33 _ (HE.out.below HC.out)).mono ?_); rintro e wx ⟨rfl, hbx⟩; have HC2 := Aside0.mk (HC.out.trans (hbx.mono HC.out.size)); clear HC; have HC := HC2; clear HC2 hbx) | (go_at_call 14; (with_reducible refine (ax34 _ (HE.out.below HC.out)).mono ?_); rintro e wx ⟨rfl, hbx⟩; have HC2 := Aside0.mk (HC.out.trans (hbx.mono HC.out.size)); clear HC; have HC := HC2; clear HC2 hbx))
     go_ret
     exact ⟨rfl, HC.out⟩
end
section
open Go.Proofs.YtillgofjlpjbcaaGreatDoorW.PrintLast Go.Proofs.YtillgofjlpjbcaaGreatDoorW.PrintMore Go.Proofs.YtillgofjlpjbcaaGreatDoorW.PrintWords Go.RowKit Go.Shelf
theorem both_calls (s : ByteArray) (k : Int) (w : World) :
 Calls Tryz.prog 20 #[.string s, .int .i64 k, .string s, .int .i64 k] w fun e w' => e = .returned (.bool true) ∧ w' = w := by
 go_enter Tryz.func20, Tryz.ntmps20
 go_wp2_with fail
 go_ret
 exact ⟨rfl, rfl⟩
theorem long_calls {w : World} {g n : Nat} (ss : List ByteArray) (hn : ss.length = n) (hl : n ≤ 1000) (hc : ∀ j, j < n → w.cell? ⟨g, j, none⟩ = some (.string (ss.getD j ⟨#[]⟩))) :
 Calls Tryz.prog 11 #[.slice (some ⟨g, 0, none⟩) n n] w fun e w' => e = .returned (.bool (ss.any fun s => decide (300 < s.size))) ∧ w' = w := by
 have HC := Aside0.mk hc
 clear hc
 go_enter Tryz.func11, Tryz.ntmps11
 go_wp2_with fail
 go_loopw [7] (fun v7 W => ∃ i : Nat, v7 = .int .i64 (i : Int) ∧ i ≤ n ∧ W = w ∧ Aside0 ((ss.take i).any (fun s => decide (300 < s.size)) = false)) (fun v7 _ => n - (intOf v7).toNat)
 case atStart => exact ⟨0, rfl, Nat.zero_le _, rfl, ⟨by simp⟩⟩
 case round =>
  obtain ⟨i, rfl, hi, rfl, hz⟩ := hrel
  by_cases hlt : i < n
  ·have hci := HC.out i hlt
   have hli : i < ss.length := by omega
   obtain ⟨d, hd⟩ : ∃ d, ss.getD i ⟨#[]⟩ = d := ⟨_, rfl⟩
   rw [hd] at hci
   have hdi : ss[i] = d := by rw [← hd]; simp [List.getD_eq_getElem?_getD, hli]
   have hlt' : (i : Int) < (n : Int) := by omega
   have e1 : IntKind.i64.wrap ((i : Int) + 1) = ((i + 1 : Nat) : Int) := by rw [IntWalk.i64_in _ (by omega)]; omega
   have HD := Aside0.mk hdi
   clear hd hdi
   by_cases h0 : 300 < d.size
   ·have hb : decide ((300 : Int) < (d.size : Int)) = true := decide_eq_true (by omega)
    have HT : Aside0 (ss.any (fun s => decide (300 < s.size)) = true) := ⟨List.any_eq_true.2 ⟨ss[i], List.getElem_mem _, by rw [HD.out]; exact decide_eq_true h0⟩⟩
    go_wp2
    go_ret
    exact ⟨ret_b HT.out.symm, rfl⟩
   ·have hb : decide ((300 : Int) < (d.size : Int)) = false := decide_eq_false (by omega)
    have HT : Aside0 ((ss.take (i + 1)).any (fun s => decide (300 < s.size)) = false) := ⟨by
     rw [List.take_succ_eq_append_getElem hli, List.any_append, hz.out, HD.out]
     simp; omega⟩
    go_wp2
    go_roundw
    case rel => exact ⟨i + 1, by first | rfl | go_num, hlt, by first | rfl | trivial, HT⟩
    case measure => simp [intOf]; omega
  ·obtain rfl : i = n := by omega
   have HT : Aside0 (ss.any (fun s => decide (300 < s.size)) = false) := ⟨by
    have h := hz.out
    rwa [List.take_of_length_le (by omega)] at h⟩
   go_wp2
   go_ret
   exact ⟨ret_b HT.out.symm, rfl⟩
theorem long2_calls (a b : ByteArray) (z : Bool) (hz : (decide (300 < a.size) || decide (300 < b.size)) = z) (w : World) (g : Nat) (hg : g = w.heap.size) (t : TypeId) : Calls Tryz.prog 11 #[.slice (some ⟨g, 0, none⟩) 2 2] (w.alloc (.cells #[.string a, .string b] t)) fun e w' => e = .returned (.bool z) ∧ w' = w.alloc (.cells #[.string a, .string b] t) := by
 subst hz hg
 have h := long_calls (w := w.alloc (.cells #[.string a, .string b] t)) (g := w.heap.size) [a, b] rfl (by simp) (fun j hj => by
  match j, hj with
  | 0, _ => simp
  | 1, _ => simp)
 simpa using h
end
section
open Go.Lib Go.Proofs.YtillgofjlpjbcaaGreatDoorW.PrintLast Go.Proofs.YtillgofjlpjbcaaGreatDoorW.PrintMore Go.Proofs.YtillgofjlpjbcaaGreatDoorW.PrintWords Go.RowKit Go.Shelf
theorem ints_calls (a b : ByteArray) (n : Int) (h1 : -9223372036854775808 ≤ n) (h2 : n ≤ 9223372036854775807) (w : World) (hE : EN w) :
 Calls Tryz.prog 3 #[.string a, .string b, .int .i64 n] w fun e w' => e = .returned (.bool true) ∧ Below w.heap.size w w' := by
 have HA : Aside0 (∀ W, Below w.heap.size w W → Calls Tryz.prog 10 #[] W fun e w' => e = .returned (.bool true) ∧ Below W.heap.size W w') := ⟨fun W hb => awake_calls W (hE.below hb)⟩
 have HC := Aside0.mk (Below.refl w.heap.size w)
 by_cases hl : (decide (300 < a.size) || decide (300 < b.size)) = true
 ·have HL := Aside0.mk (fun (W : World) (g : Nat) (hg : g = W.heap.size) (t : TypeId) => long2_calls a b true hl W g hg t)
  clear hE hl h1 h2
  go_enter Tryz.func3, Tryz.ntmps3
  go_wp2_with (first | (go_at_call 10; (with_reducible refine (HA.out _ HC.out).mono ?_); rintro e wx ⟨rfl, hbx⟩; have HC2 := Aside0.mk (HC.out.trans (hbx.mono HC.out.size)); clear HC; have HC := HC2; clear HC2 hbx) | (go_at_call 11; (with_reducible refine (HL.out _ _ rfl _).mono ?_); rintro e wx ⟨rfl, hwx⟩; rw [hwx]; clear hwx wx; have HC2 := Aside0.mk (below_alloc HC.out (.cells #[.string a, .string b] 9)); clear HC; have HC := HC2; clear HC2))
  go_ret
  exact ⟨rfl, HC.out⟩
 ·have hl' : (decide (300 < a.size) || decide (300 < b.size)) = false := by simpa using hl
  have HL := Aside0.mk (fun (W : World) (g : Nat) (hg : g = W.heap.size) (t : TypeId) => long2_calls a b false hl' W g hg t)
  have hs : a.size ≤ 300 ∧ b.size ≤ 300 := by simp at hl'; omega
  have ha9 : a.size ≤ 90000 := by omega
  have hb9 : b.size ≤ 90000 := by omega
  clear hl hl'
  have P0 := Aside0.mk (fun (W : World) (hb : Below w.heap.size w W) => (show Calls Tryz.prog 12 #[.string a] W (fun e w' => e = .returned (.int .i64 (checkI a)) ∧ Below W.heap.size W w') from check_calls a (by omega) W))
  have Q0 := Aside0.mk (fun (W : World) (hb : Below w.heap.size w W) => (show Calls Tryz.prog 13 #[.string a] W (fun e w' => e = .returned (.int .i64 (checkI a)) ∧ Below W.heap.size W w') from rCheck_calls a (by omega) W))
  have P1 := Aside0.mk (fun (W : World) (hb : Below w.heap.size w W) => (show Calls Tryz.prog 14 #[.int .i64 n] W (fun e w' => e = .returned (.string (strI n)) ∧ Below W.heap.size W w') from fromInt_calls n h1 h2 W (hE.tens.below hb)))
  have Q1 := Aside0.mk (fun (W : World) (hb : Below w.heap.size w W) => (show Calls Tryz.prog 15 #[.int .i64 n] W (fun e w' => e = .returned (.string (strI n)) ∧ Below W.heap.size W w') from rFromInt_calls h1 h2 W))
  have P2 := Aside0.mk (fun (W : World) (hb : Below w.heap.size w W) => (show Calls Tryz.prog 16 #[.string a] W (fun e w' => e = .returned (.tuple #[.int .i64 (toIV a), .int .i64 (toIE a)]) ∧ Below W.heap.size W w') from toInt_calls a ha9 W (hE.below hb)))
  have Q2 := Aside0.mk (fun (W : World) (hb : Below w.heap.size w W) => (show Calls Tryz.prog 17 #[.string a] W (fun e w' => e = .returned (.tuple #[.int .i64 (toIV a), .int .i64 (toIE a)]) ∧ Below W.heap.size W w') from rToInt_calls a ha9 W))
  have P3 := Aside0.mk (fun (W : World) (hb : Below w.heap.size w W) => (show Calls Tryz.prog 18 #[.string a] W (fun e w' => e = .returned (.tuple #[.string (negS a), .int .i64 (checkI a)]) ∧ Below W.heap.size W w') from negN_calls a ha9 W (hE.tens.below hb)))
  have Q3 := Aside0.mk (fun (W : World) (hb : Below w.heap.size w W) => (show Calls Tryz.prog 19 #[.string a] W (fun e w' => e = .returned (.tuple #[.string (negS a), .int .i64 (checkI a)]) ∧ Below W.heap.size W w') from rNeg_calls a ha9 W))
  have P4 := Aside0.mk (fun (W : World) (hb : Below w.heap.size w W) => (show Calls Tryz.prog 21 #[.string a, .string b] W (fun e w' => e = .returned (.tuple #[.string (biS (· + ·) a b), .int .i64 (biR (· + ·) a b)]) ∧ Below W.heap.size W w') from addN_calls a b ha9 hb9 W (hE.tens.below hb)))
  have Q4 := Aside0.mk (fun (W : World) (hb : Below w.heap.size w W) => (show Calls Tryz.prog 22 #[.string a, .string b] W (fun e w' => e = .returned (.tuple #[.string (biS (· + ·) a b), .int .i64 (biR (· + ·) a b)]) ∧ Below W.heap.size W w') from rAdd_calls a b ha9 hb9 W))
  have P5 := Aside0.mk (fun (W : World) (hb : Below w.heap.size w W) => (show Calls Tryz.prog 23 #[.string a, .string b] W (fun e w' => e = .returned (.tuple #[.string (biS (· - ·) a b), .int .i64 (biR (· - ·) a b)]) ∧ Below W.heap.size W w') from subN_calls a b ha9 hb9 W (hE.tens.below hb)))
  have Q5 := Aside0.mk (fun (W : World) (hb : Below w.heap.size w W) => (show Calls Tryz.prog 24 #[.string a, .string b] W (fun e w' => e = .returned (.tuple #[.string (biS (· - ·) a b), .int .i64 (biR (· - ·) a b)]) ∧ Below W.heap.size W w') from rSub_calls a b ha9 hb9 W))
  have P6 := Aside0.mk (fun (W : World) (hb : Below w.heap.size w W) => (show Calls Tryz.prog 25 #[.string a, .string b] W (fun e w' => e = .returned (.tuple #[.string (biS (· * ·) a b), .int .i64 (biR (· * ·) a b)]) ∧ Below W.heap.size W w') from mulN_calls a b ha9 hb9 W (hE.tens.below hb)))
  have Q6 := Aside0.mk (fun (W : World) (hb : Below w.heap.size w W) => (show Calls Tryz.prog 26 #[.string a, .string b] W (fun e w' => e = .returned (.tuple #[.string (biS (· * ·) a b), .int .i64 (biR (· * ·) a b)]) ∧ Below W.heap.size W w') from rMul_calls a b ha9 hb9 W))
  have P7 := Aside0.mk (fun (W : World) (hb : Below w.heap.size w W) => (show Calls Tryz.prog 33 #[.string a, .string b] W (fun e w' => e = .returned (.tuple #[.string (biS (fun x y : Int => (Int.gcd x y : Int)) a b), .int .i64 (biR (fun x y : Int => (Int.gcd x y : Int)) a b)]) ∧ Below W.heap.size W w') from gcdN_calls a b ha9 hb9 W (hE.tens.below hb)))
  have Q7 := Aside0.mk (fun (W : World) (hb : Below w.heap.size w W) => (show Calls Tryz.prog 34 #[.string a, .string b] W (fun e w' => e = .returned (.tuple #[.string (biS (fun x y : Int => (Int.gcd x y : Int)) a b), .int .i64 (biR (fun x y : Int => (Int.gcd x y : Int)) a b)]) ∧ Below W.heap.size W w') from rGcd_calls a b ha9 hb9 W))
  have P8 := Aside0.mk (fun (W : World) (hb : Below w.heap.size w W) => (show Calls Tryz.prog 27 #[.string a, .string b] W (fun e w' => e = .returned (.tuple #[.string (dmS (fun x y => x / y) a b), .string (dmS (fun x y => x % y) a b), .int .i64 (divE a b)]) ∧ Below W.heap.size W w') from divMod_calls a b ha9 hb9 W (hE.tens.below hb)))
  have Q8 := Aside0.mk (fun (W : World) (hb : Below w.heap.size w W) => (show Calls Tryz.prog 28 #[.string a, .string b] W (fun e w' => e = .returned (.tuple #[.string (dmS (fun x y => x / y) a b), .string (dmS (fun x y => x % y) a b), .int .i64 (divE a b)]) ∧ Below W.heap.size W w') from rDivMod_calls a b ha9 hb9 W))
  have P9 := Aside0.mk (fun (W : World) (hb : Below w.heap.size w W) => (show Calls Tryz.prog 29 #[.string a, .string b] W (fun e w' => e = .returned (.tuple #[.int .i64 (cmpN a b), .int .i64 (biE a b)]) ∧ Below W.heap.size W w') from compareN_calls a b ha9 hb9 W))
  have Q9 := Aside0.mk (fun (W : World) (hb : Below w.heap.size w W) => (show Calls Tryz.prog 30 #[.string a, .string b] W (fun e w' => e = .returned (.tuple #[.int .i64 (cmpN a b), .int .i64 (biE a b)]) ∧ Below W.heap.size W w') from rCompare_calls a b ha9 hb9 W))
  have P10 := Aside0.mk (fun (W : World) (hb : Below w.heap.size w W) => (show Calls Tryz.prog 31 #[.string a, .int .i64 n] W (fun e w' => e = .returned (.tuple #[.string (powS a n), .int .i64 (powR a n)]) ∧ Below W.heap.size W w') from pow_calls a ha9 n W (hE.tens.below hb)))
  have Q10 := Aside0.mk (fun (W : World) (hb : Below w.heap.size w W) => (show Calls Tryz.prog 32 #[.string a, .int .i64 n] W (fun e w' => e = .returned (.tuple #[.string (powS a n), .int .i64 (powR a n)]) ∧ Below W.heap.size W w') from rPow_calls a ha9 n W))
  clear hE hs ha9 hb9 h1 h2
  generalize checkI a = v0 at *
  generalize strI n = v1 at *
  generalize toIV a = v2 at *
  generalize toIE a = v3 at *
  generalize negS a = v4 at *
  generalize biS (· + ·) a b = v5 at *
  generalize biR (· + ·) a b = v6 at *
  generalize biS (· - ·) a b = v7 at *
  generalize biR (· - ·) a b = v8 at *
  generalize biS (· * ·) a b = v9 at *
  generalize biR (· * ·) a b = v10 at *
  generalize biS (fun x y : Int => (Int.gcd x y : Int)) a b = v11 at *
  generalize biR (fun x y : Int => (Int.gcd x y : Int)) a b = v12 at *
  generalize dmS (fun x y => x / y) a b = v13 at *
  generalize dmS (fun x y => x % y) a b = v14 at *
  generalize divE a b = v15 at *
  generalize cmpN a b = v16 at *
  generalize biE a b = v17 at *
  generalize powS a n = v18 at *
  generalize powR a n = v19 at *
  go_enter Tryz.func3, Tryz.ntmps3
  go_wp2_with (first | (go_at_call 10; (with_reducible refine (HA.out _ HC.out).mono ?_); rintro e wx ⟨rfl, hbx⟩; have HC2 := Aside0.mk (HC.out.trans (hbx.mono HC.out.size)); clear HC; have HC := HC2; clear HC2 hbx) | (go_at_call 11; (with_reducible refine (HL.out _ _ rfl _).mono ?_); rintro e wx ⟨rfl, hwx⟩; rw [hwx]; clear hwx wx; have HC2 := Aside0.mk (below_alloc HC.out (.cells #[.string a, .string b] 9)); clear HC; have HC := HC2; clear HC2) | (go_at_call 20; (with_reducible refine (both_calls _ _ _).mono ?_); rintro e wx ⟨rfl, hwx⟩; rw [hwx]; clear hwx wx) | (go_at_call 12; (with_reducible refine (P0.out _ HC.out).mono ?_); rintro e wx ⟨rfl, hbx⟩; have HC2 := Aside0.mk (HC.out.trans (hbx.mono HC.out.size)); clear HC; have HC := HC2; clear HC2 hbx) | (go_at_call 13; (with_reducible refine (Q0.out _ HC.out).mono ?_); rintro e wx ⟨rfl, hbx⟩; have HC2 := Aside0.mk (HC.out.trans (hbx.mono HC.out.size)); clear HC; have HC := HC2; clear HC2 hbx) | (go_at_call 14; (with_reducible refine (P1.out _ HC.out).mono ?_); rintro e wx ⟨rfl, hbx⟩; have HC2 := Aside0.mk (HC.out.trans (hbx.mono HC.out.size)); clear HC; have HC := HC2; clear HC2 hbx) | (go_at_call 15; (with_reducible refine (Q1.out _ HC.out).mono ?_); rintro e wx ⟨rfl, hbx⟩; have HC2 := Aside0.mk (HC.out.trans (hbx.mono HC.out.size)); clear HC; have HC := HC2; clear HC2 hbx) | (go_at_call 16; (with_reducible refine (P2.out _ HC.out).mono ?_); rintro e wx ⟨rfl, hbx⟩; have HC2 := Aside0.mk (HC.out.trans (hbx.mono HC.out.size)); clear HC; have HC := HC2; clear HC2 hbx) | (go_at_call 17; (with_reducible refine (Q2.out _ HC.out).mono ?_); rintro e wx ⟨rfl, hbx⟩; have HC2 := Aside0.mk (HC.out.trans (hbx.mono HC.out.size)); clear HC; have HC := HC2; clear HC2 hbx) | (go_at_call 18; (with_reducible refine (P3.out _ HC.out).mono ?_); rintro e wx ⟨rfl, hbx⟩; have HC2 := Aside0.mk (HC.out.trans (hbx.mono HC.out.size)); clear HC; have HC := HC2; clear HC2 hbx) | (go_at_call 19; (with_reducible refine (Q3.out _ HC.out).mono ?_); rintro e wx ⟨rfl, hbx⟩; have HC2 := Aside0.mk (HC.out.trans (hbx.mono HC.out.size)); clear HC; have HC := HC2; clear HC2 hbx) | (go_at_call 21; (with_reducible refine (P4.out _ HC.out).mono ?_); rintro e wx ⟨rfl, hbx⟩; have HC2 := Aside0.mk (HC.out.trans (hbx.mono HC.out.size)); clear HC; have HC := HC2; clear HC2 hbx) | (go_at_call 22; (with_reducible refine (Q4.out _ HC.out).mono ?_); rintro e wx ⟨rfl, hbx⟩; have HC2 := Aside0.mk (HC.out.trans (hbx.mono HC.out.size)); clear HC; have HC := HC2; clear HC2 hbx) | (go_at_call 23; (with_reducible refine (P5.out _ HC.out).mono ?_); rintro e wx ⟨rfl, hbx⟩; have HC2 := Aside0.mk (HC.out.trans (hbx.mono HC.out.size)); clear HC; have HC := HC2; clear HC2 hbx) | (go_at_call 24; (with_reducible refine (Q5.out _ HC.out).mono ?_); rintro e wx ⟨rfl, hbx⟩; have HC2 := Aside0.mk (HC.out.trans (hbx.mono HC.out.size)); clear HC; have HC := HC2; clear HC2 hbx) | (go_at_call 25; (with_reducible refine (P6.out _ HC.out).mono ?_); rintro e wx ⟨rfl, hbx⟩; have HC2 := Aside0.mk (HC.out.trans (hbx.mono HC.out.size)); clear HC; have HC := HC2; clear HC2 hbx) | (go_at_call 26; (with_reducible refine (Q6.out _ HC.out).mono ?_); rintro e wx ⟨rfl, hbx⟩; have HC2 := Aside0.mk (HC.out.trans (hbx.mono HC.out.size)); clear HC; have HC := HC2; clear HC2 hbx) | (go_at_call 33; (with_reducible refine (P7.out _ HC.out).mono ?_); rintro e wx ⟨rfl, hbx⟩; have HC2 := Aside0.mk (HC.out.trans (hbx.mono HC.out.size)); clear HC; have HC := HC2; clear HC2 hbx) | (go_at_call 34; (with_reducible refine (Q7.out _ HC.out).mono ?_); rintro e wx ⟨rfl, hbx⟩; have HC2 := Aside0.mk (HC.out.trans (hbx.mono HC.out.size)); clear HC; have HC := HC2; clear HC2 hbx) | (go_at_call 27; (with_reducible refine (P8.out _ HC.out).mono ?_); rintro e wx ⟨rfl, hbx⟩; have HC2 := Aside0.mk (HC.out.trans (hbx.mono HC.out.size)); clear HC; have HC := HC2; clear HC2 hbx) | (go_at_call 28; (with_reducible refine (Q8.out _ HC.out).mono ?_); rintro e wx ⟨rfl, hbx⟩; have HC2 := Aside0.mk (HC.out.trans (hbx.mono HC.out.size)); clear HC; have HC := HC2; clear HC2 hbx) | (go_at_call 29; (with_reducible refine (P9.out _ HC.out).mono ?_); rintro e wx ⟨rfl, hbx⟩; have HC2 := Aside0.mk (HC.out.trans (hbx.mono HC.out.size)); clear HC; have HC := HC2; clear HC2 hbx) | (go_at_call 30; (with_reducible refine (Q9.out _ HC.out).mono ?_); rintro e wx ⟨rfl, hbx⟩; have HC2 := Aside0.mk (HC.out.trans (hbx.mono HC.out.size)); clear HC; have HC := HC2; clear HC2 hbx) | (go_at_call 31; (with_reducible refine (P10.out _ HC.out).mono ?_); rintro e wx ⟨rfl, hbx⟩; have HC2 := Aside0.mk (HC.out.trans (hbx.mono HC.out.size)); clear HC; have HC := HC2; clear HC2 hbx) | (go_at_call 32; (with_reducible refine (Q10.out _ HC.out).mono ?_); rintro e wx ⟨rfl, hbx⟩; have HC2 := Aside0.mk (HC.out.trans (hbx.mono HC.out.size)); clear HC; have HC := HC2; clear HC2 hbx))
  go_ret
  exact ⟨rfl, HC.out⟩
end
end Go.Proofs.YtillgofjlpjbcaaGreatDoor.Nm
