import Derived.Test.YtillgofjlpjbcaaGreatDoorH3
import Derived.Test.YtillgofjlpjbcaaGreatDoorH10
import Derived.Test.YtillgofjlpjbcaaGreatDoorH9
import Derived.Test.YtillgofjlpjbcaaGreatDoorH5
import Derived.Test.YtillgofjlpjbcaaGreatDoorH7
import Derived.Test.YtillgofjlpjbcaaGreatDoorH6
import Derived.Test.YtillgofjlpjbcaaGreatDoorH8
/- Own text: contracts and laws on which the card rests (RaV RaU RaW RaX RbC RbD RbE RbF RbG RbH RbI RbJ RbK RbL RbM RbN RbO RbP RbQ RbR). -/
set_option linter.unusedVariables false
set_option linter.unusedSimpArgs false
set_option maxRecDepth 1000000
set_option maxHeartbeats 16000000
namespace Go.Proofs.YtillgofjlpjbcaaGreatDoor.Nm
section
open Go.Proofs.YtillgofjlpjbcaaGreatDoorW.PrintLast Go.Proofs.YtillgofjlpjbcaaGreatDoorW.PrintMore Go.Proofs.YtillgofjlpjbcaaGreatDoorW.PrintWords Go.RowKit Go.Shelf
/-- Two variables of type Big. -/
abbrev QR (W : World) (p q : Nat) (f1 : Bool) (A1 : Option Addr) (L1 c1 : Nat) (f2 : Bool) (A2 : Option Addr) (L2 c2 : Nat) : Prop := BG W p f1 A1 L1 c1 ∧ BG W q f2 A2 L2 c2
theorem QR.new (w : World) (f1 : Bool) (A1 : Option Addr) (L1 c1 : Nat) (f2 : Bool) (A2 : Option Addr) (L2 c2 : Nat) : QR ((w.alloc (.cells #[.bool f1, .slice A1 L1 c1] 77)).alloc (.cells #[.bool f2, .slice A2 L2 c2] 77)) w.heap.size (w.heap.size + 1) f1 A1 L1 c1 f2 A2 L2 c2 := by
 refine ⟨(BG.new w _ _ _ _).alloc _, ?_⟩
 have h := BG.new (w.alloc (.cells #[.bool f1, .slice A1 L1 c1] 77)) f2 A2 L2 c2
 simpa using h
theorem cell_far2 {V : World} {b b' o : Nat} {v u u' : Value} (h : V.cell? ⟨b, o, none⟩ = some v) (hne : b ≠ b') : ((V.setCell ⟨b', 0, none⟩ u).setCell ⟨b', 1, none⟩ u').cell? ⟨b, o, none⟩ = some v := by
 rw [World.cell?_setCell_other _ _ _ _ (fun e => hne (congrArg Addr.block e).symm), World.cell?_setCell_other _ _ _ _ (fun e => hne (congrArg Addr.block e).symm)]
 exact h
/-- Four variables of type Big: two that came in, two for what goes out. -/
structure F4 (W : World) (b : Nat) (f1 : Bool) (A1 : Option Addr) (L1 c1 : Nat) (f2 : Bool) (A2 : Option Addr) (L2 c2 : Nat) : Prop where
 x1 : BG W b f1 A1 L1 c1
 x2 : BG W (b + 1) f2 A2 L2 c2
 o1 : BG W (b + 1 + 1) false none 0 0
 o2 : BG W (b + 1 + 1 + 1) false none 0 0
theorem F4.below {W X : World} {b : Nat} {f1 : Bool} {A1 : Option Addr} {L1 c1 : Nat} {f2 : Bool} {A2 : Option Addr} {L2 c2 : Nat} (h : F4 W b f1 A1 L1 c1 f2 A2 L2 c2) (hb : Below W.heap.size W X) : F4 X b f1 A1 L1 c1 f2 A2 L2 c2 := ⟨h.x1.below hb, h.x2.below hb, h.o1.below hb, h.o2.below hb⟩
theorem F4.other {W : World} {b b' : Nat} {f1 : Bool} {A1 : Option Addr} {L1 c1 : Nat} {f2 : Bool} {A2 : Option Addr} {L2 c2 : Nat} (h : F4 W b f1 A1 L1 c1 f2 A2 L2 c2) (hb : b + 1 + 1 + 1 < b') (o : Nat) (u : Value) : F4 (W.setCell ⟨b', o, none⟩ u) b f1 A1 L1 c1 f2 A2 L2 c2 := ⟨h.x1.other (by omega) _ _, h.x2.other (by omega) _ _, h.o1.other (by omega) _ _, h.o2.other (by omega) _ _⟩
theorem F4.new (w : World) (f1 : Bool) (A1 : Option Addr) (L1 c1 : Nat) (f2 : Bool) (A2 : Option Addr) (L2 c2 : Nat) : F4 ((((w.alloc (.cells #[.bool f1, .slice A1 L1 c1] 77)).alloc (.cells #[.bool f2, .slice A2 L2 c2] 77)).alloc (.cells #[.bool false, .slice none 0 0] 77)).alloc (.cells #[.bool false, .slice none 0 0] 77)) w.heap.size f1 A1 L1 c1 f2 A2 L2 c2 := by
 have n : ∀ (W : World) (b : Nat) (hb : W.heap.size = b) (f : Bool) (A : Option Addr) (L c : Nat), BG (W.alloc (.cells #[.bool f, .slice A L c] 77)) b f A L c := fun W b hb f A L c => by subst hb; exact BG.new W f A L c
 exact ⟨(((n _ _ rfl _ _ _ _).alloc _).alloc _).alloc _, ((n _ _ (by simp) _ _ _ _).alloc _).alloc _, (n _ _ (by simp) _ _ _ _).alloc _, n _ _ (by simp) _ _ _ _⟩
theorem out2 {w W : World} {b : Nat} {f1 : Bool} {A1 : Option Addr} {L1 c1 : Nat} {f2 : Bool} {A2 : Option Addr} {L2 c2 : Nat} (h : F4 W b f1 A1 L1 c1 f2 A2 L2 c2) (hb : Below w.heap.size w W) (e : b = w.heap.size) {A A' : Option Addr} {k k' n n' : Nat} (hm : RM W A k n) (hm' : RM W A' k' n') (f g : Bool) (c c' : Nat) :
 BG ((((W.setCell ⟨b + 1 + 1, 0, none⟩ (.bool f)).setCell ⟨b + 1 + 1, 1, none⟩ (.slice A k c)).setCell ⟨b + 1 + 1 + 1, 0, none⟩ (.bool g)).setCell ⟨b + 1 + 1 + 1, 1, none⟩ (.slice A' k' c')) (b + 1 + 1) f A k c ∧
 BG ((((W.setCell ⟨b + 1 + 1, 0, none⟩ (.bool f)).setCell ⟨b + 1 + 1, 1, none⟩ (.slice A k c)).setCell ⟨b + 1 + 1 + 1, 0, none⟩ (.bool g)).setCell ⟨b + 1 + 1 + 1, 1, none⟩ (.slice A' k' c')) (b + 1 + 1 + 1) g A' k' c' ∧
 RM ((((W.setCell ⟨b + 1 + 1, 0, none⟩ (.bool f)).setCell ⟨b + 1 + 1, 1, none⟩ (.slice A k c)).setCell ⟨b + 1 + 1 + 1, 0, none⟩ (.bool g)).setCell ⟨b + 1 + 1 + 1, 1, none⟩ (.slice A' k' c')) A k n ∧
 RM ((((W.setCell ⟨b + 1 + 1, 0, none⟩ (.bool f)).setCell ⟨b + 1 + 1, 1, none⟩ (.slice A k c)).setCell ⟨b + 1 + 1 + 1, 0, none⟩ (.bool g)).setCell ⟨b + 1 + 1 + 1, 1, none⟩ (.slice A' k' c')) A' k' n' ∧
 Below w.heap.size w ((((W.setCell ⟨b + 1 + 1, 0, none⟩ (.bool f)).setCell ⟨b + 1 + 1, 1, none⟩ (.slice A k c)).setCell ⟨b + 1 + 1 + 1, 0, none⟩ (.bool g)).setCell ⟨b + 1 + 1 + 1, 1, none⟩ (.slice A' k' c')) := by
 have p1 := h.o1.put0 f
 have p2 := p1.put1 A k c
 have r1 := (h.o2.other (b' := b + 1 + 1) (by omega) 0 (.bool f)).other (b' := b + 1 + 1) (by omega) 1 (.slice A k c)
 have r2 := r1.put0 g
 have r3 := r2.put1 A' k' c'
 refine ⟨(p2.other (by omega) _ _).other (by omega) _ _, r3, (((hm.bg h.o1 0 _).bg p1 1 _).bg r1 0 _).bg r2 1 _, (((hm'.bg h.o1 0 _).bg p1 1 _).bg r1 0 _).bg r2 1 _, ?_⟩
 subst e
 exact (((hb.setCell (by simp; omega) _).setCell (by simp; omega) _).setCell (by simp; omega) _).setCell (by simp; omega) _
theorem step_end {w W Y : World} {p n5 n9 k5 k9 c5 c9 : Nat} {g6 gz : Bool} {Aq A5 A9 : Option Addr} {k6 cq : Nat} {f1 : Bool} {A1 : Option Addr} {L1 c1 : Nat} {f2 : Bool} {A2 : Option Addr} {L2 c2 : Nat} (HX : Aside0 (F4 W w.heap.size f1 A1 L1 c1 f2 A2 L2 c2)) (HA : Aside0 (Below w.heap.size w W)) (HQ : Aside0 (QR W p (p + 1) g6 Aq k6 cq false A5 k5 c5)) (HM9 : Aside0 (k9 ≤ c9 ∧ RM W A9 k9 n9)) (HM5 : Aside0 (k5 ≤ c5 ∧ RM W A5 k5 n5)) (HPX : Aside0 (w.heap.size + 1 + 1 + 1 < p)) (hY : ((W.setCell ⟨p, 0, none⟩ (.bool gz)).setCell ⟨p, 1, none⟩ (.slice A9 k9 c9)) = Y) :
 Aside0 (F4 Y w.heap.size f1 A1 L1 c1 f2 A2 L2 c2) ∧ Aside0 (Below w.heap.size w Y) ∧ Aside0 (QR Y p (p + 1) gz A9 k9 c9 false A5 k5 c5) ∧ Aside0 (k9 ≤ c9 ∧ gz = gz ∧ RM Y A9 k9 n9) ∧ Aside0 (k5 ≤ c5 ∧ RM Y A5 k5 n5 ∧ RL Y A5 k5 (dg QQ n5)) := by
 subst hY
 have hp := HPX.out
 have hq1 := HQ.out.1.put0 gz
 refine ⟨⟨(HX.out.other (by omega) _ _).other (by omega) _ _⟩, ⟨(HA.out.setCell (by simp; omega) _).setCell (by simp; omega) _⟩, ⟨hq1.put1 _ _ _, (HQ.out.2.other (by omega) _ _).other (by omega) _ _⟩, ⟨HM9.out.1, rfl, (HM9.out.2.bg HQ.out.1 0 _).bg hq1 1 _⟩, ⟨HM5.out.1, (HM5.out.2.bg HQ.out.1 0 _).bg hq1 1 _, (HM5.out.2.bg HQ.out.1 0 _).bg hq1 1 _⟩⟩
theorem over_ret {b : Nat} {Z : World} {T : Array Value} {R : Ending → World → Prop} {g g' : Bool} {A A' : Option Addr} {k c k' c' : Nat} (h4 : T[4]?.getD undef = .pointer (some ⟨b + 1 + 1, 0, none⟩)) (h5 : T[5]?.getD undef = .pointer (some ⟨b + 1 + 1 + 1, 0, none⟩))
 (o1 : BG Z (b + 1 + 1) g A k c) (o2 : BG Z (b + 1 + 1 + 1) g' A' k' c') (hR : R (.returned (.tuple #[.agg #[.bool g, .slice A k c], .agg #[.bool g', .slice A' k' c']])) Z) : bodyPost Tryz.prog Tryz.f92 R Exit.ret { tmps := T, defers := [] } Z := by
 have k0 := o1.cell0
 have k1 := o1.cell1
 have k2 := o2.cell0
 have k3 := o2.cell1
 exact bodyPost_ret (v := .tuple #[.agg #[.bool g, .slice A k c], .agg #[.bool g', .slice A' k' c']]) (by simp [results, Tryz.results92, go_sem, h4, h5, k0, k1, k2, k3]) rfl hR
theorem rOver_plain {w : World} {A1 A2 : Option Addr} {L1 L2 c1 c2 m n : Nat} {f1 f2 : Bool} (h1 : RM w A1 L1 m) (h2 : RM w A2 L2 n) (h0 : 0 < n) (hL1 : L1 ≤ 40000) (hL2 : L2 ≤ 40000) (hc : f1 = false ∨ m % n = 0) :
 Calls Tryz.prog 92 #[.agg #[.bool f1, .slice A1 L1 c1], .agg #[.bool f2, .slice A2 L2 c2]] w fun e w' => ∃ A k c A' k' c', e = .returned (.tuple #[.agg #[.bool ((f1 != f2) && decide (m / n ≠ 0)), .slice A k c], .agg #[.bool false, .slice A' k' c']]) ∧ k ≤ c ∧ k' ≤ c' ∧ RM w' A k (m / n) ∧ RM w' A' k' (m % n) ∧ Below w.heap.size w w' := by
 have HOV : Aside0 (∀ W, Below w.heap.size w W → Calls Tryz.prog 152 #[.slice A1 L1 c1, .slice A2 L2 c2] W fun e w' => ∃ A k c A' k' c', e = .returned (.tuple #[.slice A k c, .slice A' k' c']) ∧ k ≤ c ∧ k' ≤ c' ∧ RM w' A k (m / n) ∧ RM w' A' k' (m % n) ∧ Below W.heap.size W w') := ⟨fun W hb => rover_calls (h1.below hb) (h2.below hb) h0 hL1 hL2⟩
 clear h1 h2
 go_enter Tryz.func92, Tryz.ntmps92
 go_wp2_with fail
 obtain ⟨wr, hwr⟩ : ∃ wr, ((((w.alloc (.cells #[.bool f1, .slice A1 L1 c1] 77)).alloc (.cells #[.bool f2, .slice A2 L2 c2] 77)).alloc (.cells #[.bool false, .slice none 0 0] 77)).alloc (.cells #[.bool false, .slice none 0 0] 77)) = wr := ⟨_, rfl⟩
 have HX : Aside0 (F4 wr w.heap.size f1 A1 L1 c1 f2 A2 L2 c2) := ⟨by subst hwr; exact F4.new _ _ _ _ _ _ _ _ _⟩
 have HA : Aside0 (Below w.heap.size w wr) := ⟨by subst hwr; repeat (first | exact Below.refl _ _ | apply below_alloc)⟩
 have x0 := HX.out.x1.cell0
 have x1 := HX.out.x1.cell1
 have x2 := HX.out.x2.cell0
 have x3 := HX.out.x2.cell1
 rw [hwr]
 clear hwr
 have HCC : Aside0 (f1 = true → m % n = 0) := ⟨fun h => hc.resolve_left (by simp [h])⟩
 clear hc
 cases f1
 ·go_wp2_with (first | (go_at_call 152; (with_reducible refine (HOV.out _ HA.out).mono ?_); rintro e W1 ⟨Aq, kq, cq, Ar, kr, cr, rfl, hq, hr, hmq, hmr, hbx⟩; skip; have HMQ := Aside0.mk (And.intro hq (And.intro hmq hmq.rl)); have HMR := Aside0.mk (And.intro hr hmr); have HX2 := Aside0.mk (HX.out.below hbx); clear HX x0 x1 x2 x3; (try clear y1 y2); have HX := HX2; clear HX2; have HA2 := Aside0.mk (HA.out.trans (hbx.mono HA.out.size)); clear HA; have HA := HA2; clear HA2; have x0 := HX.out.x1.cell0; have x1 := HX.out.x1.cell1; have x2 := HX.out.x2.cell0; have x3 := HX.out.x2.cell1; have y1 := HX.out.x1.lt; have y2 := HX.out.x2.lt; clear hbx hq hr hmq hmr) | (go_at_call 137; (with_reducible refine (rtrim_sign HMQ.out.2.2 HMQ.out.1 (dg_lt QQ1 _) _).mono ?_); rintro e W2 ⟨k6, g6, rfl, hg6, hk6, hm6, hbx⟩; have HM6 := Aside0.mk (And.intro hk6 (And.intro (hg6.trans (by rw [val_dg QQ1])) (hm6.val (val_dg QQ1 _)))); have HMR2 := Aside0.mk (And.intro HMR.out.1 (HMR.out.2.below hbx)); clear HMR; have HMR := HMR2; clear HMR2; have HX2 := Aside0.mk (HX.out.below hbx); clear HX x0 x1 x2 x3; (try clear y1 y2); have HX := HX2; clear HX2; have HA2 := Aside0.mk (HA.out.trans (hbx.mono HA.out.size)); clear HA; have HA := HA2; clear HA2; have x0 := HX.out.x1.cell0; have x1 := HX.out.x1.cell1; have x2 := HX.out.x2.cell0; have x3 := HX.out.x2.cell1; have y1 := HX.out.x1.lt; have y2 := HX.out.x2.lt; clear hbx hg6 hk6 hm6))
  rename_i Q1 K hK
  obtain ⟨Y, hY⟩ : ∃ Y, ((W2.alloc (.cells #[.bool g6, .slice Aq k6 cq] 77)).alloc (.cells #[.bool false, .slice Ar kr cr] 77)) = Y := ⟨_, rfl⟩
  have hyb : Below W2.heap.size W2 Y := by subst hY; repeat (first | exact Below.refl _ _ | apply below_alloc)
  have HQ : Aside0 (QR Y W2.heap.size (W2.heap.size + 1) g6 Aq k6 cq false Ar kr cr) := ⟨by subst hY; exact QR.new _ _ _ _ _ _ _ _ _⟩
  have HX2 := Aside0.mk (HX.out.below hyb)
  have HA2 := Aside0.mk (HA.out.trans (hyb.mono HA.out.size))
  have HM62 := Aside0.mk (And.intro HM6.out.1 (And.intro HM6.out.2.1 (HM6.out.2.2.below hyb)))
  have HMR2 := Aside0.mk (And.intro HMR.out.1 (And.intro (HMR.out.2.below hyb) (HMR.out.2.below hyb).rl))
  have HPX : Aside0 (w.heap.size + 1 + 1 + 1 < W2.heap.size) := ⟨HX.out.o2.lt⟩
  have HP : Aside0 ((W2.heap.size ≠ w.heap.size + 1 + 1 ∧ W2.heap.size + 1 ≠ w.heap.size + 1 + 1) ∧ (W2.heap.size ≠ w.heap.size + 1 + 1 + 1 ∧ W2.heap.size + 1 ≠ w.heap.size + 1 + 1 + 1)) := ⟨by have := HPX.out; omega⟩
  clear HX HA HM6 HMR hyb x0 x1 x2 x3 y1 y2
  have HX := HX2
  have HA := HA2
  have HM6 := HM62
  have HMR := HMR2
  clear HX2 HA2 HM62 HMR2
  rw [hY]
  clear hY
  have z0 := HQ.out.1.cell0
  have z1 := HQ.out.1.cell1
  have z2 := HQ.out.2.cell0
  have z3 := HQ.out.2.cell1
  generalize W2.heap.size = p at *
  refine wp_region_held_drew (S := (fun V => V.cell? ⟨p, 0, none⟩ = some (.bool g6) ∧ V.cell? ⟨p, 1, none⟩ = some (.slice Aq k6 cq) ∧ V.cell? ⟨p + 1, 0, none⟩ = some (.bool false) ∧ V.cell? ⟨p + 1, 1, none⟩ = some (.slice Ar kr cr))) (by kernel_rfl) ?_ (fun hHeld => ?_)
  ·exact ⟨z0, z1, z2, z3⟩
  (obtain ⟨Z, hZ⟩ : ∃ Z, Y.drew = Z := ⟨_, rfl⟩; have hbx : Below Y.heap.size Y Z := (by subst hZ; exact below_drew1 (Below.refl _ _)); have HQ2 := Aside0.mk (And.intro (HQ.out.1.below hbx) (HQ.out.2.below hbx)); clear HQ; have HQ := HQ2; clear HQ2; have HM62 := Aside0.mk (And.intro HM6.out.1 (And.intro HM6.out.2.1 (HM6.out.2.2.below hbx))); clear HM6; have HM6 := HM62; clear HM62; have HX2 := Aside0.mk (HX.out.below hbx); clear HX; have HX := HX2; clear HX2; have HA2 := Aside0.mk (HA.out.trans (hbx.mono HA.out.size)); clear HA; have HA := HA2; clear HA2; have HMR2 := Aside0.mk (And.intro HMR.out.1 (And.intro (HMR.out.2.1.below hbx) (HMR.out.2.1.below hbx).rl)); clear HMR; have HMR := HMR2; clear HMR2; rw [hZ] at hHeld ⊢; clear hZ hbx z0 z1 z2 z3)
  refine tp 0 ?_
  try simp only [PU]
  refine tp 1 ?_
  try simp only [PU]
  refine tc 2 fun K hK => ?_
  go_simp
  (go_at_call 137; (with_reducible refine (rtrim_sign HMR.out.2.2 HMR.out.1 (dg_lt QQ1 _) _).mono ?_); rintro e W5 ⟨k7, g7, rfl, hg7, hk7, hm7, hbx⟩; have HM7 := Aside0.mk (And.intro hk7 (And.intro hg7 (hm7.val (val_dg QQ1 _)))); have HQ2 := Aside0.mk (And.intro (HQ.out.1.below hbx) (HQ.out.2.below hbx)); clear HQ; have HQ := HQ2; clear HQ2; have HM62 := Aside0.mk (And.intro HM6.out.1 (And.intro HM6.out.2.1 (HM6.out.2.2.below hbx))); clear HM6; have HM6 := HM62; clear HM62; have HX2 := Aside0.mk (HX.out.below hbx); clear HX; have HX := HX2; clear HX2; have HA2 := Aside0.mk (HA.out.trans (hbx.mono HA.out.size)); clear HA; have HA := HA2; clear HA2; have q0 := HX.out.o1.cell0; have q1 := HX.out.o1.cell1; have q2 := HX.out.o1.fr 0; have q3 := HX.out.o1.fr 1; have q4 := HX.out.o2.cell0; have q5 := HX.out.o2.cell1; have q6 := HX.out.o2.fr 0; have q7 := HX.out.o2.fr 1; clear hg7 hk7 hm7)
  refine hK.out _ _ ?_ fun hHeld => ?_
  ·(first | exact ⟨keepB2 hbx hHeld.1, keepB2 hbx hHeld.2.1, keepB2 hbx hHeld.2.2.1, keepB2 hbx hHeld.2.2.2⟩ | exact ⟨cell_far2 hHeld.1 HP.out.1.1, cell_far2 hHeld.2.1 HP.out.1.1, cell_far2 hHeld.2.2.1 HP.out.1.2, cell_far2 hHeld.2.2.2 HP.out.1.2⟩ | exact ⟨cell_far2 hHeld.1 HP.out.2.1, cell_far2 hHeld.2.1 HP.out.2.1, cell_far2 hHeld.2.2.1 HP.out.2.2, cell_far2 hHeld.2.2.2 HP.out.2.2⟩)
  clear hK K; try simp only [PU]
  refine tc 3 fun K hK => ?_
  go_simp
  refine hK.out _ _ ?_ fun hHeld => ?_
  ·(first | exact ⟨keepB2 hbx hHeld.1, keepB2 hbx hHeld.2.1, keepB2 hbx hHeld.2.2.1, keepB2 hbx hHeld.2.2.2⟩ | exact ⟨cell_far2 hHeld.1 HP.out.1.1, cell_far2 hHeld.2.1 HP.out.1.1, cell_far2 hHeld.2.2.1 HP.out.1.2, cell_far2 hHeld.2.2.2 HP.out.1.2⟩ | exact ⟨cell_far2 hHeld.1 HP.out.2.1, cell_far2 hHeld.2.1 HP.out.2.1, cell_far2 hHeld.2.2.1 HP.out.2.2, cell_far2 hHeld.2.2.2 HP.out.2.2⟩)
  clear hK K; try simp only [PU]
  refine tc 4 fun K hK => ?_
  go_simp
  refine hK.out _ _ ?_ fun hHeld => ?_
  ·(first | exact ⟨keepB2 hbx hHeld.1, keepB2 hbx hHeld.2.1, keepB2 hbx hHeld.2.2.1, keepB2 hbx hHeld.2.2.2⟩ | exact ⟨cell_far2 hHeld.1 HP.out.1.1, cell_far2 hHeld.2.1 HP.out.1.1, cell_far2 hHeld.2.2.1 HP.out.1.2, cell_far2 hHeld.2.2.2 HP.out.1.2⟩ | exact ⟨cell_far2 hHeld.1 HP.out.2.1, cell_far2 hHeld.2.1 HP.out.2.1, cell_far2 hHeld.2.2.1 HP.out.2.2, cell_far2 hHeld.2.2.2 HP.out.2.2⟩)
  clear hK K; try simp only [PU]
  refine wpAnyH_done (by kernel_rfl) ?_ _
  refine hK _ _ ?_
  go_wp2
  obtain ⟨o1, o2, o3, o4, o5⟩ := out2 HX.out HA.out rfl HM6.out.2.2 HM7.out.2.2 g6 g7 cq cr
  exact over_ret rfl rfl o1 o2 ⟨Aq, k6, cq, Ar, k7, cr, by rw [HM6.out.2.1, HM7.out.2.1]; first | rfl | (simp; done), HM6.out.1, HM7.out.1, o3, o4, o5⟩
 ·go_wp2_with (first | (go_at_call 152; (with_reducible refine (HOV.out _ HA.out).mono ?_); rintro e W1 ⟨Aq, kq, cq, Ar, kr, cr, rfl, hq, hr, hmq, hmr, hbx⟩; (obtain rfl : kr = 0 := hmr.len_zero.2 (HCC.out (by first | rfl | trivial))); have HMQ := Aside0.mk (And.intro hq (And.intro hmq hmq.rl)); have HMR := Aside0.mk (And.intro hr hmr); have HX2 := Aside0.mk (HX.out.below hbx); clear HX x0 x1 x2 x3; (try clear y1 y2); have HX := HX2; clear HX2; have HA2 := Aside0.mk (HA.out.trans (hbx.mono HA.out.size)); clear HA; have HA := HA2; clear HA2; have x0 := HX.out.x1.cell0; have x1 := HX.out.x1.cell1; have x2 := HX.out.x2.cell0; have x3 := HX.out.x2.cell1; have y1 := HX.out.x1.lt; have y2 := HX.out.x2.lt; clear hbx hq hr hmq hmr) | (go_at_call 137; (with_reducible refine (rtrim_sign HMQ.out.2.2 HMQ.out.1 (dg_lt QQ1 _) _).mono ?_); rintro e W2 ⟨k6, g6, rfl, hg6, hk6, hm6, hbx⟩; have HM6 := Aside0.mk (And.intro hk6 (And.intro (hg6.trans (by rw [val_dg QQ1])) (hm6.val (val_dg QQ1 _)))); have HMR2 := Aside0.mk (And.intro HMR.out.1 (HMR.out.2.below hbx)); clear HMR; have HMR := HMR2; clear HMR2; have HX2 := Aside0.mk (HX.out.below hbx); clear HX x0 x1 x2 x3; (try clear y1 y2); have HX := HX2; clear HX2; have HA2 := Aside0.mk (HA.out.trans (hbx.mono HA.out.size)); clear HA; have HA := HA2; clear HA2; have x0 := HX.out.x1.cell0; have x1 := HX.out.x1.cell1; have x2 := HX.out.x2.cell0; have x3 := HX.out.x2.cell1; have y1 := HX.out.x1.lt; have y2 := HX.out.x2.lt; clear hbx hg6 hk6 hm6))
  rename_i Q1 K hK
  obtain ⟨Y, hY⟩ : ∃ Y, ((W2.alloc (.cells #[.bool g6, .slice Aq k6 cq] 77)).alloc (.cells #[.bool false, .slice Ar 0 cr] 77)) = Y := ⟨_, rfl⟩
  have hyb : Below W2.heap.size W2 Y := by subst hY; repeat (first | exact Below.refl _ _ | apply below_alloc)
  have HQ : Aside0 (QR Y W2.heap.size (W2.heap.size + 1) g6 Aq k6 cq false Ar 0 cr) := ⟨by subst hY; exact QR.new _ _ _ _ _ _ _ _ _⟩
  have HX2 := Aside0.mk (HX.out.below hyb)
  have HA2 := Aside0.mk (HA.out.trans (hyb.mono HA.out.size))
  have HM62 := Aside0.mk (And.intro HM6.out.1 (And.intro HM6.out.2.1 (HM6.out.2.2.below hyb)))
  have HMR2 := Aside0.mk (And.intro HMR.out.1 (And.intro (HMR.out.2.below hyb) (HMR.out.2.below hyb).rl))
  have HPX : Aside0 (w.heap.size + 1 + 1 + 1 < W2.heap.size) := ⟨HX.out.o2.lt⟩
  have HP : Aside0 ((W2.heap.size ≠ w.heap.size + 1 + 1 ∧ W2.heap.size + 1 ≠ w.heap.size + 1 + 1) ∧ (W2.heap.size ≠ w.heap.size + 1 + 1 + 1 ∧ W2.heap.size + 1 ≠ w.heap.size + 1 + 1 + 1)) := ⟨by have := HPX.out; omega⟩
  clear HX HA HM6 HMR hyb x0 x1 x2 x3 y1 y2
  have HX := HX2
  have HA := HA2
  have HM6 := HM62
  have HMR := HMR2
  clear HX2 HA2 HM62 HMR2
  rw [hY]
  clear hY
  have z0 := HQ.out.1.cell0
  have z1 := HQ.out.1.cell1
  have z2 := HQ.out.2.cell0
  have z3 := HQ.out.2.cell1
  generalize W2.heap.size = p at *
  refine wp_region_held_drew (S := (fun V => V.cell? ⟨p, 0, none⟩ = some (.bool g6) ∧ V.cell? ⟨p, 1, none⟩ = some (.slice Aq k6 cq) ∧ V.cell? ⟨p + 1, 0, none⟩ = some (.bool false) ∧ V.cell? ⟨p + 1, 1, none⟩ = some (.slice Ar 0 cr))) (by kernel_rfl) ?_ (fun hHeld => ?_)
  ·exact ⟨z0, z1, z2, z3⟩
  (obtain ⟨Z, hZ⟩ : ∃ Z, Y.drew = Z := ⟨_, rfl⟩; have hbx : Below Y.heap.size Y Z := (by subst hZ; exact below_drew1 (Below.refl _ _)); have HQ2 := Aside0.mk (And.intro (HQ.out.1.below hbx) (HQ.out.2.below hbx)); clear HQ; have HQ := HQ2; clear HQ2; have HM62 := Aside0.mk (And.intro HM6.out.1 (And.intro HM6.out.2.1 (HM6.out.2.2.below hbx))); clear HM6; have HM6 := HM62; clear HM62; have HX2 := Aside0.mk (HX.out.below hbx); clear HX; have HX := HX2; clear HX2; have HA2 := Aside0.mk (HA.out.trans (hbx.mono HA.out.size)); clear HA; have HA := HA2; clear HA2; have HMR2 := Aside0.mk (And.intro HMR.out.1 (And.intro (HMR.out.2.1.below hbx) (HMR.out.2.1.below hbx).rl)); clear HMR; have HMR := HMR2; clear HMR2; rw [hZ] at hHeld ⊢; clear hZ hbx z0 z1 z2 z3)
  refine tp 0 ?_
  try simp only [PU]
  refine tp 1 ?_
  try simp only [PU]
  refine tc 2 fun K hK => ?_
  go_simp
  (go_at_call 137; (with_reducible refine (rtrim_sign HMR.out.2.2 HMR.out.1 (dg_lt QQ1 _) _).mono ?_); rintro e W5 ⟨k7, g7, rfl, hg7, hk7, hm7, hbx⟩; have HM7 := Aside0.mk (And.intro hk7 (And.intro hg7 (hm7.val (val_dg QQ1 _)))); have HQ2 := Aside0.mk (And.intro (HQ.out.1.below hbx) (HQ.out.2.below hbx)); clear HQ; have HQ := HQ2; clear HQ2; have HM62 := Aside0.mk (And.intro HM6.out.1 (And.intro HM6.out.2.1 (HM6.out.2.2.below hbx))); clear HM6; have HM6 := HM62; clear HM62; have HX2 := Aside0.mk (HX.out.below hbx); clear HX; have HX := HX2; clear HX2; have HA2 := Aside0.mk (HA.out.trans (hbx.mono HA.out.size)); clear HA; have HA := HA2; clear HA2; have q0 := HX.out.o1.cell0; have q1 := HX.out.o1.cell1; have q2 := HX.out.o1.fr 0; have q3 := HX.out.o1.fr 1; have q4 := HX.out.o2.cell0; have q5 := HX.out.o2.cell1; have q6 := HX.out.o2.fr 0; have q7 := HX.out.o2.fr 1; clear hg7 hk7 hm7)
  refine hK.out _ _ ?_ fun hHeld => ?_
  ·(first | exact ⟨keepB2 hbx hHeld.1, keepB2 hbx hHeld.2.1, keepB2 hbx hHeld.2.2.1, keepB2 hbx hHeld.2.2.2⟩ | exact ⟨cell_far2 hHeld.1 HP.out.1.1, cell_far2 hHeld.2.1 HP.out.1.1, cell_far2 hHeld.2.2.1 HP.out.1.2, cell_far2 hHeld.2.2.2 HP.out.1.2⟩ | exact ⟨cell_far2 hHeld.1 HP.out.2.1, cell_far2 hHeld.2.1 HP.out.2.1, cell_far2 hHeld.2.2.1 HP.out.2.2, cell_far2 hHeld.2.2.2 HP.out.2.2⟩)
  clear hK K; try simp only [PU]
  refine tc 3 fun K hK => ?_
  go_simp
  refine hK.out _ _ ?_ fun hHeld => ?_
  ·(first | exact ⟨keepB2 hbx hHeld.1, keepB2 hbx hHeld.2.1, keepB2 hbx hHeld.2.2.1, keepB2 hbx hHeld.2.2.2⟩ | exact ⟨cell_far2 hHeld.1 HP.out.1.1, cell_far2 hHeld.2.1 HP.out.1.1, cell_far2 hHeld.2.2.1 HP.out.1.2, cell_far2 hHeld.2.2.2 HP.out.1.2⟩ | exact ⟨cell_far2 hHeld.1 HP.out.2.1, cell_far2 hHeld.2.1 HP.out.2.1, cell_far2 hHeld.2.2.1 HP.out.2.2, cell_far2 hHeld.2.2.2 HP.out.2.2⟩)
  clear hK K; try simp only [PU]
  refine tc 4 fun K hK => ?_
  go_simp
  refine hK.out _ _ ?_ fun hHeld => ?_
  ·(first | exact ⟨keepB2 hbx hHeld.1, keepB2 hbx hHeld.2.1, keepB2 hbx hHeld.2.2.1, keepB2 hbx hHeld.2.2.2⟩ | exact ⟨cell_far2 hHeld.1 HP.out.1.1, cell_far2 hHeld.2.1 HP.out.1.1, cell_far2 hHeld.2.2.1 HP.out.1.2, cell_far2 hHeld.2.2.2 HP.out.1.2⟩ | exact ⟨cell_far2 hHeld.1 HP.out.2.1, cell_far2 hHeld.2.1 HP.out.2.1, cell_far2 hHeld.2.2.1 HP.out.2.2, cell_far2 hHeld.2.2.2 HP.out.2.2⟩)
  clear hK K; try simp only [PU]
  refine wpAnyH_done (by kernel_rfl) ?_ _
  refine hK _ _ ?_
  go_wp2
  obtain ⟨o1, o2, o3, o4, o5⟩ := out2 HX.out HA.out rfl HM6.out.2.2 HM7.out.2.2 g6 g7 cq cr
  exact over_ret rfl rfl o1 o2 ⟨Aq, k6, cq, Ar, k7, cr, by rw [HM6.out.2.1, HM7.out.2.1]; first | rfl | (simp; done), HM6.out.1, HM7.out.1, o3, o4, o5⟩
theorem rOver_adj {w : World} {A1 A2 : Option Addr} {L1 L2 c1 c2 m n : Nat} {f2 gz : Bool} {xq z : Int} {zn : Nat} (hgz : gz = decide (z < 0)) (hzn : zn = z.natAbs) (h1 : RM w A1 L1 m) (h2 : RM w A2 L2 n) (h0 : 0 < n) (hL1 : L1 ≤ 40000) (hL2 : L2 ≤ 40000) (hr0 : m % n ≠ 0) (hxn : xq.natAbs = m / n) (hxf : ((!f2) && decide (m / n ≠ 0)) = decide (xq < 0)) (hz : z = if f2 = true then xq + 1 else xq - 1) :
 Calls Tryz.prog 92 #[.agg #[.bool true, .slice A1 L1 c1], .agg #[.bool f2, .slice A2 L2 c2]] w fun e w' => ∃ A k c A' k' c', e = .returned (.tuple #[.agg #[.bool gz, .slice A k c], .agg #[.bool false, .slice A' k' c']]) ∧ k ≤ c ∧ k' ≤ c' ∧ RM w' A k zn ∧ RM w' A' k' (n - m % n) ∧ Below w.heap.size w w' := by
 have HOV : Aside0 (∀ W, Below w.heap.size w W → Calls Tryz.prog 152 #[.slice A1 L1 c1, .slice A2 L2 c2] W fun e w' => ∃ A k c A' k' c', e = .returned (.tuple #[.slice A k c, .slice A' k' c']) ∧ k ≤ c ∧ k' ≤ c' ∧ RM w' A k (m / n) ∧ RM w' A' k' (m % n) ∧ Below W.heap.size W w') := ⟨fun W hb => rover_calls (h1.below hb) (h2.below hb) h0 hL1 hL2⟩
 have H2 := h2.at_below
 have HMN : Aside0 (m % n ≤ n ∧ L2 ≤ 100000 ∧ m < QQ ^ L1) := ⟨Nat.le_of_lt (Nat.mod_lt _ h0), by omega, by have := dg_lt_pow QQ1 m; rwa [h1.len] at this⟩
 have HXF := Aside0.mk (And.intro hxn hxf)
 clear h1 h2 hxn hxf
 go_enter Tryz.func92, Tryz.ntmps92
 go_wp2_with fail
 obtain ⟨wr, hwr⟩ : ∃ wr, ((((w.alloc (.cells #[.bool true, .slice A1 L1 c1] 77)).alloc (.cells #[.bool f2, .slice A2 L2 c2] 77)).alloc (.cells #[.bool false, .slice none 0 0] 77)).alloc (.cells #[.bool false, .slice none 0 0] 77)) = wr := ⟨_, rfl⟩
 have HX : Aside0 (F4 wr w.heap.size true A1 L1 c1 f2 A2 L2 c2) := ⟨by subst hwr; exact F4.new _ _ _ _ _ _ _ _ _⟩
 have HA : Aside0 (Below w.heap.size w wr) := ⟨by subst hwr; repeat (first | exact Below.refl _ _ | apply below_alloc)⟩
 have x0 := HX.out.x1.cell0
 have x1 := HX.out.x1.cell1
 have x2 := HX.out.x2.cell0
 have x3 := HX.out.x2.cell1
 rw [hwr]
 clear hwr
 go_upto_region 4 with (first | (go_at_call 152; (with_reducible refine (HOV.out _ HA.out).mono ?_); rintro e W1 ⟨Aq, kq, cq, Ar, kr, cr, rfl, hq, hr, hmq, hmr, hbx⟩; (have hkp : 0 < kr := Nat.pos_of_ne_zero (fun e => hr0 (hmr.len_zero.1 e)); have hkp2 : (0 : Int) < (kr : Int) := (by omega)); have HMQ := Aside0.mk (And.intro hq (And.intro hmq hmq.rl)); have HMR := Aside0.mk (And.intro hr hmr); have HX2 := Aside0.mk (HX.out.below hbx); clear HX x0 x1 x2 x3; (try clear y1 y2); have HX := HX2; clear HX2; have HA2 := Aside0.mk (HA.out.trans (hbx.mono HA.out.size)); clear HA; have HA := HA2; clear HA2; have x0 := HX.out.x1.cell0; have x1 := HX.out.x1.cell1; have x2 := HX.out.x2.cell0; have x3 := HX.out.x2.cell1; have y1 := HX.out.x1.lt; have y2 := HX.out.x2.lt; clear hbx hq hr hmq hmr) | (go_at_call 137; (with_reducible refine (rtrim_sign HMQ.out.2.2 HMQ.out.1 (dg_lt QQ1 _) _).mono ?_); rintro e W2 ⟨k6, g6, rfl, hg6, hk6, hm6, hbx⟩; have HM6 := Aside0.mk (And.intro hk6 (And.intro (hg6.trans (by rw [val_dg QQ1])) (hm6.val (val_dg QQ1 _)))); have HMR2 := Aside0.mk (And.intro HMR.out.1 (HMR.out.2.below hbx)); clear HMR; have HMR := HMR2; clear HMR2; have HX2 := Aside0.mk (HX.out.below hbx); clear HX x0 x1 x2 x3; (try clear y1 y2); have HX := HX2; clear HX2; have HA2 := Aside0.mk (HA.out.trans (hbx.mono HA.out.size)); clear HA; have HA := HA2; clear HA2; have x0 := HX.out.x1.cell0; have x1 := HX.out.x1.cell1; have x2 := HX.out.x2.cell0; have x3 := HX.out.x2.cell1; have y1 := HX.out.x1.lt; have y2 := HX.out.x2.lt; clear hbx hg6 hk6 hm6))
 rename_i K hK
 obtain ⟨Y, hY⟩ : ∃ Y, ((W2.alloc (.cells #[.bool g6, .slice Aq k6 cq] 77)).alloc (.cells #[.bool false, .slice Ar kr cr] 77)) = Y := ⟨_, rfl⟩
 have hyb : Below W2.heap.size W2 Y := by subst hY; repeat (first | exact Below.refl _ _ | apply below_alloc)
 have HQ : Aside0 (QR Y W2.heap.size (W2.heap.size + 1) g6 Aq k6 cq false Ar kr cr) := ⟨by subst hY; exact QR.new _ _ _ _ _ _ _ _ _⟩
 have HX2 := Aside0.mk (HX.out.below hyb)
 have HA2 := Aside0.mk (HA.out.trans (hyb.mono HA.out.size))
 have HM62 := Aside0.mk (And.intro HM6.out.1 (And.intro HM6.out.2.1 (HM6.out.2.2.below hyb)))
 have HMR2 := Aside0.mk (And.intro HMR.out.1 (And.intro (HMR.out.2.below hyb) (HMR.out.2.below hyb).rl))
 have HPX : Aside0 (w.heap.size + 1 + 1 + 1 < W2.heap.size) := ⟨HX.out.o2.lt⟩
 have HP : Aside0 ((W2.heap.size ≠ w.heap.size + 1 + 1 ∧ W2.heap.size + 1 ≠ w.heap.size + 1 + 1) ∧ (W2.heap.size ≠ w.heap.size + 1 + 1 + 1 ∧ W2.heap.size + 1 ≠ w.heap.size + 1 + 1 + 1)) := ⟨by have := HPX.out; omega⟩
 clear HX HA HM6 HMR hyb x0 x1 x2 x3 y1 y2
 have HX := HX2
 have HA := HA2
 have HM6 := HM62
 have HMR := HMR2
 clear HX2 HA2 HM62 HMR2
 rw [hY]
 clear hY
 have z0 := HQ.out.1.cell0
 have z1 := HQ.out.1.cell1
 have z2 := HQ.out.2.cell0
 have z3 := HQ.out.2.cell1
 generalize W2.heap.size = p at *
 have x2 := HX.out.x2.cell0
 have x3 := HX.out.x2.cell1
 go_upto_region 5 with (first | (go_at_call 148; (with_reducible refine (rminus_calls (H2.out _ HA.out) HMR.out.2.1 HMN.out.1 HMN.out.2.1).mono ?_); rintro e W3 ⟨A5, k5, c5, rfl, hk5, hm5, hbx⟩; have HM5 := Aside0.mk (And.intro hk5 hm5); have HQ2 := Aside0.mk (And.intro (HQ.out.1.below hbx) (HQ.out.2.below hbx)); clear HQ; have HQ := HQ2; clear HQ2; have HM62 := Aside0.mk (And.intro HM6.out.1 (And.intro HM6.out.2.1 (HM6.out.2.2.below hbx))); clear HM6; have HM6 := HM62; clear HM62; have HX2 := Aside0.mk (HX.out.below hbx); clear HX; have HX := HX2; clear HX2; have HA2 := Aside0.mk (HA.out.trans (hbx.mono HA.out.size)); clear HA; have HA := HA2; clear HA2; clear hbx hk5 hm5 z0 z1 z2 z3 x2 x3; have z2 := HQ.out.2.cell0; have z3 := HQ.out.2.cell1; have z4 := HQ.out.2.fr 0; have z5 := HQ.out.2.fr 1))
 have hq1 := HQ.out.2.put0 false
 obtain ⟨Y2, hY2⟩ : ∃ Y2, ((W3.setCell ⟨p + 1, 0, none⟩ (.bool false)).setCell ⟨p + 1, 1, none⟩ (.slice A5 k5 c5)) = Y2 := ⟨_, rfl⟩
 have HQ2 : Aside0 (QR Y2 p (p + 1) g6 Aq k6 cq false A5 k5 c5) := ⟨by subst hY2; exact ⟨(HQ.out.1.other (by omega) _ _).other (by omega) _ _, hq1.put1 _ _ _⟩⟩
 have HX2 : Aside0 (F4 Y2 w.heap.size true A1 L1 c1 f2 A2 L2 c2) := ⟨by subst hY2; exact (HX.out.other (by have := HPX.out; omega) _ _).other (by have := HPX.out; omega) _ _⟩
 have HA2 : Aside0 (Below w.heap.size w Y2) := ⟨by subst hY2; exact (HA.out.setCell (by have := HPX.out; simp; omega) _).setCell (by have := HPX.out; simp; omega) _⟩
 have HM62 := Aside0.mk (And.intro HM6.out.1 (And.intro HM6.out.2.1 (show RM Y2 Aq k6 (m / n) by subst hY2; exact (HM6.out.2.2.bg HQ.out.2 0 _).bg hq1 1 _)))
 have HM52 := Aside0.mk (And.intro HM5.out.1 (show RM Y2 A5 k5 (n - m % n) by subst hY2; exact (HM5.out.2.bg HQ.out.2 0 _).bg hq1 1 _))
 clear HQ HX HA HM6 HM5 HMR z2 z3 z4 z5 hq1
 have HQ := HQ2
 have HX := HX2
 have HA := HA2
 have HM6 := HM62
 have HM5 := HM52
 clear HQ2 HX2 HA2 HM62 HM52
 rw [hY2]
 clear hY2
 have HPL : Aside0 (∀ (W : World) (A8 : Option Addr) (k8 c8 : Nat), RM W Aq k6 (m / n) → k8 ≤ c8 → RM W A8 k8 1 → Calls Tryz.prog (if f2 = true then 82 else 84) #[.agg #[.bool g6, .slice Aq k6 cq], .agg #[.bool false, .slice A8 k8 c8]] W fun e w' => ∃ A k c, e = .returned (.agg #[.bool gz, .slice A k c]) ∧ k ≤ c ∧ RM w' A k zn ∧ Below W.heap.size W w') := ⟨fun W A8 k8 c8 hq hc h8 => by
  subst hgz hzn
  have hk6 : k6 ≤ 100000 := Nat.le_trans (hq.bound (Nat.lt_of_le_of_lt (Nat.div_le_self _ _) HMN.out.2.2)) (by omega)
  have hk8 : k8 ≤ 1 := h8.bound (by decide)
  have hq' : RM W Aq k6 xq.natAbs := hq.val HXF.out.1.symm
  rw [HM6.out.2.1, HXF.out.2, hz]
  cases f2
  ·exact rMinus_calls (x := xq) (y := 1) hq' h8 hc hk6 (by omega)
  ·exact rPlus_calls (x := xq) (y := 1) hq' h8 hk6 (by omega)⟩
 have HSM : Aside0 (∀ W, Calls Tryz.prog 70 #[.int .i64 1] W fun e w' => ∃ A k c, e = .returned (.agg #[.bool false, .slice A k c]) ∧ k ≤ c ∧ RM w' A k 1 ∧ Below W.heap.size W w') := ⟨fun W => rSmall_calls (w := W) (n := 1) (by omega) (by omega)⟩
 clear hz HXF hgz hzn
 have x2 := HX.out.x2.cell0
 cases f2
 ·skip
  have HPL2 : Aside0 (∀ (W : World) (A8 : Option Addr) (k8 c8 : Nat), RM W Aq k6 (m / n) → k8 ≤ c8 → RM W A8 k8 1 → Calls Tryz.prog 84 #[.agg #[.bool g6, .slice Aq k6 cq], .agg #[.bool false, .slice A8 k8 c8]] W fun e w' => ∃ A k c, e = .returned (.agg #[.bool gz, .slice A k c]) ∧ k ≤ c ∧ RM w' A k zn ∧ Below W.heap.size W w') := ⟨HPL.out⟩
  clear HPL
  go_upto_region 7 with fail
  clear x2
  rename_i K hK
  refine wp_region_held_drew (S := (fun _ => True)) (by kernel_rfl) ?_ (fun hHeld => ?_)
  ·trivial
  (obtain ⟨Z, hZ⟩ : ∃ Z, Y2.drew = Z := ⟨_, rfl⟩; have hbx : Below Y2.heap.size Y2 Z := (by subst hZ; exact below_drew1 (Below.refl _ _)); have HQ2 := Aside0.mk (And.intro (HQ.out.1.below hbx) (HQ.out.2.below hbx)); clear HQ; have HQ := HQ2; clear HQ2; have HM62 := Aside0.mk (And.intro HM6.out.1 (And.intro HM6.out.2.1 (HM6.out.2.2.below hbx))); clear HM6; have HM6 := HM62; clear HM62; have HX2 := Aside0.mk (HX.out.below hbx); clear HX; have HX := HX2; clear HX2; have HA2 := Aside0.mk (HA.out.trans (hbx.mono HA.out.size)); clear HA; have HA := HA2; clear HA2; have HM52 := Aside0.mk (And.intro HM5.out.1 (HM5.out.2.below hbx)); clear HM5; have HM5 := HM52; clear HM52; have z0 := HQ.out.1.cell0; have z1 := HQ.out.1.cell1; have z6 := HQ.out.1.fr 0; have z7 := HQ.out.1.fr 1; rw [hZ]; clear hZ hbx)
  repeat' (first
   | (refine fun (_ : Tg 0) K hK => ?_; go_simp; refine hK.out _ _ ?_ fun hHeld => ?_; (trivial); clear hK K; try simp only [PU])
   | (refine fun (_ : Tg 1) K hK => ?_; go_simp; (go_at_call 70; (with_reducible refine (HSM.out _).mono ?_); rintro e W6 ⟨A8, k8, c8, rfl, hk8, hm8, hbx⟩; have HM8 := Aside0.mk (And.intro hk8 hm8); clear z0 z1 z6 z7; have HQ2 := Aside0.mk (And.intro (HQ.out.1.below hbx) (HQ.out.2.below hbx)); clear HQ; have HQ := HQ2; clear HQ2; have HM62 := Aside0.mk (And.intro HM6.out.1 (And.intro HM6.out.2.1 (HM6.out.2.2.below hbx))); clear HM6; have HM6 := HM62; clear HM62; have HX2 := Aside0.mk (HX.out.below hbx); clear HX; have HX := HX2; clear HX2; have HA2 := Aside0.mk (HA.out.trans (hbx.mono HA.out.size)); clear HA; have HA := HA2; clear HA2; have HM52 := Aside0.mk (And.intro HM5.out.1 (HM5.out.2.below hbx)); clear HM5; have HM5 := HM52; clear HM52; have z0 := HQ.out.1.cell0; have z1 := HQ.out.1.cell1; have z6 := HQ.out.1.fr 0; have z7 := HQ.out.1.fr 1; clear hbx hk8 hm8); refine hK.out _ _ ?_ fun hHeld => ?_; (trivial); clear hK K; try simp only [PU])
   | (refine fun (_ : Tg 2) K hK => ?_; go_simp; (go_at_call 84; (with_reducible refine (HPL2.out _ _ _ _ HM6.out.2.2 HM8.out.1 HM8.out.2).mono ?_); rintro e W7 ⟨A9, k9, c9, rfl, hk9, hm9, hbx⟩; have HM9 := Aside0.mk (And.intro hk9 hm9); clear z0 z1 z6 z7; have HQ2 := Aside0.mk (And.intro (HQ.out.1.below hbx) (HQ.out.2.below hbx)); clear HQ; have HQ := HQ2; clear HQ2; have HM62 := Aside0.mk (And.intro HM6.out.1 (And.intro HM6.out.2.1 (HM6.out.2.2.below hbx))); clear HM6; have HM6 := HM62; clear HM62; have HX2 := Aside0.mk (HX.out.below hbx); clear HX; have HX := HX2; clear HX2; have HA2 := Aside0.mk (HA.out.trans (hbx.mono HA.out.size)); clear HA; have HA := HA2; clear HA2; have HM52 := Aside0.mk (And.intro HM5.out.1 (HM5.out.2.below hbx)); clear HM5; have HM5 := HM52; clear HM52; have z0 := HQ.out.1.cell0; have z1 := HQ.out.1.cell1; have z6 := HQ.out.1.fr 0; have z7 := HQ.out.1.fr 1; clear hbx hk9 hm9); refine hK.out _ _ ?_ fun hHeld => ?_; (trivial); clear hK K; try simp only [PU])
   | (refine fun (_ : Tg 3) K hK => ?_; go_simp; refine hK.out _ _ ?_ fun hHeld => ?_; (trivial); clear hK K; try simp only [PU])
   | refine t1 1 ?_
   | refine t1 2 ?_
   | refine t1 3 ?_
   | refine t1 0 ?_
   | refine t2 0 1 ?_ ?_
   | fail)
  all_goals
   refine wpAnyH_done (by kernel_rfl) ?_ _
   (refine hK _ _ ?_; obtain ⟨Y, hY⟩ : ∃ Y, ((W7.setCell ⟨p, 0, none⟩ (.bool gz)).setCell ⟨p, 1, none⟩ (.slice A9 k9 c9)) = Y := ⟨_, rfl⟩; obtain ⟨HX2, HA2, HQ2, HM62, HMR⟩ := step_end HX HA HQ HM9 HM5 HPX hY; clear HQ HX HA HM6 HM5 HM9 z0 z1 z6 z7; have HQ := HQ2; have HX := HX2; have HA := HA2; have HM6 := HM62; clear HQ2 HX2 HA2 HM62; rw [hY]; clear hY; have HP : Aside0 ((p ≠ w.heap.size + 1 + 1 ∧ p + 1 ≠ w.heap.size + 1 + 1) ∧ (p ≠ w.heap.size + 1 + 1 + 1 ∧ p + 1 ≠ w.heap.size + 1 + 1 + 1)) := ⟨by have := HPX.out; omega⟩; have z0 := HQ.out.1.cell0; have z1 := HQ.out.1.cell1; have z2 := HQ.out.2.cell0; have z3 := HQ.out.2.cell1; go_wp2_with fail)
  all_goals
   rename_i K hK
   refine wp_region_held_drew (S := (fun V => V.cell? ⟨p, 0, none⟩ = some (.bool gz) ∧ V.cell? ⟨p, 1, none⟩ = some (.slice A9 k9 c9) ∧ V.cell? ⟨p + 1, 0, none⟩ = some (.bool false) ∧ V.cell? ⟨p + 1, 1, none⟩ = some (.slice A5 k5 c5))) (by kernel_rfl) ?_ (fun hHeld => ?_)
   ·exact ⟨z0, z1, z2, z3⟩
   (obtain ⟨Z, hZ⟩ : ∃ Z, Y.drew = Z := ⟨_, rfl⟩; have hbx : Below Y.heap.size Y Z := (by subst hZ; exact below_drew1 (Below.refl _ _)); have HQ2 := Aside0.mk (And.intro (HQ.out.1.below hbx) (HQ.out.2.below hbx)); clear HQ; have HQ := HQ2; clear HQ2; have HM62 := Aside0.mk (And.intro HM6.out.1 (And.intro HM6.out.2.1 (HM6.out.2.2.below hbx))); clear HM6; have HM6 := HM62; clear HM62; have HX2 := Aside0.mk (HX.out.below hbx); clear HX; have HX := HX2; clear HX2; have HA2 := Aside0.mk (HA.out.trans (hbx.mono HA.out.size)); clear HA; have HA := HA2; clear HA2; have HMR2 := Aside0.mk (And.intro HMR.out.1 (And.intro (HMR.out.2.1.below hbx) (HMR.out.2.1.below hbx).rl)); clear HMR; have HMR := HMR2; clear HMR2; rw [hZ] at hHeld ⊢; clear hZ hbx z0 z1 z2 z3)
   refine tp 0 ?_
   try simp only [PU]
   refine tp 1 ?_
   try simp only [PU]
   refine tc 2 fun K hK => ?_
   go_simp
   (go_at_call 137; (with_reducible refine (rtrim_sign HMR.out.2.2 HMR.out.1 (dg_lt QQ1 _) _).mono ?_); rintro e W5 ⟨k7, g7, rfl, hg7, hk7, hm7, hbx⟩; have HM7 := Aside0.mk (And.intro hk7 (And.intro hg7 (hm7.val (val_dg QQ1 _)))); have HQ2 := Aside0.mk (And.intro (HQ.out.1.below hbx) (HQ.out.2.below hbx)); clear HQ; have HQ := HQ2; clear HQ2; have HM62 := Aside0.mk (And.intro HM6.out.1 (And.intro HM6.out.2.1 (HM6.out.2.2.below hbx))); clear HM6; have HM6 := HM62; clear HM62; have HX2 := Aside0.mk (HX.out.below hbx); clear HX; have HX := HX2; clear HX2; have HA2 := Aside0.mk (HA.out.trans (hbx.mono HA.out.size)); clear HA; have HA := HA2; clear HA2; have q0 := HX.out.o1.cell0; have q1 := HX.out.o1.cell1; have q2 := HX.out.o1.fr 0; have q3 := HX.out.o1.fr 1; have q4 := HX.out.o2.cell0; have q5 := HX.out.o2.cell1; have q6 := HX.out.o2.fr 0; have q7 := HX.out.o2.fr 1; clear hg7 hk7 hm7)
   refine hK.out _ _ ?_ fun hHeld => ?_
   ·(first | exact ⟨keepB2 hbx hHeld.1, keepB2 hbx hHeld.2.1, keepB2 hbx hHeld.2.2.1, keepB2 hbx hHeld.2.2.2⟩ | exact ⟨cell_far2 hHeld.1 HP.out.1.1, cell_far2 hHeld.2.1 HP.out.1.1, cell_far2 hHeld.2.2.1 HP.out.1.2, cell_far2 hHeld.2.2.2 HP.out.1.2⟩ | exact ⟨cell_far2 hHeld.1 HP.out.2.1, cell_far2 hHeld.2.1 HP.out.2.1, cell_far2 hHeld.2.2.1 HP.out.2.2, cell_far2 hHeld.2.2.2 HP.out.2.2⟩)
   clear hK K; try simp only [PU]
   refine tc 3 fun K hK => ?_
   go_simp
   refine hK.out _ _ ?_ fun hHeld => ?_
   ·(first | exact ⟨keepB2 hbx hHeld.1, keepB2 hbx hHeld.2.1, keepB2 hbx hHeld.2.2.1, keepB2 hbx hHeld.2.2.2⟩ | exact ⟨cell_far2 hHeld.1 HP.out.1.1, cell_far2 hHeld.2.1 HP.out.1.1, cell_far2 hHeld.2.2.1 HP.out.1.2, cell_far2 hHeld.2.2.2 HP.out.1.2⟩ | exact ⟨cell_far2 hHeld.1 HP.out.2.1, cell_far2 hHeld.2.1 HP.out.2.1, cell_far2 hHeld.2.2.1 HP.out.2.2, cell_far2 hHeld.2.2.2 HP.out.2.2⟩)
   clear hK K; try simp only [PU]
   refine tc 4 fun K hK => ?_
   go_simp
   refine hK.out _ _ ?_ fun hHeld => ?_
   ·(first | exact ⟨keepB2 hbx hHeld.1, keepB2 hbx hHeld.2.1, keepB2 hbx hHeld.2.2.1, keepB2 hbx hHeld.2.2.2⟩ | exact ⟨cell_far2 hHeld.1 HP.out.1.1, cell_far2 hHeld.2.1 HP.out.1.1, cell_far2 hHeld.2.2.1 HP.out.1.2, cell_far2 hHeld.2.2.2 HP.out.1.2⟩ | exact ⟨cell_far2 hHeld.1 HP.out.2.1, cell_far2 hHeld.2.1 HP.out.2.1, cell_far2 hHeld.2.2.1 HP.out.2.2, cell_far2 hHeld.2.2.2 HP.out.2.2⟩)
   clear hK K; try simp only [PU]
   refine wpAnyH_done (by kernel_rfl) ?_ _
   refine hK _ _ ?_
   go_wp2
   obtain ⟨o1, o2, o3, o4, o5⟩ := out2 HX.out HA.out rfl HM6.out.2.2 HM7.out.2.2 gz g7 c9 c5
   exact over_ret rfl rfl o1 o2 ⟨A9, k9, c9, A5, k7, c5, by rw [HM7.out.2.1]; first | rfl | (simp; done), HM6.out.1, HM7.out.1, o3, o4, o5⟩
 ·skip
  have HPL2 : Aside0 (∀ (W : World) (A8 : Option Addr) (k8 c8 : Nat), RM W Aq k6 (m / n) → k8 ≤ c8 → RM W A8 k8 1 → Calls Tryz.prog 82 #[.agg #[.bool g6, .slice Aq k6 cq], .agg #[.bool false, .slice A8 k8 c8]] W fun e w' => ∃ A k c, e = .returned (.agg #[.bool gz, .slice A k c]) ∧ k ≤ c ∧ RM w' A k zn ∧ Below W.heap.size W w') := ⟨HPL.out⟩
  clear HPL
  go_upto_region 6 with fail
  clear x2
  rename_i K hK
  refine wp_region_held_drew (S := (fun _ => True)) (by kernel_rfl) ?_ (fun hHeld => ?_)
  ·trivial
  (obtain ⟨Z, hZ⟩ : ∃ Z, Y2.drew = Z := ⟨_, rfl⟩; have hbx : Below Y2.heap.size Y2 Z := (by subst hZ; exact below_drew1 (Below.refl _ _)); have HQ2 := Aside0.mk (And.intro (HQ.out.1.below hbx) (HQ.out.2.below hbx)); clear HQ; have HQ := HQ2; clear HQ2; have HM62 := Aside0.mk (And.intro HM6.out.1 (And.intro HM6.out.2.1 (HM6.out.2.2.below hbx))); clear HM6; have HM6 := HM62; clear HM62; have HX2 := Aside0.mk (HX.out.below hbx); clear HX; have HX := HX2; clear HX2; have HA2 := Aside0.mk (HA.out.trans (hbx.mono HA.out.size)); clear HA; have HA := HA2; clear HA2; have HM52 := Aside0.mk (And.intro HM5.out.1 (HM5.out.2.below hbx)); clear HM5; have HM5 := HM52; clear HM52; have z0 := HQ.out.1.cell0; have z1 := HQ.out.1.cell1; have z6 := HQ.out.1.fr 0; have z7 := HQ.out.1.fr 1; rw [hZ]; clear hZ hbx)
  repeat' (first
   | (refine fun (_ : Tg 0) K hK => ?_; go_simp; refine hK.out _ _ ?_ fun hHeld => ?_; (trivial); clear hK K; try simp only [PU])
   | (refine fun (_ : Tg 1) K hK => ?_; go_simp; (go_at_call 70; (with_reducible refine (HSM.out _).mono ?_); rintro e W6 ⟨A8, k8, c8, rfl, hk8, hm8, hbx⟩; have HM8 := Aside0.mk (And.intro hk8 hm8); clear z0 z1 z6 z7; have HQ2 := Aside0.mk (And.intro (HQ.out.1.below hbx) (HQ.out.2.below hbx)); clear HQ; have HQ := HQ2; clear HQ2; have HM62 := Aside0.mk (And.intro HM6.out.1 (And.intro HM6.out.2.1 (HM6.out.2.2.below hbx))); clear HM6; have HM6 := HM62; clear HM62; have HX2 := Aside0.mk (HX.out.below hbx); clear HX; have HX := HX2; clear HX2; have HA2 := Aside0.mk (HA.out.trans (hbx.mono HA.out.size)); clear HA; have HA := HA2; clear HA2; have HM52 := Aside0.mk (And.intro HM5.out.1 (HM5.out.2.below hbx)); clear HM5; have HM5 := HM52; clear HM52; have z0 := HQ.out.1.cell0; have z1 := HQ.out.1.cell1; have z6 := HQ.out.1.fr 0; have z7 := HQ.out.1.fr 1; clear hbx hk8 hm8); refine hK.out _ _ ?_ fun hHeld => ?_; (trivial); clear hK K; try simp only [PU])
   | (refine fun (_ : Tg 2) K hK => ?_; go_simp; (go_at_call 82; (with_reducible refine (HPL2.out _ _ _ _ HM6.out.2.2 HM8.out.1 HM8.out.2).mono ?_); rintro e W7 ⟨A9, k9, c9, rfl, hk9, hm9, hbx⟩; have HM9 := Aside0.mk (And.intro hk9 hm9); clear z0 z1 z6 z7; have HQ2 := Aside0.mk (And.intro (HQ.out.1.below hbx) (HQ.out.2.below hbx)); clear HQ; have HQ := HQ2; clear HQ2; have HM62 := Aside0.mk (And.intro HM6.out.1 (And.intro HM6.out.2.1 (HM6.out.2.2.below hbx))); clear HM6; have HM6 := HM62; clear HM62; have HX2 := Aside0.mk (HX.out.below hbx); clear HX; have HX := HX2; clear HX2; have HA2 := Aside0.mk (HA.out.trans (hbx.mono HA.out.size)); clear HA; have HA := HA2; clear HA2; have HM52 := Aside0.mk (And.intro HM5.out.1 (HM5.out.2.below hbx)); clear HM5; have HM5 := HM52; clear HM52; have z0 := HQ.out.1.cell0; have z1 := HQ.out.1.cell1; have z6 := HQ.out.1.fr 0; have z7 := HQ.out.1.fr 1; clear hbx hk9 hm9); refine hK.out _ _ ?_ fun hHeld => ?_; (trivial); clear hK K; try simp only [PU])
   | (refine fun (_ : Tg 3) K hK => ?_; go_simp; refine hK.out _ _ ?_ fun hHeld => ?_; (trivial); clear hK K; try simp only [PU])
   | refine t1 1 ?_
   | refine t1 2 ?_
   | refine t1 3 ?_
   | refine t1 0 ?_
   | refine t2 0 1 ?_ ?_
   | fail)
  all_goals
   refine wpAnyH_done (by kernel_rfl) ?_ _
   (refine hK _ _ ?_; obtain ⟨Y, hY⟩ : ∃ Y, ((W7.setCell ⟨p, 0, none⟩ (.bool gz)).setCell ⟨p, 1, none⟩ (.slice A9 k9 c9)) = Y := ⟨_, rfl⟩; obtain ⟨HX2, HA2, HQ2, HM62, HMR⟩ := step_end HX HA HQ HM9 HM5 HPX hY; clear HQ HX HA HM6 HM5 HM9 z0 z1 z6 z7; have HQ := HQ2; have HX := HX2; have HA := HA2; have HM6 := HM62; clear HQ2 HX2 HA2 HM62; rw [hY]; clear hY; have HP : Aside0 ((p ≠ w.heap.size + 1 + 1 ∧ p + 1 ≠ w.heap.size + 1 + 1) ∧ (p ≠ w.heap.size + 1 + 1 + 1 ∧ p + 1 ≠ w.heap.size + 1 + 1 + 1)) := ⟨by have := HPX.out; omega⟩; have z0 := HQ.out.1.cell0; have z1 := HQ.out.1.cell1; have z2 := HQ.out.2.cell0; have z3 := HQ.out.2.cell1; go_wp2_with fail)
  all_goals
   rename_i K hK
   refine wp_region_held_drew (S := (fun V => V.cell? ⟨p, 0, none⟩ = some (.bool gz) ∧ V.cell? ⟨p, 1, none⟩ = some (.slice A9 k9 c9) ∧ V.cell? ⟨p + 1, 0, none⟩ = some (.bool false) ∧ V.cell? ⟨p + 1, 1, none⟩ = some (.slice A5 k5 c5))) (by kernel_rfl) ?_ (fun hHeld => ?_)
   ·exact ⟨z0, z1, z2, z3⟩
   (obtain ⟨Z, hZ⟩ : ∃ Z, Y.drew = Z := ⟨_, rfl⟩; have hbx : Below Y.heap.size Y Z := (by subst hZ; exact below_drew1 (Below.refl _ _)); have HQ2 := Aside0.mk (And.intro (HQ.out.1.below hbx) (HQ.out.2.below hbx)); clear HQ; have HQ := HQ2; clear HQ2; have HM62 := Aside0.mk (And.intro HM6.out.1 (And.intro HM6.out.2.1 (HM6.out.2.2.below hbx))); clear HM6; have HM6 := HM62; clear HM62; have HX2 := Aside0.mk (HX.out.below hbx); clear HX; have HX := HX2; clear HX2; have HA2 := Aside0.mk (HA.out.trans (hbx.mono HA.out.size)); clear HA; have HA := HA2; clear HA2; have HMR2 := Aside0.mk (And.intro HMR.out.1 (And.intro (HMR.out.2.1.below hbx) (HMR.out.2.1.below hbx).rl)); clear HMR; have HMR := HMR2; clear HMR2; rw [hZ] at hHeld ⊢; clear hZ hbx z0 z1 z2 z3)
   refine tp 0 ?_
   try simp only [PU]
   refine tp 1 ?_
   try simp only [PU]
   refine tc 2 fun K hK => ?_
   go_simp
   (go_at_call 137; (with_reducible refine (rtrim_sign HMR.out.2.2 HMR.out.1 (dg_lt QQ1 _) _).mono ?_); rintro e W5 ⟨k7, g7, rfl, hg7, hk7, hm7, hbx⟩; have HM7 := Aside0.mk (And.intro hk7 (And.intro hg7 (hm7.val (val_dg QQ1 _)))); have HQ2 := Aside0.mk (And.intro (HQ.out.1.below hbx) (HQ.out.2.below hbx)); clear HQ; have HQ := HQ2; clear HQ2; have HM62 := Aside0.mk (And.intro HM6.out.1 (And.intro HM6.out.2.1 (HM6.out.2.2.below hbx))); clear HM6; have HM6 := HM62; clear HM62; have HX2 := Aside0.mk (HX.out.below hbx); clear HX; have HX := HX2; clear HX2; have HA2 := Aside0.mk (HA.out.trans (hbx.mono HA.out.size)); clear HA; have HA := HA2; clear HA2; have q0 := HX.out.o1.cell0; have q1 := HX.out.o1.cell1; have q2 := HX.out.o1.fr 0; have q3 := HX.out.o1.fr 1; have q4 := HX.out.o2.cell0; have q5 := HX.out.o2.cell1; have q6 := HX.out.o2.fr 0; have q7 := HX.out.o2.fr 1; clear hg7 hk7 hm7)
   refine hK.out _ _ ?_ fun hHeld => ?_
   ·(first | exact ⟨keepB2 hbx hHeld.1, keepB2 hbx hHeld.2.1, keepB2 hbx hHeld.2.2.1, keepB2 hbx hHeld.2.2.2⟩ | exact ⟨cell_far2 hHeld.1 HP.out.1.1, cell_far2 hHeld.2.1 HP.out.1.1, cell_far2 hHeld.2.2.1 HP.out.1.2, cell_far2 hHeld.2.2.2 HP.out.1.2⟩ | exact ⟨cell_far2 hHeld.1 HP.out.2.1, cell_far2 hHeld.2.1 HP.out.2.1, cell_far2 hHeld.2.2.1 HP.out.2.2, cell_far2 hHeld.2.2.2 HP.out.2.2⟩)
   clear hK K; try simp only [PU]
   refine tc 3 fun K hK => ?_
   go_simp
   refine hK.out _ _ ?_ fun hHeld => ?_
   ·(first | exact ⟨keepB2 hbx hHeld.1, keepB2 hbx hHeld.2.1, keepB2 hbx hHeld.2.2.1, keepB2 hbx hHeld.2.2.2⟩ | exact ⟨cell_far2 hHeld.1 HP.out.1.1, cell_far2 hHeld.2.1 HP.out.1.1, cell_far2 hHeld.2.2.1 HP.out.1.2, cell_far2 hHeld.2.2.2 HP.out.1.2⟩ | exact ⟨cell_far2 hHeld.1 HP.out.2.1, cell_far2 hHeld.2.1 HP.out.2.1, cell_far2 hHeld.2.2.1 HP.out.2.2, cell_far2 hHeld.2.2.2 HP.out.2.2⟩)
   clear hK K; try simp only [PU]
   refine tc 4 fun K hK => ?_
   go_simp
   refine hK.out _ _ ?_ fun hHeld => ?_
   ·(first | exact ⟨keepB2 hbx hHeld.1, keepB2 hbx hHeld.2.1, keepB2 hbx hHeld.2.2.1, keepB2 hbx hHeld.2.2.2⟩ | exact ⟨cell_far2 hHeld.1 HP.out.1.1, cell_far2 hHeld.2.1 HP.out.1.1, cell_far2 hHeld.2.2.1 HP.out.1.2, cell_far2 hHeld.2.2.2 HP.out.1.2⟩ | exact ⟨cell_far2 hHeld.1 HP.out.2.1, cell_far2 hHeld.2.1 HP.out.2.1, cell_far2 hHeld.2.2.1 HP.out.2.2, cell_far2 hHeld.2.2.2 HP.out.2.2⟩)
   clear hK K; try simp only [PU]
   refine wpAnyH_done (by kernel_rfl) ?_ _
   refine hK _ _ ?_
   go_wp2
   obtain ⟨o1, o2, o3, o4, o5⟩ := out2 HX.out HA.out rfl HM6.out.2.2 HM7.out.2.2 gz g7 c9 c5
   exact over_ret rfl rfl o1 o2 ⟨A9, k9, c9, A5, k7, c5, by rw [HM7.out.2.1]; first | rfl | (simp; done), HM6.out.1, HM7.out.1, o3, o4, o5⟩

/-- What Over answers. -/
abbrev OvPost (w : World) (q r : Int) (e : Ending) (w' : World) : Prop := ∃ A k c A' k' c', e = .returned (.tuple #[rV A k c q, rV A' k' c' r]) ∧ k ≤ c ∧ k' ≤ c' ∧ RM w' A k q.natAbs ∧ RM w' A' k' r.natAbs ∧ Below w.heap.size w w'
theorem rOver_calls {w : World} {A1 A2 : Option Addr} {L1 L2 c1 c2 : Nat} {x y : Int} (h1 : RM w A1 L1 x.natAbs) (h2 : RM w A2 L2 y.natAbs) (hy : y ≠ 0) (hL1 : L1 ≤ 40000) (hL2 : L2 ≤ 40000) :
 Calls Tryz.prog 92 #[rV A1 L1 c1 x, rV A2 L2 c2 y] w fun e w' => OvPost w (x / y) (x % y) e w' := by
 obtain ⟨o1, o2, o3⟩ := over_law (x := x) hy rfl rfl
 have hr : decide (x % y < 0) = false := decide_eq_false (by omega)
 unfold OvPost rV
 by_cases hc : x < 0 ∧ x.natAbs % y.natAbs ≠ 0
 ·obtain ⟨p1, p2, p3⟩ := o2 hc
  have hx : decide (x < 0) = true := decide_eq_true hc.1
  rw [hx, hr, p3]
  obtain ⟨q, hq⟩ : ∃ q, x.natAbs / y.natAbs = q := ⟨_, rfl⟩
  rw [hq] at p1 p2
  refine rOver_adj (xq := if y < 0 then (q : Int) else -(q : Int)) (z := x / y) rfl rfl h1 h2 (by omega) hL1 hL2 hc.2 ?_ ?_ ?_
  ·rw [hq]; split <;> omega
  ·rw [hq]
   by_cases h : y < 0
   ·rw [if_pos h, decide_eq_true h]; simp
   ·rw [if_neg h, decide_eq_false h]
    rw [Bool.eq_iff_iff]
    simp
    omega
  ·rw [hx] at p1
   by_cases h : y < 0
   ·rw [decide_eq_true h] at p1 ⊢
    rw [if_pos rfl, if_pos h]
    have : ¬ x / y < 0 := by simpa using p1.symm
    omega
   ·rw [decide_eq_false h] at p1 ⊢
    rw [if_neg (by simp), if_neg h]
    have : x / y < 0 := by simpa using p1.symm
    omega
 ·have hc' : ¬ x < 0 ∨ x.natAbs % y.natAbs = 0 := by omega
  obtain ⟨p1, p2, p3⟩ := o1 hc'
  rw [hr, p2, p3, ← p1]
  exact rOver_plain h1 h2 (by omega) hL1 hL2 (hc'.imp (fun h => decide_eq_false h) id)
/-- What lies in memory between two rounds of Common. -/
structure CQ (w : World) (G y : Nat) (A1 : Option Addr) (L1 c1 : Nat) (A2 : Option Addr) (L2 c2 x : Nat) (W : World) : Prop where
 b0 : BG W w.heap.size false A1 L1 c1
 b1 : BG W (w.heap.size + 1) false A2 L2 c2
 b2 : BG W (w.heap.size + 1 + 1) false none 0 0
 m1 : RM W A1 L1 x
 m2 : RM W A2 L2 y
 g : Nat.gcd x y = G
 bl : Below w.heap.size w W
section
variable {w : World} {G y : Nat} {A1 A2 : Option Addr} {L1 c1 L2 c2 x : Nat} {W X : World}
theorem CQ.below (h : CQ w G y A1 L1 c1 A2 L2 c2 x W) (hb : Below W.heap.size W X) : CQ w G y A1 L1 c1 A2 L2 c2 x X :=
 ⟨h.b0.below hb, h.b1.below hb, h.b2.below hb, h.m1.below hb, h.m2.below hb, h.g, h.bl.trans (hb.mono h.bl.size)⟩
theorem CQ.swap (h : CQ w G y A1 L1 c1 A2 L2 c2 x X) {A6 : Option Addr} {k6 c6 : Nat} (hm : RM X A6 k6 (x % y)) :
 CQ w G (x % y) A2 L2 c2 A6 k6 c6 y ((((X.setCell ⟨w.heap.size, 0, none⟩ (.bool false)).setCell ⟨w.heap.size, 1, none⟩ (.slice A2 L2 c2)).setCell ⟨w.heap.size + 1, 0, none⟩ (.bool false)).setCell ⟨w.heap.size + 1, 1, none⟩ (.slice A6 k6 c6)) := by
 have p1 := h.b0.put0 false
 have p2 := p1.put1 A2 L2 c2
 have r1 := (h.b1.other (b' := w.heap.size) (by omega) 0 (.bool false)).other (b' := w.heap.size) (by omega) 1 (.slice A2 L2 c2)
 have r2 := r1.put0 false
 refine ⟨(p2.other (by omega) _ _).other (by omega) _ _, r2.put1 _ _ _, (((h.b2.other (by omega) _ _).other (by omega) _ _).other (by omega) _ _).other (by omega) _ _, (((h.m2.bg h.b0 0 _).bg p1 1 _).bg r1 0 _).bg r2 1 _, (((hm.bg h.b0 0 _).bg p1 1 _).bg r1 0 _).bg r2 1 _, ?_, (((h.bl.setCell (p := ⟨w.heap.size, 0, none⟩) (Nat.le_refl _) _).setCell (p := ⟨w.heap.size, 1, none⟩) (Nat.le_refl _) _).setCell (by simp) _).setCell (by simp) _⟩
 rw [← h.g, Nat.gcd_comm y, Nat.gcd_comm x, ← Nat.gcd_rec]
end
theorem zero_str {b : ByteArray} (h : checkI b = 0) : (b.toList == [48]) = decide (intI b = 0) := by
 by_cases h0 : intI b = 0
 ·rw [decide_eq_true h0]
  have e := strI_intI h
  rw [h0] at e
  rw [← e]
  decide +kernel
 ·rw [decide_eq_false h0]
  refine beq_no (b := ⟨#[48]⟩) rfl (fun e => h0 ?_)
  rw [e]
  decide +kernel

section
variable {w W : World} {b b' : Nat} {f1 : Bool} {A1 : Option Addr} {L1 c1 : Nat} {f2 : Bool} {A2 : Option Addr} {L2 c2 : Nat} {g1 : Bool} {B1 : Option Addr} {K1 d1 : Nat} {g2 : Bool} {B2 : Option Addr} {K2 d2 : Nat}
end
/-- What lies in memory while Lowest runs. -/
structure LP (w : World) (f1 : Bool) (A1 : Option Addr) (L1 c1 n1 : Nat) (f2 : Bool) (A2 : Option Addr) (L2 c2 n2 : Nat) (W : World) : Prop where
 b0 : BG W w.heap.size f1 A1 L1 c1
 b1 : BG W (w.heap.size + 1) f2 A2 L2 c2
 b2 : BF W (w.heap.size + 1 + 1) false none 0 0 false none 0 0
 k1 : L1 ≤ c1
 k2 : L2 ≤ c2
 m1 : RM W A1 L1 n1
 m2 : RM W A2 L2 n2
 bl : Below w.heap.size w W
section
variable {w W X : World} {f1 f2 g : Bool} {A1 A2 A : Option Addr} {L1 c1 n1 L2 c2 n2 k c z : Nat}
theorem LP.below (h : LP w f1 A1 L1 c1 n1 f2 A2 L2 c2 n2 W) (hb : Below W.heap.size W X) : LP w f1 A1 L1 c1 n1 f2 A2 L2 c2 n2 X :=
 ⟨h.b0.below hb, h.b1.below hb, h.b2.below hb, h.k1, h.k2, h.m1.below hb, h.m2.below hb, h.bl.trans (hb.mono h.bl.size)⟩
theorem LP.new (h1 : RM w A1 L1 n1) (h2 : RM w A2 L2 n2) (k1 : L1 ≤ c1) (k2 : L2 ≤ c2) : LP w f1 A1 L1 c1 n1 f2 A2 L2 c2 n2 (((w.alloc (.cells #[.bool f1, .slice A1 L1 c1] 77)).alloc (.cells #[.bool f2, .slice A2 L2 c2] 77)).alloc (.cells #[.bool false, .slice none 0 0, .bool false, .slice none 0 0] 118)) := by
 have hb : Below w.heap.size w (((w.alloc (.cells #[.bool f1, .slice A1 L1 c1] 77)).alloc (.cells #[.bool f2, .slice A2 L2 c2] 77)).alloc (.cells #[.bool false, .slice none 0 0, .bool false, .slice none 0 0] 118)) := by repeat (first | exact Below.refl _ _ | apply below_alloc)
 have q := QR.new w f1 A1 L1 c1 f2 A2 L2 c2
 exact ⟨q.1.alloc _, q.2.alloc _, BF.new _ _ (by simp) _ _ _ _ _ _ _ _, k1, k2, h1.below hb, h2.below hb, hb⟩
theorem LP.set1 (h : LP w f1 A1 L1 c1 n1 f2 A2 L2 c2 n2 W) (hk : k ≤ c) (hm : RM W A k z) : LP w f1 A1 L1 c1 n1 g A k c z ((W.setCell ⟨w.heap.size + 1, 0, none⟩ (.bool g)).setCell ⟨w.heap.size + 1, 1, none⟩ (.slice A k c)) := by
 have p1 := h.b1.put0 g
 exact ⟨(h.b0.other (by omega) 0 _).other (by omega) 1 _, p1.put1 A k c, (h.b2.other (by omega) 0 _).other (by omega) 1 _, h.k1, hk, (h.m1.bg h.b1 0 _).bg p1 1 _, (hm.bg h.b1 0 _).bg p1 1 _, (h.bl.setCell (p := ⟨w.heap.size + 1, 0, none⟩) (Nat.le_succ _) _).setCell (p := ⟨w.heap.size + 1, 1, none⟩) (Nat.le_succ _) _⟩
end



theorem below_two {w W X : World} {o o' : Obj} (h : Below w.heap.size w W) (hb : Below ((W.alloc o).alloc o').heap.size ((W.alloc o).alloc o') X) : Below w.heap.size w X := by
 have h2 := below_alloc (below_alloc h o) o'
 exact h2.trans (hb.mono h2.size)
/-- One point at p, digits all around it. -/
def Good (l : List UInt8) (p : Nat) : Prop := ∃ hp : p < l.length, l[p] = 46 ∧ (∀ (j : Nat) (h : j < l.length), j ≠ p → isDig l[j] = true) ∧ 0 < p ∧ p + 1 < l.length
/-- What the loop knows: digits so far; or one point at p, digits else. -/
def FdI (l : List UInt8) (i : Nat) (v : Int) : Prop := (v = -1 ∧ ∀ (j : Nat) (h : j < l.length), j < i → isDig l[j] = true) ∨ ∃ p : Nat, v = p ∧ p < i ∧ ∃ hp : p < l.length, l[p] = 46 ∧ ∀ (j : Nat) (h : j < l.length), j < i → j ≠ p → isDig l[j] = true
theorem FdI.dig {l : List UInt8} {i : Nat} {v : Int} (h : FdI l i v) (hi : i < l.length) (hd : isDig l[i] = true) : FdI l (i + 1) v := by
 have hs : ∀ j, j < i + 1 → j < i ∨ j = i := fun j h => by omega
 rcases h with ⟨h1, h2⟩ | ⟨p, h1, h2, h3, h4, h5⟩
 ·refine .inl ⟨h1, fun j hj hlt => ?_⟩
  rcases hs j hlt with h | rfl
  ·exact h2 j hj h
  ·exact hd
 ·refine .inr ⟨p, h1, by omega, h3, h4, fun j hj hlt hne => ?_⟩
  rcases hs j hlt with h | rfl
  ·exact h5 j hj h hne
  ·exact hd
theorem good_other {l : List UInt8} {p i : Nat} (h : Good l p) (hi : i < l.length) (hd : isDig l[i] = false) : i = p ∧ l[i] = 46 := by
 obtain ⟨hp, h1, h2, h3, h4⟩ := h
 by_cases e : i = p
 ·subst e; exact ⟨rfl, h1⟩
 ·rw [h2 i hi e] at hd; cases hd
theorem fd_bad_one {s : ByteArray} (h : ∀ p, ¬ Good s.data.toList p) : fdE s = 1 := by
 unfold fdE
 rw [if_pos]
 cases h1 : cutF 46 s
 ·exact .inl rfl
 ·cases h2 : digitsB (cutA 46 s)
  ·exact .inr (.inl rfl)
  ·cases h3 : digitsB (cutB 46 s)
   ·exact .inr (.inr rfl)
   ·exfalso
    have hj : s.data.toList = (cutA 46 s).data.toList ++ 46 :: (cutB 46 s).data.toList := by
     unfold cutF at h1
     have := cut_join h1
     simpa [cutA, cutB] using this
    unfold digitsB at h2 h3
    simp only [Bool.and_eq_true, decide_eq_true_eq] at h2 h3
    have l1 : (cutA 46 s).data.toList.length = (cutA 46 s).size := by simp
    have l2 : (cutB 46 s).data.toList.length = (cutB 46 s).size := by simp
    generalize (cutA 46 s).data.toList = A at *
    generalize (cutB 46 s).data.toList = B at *
    refine h A.length ?_
    rw [hj]
    refine ⟨by simp, by simp, fun j hlt hne => ?_, by omega, by simp; omega⟩
    rcases Nat.lt_or_ge j A.length with h5 | h5
    ·rw [List.getElem_append_left h5]
     exact List.all_eq_true.1 h2.1 _ (List.getElem_mem _)
    ·rw [List.getElem_append_right h5]
     obtain ⟨m, hm⟩ : ∃ m, j - A.length = m + 1 := ⟨j - A.length - 1, by omega⟩
     simp only [hm, List.getElem_cons_succ]
     exact List.all_eq_true.1 h3.1 _ (List.getElem_mem _)
theorem FdI.fin {s : ByteArray} {v : Int} (h : FdI s.data.toList s.data.toList.length v) : (v = -1 ∧ fdE s = 1) ∨ ∃ p : Nat, v = p ∧ p < s.size ∧ ((p = 0 ∨ p + 1 = s.size) ∧ fdE s = 1 ∨ 0 < p ∧ p + 1 < s.size ∧ Good s.data.toList p) := by
 have hsl : s.data.toList.length = s.size := by simp
 rcases h with ⟨h1, h2⟩ | ⟨p, h1, h2, h3, h4, h5⟩
 ·refine .inl ⟨h1, fd_bad_one fun p h => ?_⟩
  obtain ⟨hp, e, _⟩ := h
  have := h2 p hp hp
  rw [e] at this
  cases this
 ·refine .inr ⟨p, h1, by omega, ?_⟩
  by_cases hg : 0 < p ∧ p + 1 < s.size
  ·exact .inr ⟨hg.1, hg.2, h3, h4, fun j hj hne => h5 j hj hj hne, hg.1, by omega⟩
  ·refine .inl ⟨by omega, fd_bad_one fun q h => hg ?_⟩
   have e2 := (good_other h h3 (by rw [h4]; rfl)).1
   subst e2
   obtain ⟨_, _, _, g1, g2⟩ := h
   exact ⟨g1, by omega⟩
/-- The scale in memory between two rounds. -/
structure SC (w : World) (r : Nat) (A : Option Addr) (k c n : Nat) (W : World) : Prop where
 b0 : BG W r false A k c
 k1 : k ≤ c
 m1 : RM W A k n
 bl : Below w.heap.size w W
 r0 : w.heap.size ≤ r
theorem SC.below {w W X : World} {r : Nat} {A : Option Addr} {k c n : Nat} (h : SC w r A k c n W) (hb : Below W.heap.size W X) : SC w r A k c n X := ⟨h.b0.below hb, h.k1, h.m1.below hb, h.bl.trans (hb.mono h.bl.size), h.r0⟩
theorem SC.put {w W : World} {r : Nat} {A : Option Addr} {k c n : Nat} (h : SC w r A k c n W) {A9 : Option Addr} {k9 c9 n9 : Nat} (hk : k9 ≤ c9) (hm : RM W A9 k9 n9) : SC w r A9 k9 c9 n9 ((W.setCell ⟨r, 0, none⟩ (.bool false)).setCell ⟨r, 1, none⟩ (.slice A9 k9 c9)) :=
 ⟨(h.b0.put0 _).put1 _ _ _, hk, (hm.bg h.b0 0 _).bg (h.b0.put0 _) 1 _, (h.bl.setCell (p := ⟨r, 0, none⟩) h.r0 _).setCell (p := ⟨r, 1, none⟩) h.r0 _, h.r0⟩
theorem rsmall_n (d : Nat) (h : d ≤ 100) (z : Int) (hz : z = d) : Aside0 (∀ W, Calls Tryz.prog 70 #[.int .i64 z] W fun e w' => ∃ A k c, e = .returned (.agg #[.bool false, .slice A k c]) ∧ k ≤ c ∧ RM w' A k d ∧ Below W.heap.size W w') :=
 ⟨fun W => by
  subst hz
  exact (rSmall_calls (w := W) (n := (d : Int)) (by omega) (by omega)).mono fun e w' hx => by
   unfold RX rV at hx
   rwa [decide_eq_false (show ¬ (d : Int) < 0 by omega)] at hx⟩
/-- What a function that gives a magnitude without a sign answers. -/
abbrev NX (w : World) (n : Nat) (e : Ending) (w' : World) : Prop := ∃ A k c, e = .returned (.agg #[.bool false, .slice A k c]) ∧ k ≤ c ∧ RM w' A k n ∧ Below w.heap.size w w'
theorem NX.of {w w' : World} {e : Ending} {n : Nat} (h : RX w (n : Int) e w') : NX w n e w' := by
 unfold RX rV at h
 rwa [decide_eq_false (show ¬ (n : Int) < 0 by omega)] at h
theorem rplus_nat {m n : Nat} (hm : m < QQ ^ 250) (hn : n < QQ ^ 250) : Aside0 (∀ W A k c A' k' c', RM W A k m → RM W A' k' n → Calls Tryz.prog 82 #[.agg #[.bool false, .slice A k c], .agg #[.bool false, .slice A' k' c']] W fun e w' => NX W (m + n) e w') :=
 ⟨fun W A k c A' k' c' h1 h2 => by
  have h := rPlus_calls (w := W) (A1 := A) (A2 := A') (L1 := k) (L2 := k') (c1 := c) (c2 := c') (x := (m : Int)) (y := (n : Int)) h1 h2 (Nat.le_trans (h1.bound hm) (by omega)) (Nat.le_trans (h2.bound hn) (by omega))
  unfold rV at h
  rw [decide_eq_false (show ¬ (m : Int) < 0 by omega), decide_eq_false (show ¬ (n : Int) < 0 by omega)] at h
  exact h.mono fun e w' hx => NX.of (by rwa [← Int.natCast_add] at hx)⟩
theorem two_small {i : Nat} (h : i ≤ 200) : 2 ^ i < QQ ^ 250 := by
 have h1 : 2 ^ i ≤ QQ ^ i := Nat.pow_le_pow_left (by decide) i
 exact Nat.lt_of_le_of_lt h1 (Nat.pow_lt_pow_right (by decide) (by omega))
theorem pw_put {w W : World} {b r : Nat} {A : Option Addr} {k c n : Nat} (h : BG W b false none 0 0 ∧ SC w r A k c n W) (hne : b ≠ r) {A9 : Option Addr} {k9 c9 n9 : Nat} (hk : k9 ≤ c9) (hm : RM W A9 k9 n9) :
 BG ((W.setCell ⟨r, 0, none⟩ (.bool false)).setCell ⟨r, 1, none⟩ (.slice A9 k9 c9)) b false none 0 0 ∧ SC w r A9 k9 c9 n9 ((W.setCell ⟨r, 0, none⟩ (.bool false)).setCell ⟨r, 1, none⟩ (.slice A9 k9 c9)) :=
 ⟨(h.1.other hne 0 _).other hne 1 _, h.2.put hk hm⟩
theorem rPower_calls (n : Nat) (hn : n ≤ 200) (w : World) : Calls Tryz.prog 111 #[.int .i64 (n : Int)] w fun e w' => NX w (2 ^ n) e w' := by
 have HS1 := rsmall_n 1 (by decide) 1 rfl
 have HB : Aside0 (Below w.heap.size w (w.alloc (.cells #[.bool false, .slice none 0 0] 77))) := ⟨below_alloc (Below.refl _ _) _⟩
 have HR := Aside0.mk (BG.new w false none 0 0)
 go_enter Tryz.func111, Tryz.ntmps111
 go_upto_region 2 with (first | (go_at_call 70; (with_reducible refine (HS1.out _).mono ?_); rintro e W1 ⟨A1, k1, c1, rfl, hk1, hm1, hbx⟩; have HM1 := Aside0.mk (And.intro hk1 hm1); have HR := Aside0.mk (HR.out.below hbx); have HB2 := Aside0.mk (HB.out.trans (hbx.mono HB.out.size)); clear HB; have HB := HB2; clear HB2; clear hbx hk1 hm1))
 obtain ⟨Y, hY⟩ : ∃ Y, W1.alloc (.cells #[.bool false, .slice A1 k1 c1] 77) = Y := ⟨_, rfl⟩
 have HN : Aside0 (w.heap.size < W1.heap.size) := ⟨HR.out.lt⟩
 have HS : Aside0 (BG Y w.heap.size false none 0 0 ∧ SC w W1.heap.size A1 k1 c1 (2 ^ 0) Y) := ⟨by
  subst hY
  have hb := below_alloc (Below.refl W1.heap.size W1) (.cells #[.bool false, .slice A1 k1 c1] 77)
  exact ⟨HR.out.below hb, BG.new _ _ _ _ _, HM1.out.1, HM1.out.2.below hb, HB.out.trans (hb.mono HB.out.size), HB.out.size⟩⟩
 rw [hY]
 clear hY HM1 HB HR HS1
 generalize W1.heap.size = r at *
 go_wp2_with fail
 go_loopw [4] (fun v4 W => ∃ (i : Nat) (A : Option Addr) (k c : Nat), v4 = .int .i64 (i : Int) ∧ i ≤ n ∧ Aside0 (BG W w.heap.size false none 0 0 ∧ SC w r A k c (2 ^ i) W)) (fun v4 _ => n - (intOf v4).toNat)
 case atStart => exact ⟨0, A1, k1, c1, rfl, Nat.zero_le _, HS⟩
 case round =>
  clear HS
  obtain ⟨i, A, k, c, rfl, hi, HS⟩ := hrel
  have x0 := HS.out.2.b0.cell0
  have x1 := HS.out.2.b0.cell1
  have x2 := HS.out.2.b0.fr 0
  have x3 := HS.out.2.b0.fr 1
  by_cases hlt : i < n
  ·have hlt' : (i : Int) < (n : Int) := by omega
   have HP := rplus_nat (two_small (i := i) (by omega)) (two_small (i := i) (by omega))
   rw [← Nat.two_mul, ← Nat.pow_succ'] at HP
   go_wp2_with (first | (go_at_call 82; (with_reducible refine (HP.out _ _ _ _ _ _ _ HS.out.2.m1 HS.out.2.m1).mono ?_); rintro e W3 ⟨A9, k9, c9, rfl, hk9, hm9, hbx⟩; have HM9 := Aside0.mk (And.intro hk9 hm9); have HS3 := Aside0.mk (And.intro (HS.out.1.below hbx) (HS.out.2.below hbx)); clear HS x0 x1 x2 x3; have HS := HS3; clear HS3; have x0 := HS.out.2.b0.cell0; have x1 := HS.out.2.b0.cell1; have x2 := HS.out.2.b0.fr 0; have x3 := HS.out.2.b0.fr 1; clear hbx hk9 hm9))
   have HS3 := Aside0.mk (pw_put HS.out (Nat.ne_of_lt HN.out) HM9.out.1 HM9.out.2)
   go_roundw
   case rel => exact ⟨i + 1, A9, k9, c9, by first | rfl | go_num, hlt, HS3⟩
   case measure => simp [intOf]; omega
  ·obtain rfl : i = n := by omega
   have hlt' : ¬ (i : Int) < (i : Int) := by omega
   have q0 := HS.out.1.cell0
   have q1 := HS.out.1.cell1
   have q2 := HS.out.1.fr 0
   have q3 := HS.out.1.fr 1
   go_wp2_with fail
   refine bodyPost_ret (v := .agg #[.bool false, .slice A k c]) (by simp [results, Tryz.results111, go_sem, q0, q1]) rfl ⟨A, k, c, rfl, HS.out.2.k1, (HS.out.2.m1.bg HS.out.1 0 _).bg (HS.out.1.put0 _) 1 _, (HS.out.2.bl.setCell (p := ⟨w.heap.size, 0, none⟩) (Nat.le_refl _) _).setCell (p := ⟨w.heap.size, 1, none⟩) (Nat.le_refl _) _⟩
theorem rtwo_dig {n : Nat} (h : n ≤ 64) : Dig 120 ((2 : Int) ^ n) := by
 unfold Dig
 rw [Int.natAbs_pow]
 exact Nat.lt_of_le_of_lt (Nat.pow_le_pow_right (by decide) h) (by decide +kernel)
/-- Over at a number and a power of two. -/
theorem rover_two {x : Int} {n : Nat} (dx : Dig 1000 x) (hn : n ≤ 64) : Aside0 (∀ W A1 k1 c1 A2 k2 c2, RM W A1 k1 x.natAbs → RM W A2 k2 (2 ^ n) → Calls Tryz.prog 92 #[.agg #[.bool (decide (x < 0)), .slice A1 k1 c1], .agg #[.bool false, .slice A2 k2 c2]] W fun e w' => OvPost W (x / 2 ^ n) (x % 2 ^ n) e w') :=
 ⟨fun W A1 k1 c1 A2 k2 c2 m1 m2 => by
  have hp : (0 : Int) < 2 ^ n := Int.pow_pos (by decide)
  have hy : ((2 : Int) ^ n).natAbs = 2 ^ n := by rw [Int.natAbs_pow]; rfl
  have h := rOver_calls (w := W) (A1 := A1) (A2 := A2) (L1 := k1) (L2 := k2) (c1 := c1) (c2 := c2) (x := x) (y := 2 ^ n) m1 (hy.symm ▸ m2) (fun e => by omega) (Nat.le_trans (m1.dig dx 250 (by omega)) (by omega)) (Nat.le_trans (m2.bound (two_small (by omega))) (by omega))
  unfold rV at h
  rwa [decide_eq_false (show ¬ (2 : Int) ^ n < 0 by omega)] at h⟩
theorem rWrap_ok (a : ByteArray) (ha : a.size ≤ 90000) (hca : checkI a = 0) (n : Nat) (h1 : 1 ≤ n) (h2 : n ≤ 64) (w : World) :
 Calls Tryz.prog 46 #[.string a, .int .i64 (n : Int)] w fun e w' => e = .returned (.tuple #[.string (strI (intI a % 2 ^ n)), .int .i64 0]) ∧ Below w.heap.size w w' := by
 have HCa := Aside0.mk (fun W => rCheck_calls a (by omega) W)
 rw [hca] at HCa
 have HWN := Aside0.mk (fun W => rwhen_calls false 3 W)
 have HFI := Aside0.mk (fun (W : World) (g : Nat) (hg : g = W.heap.size) (t : TypeId) => rfirst2_ret 0 0 0 rfl W g hg t)
 have HB := Aside0.mk (Below.refl w.heap.size w)
 have HRa := Aside0.mk (fun W => rRead_calls a ha (check_digits hca) W)
 have HPW := Aside0.mk (fun W => rPower_calls n (by omega) W)
 have dx := intI_dig hca
 have hp : (0 : Int) < 2 ^ n := Int.pow_pos (by decide)
 have dr : Dig 120 (intI a % 2 ^ n) := Dig.emod (rtwo_dig h2) (fun e => by omega)
 have HOV := rover_two (x := intI a) (n := n) (dx.more (by omega)) h2
 have HRS := Aside0.mk (fun W A k c hm => rresult_calls (w := W) (A := A) (L := k) (c := c) (x := intI a % 2 ^ n) hm (dr.more (by omega)))
 rw [(wr_dig dr).1, (wr_dig dr).2] at HRS
 have hn1 : decide ((n : Int) < 1) = false := decide_eq_false (by omega)
 have hn2 : decide ((64 : Int) < (n : Int)) = false := decide_eq_false (by omega)
 clear hp dr dx hca
 unfold OvPost at HOV
 unfold NX at HPW
 unfold RX at HRa
 unfold rV at *
 generalize strI (intI a % 2 ^ n) = S at *
 generalize decide (intI a / 2 ^ n < 0) = gQ at *
 generalize decide (intI a % 2 ^ n < 0) = gR at *
 generalize (intI a % 2 ^ n).natAbs = nR at *
 generalize decide (intI a < 0) = gx at *
 go_enter Tryz.func46, Tryz.ntmps46
 go_wp2_with (first | (go_at_call 13; (with_reducible refine (HCa.out _).mono ?_); rintro e wx ⟨rfl, hbx⟩; have HB2 := Aside0.mk (HB.out.trans (hbx.mono HB.out.size)); clear HB; have HB := HB2; clear HB2; clear hbx) | (go_at_call 67; (with_reducible refine (HWN.out _).mono ?_); rintro e wy ⟨rfl, hwy⟩; rw [hwy]; clear hwy wy) | (go_at_call 81; (with_reducible refine (HFI.out _ _ rfl _).mono ?_); rintro e wx ⟨rfl, hwx⟩; rw [hwx]; clear hwx wx; have HB2 := Aside0.mk (below_alloc HB.out (.cells #[.int .i64 0, .int .i64 0] 3)); clear HB; have HB := HB2; clear HB2) | (go_at_call 72; (with_reducible refine (HRa.out _).mono ?_); rintro e wx ⟨A1, k1, c1, rfl, hk1, hm1, hbx⟩; have HM1 := Aside0.mk (And.intro hk1 hm1); have HB2 := Aside0.mk (HB.out.trans (hbx.mono HB.out.size)); clear HB; have HB := HB2; clear HB2; clear hbx hk1 hm1) | (go_at_call 111; (with_reducible refine (HPW.out _).mono ?_); rintro e wx ⟨A2, k2, c2, rfl, hk2, hm2, hbx⟩; have HM2 := Aside0.mk (And.intro (HM1.out.2.below hbx) hm2); have HB2 := Aside0.mk (HB.out.trans (hbx.mono HB.out.size)); clear HB; have HB := HB2; clear HB2; clear hbx hk2 hm2) | (go_at_call 92; (with_reducible refine (HOV.out _ _ _ _ _ _ _ HM2.out.1 HM2.out.2).mono ?_); rintro e W3 ⟨A3, k3, c3, A4, k4, c4, rfl, hk3, hk4, hm3, hm4, hbx⟩; have HM3 : Aside0 (∀ W, Below W3.heap.size W3 W → RM W A4 k4 nR) := ⟨fun W hb => hm4.below hb⟩; have HB2 := Aside0.mk (HB.out.trans (hbx.mono HB.out.size)); clear HB; have HB := HB2; clear HB2; clear hbx hm3 hm4 hk3 hk4) | (go_at_call 77; (with_reducible refine (HRS.out _ _ _ _ (HM3.out _ (by repeat (first | exact Below.refl _ _ | apply below_alloc)))).mono ?_); rintro e W4 ⟨rfl, hbx⟩))
 go_ret2
 exact ⟨rfl, below_two HB.out hbx⟩
theorem rWrap_calls (a : ByteArray) (ha : a.size ≤ 90000) (n : Int) (w : World) :
 Calls Tryz.prog 46 #[.string a, .int .i64 n] w fun e w' => e = .returned (.tuple #[.string (wpS a n), .int .i64 (wpE a n)]) ∧ Below w.heap.size w w' := by
 unfold wpS
 by_cases h : wpE a n = 0
 ·obtain ⟨h1, h2, h3⟩ := wpE_zero h
  rw [if_pos h, h]
  obtain ⟨m, rfl⟩ : ∃ m : Nat, n = (m : Int) := ⟨n.toNat, by omega⟩
  rw [show (m : Int).toNat = m from rfl]
  exact rWrap_ok a ha h1 m (by omega) (by omega) w
 ·rw [if_neg h]
  obtain ⟨E, hE⟩ : ∃ E, wpE a n = E := ⟨_, rfl⟩
  rw [hE] at h ⊢
  unfold wpE at hE
  have HCa := Aside0.mk (fun W => rCheck_calls a (by omega) W)
  have HB := Aside0.mk (Below.refl w.heap.size w)
  have hbe : (E != 0) = true := by simp [h]
  have HFI := Aside0.mk (fun (W : World) (g : Nat) (hg : g = W.heap.size) (t : TypeId) => rfirst2_ret (checkI a) (if n < 1 ∨ 64 < n then 3 else 0) E hE W g hg t)
  clear hE h
  generalize checkI a = ca at *
  by_cases hn : n < 1
  ·rw [if_pos (.inl hn)] at HFI
   have hn1 : decide (n < 1) = true := decide_eq_true hn
   have HWN := Aside0.mk (fun W => rwhen_calls true 3 W)
   go_enter Tryz.func46, Tryz.ntmps46
   go_wp2_with (first | (go_at_call 13; (with_reducible refine (HCa.out _).mono ?_); rintro e wx ⟨rfl, hbx⟩; have HB2 := Aside0.mk (HB.out.trans (hbx.mono HB.out.size)); clear HB; have HB := HB2; clear HB2; clear hbx) | (go_at_call 67; (with_reducible refine (HWN.out _).mono ?_); rintro e wy ⟨rfl, hwy⟩; rw [hwy]; clear hwy wy) | (go_at_call 81; (with_reducible refine (HFI.out _ _ rfl _).mono ?_); rintro e wx ⟨rfl, hwx⟩; rw [hwx]; clear hwx wx; have HB2 := Aside0.mk (below_alloc HB.out (.cells #[.int .i64 ca, .int .i64 3] 3)); clear HB; have HB := HB2; clear HB2))
   go_ret2
   exact ⟨rfl, HB.out⟩
  ·have hn1 : decide (n < 1) = false := decide_eq_false hn
   by_cases hn2 : 64 < n
   ·rw [if_pos (.inr hn2)] at HFI
    have hn3 : decide (64 < n) = true := decide_eq_true hn2
    have HWN := Aside0.mk (fun W => rwhen_calls true 3 W)
    go_enter Tryz.func46, Tryz.ntmps46
    go_wp2_with (first | (go_at_call 13; (with_reducible refine (HCa.out _).mono ?_); rintro e wx ⟨rfl, hbx⟩; have HB2 := Aside0.mk (HB.out.trans (hbx.mono HB.out.size)); clear HB; have HB := HB2; clear HB2; clear hbx) | (go_at_call 67; (with_reducible refine (HWN.out _).mono ?_); rintro e wy ⟨rfl, hwy⟩; rw [hwy]; clear hwy wy) | (go_at_call 81; (with_reducible refine (HFI.out _ _ rfl _).mono ?_); rintro e wx ⟨rfl, hwx⟩; rw [hwx]; clear hwx wx; have HB2 := Aside0.mk (below_alloc HB.out (.cells #[.int .i64 ca, .int .i64 3] 3)); clear HB; have HB := HB2; clear HB2))
    go_ret2
    exact ⟨rfl, HB.out⟩
   ·rw [if_neg (fun h => h.elim hn hn2)] at HFI
    have hn3 : decide (64 < n) = false := decide_eq_false hn2
    have HWN := Aside0.mk (fun W => rwhen_calls false 3 W)
    go_enter Tryz.func46, Tryz.ntmps46
    go_wp2_with (first | (go_at_call 13; (with_reducible refine (HCa.out _).mono ?_); rintro e wx ⟨rfl, hbx⟩; have HB2 := Aside0.mk (HB.out.trans (hbx.mono HB.out.size)); clear HB; have HB := HB2; clear HB2; clear hbx) | (go_at_call 67; (with_reducible refine (HWN.out _).mono ?_); rintro e wy ⟨rfl, hwy⟩; rw [hwy]; clear hwy wy) | (go_at_call 81; (with_reducible refine (HFI.out _ _ rfl _).mono ?_); rintro e wx ⟨rfl, hwx⟩; rw [hwx]; clear hwx wx; have HB2 := Aside0.mk (below_alloc HB.out (.cells #[.int .i64 ca, .int .i64 0] 3)); clear HB; have HB := HB2; clear HB2))
    go_ret2
    exact ⟨rfl, HB.out⟩
/-- Order at a number and a power of two. -/
theorem rorder_two {x : Int} {n : Nat} (dx : Dig 1000 x) (hn : n ≤ 64) : Aside0 (∀ W A1 k1 c1 A2 k2 c2, RM W A1 k1 x.natAbs → RM W A2 k2 (2 ^ n) → k2 ≤ c2 → Calls Tryz.prog 73 #[.agg #[.bool (decide (x < 0)), .slice A1 k1 c1], .agg #[.bool false, .slice A2 k2 c2]] W fun e w' => e = .returned (.int .i64 (cmpI x (2 ^ n))) ∧ Below W.heap.size W w') :=
 ⟨fun W A1 k1 c1 A2 k2 c2 m1 m2 hk => by
  have hp : (0 : Int) < 2 ^ n := Int.pow_pos (by decide)
  have hy : ((2 : Int) ^ n).natAbs = 2 ^ n := by rw [Int.natAbs_pow]; rfl
  have h := rOrder_calls (w := W) (A1 := A1) (A2 := A2) (L1 := k1) (L2 := k2) (c1 := c1) (c2 := c2) (x := x) (y := 2 ^ n) m1 (hy.symm ▸ m2) hk (Nat.le_trans (m1.dig dx 250 (by omega)) (by omega)) (Nat.le_trans (m2.bound (two_small (by omega))) (by omega))
  unfold rV at h
  rwa [decide_eq_false (show ¬ (2 : Int) ^ n < 0 by omega)] at h⟩
theorem rcheckBits_calls (s : ByteArray) (hs : s.size ≤ 90000) (n : Nat) (hn : n ≤ 64) (w : World) :
 Calls Tryz.prog 113 #[.string s, .int .i64 (n : Int)] w fun e w' => e = .returned (.int .i64 (vecE s n)) ∧ Below w.heap.size w w' := by
 have HCa := Aside0.mk (fun W => rCheck_calls s (by omega) W)
 have HB := Aside0.mk (Below.refl w.heap.size w)
 unfold vecE
 by_cases h0 : checkI s = 0
 ·rw [if_pos h0]
  rw [h0] at HCa
  have HRa := Aside0.mk (fun W => rRead_calls s hs (check_digits h0) W)
  have HPW := Aside0.mk (fun W => rPower_calls n (by omega) W)
  have HOR := rorder_two (x := intI s) (n := n) ((intI_dig h0).more (by omega)) hn
  have hdp := digits_pos (check_digits h0)
  have hbb := bodyB_size s
  have h0b : 0 < s.size := by omega
  obtain ⟨d, hd⟩ : ∃ d : Nat, (s[0]'h0b).toNat = d := ⟨_, rfl⟩
  have hx0 : ∀ h : 0 < s.size, ((s[0]'h).toNat : Int) = (d : Int) := fun h => by rw [hd]
  have q1 : (0 < s.size) = True := eq_true h0b
  have q2 : ((0 : Int) < (s.size : Int)) = True := eq_true (by omega)
  cases hm : minusB s
  ·have h45 : ¬ d = 45 := fun h => absurd (hd.trans h) (minus_not hm h0b)
   have g45 : ((d : Int) == 45) = false := by rw [beq_eq_false_iff_ne]; omega
   have hnn : 0 ≤ intI s := by rw [(plus_dv h0 hm).2]; omega
   by_cases hlt : intI s < 2 ^ n
   ·have hc : cmpI (intI s) (2 ^ n) = -1 := if_pos hlt
    rw [hc] at HOR
    rw [if_pos ⟨hnn, hlt⟩]
    have HWN := Aside0.mk (fun W => rwhen_calls false 3 W)
    clear h0 hdp hbb hd hm h45 hnn hlt hc
    unfold RX NX rV at *
    generalize decide (intI s < 0) = gx at *
    go_enter Tryz.func113, Tryz.ntmps113
    go_wp2_with (first | (go_at_call 13; (with_reducible refine (HCa.out _).mono ?_); rintro e wx ⟨rfl, hbx⟩; have HB2 := Aside0.mk (HB.out.trans (hbx.mono HB.out.size)); clear HB; have HB := HB2; clear HB2; clear hbx) | (go_at_call 67; (with_reducible refine (HWN.out _).mono ?_); rintro e wy ⟨rfl, hwy⟩; rw [hwy]; clear hwy wy) | (go_at_call 72; (with_reducible refine (HRa.out _).mono ?_); rintro e wx ⟨A1, k1, c1, rfl, hk1, hm1, hbx⟩; have HM1 := Aside0.mk (And.intro hk1 hm1); have HB2 := Aside0.mk (HB.out.trans (hbx.mono HB.out.size)); clear HB; have HB := HB2; clear HB2; clear hbx hk1 hm1) | (go_at_call 111; (with_reducible refine (HPW.out _).mono ?_); rintro e wx ⟨A2, k2, c2, rfl, hk2, hm2, hbx⟩; have HM2 := Aside0.mk (And.intro (HM1.out.2.below hbx) (And.intro hm2 hk2)); have HB2 := Aside0.mk (HB.out.trans (hbx.mono HB.out.size)); clear HB; have HB := HB2; clear HB2; clear hbx hk2 hm2) | (go_at_call 73; (with_reducible refine (HOR.out _ _ _ _ _ _ _ HM2.out.1 HM2.out.2.1 HM2.out.2.2).mono ?_); rintro e wx ⟨rfl, hbx⟩; have HB2 := Aside0.mk (HB.out.trans (hbx.mono HB.out.size)); clear HB; have HB := HB2; clear HB2; clear hbx))
    go_ret
    exact ⟨by simp, HB.out⟩
   ·rw [if_neg (fun h => hlt h.2)]
    have HWN := Aside0.mk (fun W => rwhen_calls true 3 W)
    have hc : 0 ≤ cmpI (intI s) (2 ^ n) := by unfold cmpI; rw [if_neg hlt]; split <;> omega
    have hc2 : decide (0 ≤ cmpI (intI s) (2 ^ n)) = true := decide_eq_true hc
    clear h0 hdp hbb hd hm h45 hnn hlt
    unfold RX NX rV at *
    generalize cmpI (intI s) (2 ^ n) = z at *
    generalize decide (intI s < 0) = gx at *
    go_enter Tryz.func113, Tryz.ntmps113
    go_wp2_with (first | (go_at_call 13; (with_reducible refine (HCa.out _).mono ?_); rintro e wx ⟨rfl, hbx⟩; have HB2 := Aside0.mk (HB.out.trans (hbx.mono HB.out.size)); clear HB; have HB := HB2; clear HB2; clear hbx) | (go_at_call 67; (with_reducible refine (HWN.out _).mono ?_); rintro e wy ⟨rfl, hwy⟩; rw [hwy]; clear hwy wy) | (go_at_call 72; (with_reducible refine (HRa.out _).mono ?_); rintro e wx ⟨A1, k1, c1, rfl, hk1, hm1, hbx⟩; have HM1 := Aside0.mk (And.intro hk1 hm1); have HB2 := Aside0.mk (HB.out.trans (hbx.mono HB.out.size)); clear HB; have HB := HB2; clear HB2; clear hbx hk1 hm1) | (go_at_call 111; (with_reducible refine (HPW.out _).mono ?_); rintro e wx ⟨A2, k2, c2, rfl, hk2, hm2, hbx⟩; have HM2 := Aside0.mk (And.intro (HM1.out.2.below hbx) (And.intro hm2 hk2)); have HB2 := Aside0.mk (HB.out.trans (hbx.mono HB.out.size)); clear HB; have HB := HB2; clear HB2; clear hbx hk2 hm2) | (go_at_call 73; (with_reducible refine (HOR.out _ _ _ _ _ _ _ HM2.out.1 HM2.out.2.1 HM2.out.2.2).mono ?_); rintro e wx ⟨rfl, hbx⟩; have HB2 := Aside0.mk (HB.out.trans (hbx.mono HB.out.size)); clear HB; have HB := HB2; clear HB2; clear hbx))
    go_ret
    exact ⟨by simp, HB.out⟩
  ·have h45 : d = 45 := hd.symm.trans ((body_extract hm).2.2 h0b)
   have g45 : ((d : Int) == 45) = true := by rw [beq_iff_eq]; omega
   rw [if_neg (fun h => by have := minus_neg h0 hm; omega)]
   have HWN := Aside0.mk (fun W => rwhen_calls true 3 W)
   clear h0 hdp hbb hd hm h45 HRa HPW HOR
   go_enter Tryz.func113, Tryz.ntmps113
   go_wp2_with (first | (go_at_call 13; (with_reducible refine (HCa.out _).mono ?_); rintro e wx ⟨rfl, hbx⟩; have HB2 := Aside0.mk (HB.out.trans (hbx.mono HB.out.size)); clear HB; have HB := HB2; clear HB2; clear hbx) | (go_at_call 67; (with_reducible refine (HWN.out _).mono ?_); rintro e wy ⟨rfl, hwy⟩; rw [hwy]; clear hwy wy) | (go_at_call 72; (with_reducible refine (HRa.out _).mono ?_); rintro e wx ⟨A1, k1, c1, rfl, hk1, hm1, hbx⟩; have HM1 := Aside0.mk (And.intro hk1 hm1); have HB2 := Aside0.mk (HB.out.trans (hbx.mono HB.out.size)); clear HB; have HB := HB2; clear HB2; clear hbx hk1 hm1) | (go_at_call 111; (with_reducible refine (HPW.out _).mono ?_); rintro e wx ⟨A2, k2, c2, rfl, hk2, hm2, hbx⟩; have HM2 := Aside0.mk (And.intro (HM1.out.2.below hbx) (And.intro hm2 hk2)); have HB2 := Aside0.mk (HB.out.trans (hbx.mono HB.out.size)); clear HB; have HB := HB2; clear HB2; clear hbx hk2 hm2) | (go_at_call 73; (with_reducible refine (HOR.out _ _ _ _ _ _ _ HM2.out.1 HM2.out.2.1 HM2.out.2.2).mono ?_); rintro e wx ⟨rfl, hbx⟩; have HB2 := Aside0.mk (HB.out.trans (hbx.mono HB.out.size)); clear HB; have HB := HB2; clear HB2; clear hbx))
   go_ret
   exact ⟨by simp, HB.out⟩
 ·rw [if_neg h0]
  have hbe : (checkI s != 0) = true := by simp [h0]
  generalize checkI s = E at *
  have HWN := Aside0.mk (fun W => rwhen_calls true 3 W)
  go_enter Tryz.func113, Tryz.ntmps113
  go_wp2_with (first | (go_at_call 13; (with_reducible refine (HCa.out _).mono ?_); rintro e wx ⟨rfl, hbx⟩; have HB2 := Aside0.mk (HB.out.trans (hbx.mono HB.out.size)); clear HB; have HB := HB2; clear HB2; clear hbx))
  go_ret
  exact ⟨rfl, HB.out⟩
theorem rshift_calls {w : World} {A : Option Addr} {L c y n : Nat} (h : RM w A L y) (hc : L ≤ c) (hy : y < QQ ^ 250) (hn : n ≤ 64) :
 Calls Tryz.prog 114 #[.agg #[.bool false, .slice A L c], .int .i64 (n : Int)] w fun e w' => e = .returned (.int .i64 ((if n ≤ y then n else y : Nat) : Int)) ∧ Below w.heap.size w w' := by
 have H1 : Aside0 (∀ W, Below w.heap.size w W → RM W A L y) := ⟨fun W hb => h.below hb⟩
 have HS := rsmall_n n (by omega) (n : Int) rfl
 have HOR : Aside0 (∀ W A2 k2 c2, RM W A L y → RM W A2 k2 n → k2 ≤ c2 → Calls Tryz.prog 73 #[.agg #[.bool false, .slice A L c], .agg #[.bool false, .slice A2 k2 c2]] W fun e w' => e = .returned (.int .i64 (cmpI y n)) ∧ Below W.heap.size W w') := ⟨fun W A2 k2 c2 m1 m2 hk => by
  have h := rOrder_calls (w := W) (A1 := A) (A2 := A2) (L1 := L) (L2 := k2) (c1 := c) (c2 := c2) (x := (y : Int)) (y := (n : Int)) m1 m2 hk (Nat.le_trans (m1.bound hy) (by omega)) (Nat.le_trans (m2.bound (k := 1) (Nat.lt_of_le_of_lt hn (by decide))) (by omega))
  unfold rV at h
  rwa [decide_eq_false (show ¬ (y : Int) < 0 by omega), decide_eq_false (show ¬ (n : Int) < 0 by omega)] at h⟩
 clear h
 by_cases hle : n ≤ y
 ·rw [if_pos hle]
  have hz : 0 ≤ cmpI y n := by unfold cmpI; rw [if_neg (by omega)]; split <;> omega
  have hz2 : decide (0 ≤ cmpI y n) = true := decide_eq_true hz
  generalize cmpI y n = z at *
  go_enter Tryz.func114, Tryz.ntmps114
  go_wp2_with fail
  obtain ⟨wr, hwr⟩ : ∃ wr, w.alloc (.cells #[.bool false, .slice A L c] 77) = wr := ⟨_, rfl⟩
  have HF : BG wr w.heap.size false A L c := by subst hwr; exact BG.new _ _ _ _ _
  have HX := Aside0.mk (And.intro HF.cell0 HF.cell1)
  have HO := Aside0.mk HF
  have HA : Aside0 (Below w.heap.size w wr ∧ w.heap.size + 1 ≤ wr.heap.size) := ⟨by subst hwr; exact below_alloc (Below.refl _ _) _, by subst hwr; simp⟩
  rw [hwr]
  clear hwr HF
  rename_i Q' K hK
  have KP : Aside0 (∀ V, Below (w.heap.size + 1) wr V → (fun V => V.cell? ⟨w.heap.size, 0, none⟩ = some (.bool false) ∧ V.cell? ⟨w.heap.size, 1, none⟩ = some (.slice A L c) ∧ Below (w.heap.size + 1) wr V) V) := ⟨fun V hBB => ⟨keepB hBB (by omega) HX.out.1, keepB hBB (by omega) HX.out.2, hBB⟩⟩
  refine wq KP fun hHeld => ?_
  refine tp 0 ?_
  try simp only [PU]
  refine tp 1 ?_
  try simp only [PU]
  refine tc 2 fun K hK => ?_
  go_simp
  (go_at_call 70; (with_reducible refine (HS.out _).mono ?_); rintro e wm ⟨A5, k5, c5, rfl, hk5, hm5, hbq⟩; have HO := Aside0.mk ((HO.out.below (below_drew1 (Below.refl _ _))).below hbq); have HM5 := Aside0.mk (And.intro hk5 hm5); clear hk5 hm5)
  refine hK.out _ _ ?_ fun hHeld => ?_
  ·(first | exact KP.out _ (bKeep hbq hHeld.2.2 (by have := HA.out.2; omega)) | (refine KP.out _ ?_; repeat (first | exact hHeld.2.2 | refine Below.setCell ?_ (by first | (simp; done) | (simp; omega)) _)))
  clear hK K; try simp only [PU]
  refine tc 3 fun K hK => ?_
  go_simp
  (go_at_call 73; (with_reducible refine (HOR.out _ _ _ _ (H1.out _ (HA.out.1.trans (hHeld.2.2.mono (by omega)))) HM5.out.2 HM5.out.1).mono ?_); rintro e wm ⟨rfl, hbq⟩; have HO := Aside0.mk (HO.out.below hbq))
  refine hK.out _ _ ?_ fun hHeld => ?_
  ·(first | exact KP.out _ (bKeep hbq hHeld.2.2 (by have := HA.out.2; omega)) | (refine KP.out _ ?_; repeat (first | exact hHeld.2.2 | refine Below.setCell ?_ (by first | (simp; done) | (simp; omega)) _)))
  clear hK K; try simp only [PU]
  refine tp 4 ?_
  try simp only [PU]
  refine wpAnyH_done (by kernel_rfl) ?_ _
  refine hK _ _ ?_
  have HRM := Aside0.mk (H1.out _ (HA.out.1.trans (hHeld.2.2.mono (by omega))))
  have HBE := Aside0.mk (HA.out.1.trans (hHeld.2.2.mono (by omega)))
  have x0 := HO.out.cell0
  have x1 := HO.out.cell1
  clear HX HA hK hHeld
  go_wp2_with fail
  go_ret
  exact ⟨rfl, HBE.out⟩
 ·rw [if_neg hle]
  have hz : cmpI y n = -1 := if_pos (by omega)
  rw [hz] at HOR
  have hyl : y / QQ ^ 0 % QQ = y := by rw [Nat.pow_zero, Nat.div_one]; exact Nat.mod_eq_of_lt (Nat.lt_of_lt_of_le (show y < 64 by omega) (by decide))
  have HLI : Aside0 (∀ W, RM W A L y → Calls Tryz.prog 150 #[.slice A L c, .int .i64 0] W fun e w' => e = .returned (.int .i64 (y : Int)) ∧ w' = W) := ⟨fun W m => by
   have h := rlimb_calls (c := c) m 0
   rw [hyl] at h
   exact h⟩
  clear hyl hz
  go_enter Tryz.func114, Tryz.ntmps114
  go_wp2_with fail
  obtain ⟨wr, hwr⟩ : ∃ wr, w.alloc (.cells #[.bool false, .slice A L c] 77) = wr := ⟨_, rfl⟩
  have HF : BG wr w.heap.size false A L c := by subst hwr; exact BG.new _ _ _ _ _
  have HX := Aside0.mk (And.intro HF.cell0 HF.cell1)
  have HO := Aside0.mk HF
  have HA : Aside0 (Below w.heap.size w wr ∧ w.heap.size + 1 ≤ wr.heap.size) := ⟨by subst hwr; exact below_alloc (Below.refl _ _) _, by subst hwr; simp⟩
  rw [hwr]
  clear hwr HF
  rename_i Q' K hK
  have KP : Aside0 (∀ V, Below (w.heap.size + 1) wr V → (fun V => V.cell? ⟨w.heap.size, 0, none⟩ = some (.bool false) ∧ V.cell? ⟨w.heap.size, 1, none⟩ = some (.slice A L c) ∧ Below (w.heap.size + 1) wr V) V) := ⟨fun V hBB => ⟨keepB hBB (by omega) HX.out.1, keepB hBB (by omega) HX.out.2, hBB⟩⟩
  refine wq KP fun hHeld => ?_
  refine tp 0 ?_
  try simp only [PU]
  refine tp 1 ?_
  try simp only [PU]
  refine tc 2 fun K hK => ?_
  go_simp
  (go_at_call 70; (with_reducible refine (HS.out _).mono ?_); rintro e wm ⟨A5, k5, c5, rfl, hk5, hm5, hbq⟩; have HO := Aside0.mk ((HO.out.below (below_drew1 (Below.refl _ _))).below hbq); have HM5 := Aside0.mk (And.intro hk5 hm5); clear hk5 hm5)
  refine hK.out _ _ ?_ fun hHeld => ?_
  ·(first | exact KP.out _ (bKeep hbq hHeld.2.2 (by have := HA.out.2; omega)) | (refine KP.out _ ?_; repeat (first | exact hHeld.2.2 | refine Below.setCell ?_ (by first | (simp; done) | (simp; omega)) _)))
  clear hK K; try simp only [PU]
  refine tc 3 fun K hK => ?_
  go_simp
  (go_at_call 73; (with_reducible refine (HOR.out _ _ _ _ (H1.out _ (HA.out.1.trans (hHeld.2.2.mono (by omega)))) HM5.out.2 HM5.out.1).mono ?_); rintro e wm ⟨rfl, hbq⟩; have HO := Aside0.mk (HO.out.below hbq))
  refine hK.out _ _ ?_ fun hHeld => ?_
  ·(first | exact KP.out _ (bKeep hbq hHeld.2.2 (by have := HA.out.2; omega)) | (refine KP.out _ ?_; repeat (first | exact hHeld.2.2 | refine Below.setCell ?_ (by first | (simp; done) | (simp; omega)) _)))
  clear hK K; try simp only [PU]
  refine tp 4 ?_
  try simp only [PU]
  refine wpAnyH_done (by kernel_rfl) ?_ _
  refine hK _ _ ?_
  have HRM := Aside0.mk (H1.out _ (HA.out.1.trans (hHeld.2.2.mono (by omega))))
  have HBE := Aside0.mk (HA.out.1.trans (hHeld.2.2.mono (by omega)))
  have x0 := HO.out.cell0
  have x1 := HO.out.cell1
  clear HX HA hK hHeld
  go_wp2_with (first | (go_at_call 150; (with_reducible refine (HLI.out _ HRM.out).mono ?_); rintro e wz ⟨rfl, rfl⟩))
  go_ret
  exact ⟨rfl, HBE.out⟩
theorem bit_and (x y : Nat) : (x &&& y) = (x % 2) * (y % 2) + 2 * ((x / 2) &&& (y / 2)) := by
 have h1 : (x &&& y) / 2 = (x / 2) &&& (y / 2) := Nat.and_div_two
 have h2 : (x &&& y) % 2 = (x % 2) * (y % 2) := by
  rw [Nat.and_mod_two_pow (n := 1)]
  rcases Nat.mod_two_eq_zero_or_one x with h | h <;> rcases Nat.mod_two_eq_zero_or_one y with g | g <;> simp [h, g]
 omega
theorem bit_or (x y : Nat) : (x ||| y) = (if 0 < x % 2 + y % 2 then 1 else 0) + 2 * ((x / 2) ||| (y / 2)) := by
 have h1 : (x ||| y) / 2 = (x / 2) ||| (y / 2) := Nat.or_div_two
 have h2 : (x ||| y) % 2 = (if 0 < x % 2 + y % 2 then 1 else 0) := by
  rw [Nat.or_mod_two_pow (n := 1)]
  rcases Nat.mod_two_eq_zero_or_one x with h | h <;> rcases Nat.mod_two_eq_zero_or_one y with g | g <;> simp [h, g]
 omega
theorem bit_xor (x y : Nat) : (x ^^^ y) = (if x % 2 ≠ y % 2 then 1 else 0) + 2 * ((x / 2) ^^^ (y / 2)) := by
 have h1 : (x ^^^ y) / 2 = (x / 2) ^^^ (y / 2) := Nat.xor_div_two
 have h2 : (x ^^^ y) % 2 = (if x % 2 ≠ y % 2 then 1 else 0) := by
  rw [Nat.xor_mod_two_pow (n := 1)]
  rcases Nat.mod_two_eq_zero_or_one x with h | h <;> rcases Nat.mod_two_eq_zero_or_one y with g | g <;> simp [h, g]
 omega
/-- Does the operation set the lowest bit? -/
def bitB (op a b : Nat) : Bool := decide (op = 5 ∧ a + b = 2 ∨ op = 6 ∧ 0 < a + b ∨ op = 7 ∧ a ≠ b)
theorem bitF_step {op : Nat} (h : op = 5 ∨ op = 6 ∨ op = 7) (x y : Nat) : bitF op x y = (if bitB op (x % 2) (y % 2) = true then 1 else 0) + 2 * bitF op (x / 2) (y / 2) := by
 have hx := Nat.mod_two_eq_zero_or_one x
 have hy := Nat.mod_two_eq_zero_or_one y
 rcases h with rfl | rfl | rfl
 ·show (x &&& y) = _ + 2 * ((x / 2) &&& (y / 2))
  rw [bit_and x y]
  congr 1
  rcases hx with h | h <;> rcases hy with g | g <;> rw [h, g] <;> rfl
 ·show (x ||| y) = _ + 2 * ((x / 2) ||| (y / 2))
  rw [bit_or x y]
  congr 1
  rcases hx with h | h <;> rcases hy with g | g <;> rw [h, g] <;> rfl
 ·show (x ^^^ y) = _ + 2 * ((x / 2) ^^^ (y / 2))
  rw [bit_xor x y]
  congr 1
  rcases hx with h | h <;> rcases hy with g | g <;> rw [h, g] <;> rfl
theorem bitF_zero {op : Nat} (h : op = 5 ∨ op = 6 ∨ op = 7) : bitF op 0 0 = 0 := by
 rcases h with rfl | rfl | rfl <;> rfl
/-- One round: what is out, what is still to come. -/
theorem bit_round {op o p x y T : Nat} (h : op = 5 ∨ op = 6 ∨ op = 7) (hT : o + p * bitF op x y = T) : (if bitB op (x % 2) (y % 2) = true then o + p else o) + (p + p) * bitF op (x / 2) (y / 2) = T := by
 rw [bitF_step h] at hT
 rw [← hT]
 split
 ·rw [Nat.mul_add, Nat.mul_one, ← Nat.mul_assoc, Nat.mul_two]; omega
 ·rw [Nat.zero_add, ← Nat.mul_assoc, Nat.mul_two]
/-- The two numbers, the result, what is out and the place. -/
structure BW (w : World) (r : Nat) (A1 : Option Addr) (L1 c1 n1 : Nat) (A2 : Option Addr) (L2 c2 n2 : Nat) (A3 : Option Addr) (L3 c3 n3 : Nat) (A4 : Option Addr) (L4 c4 n4 : Nat) (W : World) : Prop where
 b0 : BG W w.heap.size false A1 L1 c1
 b1 : BG W (w.heap.size + 1) false A2 L2 c2
 b2 : BG W (w.heap.size + 1 + 1) false none 0 0
 b3 : BG W r false A3 L3 c3
 b4 : BG W (r + 1) false A4 L4 c4
 k1 : L1 ≤ c1
 k2 : L2 ≤ c2
 k3 : L3 ≤ c3
 k4 : L4 ≤ c4
 m1 : RM W A1 L1 n1
 m2 : RM W A2 L2 n2
 m3 : RM W A3 L3 n3
 m4 : RM W A4 L4 n4
 bl : Below w.heap.size w W
 ne : w.heap.size + 1 + 1 < r
section
variable {w W X : World} {r : Nat} {A1 : Option Addr} {L1 c1 n1 : Nat} {A2 : Option Addr} {L2 c2 n2 : Nat} {A3 : Option Addr} {L3 c3 n3 : Nat} {A4 : Option Addr} {L4 c4 n4 : Nat} {A : Option Addr} {k c z : Nat}
theorem BW.below (h : BW w r A1 L1 c1 n1 A2 L2 c2 n2 A3 L3 c3 n3 A4 L4 c4 n4 W) (hb : Below W.heap.size W X) : BW w r A1 L1 c1 n1 A2 L2 c2 n2 A3 L3 c3 n3 A4 L4 c4 n4 X :=
 ⟨h.b0.below hb, h.b1.below hb, h.b2.below hb, h.b3.below hb, h.b4.below hb, h.k1, h.k2, h.k3, h.k4, h.m1.below hb, h.m2.below hb, h.m3.below hb, h.m4.below hb, h.bl.trans (hb.mono h.bl.size), h.ne⟩
theorem BW.set1 (h : BW w r A1 L1 c1 n1 A2 L2 c2 n2 A3 L3 c3 n3 A4 L4 c4 n4 W) (hk : k ≤ c) (hm : RM W A k z) : BW w r A k c z A2 L2 c2 n2 A3 L3 c3 n3 A4 L4 c4 n4 ((W.setCell ⟨w.heap.size, 0, none⟩ (.bool false)).setCell ⟨w.heap.size, 1, none⟩ (.slice A k c)) := by
 have p1 := h.b0.put0 false
 have hne := h.ne
 exact ⟨p1.put1 A k c, (h.b1.other (by omega) 0 _).other (by omega) 1 _, (h.b2.other (by omega) 0 _).other (by omega) 1 _, (h.b3.other (by omega) 0 _).other (by omega) 1 _, (h.b4.other (by omega) 0 _).other (by omega) 1 _, hk, h.k2, h.k3, h.k4, (hm.bg h.b0 0 _).bg p1 1 _, (h.m2.bg h.b0 0 _).bg p1 1 _, (h.m3.bg h.b0 0 _).bg p1 1 _, (h.m4.bg h.b0 0 _).bg p1 1 _, (h.bl.setCell (p := ⟨w.heap.size, 0, none⟩) (show w.heap.size ≤ w.heap.size by omega) _).setCell (p := ⟨w.heap.size, 1, none⟩) (show w.heap.size ≤ w.heap.size by omega) _, h.ne⟩
theorem BW.set2 (h : BW w r A1 L1 c1 n1 A2 L2 c2 n2 A3 L3 c3 n3 A4 L4 c4 n4 W) (hk : k ≤ c) (hm : RM W A k z) : BW w r A1 L1 c1 n1 A k c z A3 L3 c3 n3 A4 L4 c4 n4 ((W.setCell ⟨w.heap.size + 1, 0, none⟩ (.bool false)).setCell ⟨w.heap.size + 1, 1, none⟩ (.slice A k c)) := by
 have p1 := h.b1.put0 false
 have hne := h.ne
 exact ⟨(h.b0.other (by omega) 0 _).other (by omega) 1 _, p1.put1 A k c, (h.b2.other (by omega) 0 _).other (by omega) 1 _, (h.b3.other (by omega) 0 _).other (by omega) 1 _, (h.b4.other (by omega) 0 _).other (by omega) 1 _, h.k1, hk, h.k3, h.k4, (h.m1.bg h.b1 0 _).bg p1 1 _, (hm.bg h.b1 0 _).bg p1 1 _, (h.m3.bg h.b1 0 _).bg p1 1 _, (h.m4.bg h.b1 0 _).bg p1 1 _, (h.bl.setCell (p := ⟨w.heap.size + 1, 0, none⟩) (show w.heap.size ≤ w.heap.size + 1 by omega) _).setCell (p := ⟨w.heap.size + 1, 1, none⟩) (show w.heap.size ≤ w.heap.size + 1 by omega) _, h.ne⟩
theorem BW.set3 (h : BW w r A1 L1 c1 n1 A2 L2 c2 n2 A3 L3 c3 n3 A4 L4 c4 n4 W) (hk : k ≤ c) (hm : RM W A k z) : BW w r A1 L1 c1 n1 A2 L2 c2 n2 A k c z A4 L4 c4 n4 ((W.setCell ⟨r, 0, none⟩ (.bool false)).setCell ⟨r, 1, none⟩ (.slice A k c)) := by
 have p1 := h.b3.put0 false
 have hne := h.ne
 exact ⟨(h.b0.other (by omega) 0 _).other (by omega) 1 _, (h.b1.other (by omega) 0 _).other (by omega) 1 _, (h.b2.other (by omega) 0 _).other (by omega) 1 _, p1.put1 A k c, (h.b4.other (by omega) 0 _).other (by omega) 1 _, h.k1, h.k2, hk, h.k4, (h.m1.bg h.b3 0 _).bg p1 1 _, (h.m2.bg h.b3 0 _).bg p1 1 _, (hm.bg h.b3 0 _).bg p1 1 _, (h.m4.bg h.b3 0 _).bg p1 1 _, (h.bl.setCell (p := ⟨r, 0, none⟩) (show w.heap.size ≤ r by omega) _).setCell (p := ⟨r, 1, none⟩) (show w.heap.size ≤ r by omega) _, h.ne⟩
theorem BW.set4 (h : BW w r A1 L1 c1 n1 A2 L2 c2 n2 A3 L3 c3 n3 A4 L4 c4 n4 W) (hk : k ≤ c) (hm : RM W A k z) : BW w r A1 L1 c1 n1 A2 L2 c2 n2 A3 L3 c3 n3 A k c z ((W.setCell ⟨r + 1, 0, none⟩ (.bool false)).setCell ⟨r + 1, 1, none⟩ (.slice A k c)) := by
 have p1 := h.b4.put0 false
 have hne := h.ne
 exact ⟨(h.b0.other (by omega) 0 _).other (by omega) 1 _, (h.b1.other (by omega) 0 _).other (by omega) 1 _, (h.b2.other (by omega) 0 _).other (by omega) 1 _, (h.b3.other (by omega) 0 _).other (by omega) 1 _, p1.put1 A k c, h.k1, h.k2, h.k3, hk, (h.m1.bg h.b4 0 _).bg p1 1 _, (h.m2.bg h.b4 0 _).bg p1 1 _, (h.m3.bg h.b4 0 _).bg p1 1 _, (hm.bg h.b4 0 _).bg p1 1 _, (h.bl.setCell (p := ⟨r + 1, 0, none⟩) (show w.heap.size ≤ r + 1 by omega) _).setCell (p := ⟨r + 1, 1, none⟩) (show w.heap.size ≤ r + 1 by omega) _, h.ne⟩
end
/-- Over at a number and 2. -/
theorem rover_half {x : Nat} (hx : x < QQ ^ 250) : Aside0 (∀ W A1 k1 c1 A2 k2 c2, RM W A1 k1 x → RM W A2 k2 2 → Calls Tryz.prog 92 #[.agg #[.bool false, .slice A1 k1 c1], .agg #[.bool false, .slice A2 k2 c2]] W fun e w' => ∃ A k c A' k' c', e = .returned (.tuple #[.agg #[.bool false, .slice A k c], .agg #[.bool false, .slice A' k' c']]) ∧ k ≤ c ∧ RM w' A k (x / 2) ∧ Below W.heap.size W w') :=
 ⟨fun W A1 k1 c1 A2 k2 c2 m1 m2 => (rOver_plain m1 m2 (by decide) (Nat.le_trans (m1.bound hx) (by omega)) (Nat.le_trans (m2.bound (k := 1) (by decide)) (by omega)) (.inl rfl)).mono fun e w' ⟨A, k, c, A', k', c', h1, h2, h3, h4, h5, h6⟩ => ⟨A, k, c, A', k', c', h1, h2, h4, h6⟩⟩
theorem half_facts {u v p : Nat} (hz : ¬ (u = 0 ∧ v = 0)) (h : u * p < 2 ^ 64 ∧ v * p < 2 ^ 64 ∧ u < 2 ^ 64 ∧ v < 2 ^ 64) : u / 2 + v / 2 < u + v ∧ u / 2 * (p + p) < 2 ^ 64 ∧ v / 2 * (p + p) < 2 ^ 64 ∧ u / 2 < 2 ^ 64 ∧ v / 2 < 2 ^ 64 := by
 have hm : ∀ z : Nat, z / 2 * (p + p) ≤ z * p := fun z => by
  rw [← Nat.two_mul, ← Nat.mul_assoc]
  exact Nat.mul_le_mul_right p (Nat.div_mul_le_self z 2)
 exact ⟨by omega, Nat.lt_of_le_of_lt (hm u) h.1, Nat.lt_of_le_of_lt (hm v) h.2.1, by omega, by omega⟩
theorem pl_small {u v p : Nat} (hz : ¬ (u = 0 ∧ v = 0)) (h1 : u * p < 2 ^ 64) (h2 : v * p < 2 ^ 64) : p < QQ ^ 250 := by
 have hp : p < 2 ^ 64 := by
  by_cases hu : u = 0
  ·have hv : 1 ≤ v := by omega
   exact Nat.lt_of_le_of_lt (by simpa using Nat.mul_le_mul_right p hv) h2
  ·have hu : 1 ≤ u := by omega
   exact Nat.lt_of_le_of_lt (by simpa using Nat.mul_le_mul_right p hu) h1
 exact Nat.lt_trans hp (two_small (i := 64) (by omega))
theorem rbitwise_calls {w : World} {A1 A2 : Option Addr} {L1 c1 L2 c2 x y op : Nat} (h1 : RM w A1 L1 x) (h2 : RM w A2 L2 y) (hk1 : L1 ≤ c1) (hk2 : L2 ≤ c2) (hx : x < 2 ^ 64) (hy : y < 2 ^ 64) (hop : op = 5 ∨ op = 6 ∨ op = 7) :
 Calls Tryz.prog 115 #[.int .i64 (op : Int), .agg #[.bool false, .slice A1 L1 c1], .agg #[.bool false, .slice A2 L2 c2]] w fun e w' => NX w (bitF op x y) e w' := by
 obtain ⟨T, hT⟩ : ∃ T, bitF op x y = T := ⟨_, rfl⟩
 have HT : Aside0 (T < 2 ^ 64 ∧ (op = 5 ∨ op = 6 ∨ op = 7)) := ⟨by
  subst hT
  rcases hop with rfl | rfl | rfl
  ·exact Nat.and_lt_two_pow x hy
  ·exact Nat.or_lt_two_pow hx hy
  ·exact Nat.xor_lt_two_pow hx hy, hop⟩
 rw [hT]
 have HS0 := rsmall_n 0 (by decide) 0 rfl
 have HS1 := rsmall_n 1 (by decide) 1 rfl
 have HS2 := rsmall_n 2 (by decide) 2 rfl
 have HB : Aside0 (Below w.heap.size w (((w.alloc (.cells #[.bool false, .slice A1 L1 c1] 77)).alloc (.cells #[.bool false, .slice A2 L2 c2] 77)).alloc (.cells #[.bool false, .slice none 0 0] 77))) := ⟨by repeat (first | exact Below.refl _ _ | apply below_alloc)⟩
 have q := QR.new w false A1 L1 c1 false A2 L2 c2
 have HQ : Aside0 (BG (((w.alloc (.cells #[.bool false, .slice A1 L1 c1] 77)).alloc (.cells #[.bool false, .slice A2 L2 c2] 77)).alloc (.cells #[.bool false, .slice none 0 0] 77)) w.heap.size false A1 L1 c1 ∧ BG (((w.alloc (.cells #[.bool false, .slice A1 L1 c1] 77)).alloc (.cells #[.bool false, .slice A2 L2 c2] 77)).alloc (.cells #[.bool false, .slice none 0 0] 77)) (w.heap.size + 1) false A2 L2 c2 ∧ BG (((w.alloc (.cells #[.bool false, .slice A1 L1 c1] 77)).alloc (.cells #[.bool false, .slice A2 L2 c2] 77)).alloc (.cells #[.bool false, .slice none 0 0] 77)) (w.heap.size + 1 + 1) false none 0 0) :=
  ⟨q.1.alloc _, q.2.alloc _, by have h := BG.new ((w.alloc (.cells #[.bool false, .slice A1 L1 c1] 77)).alloc (.cells #[.bool false, .slice A2 L2 c2] 77)) false none 0 0; simpa using h⟩
 have H1 := h1.at_below
 have H2 := h2.at_below
 clear h1 h2 q
 go_enter Tryz.func115, Tryz.ntmps115
 go_wp2_with (first | (go_at_call 70; (with_reducible refine (HS0.out _).mono ?_); rintro e W1 ⟨A3, k3, c3, rfl, hk3, hm3, hbx⟩; have HM3 := Aside0.mk (And.intro hk3 hm3); have HQ := Aside0.mk (And.intro (HQ.out.1.below hbx) (And.intro (HQ.out.2.1.below hbx) (HQ.out.2.2.below hbx))); have HB := Aside0.mk (HB.out.trans (hbx.mono HB.out.size)); clear hbx hk3 hm3) | (go_at_call 70; (with_reducible refine (HS1.out _).mono ?_); rintro e W2 ⟨A4, k4, c4, rfl, hk4, hm4, hbx⟩; have HM4 := Aside0.mk (And.intro hk4 hm4); have HM3 := Aside0.mk (And.intro HM3.out.1 (HM3.out.2.below hbx)); have HQ := Aside0.mk (And.intro (HQ.out.1.below hbx) (And.intro (HQ.out.2.1.below hbx) (HQ.out.2.2.below hbx))); have HB := Aside0.mk (HB.out.trans (hbx.mono HB.out.size)); clear hbx hk4 hm4))
 obtain ⟨Y, hY⟩ : ∃ Y, (W2.alloc (.cells #[.bool false, .slice A3 k3 c3] 77)).alloc (.cells #[.bool false, .slice A4 k4 c4] 77) = Y := ⟨_, rfl⟩
 have HW : Aside0 (BW w W2.heap.size A1 L1 c1 x A2 L2 c2 y A3 k3 c3 0 A4 k4 c4 1 Y) := ⟨by
  subst hY
  have hb : Below W2.heap.size W2 ((W2.alloc (.cells #[.bool false, .slice A3 k3 c3] 77)).alloc (.cells #[.bool false, .slice A4 k4 c4] 77)) := by repeat (first | exact Below.refl _ _ | apply below_alloc)
  have q := QR.new W2 false A3 k3 c3 false A4 k4 c4
  have hl := HB.out.trans (hb.mono HB.out.size)
  exact ⟨HQ.out.1.below hb, HQ.out.2.1.below hb, HQ.out.2.2.below hb, q.1, q.2, hk1, hk2, HM3.out.1, HM4.out.1, H1.out _ hl, H2.out _ hl, HM3.out.2.below hb, HM4.out.2.below hb, hl, HQ.out.2.2.lt⟩⟩
 rw [hY]
 clear hY HM3 HM4 HB HQ HS0 HS1 H1 H2
 generalize W2.heap.size = r at *
 go_loopg [] (x + y) (fun K W => ∃ (u v o p : Nat) (A1 : Option Addr) (L1 c1 : Nat) (A2 : Option Addr) (L2 c2 : Nat) (A3 : Option Addr) (L3 c3 : Nat) (A4 : Option Addr) (L4 c4 : Nat), K = u + v ∧ Aside0 (BW w r A1 L1 c1 u A2 L2 c2 v A3 L3 c3 o A4 L4 c4 p W ∧ o + p * bitF op u v = T ∧ u * p < 2 ^ 64 ∧ v * p < 2 ^ 64 ∧ u < 2 ^ 64 ∧ v < 2 ^ 64))
 case atStart => exact ⟨x, y, 0, 1, A1, L1, c1, A2, L2, c2, A3, k3, c3, A4, k4, c4, rfl, ⟨HW.out, by rw [hT]; omega, by omega, by omega, hx, hy⟩⟩
 case round =>
  clear HW
  obtain ⟨u, v, o, p, A1, L1, c1, A2, L2, c2, A3, L3, c3, A4, L4, c4, rfl, HI⟩ := hrel
  have HW := Aside0.mk HI.out.1
  have HV := Aside0.mk HI.out.2
  clear HI
  have x0 := HW.out.b0.cell0; have x1 := HW.out.b0.cell1; have x2 := HW.out.b1.cell0; have x3 := HW.out.b1.cell1; have x4 := HW.out.b3.cell0; have x5 := HW.out.b3.cell1; have x6 := HW.out.b4.cell0; have x7 := HW.out.b4.cell1; have y0 := HW.out.b0.fr 0; have y1 := HW.out.b0.fr 1; have y2 := HW.out.b1.fr 0; have y3 := HW.out.b1.fr 1; have y4 := HW.out.b3.fr 0; have y5 := HW.out.b3.fr 1; have y6 := HW.out.b4.fr 0; have y7 := HW.out.b4.fr 1
  by_cases hz : u = 0 ∧ v = 0
  ·have l1 : L1 = 0 := HW.out.m1.len_zero.2 hz.1
   have l2 : L2 = 0 := HW.out.m2.len_zero.2 hz.2
   have HO : Aside0 (o = T) := ⟨by have h := HV.out.1; rw [hz.1, hz.2, bitF_zero HT.out.2] at h; simpa using h⟩
   have q0 := HW.out.b2.cell0
   have q1 := HW.out.b2.cell1
   have q2 := HW.out.b2.fr 0
   have q3 := HW.out.b2.fr 1
   have f1 : ¬ (0 : Int) < (L1 : Int) := by omega
   have f2 : ¬ (0 : Int) < (L2 : Int) := by omega
   clear hz l1 l2
   go_wp2_with fail
   refine bodyPost_ret (v := .agg #[.bool false, .slice A3 L3 c3]) (by simp [results, Tryz.results115, go_sem, q0, q1]) rfl ⟨A3, L3, c3, rfl, HW.out.k3, ?_, (HW.out.bl.setCell (p := ⟨w.heap.size + 1 + 1, 0, none⟩) (show w.heap.size ≤ w.heap.size + 1 + 1 by omega) _).setCell (p := ⟨w.heap.size + 1 + 1, 1, none⟩) (show w.heap.size ≤ w.heap.size + 1 + 1 by omega) _⟩
   rw [← HO.out]
   exact (HW.out.m3.bg HW.out.b2 0 _).bg (HW.out.b2.put0 _) 1 _
  ·have hor : 0 < L1 ∨ (L1 = 0 ∧ 0 < L2) := by
    have e1 := HW.out.m1.len_zero
    have e2 := HW.out.m2.len_zero
    omega
   have b1 : u % 2 < 2 := Nat.mod_lt _ (by decide)
   have b2 : v % 2 < 2 := Nat.mod_lt _ (by decide)
   go_upto_region 2 with fail
   go_cut [22] (fun v W => v = .bool true ∧ W = wr)
   case first =>
    rcases hor with h | ⟨h, h'⟩
    ·have f1 : (0 : Int) < (L1 : Int) := by omega
     go_wp2_with fail
     go_meet
     case rel => exact ⟨rfl, rfl⟩
    ·have f1 : ¬ (0 : Int) < (L1 : Int) := by omega
     have f2 : (0 : Int) < (L2 : Int) := by omega
     go_wp2_with fail
     go_meet
     case rel => exact ⟨rfl, rfl⟩
   case rest =>
    obtain ⟨rfl, hwc⟩ := hcut
    rw [hwc]
    clear hwc wc hor
    go_upto_region 3 with fail
    go_cut [9, 10] (fun v9 v10 W => v9 = .int .i64 ((u % 2 : Nat) : Int) ∧ v10 = .int .i64 ((v % 2 : Nat) : Int) ∧ Aside0 (BW w r A1 L1 c1 u A2 L2 c2 v A3 L3 c3 o A4 L4 c4 p W))
    case first =>
     rename_i J K hJ hK
     obtain ⟨z1, hz1⟩ : ∃ z : Nat, u % QQ = z := ⟨_, rfl⟩
     obtain ⟨z2, hz2⟩ : ∃ z : Nat, v % QQ = z := ⟨_, rfl⟩
     have HL1 : Aside0 (∀ W, RM W A1 L1 u → Calls Tryz.prog 150 #[.slice A1 L1 c1, .int .i64 0] W fun e w' => e = .returned (.int .i64 (z1 : Int)) ∧ w' = W) := ⟨fun W m => by
      have h := rlimb_calls (c := c1) m 0
      rw [Nat.pow_zero, Nat.div_one, hz1] at h
      exact h⟩
     have HL2 : Aside0 (∀ W, RM W A2 L2 v → Calls Tryz.prog 150 #[.slice A2 L2 c2, .int .i64 0] W fun e w' => e = .returned (.int .i64 (z2 : Int)) ∧ w' = W) := ⟨fun W m => by
      have h := rlimb_calls (c := c2) m 0
      rw [Nat.pow_zero, Nat.div_one, hz2] at h
      exact h⟩
     have HX := Aside0.mk (And.intro x1 x3)
     have HA := Aside0.mk (And.intro HW.out.bl (Nat.le_refl wr.heap.size))
     have hr : w.heap.size + 1 + 1 < wr.heap.size := HW.out.b2.lt
     have hrem : ∀ z : Nat, ((z % QQ : Nat) : Int).tmod 2 = ((z % 2 : Nat) : Int) := fun z => by
      rw [Int.tmod_eq_emod_of_nonneg (by omega)]
      show ((z % 10000 : Nat) : Int) % 2 = _
      omega
     have r1 := hrem u
     have r2 := hrem v
     rw [hz1] at r1
     rw [hz2] at r2
     clear hz1 hz2
     have e1 : IntKind.i64.wrap ((u % 2 : Nat) : Int) = ((u % 2 : Nat) : Int) := IntWalk.i64_in _ (by omega)
     have e2 : IntKind.i64.wrap ((v % 2 : Nat) : Int) = ((v % 2 : Nat) : Int) := IntWalk.i64_in _ (by omega)
     clear hrem
     clear x0 x1 x2 x3 x4 x5 x6 x7 y0 y1 y2 y3 y4 y5 y6 y7
     have KP : Aside0 (∀ V, Below (wr.heap.size) wr V → (fun V => V.cell? ⟨w.heap.size, 1, none⟩ = some (.slice A1 L1 c1) ∧ V.cell? ⟨w.heap.size + 1, 1, none⟩ = some (.slice A2 L2 c2) ∧ Below (wr.heap.size) wr V) V) := ⟨fun V hBB => ⟨keepB hBB (by omega) HX.out.1, keepB hBB (by omega) HX.out.2, hBB⟩⟩
     refine wq KP fun hHeld => ?_
     refine tp 0 ?_
     try simp only [PU]
     refine tp 1 ?_
     try simp only [PU]
     refine tp 4 ?_
     try simp only [PU]
     refine tp 5 ?_
     try simp only [PU]
     refine tc 2 fun K hK => ?_
     go_simp
     (go_at_call 150; (with_reducible refine (HL1.out _ (HW.out.m1.below hHeld.2.2)).mono ?_); rintro e wz ⟨rfl, rfl⟩)
     refine hK.out _ _ ?_ fun hHeld => ?_
     ·(first | exact KP.out _ (bKeep hbq hHeld.2.2 (by have := HA.out.2; omega)) | (refine KP.out _ ?_; repeat (first | exact hHeld.2.2 | refine Below.setCell ?_ (by first | (simp; done) | (simp; omega)) _)))
     clear hK K; try simp only [PU]
     refine tp 3 ?_
     try simp only [PU]
     refine tc 6 fun K hK => ?_
     go_simp
     (go_at_call 150; (with_reducible refine (HL2.out _ (HW.out.m2.below hHeld.2.2)).mono ?_); rintro e wz ⟨rfl, rfl⟩)
     refine hK.out _ _ ?_ fun hHeld => ?_
     ·(first | exact KP.out _ (bKeep hbq hHeld.2.2 (by have := HA.out.2; omega)) | (refine KP.out _ ?_; repeat (first | exact hHeld.2.2 | refine Below.setCell ?_ (by first | (simp; done) | (simp; omega)) _)))
     clear hK K; try simp only [PU]
     refine tp 7 ?_
     try simp only [PU]
     refine tp 8 ?_
     try simp only [PU]
     refine tp 9 ?_
     try simp only [PU]
     refine wpAnyH_done (by kernel_rfl) ?_ _
     refine hK _ _ ?_
     go_meet
     case rel => exact ⟨by first | rfl | go_num, by first | rfl | go_num, ⟨HW.out.below (hHeld.2.2.mono (Nat.le_refl _))⟩⟩
    case rest =>
     revert wc
     intro W3 hcut
     obtain ⟨rfl, rfl, HW3⟩ := hcut
     clear x0 x1 x2 x3 x4 x5 x6 x7 y0 y1 y2 y3 y4 y5 y6 y7
     clear HW
     have HW := HW3
     clear HW3
     have x0 := HW.out.b0.cell0; have x1 := HW.out.b0.cell1; have x2 := HW.out.b1.cell0; have x3 := HW.out.b1.cell1; have x4 := HW.out.b3.cell0; have x5 := HW.out.b3.cell1; have x6 := HW.out.b4.cell0; have x7 := HW.out.b4.cell1; have y0 := HW.out.b0.fr 0; have y1 := HW.out.b0.fr 1; have y2 := HW.out.b1.fr 0; have y3 := HW.out.b1.fr 1; have y4 := HW.out.b3.fr 0; have y5 := HW.out.b3.fr 1; have y6 := HW.out.b4.fr 0; have y7 := HW.out.b4.fr 1
     go_upto_region 4 with fail
     go_cut [0, 9, 10, 57] (fun v0 v9 v10 y W => v0 = .int .i64 (op : Int) ∧ v9 = .int .i64 ((u % 2 : Nat) : Int) ∧ v10 = .int .i64 ((v % 2 : Nat) : Int) ∧ y = .bool (bitB op (u % 2) (v % 2)) ∧ W = W3)
     case first =>
      rcases HT.out.2 with rfl | rfl | rfl <;> rcases Nat.mod_two_eq_zero_or_one u with hu | hu <;> rcases Nat.mod_two_eq_zero_or_one v with hv | hv <;> rw [hu, hv]
      all_goals
       go_wp2_with fail
       go_meet
       case rel => exact ⟨rfl, by rw [hu]; rfl, by rw [hv]; rfl, by rw [hu, hv]; rfl, rfl⟩
     case rest =>
      obtain ⟨rfl, rfl, rfl, rfl, hwc⟩ := hcut
      rw [hwc]
      clear hwc wc
      go_upto_if 57 with fail
      have HRD := Aside0.mk (bit_round HT.out.2 HV.out.1)
      go_cut [] (fun W => ∃ A k c q, Aside0 (BW w r A1 L1 c1 u A2 L2 c2 v A k c q A4 L4 c4 p W) ∧ Aside0 (q + (p + p) * bitF op (u / 2) (v / 2) = T))
      case first =>
       by_cases hb : bitB op (u % 2) (v % 2) = true
       ·rw [if_pos hb] at HRD
        have HPL := rplus_nat (m := o) (n := p) (by have := HV.out.1; have := HT.out.1; exact Nat.lt_trans (show o < 2 ^ 64 by omega) (two_small (i := 64) (by omega))) (pl_small hz HV.out.2.1 HV.out.2.2.1)
        rw [hb]
        go_wp2_with (first | (go_at_call 82; (with_reducible refine (HPL.out _ _ _ _ _ _ _ HW.out.m3 HW.out.m4).mono ?_); rintro e W5 ⟨A5, k5, c5, rfl, hk5, hm5, hbx⟩; have HM5 := Aside0.mk (And.intro hk5 hm5); have HW2 := Aside0.mk (HW.out.below hbx); clear x0 x1 x2 x3 x4 x5 x6 x7 y0 y1 y2 y3 y4 y5 y6 y7; clear HW; have HW := HW2; clear HW2; have x0 := HW.out.b0.cell0; have x1 := HW.out.b0.cell1; have x2 := HW.out.b1.cell0; have x3 := HW.out.b1.cell1; have x4 := HW.out.b3.cell0; have x5 := HW.out.b3.cell1; have x6 := HW.out.b4.cell0; have x7 := HW.out.b4.cell1; have y0 := HW.out.b0.fr 0; have y1 := HW.out.b0.fr 1; have y2 := HW.out.b1.fr 0; have y3 := HW.out.b1.fr 1; have y4 := HW.out.b3.fr 0; have y5 := HW.out.b3.fr 1; have y6 := HW.out.b4.fr 0; have y7 := HW.out.b4.fr 1; clear hbx hk5 hm5))
        go_meet
        case rel => exact ⟨A5, k5, c5, o + p, ⟨HW.out.set3 HM5.out.1 HM5.out.2⟩, HRD⟩
       ·rw [if_neg hb] at HRD
        rw [Bool.not_eq_true] at hb
        rw [hb]
        go_wp2_with fail
        go_meet
        case rel => exact ⟨A3, L3, c3, o, HW, HRD⟩
      case rest =>
       revert wc
       intro W5 hcut
       obtain ⟨A5, k5, c5, q, HW5, HRQ⟩ := hcut
       clear x0 x1 x2 x3 x4 x5 x6 x7 y0 y1 y2 y3 y4 y5 y6 y7
       clear HW HRD
       have HW := HW5
       clear HW5
       have x0 := HW.out.b0.cell0; have x1 := HW.out.b0.cell1; have x2 := HW.out.b1.cell0; have x3 := HW.out.b1.cell1; have x4 := HW.out.b3.cell0; have x5 := HW.out.b3.cell1; have x6 := HW.out.b4.cell0; have x7 := HW.out.b4.cell1; have y0 := HW.out.b0.fr 0; have y1 := HW.out.b0.fr 1; have y2 := HW.out.b1.fr 0; have y3 := HW.out.b1.fr 1; have y4 := HW.out.b3.fr 0; have y5 := HW.out.b3.fr 1; have y6 := HW.out.b4.fr 0; have y7 := HW.out.b4.fr 1
       have HPP := rplus_nat (pl_small hz HV.out.2.1 HV.out.2.2.1) (pl_small hz HV.out.2.1 HV.out.2.2.1)
       have HS2 := rsmall_n 2 (by decide) 2 rfl
       have HO1 := rover_half (x := u) (Nat.lt_trans HV.out.2.2.2.1 (two_small (i := 64) (by omega)))
       have HO2 := rover_half (x := v) (Nat.lt_trans HV.out.2.2.2.2 (two_small (i := 64) (by omega)))
       go_upto_region 7 with (first | (go_at_call 82; (with_reducible refine (HPP.out _ _ _ _ _ _ _ HW.out.m4 HW.out.m4).mono ?_); rintro e W6 ⟨A6, k6, c6, rfl, hk6, hm6, hbx⟩; have HM6 := Aside0.mk (And.intro hk6 hm6); have HW2 := Aside0.mk (HW.out.below hbx); clear x0 x1 x2 x3 x4 x5 x6 x7 y0 y1 y2 y3 y4 y5 y6 y7; clear HW; have HW := HW2; clear HW2; have x0 := HW.out.b0.cell0; have x1 := HW.out.b0.cell1; have x2 := HW.out.b1.cell0; have x3 := HW.out.b1.cell1; have x4 := HW.out.b3.cell0; have x5 := HW.out.b3.cell1; have x6 := HW.out.b4.cell0; have x7 := HW.out.b4.cell1; have y0 := HW.out.b0.fr 0; have y1 := HW.out.b0.fr 1; have y2 := HW.out.b1.fr 0; have y3 := HW.out.b1.fr 1; have y4 := HW.out.b3.fr 0; have y5 := HW.out.b3.fr 1; have y6 := HW.out.b4.fr 0; have y7 := HW.out.b4.fr 1; clear hbx hk6 hm6))
       obtain ⟨Y, hY⟩ : ∃ Y, ((W6.setCell ⟨r + 1, 0, none⟩ (.bool false)).setCell ⟨r + 1, 1, none⟩ (.slice A6 k6 c6)) = Y := ⟨_, rfl⟩
       have HW2 : Aside0 (BW w r A1 L1 c1 u A2 L2 c2 v A5 k5 c5 q A6 k6 c6 (p + p) Y) := ⟨by subst hY; exact HW.out.set4 HM6.out.1 HM6.out.2⟩
       rw [hY]
       clear x0 x1 x2 x3 x4 x5 x6 x7 y0 y1 y2 y3 y4 y5 y6 y7
       clear hY HW HM6 HPP
       have HW := HW2
       clear HW2
       have x0 := HW.out.b0.cell0; have x1 := HW.out.b0.cell1; have x2 := HW.out.b1.cell0; have x3 := HW.out.b1.cell1; have x4 := HW.out.b3.cell0; have x5 := HW.out.b3.cell1; have x6 := HW.out.b4.cell0; have x7 := HW.out.b4.cell1; have y0 := HW.out.b0.fr 0; have y1 := HW.out.b0.fr 1; have y2 := HW.out.b1.fr 0; have y3 := HW.out.b1.fr 1; have y4 := HW.out.b3.fr 0; have y5 := HW.out.b3.fr 1; have y6 := HW.out.b4.fr 0; have y7 := HW.out.b4.fr 1
       go_cut [] (fun W => ∃ A k c, Aside0 (BW w r A k c (u / 2) A2 L2 c2 v A5 k5 c5 q A6 k6 c6 (p + p) W))
       case first =>
        rename_i J K hJ hK
        refine wp_region_held_drew (S := (fun _ => True)) (by kernel_rfl) ?_ (fun hHeld => ?_)
        ·trivial
        (obtain ⟨Z, hZ⟩ : ∃ Z, Y.drew = Z := ⟨_, rfl⟩; have hbx : Below Y.heap.size Y Z := (by subst hZ; exact below_drew1 (Below.refl _ _)); have HW2 := Aside0.mk (HW.out.below hbx); clear x0 x1 x2 x3 x4 x5 x6 x7 y0 y1 y2 y3 y4 y5 y6 y7; clear HW; have HW := HW2; clear HW2; have x0 := HW.out.b0.cell0; have x1 := HW.out.b0.cell1; have x2 := HW.out.b1.cell0; have x3 := HW.out.b1.cell1; have x4 := HW.out.b3.cell0; have x5 := HW.out.b3.cell1; have x6 := HW.out.b4.cell0; have x7 := HW.out.b4.cell1; have y0 := HW.out.b0.fr 0; have y1 := HW.out.b0.fr 1; have y2 := HW.out.b1.fr 0; have y3 := HW.out.b1.fr 1; have y4 := HW.out.b3.fr 0; have y5 := HW.out.b3.fr 1; have y6 := HW.out.b4.fr 0; have y7 := HW.out.b4.fr 1; rw [hZ]; clear hZ hbx)
        repeat' (first
         | (refine fun (_ : Tg 0) K hK => ?_; go_simp; refine hK.out _ _ ?_ fun hHeld => ?_; (trivial); clear hK K; try simp only [PU])
         | (refine fun (_ : Tg 1) K hK => ?_; go_simp; (go_at_call 70; (with_reducible refine (HS2.out _).mono ?_); rintro e W7 ⟨A7, k7, c7, rfl, hk7, hm7, hbx⟩; have HM7 := Aside0.mk hm7; have HW2 := Aside0.mk (HW.out.below hbx); clear x0 x1 x2 x3 x4 x5 x6 x7 y0 y1 y2 y3 y4 y5 y6 y7; clear HW; have HW := HW2; clear HW2; have x0 := HW.out.b0.cell0; have x1 := HW.out.b0.cell1; have x2 := HW.out.b1.cell0; have x3 := HW.out.b1.cell1; have x4 := HW.out.b3.cell0; have x5 := HW.out.b3.cell1; have x6 := HW.out.b4.cell0; have x7 := HW.out.b4.cell1; have y0 := HW.out.b0.fr 0; have y1 := HW.out.b0.fr 1; have y2 := HW.out.b1.fr 0; have y3 := HW.out.b1.fr 1; have y4 := HW.out.b3.fr 0; have y5 := HW.out.b3.fr 1; have y6 := HW.out.b4.fr 0; have y7 := HW.out.b4.fr 1; clear hbx hk7 hm7); refine hK.out _ _ ?_ fun hHeld => ?_; (trivial); clear hK K; try simp only [PU])
         | (refine fun (_ : Tg 2) K hK => ?_; go_simp; (go_at_call 92; (with_reducible refine (HO1.out _ _ _ _ _ _ _ HW.out.m1 HM7.out).mono ?_); rintro e W8 ⟨A8, k8, c8, A9, k9, c9, rfl, hk8, hm8, hbx⟩; have HM8 := Aside0.mk (And.intro hk8 hm8); have HW2 := Aside0.mk (HW.out.below hbx); clear x0 x1 x2 x3 x4 x5 x6 x7 y0 y1 y2 y3 y4 y5 y6 y7; clear HW; have HW := HW2; clear HW2; have x0 := HW.out.b0.cell0; have x1 := HW.out.b0.cell1; have x2 := HW.out.b1.cell0; have x3 := HW.out.b1.cell1; have x4 := HW.out.b3.cell0; have x5 := HW.out.b3.cell1; have x6 := HW.out.b4.cell0; have x7 := HW.out.b4.cell1; have y0 := HW.out.b0.fr 0; have y1 := HW.out.b0.fr 1; have y2 := HW.out.b1.fr 0; have y3 := HW.out.b1.fr 1; have y4 := HW.out.b3.fr 0; have y5 := HW.out.b3.fr 1; have y6 := HW.out.b4.fr 0; have y7 := HW.out.b4.fr 1; clear hbx hk8 hm8); refine hK.out _ _ ?_ fun hHeld => ?_; (trivial); clear hK K; try simp only [PU])
         | (refine fun (_ : Tg 6) K hK => ?_; go_simp; refine hK.out _ _ ?_ fun hHeld => ?_; (trivial); clear hK K; try simp only [PU])
         | (refine tq 3 ?_; try simp only [PU])
         | (refine tq 4 ?_; try simp only [PU])
         | (refine tq 5 ?_; try simp only [PU])
         | refine t1 1 ?_
         | refine t1 2 ?_
         | refine t1 6 ?_
         | refine t1 0 ?_
         | refine t2 0 1 ?_ ?_
         | fail)
        all_goals
         refine wpAnyH_done (by kernel_rfl) ?_ _
         (refine hK _ _ ?_; go_meet; (case rel => exact ⟨A8, k8, c8, ⟨HW.out.set1 HM8.out.1 HM8.out.2⟩⟩))
       case rest =>
        revert wc
        intro W9 hcut
        obtain ⟨A8, k8, c8, HW9⟩ := hcut
        clear x0 x1 x2 x3 x4 x5 x6 x7 y0 y1 y2 y3 y4 y5 y6 y7
        clear HW
        have HW := HW9
        clear HW9
        have x0 := HW.out.b0.cell0; have x1 := HW.out.b0.cell1; have x2 := HW.out.b1.cell0; have x3 := HW.out.b1.cell1; have x4 := HW.out.b3.cell0; have x5 := HW.out.b3.cell1; have x6 := HW.out.b4.cell0; have x7 := HW.out.b4.cell1; have y0 := HW.out.b0.fr 0; have y1 := HW.out.b0.fr 1; have y2 := HW.out.b1.fr 0; have y3 := HW.out.b1.fr 1; have y4 := HW.out.b3.fr 0; have y5 := HW.out.b3.fr 1; have y6 := HW.out.b4.fr 0; have y7 := HW.out.b4.fr 1
        have HNX : Aside0 (u / 2 + v / 2 < u + v ∧ u / 2 * (p + p) < 2 ^ 64 ∧ v / 2 * (p + p) < 2 ^ 64 ∧ u / 2 < 2 ^ 64 ∧ v / 2 < 2 ^ 64) := ⟨half_facts hz HV.out.2⟩
        go_upto_region 8 with fail
        refine wp_region_held_drew (S := (fun _ => True)) (by kernel_rfl) ?_ (fun hHeld => ?_)
        ·trivial
        (obtain ⟨Z, hZ⟩ : ∃ Z, W9.drew = Z := ⟨_, rfl⟩; have hbx : Below W9.heap.size W9 Z := (by subst hZ; exact below_drew1 (Below.refl _ _)); have HW2 := Aside0.mk (HW.out.below hbx); clear x0 x1 x2 x3 x4 x5 x6 x7 y0 y1 y2 y3 y4 y5 y6 y7; clear HW; have HW := HW2; clear HW2; have x0 := HW.out.b0.cell0; have x1 := HW.out.b0.cell1; have x2 := HW.out.b1.cell0; have x3 := HW.out.b1.cell1; have x4 := HW.out.b3.cell0; have x5 := HW.out.b3.cell1; have x6 := HW.out.b4.cell0; have x7 := HW.out.b4.cell1; have y0 := HW.out.b0.fr 0; have y1 := HW.out.b0.fr 1; have y2 := HW.out.b1.fr 0; have y3 := HW.out.b1.fr 1; have y4 := HW.out.b3.fr 0; have y5 := HW.out.b3.fr 1; have y6 := HW.out.b4.fr 0; have y7 := HW.out.b4.fr 1; rw [hZ]; clear hZ hbx)
        repeat' (first
         | (refine fun (_ : Tg 0) K hK => ?_; go_simp; refine hK.out _ _ ?_ fun hHeld => ?_; (trivial); clear hK K; try simp only [PU])
         | (refine fun (_ : Tg 1) K hK => ?_; go_simp; (go_at_call 70; (with_reducible refine (HS2.out _).mono ?_); rintro e W7 ⟨A7, k7, c7, rfl, hk7, hm7, hbx⟩; have HM7 := Aside0.mk hm7; have HW2 := Aside0.mk (HW.out.below hbx); clear x0 x1 x2 x3 x4 x5 x6 x7 y0 y1 y2 y3 y4 y5 y6 y7; clear HW; have HW := HW2; clear HW2; have x0 := HW.out.b0.cell0; have x1 := HW.out.b0.cell1; have x2 := HW.out.b1.cell0; have x3 := HW.out.b1.cell1; have x4 := HW.out.b3.cell0; have x5 := HW.out.b3.cell1; have x6 := HW.out.b4.cell0; have x7 := HW.out.b4.cell1; have y0 := HW.out.b0.fr 0; have y1 := HW.out.b0.fr 1; have y2 := HW.out.b1.fr 0; have y3 := HW.out.b1.fr 1; have y4 := HW.out.b3.fr 0; have y5 := HW.out.b3.fr 1; have y6 := HW.out.b4.fr 0; have y7 := HW.out.b4.fr 1; clear hbx hk7 hm7); refine hK.out _ _ ?_ fun hHeld => ?_; (trivial); clear hK K; try simp only [PU])
         | (refine fun (_ : Tg 2) K hK => ?_; go_simp; (go_at_call 92; (with_reducible refine (HO2.out _ _ _ _ _ _ _ HW.out.m2 HM7.out).mono ?_); rintro e W8 ⟨A8, k8, c8, A9, k9, c9, rfl, hk8, hm8, hbx⟩; have HM8 := Aside0.mk (And.intro hk8 hm8); have HW2 := Aside0.mk (HW.out.below hbx); clear x0 x1 x2 x3 x4 x5 x6 x7 y0 y1 y2 y3 y4 y5 y6 y7; clear HW; have HW := HW2; clear HW2; have x0 := HW.out.b0.cell0; have x1 := HW.out.b0.cell1; have x2 := HW.out.b1.cell0; have x3 := HW.out.b1.cell1; have x4 := HW.out.b3.cell0; have x5 := HW.out.b3.cell1; have x6 := HW.out.b4.cell0; have x7 := HW.out.b4.cell1; have y0 := HW.out.b0.fr 0; have y1 := HW.out.b0.fr 1; have y2 := HW.out.b1.fr 0; have y3 := HW.out.b1.fr 1; have y4 := HW.out.b3.fr 0; have y5 := HW.out.b3.fr 1; have y6 := HW.out.b4.fr 0; have y7 := HW.out.b4.fr 1; clear hbx hk8 hm8); refine hK.out _ _ ?_ fun hHeld => ?_; (trivial); clear hK K; try simp only [PU])
         | (refine fun (_ : Tg 6) K hK => ?_; go_simp; refine hK.out _ _ ?_ fun hHeld => ?_; (trivial); clear hK K; try simp only [PU])
         | (refine tq 3 ?_; try simp only [PU])
         | (refine tq 4 ?_; try simp only [PU])
         | (refine tq 5 ?_; try simp only [PU])
         | refine t1 1 ?_
         | refine t1 2 ?_
         | refine t1 6 ?_
         | refine t1 0 ?_
         | refine t2 0 1 ?_ ?_
         | fail)
        all_goals
         refine wpAnyH_done (by kernel_rfl) ?_ _
         (have HW3 := Aside0.mk (HW.out.set2 HM8.out.1 HM8.out.2); clear x0 x1 x2 x3 x4 x5 x6 x7 y0 y1 y2 y3 y4 y5 y6 y7; clear HW; go_wp2_with fail; go_roundg (u / 2 + v / 2); (case measure => exact HNX.out.1); (case rel => exact ⟨u / 2, v / 2, q, p + p, _, _, _, _, _, _, _, _, _, _, _, _, rfl, ⟨HW3.out, HRQ.out, HNX.out.2⟩⟩))
end
end Go.Proofs.YtillgofjlpjbcaaGreatDoor.Nm
