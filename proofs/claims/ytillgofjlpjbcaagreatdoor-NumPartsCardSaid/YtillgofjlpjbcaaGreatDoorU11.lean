import Derived.Test.YtillgofjlpjbcaaGreatDoorU3
import Derived.Test.YtillgofjlpjbcaaGreatDoorU10
import Derived.Test.YtillgofjlpjbcaaGreatDoorU9
import Derived.Test.YtillgofjlpjbcaaGreatDoorU5
import Derived.Test.YtillgofjlpjbcaaGreatDoorU7
import Derived.Test.YtillgofjlpjbcaaGreatDoorU6
import Derived.Test.YtillgofjlpjbcaaGreatDoorU8
/- Own text: contracts and laws on which the card rests (RaV RaU RaW RaX RbC RbD RbE RbF RbG RbH RbI RbJ). -/
set_option linter.unusedVariables false
set_option linter.unusedSimpArgs false
set_option maxRecDepth 1000000
set_option maxHeartbeats 16000000
namespace Go.Proofs.YtillgofjlpjbcaaGreatDoor.Nm
section
open Go.Proofs.YtillgofjlpjbcaaGreatDoorW.PrintLast Go.Proofs.YtillgofjlpjbcaaGreatDoorW.PrintMore Go.Proofs.YtillgofjlpjbcaaGreatDoorW.PrintWords Go.RowKit Go.Shelf
/-- Two variables of type Big. -/
abbrev QR (W : World) (p q : Nat) (f1 : Bool) (A1 : Option Addr) (L1 c1 : Nat) (f2 : Bool) (A2 : Option Addr) (L2 c2 : Nat) : Prop := BG W p f1 A1 L1 c1 ∧ BG W q f2 A2 L2 c2
theorem QR.new (w : World) (f1 : Bool) (A1 : Option Addr) (L1 c1 : Nat) (f2 : Bool) (A2 : Option Addr) (L2 c2 : Nat) : QR ((w.alloc (.cells #[.bool f1, .slice A1 L1 c1] 77)).alloc (.cells #[.bool f2, .slice A2 L2 c2] 77)) w.heap.size (w.heap.size + 1) f1 A1 L1 c1 f2 A2 L2 c2 := by
 refine ⟨(BG.new w _ _ _ _).alloc _, ?_⟩
 have h := BG.new (w.alloc (.cells #[.bool f1, .slice A1 L1 c1] 77)) f2 A2 L2 c2
 simpa using h
theorem cell_far2 {V : World} {b b' o : Nat} {v u u' : Value} (h : V.cell? ⟨b, o, none⟩ = some v) (hne : b ≠ b') : ((V.setCell ⟨b', 0, none⟩ u).setCell ⟨b', 1, none⟩ u').cell? ⟨b, o, none⟩ = some v := by
 rw [World.cell?_setCell_other _ _ _ _ (fun e => hne (congrArg Addr.block e).symm), World.cell?_setCell_other _ _ _ _ (fun e => hne (congrArg Addr.block e).symm)]
 exact h
/-- Four variables of type Big: two that came in, two for what goes out. -/
structure F4 (W : World) (b : Nat) (f1 : Bool) (A1 : Option Addr) (L1 c1 : Nat) (f2 : Bool) (A2 : Option Addr) (L2 c2 : Nat) : Prop where
 x1 : BG W b f1 A1 L1 c1
 x2 : BG W (b + 1) f2 A2 L2 c2
 o1 : BG W (b + 1 + 1) false none 0 0
 o2 : BG W (b + 1 + 1 + 1) false none 0 0
theorem F4.below {W X : World} {b : Nat} {f1 : Bool} {A1 : Option Addr} {L1 c1 : Nat} {f2 : Bool} {A2 : Option Addr} {L2 c2 : Nat} (h : F4 W b f1 A1 L1 c1 f2 A2 L2 c2) (hb : Below W.heap.size W X) : F4 X b f1 A1 L1 c1 f2 A2 L2 c2 := ⟨h.x1.below hb, h.x2.below hb, h.o1.below hb, h.o2.below hb⟩
theorem F4.other {W : World} {b b' : Nat} {f1 : Bool} {A1 : Option Addr} {L1 c1 : Nat} {f2 : Bool} {A2 : Option Addr} {L2 c2 : Nat} (h : F4 W b f1 A1 L1 c1 f2 A2 L2 c2) (hb : b + 1 + 1 + 1 < b') (o : Nat) (u : Value) : F4 (W.setCell ⟨b', o, none⟩ u) b f1 A1 L1 c1 f2 A2 L2 c2 := ⟨h.x1.other (by omega) _ _, h.x2.other (by omega) _ _, h.o1.other (by omega) _ _, h.o2.other (by omega) _ _⟩
theorem F4.new (w : World) (f1 : Bool) (A1 : Option Addr) (L1 c1 : Nat) (f2 : Bool) (A2 : Option Addr) (L2 c2 : Nat) : F4 ((((w.alloc (.cells #[.bool f1, .slice A1 L1 c1] 77)).alloc (.cells #[.bool f2, .slice A2 L2 c2] 77)).alloc (.cells #[.bool false, .slice none 0 0] 77)).alloc (.cells #[.bool false, .slice none 0 0] 77)) w.heap.size f1 A1 L1 c1 f2 A2 L2 c2 := by
 have n : ∀ (W : World) (b : Nat) (hb : W.heap.size = b) (f : Bool) (A : Option Addr) (L c : Nat), BG (W.alloc (.cells #[.bool f, .slice A L c] 77)) b f A L c := fun W b hb f A L c => by subst hb; exact BG.new W f A L c
 exact ⟨(((n _ _ rfl _ _ _ _).alloc _).alloc _).alloc _, ((n _ _ (by simp) _ _ _ _).alloc _).alloc _, (n _ _ (by simp) _ _ _ _).alloc _, n _ _ (by simp) _ _ _ _⟩
theorem out2 {w W : World} {b : Nat} {f1 : Bool} {A1 : Option Addr} {L1 c1 : Nat} {f2 : Bool} {A2 : Option Addr} {L2 c2 : Nat} (h : F4 W b f1 A1 L1 c1 f2 A2 L2 c2) (hb : Below w.heap.size w W) (e : b = w.heap.size) {A A' : Option Addr} {k k' n n' : Nat} (hm : RM W A k n) (hm' : RM W A' k' n') (f g : Bool) (c c' : Nat) :
 BG ((((W.setCell ⟨b + 1 + 1, 0, none⟩ (.bool f)).setCell ⟨b + 1 + 1, 1, none⟩ (.slice A k c)).setCell ⟨b + 1 + 1 + 1, 0, none⟩ (.bool g)).setCell ⟨b + 1 + 1 + 1, 1, none⟩ (.slice A' k' c')) (b + 1 + 1) f A k c ∧
 BG ((((W.setCell ⟨b + 1 + 1, 0, none⟩ (.bool f)).setCell ⟨b + 1 + 1, 1, none⟩ (.slice A k c)).setCell ⟨b + 1 + 1 + 1, 0, none⟩ (.bool g)).setCell ⟨b + 1 + 1 + 1, 1, none⟩ (.slice A' k' c')) (b + 1 + 1 + 1) g A' k' c' ∧
 RM ((((W.setCell ⟨b + 1 + 1, 0, none⟩ (.bool f)).setCell ⟨b + 1 + 1, 1, none⟩ (.slice A k c)).setCell ⟨b + 1 + 1 + 1, 0, none⟩ (.bool g)).setCell ⟨b + 1 + 1 + 1, 1, none⟩ (.slice A' k' c')) A k n ∧
 RM ((((W.setCell ⟨b + 1 + 1, 0, none⟩ (.bool f)).setCell ⟨b + 1 + 1, 1, none⟩ (.slice A k c)).setCell ⟨b + 1 + 1 + 1, 0, none⟩ (.bool g)).setCell ⟨b + 1 + 1 + 1, 1, none⟩ (.slice A' k' c')) A' k' n' ∧
 Below w.heap.size w ((((W.setCell ⟨b + 1 + 1, 0, none⟩ (.bool f)).setCell ⟨b + 1 + 1, 1, none⟩ (.slice A k c)).setCell ⟨b + 1 + 1 + 1, 0, none⟩ (.bool g)).setCell ⟨b + 1 + 1 + 1, 1, none⟩ (.slice A' k' c')) := by
 have p1 := h.o1.put0 f
 have p2 := p1.put1 A k c
 have r1 := (h.o2.other (b' := b + 1 + 1) (by omega) 0 (.bool f)).other (b' := b + 1 + 1) (by omega) 1 (.slice A k c)
 have r2 := r1.put0 g
 have r3 := r2.put1 A' k' c'
 refine ⟨(p2.other (by omega) _ _).other (by omega) _ _, r3, (((hm.bg h.o1 0 _).bg p1 1 _).bg r1 0 _).bg r2 1 _, (((hm'.bg h.o1 0 _).bg p1 1 _).bg r1 0 _).bg r2 1 _, ?_⟩
 subst e
 exact (((hb.setCell (by simp; omega) _).setCell (by simp; omega) _).setCell (by simp; omega) _).setCell (by simp; omega) _
theorem step_end {w W Y : World} {p n5 n9 k5 k9 c5 c9 : Nat} {g6 gz : Bool} {Aq A5 A9 : Option Addr} {k6 cq : Nat} {f1 : Bool} {A1 : Option Addr} {L1 c1 : Nat} {f2 : Bool} {A2 : Option Addr} {L2 c2 : Nat} (HX : Aside0 (F4 W w.heap.size f1 A1 L1 c1 f2 A2 L2 c2)) (HA : Aside0 (Below w.heap.size w W)) (HQ : Aside0 (QR W p (p + 1) g6 Aq k6 cq false A5 k5 c5)) (HM9 : Aside0 (k9 ≤ c9 ∧ RM W A9 k9 n9)) (HM5 : Aside0 (k5 ≤ c5 ∧ RM W A5 k5 n5)) (HPX : Aside0 (w.heap.size + 1 + 1 + 1 < p)) (hY : ((W.setCell ⟨p, 0, none⟩ (.bool gz)).setCell ⟨p, 1, none⟩ (.slice A9 k9 c9)) = Y) :
 Aside0 (F4 Y w.heap.size f1 A1 L1 c1 f2 A2 L2 c2) ∧ Aside0 (Below w.heap.size w Y) ∧ Aside0 (QR Y p (p + 1) gz A9 k9 c9 false A5 k5 c5) ∧ Aside0 (k9 ≤ c9 ∧ gz = gz ∧ RM Y A9 k9 n9) ∧ Aside0 (k5 ≤ c5 ∧ RM Y A5 k5 n5 ∧ RL Y A5 k5 (dg QQ n5)) := by
 subst hY
 have hp := HPX.out
 have hq1 := HQ.out.1.put0 gz
 refine ⟨⟨(HX.out.other (by omega) _ _).other (by omega) _ _⟩, ⟨(HA.out.setCell (by simp; omega) _).setCell (by simp; omega) _⟩, ⟨hq1.put1 _ _ _, (HQ.out.2.other (by omega) _ _).other (by omega) _ _⟩, ⟨HM9.out.1, rfl, (HM9.out.2.bg HQ.out.1 0 _).bg hq1 1 _⟩, ⟨HM5.out.1, (HM5.out.2.bg HQ.out.1 0 _).bg hq1 1 _, (HM5.out.2.bg HQ.out.1 0 _).bg hq1 1 _⟩⟩
theorem over_ret {b : Nat} {Z : World} {T : Array Value} {R : Ending → World → Prop} {g g' : Bool} {A A' : Option Addr} {k c k' c' : Nat} (h4 : T[4]?.getD undef = .pointer (some ⟨b + 1 + 1, 0, none⟩)) (h5 : T[5]?.getD undef = .pointer (some ⟨b + 1 + 1 + 1, 0, none⟩))
 (o1 : BG Z (b + 1 + 1) g A k c) (o2 : BG Z (b + 1 + 1 + 1) g' A' k' c') (hR : R (.returned (.tuple #[.agg #[.bool g, .slice A k c], .agg #[.bool g', .slice A' k' c']])) Z) : bodyPost Tryz.prog Tryz.f92 R Exit.ret { tmps := T, defers := [] } Z := by
 have k0 := o1.cell0
 have k1 := o1.cell1
 have k2 := o2.cell0
 have k3 := o2.cell1
 exact bodyPost_ret (v := .tuple #[.agg #[.bool g, .slice A k c], .agg #[.bool g', .slice A' k' c']]) (by simp [results, Tryz.results92, go_sem, h4, h5, k0, k1, k2, k3]) rfl hR
theorem rOver_plain {w : World} {A1 A2 : Option Addr} {L1 L2 c1 c2 m n : Nat} {f1 f2 : Bool} (h1 : RM w A1 L1 m) (h2 : RM w A2 L2 n) (h0 : 0 < n) (hL1 : L1 ≤ 40000) (hL2 : L2 ≤ 40000) (hc : f1 = false ∨ m % n = 0) :
 Calls Tryz.prog 92 #[.agg #[.bool f1, .slice A1 L1 c1], .agg #[.bool f2, .slice A2 L2 c2]] w fun e w' => ∃ A k c A' k' c', e = .returned (.tuple #[.agg #[.bool ((f1 != f2) && decide (m / n ≠ 0)), .slice A k c], .agg #[.bool false, .slice A' k' c']]) ∧ k ≤ c ∧ k' ≤ c' ∧ RM w' A k (m / n) ∧ RM w' A' k' (m % n) ∧ Below w.heap.size w w' := by
 have HOV : Aside0 (∀ W, Below w.heap.size w W → Calls Tryz.prog 152 #[.slice A1 L1 c1, .slice A2 L2 c2] W fun e w' => ∃ A k c A' k' c', e = .returned (.tuple #[.slice A k c, .slice A' k' c']) ∧ k ≤ c ∧ k' ≤ c' ∧ RM w' A k (m / n) ∧ RM w' A' k' (m % n) ∧ Below W.heap.size W w') := ⟨fun W hb => rover_calls (h1.below hb) (h2.below hb) h0 hL1 hL2⟩
 clear h1 h2
 go_enter Tryz.func92, Tryz.ntmps92
 go_wp2_with fail
 obtain ⟨wr, hwr⟩ : ∃ wr, ((((w.alloc (.cells #[.bool f1, .slice A1 L1 c1] 77)).alloc (.cells #[.bool f2, .slice A2 L2 c2] 77)).alloc (.cells #[.bool false, .slice none 0 0] 77)).alloc (.cells #[.bool false, .slice none 0 0] 77)) = wr := ⟨_, rfl⟩
 have HX : Aside0 (F4 wr w.heap.size f1 A1 L1 c1 f2 A2 L2 c2) := ⟨by subst hwr; exact F4.new _ _ _ _ _ _ _ _ _⟩
 have HA : Aside0 (Below w.heap.size w wr) := ⟨by subst hwr; repeat (first | exact Below.refl _ _ | apply below_alloc)⟩
 have x0 := HX.out.x1.cell0
 have x1 := HX.out.x1.cell1
 have x2 := HX.out.x2.cell0
 have x3 := HX.out.x2.cell1
 rw [hwr]
 clear hwr
 have HCC : Aside0 (f1 = true → m % n = 0) := ⟨fun h => hc.resolve_left (by simp [h])⟩
 clear hc
 cases f1
 ·go_wp2_with (first | (go_at_call 152; (with_reducible refine (HOV.out _ HA.out).mono ?_); rintro e W1 ⟨Aq, kq, cq, Ar, kr, cr, rfl, hq, hr, hmq, hmr, hbx⟩; skip; have HMQ := Aside0.mk (And.intro hq (And.intro hmq hmq.rl)); have HMR := Aside0.mk (And.intro hr hmr); have HX2 := Aside0.mk (HX.out.below hbx); clear HX x0 x1 x2 x3; (try clear y1 y2); have HX := HX2; clear HX2; have HA2 := Aside0.mk (HA.out.trans (hbx.mono HA.out.size)); clear HA; have HA := HA2; clear HA2; have x0 := HX.out.x1.cell0; have x1 := HX.out.x1.cell1; have x2 := HX.out.x2.cell0; have x3 := HX.out.x2.cell1; have y1 := HX.out.x1.lt; have y2 := HX.out.x2.lt; clear hbx hq hr hmq hmr) | (go_at_call 137; (with_reducible refine (rtrim_sign HMQ.out.2.2 HMQ.out.1 (dg_lt QQ1 _) _).mono ?_); rintro e W2 ⟨k6, g6, rfl, hg6, hk6, hm6, hbx⟩; have HM6 := Aside0.mk (And.intro hk6 (And.intro (hg6.trans (by rw [val_dg QQ1])) (hm6.val (val_dg QQ1 _)))); have HMR2 := Aside0.mk (And.intro HMR.out.1 (HMR.out.2.below hbx)); clear HMR; have HMR := HMR2; clear HMR2; have HX2 := Aside0.mk (HX.out.below hbx); clear HX x0 x1 x2 x3; (try clear y1 y2); have HX := HX2; clear HX2; have HA2 := Aside0.mk (HA.out.trans (hbx.mono HA.out.size)); clear HA; have HA := HA2; clear HA2; have x0 := HX.out.x1.cell0; have x1 := HX.out.x1.cell1; have x2 := HX.out.x2.cell0; have x3 := HX.out.x2.cell1; have y1 := HX.out.x1.lt; have y2 := HX.out.x2.lt; clear hbx hg6 hk6 hm6))
  rename_i Q1 K hK
  obtain ⟨Y, hY⟩ : ∃ Y, ((W2.alloc (.cells #[.bool g6, .slice Aq k6 cq] 77)).alloc (.cells #[.bool false, .slice Ar kr cr] 77)) = Y := ⟨_, rfl⟩
  have hyb : Below W2.heap.size W2 Y := by subst hY; repeat (first | exact Below.refl _ _ | apply below_alloc)
  have HQ : Aside0 (QR Y W2.heap.size (W2.heap.size + 1) g6 Aq k6 cq false Ar kr cr) := ⟨by subst hY; exact QR.new _ _ _ _ _ _ _ _ _⟩
  have HX2 := Aside0.mk (HX.out.below hyb)
  have HA2 := Aside0.mk (HA.out.trans (hyb.mono HA.out.size))
  have HM62 := Aside0.mk (And.intro HM6.out.1 (And.intro HM6.out.2.1 (HM6.out.2.2.below hyb)))
  have HMR2 := Aside0.mk (And.intro HMR.out.1 (And.intro (HMR.out.2.below hyb) (HMR.out.2.below hyb).rl))
  have HPX : Aside0 (w.heap.size + 1 + 1 + 1 < W2.heap.size) := ⟨HX.out.o2.lt⟩
  have HP : Aside0 ((W2.heap.size ≠ w.heap.size + 1 + 1 ∧ W2.heap.size + 1 ≠ w.heap.size + 1 + 1) ∧ (W2.heap.size ≠ w.heap.size + 1 + 1 + 1 ∧ W2.heap.size + 1 ≠ w.heap.size + 1 + 1 + 1)) := ⟨by have := HPX.out; omega⟩
  clear HX HA HM6 HMR hyb x0 x1 x2 x3 y1 y2
  have HX := HX2
  have HA := HA2
  have HM6 := HM62
  have HMR := HMR2
  clear HX2 HA2 HM62 HMR2
  rw [hY]
  clear hY
  have z0 := HQ.out.1.cell0
  have z1 := HQ.out.1.cell1
  have z2 := HQ.out.2.cell0
  have z3 := HQ.out.2.cell1
  generalize W2.heap.size = p at *
  refine wp_region_held_drew (S := (fun V => V.cell? ⟨p, 0, none⟩ = some (.bool g6) ∧ V.cell? ⟨p, 1, none⟩ = some (.slice Aq k6 cq) ∧ V.cell? ⟨p + 1, 0, none⟩ = some (.bool false) ∧ V.cell? ⟨p + 1, 1, none⟩ = some (.slice Ar kr cr))) (by kernel_rfl) ?_ (fun hHeld => ?_)
  ·exact ⟨z0, z1, z2, z3⟩
  (obtain ⟨Z, hZ⟩ : ∃ Z, Y.drew = Z := ⟨_, rfl⟩; have hbx : Below Y.heap.size Y Z := (by subst hZ; exact below_drew1 (Below.refl _ _)); have HQ2 := Aside0.mk (And.intro (HQ.out.1.below hbx) (HQ.out.2.below hbx)); clear HQ; have HQ := HQ2; clear HQ2; have HM62 := Aside0.mk (And.intro HM6.out.1 (And.intro HM6.out.2.1 (HM6.out.2.2.below hbx))); clear HM6; have HM6 := HM62; clear HM62; have HX2 := Aside0.mk (HX.out.below hbx); clear HX; have HX := HX2; clear HX2; have HA2 := Aside0.mk (HA.out.trans (hbx.mono HA.out.size)); clear HA; have HA := HA2; clear HA2; have HMR2 := Aside0.mk (And.intro HMR.out.1 (And.intro (HMR.out.2.1.below hbx) (HMR.out.2.1.below hbx).rl)); clear HMR; have HMR := HMR2; clear HMR2; rw [hZ] at hHeld ⊢; clear hZ hbx z0 z1 z2 z3)
  refine tp 0 ?_
  try simp only [PU]
  refine tp 1 ?_
  try simp only [PU]
  refine tc 2 fun K hK => ?_
  go_simp
  (go_at_call 137; (with_reducible refine (rtrim_sign HMR.out.2.2 HMR.out.1 (dg_lt QQ1 _) _).mono ?_); rintro e W5 ⟨k7, g7, rfl, hg7, hk7, hm7, hbx⟩; have HM7 := Aside0.mk (And.intro hk7 (And.intro hg7 (hm7.val (val_dg QQ1 _)))); have HQ2 := Aside0.mk (And.intro (HQ.out.1.below hbx) (HQ.out.2.below hbx)); clear HQ; have HQ := HQ2; clear HQ2; have HM62 := Aside0.mk (And.intro HM6.out.1 (And.intro HM6.out.2.1 (HM6.out.2.2.below hbx))); clear HM6; have HM6 := HM62; clear HM62; have HX2 := Aside0.mk (HX.out.below hbx); clear HX; have HX := HX2; clear HX2; have HA2 := Aside0.mk (HA.out.trans (hbx.mono HA.out.size)); clear HA; have HA := HA2; clear HA2; have q0 := HX.out.o1.cell0; have q1 := HX.out.o1.cell1; have q2 := HX.out.o1.fr 0; have q3 := HX.out.o1.fr 1; have q4 := HX.out.o2.cell0; have q5 := HX.out.o2.cell1; have q6 := HX.out.o2.fr 0; have q7 := HX.out.o2.fr 1; clear hg7 hk7 hm7)
  refine hK.out _ _ ?_ fun hHeld => ?_
  ·(first | exact ⟨keepB2 hbx hHeld.1, keepB2 hbx hHeld.2.1, keepB2 hbx hHeld.2.2.1, keepB2 hbx hHeld.2.2.2⟩ | exact ⟨cell_far2 hHeld.1 HP.out.1.1, cell_far2 hHeld.2.1 HP.out.1.1, cell_far2 hHeld.2.2.1 HP.out.1.2, cell_far2 hHeld.2.2.2 HP.out.1.2⟩ | exact ⟨cell_far2 hHeld.1 HP.out.2.1, cell_far2 hHeld.2.1 HP.out.2.1, cell_far2 hHeld.2.2.1 HP.out.2.2, cell_far2 hHeld.2.2.2 HP.out.2.2⟩)
  clear hK K; try simp only [PU]
  refine tc 3 fun K hK => ?_
  go_simp
  refine hK.out _ _ ?_ fun hHeld => ?_
  ·(first | exact ⟨keepB2 hbx hHeld.1, keepB2 hbx hHeld.2.1, keepB2 hbx hHeld.2.2.1, keepB2 hbx hHeld.2.2.2⟩ | exact ⟨cell_far2 hHeld.1 HP.out.1.1, cell_far2 hHeld.2.1 HP.out.1.1, cell_far2 hHeld.2.2.1 HP.out.1.2, cell_far2 hHeld.2.2.2 HP.out.1.2⟩ | exact ⟨cell_far2 hHeld.1 HP.out.2.1, cell_far2 hHeld.2.1 HP.out.2.1, cell_far2 hHeld.2.2.1 HP.out.2.2, cell_far2 hHeld.2.2.2 HP.out.2.2⟩)
  clear hK K; try simp only [PU]
  refine tc 4 fun K hK => ?_
  go_simp
  refine hK.out _ _ ?_ fun hHeld => ?_
  ·(first | exact ⟨keepB2 hbx hHeld.1, keepB2 hbx hHeld.2.1, keepB2 hbx hHeld.2.2.1, keepB2 hbx hHeld.2.2.2⟩ | exact ⟨cell_far2 hHeld.1 HP.out.1.1, cell_far2 hHeld.2.1 HP.out.1.1, cell_far2 hHeld.2.2.1 HP.out.1.2, cell_far2 hHeld.2.2.2 HP.out.1.2⟩ | exact ⟨cell_far2 hHeld.1 HP.out.2.1, cell_far2 hHeld.2.1 HP.out.2.1, cell_far2 hHeld.2.2.1 HP.out.2.2, cell_far2 hHeld.2.2.2 HP.out.2.2⟩)
  clear hK K; try simp only [PU]
  refine wpAnyH_done (by kernel_rfl) ?_ _
  refine hK _ _ ?_
  go_wp2
  obtain ⟨o1, o2, o3, o4, o5⟩ := out2 HX.out HA.out rfl HM6.out.2.2 HM7.out.2.2 g6 g7 cq cr
  exact over_ret rfl rfl o1 o2 ⟨Aq, k6, cq, Ar, k7, cr, by rw [HM6.out.2.1, HM7.out.2.1]; first | rfl | (simp; done), HM6.out.1, HM7.out.1, o3, o4, o5⟩
 ·go_wp2_with (first | (go_at_call 152; (with_reducible refine (HOV.out _ HA.out).mono ?_); rintro e W1 ⟨Aq, kq, cq, Ar, kr, cr, rfl, hq, hr, hmq, hmr, hbx⟩; (obtain rfl : kr = 0 := hmr.len_zero.2 (HCC.out (by first | rfl | trivial))); have HMQ := Aside0.mk (And.intro hq (And.intro hmq hmq.rl)); have HMR := Aside0.mk (And.intro hr hmr); have HX2 := Aside0.mk (HX.out.below hbx); clear HX x0 x1 x2 x3; (try clear y1 y2); have HX := HX2; clear HX2; have HA2 := Aside0.mk (HA.out.trans (hbx.mono HA.out.size)); clear HA; have HA := HA2; clear HA2; have x0 := HX.out.x1.cell0; have x1 := HX.out.x1.cell1; have x2 := HX.out.x2.cell0; have x3 := HX.out.x2.cell1; have y1 := HX.out.x1.lt; have y2 := HX.out.x2.lt; clear hbx hq hr hmq hmr) | (go_at_call 137; (with_reducible refine (rtrim_sign HMQ.out.2.2 HMQ.out.1 (dg_lt QQ1 _) _).mono ?_); rintro e W2 ⟨k6, g6, rfl, hg6, hk6, hm6, hbx⟩; have HM6 := Aside0.mk (And.intro hk6 (And.intro (hg6.trans (by rw [val_dg QQ1])) (hm6.val (val_dg QQ1 _)))); have HMR2 := Aside0.mk (And.intro HMR.out.1 (HMR.out.2.below hbx)); clear HMR; have HMR := HMR2; clear HMR2; have HX2 := Aside0.mk (HX.out.below hbx); clear HX x0 x1 x2 x3; (try clear y1 y2); have HX := HX2; clear HX2; have HA2 := Aside0.mk (HA.out.trans (hbx.mono HA.out.size)); clear HA; have HA := HA2; clear HA2; have x0 := HX.out.x1.cell0; have x1 := HX.out.x1.cell1; have x2 := HX.out.x2.cell0; have x3 := HX.out.x2.cell1; have y1 := HX.out.x1.lt; have y2 := HX.out.x2.lt; clear hbx hg6 hk6 hm6))
  rename_i Q1 K hK
  obtain ⟨Y, hY⟩ : ∃ Y, ((W2.alloc (.cells #[.bool g6, .slice Aq k6 cq] 77)).alloc (.cells #[.bool false, .slice Ar 0 cr] 77)) = Y := ⟨_, rfl⟩
  have hyb : Below W2.heap.size W2 Y := by subst hY; repeat (first | exact Below.refl _ _ | apply below_alloc)
  have HQ : Aside0 (QR Y W2.heap.size (W2.heap.size + 1) g6 Aq k6 cq false Ar 0 cr) := ⟨by subst hY; exact QR.new _ _ _ _ _ _ _ _ _⟩
  have HX2 := Aside0.mk (HX.out.below hyb)
  have HA2 := Aside0.mk (HA.out.trans (hyb.mono HA.out.size))
  have HM62 := Aside0.mk (And.intro HM6.out.1 (And.intro HM6.out.2.1 (HM6.out.2.2.below hyb)))
  have HMR2 := Aside0.mk (And.intro HMR.out.1 (And.intro (HMR.out.2.below hyb) (HMR.out.2.below hyb).rl))
  have HPX : Aside0 (w.heap.size + 1 + 1 + 1 < W2.heap.size) := ⟨HX.out.o2.lt⟩
  have HP : Aside0 ((W2.heap.size ≠ w.heap.size + 1 + 1 ∧ W2.heap.size + 1 ≠ w.heap.size + 1 + 1) ∧ (W2.heap.size ≠ w.heap.size + 1 + 1 + 1 ∧ W2.heap.size + 1 ≠ w.heap.size + 1 + 1 + 1)) := ⟨by have := HPX.out; omega⟩
  clear HX HA HM6 HMR hyb x0 x1 x2 x3 y1 y2
  have HX := HX2
  have HA := HA2
  have HM6 := HM62
  have HMR := HMR2
  clear HX2 HA2 HM62 HMR2
  rw [hY]
  clear hY
  have z0 := HQ.out.1.cell0
  have z1 := HQ.out.1.cell1
  have z2 := HQ.out.2.cell0
  have z3 := HQ.out.2.cell1
  generalize W2.heap.size = p at *
  refine wp_region_held_drew (S := (fun V => V.cell? ⟨p, 0, none⟩ = some (.bool g6) ∧ V.cell? ⟨p, 1, none⟩ = some (.slice Aq k6 cq) ∧ V.cell? ⟨p + 1, 0, none⟩ = some (.bool false) ∧ V.cell? ⟨p + 1, 1, none⟩ = some (.slice Ar 0 cr))) (by kernel_rfl) ?_ (fun hHeld => ?_)
  ·exact ⟨z0, z1, z2, z3⟩
  (obtain ⟨Z, hZ⟩ : ∃ Z, Y.drew = Z := ⟨_, rfl⟩; have hbx : Below Y.heap.size Y Z := (by subst hZ; exact below_drew1 (Below.refl _ _)); have HQ2 := Aside0.mk (And.intro (HQ.out.1.below hbx) (HQ.out.2.below hbx)); clear HQ; have HQ := HQ2; clear HQ2; have HM62 := Aside0.mk (And.intro HM6.out.1 (And.intro HM6.out.2.1 (HM6.out.2.2.below hbx))); clear HM6; have HM6 := HM62; clear HM62; have HX2 := Aside0.mk (HX.out.below hbx); clear HX; have HX := HX2; clear HX2; have HA2 := Aside0.mk (HA.out.trans (hbx.mono HA.out.size)); clear HA; have HA := HA2; clear HA2; have HMR2 := Aside0.mk (And.intro HMR.out.1 (And.intro (HMR.out.2.1.below hbx) (HMR.out.2.1.below hbx).rl)); clear HMR; have HMR := HMR2; clear HMR2; rw [hZ] at hHeld ⊢; clear hZ hbx z0 z1 z2 z3)
  refine tp 0 ?_
  try simp only [PU]
  refine tp 1 ?_
  try simp only [PU]
  refine tc 2 fun K hK => ?_
  go_simp
  (go_at_call 137; (with_reducible refine (rtrim_sign HMR.out.2.2 HMR.out.1 (dg_lt QQ1 _) _).mono ?_); rintro e W5 ⟨k7, g7, rfl, hg7, hk7, hm7, hbx⟩; have HM7 := Aside0.mk (And.intro hk7 (And.intro hg7 (hm7.val (val_dg QQ1 _)))); have HQ2 := Aside0.mk (And.intro (HQ.out.1.below hbx) (HQ.out.2.below hbx)); clear HQ; have HQ := HQ2; clear HQ2; have HM62 := Aside0.mk (And.intro HM6.out.1 (And.intro HM6.out.2.1 (HM6.out.2.2.below hbx))); clear HM6; have HM6 := HM62; clear HM62; have HX2 := Aside0.mk (HX.out.below hbx); clear HX; have HX := HX2; clear HX2; have HA2 := Aside0.mk (HA.out.trans (hbx.mono HA.out.size)); clear HA; have HA := HA2; clear HA2; have q0 := HX.out.o1.cell0; have q1 := HX.out.o1.cell1; have q2 := HX.out.o1.fr 0; have q3 := HX.out.o1.fr 1; have q4 := HX.out.o2.cell0; have q5 := HX.out.o2.cell1; have q6 := HX.out.o2.fr 0; have q7 := HX.out.o2.fr 1; clear hg7 hk7 hm7)
  refine hK.out _ _ ?_ fun hHeld => ?_
  ·(first | exact ⟨keepB2 hbx hHeld.1, keepB2 hbx hHeld.2.1, keepB2 hbx hHeld.2.2.1, keepB2 hbx hHeld.2.2.2⟩ | exact ⟨cell_far2 hHeld.1 HP.out.1.1, cell_far2 hHeld.2.1 HP.out.1.1, cell_far2 hHeld.2.2.1 HP.out.1.2, cell_far2 hHeld.2.2.2 HP.out.1.2⟩ | exact ⟨cell_far2 hHeld.1 HP.out.2.1, cell_far2 hHeld.2.1 HP.out.2.1, cell_far2 hHeld.2.2.1 HP.out.2.2, cell_far2 hHeld.2.2.2 HP.out.2.2⟩)
  clear hK K; try simp only [PU]
  refine tc 3 fun K hK => ?_
  go_simp
  refine hK.out _ _ ?_ fun hHeld => ?_
  ·(first | exact ⟨keepB2 hbx hHeld.1, keepB2 hbx hHeld.2.1, keepB2 hbx hHeld.2.2.1, keepB2 hbx hHeld.2.2.2⟩ | exact ⟨cell_far2 hHeld.1 HP.out.1.1, cell_far2 hHeld.2.1 HP.out.1.1, cell_far2 hHeld.2.2.1 HP.out.1.2, cell_far2 hHeld.2.2.2 HP.out.1.2⟩ | exact ⟨cell_far2 hHeld.1 HP.out.2.1, cell_far2 hHeld.2.1 HP.out.2.1, cell_far2 hHeld.2.2.1 HP.out.2.2, cell_far2 hHeld.2.2.2 HP.out.2.2⟩)
  clear hK K; try simp only [PU]
  refine tc 4 fun K hK => ?_
  go_simp
  refine hK.out _ _ ?_ fun hHeld => ?_
  ·(first | exact ⟨keepB2 hbx hHeld.1, keepB2 hbx hHeld.2.1, keepB2 hbx hHeld.2.2.1, keepB2 hbx hHeld.2.2.2⟩ | exact ⟨cell_far2 hHeld.1 HP.out.1.1, cell_far2 hHeld.2.1 HP.out.1.1, cell_far2 hHeld.2.2.1 HP.out.1.2, cell_far2 hHeld.2.2.2 HP.out.1.2⟩ | exact ⟨cell_far2 hHeld.1 HP.out.2.1, cell_far2 hHeld.2.1 HP.out.2.1, cell_far2 hHeld.2.2.1 HP.out.2.2, cell_far2 hHeld.2.2.2 HP.out.2.2⟩)
  clear hK K; try simp only [PU]
  refine wpAnyH_done (by kernel_rfl) ?_ _
  refine hK _ _ ?_
  go_wp2
  obtain ⟨o1, o2, o3, o4, o5⟩ := out2 HX.out HA.out rfl HM6.out.2.2 HM7.out.2.2 g6 g7 cq cr
  exact over_ret rfl rfl o1 o2 ⟨Aq, k6, cq, Ar, k7, cr, by rw [HM6.out.2.1, HM7.out.2.1]; first | rfl | (simp; done), HM6.out.1, HM7.out.1, o3, o4, o5⟩
theorem rOver_adj {w : World} {A1 A2 : Option Addr} {L1 L2 c1 c2 m n : Nat} {f2 gz : Bool} {xq z : Int} {zn : Nat} (hgz : gz = decide (z < 0)) (hzn : zn = z.natAbs) (h1 : RM w A1 L1 m) (h2 : RM w A2 L2 n) (h0 : 0 < n) (hL1 : L1 ≤ 40000) (hL2 : L2 ≤ 40000) (hr0 : m % n ≠ 0) (hxn : xq.natAbs = m / n) (hxf : ((!f2) && decide (m / n ≠ 0)) = decide (xq < 0)) (hz : z = if f2 = true then xq + 1 else xq - 1) :
 Calls Tryz.prog 92 #[.agg #[.bool true, .slice A1 L1 c1], .agg #[.bool f2, .slice A2 L2 c2]] w fun e w' => ∃ A k c A' k' c', e = .returned (.tuple #[.agg #[.bool gz, .slice A k c], .agg #[.bool false, .slice A' k' c']]) ∧ k ≤ c ∧ k' ≤ c' ∧ RM w' A k zn ∧ RM w' A' k' (n - m % n) ∧ Below w.heap.size w w' := by
 have HOV : Aside0 (∀ W, Below w.heap.size w W → Calls Tryz.prog 152 #[.slice A1 L1 c1, .slice A2 L2 c2] W fun e w' => ∃ A k c A' k' c', e = .returned (.tuple #[.slice A k c, .slice A' k' c']) ∧ k ≤ c ∧ k' ≤ c' ∧ RM w' A k (m / n) ∧ RM w' A' k' (m % n) ∧ Below W.heap.size W w') := ⟨fun W hb => rover_calls (h1.below hb) (h2.below hb) h0 hL1 hL2⟩
 have H2 := h2.at_below
 have HMN : Aside0 (m % n ≤ n ∧ L2 ≤ 100000 ∧ m < QQ ^ L1) := ⟨Nat.le_of_lt (Nat.mod_lt _ h0), by omega, by have := dg_lt_pow QQ1 m; rwa [h1.len] at this⟩
 have HXF := Aside0.mk (And.intro hxn hxf)
 clear h1 h2 hxn hxf
 go_enter Tryz.func92, Tryz.ntmps92
 go_wp2_with fail
 obtain ⟨wr, hwr⟩ : ∃ wr, ((((w.alloc (.cells #[.bool true, .slice A1 L1 c1] 77)).alloc (.cells #[.bool f2, .slice A2 L2 c2] 77)).alloc (.cells #[.bool false, .slice none 0 0] 77)).alloc (.cells #[.bool false, .slice none 0 0] 77)) = wr := ⟨_, rfl⟩
 have HX : Aside0 (F4 wr w.heap.size true A1 L1 c1 f2 A2 L2 c2) := ⟨by subst hwr; exact F4.new _ _ _ _ _ _ _ _ _⟩
 have HA : Aside0 (Below w.heap.size w wr) := ⟨by subst hwr; repeat (first | exact Below.refl _ _ | apply below_alloc)⟩
 have x0 := HX.out.x1.cell0
 have x1 := HX.out.x1.cell1
 have x2 := HX.out.x2.cell0
 have x3 := HX.out.x2.cell1
 rw [hwr]
 clear hwr
 go_upto_region 4 with (first | (go_at_call 152; (with_reducible refine (HOV.out _ HA.out).mono ?_); rintro e W1 ⟨Aq, kq, cq, Ar, kr, cr, rfl, hq, hr, hmq, hmr, hbx⟩; (have hkp : 0 < kr := Nat.pos_of_ne_zero (fun e => hr0 (hmr.len_zero.1 e)); have hkp2 : (0 : Int) < (kr : Int) := (by omega)); have HMQ := Aside0.mk (And.intro hq (And.intro hmq hmq.rl)); have HMR := Aside0.mk (And.intro hr hmr); have HX2 := Aside0.mk (HX.out.below hbx); clear HX x0 x1 x2 x3; (try clear y1 y2); have HX := HX2; clear HX2; have HA2 := Aside0.mk (HA.out.trans (hbx.mono HA.out.size)); clear HA; have HA := HA2; clear HA2; have x0 := HX.out.x1.cell0; have x1 := HX.out.x1.cell1; have x2 := HX.out.x2.cell0; have x3 := HX.out.x2.cell1; have y1 := HX.out.x1.lt; have y2 := HX.out.x2.lt; clear hbx hq hr hmq hmr) | (go_at_call 137; (with_reducible refine (rtrim_sign HMQ.out.2.2 HMQ.out.1 (dg_lt QQ1 _) _).mono ?_); rintro e W2 ⟨k6, g6, rfl, hg6, hk6, hm6, hbx⟩; have HM6 := Aside0.mk (And.intro hk6 (And.intro (hg6.trans (by rw [val_dg QQ1])) (hm6.val (val_dg QQ1 _)))); have HMR2 := Aside0.mk (And.intro HMR.out.1 (HMR.out.2.below hbx)); clear HMR; have HMR := HMR2; clear HMR2; have HX2 := Aside0.mk (HX.out.below hbx); clear HX x0 x1 x2 x3; (try clear y1 y2); have HX := HX2; clear HX2; have HA2 := Aside0.mk (HA.out.trans (hbx.mono HA.out.size)); clear HA; have HA := HA2; clear HA2; have x0 := HX.out.x1.cell0; have x1 := HX.out.x1.cell1; have x2 := HX.out.x2.cell0; have x3 := HX.out.x2.cell1; have y1 := HX.out.x1.lt; have y2 := HX.out.x2.lt; clear hbx hg6 hk6 hm6))
 rename_i K hK
 obtain ⟨Y, hY⟩ : ∃ Y, ((W2.alloc (.cells #[.bool g6, .slice Aq k6 cq] 77)).alloc (.cells #[.bool false, .slice Ar kr cr] 77)) = Y := ⟨_, rfl⟩
 have hyb : Below W2.heap.size W2 Y := by subst hY; repeat (first | exact Below.refl _ _ | apply below_alloc)
 have HQ : Aside0 (QR Y W2.heap.size (W2.heap.size + 1) g6 Aq k6 cq false Ar kr cr) := ⟨by subst hY; exact QR.new _ _ _ _ _ _ _ _ _⟩
 have HX2 := Aside0.mk (HX.out.below hyb)
 have HA2 := Aside0.mk (HA.out.trans (hyb.mono HA.out.size))
 have HM62 := Aside0.mk (And.intro HM6.out.1 (And.intro HM6.out.2.1 (HM6.out.2.2.below hyb)))
 have HMR2 := Aside0.mk (And.intro HMR.out.1 (And.intro (HMR.out.2.below hyb) (HMR.out.2.below hyb).rl))
 have HPX : Aside0 (w.heap.size + 1 + 1 + 1 < W2.heap.size) := ⟨HX.out.o2.lt⟩
 have HP : Aside0 ((W2.heap.size ≠ w.heap.size + 1 + 1 ∧ W2.heap.size + 1 ≠ w.heap.size + 1 + 1) ∧ (W2.heap.size ≠ w.heap.size + 1 + 1 + 1 ∧ W2.heap.size + 1 ≠ w.heap.size + 1 + 1 + 1)) := ⟨by have := HPX.out; omega⟩
 clear HX HA HM6 HMR hyb x0 x1 x2 x3 y1 y2
 have HX := HX2
 have HA := HA2
 have HM6 := HM62
 have HMR := HMR2
 clear HX2 HA2 HM62 HMR2
 rw [hY]
 clear hY
 have z0 := HQ.out.1.cell0
 have z1 := HQ.out.1.cell1
 have z2 := HQ.out.2.cell0
 have z3 := HQ.out.2.cell1
 generalize W2.heap.size = p at *
 have x2 := HX.out.x2.cell0
 have x3 := HX.out.x2.cell1
 go_upto_region 5 with (first | (go_at_call 148; (with_reducible refine (rminus_calls (H2.out _ HA.out) HMR.out.2.1 HMN.out.1 HMN.out.2.1).mono ?_); rintro e W3 ⟨A5, k5, c5, rfl, hk5, hm5, hbx⟩; have HM5 := Aside0.mk (And.intro hk5 hm5); have HQ2 := Aside0.mk (And.intro (HQ.out.1.below hbx) (HQ.out.2.below hbx)); clear HQ; have HQ := HQ2; clear HQ2; have HM62 := Aside0.mk (And.intro HM6.out.1 (And.intro HM6.out.2.1 (HM6.out.2.2.below hbx))); clear HM6; have HM6 := HM62; clear HM62; have HX2 := Aside0.mk (HX.out.below hbx); clear HX; have HX := HX2; clear HX2; have HA2 := Aside0.mk (HA.out.trans (hbx.mono HA.out.size)); clear HA; have HA := HA2; clear HA2; clear hbx hk5 hm5 z0 z1 z2 z3 x2 x3; have z2 := HQ.out.2.cell0; have z3 := HQ.out.2.cell1; have z4 := HQ.out.2.fr 0; have z5 := HQ.out.2.fr 1))
 have hq1 := HQ.out.2.put0 false
 obtain ⟨Y2, hY2⟩ : ∃ Y2, ((W3.setCell ⟨p + 1, 0, none⟩ (.bool false)).setCell ⟨p + 1, 1, none⟩ (.slice A5 k5 c5)) = Y2 := ⟨_, rfl⟩
 have HQ2 : Aside0 (QR Y2 p (p + 1) g6 Aq k6 cq false A5 k5 c5) := ⟨by subst hY2; exact ⟨(HQ.out.1.other (by omega) _ _).other (by omega) _ _, hq1.put1 _ _ _⟩⟩
 have HX2 : Aside0 (F4 Y2 w.heap.size true A1 L1 c1 f2 A2 L2 c2) := ⟨by subst hY2; exact (HX.out.other (by have := HPX.out; omega) _ _).other (by have := HPX.out; omega) _ _⟩
 have HA2 : Aside0 (Below w.heap.size w Y2) := ⟨by subst hY2; exact (HA.out.setCell (by have := HPX.out; simp; omega) _).setCell (by have := HPX.out; simp; omega) _⟩
 have HM62 := Aside0.mk (And.intro HM6.out.1 (And.intro HM6.out.2.1 (show RM Y2 Aq k6 (m / n) by subst hY2; exact (HM6.out.2.2.bg HQ.out.2 0 _).bg hq1 1 _)))
 have HM52 := Aside0.mk (And.intro HM5.out.1 (show RM Y2 A5 k5 (n - m % n) by subst hY2; exact (HM5.out.2.bg HQ.out.2 0 _).bg hq1 1 _))
 clear HQ HX HA HM6 HM5 HMR z2 z3 z4 z5 hq1
 have HQ := HQ2
 have HX := HX2
 have HA := HA2
 have HM6 := HM62
 have HM5 := HM52
 clear HQ2 HX2 HA2 HM62 HM52
 rw [hY2]
 clear hY2
 have HPL : Aside0 (∀ (W : World) (A8 : Option Addr) (k8 c8 : Nat), RM W Aq k6 (m / n) → k8 ≤ c8 → RM W A8 k8 1 → Calls Tryz.prog (if f2 = true then 82 else 84) #[.agg #[.bool g6, .slice Aq k6 cq], .agg #[.bool false, .slice A8 k8 c8]] W fun e w' => ∃ A k c, e = .returned (.agg #[.bool gz, .slice A k c]) ∧ k ≤ c ∧ RM w' A k zn ∧ Below W.heap.size W w') := ⟨fun W A8 k8 c8 hq hc h8 => by
  subst hgz hzn
  have hk6 : k6 ≤ 100000 := Nat.le_trans (hq.bound (Nat.lt_of_le_of_lt (Nat.div_le_self _ _) HMN.out.2.2)) (by omega)
  have hk8 : k8 ≤ 1 := h8.bound (by decide)
  have hq' : RM W Aq k6 xq.natAbs := hq.val HXF.out.1.symm
  rw [HM6.out.2.1, HXF.out.2, hz]
  cases f2
  ·exact rMinus_calls (x := xq) (y := 1) hq' h8 hc hk6 (by omega)
  ·exact rPlus_calls (x := xq) (y := 1) hq' h8 hk6 (by omega)⟩
 have HSM : Aside0 (∀ W, Calls Tryz.prog 70 #[.int .i64 1] W fun e w' => ∃ A k c, e = .returned (.agg #[.bool false, .slice A k c]) ∧ k ≤ c ∧ RM w' A k 1 ∧ Below W.heap.size W w') := ⟨fun W => rSmall_calls (w := W) (n := 1) (by omega) (by omega)⟩
 clear hz HXF hgz hzn
 have x2 := HX.out.x2.cell0
 cases f2
 ·skip
  have HPL2 : Aside0 (∀ (W : World) (A8 : Option Addr) (k8 c8 : Nat), RM W Aq k6 (m / n) → k8 ≤ c8 → RM W A8 k8 1 → Calls Tryz.prog 84 #[.agg #[.bool g6, .slice Aq k6 cq], .agg #[.bool false, .slice A8 k8 c8]] W fun e w' => ∃ A k c, e = .returned (.agg #[.bool gz, .slice A k c]) ∧ k ≤ c ∧ RM w' A k zn ∧ Below W.heap.size W w') := ⟨HPL.out⟩
  clear HPL
  go_upto_region 7 with fail
  clear x2
  rename_i K hK
  refine wp_region_held_drew (S := (fun _ => True)) (by kernel_rfl) ?_ (fun hHeld => ?_)
  ·trivial
  (obtain ⟨Z, hZ⟩ : ∃ Z, Y2.drew = Z := ⟨_, rfl⟩; have hbx : Below Y2.heap.size Y2 Z := (by subst hZ; exact below_drew1 (Below.refl _ _)); have HQ2 := Aside0.mk (And.intro (HQ.out.1.below hbx) (HQ.out.2.below hbx)); clear HQ; have HQ := HQ2; clear HQ2; have HM62 := Aside0.mk (And.intro HM6.out.1 (And.intro HM6.out.2.1 (HM6.out.2.2.below hbx))); clear HM6; have HM6 := HM62; clear HM62; have HX2 := Aside0.mk (HX.out.below hbx); clear HX; have HX := HX2; clear HX2; have HA2 := Aside0.mk (HA.out.trans (hbx.mono HA.out.size)); clear HA; have HA := HA2; clear HA2; have HM52 := Aside0.mk (And.intro HM5.out.1 (HM5.out.2.below hbx)); clear HM5; have HM5 := HM52; clear HM52; have z0 := HQ.out.1.cell0; have z1 := HQ.out.1.cell1; have z6 := HQ.out.1.fr 0; have z7 := HQ.out.1.fr 1; rw [hZ]; clear hZ hbx)
  repeat' (first
   | (refine fun (_ : Tg 0) K hK => ?_; go_simp; refine hK.out _ _ ?_ fun hHeld => ?_; (trivial); clear hK K; try simp only [PU])
   | (refine fun (_ : Tg 1) K hK => ?_; go_simp; (go_at_call 70; (with_reducible refine (HSM.out _).mono ?_); rintro e W6 ⟨A8, k8, c8, rfl, hk8, hm8, hbx⟩; have HM8 := Aside0.mk (And.intro hk8 hm8); clear z0 z1 z6 z7; have HQ2 := Aside0.mk (And.intro (HQ.out.1.below hbx) (HQ.out.2.below hbx)); clear HQ; have HQ := HQ2; clear HQ2; have HM62 := Aside0.mk (And.intro HM6.out.1 (And.intro HM6.out.2.1 (HM6.out.2.2.below hbx))); clear HM6; have HM6 := HM62; clear HM62; have HX2 := Aside0.mk (HX.out.below hbx); clear HX; have HX := HX2; clear HX2; have HA2 := Aside0.mk (HA.out.trans (hbx.mono HA.out.size)); clear HA; have HA := HA2; clear HA2; have HM52 := Aside0.mk (And.intro HM5.out.1 (HM5.out.2.below hbx)); clear HM5; have HM5 := HM52; clear HM52; have z0 := HQ.out.1.cell0; have z1 := HQ.out.1.cell1; have z6 := HQ.out.1.fr 0; have z7 := HQ.out.1.fr 1; clear hbx hk8 hm8); refine hK.out _ _ ?_ fun hHeld => ?_; (trivial); clear hK K; try simp only [PU])
   | (refine fun (_ : Tg 2) K hK => ?_; go_simp; (go_at_call 84; (with_reducible refine (HPL2.out _ _ _ _ HM6.out.2.2 HM8.out.1 HM8.out.2).mono ?_); rintro e W7 ⟨A9, k9, c9, rfl, hk9, hm9, hbx⟩; have HM9 := Aside0.mk (And.intro hk9 hm9); clear z0 z1 z6 z7; have HQ2 := Aside0.mk (And.intro (HQ.out.1.below hbx) (HQ.out.2.below hbx)); clear HQ; have HQ := HQ2; clear HQ2; have HM62 := Aside0.mk (And.intro HM6.out.1 (And.intro HM6.out.2.1 (HM6.out.2.2.below hbx))); clear HM6; have HM6 := HM62; clear HM62; have HX2 := Aside0.mk (HX.out.below hbx); clear HX; have HX := HX2; clear HX2; have HA2 := Aside0.mk (HA.out.trans (hbx.mono HA.out.size)); clear HA; have HA := HA2; clear HA2; have HM52 := Aside0.mk (And.intro HM5.out.1 (HM5.out.2.below hbx)); clear HM5; have HM5 := HM52; clear HM52; have z0 := HQ.out.1.cell0; have z1 := HQ.out.1.cell1; have z6 := HQ.out.1.fr 0; have z7 := HQ.out.1.fr 1; clear hbx hk9 hm9); refine hK.out _ _ ?_ fun hHeld => ?_; (trivial); clear hK K; try simp only [PU])
   | (refine fun (_ : Tg 3) K hK => ?_; go_simp; refine hK.out _ _ ?_ fun hHeld => ?_; (trivial); clear hK K; try simp only [PU])
   | refine t1 1 ?_
   | refine t1 2 ?_
   | refine t1 3 ?_
   | refine t1 0 ?_
   | refine t2 0 1 ?_ ?_
   | fail)
  all_goals
   refine wpAnyH_done (by kernel_rfl) ?_ _
   (refine hK _ _ ?_; obtain ⟨Y, hY⟩ : ∃ Y, ((W7.setCell ⟨p, 0, none⟩ (.bool gz)).setCell ⟨p, 1, none⟩ (.slice A9 k9 c9)) = Y := ⟨_, rfl⟩; obtain ⟨HX2, HA2, HQ2, HM62, HMR⟩ := step_end HX HA HQ HM9 HM5 HPX hY; clear HQ HX HA HM6 HM5 HM9 z0 z1 z6 z7; have HQ := HQ2; have HX := HX2; have HA := HA2; have HM6 := HM62; clear HQ2 HX2 HA2 HM62; rw [hY]; clear hY; have HP : Aside0 ((p ≠ w.heap.size + 1 + 1 ∧ p + 1 ≠ w.heap.size + 1 + 1) ∧ (p ≠ w.heap.size + 1 + 1 + 1 ∧ p + 1 ≠ w.heap.size + 1 + 1 + 1)) := ⟨by have := HPX.out; omega⟩; have z0 := HQ.out.1.cell0; have z1 := HQ.out.1.cell1; have z2 := HQ.out.2.cell0; have z3 := HQ.out.2.cell1; go_wp2_with fail)
  all_goals
   rename_i K hK
   refine wp_region_held_drew (S := (fun V => V.cell? ⟨p, 0, none⟩ = some (.bool gz) ∧ V.cell? ⟨p, 1, none⟩ = some (.slice A9 k9 c9) ∧ V.cell? ⟨p + 1, 0, none⟩ = some (.bool false) ∧ V.cell? ⟨p + 1, 1, none⟩ = some (.slice A5 k5 c5))) (by kernel_rfl) ?_ (fun hHeld => ?_)
   ·exact ⟨z0, z1, z2, z3⟩
   (obtain ⟨Z, hZ⟩ : ∃ Z, Y.drew = Z := ⟨_, rfl⟩; have hbx : Below Y.heap.size Y Z := (by subst hZ; exact below_drew1 (Below.refl _ _)); have HQ2 := Aside0.mk (And.intro (HQ.out.1.below hbx) (HQ.out.2.below hbx)); clear HQ; have HQ := HQ2; clear HQ2; have HM62 := Aside0.mk (And.intro HM6.out.1 (And.intro HM6.out.2.1 (HM6.out.2.2.below hbx))); clear HM6; have HM6 := HM62; clear HM62; have HX2 := Aside0.mk (HX.out.below hbx); clear HX; have HX := HX2; clear HX2; have HA2 := Aside0.mk (HA.out.trans (hbx.mono HA.out.size)); clear HA; have HA := HA2; clear HA2; have HMR2 := Aside0.mk (And.intro HMR.out.1 (And.intro (HMR.out.2.1.below hbx) (HMR.out.2.1.below hbx).rl)); clear HMR; have HMR := HMR2; clear HMR2; rw [hZ] at hHeld ⊢; clear hZ hbx z0 z1 z2 z3)
   refine tp 0 ?_
   try simp only [PU]
   refine tp 1 ?_
   try simp only [PU]
   refine tc 2 fun K hK => ?_
   go_simp
   (go_at_call 137; (with_reducible refine (rtrim_sign HMR.out.2.2 HMR.out.1 (dg_lt QQ1 _) _).mono ?_); rintro e W5 ⟨k7, g7, rfl, hg7, hk7, hm7, hbx⟩; have HM7 := Aside0.mk (And.intro hk7 (And.intro hg7 (hm7.val (val_dg QQ1 _)))); have HQ2 := Aside0.mk (And.intro (HQ.out.1.below hbx) (HQ.out.2.below hbx)); clear HQ; have HQ := HQ2; clear HQ2; have HM62 := Aside0.mk (And.intro HM6.out.1 (And.intro HM6.out.2.1 (HM6.out.2.2.below hbx))); clear HM6; have HM6 := HM62; clear HM62; have HX2 := Aside0.mk (HX.out.below hbx); clear HX; have HX := HX2; clear HX2; have HA2 := Aside0.mk (HA.out.trans (hbx.mono HA.out.size)); clear HA; have HA := HA2; clear HA2; have q0 := HX.out.o1.cell0; have q1 := HX.out.o1.cell1; have q2 := HX.out.o1.fr 0; have q3 := HX.out.o1.fr 1; have q4 := HX.out.o2.cell0; have q5 := HX.out.o2.cell1; have q6 := HX.out.o2.fr 0; have q7 := HX.out.o2.fr 1; clear hg7 hk7 hm7)
   refine hK.out _ _ ?_ fun hHeld => ?_
   ·(first | exact ⟨keepB2 hbx hHeld.1, keepB2 hbx hHeld.2.1, keepB2 hbx hHeld.2.2.1, keepB2 hbx hHeld.2.2.2⟩ | exact ⟨cell_far2 hHeld.1 HP.out.1.1, cell_far2 hHeld.2.1 HP.out.1.1, cell_far2 hHeld.2.2.1 HP.out.1.2, cell_far2 hHeld.2.2.2 HP.out.1.2⟩ | exact ⟨cell_far2 hHeld.1 HP.out.2.1, cell_far2 hHeld.2.1 HP.out.2.1, cell_far2 hHeld.2.2.1 HP.out.2.2, cell_far2 hHeld.2.2.2 HP.out.2.2⟩)
   clear hK K; try simp only [PU]
   refine tc 3 fun K hK => ?_
   go_simp
   refine hK.out _ _ ?_ fun hHeld => ?_
   ·(first | exact ⟨keepB2 hbx hHeld.1, keepB2 hbx hHeld.2.1, keepB2 hbx hHeld.2.2.1, keepB2 hbx hHeld.2.2.2⟩ | exact ⟨cell_far2 hHeld.1 HP.out.1.1, cell_far2 hHeld.2.1 HP.out.1.1, cell_far2 hHeld.2.2.1 HP.out.1.2, cell_far2 hHeld.2.2.2 HP.out.1.2⟩ | exact ⟨cell_far2 hHeld.1 HP.out.2.1, cell_far2 hHeld.2.1 HP.out.2.1, cell_far2 hHeld.2.2.1 HP.out.2.2, cell_far2 hHeld.2.2.2 HP.out.2.2⟩)
   clear hK K; try simp only [PU]
   refine tc 4 fun K hK => ?_
   go_simp
   refine hK.out _ _ ?_ fun hHeld => ?_
   ·(first | exact ⟨keepB2 hbx hHeld.1, keepB2 hbx hHeld.2.1, keepB2 hbx hHeld.2.2.1, keepB2 hbx hHeld.2.2.2⟩ | exact ⟨cell_far2 hHeld.1 HP.out.1.1, cell_far2 hHeld.2.1 HP.out.1.1, cell_far2 hHeld.2.2.1 HP.out.1.2, cell_far2 hHeld.2.2.2 HP.out.1.2⟩ | exact ⟨cell_far2 hHeld.1 HP.out.2.1, cell_far2 hHeld.2.1 HP.out.2.1, cell_far2 hHeld.2.2.1 HP.out.2.2, cell_far2 hHeld.2.2.2 HP.out.2.2⟩)
   clear hK K; try simp only [PU]
   refine wpAnyH_done (by kernel_rfl) ?_ _
   refine hK _ _ ?_
   go_wp2
   obtain ⟨o1, o2, o3, o4, o5⟩ := out2 HX.out HA.out rfl HM6.out.2.2 HM7.out.2.2 gz g7 c9 c5
   exact over_ret rfl rfl o1 o2 ⟨A9, k9, c9, A5, k7, c5, by rw [HM7.out.2.1]; first | rfl | (simp; done), HM6.out.1, HM7.out.1, o3, o4, o5⟩
 ·skip
  have HPL2 : Aside0 (∀ (W : World) (A8 : Option Addr) (k8 c8 : Nat), RM W Aq k6 (m / n) → k8 ≤ c8 → RM W A8 k8 1 → Calls Tryz.prog 82 #[.agg #[.bool g6, .slice Aq k6 cq], .agg #[.bool false, .slice A8 k8 c8]] W fun e w' => ∃ A k c, e = .returned (.agg #[.bool gz, .slice A k c]) ∧ k ≤ c ∧ RM w' A k zn ∧ Below W.heap.size W w') := ⟨HPL.out⟩
  clear HPL
  go_upto_region 6 with fail
  clear x2
  rename_i K hK
  refine wp_region_held_drew (S := (fun _ => True)) (by kernel_rfl) ?_ (fun hHeld => ?_)
  ·trivial
  (obtain ⟨Z, hZ⟩ : ∃ Z, Y2.drew = Z := ⟨_, rfl⟩; have hbx : Below Y2.heap.size Y2 Z := (by subst hZ; exact below_drew1 (Below.refl _ _)); have HQ2 := Aside0.mk (And.intro (HQ.out.1.below hbx) (HQ.out.2.below hbx)); clear HQ; have HQ := HQ2; clear HQ2; have HM62 := Aside0.mk (And.intro HM6.out.1 (And.intro HM6.out.2.1 (HM6.out.2.2.below hbx))); clear HM6; have HM6 := HM62; clear HM62; have HX2 := Aside0.mk (HX.out.below hbx); clear HX; have HX := HX2; clear HX2; have HA2 := Aside0.mk (HA.out.trans (hbx.mono HA.out.size)); clear HA; have HA := HA2; clear HA2; have HM52 := Aside0.mk (And.intro HM5.out.1 (HM5.out.2.below hbx)); clear HM5; have HM5 := HM52; clear HM52; have z0 := HQ.out.1.cell0; have z1 := HQ.out.1.cell1; have z6 := HQ.out.1.fr 0; have z7 := HQ.out.1.fr 1; rw [hZ]; clear hZ hbx)
  repeat' (first
   | (refine fun (_ : Tg 0) K hK => ?_; go_simp; refine hK.out _ _ ?_ fun hHeld => ?_; (trivial); clear hK K; try simp only [PU])
   | (refine fun (_ : Tg 1) K hK => ?_; go_simp; (go_at_call 70; (with_reducible refine (HSM.out _).mono ?_); rintro e W6 ⟨A8, k8, c8, rfl, hk8, hm8, hbx⟩; have HM8 := Aside0.mk (And.intro hk8 hm8); clear z0 z1 z6 z7; have HQ2 := Aside0.mk (And.intro (HQ.out.1.below hbx) (HQ.out.2.below hbx)); clear HQ; have HQ := HQ2; clear HQ2; have HM62 := Aside0.mk (And.intro HM6.out.1 (And.intro HM6.out.2.1 (HM6.out.2.2.below hbx))); clear HM6; have HM6 := HM62; clear HM62; have HX2 := Aside0.mk (HX.out.below hbx); clear HX; have HX := HX2; clear HX2; have HA2 := Aside0.mk (HA.out.trans (hbx.mono HA.out.size)); clear HA; have HA := HA2; clear HA2; have HM52 := Aside0.mk (And.intro HM5.out.1 (HM5.out.2.below hbx)); clear HM5; have HM5 := HM52; clear HM52; have z0 := HQ.out.1.cell0; have z1 := HQ.out.1.cell1; have z6 := HQ.out.1.fr 0; have z7 := HQ.out.1.fr 1; clear hbx hk8 hm8); refine hK.out _ _ ?_ fun hHeld => ?_; (trivial); clear hK K; try simp only [PU])
   | (refine fun (_ : Tg 2) K hK => ?_; go_simp; (go_at_call 82; (with_reducible refine (HPL2.out _ _ _ _ HM6.out.2.2 HM8.out.1 HM8.out.2).mono ?_); rintro e W7 ⟨A9, k9, c9, rfl, hk9, hm9, hbx⟩; have HM9 := Aside0.mk (And.intro hk9 hm9); clear z0 z1 z6 z7; have HQ2 := Aside0.mk (And.intro (HQ.out.1.below hbx) (HQ.out.2.below hbx)); clear HQ; have HQ := HQ2; clear HQ2; have HM62 := Aside0.mk (And.intro HM6.out.1 (And.intro HM6.out.2.1 (HM6.out.2.2.below hbx))); clear HM6; have HM6 := HM62; clear HM62; have HX2 := Aside0.mk (HX.out.below hbx); clear HX; have HX := HX2; clear HX2; have HA2 := Aside0.mk (HA.out.trans (hbx.mono HA.out.size)); clear HA; have HA := HA2; clear HA2; have HM52 := Aside0.mk (And.intro HM5.out.1 (HM5.out.2.below hbx)); clear HM5; have HM5 := HM52; clear HM52; have z0 := HQ.out.1.cell0; have z1 := HQ.out.1.cell1; have z6 := HQ.out.1.fr 0; have z7 := HQ.out.1.fr 1; clear hbx hk9 hm9); refine hK.out _ _ ?_ fun hHeld => ?_; (trivial); clear hK K; try simp only [PU])
   | (refine fun (_ : Tg 3) K hK => ?_; go_simp; refine hK.out _ _ ?_ fun hHeld => ?_; (trivial); clear hK K; try simp only [PU])
   | refine t1 1 ?_
   | refine t1 2 ?_
   | refine t1 3 ?_
   | refine t1 0 ?_
   | refine t2 0 1 ?_ ?_
   | fail)
  all_goals
   refine wpAnyH_done (by kernel_rfl) ?_ _
   (refine hK _ _ ?_; obtain ⟨Y, hY⟩ : ∃ Y, ((W7.setCell ⟨p, 0, none⟩ (.bool gz)).setCell ⟨p, 1, none⟩ (.slice A9 k9 c9)) = Y := ⟨_, rfl⟩; obtain ⟨HX2, HA2, HQ2, HM62, HMR⟩ := step_end HX HA HQ HM9 HM5 HPX hY; clear HQ HX HA HM6 HM5 HM9 z0 z1 z6 z7; have HQ := HQ2; have HX := HX2; have HA := HA2; have HM6 := HM62; clear HQ2 HX2 HA2 HM62; rw [hY]; clear hY; have HP : Aside0 ((p ≠ w.heap.size + 1 + 1 ∧ p + 1 ≠ w.heap.size + 1 + 1) ∧ (p ≠ w.heap.size + 1 + 1 + 1 ∧ p + 1 ≠ w.heap.size + 1 + 1 + 1)) := ⟨by have := HPX.out; omega⟩; have z0 := HQ.out.1.cell0; have z1 := HQ.out.1.cell1; have z2 := HQ.out.2.cell0; have z3 := HQ.out.2.cell1; go_wp2_with fail)
  all_goals
   rename_i K hK
   refine wp_region_held_drew (S := (fun V => V.cell? ⟨p, 0, none⟩ = some (.bool gz) ∧ V.cell? ⟨p, 1, none⟩ = some (.slice A9 k9 c9) ∧ V.cell? ⟨p + 1, 0, none⟩ = some (.bool false) ∧ V.cell? ⟨p + 1, 1, none⟩ = some (.slice A5 k5 c5))) (by kernel_rfl) ?_ (fun hHeld => ?_)
   ·exact ⟨z0, z1, z2, z3⟩
   (obtain ⟨Z, hZ⟩ : ∃ Z, Y.drew = Z := ⟨_, rfl⟩; have hbx : Below Y.heap.size Y Z := (by subst hZ; exact below_drew1 (Below.refl _ _)); have HQ2 := Aside0.mk (And.intro (HQ.out.1.below hbx) (HQ.out.2.below hbx)); clear HQ; have HQ := HQ2; clear HQ2; have HM62 := Aside0.mk (And.intro HM6.out.1 (And.intro HM6.out.2.1 (HM6.out.2.2.below hbx))); clear HM6; have HM6 := HM62; clear HM62; have HX2 := Aside0.mk (HX.out.below hbx); clear HX; have HX := HX2; clear HX2; have HA2 := Aside0.mk (HA.out.trans (hbx.mono HA.out.size)); clear HA; have HA := HA2; clear HA2; have HMR2 := Aside0.mk (And.intro HMR.out.1 (And.intro (HMR.out.2.1.below hbx) (HMR.out.2.1.below hbx).rl)); clear HMR; have HMR := HMR2; clear HMR2; rw [hZ] at hHeld ⊢; clear hZ hbx z0 z1 z2 z3)
   refine tp 0 ?_
   try simp only [PU]
   refine tp 1 ?_
   try simp only [PU]
   refine tc 2 fun K hK => ?_
   go_simp
   (go_at_call 137; (with_reducible refine (rtrim_sign HMR.out.2.2 HMR.out.1 (dg_lt QQ1 _) _).mono ?_); rintro e W5 ⟨k7, g7, rfl, hg7, hk7, hm7, hbx⟩; have HM7 := Aside0.mk (And.intro hk7 (And.intro hg7 (hm7.val (val_dg QQ1 _)))); have HQ2 := Aside0.mk (And.intro (HQ.out.1.below hbx) (HQ.out.2.below hbx)); clear HQ; have HQ := HQ2; clear HQ2; have HM62 := Aside0.mk (And.intro HM6.out.1 (And.intro HM6.out.2.1 (HM6.out.2.2.below hbx))); clear HM6; have HM6 := HM62; clear HM62; have HX2 := Aside0.mk (HX.out.below hbx); clear HX; have HX := HX2; clear HX2; have HA2 := Aside0.mk (HA.out.trans (hbx.mono HA.out.size)); clear HA; have HA := HA2; clear HA2; have q0 := HX.out.o1.cell0; have q1 := HX.out.o1.cell1; have q2 := HX.out.o1.fr 0; have q3 := HX.out.o1.fr 1; have q4 := HX.out.o2.cell0; have q5 := HX.out.o2.cell1; have q6 := HX.out.o2.fr 0; have q7 := HX.out.o2.fr 1; clear hg7 hk7 hm7)
   refine hK.out _ _ ?_ fun hHeld => ?_
   ·(first | exact ⟨keepB2 hbx hHeld.1, keepB2 hbx hHeld.2.1, keepB2 hbx hHeld.2.2.1, keepB2 hbx hHeld.2.2.2⟩ | exact ⟨cell_far2 hHeld.1 HP.out.1.1, cell_far2 hHeld.2.1 HP.out.1.1, cell_far2 hHeld.2.2.1 HP.out.1.2, cell_far2 hHeld.2.2.2 HP.out.1.2⟩ | exact ⟨cell_far2 hHeld.1 HP.out.2.1, cell_far2 hHeld.2.1 HP.out.2.1, cell_far2 hHeld.2.2.1 HP.out.2.2, cell_far2 hHeld.2.2.2 HP.out.2.2⟩)
   clear hK K; try simp only [PU]
   refine tc 3 fun K hK => ?_
   go_simp
   refine hK.out _ _ ?_ fun hHeld => ?_
   ·(first | exact ⟨keepB2 hbx hHeld.1, keepB2 hbx hHeld.2.1, keepB2 hbx hHeld.2.2.1, keepB2 hbx hHeld.2.2.2⟩ | exact ⟨cell_far2 hHeld.1 HP.out.1.1, cell_far2 hHeld.2.1 HP.out.1.1, cell_far2 hHeld.2.2.1 HP.out.1.2, cell_far2 hHeld.2.2.2 HP.out.1.2⟩ | exact ⟨cell_far2 hHeld.1 HP.out.2.1, cell_far2 hHeld.2.1 HP.out.2.1, cell_far2 hHeld.2.2.1 HP.out.2.2, cell_far2 hHeld.2.2.2 HP.out.2.2⟩)
   clear hK K; try simp only [PU]
   refine tc 4 fun K hK => ?_
   go_simp
   refine hK.out _ _ ?_ fun hHeld => ?_
   ·(first | exact ⟨keepB2 hbx hHeld.1, keepB2 hbx hHeld.2.1, keepB2 hbx hHeld.2.2.1, keepB2 hbx hHeld.2.2.2⟩ | exact ⟨cell_far2 hHeld.1 HP.out.1.1, cell_far2 hHeld.2.1 HP.out.1.1, cell_far2 hHeld.2.2.1 HP.out.1.2, cell_far2 hHeld.2.2.2 HP.out.1.2⟩ | exact ⟨cell_far2 hHeld.1 HP.out.2.1, cell_far2 hHeld.2.1 HP.out.2.1, cell_far2 hHeld.2.2.1 HP.out.2.2, cell_far2 hHeld.2.2.2 HP.out.2.2⟩)
   clear hK K; try simp only [PU]
   refine wpAnyH_done (by kernel_rfl) ?_ _
   refine hK _ _ ?_
   go_wp2
   obtain ⟨o1, o2, o3, o4, o5⟩ := out2 HX.out HA.out rfl HM6.out.2.2 HM7.out.2.2 gz g7 c9 c5
   exact over_ret rfl rfl o1 o2 ⟨A9, k9, c9, A5, k7, c5, by rw [HM7.out.2.1]; first | rfl | (simp; done), HM6.out.1, HM7.out.1, o3, o4, o5⟩

/-- What Over answers. -/
abbrev OvPost (w : World) (q r : Int) (e : Ending) (w' : World) : Prop := ∃ A k c A' k' c', e = .returned (.tuple #[rV A k c q, rV A' k' c' r]) ∧ k ≤ c ∧ k' ≤ c' ∧ RM w' A k q.natAbs ∧ RM w' A' k' r.natAbs ∧ Below w.heap.size w w'
theorem rOver_calls {w : World} {A1 A2 : Option Addr} {L1 L2 c1 c2 : Nat} {x y : Int} (h1 : RM w A1 L1 x.natAbs) (h2 : RM w A2 L2 y.natAbs) (hy : y ≠ 0) (hL1 : L1 ≤ 40000) (hL2 : L2 ≤ 40000) :
 Calls Tryz.prog 92 #[rV A1 L1 c1 x, rV A2 L2 c2 y] w fun e w' => OvPost w (x / y) (x % y) e w' := by
 obtain ⟨o1, o2, o3⟩ := over_law (x := x) hy rfl rfl
 have hr : decide (x % y < 0) = false := decide_eq_false (by omega)
 unfold OvPost rV
 by_cases hc : x < 0 ∧ x.natAbs % y.natAbs ≠ 0
 ·obtain ⟨p1, p2, p3⟩ := o2 hc
  have hx : decide (x < 0) = true := decide_eq_true hc.1
  rw [hx, hr, p3]
  obtain ⟨q, hq⟩ : ∃ q, x.natAbs / y.natAbs = q := ⟨_, rfl⟩
  rw [hq] at p1 p2
  refine rOver_adj (xq := if y < 0 then (q : Int) else -(q : Int)) (z := x / y) rfl rfl h1 h2 (by omega) hL1 hL2 hc.2 ?_ ?_ ?_
  ·rw [hq]; split <;> omega
  ·rw [hq]
   by_cases h : y < 0
   ·rw [if_pos h, decide_eq_true h]; simp
   ·rw [if_neg h, decide_eq_false h]
    rw [Bool.eq_iff_iff]
    simp
    omega
  ·rw [hx] at p1
   by_cases h : y < 0
   ·rw [decide_eq_true h] at p1 ⊢
    rw [if_pos rfl, if_pos h]
    have : ¬ x / y < 0 := by simpa using p1.symm
    omega
   ·rw [decide_eq_false h] at p1 ⊢
    rw [if_neg (by simp), if_neg h]
    have : x / y < 0 := by simpa using p1.symm
    omega
 ·have hc' : ¬ x < 0 ∨ x.natAbs % y.natAbs = 0 := by omega
  obtain ⟨p1, p2, p3⟩ := o1 hc'
  rw [hr, p2, p3, ← p1]
  exact rOver_plain h1 h2 (by omega) hL1 hL2 (hc'.imp (fun h => decide_eq_false h) id)
/-- What lies in memory between two rounds of Common. -/
structure CQ (w : World) (G y : Nat) (A1 : Option Addr) (L1 c1 : Nat) (A2 : Option Addr) (L2 c2 x : Nat) (W : World) : Prop where
 b0 : BG W w.heap.size false A1 L1 c1
 b1 : BG W (w.heap.size + 1) false A2 L2 c2
 b2 : BG W (w.heap.size + 1 + 1) false none 0 0
 m1 : RM W A1 L1 x
 m2 : RM W A2 L2 y
 g : Nat.gcd x y = G
 bl : Below w.heap.size w W
section
variable {w : World} {G y : Nat} {A1 A2 : Option Addr} {L1 c1 L2 c2 x : Nat} {W X : World}
theorem CQ.below (h : CQ w G y A1 L1 c1 A2 L2 c2 x W) (hb : Below W.heap.size W X) : CQ w G y A1 L1 c1 A2 L2 c2 x X :=
 ⟨h.b0.below hb, h.b1.below hb, h.b2.below hb, h.m1.below hb, h.m2.below hb, h.g, h.bl.trans (hb.mono h.bl.size)⟩
theorem CQ.swap (h : CQ w G y A1 L1 c1 A2 L2 c2 x X) {A6 : Option Addr} {k6 c6 : Nat} (hm : RM X A6 k6 (x % y)) :
 CQ w G (x % y) A2 L2 c2 A6 k6 c6 y ((((X.setCell ⟨w.heap.size, 0, none⟩ (.bool false)).setCell ⟨w.heap.size, 1, none⟩ (.slice A2 L2 c2)).setCell ⟨w.heap.size + 1, 0, none⟩ (.bool false)).setCell ⟨w.heap.size + 1, 1, none⟩ (.slice A6 k6 c6)) := by
 have p1 := h.b0.put0 false
 have p2 := p1.put1 A2 L2 c2
 have r1 := (h.b1.other (b' := w.heap.size) (by omega) 0 (.bool false)).other (b' := w.heap.size) (by omega) 1 (.slice A2 L2 c2)
 have r2 := r1.put0 false
 refine ⟨(p2.other (by omega) _ _).other (by omega) _ _, r2.put1 _ _ _, (((h.b2.other (by omega) _ _).other (by omega) _ _).other (by omega) _ _).other (by omega) _ _, (((h.m2.bg h.b0 0 _).bg p1 1 _).bg r1 0 _).bg r2 1 _, (((hm.bg h.b0 0 _).bg p1 1 _).bg r1 0 _).bg r2 1 _, ?_, (((h.bl.setCell (p := ⟨w.heap.size, 0, none⟩) (Nat.le_refl _) _).setCell (p := ⟨w.heap.size, 1, none⟩) (Nat.le_refl _) _).setCell (by simp) _).setCell (by simp) _⟩
 rw [← h.g, Nat.gcd_comm y, Nat.gcd_comm x, ← Nat.gcd_rec]
end
theorem rOver_nat {w : World} {A1 A2 : Option Addr} {L1 L2 c1 c2 x y : Nat} (h1 : RM w A1 L1 x) (h2 : RM w A2 L2 y) (h0 : 0 < y) (hL1 : L1 ≤ 40000) (hL2 : L2 ≤ 40000) :
 Calls Tryz.prog 92 #[.agg #[.bool false, .slice A1 L1 c1], .agg #[.bool false, .slice A2 L2 c2]] w fun e w' => ∃ A k c A' k' c', e = .returned (.tuple #[.agg #[.bool false, .slice A k c], .agg #[.bool false, .slice A' k' c']]) ∧ k' ≤ c' ∧ RM w' A' k' (x % y) ∧ Below w.heap.size w w' :=
 (rOver_plain h1 h2 h0 hL1 hL2 (.inl rfl)).mono fun e w' ⟨A, k, c, A', k', c', h1, _, h3, _, h5, h6⟩ => ⟨A, k, c, A', k', c', h1, h3, h5, h6⟩
theorem rCommon_abs {w : World} {A1 A2 : Option Addr} {L1 L2 c1 c2 x y : Nat} {f1 f2 : Bool} (h1 : RM w A1 L1 x) (h2 : RM w A2 L2 y) (hk1 : L1 ≤ c1) (hk2 : L2 ≤ c2) (hs1 : L1 ≤ 40000) (hs2 : L2 ≤ 40000) :
 Calls Tryz.prog 97 #[.agg #[.bool f1, .slice A1 L1 c1], .agg #[.bool f2, .slice A2 L2 c2]] w fun e w' => ∃ A k c, e = .returned (.agg #[.bool false, .slice A k c]) ∧ k ≤ c ∧ RM w' A k (Nat.gcd x y) ∧ Below w.heap.size w w' := by
 obtain ⟨G, hG⟩ : ∃ G, Nat.gcd x y = G := ⟨_, rfl⟩
 rw [hG]
 have H1 := h1.at_below
 have H2 := h2.at_below
 clear h1 h2
 go_enter Tryz.func97, Tryz.ntmps97
 go_wp2_with fail
 have I0 : Aside0 (CQ w G y A1 L1 c1 A2 L2 c2 x (((w.alloc (.cells #[.bool false, .slice A1 L1 c1] 77)).alloc (.cells #[.bool false, .slice A2 L2 c2] 77)).alloc (.cells #[.bool false, .slice none 0 0] 77))) := ⟨by
  have hb : Below w.heap.size w (((w.alloc (.cells #[.bool false, .slice A1 L1 c1] 77)).alloc (.cells #[.bool false, .slice A2 L2 c2] 77)).alloc (.cells #[.bool false, .slice none 0 0] 77)) := by repeat (first | exact Below.refl _ _ | apply below_alloc)
  have n : ∀ (W : World) (b : Nat) (hb : W.heap.size = b) (f : Bool) (A : Option Addr) (L c : Nat), BG (W.alloc (.cells #[.bool f, .slice A L c] 77)) b f A L c := fun W b hb f A L c => by subst hb; exact BG.new W f A L c
  exact ⟨((n _ _ rfl _ _ _ _).alloc _).alloc _, (n _ _ (by simp) _ _ _ _).alloc _, n _ _ (by simp) _ _ _ _, H1.out _ hb, H2.out _ hb, hG, hb⟩⟩
 clear H1 H2 hG
 go_loopg [] y (fun k W => ∃ A1 L1 c1 A2 L2 c2 x, L1 ≤ 40000 ∧ L2 ≤ 40000 ∧ L1 ≤ c1 ∧ L2 ≤ c2 ∧ Aside0 (CQ w G k A1 L1 c1 A2 L2 c2 x W))
 case atStart => exact ⟨A1, L1, c1, A2, L2, c2, x, hs1, hs2, hk1, hk2, I0⟩
 case round =>
  clear I0 hs1 hs2 hk1 hk2
  obtain ⟨A1, L1, c1, A2, L2, c2, x, hs1, hs2, hk1, hk2, HI⟩ := hrel
  have x0 := HI.out.b0.cell0
  have x1 := HI.out.b0.cell1
  have x2 := HI.out.b1.cell0
  have x3 := HI.out.b1.cell1
  have y0 := HI.out.b0.lt
  have y1 := HI.out.b1.lt
  by_cases hk : gk = 0
  ·have HZ : Aside0 (x = G) := ⟨by have := HI.out.g; rw [hk, Nat.gcd_zero_right] at this; exact this⟩
   have hl : L2 = 0 := HI.out.m2.len_zero.2 hk
   subst hl
   have q0 := HI.out.b2.cell0
   have q1 := HI.out.b2.cell1
   have q2 := HI.out.b2.fr 0
   have q3 := HI.out.b2.fr 1
   clear hk
   go_wp2_with fail
   refine bodyPost_ret (v := .agg #[.bool false, .slice A1 L1 c1]) (by simp [results, Tryz.results97, go_sem, q0, q1]) rfl ⟨A1, L1, c1, rfl, hk1, ?_, (HI.out.bl.setCell (by simp; omega) _).setCell (by simp; omega) _⟩
   rw [← HZ.out]
   exact (HI.out.m1.bg HI.out.b2 0 _).bg (HI.out.b2.put0 _) 1 _
  ·have HZ : Aside0 (0 < gk) := ⟨by omega⟩
   have hl : 0 < L2 := Nat.pos_of_ne_zero (fun e => hk (HI.out.m2.len_zero.1 e))
   have hl2 : (0 : Int) < (L2 : Int) := by omega
   clear hk
   go_upto_region 4 with (first | (go_at_call 92; (with_reducible refine (rOver_nat HI.out.m1 HI.out.m2 HZ.out hs1 hs2).mono ?_); rintro e W2 ⟨Aq, kq, cq, Ar, kr, cr, rfl, hkr, hmr, hbx⟩; have HD := Aside0.mk (HI.out.below hbx); have HMR := Aside0.mk (And.intro hkr hmr); clear hbx hkr hmr x0 x1 x2 x3 y0 y1))
   have hk6 : kr ≤ 40000 := by
    have h1 := dg_lt_pow QQ1 gk
    rw [HI.out.m2.len] at h1
    exact Nat.le_trans (HMR.out.2.bound (Nat.lt_trans (Nat.mod_lt _ HZ.out) h1)) hs2
   obtain ⟨Y, hY⟩ : ∃ Y, ((W2.alloc (.cells #[.bool false, .slice Aq kq cq] 77)).alloc (.cells #[.bool false, .slice Ar kr cr] 77)) = Y := ⟨_, rfl⟩
   have hyb : Below W2.heap.size W2 Y := by subst hY; repeat (first | exact Below.refl _ _ | apply below_alloc)
   have hq : BG Y (W2.heap.size + 1) false Ar kr cr := by subst hY; exact (QR.new _ _ _ _ _ _ _ _ _).2
   have HP : Aside0 (W2.heap.size + 1 ≠ w.heap.size ∧ W2.heap.size + 1 ≠ w.heap.size + 1) := ⟨by have := HD.out.b2.lt; omega⟩
   have hbx : Below Y.heap.size Y Y.drew := below_drew1 (Below.refl _ _)
   have HD2 := Aside0.mk ((HD.out.below hyb).below hbx)
   have HMR2 := Aside0.mk (And.intro HMR.out.1 ((HMR.out.2.below hyb).below hbx))
   have hq2 := hq.below hbx
   have z0 := hq2.cell0
   have z1 := hq2.cell1
   rw [hY]
   clear hY hyb HD HMR hq hq2 hbx HI
   generalize W2.heap.size + 1 = r at *
   rename_i K hK
   refine wp_region_held_drew (S := (fun V => V.cell? ⟨r, 0, none⟩ = some (.bool false) ∧ V.cell? ⟨r, 1, none⟩ = some (.slice Ar kr cr))) (by kernel_rfl) ?_ (fun hHeld => ?_)
   ·exact ⟨z0, z1⟩
   (obtain ⟨Z, hZ⟩ : ∃ Z, Y.drew = Z := ⟨_, rfl⟩; rw [hZ] at HD2 HMR2 hHeld ⊢; clear hZ z0 z1; have x0 := HD2.out.b0.cell0; have x1 := HD2.out.b0.cell1; have x2 := HD2.out.b1.cell0; have x3 := HD2.out.b1.cell1; have x4 := HD2.out.b0.fr 0; have x5 := HD2.out.b0.fr 1; have x6 := HD2.out.b1.fr 0; have x7 := HD2.out.b1.fr 1)
   refine tp 1 ?_
   try simp only [PU]
   refine tc 0 fun K hK => ?_
   go_simp
   refine hK.out _ _ ?_ fun hHeld => ?_
   ·(first | exact hHeld | exact ⟨cell_far2 hHeld.1 HP.out.1, cell_far2 hHeld.2 HP.out.1⟩ | exact ⟨cell_far2 hHeld.1 HP.out.2, cell_far2 hHeld.2 HP.out.2⟩)
   clear hK K; try simp only [PU]
   refine tc 2 fun K hK => ?_
   go_simp
   refine hK.out _ _ ?_ fun hHeld => ?_
   ·(first | exact hHeld | exact ⟨cell_far2 hHeld.1 HP.out.1, cell_far2 hHeld.2 HP.out.1⟩ | exact ⟨cell_far2 hHeld.1 HP.out.2, cell_far2 hHeld.2 HP.out.2⟩)
   clear hK K; try simp only [PU]
   refine tc 3 fun K hK => ?_
   go_simp
   refine hK.out _ _ ?_ fun hHeld => ?_
   ·(first | exact hHeld | exact ⟨cell_far2 hHeld.1 HP.out.1, cell_far2 hHeld.2 HP.out.1⟩ | exact ⟨cell_far2 hHeld.1 HP.out.2, cell_far2 hHeld.2 HP.out.2⟩)
   clear hK K; try simp only [PU]
   refine wpAnyH_done (by kernel_rfl) ?_ _
   refine hK _ _ ?_
   go_wp2
   have HS := Aside0.mk (HD2.out.swap (c6 := cr) HMR2.out.2)
   go_roundg (x % gk)
   case measure => exact Nat.mod_lt _ HZ.out
   case rel => exact ⟨A2, L2, c2, Ar, kr, cr, gk, hs2, hk6, hk2, HMR2.out.1, HS⟩
/-- The greatest common divisor, by value. -/
theorem ro2_common {x y : Int} (hx : Dig 4000 x) (hy : Dig 4000 y) : RO2 97 x y (Int.gcd x y) := fun W A1 k1 c1 A2 k2 c2 g1 g2 h1 h2 => by
 refine (rCommon_abs h1 h2 g1 g2 (Nat.le_trans (h1.dig hx 1000 (by omega)) (by omega)) (Nat.le_trans (h2.dig hy 1000 (by omega)) (by omega))).mono fun e w' ⟨A, k, c, e1, e2, e3, e4⟩ => ?_
 exact RX.of e1 (decide_eq_false (by omega)).symm e2 rfl e3 e4
theorem gcd_dig {k : Nat} {x y : Int} (hx : Dig k x) (hy : Dig k y) : Dig k (Int.gcd x y : Int) := by
 unfold Dig at *
 rw [Int.natAbs_natCast]
 show Nat.gcd x.natAbs y.natAbs < _
 rcases Nat.eq_zero_or_pos y.natAbs with h | h
 ·rw [h, Nat.gcd_zero_right]; exact hx
 ·exact Nat.lt_of_le_of_lt (Nat.gcd_le_right _ h) hy
theorem zero_str {b : ByteArray} (h : checkI b = 0) : (b.toList == [48]) = decide (intI b = 0) := by
 by_cases h0 : intI b = 0
 ·rw [decide_eq_true h0]
  have e := strI_intI h
  rw [h0] at e
  rw [← e]
  decide +kernel
 ·rw [decide_eq_false h0]
  refine beq_no (b := ⟨#[48]⟩) rfl (fun e => h0 ?_)
  rw [e]
  decide +kernel
theorem div_first (a b : ByteArray) : firstI [checkI a, checkI b, if (b.toList == [48]) = true then 30 else 0] = divE a b := by
 unfold divE biE
 by_cases h1 : checkI a = 0
 ·by_cases h2 : checkI b = 0
  ·rw [zero_str h2, h1, h2]
   simp [firstI]
  ·simp [firstI, h1, h2]
 ·simp [firstI, h1]
theorem one_str (g : Nat) : ((strI (g : Int)).toList == [49]) = decide (g = 1) := by
 by_cases h : g = 1
 ·subst h; decide +kernel
 ·rw [decide_eq_false h]
  refine beq_no (b := ⟨#[49]⟩) rfl (fun e => h ?_)
  have h1 : strI (1 : Int) = ⟨#[49]⟩ := by decide +kernel
  have h2 := congrArg (fun s : ByteArray => dv s.data.toList) (e.trans h1.symm)
  rw [strI_nat, show strI (1 : Int) = strI ((1 : Nat) : Int) from rfl, strI_nat] at h2
  simpa [dv_dec] using h2
/-- The last test of CheckReal. -/
theorem check_last {s : ByteArray} (hF : spF s = true) (hE : biE (cutA 47 s) (cutB 47 s) = 0) : checkR s = if denR s = 0 ∨ minusB (cutB 47 s) = true ∨ Int.gcd (numR s) (denR s) ≠ 1 then 1 else 0 := by
 obtain ⟨a, b⟩ := sp_ok hF
 unfold biE at hE
 have hz := biE_zero (a := cutA 47 s) (b := cutB 47 s) hE
 unfold checkR
 rw [if_neg (by rw [a, b]; simp), if_neg (by rw [hE]; simp)]
 have hm : minusB (cutB 47 s) = true ↔ denR s < 0 := by
  constructor
  ·exact minus_neg hz.2
  ·intro h
   cases hx : minusB (cutB 47 s)
   ·have := (plus_dv hz.2 hx).2
    unfold denR at h
    omega
   ·rfl
 by_cases h0 : denR s = 0
 ·rw [if_pos (.inl (by omega)), if_pos (.inl h0)]
 ·by_cases h1 : denR s < 0
  ·rw [if_pos (.inl (by omega)), if_pos (.inr (.inl (hm.2 h1)))]
  ·by_cases h2 : Int.gcd (numR s) (denR s) = 1
   ·rw [if_neg (fun h => h.elim (fun h => by omega) (fun h => h h2)), if_neg (fun h => h.elim h0 (fun h => h.elim (fun h => h1 (hm.1 h)) (fun h => h h2)))]
   ·rw [if_pos (.inr h2), if_pos (.inr (.inr h2))]
theorem rCheckReal_calls (s : ByteArray) (hs : s.size ≤ 90000) (w : World) :
 Calls Tryz.prog 54 #[.string s] w fun e w' => e = .returned (.int .i64 (checkR s)) ∧ Below w.heap.size w w' := by
 have hcs := cut_size 47 s
 have HSP := Aside0.mk (fun W => rsplit_calls s (by omega) W)
 have HB := Aside0.mk (Below.refl w.heap.size w)
 cases hF : spF s
 ·rw [hF, if_neg (by simp), if_neg (by simp)] at HSP
  have hc : checkR s = 1 := by
   unfold checkR
   rw [if_pos]
   unfold spF at hF
   cases h1 : cutF 47 s
   ·exact .inl rfl
   ·rw [h1] at hF
    exact .inr (by simpa using hF)
  rw [hc]
  clear hF hc hcs
  go_enter Tryz.func54, Tryz.ntmps54
  go_wp2_with (first | (go_at_call 121; (with_reducible refine (HSP.out _).mono ?_); rintro e wx ⟨rfl, hbx⟩; have HB2 := Aside0.mk (HB.out.trans (hbx.mono HB.out.size)); clear HB; have HB := HB2; clear HB2; clear hbx))
  go_ret
  exact ⟨rfl, HB.out⟩
 ·rw [hF, if_pos rfl, if_pos rfl] at HSP
  have HCa := Aside0.mk (fun W => rCheck_calls (cutA 47 s) (by omega) W)
  have HCb := Aside0.mk (fun W => rCheck_calls (cutB 47 s) (by omega) W)
  obtain ⟨E, hE⟩ : ∃ E, biE (cutA 47 s) (cutB 47 s) = E := ⟨_, rfl⟩
  have HFI := Aside0.mk (fun (W : World) (g : Nat) (hg : g = W.heap.size) (t : TypeId) => rfirst2_ret (checkI (cutA 47 s)) (checkI (cutB 47 s)) E hE W g hg t)
  by_cases h0 : E = 0
  ·subst h0
   rw [check_last hF hE]
   have hz := biE_zero hE
   have HRa := Aside0.mk (fun W => rRead_calls (cutA 47 s) (by omega) (check_digits hz.1) W)
   have HRb := Aside0.mk (fun W => rRead_calls (cutB 47 s) (by omega) (check_digits hz.2) W)
   have dx := intI_dig hz.1
   have dy := intI_dig hz.2
   have HO := Aside0.mk (ro2_common (dx.more (by omega)) (dy.more (by omega)))
   have dg := gcd_dig dx dy
   have HW := Aside0.mk (fun W A k c hm => rWrite_calls (w := W) (A := A) (L := k) (c := c) (x := (Int.gcd (intI (cutA 47 s)) (intI (cutB 47 s)) : Int)) hm (Nat.le_trans (RM.dig hm dg 30 (by omega)) (by omega)))
   have hq0 := zero_str hz.2
   have hq1 := one_str (Int.gcd (intI (cutA 47 s)) (intI (cutB 47 s)))
   have hdp := digits_pos (check_digits hz.2)
   have hbb := bodyB_size (cutB 47 s)
   have h0b : 0 < (cutB 47 s).size := by omega
   obtain ⟨d, hd⟩ : ∃ d : Nat, ((cutB 47 s)[0]'h0b).toNat = d := ⟨_, rfl⟩
   have hdm : d = 45 ↔ minusB (cutB 47 s) = true := by
    constructor
    ·intro h
     cases hm : minusB (cutB 47 s)
     ·exact absurd (hd.trans h) (minus_not hm h0b)
     ·rfl
    ·intro h
     rw [← hd]
     exact (body_extract h).2.2 h0b
   unfold numR denR
   generalize minusB (cutB 47 s) = mb at *
   generalize checkI (cutA 47 s) = ca at *
   generalize checkI (cutB 47 s) = cb at *
   generalize intI (cutA 47 s) = x at *
   generalize intI (cutB 47 s) = y at *
   generalize cutA 47 s = a at *
   generalize cutB 47 s = b at *
   have hx0 : ∀ h : 0 < b.size, ((b[0]'h).toNat : Int) = (d : Int) := fun h => by rw [hd]
   have q1 : (0 < b.size) = True := eq_true h0b
   have q2 : ((0 : Int) < (b.size : Int)) = True := eq_true (by omega)
   clear hE hz dx dy dg hF hcs hdp hbb hd
   unfold RX at *
   by_cases h1 : y = 0
   ·rw [if_pos (.inl h1)]
    rw [decide_eq_true h1] at hq0
    clear hdm hq1
    go_enter Tryz.func54, Tryz.ntmps54
    go_wp2_with (first | (go_at_call 121; (with_reducible refine (HSP.out _).mono ?_); rintro e wx ⟨rfl, hbx⟩; have HB2 := Aside0.mk (HB.out.trans (hbx.mono HB.out.size)); clear HB; have HB := HB2; clear HB2; clear hbx) | (go_at_call 13; (with_reducible refine (HCa.out _).mono ?_); rintro e wx ⟨rfl, hbx⟩; have HB2 := Aside0.mk (HB.out.trans (hbx.mono HB.out.size)); clear HB; have HB := HB2; clear HB2; clear hbx) | (go_at_call 13; (with_reducible refine (HCb.out _).mono ?_); rintro e wx ⟨rfl, hbx⟩; have HB2 := Aside0.mk (HB.out.trans (hbx.mono HB.out.size)); clear HB; have HB := HB2; clear HB2; clear hbx) | (go_at_call 81; (with_reducible refine (HFI.out _ _ rfl _).mono ?_); rintro e wx ⟨rfl, hwx⟩; rw [hwx]; clear hwx wx; have HB2 := Aside0.mk (below_alloc HB.out (.cells #[.int .i64 ca, .int .i64 cb] 3)); clear HB; have HB := HB2; clear HB2) | (go_at_call 67; (with_reducible refine (rwhen_calls _ 1 _).mono ?_); rintro e wy ⟨rfl, hwy⟩; rw [hwy]; clear hwy wy))
    go_ret
    exact ⟨by simp, HB.out⟩
   ·rw [decide_eq_false h1] at hq0
    by_cases h2 : mb = true
    ·rw [if_pos (.inr (.inl h2))]
     have h45 := hdm.2 h2
     have g45 : ((d : Int) == 45) = true := by rw [beq_iff_eq]; omega
     clear hdm hq1
     go_enter Tryz.func54, Tryz.ntmps54
     go_wp2_with (first | (go_at_call 121; (with_reducible refine (HSP.out _).mono ?_); rintro e wx ⟨rfl, hbx⟩; have HB2 := Aside0.mk (HB.out.trans (hbx.mono HB.out.size)); clear HB; have HB := HB2; clear HB2; clear hbx) | (go_at_call 13; (with_reducible refine (HCa.out _).mono ?_); rintro e wx ⟨rfl, hbx⟩; have HB2 := Aside0.mk (HB.out.trans (hbx.mono HB.out.size)); clear HB; have HB := HB2; clear HB2; clear hbx) | (go_at_call 13; (with_reducible refine (HCb.out _).mono ?_); rintro e wx ⟨rfl, hbx⟩; have HB2 := Aside0.mk (HB.out.trans (hbx.mono HB.out.size)); clear HB; have HB := HB2; clear HB2; clear hbx) | (go_at_call 81; (with_reducible refine (HFI.out _ _ rfl _).mono ?_); rintro e wx ⟨rfl, hwx⟩; rw [hwx]; clear hwx wx; have HB2 := Aside0.mk (below_alloc HB.out (.cells #[.int .i64 ca, .int .i64 cb] 3)); clear HB; have HB := HB2; clear HB2) | (go_at_call 67; (with_reducible refine (rwhen_calls _ 1 _).mono ?_); rintro e wy ⟨rfl, hwy⟩; rw [hwy]; clear hwy wy))
     go_ret
     exact ⟨by simp, HB.out⟩
    ·have h45 : ¬ d = 45 := fun h => h2 (hdm.1 h)
     have g45 : ((d : Int) == 45) = false := by rw [beq_eq_false_iff_ne]; omega
     have hr : (if y = 0 ∨ mb = true ∨ Int.gcd x y ≠ 1 then (1 : Int) else 0) = if decide (Int.gcd x y = 1) = true then 0 else 1 := by
      by_cases h3 : Int.gcd x y = 1
      ·rw [if_neg (fun h => h.elim h1 (fun h => h.elim h2 (fun h => h h3))), decide_eq_true h3]; rfl
      ·rw [if_pos (.inr (.inr h3)), decide_eq_false h3]; rfl
     rw [hr]
     clear hdm hr h2 h45
     generalize decide (Int.gcd x y = 1) = z1 at *
     generalize strI (Int.gcd x y : Int) = SG at *
     generalize (Int.gcd x y : Int) = g at *
     cases z1
     ·go_enter Tryz.func54, Tryz.ntmps54
      go_wp2_with (first | (go_at_call 121; (with_reducible refine (HSP.out _).mono ?_); rintro e wx ⟨rfl, hbx⟩; have HB2 := Aside0.mk (HB.out.trans (hbx.mono HB.out.size)); clear HB; have HB := HB2; clear HB2; clear hbx) | (go_at_call 13; (with_reducible refine (HCa.out _).mono ?_); rintro e wx ⟨rfl, hbx⟩; have HB2 := Aside0.mk (HB.out.trans (hbx.mono HB.out.size)); clear HB; have HB := HB2; clear HB2; clear hbx) | (go_at_call 13; (with_reducible refine (HCb.out _).mono ?_); rintro e wx ⟨rfl, hbx⟩; have HB2 := Aside0.mk (HB.out.trans (hbx.mono HB.out.size)); clear HB; have HB := HB2; clear HB2; clear hbx) | (go_at_call 81; (with_reducible refine (HFI.out _ _ rfl _).mono ?_); rintro e wx ⟨rfl, hwx⟩; rw [hwx]; clear hwx wx; have HB2 := Aside0.mk (below_alloc HB.out (.cells #[.int .i64 ca, .int .i64 cb] 3)); clear HB; have HB := HB2; clear HB2) | (go_at_call 72; (with_reducible refine (HRa.out _).mono ?_); rintro e wx ⟨A1, k1, c1, rfl, hk1, hm1, hbx⟩; have HM1 := Aside0.mk (And.intro hk1 hm1); have HB2 := Aside0.mk (HB.out.trans (hbx.mono HB.out.size)); clear HB; have HB := HB2; clear HB2; clear hbx hk1 hm1) | (go_at_call 72; (with_reducible refine (HRb.out _).mono ?_); rintro e wx ⟨A2, k2, c2, rfl, hk2, hm2, hbx⟩; have HM2 := Aside0.mk (And.intro hk2 hm2); have HM1 := Aside0.mk (And.intro HM1.out.1 (HM1.out.2.below hbx)); have HB2 := Aside0.mk (HB.out.trans (hbx.mono HB.out.size)); clear HB; have HB := HB2; clear HB2; clear hbx hk2 hm2) | (go_at_call 97; (with_reducible refine (HO.out _ _ _ _ _ _ _ HM1.out.1 HM2.out.1 HM1.out.2 HM2.out.2).mono ?_); rintro e wx ⟨A3, k3, c3, rfl, hk3, hm3, hbx⟩; have HM3 := Aside0.mk hm3; have HB2 := Aside0.mk (HB.out.trans (hbx.mono HB.out.size)); clear HB; have HB := HB2; clear HB2; clear hbx hk3 hm3) | (go_at_call 69; (with_reducible refine (HW.out _ _ _ _ HM3.out).mono ?_); rintro e wx ⟨rfl, hbx⟩; have HB2 := Aside0.mk (HB.out.trans (hbx.mono HB.out.size)); clear HB; have HB := HB2; clear HB2; clear hbx) | (go_at_call 67; (with_reducible refine (rwhen_calls _ 1 _).mono ?_); rintro e wy ⟨rfl, hwy⟩; rw [hwy]; clear hwy wy))
      go_ret
      exact ⟨by simp, HB.out⟩
     ·go_enter Tryz.func54, Tryz.ntmps54
      go_wp2_with (first | (go_at_call 121; (with_reducible refine (HSP.out _).mono ?_); rintro e wx ⟨rfl, hbx⟩; have HB2 := Aside0.mk (HB.out.trans (hbx.mono HB.out.size)); clear HB; have HB := HB2; clear HB2; clear hbx) | (go_at_call 13; (with_reducible refine (HCa.out _).mono ?_); rintro e wx ⟨rfl, hbx⟩; have HB2 := Aside0.mk (HB.out.trans (hbx.mono HB.out.size)); clear HB; have HB := HB2; clear HB2; clear hbx) | (go_at_call 13; (with_reducible refine (HCb.out _).mono ?_); rintro e wx ⟨rfl, hbx⟩; have HB2 := Aside0.mk (HB.out.trans (hbx.mono HB.out.size)); clear HB; have HB := HB2; clear HB2; clear hbx) | (go_at_call 81; (with_reducible refine (HFI.out _ _ rfl _).mono ?_); rintro e wx ⟨rfl, hwx⟩; rw [hwx]; clear hwx wx; have HB2 := Aside0.mk (below_alloc HB.out (.cells #[.int .i64 ca, .int .i64 cb] 3)); clear HB; have HB := HB2; clear HB2) | (go_at_call 72; (with_reducible refine (HRa.out _).mono ?_); rintro e wx ⟨A1, k1, c1, rfl, hk1, hm1, hbx⟩; have HM1 := Aside0.mk (And.intro hk1 hm1); have HB2 := Aside0.mk (HB.out.trans (hbx.mono HB.out.size)); clear HB; have HB := HB2; clear HB2; clear hbx hk1 hm1) | (go_at_call 72; (with_reducible refine (HRb.out _).mono ?_); rintro e wx ⟨A2, k2, c2, rfl, hk2, hm2, hbx⟩; have HM2 := Aside0.mk (And.intro hk2 hm2); have HM1 := Aside0.mk (And.intro HM1.out.1 (HM1.out.2.below hbx)); have HB2 := Aside0.mk (HB.out.trans (hbx.mono HB.out.size)); clear HB; have HB := HB2; clear HB2; clear hbx hk2 hm2) | (go_at_call 97; (with_reducible refine (HO.out _ _ _ _ _ _ _ HM1.out.1 HM2.out.1 HM1.out.2 HM2.out.2).mono ?_); rintro e wx ⟨A3, k3, c3, rfl, hk3, hm3, hbx⟩; have HM3 := Aside0.mk hm3; have HB2 := Aside0.mk (HB.out.trans (hbx.mono HB.out.size)); clear HB; have HB := HB2; clear HB2; clear hbx hk3 hm3) | (go_at_call 69; (with_reducible refine (HW.out _ _ _ _ HM3.out).mono ?_); rintro e wx ⟨rfl, hbx⟩; have HB2 := Aside0.mk (HB.out.trans (hbx.mono HB.out.size)); clear HB; have HB := HB2; clear HB2; clear hbx) | (go_at_call 67; (with_reducible refine (rwhen_calls _ 1 _).mono ?_); rintro e wy ⟨rfl, hwy⟩; rw [hwy]; clear hwy wy))
      go_ret
      exact ⟨by simp, HB.out⟩
  ·obtain ⟨c1, c2⟩ := sp_ok hF
   have hc : checkR s = E := by
    unfold checkR
    unfold biE at hE
    rw [if_neg (by rw [c1, c2]; simp), if_pos (by rw [hE]; exact h0), hE]
   rw [hc]
   have hbe : (E != 0) = true := by simp [h0]
   clear hE hF hc c1 c2 hcs
   generalize checkI (cutA 47 s) = ca at *
   generalize checkI (cutB 47 s) = cb at *
   go_enter Tryz.func54, Tryz.ntmps54
   go_wp2_with (first | (go_at_call 121; (with_reducible refine (HSP.out _).mono ?_); rintro e wx ⟨rfl, hbx⟩; have HB2 := Aside0.mk (HB.out.trans (hbx.mono HB.out.size)); clear HB; have HB := HB2; clear HB2; clear hbx) | (go_at_call 13; (with_reducible refine (HCa.out _).mono ?_); rintro e wx ⟨rfl, hbx⟩; have HB2 := Aside0.mk (HB.out.trans (hbx.mono HB.out.size)); clear HB; have HB := HB2; clear HB2; clear hbx) | (go_at_call 13; (with_reducible refine (HCb.out _).mono ?_); rintro e wx ⟨rfl, hbx⟩; have HB2 := Aside0.mk (HB.out.trans (hbx.mono HB.out.size)); clear HB; have HB := HB2; clear HB2; clear hbx) | (go_at_call 81; (with_reducible refine (HFI.out _ _ rfl _).mono ?_); rintro e wx ⟨rfl, hwx⟩; rw [hwx]; clear hwx wx; have HB2 := Aside0.mk (below_alloc HB.out (.cells #[.int .i64 ca, .int .i64 cb] 3)); clear HB; have HB := HB2; clear HB2))
   go_ret
   exact ⟨rfl, HB.out⟩
theorem rWriteReal_calls {w : World} {A1 A2 : Option Addr} {L1 c1 L2 c2 : Nat} {p q : Int} (h : M2 w A1 L1 c1 p A2 L2 c2 q) (hp : Dig 4000 p) (hq : Dig 4000 q) :
 Calls Tryz.prog 101 #[fR A1 L1 c1 p A2 L2 c2 q] w fun e w' => e = .returned (.tuple #[.string (ftS p q), .int .i64 (ftE p q)]) ∧ Below w.heap.size w w' := by
 have HR1 := Aside0.mk (fun W A k c hm => rresult_calls (w := W) (A := A) (L := k) (c := c) (x := p) hm hp)
 have HR2 := Aside0.mk (fun W A k c hm => rresult_calls (w := W) (A := A) (L := k) (c := c) (x := q) hm hq)
 have HM := Aside0.mk (h.below (below_alloc (Below.refl _ _) (.cells #[.bool (decide (p < 0)), .slice A1 L1 c1, .bool (decide (q < 0)), .slice A2 L2 c2] 118)))
 have HF := Aside0.mk (BF.new w _ rfl (decide (p < 0)) A1 L1 c1 (decide (q < 0)) A2 L2 c2)
 have HB := Aside0.mk (below_alloc (Below.refl w.heap.size w) (.cells #[.bool (decide (p < 0)), .slice A1 L1 c1, .bool (decide (q < 0)), .slice A2 L2 c2] 118))
 have hs1 := wrS_size p
 have hs2 := wrS_size q
 unfold ftS
 obtain ⟨E, hE⟩ : ∃ E, ftE p q = E := ⟨_, rfl⟩
 rw [hE]
 unfold ftE at hE
 have HFI := Aside0.mk (fun (W : World) (g : Nat) (hg : g = W.heap.size) (t : TypeId) => rfirst2_ret (wrE p) (wrE q) E hE W g hg t)
 unfold fR
 unfold rV at *
 generalize wrS p = P at *
 generalize wrE p = E1 at *
 generalize wrS q = Q at *
 generalize wrE q = E2 at *
 generalize decide (p < 0) = f at *
 generalize decide (q < 0) = g at *
 have x0 := HF.out.cell0
 have x1 := HF.out.cell1
 have x2 := HF.out.cell2
 have x3 := HF.out.cell3
 clear h hp hq hE
 by_cases h : E = 0
 ·subst h
  rw [if_pos rfl]
  go_enter Tryz.func101, Tryz.ntmps101
  go_wp2_with (first | (go_at_call 77; (with_reducible refine (HR1.out _ _ _ _ HM.out.m1).mono ?_); rintro e wx ⟨rfl, hbx⟩; have HM2 := Aside0.mk (HM.out.below hbx); clear HM; have HM := HM2; clear HM2; have HF2 := Aside0.mk (HF.out.below hbx); clear HF x0 x1 x2 x3; have HF := HF2; clear HF2; have x2 := HF.out.cell2; have x3 := HF.out.cell3; have HB2 := Aside0.mk (HB.out.trans (hbx.mono HB.out.size)); clear HB; have HB := HB2; clear HB2; clear hbx) | (go_at_call 77; (with_reducible refine (HR2.out _ _ _ _ HM.out.m2).mono ?_); rintro e wx ⟨rfl, hbx⟩; have HB2 := Aside0.mk (HB.out.trans (hbx.mono HB.out.size)); clear HB; have HB := HB2; clear HB2; clear hbx) | (go_at_call 81; (with_reducible refine (HFI.out _ _ rfl _).mono ?_); rintro e wx ⟨rfl, hwx⟩; rw [hwx]; clear hwx wx; have HB2 := Aside0.mk (below_alloc HB.out (.cells #[.int .i64 E1, .int .i64 E2] 3)); clear HB; have HB := HB2; clear HB2))
  go_ret2
  exact ⟨rfl, HB.out⟩
 ·rw [if_neg h]
  have hbe : (E != 0) = true := by simp [h]
  go_enter Tryz.func101, Tryz.ntmps101
  go_wp2_with (first | (go_at_call 77; (with_reducible refine (HR1.out _ _ _ _ HM.out.m1).mono ?_); rintro e wx ⟨rfl, hbx⟩; have HM2 := Aside0.mk (HM.out.below hbx); clear HM; have HM := HM2; clear HM2; have HF2 := Aside0.mk (HF.out.below hbx); clear HF x0 x1 x2 x3; have HF := HF2; clear HF2; have x2 := HF.out.cell2; have x3 := HF.out.cell3; have HB2 := Aside0.mk (HB.out.trans (hbx.mono HB.out.size)); clear HB; have HB := HB2; clear HB2; clear hbx) | (go_at_call 77; (with_reducible refine (HR2.out _ _ _ _ HM.out.m2).mono ?_); rintro e wx ⟨rfl, hbx⟩; have HB2 := Aside0.mk (HB.out.trans (hbx.mono HB.out.size)); clear HB; have HB := HB2; clear HB2; clear hbx) | (go_at_call 81; (with_reducible refine (HFI.out _ _ rfl _).mono ?_); rintro e wx ⟨rfl, hwx⟩; rw [hwx]; clear hwx wx; have HB2 := Aside0.mk (below_alloc HB.out (.cells #[.int .i64 E1, .int .i64 E2] 3)); clear HB; have HB := HB2; clear HB2))
  go_ret2
  exact ⟨rfl, HB.out⟩
section
variable {w W : World} {b b' : Nat} {f1 : Bool} {A1 : Option Addr} {L1 c1 : Nat} {f2 : Bool} {A2 : Option Addr} {L2 c2 : Nat} {g1 : Bool} {B1 : Option Addr} {K1 d1 : Nat} {g2 : Bool} {B2 : Option Addr} {K2 d2 : Nat}
end
theorem sp_check {s : ByteArray} (h : checkR s = 0) : spF s = true := by
 cases hF : spF s
 ·exfalso
  unfold checkR at h
  rw [if_pos] at h
  ·cases h
  ·unfold spF at hF
   cases h1 : cutF 47 s
   ·exact .inl rfl
   ·rw [h1] at hF
    exact .inr (by simpa using hF)
 ·rfl
/-- What lies in memory while Lowest runs. -/
structure LP (w : World) (f1 : Bool) (A1 : Option Addr) (L1 c1 n1 : Nat) (f2 : Bool) (A2 : Option Addr) (L2 c2 n2 : Nat) (W : World) : Prop where
 b0 : BG W w.heap.size f1 A1 L1 c1
 b1 : BG W (w.heap.size + 1) f2 A2 L2 c2
 b2 : BF W (w.heap.size + 1 + 1) false none 0 0 false none 0 0
 k1 : L1 ≤ c1
 k2 : L2 ≤ c2
 m1 : RM W A1 L1 n1
 m2 : RM W A2 L2 n2
 bl : Below w.heap.size w W
section
variable {w W X : World} {f1 f2 g : Bool} {A1 A2 A : Option Addr} {L1 c1 n1 L2 c2 n2 k c z : Nat}
theorem LP.below (h : LP w f1 A1 L1 c1 n1 f2 A2 L2 c2 n2 W) (hb : Below W.heap.size W X) : LP w f1 A1 L1 c1 n1 f2 A2 L2 c2 n2 X :=
 ⟨h.b0.below hb, h.b1.below hb, h.b2.below hb, h.k1, h.k2, h.m1.below hb, h.m2.below hb, h.bl.trans (hb.mono h.bl.size)⟩
theorem LP.new (h1 : RM w A1 L1 n1) (h2 : RM w A2 L2 n2) (k1 : L1 ≤ c1) (k2 : L2 ≤ c2) : LP w f1 A1 L1 c1 n1 f2 A2 L2 c2 n2 (((w.alloc (.cells #[.bool f1, .slice A1 L1 c1] 77)).alloc (.cells #[.bool f2, .slice A2 L2 c2] 77)).alloc (.cells #[.bool false, .slice none 0 0, .bool false, .slice none 0 0] 118)) := by
 have hb : Below w.heap.size w (((w.alloc (.cells #[.bool f1, .slice A1 L1 c1] 77)).alloc (.cells #[.bool f2, .slice A2 L2 c2] 77)).alloc (.cells #[.bool false, .slice none 0 0, .bool false, .slice none 0 0] 118)) := by repeat (first | exact Below.refl _ _ | apply below_alloc)
 have q := QR.new w f1 A1 L1 c1 f2 A2 L2 c2
 exact ⟨q.1.alloc _, q.2.alloc _, BF.new _ _ (by simp) _ _ _ _ _ _ _ _, k1, k2, h1.below hb, h2.below hb, hb⟩
theorem LP.set0 (h : LP w f1 A1 L1 c1 n1 f2 A2 L2 c2 n2 W) (hk : k ≤ c) (hm : RM W A k z) : LP w g A k c z f2 A2 L2 c2 n2 ((W.setCell ⟨w.heap.size, 0, none⟩ (.bool g)).setCell ⟨w.heap.size, 1, none⟩ (.slice A k c)) := by
 have p1 := h.b0.put0 g
 exact ⟨p1.put1 A k c, (h.b1.other (by omega) 0 _).other (by omega) 1 _, (h.b2.other (by omega) 0 _).other (by omega) 1 _, hk, h.k2, (hm.bg h.b0 0 _).bg p1 1 _, (h.m2.bg h.b0 0 _).bg p1 1 _, (h.bl.setCell (p := ⟨w.heap.size, 0, none⟩) (Nat.le_refl _) _).setCell (p := ⟨w.heap.size, 1, none⟩) (Nat.le_refl _) _⟩
theorem LP.set1 (h : LP w f1 A1 L1 c1 n1 f2 A2 L2 c2 n2 W) (hk : k ≤ c) (hm : RM W A k z) : LP w f1 A1 L1 c1 n1 g A k c z ((W.setCell ⟨w.heap.size + 1, 0, none⟩ (.bool g)).setCell ⟨w.heap.size + 1, 1, none⟩ (.slice A k c)) := by
 have p1 := h.b1.put0 g
 exact ⟨(h.b0.other (by omega) 0 _).other (by omega) 1 _, p1.put1 A k c, (h.b2.other (by omega) 0 _).other (by omega) 1 _, h.k1, hk, (h.m1.bg h.b1 0 _).bg p1 1 _, (hm.bg h.b1 0 _).bg p1 1 _, (h.bl.setCell (p := ⟨w.heap.size + 1, 0, none⟩) (Nat.le_succ _) _).setCell (p := ⟨w.heap.size + 1, 1, none⟩) (Nat.le_succ _) _⟩
end
theorem low_turn {p q : Int} (h : q < 0) : p / lowD p q = (-p) / lowD (-p) (-q) ∧ q / lowD p q = (-q) / lowD (-p) (-q) := by
 have e : lowD p q = -lowD (-p) (-q) := by
  unfold lowD
  rw [if_pos h, if_neg (by omega), Int.gcd_neg, Int.neg_gcd]
 have d1 : lowD (-p) (-q) ∣ p := Int.natAbs_dvd_natAbs.1 (by rw [lowD_abs, Int.natAbs_neg]; exact Nat.gcd_dvd_left _ _)
 have d2 : lowD (-p) (-q) ∣ q := Int.natAbs_dvd_natAbs.1 (by rw [lowD_abs, Int.natAbs_neg, Int.natAbs_neg]; exact Nat.gcd_dvd_right _ _)
 rw [e, Int.ediv_neg, Int.ediv_neg, Int.neg_ediv_of_dvd d1, Int.neg_ediv_of_dvd d2]
 exact ⟨rfl, rfl⟩
theorem rlowest_pos {w : World} {A1 A2 : Option Addr} {L1 L2 c1 c2 : Nat} {p q : Int} (h1 : RM w A1 L1 p.natAbs) (h2 : RM w A2 L2 q.natAbs) (hk1 : L1 ≤ c1) (hk2 : L2 ≤ c2) (hp : Dig 1000 p) (hq : Dig 1000 q) (h0 : 0 < q) :
 Calls Tryz.prog 124 #[rV A1 L1 c1 p, rV A2 L2 c2 q] w fun e w' => FX w (p / lowD p q) (q / lowD p q) e w' := by
 have hd := lowD_ne (p := p) (q := q) (by omega)
 have da := lowD_abs p q
 have hDD : Dig 1000 (lowD p q) := hq.gcd (by omega)
 have hn := lowD_neg (p := p) (q := q) (by omega)
 have s1 : ∀ {W : World} {A : Option Addr} {L : Nat} {x : Int}, RM W A L x.natAbs → Dig 1000 x → L ≤ 40000 := fun h hx => Nat.le_trans (h.dig hx 250 (by omega)) (by omega)
 have HCO : Aside0 (∀ W A1 k1 c1 A2 k2 c2, RM W A1 k1 p.natAbs → RM W A2 k2 q.natAbs → k1 ≤ c1 → k2 ≤ c2 → Calls Tryz.prog 97 #[.agg #[.bool (decide (p < 0)), .slice A1 k1 c1], .agg #[.bool (decide (q < 0)), .slice A2 k2 c2]] W fun e w' => ∃ A k c, e = .returned (.agg #[.bool false, .slice A k c]) ∧ k ≤ c ∧ RM w' A k (lowD p q).natAbs ∧ Below W.heap.size W w') := ⟨fun W A1 k1 c1 A2 k2 c2 m1 m2 e1 e2 => by rw [da]; exact rCommon_abs m1 m2 e1 e2 (s1 m1 hp) (s1 m2 hq)⟩
 have HOX := Aside0.mk (fun W A1 k1 c1 A2 k2 c2 m1 m2 => rOver_calls (w := W) (A1 := A1) (A2 := A2) (L1 := k1) (L2 := k2) (c1 := c1) (c2 := c2) (x := p) (y := lowD p q) m1 m2 hd (s1 m1 hp) (s1 m2 hDD))
 have HOY := Aside0.mk (fun W A1 k1 c1 A2 k2 c2 m1 m2 => rOver_calls (w := W) (A1 := A1) (A2 := A2) (L1 := k1) (L2 := k2) (c1 := c1) (c2 := c2) (x := q) (y := lowD p q) m1 m2 hd (s1 m1 hq) (s1 m2 hDD))
 rw [decide_eq_false (show ¬ q < 0 by omega)] at hn
 unfold OvPost at HOX HOY
 unfold FX fR
 unfold rV at *
 rw [hn] at HOX HOY
 rw [decide_eq_false (show ¬ q < 0 by omega)] at HOY HCO ⊢
 have HR : Aside0 (∀ {W : World} {A3 A5 : Option Addr} {k3 c3 k5 c5 : Nat}, LP w (decide (p / lowD p q < 0)) A3 k3 c3 (p / lowD p q).natAbs (decide (q / lowD p q < 0)) A5 k5 c5 (q / lowD p q).natAbs W → M2 (Nm.put4 W (w.heap.size + 1 + 1) (decide (p / lowD p q < 0)) A3 k3 c3 (decide (q / lowD p q < 0)) A5 k5 c5) A3 k3 c3 (p / lowD p q) A5 k5 c5 (q / lowD p q)) := ⟨fun h => M2.put4 h.b2 ⟨h.k1, h.k2, h.m1, h.m2⟩⟩
 generalize p / lowD p q = P at *
 generalize q / lowD p q = Q at *
 generalize decide (P < 0) = gP at *
 generalize decide (Q < 0) = gQ at *
 generalize P.natAbs = nP at *
 generalize Q.natAbs = nQ at *
 generalize (lowD p q).natAbs = d at *
 generalize decide (p < 0) = f1 at *
 generalize p.natAbs = n1 at *
 generalize q.natAbs = n2 at *
 clear hd da hDD hn s1 hp hq h0
 go_enter Tryz.func124, Tryz.ntmps124
 go_upto_region 1 with fail
 obtain ⟨wr, hwr⟩ : ∃ wr, (((w.alloc (.cells #[.bool f1, .slice A1 L1 c1] 77)).alloc (.cells #[.bool false, .slice A2 L2 c2] 77)).alloc (.cells #[.bool false, .slice none 0 0, .bool false, .slice none 0 0] 118)) = wr := ⟨_, rfl⟩
 have HL : Aside0 (LP w f1 A1 L1 c1 n1 false A2 L2 c2 n2 wr) := ⟨by subst hwr; exact LP.new h1 h2 hk1 hk2⟩
 rw [hwr]
 clear hwr h1 h2 hk1 hk2
 have x0 := HL.out.b0.cell0; have x1 := HL.out.b0.cell1; have x2 := HL.out.b1.cell0; have x3 := HL.out.b1.cell1; have x4 := HL.out.b0.fr 0; have x5 := HL.out.b0.fr 1; have x6 := HL.out.b1.fr 0; have x7 := HL.out.b1.fr 1
 go_upto_region 4 with (first | (go_at_call 97; (with_reducible refine (HCO.out _ _ _ _ _ _ _ HL.out.m1 HL.out.m2 HL.out.k1 HL.out.k2).mono ?_); rintro e W2 ⟨Ad, kd, cd, rfl, hkd, hmd, hbx⟩; have HD := Aside0.mk hmd; have HL2 := Aside0.mk (HL.out.below hbx); clear x0 x1 x2 x3 x4 x5 x6 x7; clear HL; have HL := HL2; clear HL2; have x0 := HL.out.b0.cell0; have x1 := HL.out.b0.cell1; have x2 := HL.out.b1.cell0; have x3 := HL.out.b1.cell1; have x4 := HL.out.b0.fr 0; have x5 := HL.out.b0.fr 1; have x6 := HL.out.b1.fr 0; have x7 := HL.out.b1.fr 1; clear hbx hkd hmd))
 obtain ⟨Y, hY⟩ : ∃ Y, W2.alloc (.cells #[.bool false, .slice Ad kd cd] 77) = Y := ⟨_, rfl⟩
 have hbx : Below W2.heap.size W2 Y := by subst hY; exact below_alloc (Below.refl _ _) _
 have HQ : Aside0 (BG Y W2.heap.size false Ad kd cd ∧ RM Y Ad kd d) := ⟨by subst hY; exact BG.new _ _ _ _ _, HD.out.below hbx⟩
 have HN : Aside0 (w.heap.size + 1 + 1 < W2.heap.size) := ⟨HL.out.b2.lt⟩
 have z0 := HQ.out.1.cell0
 have z1 := HQ.out.1.cell1
 have HL2 := Aside0.mk (HL.out.below hbx); clear x0 x1 x2 x3 x4 x5 x6 x7; clear HL; have HL := HL2; clear HL2; have x0 := HL.out.b0.cell0; have x1 := HL.out.b0.cell1; have x2 := HL.out.b1.cell0; have x3 := HL.out.b1.cell1; have x4 := HL.out.b0.fr 0; have x5 := HL.out.b0.fr 1; have x6 := HL.out.b1.fr 0; have x7 := HL.out.b1.fr 1
 rw [hY]
 clear hY hbx HD
 generalize W2.heap.size = r at *
 go_upto_region 5 with (first | (go_at_call 92; (with_reducible refine (HOX.out _ _ _ _ _ _ _ HL.out.m1 HQ.out.2).mono ?_); rintro e W3 ⟨A3, k3, c3, A4, k4, c4, rfl, hk3, hk4, hm3, hm4, hbx⟩; have HM3 := Aside0.mk (And.intro hk3 hm3); have HL2 := Aside0.mk (HL.out.below hbx); clear x0 x1 x2 x3 x4 x5 x6 x7; clear HL; have HL := HL2; clear HL2; have x0 := HL.out.b0.cell0; have x1 := HL.out.b0.cell1; have x2 := HL.out.b1.cell0; have x3 := HL.out.b1.cell1; have x4 := HL.out.b0.fr 0; have x5 := HL.out.b0.fr 1; have x6 := HL.out.b1.fr 0; have x7 := HL.out.b1.fr 1; have HQ2 := Aside0.mk (And.intro (HQ.out.1.below hbx) (HQ.out.2.below hbx)); clear z0 z1 HQ; have HQ := HQ2; clear HQ2; have z0 := HQ.out.1.cell0; have z1 := HQ.out.1.cell1; clear hbx hk3 hk4 hm3 hm4))
 obtain ⟨Y2, hY2⟩ : ∃ Y2, ((W3.setCell ⟨w.heap.size, 0, none⟩ (.bool gP)).setCell ⟨w.heap.size, 1, none⟩ (.slice A3 k3 c3)) = Y2 := ⟨_, rfl⟩
 have HL2 : Aside0 (LP w gP A3 k3 c3 nP false A2 L2 c2 n2 Y2) := ⟨by subst hY2; exact HL.out.set0 HM3.out.1 HM3.out.2⟩
 have HQ2 : Aside0 (BG Y2 r false Ad kd cd ∧ RM Y2 Ad kd d) := ⟨by subst hY2; exact (HQ.out.1.other (by have := HN.out; omega) 0 _).other (by have := HN.out; omega) 1 _, by subst hY2; exact (HQ.out.2.bg HL.out.b0 0 _).bg (HL.out.b0.put0 _) 1 _⟩
 rw [hY2]
 clear x0 x1 x2 x3 x4 x5 x6 x7
 clear hY2 HL HQ z0 z1 HM3
 have HL := HL2
 have HQ := HQ2
 clear HL2 HQ2
 have z0 := HQ.out.1.cell0
 have z1 := HQ.out.1.cell1
 have x0 := HL.out.b0.cell0; have x1 := HL.out.b0.cell1; have x2 := HL.out.b1.cell0; have x3 := HL.out.b1.cell1; have x4 := HL.out.b0.fr 0; have x5 := HL.out.b0.fr 1; have x6 := HL.out.b1.fr 0; have x7 := HL.out.b1.fr 1
 go_upto_region 6 with (first | (go_at_call 92; (with_reducible refine (HOY.out _ _ _ _ _ _ _ HL.out.m2 HQ.out.2).mono ?_); rintro e W4 ⟨A5, k5, c5, A6, k6, c6, rfl, hk5, hk6, hm5, hm6, hbx⟩; have HM5 := Aside0.mk (And.intro hk5 hm5); have HL2 := Aside0.mk (HL.out.below hbx); clear x0 x1 x2 x3 x4 x5 x6 x7; clear HL; have HL := HL2; clear HL2; have x0 := HL.out.b0.cell0; have x1 := HL.out.b0.cell1; have x2 := HL.out.b1.cell0; have x3 := HL.out.b1.cell1; have x4 := HL.out.b0.fr 0; have x5 := HL.out.b0.fr 1; have x6 := HL.out.b1.fr 0; have x7 := HL.out.b1.fr 1; have HQ2 := Aside0.mk (And.intro (HQ.out.1.below hbx) (HQ.out.2.below hbx)); clear z0 z1 HQ; have HQ := HQ2; clear HQ2; have z0 := HQ.out.1.cell0; have z1 := HQ.out.1.cell1; clear hbx hk5 hk6 hm5 hm6))
 obtain ⟨Y3, hY3⟩ : ∃ Y3, ((W4.setCell ⟨w.heap.size + 1, 0, none⟩ (.bool gQ)).setCell ⟨w.heap.size + 1, 1, none⟩ (.slice A5 k5 c5)) = Y3 := ⟨_, rfl⟩
 have HL2 : Aside0 (LP w gP A3 k3 c3 nP gQ A5 k5 c5 nQ Y3) := ⟨by subst hY3; exact HL.out.set1 HM5.out.1 HM5.out.2⟩
 rw [hY3]
 clear x0 x1 x2 x3 x4 x5 x6 x7
 clear hY3 HL HQ z0 z1 HM5
 have HL := HL2
 clear HL2
 have x0 := HL.out.b0.cell0; have x1 := HL.out.b0.cell1; have x2 := HL.out.b1.cell0; have x3 := HL.out.b1.cell1; have x4 := HL.out.b0.fr 0; have x5 := HL.out.b0.fr 1; have x6 := HL.out.b1.fr 0; have x7 := HL.out.b1.fr 1
 have q0 := HL.out.b2.cell0
 have q1 := HL.out.b2.cell1
 have q2 := HL.out.b2.cell2
 have q3 := HL.out.b2.cell3
 have q4 := HL.out.b2.fr 0
 have q5 := HL.out.b2.fr 1
 have q6 := HL.out.b2.fr 2
 have q7 := HL.out.b2.fr 3
 go_wp2_with fail
 exact frac_ret Tryz.results124 rfl HL.out.b2.put4 ⟨A3, k3, c3, A5, k5, c5, rfl, HR.out HL.out, below_put4R HL.out.bl (by omega)⟩
theorem rlowest_neg {w : World} {A1 A2 : Option Addr} {L1 L2 c1 c2 : Nat} {p q x y : Int} (hx : x = -p) (hy : y = -q) (h1 : RM w A1 L1 p.natAbs) (h2 : RM w A2 L2 q.natAbs) (hk1 : L1 ≤ c1) (hk2 : L2 ≤ c2) (hp : Dig 1000 x) (hq : Dig 1000 y) (h0 : 0 < y) :
 Calls Tryz.prog 124 #[rV A1 L1 c1 p, rV A2 L2 c2 q] w fun e w' => FX w (x / lowD x y) (y / lowD x y) e w' := by
 have hd := lowD_ne (p := x) (q := y) (by omega)
 have da := lowD_abs x y
 have hDD : Dig 1000 (lowD x y) := hq.gcd (by omega)
 have hn := lowD_neg (p := x) (q := y) (by omega)
 have s1 : ∀ {W : World} {A : Option Addr} {L : Nat} {x : Int}, RM W A L x.natAbs → Dig 1000 x → L ≤ 40000 := fun h hx => Nat.le_trans (h.dig hx 250 (by omega)) (by omega)
 have HCO : Aside0 (∀ W A1 k1 c1 A2 k2 c2, RM W A1 k1 x.natAbs → RM W A2 k2 y.natAbs → k1 ≤ c1 → k2 ≤ c2 → Calls Tryz.prog 97 #[.agg #[.bool (decide (x < 0)), .slice A1 k1 c1], .agg #[.bool (decide (y < 0)), .slice A2 k2 c2]] W fun e w' => ∃ A k c, e = .returned (.agg #[.bool false, .slice A k c]) ∧ k ≤ c ∧ RM w' A k (lowD x y).natAbs ∧ Below W.heap.size W w') := ⟨fun W A1 k1 c1 A2 k2 c2 m1 m2 e1 e2 => by rw [da]; exact rCommon_abs m1 m2 e1 e2 (s1 m1 hp) (s1 m2 hq)⟩
 have HOX := Aside0.mk (fun W A1 k1 c1 A2 k2 c2 m1 m2 => rOver_calls (w := W) (A1 := A1) (A2 := A2) (L1 := k1) (L2 := k2) (c1 := c1) (c2 := c2) (x := x) (y := lowD x y) m1 m2 hd (s1 m1 hp) (s1 m2 hDD))
 have HOY := Aside0.mk (fun W A1 k1 c1 A2 k2 c2 m1 m2 => rOver_calls (w := W) (A1 := A1) (A2 := A2) (L1 := k1) (L2 := k2) (c1 := c1) (c2 := c2) (x := y) (y := lowD x y) m1 m2 hd (s1 m1 hq) (s1 m2 hDD))
 have HN1 := Aside0.mk (fun W m1 => rNegative_calls (w := W) (A1 := A1) (L1 := L1) (c1 := c1) (x := p) m1 hk1)
 have HN2 := Aside0.mk (fun W m2 => rNegative_calls (w := W) (A1 := A2) (L1 := L2) (c1 := c2) (x := q) m2 hk2)
 rw [← hx] at HN1
 rw [← hy] at HN2
 rw [decide_eq_false (show ¬ y < 0 by omega)] at hn
 unfold OvPost at HOX HOY
 unfold FX fR
 unfold rV at *
 rw [hn] at HOX HOY
 rw [decide_eq_false (show ¬ y < 0 by omega)] at HOY HCO HN2
 rw [decide_eq_true (show q < 0 by omega)] at HN2 ⊢
 have HR : Aside0 (∀ {W : World} {A3 A5 : Option Addr} {k3 c3 k5 c5 : Nat}, LP w (decide (x / lowD x y < 0)) A3 k3 c3 (x / lowD x y).natAbs (decide (y / lowD x y < 0)) A5 k5 c5 (y / lowD x y).natAbs W → M2 (Nm.put4 W (w.heap.size + 1 + 1) (decide (x / lowD x y < 0)) A3 k3 c3 (decide (y / lowD x y < 0)) A5 k5 c5) A3 k3 c3 (x / lowD x y) A5 k5 c5 (y / lowD x y)) := ⟨fun h => M2.put4 h.b2 ⟨h.k1, h.k2, h.m1, h.m2⟩⟩
 generalize x / lowD x y = P at *
 generalize y / lowD x y = Q at *
 generalize decide (P < 0) = gP at *
 generalize decide (Q < 0) = gQ at *
 generalize P.natAbs = nP at *
 generalize Q.natAbs = nQ at *
 generalize (lowD x y).natAbs = d at *
 generalize decide (p < 0) = f1 at *
 generalize decide (x < 0) = f3 at *
 generalize x.natAbs = n3 at *
 generalize y.natAbs = n4 at *
 generalize p.natAbs = n1 at *
 generalize q.natAbs = n2 at *
 clear hd da hDD hn s1 hp hq h0 hx hy
 go_enter Tryz.func124, Tryz.ntmps124
 go_upto_region 1 with fail
 obtain ⟨wr, hwr⟩ : ∃ wr, (((w.alloc (.cells #[.bool f1, .slice A1 L1 c1] 77)).alloc (.cells #[.bool true, .slice A2 L2 c2] 77)).alloc (.cells #[.bool false, .slice none 0 0, .bool false, .slice none 0 0] 118)) = wr := ⟨_, rfl⟩
 have HL : Aside0 (LP w f1 A1 L1 c1 n1 true A2 L2 c2 n2 wr) := ⟨by subst hwr; exact LP.new h1 h2 hk1 hk2⟩
 rw [hwr]
 clear hwr h1 h2 hk1 hk2
 have x0 := HL.out.b0.cell0; have x1 := HL.out.b0.cell1; have x2 := HL.out.b1.cell0; have x3 := HL.out.b1.cell1; have x4 := HL.out.b0.fr 0; have x5 := HL.out.b0.fr 1; have x6 := HL.out.b1.fr 0; have x7 := HL.out.b1.fr 1
 go_wp2_with fail
 rename_i K hK
 refine wp_region_held_drew (S := (fun _ => True)) (by kernel_rfl) ?_ (fun hHeld => ?_)
 ·trivial
 (obtain ⟨Z, hZ⟩ : ∃ Z, wr.drew = Z := ⟨_, rfl⟩; have hbx : Below wr.heap.size wr Z := (by subst hZ; exact below_drew1 (Below.refl _ _)); have HL2 := Aside0.mk (HL.out.below hbx); clear x0 x1 x2 x3 x4 x5 x6 x7; clear HL; have HL := HL2; clear HL2; have x0 := HL.out.b0.cell0; have x1 := HL.out.b0.cell1; have x2 := HL.out.b1.cell0; have x3 := HL.out.b1.cell1; have x4 := HL.out.b0.fr 0; have x5 := HL.out.b0.fr 1; have x6 := HL.out.b1.fr 0; have x7 := HL.out.b1.fr 1; rw [hZ]; clear hZ hbx)
 repeat' (first
  | (refine fun (_ : Tg 0) K hK => ?_; go_simp; refine hK.out _ _ ?_ fun hHeld => ?_; (trivial); clear hK K; try simp only [PU])
  | (refine fun (_ : Tg 1) K hK => ?_; go_simp; (go_at_call 78; (with_reducible refine (HN1.out _ HL.out.m1).mono ?_); rintro e W5 ⟨k5, c5, rfl, hk5, hm5, hbx⟩; have HM5 := Aside0.mk (And.intro hk5 hm5); have HL2 := Aside0.mk (HL.out.below hbx); clear x0 x1 x2 x3 x4 x5 x6 x7; clear HL; have HL := HL2; clear HL2; have x0 := HL.out.b0.cell0; have x1 := HL.out.b0.cell1; have x2 := HL.out.b1.cell0; have x3 := HL.out.b1.cell1; have x4 := HL.out.b0.fr 0; have x5 := HL.out.b0.fr 1; have x6 := HL.out.b1.fr 0; have x7 := HL.out.b1.fr 1; clear hbx hk5 hm5); refine hK.out _ _ ?_ fun hHeld => ?_; (trivial); clear hK K; try simp only [PU])
  | (refine fun (_ : Tg 2) K hK => ?_; go_simp; refine hK.out _ _ ?_ fun hHeld => ?_; (trivial); clear hK K; try simp only [PU])
  | (refine fun (_ : Tg 3) K hK => ?_; go_simp; (go_at_call 78; (with_reducible refine (HN2.out _ HL.out.m2).mono ?_); rintro e W6 ⟨k6, c6, rfl, hk6, hm6, hbx⟩; have HM6 := Aside0.mk (And.intro hk6 hm6); have HM52 := Aside0.mk (And.intro HM5.out.1 (HM5.out.2.below hbx)); clear HM5; have HM5 := HM52; clear HM52; have HL2 := Aside0.mk (HL.out.below hbx); clear x0 x1 x2 x3 x4 x5 x6 x7; clear HL; have HL := HL2; clear HL2; have x0 := HL.out.b0.cell0; have x1 := HL.out.b0.cell1; have x2 := HL.out.b1.cell0; have x3 := HL.out.b1.cell1; have x4 := HL.out.b0.fr 0; have x5 := HL.out.b0.fr 1; have x6 := HL.out.b1.fr 0; have x7 := HL.out.b1.fr 1; clear hbx hk6 hm6); refine hK.out _ _ ?_ fun hHeld => ?_; (trivial); clear hK K; try simp only [PU])
  | (refine fun (_ : Tg 4) K hK => ?_; go_simp; refine hK.out _ _ ?_ fun hHeld => ?_; (trivial); clear hK K; try simp only [PU])
  | (refine fun (_ : Tg 5) K hK => ?_; go_simp; refine hK.out _ _ ?_ fun hHeld => ?_; (trivial); clear hK K; try simp only [PU])
  | refine t1 2 ?_
  | refine t1 3 ?_
  | refine t1 4 ?_
  | refine t1 5 ?_
  | refine t1 1 ?_
  | refine t1 0 ?_
  | refine t2 0 2 ?_ ?_
  | refine t2 1 2 ?_ ?_
  | fail)
 all_goals
  refine wpAnyH_done (by kernel_rfl) ?_ _
  (refine hK _ _ ?_; obtain ⟨Y0, hY0⟩ : ∃ Y0, ((((W6.setCell ⟨w.heap.size, 0, none⟩ (.bool f3)).setCell ⟨w.heap.size, 1, none⟩ (.slice A1 k5 c5)).setCell ⟨w.heap.size + 1, 0, none⟩ (.bool false)).setCell ⟨w.heap.size + 1, 1, none⟩ (.slice A2 k6 c6)) = Y0 := ⟨_, rfl⟩; have HL2 : Aside0 (LP w f3 A1 k5 c5 n3 false A2 k6 c6 n4 Y0) := ⟨by subst hY0; exact (HL.out.set0 HM5.out.1 HM5.out.2).set1 HM6.out.1 ((HM6.out.2.bg HL.out.b0 0 _).bg (HL.out.b0.put0 _) 1 _)⟩; rw [hY0]; clear x0 x1 x2 x3 x4 x5 x6 x7; clear hY0 HL HM5 HM6 HN1 HN2 hK; have HL := HL2; clear HL2; have x0 := HL.out.b0.cell0; have x1 := HL.out.b0.cell1; have x2 := HL.out.b1.cell0; have x3 := HL.out.b1.cell1; have x4 := HL.out.b0.fr 0; have x5 := HL.out.b0.fr 1; have x6 := HL.out.b1.fr 0; have x7 := HL.out.b1.fr 1)
 all_goals
  go_upto_region 4 with (first | (go_at_call 97; (with_reducible refine (HCO.out _ _ _ _ _ _ _ HL.out.m1 HL.out.m2 HL.out.k1 HL.out.k2).mono ?_); rintro e W2 ⟨Ad, kd, cd, rfl, hkd, hmd, hbx⟩; have HD := Aside0.mk hmd; have HL2 := Aside0.mk (HL.out.below hbx); clear x0 x1 x2 x3 x4 x5 x6 x7; clear HL; have HL := HL2; clear HL2; have x0 := HL.out.b0.cell0; have x1 := HL.out.b0.cell1; have x2 := HL.out.b1.cell0; have x3 := HL.out.b1.cell1; have x4 := HL.out.b0.fr 0; have x5 := HL.out.b0.fr 1; have x6 := HL.out.b1.fr 0; have x7 := HL.out.b1.fr 1; clear hbx hkd hmd))
  obtain ⟨Y, hY⟩ : ∃ Y, W2.alloc (.cells #[.bool false, .slice Ad kd cd] 77) = Y := ⟨_, rfl⟩
  have hbx : Below W2.heap.size W2 Y := by subst hY; exact below_alloc (Below.refl _ _) _
  have HQ : Aside0 (BG Y W2.heap.size false Ad kd cd ∧ RM Y Ad kd d) := ⟨by subst hY; exact BG.new _ _ _ _ _, HD.out.below hbx⟩
  have HN : Aside0 (w.heap.size + 1 + 1 < W2.heap.size) := ⟨HL.out.b2.lt⟩
  have z0 := HQ.out.1.cell0
  have z1 := HQ.out.1.cell1
  have HL2 := Aside0.mk (HL.out.below hbx); clear x0 x1 x2 x3 x4 x5 x6 x7; clear HL; have HL := HL2; clear HL2; have x0 := HL.out.b0.cell0; have x1 := HL.out.b0.cell1; have x2 := HL.out.b1.cell0; have x3 := HL.out.b1.cell1; have x4 := HL.out.b0.fr 0; have x5 := HL.out.b0.fr 1; have x6 := HL.out.b1.fr 0; have x7 := HL.out.b1.fr 1
  rw [hY]
  clear hY hbx HD
  generalize W2.heap.size = r at *
  go_upto_region 5 with (first | (go_at_call 92; (with_reducible refine (HOX.out _ _ _ _ _ _ _ HL.out.m1 HQ.out.2).mono ?_); rintro e W3 ⟨A3, k3, c3, A4, k4, c4, rfl, hk3, hk4, hm3, hm4, hbx⟩; have HM3 := Aside0.mk (And.intro hk3 hm3); have HL2 := Aside0.mk (HL.out.below hbx); clear x0 x1 x2 x3 x4 x5 x6 x7; clear HL; have HL := HL2; clear HL2; have x0 := HL.out.b0.cell0; have x1 := HL.out.b0.cell1; have x2 := HL.out.b1.cell0; have x3 := HL.out.b1.cell1; have x4 := HL.out.b0.fr 0; have x5 := HL.out.b0.fr 1; have x6 := HL.out.b1.fr 0; have x7 := HL.out.b1.fr 1; have HQ2 := Aside0.mk (And.intro (HQ.out.1.below hbx) (HQ.out.2.below hbx)); clear z0 z1 HQ; have HQ := HQ2; clear HQ2; have z0 := HQ.out.1.cell0; have z1 := HQ.out.1.cell1; clear hbx hk3 hk4 hm3 hm4))
  obtain ⟨Y2, hY2⟩ : ∃ Y2, ((W3.setCell ⟨w.heap.size, 0, none⟩ (.bool gP)).setCell ⟨w.heap.size, 1, none⟩ (.slice A3 k3 c3)) = Y2 := ⟨_, rfl⟩
  have HL2 : Aside0 (LP w gP A3 k3 c3 nP false A2 k6 c6 n4 Y2) := ⟨by subst hY2; exact HL.out.set0 HM3.out.1 HM3.out.2⟩
  have HQ2 : Aside0 (BG Y2 r false Ad kd cd ∧ RM Y2 Ad kd d) := ⟨by subst hY2; exact (HQ.out.1.other (by have := HN.out; omega) 0 _).other (by have := HN.out; omega) 1 _, by subst hY2; exact (HQ.out.2.bg HL.out.b0 0 _).bg (HL.out.b0.put0 _) 1 _⟩
  rw [hY2]
  clear x0 x1 x2 x3 x4 x5 x6 x7
  clear hY2 HL HQ z0 z1 HM3
  have HL := HL2
  have HQ := HQ2
  clear HL2 HQ2
  have z0 := HQ.out.1.cell0
  have z1 := HQ.out.1.cell1
  have x0 := HL.out.b0.cell0; have x1 := HL.out.b0.cell1; have x2 := HL.out.b1.cell0; have x3 := HL.out.b1.cell1; have x4 := HL.out.b0.fr 0; have x5 := HL.out.b0.fr 1; have x6 := HL.out.b1.fr 0; have x7 := HL.out.b1.fr 1
  go_upto_region 6 with (first | (go_at_call 92; (with_reducible refine (HOY.out _ _ _ _ _ _ _ HL.out.m2 HQ.out.2).mono ?_); rintro e W4 ⟨A5, k5, c5, A6, k6, c6, rfl, hk5, hk6, hm5, hm6, hbx⟩; have HM5 := Aside0.mk (And.intro hk5 hm5); have HL2 := Aside0.mk (HL.out.below hbx); clear x0 x1 x2 x3 x4 x5 x6 x7; clear HL; have HL := HL2; clear HL2; have x0 := HL.out.b0.cell0; have x1 := HL.out.b0.cell1; have x2 := HL.out.b1.cell0; have x3 := HL.out.b1.cell1; have x4 := HL.out.b0.fr 0; have x5 := HL.out.b0.fr 1; have x6 := HL.out.b1.fr 0; have x7 := HL.out.b1.fr 1; have HQ2 := Aside0.mk (And.intro (HQ.out.1.below hbx) (HQ.out.2.below hbx)); clear z0 z1 HQ; have HQ := HQ2; clear HQ2; have z0 := HQ.out.1.cell0; have z1 := HQ.out.1.cell1; clear hbx hk5 hk6 hm5 hm6))
  obtain ⟨Y3, hY3⟩ : ∃ Y3, ((W4.setCell ⟨w.heap.size + 1, 0, none⟩ (.bool gQ)).setCell ⟨w.heap.size + 1, 1, none⟩ (.slice A5 k5 c5)) = Y3 := ⟨_, rfl⟩
  have HL2 : Aside0 (LP w gP A3 k3 c3 nP gQ A5 k5 c5 nQ Y3) := ⟨by subst hY3; exact HL.out.set1 HM5.out.1 HM5.out.2⟩
  rw [hY3]
  clear x0 x1 x2 x3 x4 x5 x6 x7
  clear hY3 HL HQ z0 z1 HM5
  have HL := HL2
  clear HL2
  have x0 := HL.out.b0.cell0; have x1 := HL.out.b0.cell1; have x2 := HL.out.b1.cell0; have x3 := HL.out.b1.cell1; have x4 := HL.out.b0.fr 0; have x5 := HL.out.b0.fr 1; have x6 := HL.out.b1.fr 0; have x7 := HL.out.b1.fr 1
  have q0 := HL.out.b2.cell0
  have q1 := HL.out.b2.cell1
  have q2 := HL.out.b2.cell2
  have q3 := HL.out.b2.cell3
  have q4 := HL.out.b2.fr 0
  have q5 := HL.out.b2.fr 1
  have q6 := HL.out.b2.fr 2
  have q7 := HL.out.b2.fr 3
  go_wp2_with fail
  exact frac_ret Tryz.results124 rfl HL.out.b2.put4 ⟨A3, k3, c3, A5, k5, c5, rfl, HR.out HL.out, below_put4R HL.out.bl (by omega)⟩
/-- Lowest: a fraction in lowest terms. -/
theorem rLowest_calls {w : World} {A1 A2 : Option Addr} {L1 L2 c1 c2 : Nat} {p q : Int} (h1 : RM w A1 L1 p.natAbs) (h2 : RM w A2 L2 q.natAbs) (hk1 : L1 ≤ c1) (hk2 : L2 ≤ c2) (hp : Dig 1000 p) (hq : Dig 1000 q) (h0 : q ≠ 0) :
 Calls Tryz.prog 124 #[rV A1 L1 c1 p, rV A2 L2 c2 q] w fun e w' => FX w (p / lowD p q) (q / lowD p q) e w' := by
 by_cases h : q < 0
 ·obtain ⟨e1, e2⟩ := low_turn (p := p) h
  rw [e1, e2]
  exact rlowest_neg rfl rfl h1 h2 hk1 hk2 hp.neg hq.neg (by omega)
 ·exact rlowest_pos h1 h2 hk1 hk2 hp hq (by omega)
theorem rlowest_at {p q : Int} (hp : Dig 1000 p) (hq : Dig 1000 q) (h0 : q ≠ 0) :
 Aside0 (∀ W A k c A' k' c', RM W A k p.natAbs → RM W A' k' q.natAbs → k ≤ c → k' ≤ c' → Calls Tryz.prog 124 #[rV A k c p, rV A' k' c' q] W fun e w' => FX W (p / lowD p q) (q / lowD p q) e w') :=
 ⟨fun W A k c A' k' c' g1 g2 g3 g4 => rLowest_calls g1 g2 g3 g4 hp hq h0⟩
/-- WriteReal at a fraction in lowest terms. -/
theorem rwrite_low {y z : Int} (hy : Dig 1000 y) (hz : Dig 1000 z) : Aside0 (∀ W A k c A' k' c', M2 W A k c (y / lowD y z) A' k' c' (z / lowD y z) → Calls Tryz.prog 101 #[fR A k c (y / lowD y z) A' k' c' (z / lowD y z)] W fun e w' => e = .returned (.tuple #[.string (rsS y z), .int .i64 (rsE y z)]) ∧ Below W.heap.size W w') :=
 ⟨fun W A k c A' k' c' h => rWriteReal_calls h (hy.ediv.more (by omega)) (hz.ediv.more (by omega))⟩

theorem below_two {w W X : World} {o o' : Obj} (h : Below w.heap.size w W) (hb : Below ((W.alloc o).alloc o').heap.size ((W.alloc o).alloc o') X) : Below w.heap.size w X := by
 have h2 := below_alloc (below_alloc h o) o'
 exact h2.trans (hb.mono h2.size)
theorem rFloor_calls (s : ByteArray) (hs : s.size ≤ 90000) (w : World) :
 Calls Tryz.prog 61 #[.string s] w fun e w' => e = .returned (.tuple #[.string (flS s), .int .i64 (flR s)]) ∧ Below w.heap.size w w' := by
 have HCK := Aside0.mk (fun W => rCheckReal_calls s hs W)
 have HB := Aside0.mk (Below.refl w.heap.size w)
 unfold flS flR
 by_cases h0 : checkR s = 0
 ·have ks := checkR_ok h0
  have HRD := Aside0.mk (fun W => rReadReal_calls s hs (sp_check h0) ks.1 ks.2.1 W)
  have dp : Dig 120 (numR s) := intI_dig ks.1
  have dq : Dig 120 (denR s) := intI_dig ks.2.1
  have nq : denR s ≠ 0 := by have := ks.2.2.1; omega
  have HOV := Aside0.mk (fun W A1 k1 c1 A2 k2 c2 m1 m2 => rOver_calls (w := W) (A1 := A1) (A2 := A2) (L1 := k1) (L2 := k2) (c1 := c1) (c2 := c2) (x := numR s) (y := denR s) m1 m2 nq (Nat.le_trans (m1.dig dp 30 (by omega)) (by omega)) (Nat.le_trans (m2.dig dq 30 (by omega)) (by omega)))
  have HRS := Aside0.mk (fun W A k c hm => rresult_calls (w := W) (A := A) (L := k) (c := c) (x := numR s / denR s) hm (dp.ediv.more (by omega)))
  rw [if_pos h0, if_pos h0]
  rw [h0] at HCK
  clear h0 ks dp dq nq
  unfold OvPost at HOV
  unfold FX fR at HRD
  unfold rV at *
  generalize wrS (numR s / denR s) = S at *
  generalize wrE (numR s / denR s) = R at *
  generalize decide (numR s / denR s < 0) = gQ at *
  generalize decide (numR s % denR s < 0) = gR at *
  generalize (numR s / denR s).natAbs = nQ at *
  generalize decide (numR s < 0) = gp at *
  generalize decide (denR s < 0) = gq at *
  go_enter Tryz.func61, Tryz.ntmps61
  go_upto_region 5 with (first | (go_at_call 54; (with_reducible refine (HCK.out _).mono ?_); rintro e wx ⟨rfl, hbx⟩; have HB2 := Aside0.mk (HB.out.trans (hbx.mono HB.out.size)); clear HB; have HB := HB2; clear HB2; clear hbx) | (go_at_call 126; (with_reducible refine (HRD.out _).mono ?_); rintro e W2 ⟨A1, k1, c1, A2, k2, c2, rfl, hm, hbx⟩; have HM := Aside0.mk hm; have HB2 := Aside0.mk (HB.out.trans (hbx.mono HB.out.size)); clear HB; have HB := HB2; clear HB2; clear hbx hm))
  obtain ⟨Y, hY⟩ : ∃ Y, W2.alloc (.cells #[.bool gp, .slice A1 k1 c1, .bool gq, .slice A2 k2 c2] 118) = Y := ⟨_, rfl⟩
  have hbx : Below W2.heap.size W2 Y := by subst hY; exact below_alloc (Below.refl _ _) _
  have HF : BF Y W2.heap.size gp A1 k1 c1 gq A2 k2 c2 := by subst hY; exact BF.new _ _ rfl _ _ _ _ _ _ _ _
  have x0 := HF.cell0
  have x1 := HF.cell1
  have x2 := HF.cell2
  have x3 := HF.cell3
  rw [hY]
  have HM2 := Aside0.mk (HM.out.below hbx)
  clear HM
  have HM := HM2
  have HB2 := Aside0.mk (HB.out.trans (hbx.mono HB.out.size)); clear HB; have HB := HB2; clear HB2
  clear hbx HM2 HF hY
  go_wp2_with (first | (go_at_call 92; (with_reducible refine (HOV.out _ _ _ _ _ _ _ HM.out.m1 HM.out.m2).mono ?_); rintro e W3 ⟨A3, k3, c3, A4, k4, c4, rfl, hk3, hk4, hm3, hm4, hbx⟩; have HM3 : Aside0 (∀ W, Below W3.heap.size W3 W → RM W A3 k3 nQ) := ⟨fun W hb => hm3.below hb⟩; have HB2 := Aside0.mk (HB.out.trans (hbx.mono HB.out.size)); clear HB; have HB := HB2; clear HB2; clear hbx hm3 hm4 hk3 hk4) | (go_at_call 77; (with_reducible refine (HRS.out _ _ _ _ (HM3.out _ (by repeat (first | exact Below.refl _ _ | apply below_alloc)))).mono ?_); rintro e W4 ⟨rfl, hbx⟩))
  go_ret2
  exact ⟨rfl, below_two HB.out hbx⟩
 ·rw [if_neg h0, if_neg h0]
  have hbe : (checkR s != 0) = true := by simp [h0]
  generalize checkR s = E at *
  go_enter Tryz.func61, Tryz.ntmps61
  go_wp2_with (first | (go_at_call 54; (with_reducible refine (HCK.out _).mono ?_); rintro e wx ⟨rfl, hbx⟩; have HB2 := Aside0.mk (HB.out.trans (hbx.mono HB.out.size)); clear HB; have HB := HB2; clear HB2; clear hbx))
  go_ret2
  exact ⟨rfl, HB.out⟩
theorem rParts_calls (s : ByteArray) (hs : s.size ≤ 90000) (w : World) :
 Calls Tryz.prog 58 #[.string s] w fun e w' => e = .returned (.tuple #[.string (paS (cutA 47) s), .string (paS (cutB 47) s), .int .i64 (checkR s)]) ∧ Below w.heap.size w w' := by
 have HCK := Aside0.mk (fun W => rCheckReal_calls s hs W)
 have HSP := Aside0.mk (fun W => rsplit_calls s (by omega) W)
 have HB := Aside0.mk (Below.refl w.heap.size w)
 unfold paS
 by_cases h0 : checkR s = 0
 ·rw [sp_check h0, if_pos rfl, if_pos rfl] at HSP
  rw [if_pos h0, if_pos h0]
  rw [h0] at HCK ⊢
  clear h0
  generalize cutA 47 s = a at *
  generalize cutB 47 s = b at *
  go_enter Tryz.func58, Tryz.ntmps58
  go_wp2_with (first | (go_at_call 54; (with_reducible refine (HCK.out _).mono ?_); rintro e wx ⟨rfl, hbx⟩; have HB2 := Aside0.mk (HB.out.trans (hbx.mono HB.out.size)); clear HB; have HB := HB2; clear HB2; clear hbx) | (go_at_call 121; (with_reducible refine (HSP.out _).mono ?_); rintro e wx ⟨rfl, hbx⟩; have HB2 := Aside0.mk (HB.out.trans (hbx.mono HB.out.size)); clear HB; have HB := HB2; clear HB2; clear hbx))
  go_ret3
  exact ⟨rfl, HB.out⟩
 ·rw [if_neg h0, if_neg h0]
  have hbe : (checkR s != 0) = true := by simp [h0]
  generalize checkR s = E at *
  go_enter Tryz.func58, Tryz.ntmps58
  go_wp2_with (first | (go_at_call 54; (with_reducible refine (HCK.out _).mono ?_); rintro e wx ⟨rfl, hbx⟩; have HB2 := Aside0.mk (HB.out.trans (hbx.mono HB.out.size)); clear HB; have HB := HB2; clear HB2; clear hbx))
  go_ret3
  exact ⟨rfl, HB.out⟩
theorem rReal_calls (a b : ByteArray) (ha : a.size ≤ 90000) (hb : b.size ≤ 90000) (w : World) :
 Calls Tryz.prog 56 #[.string a, .string b] w fun e w' => e = .returned (.tuple #[.string (rlS a b), .int .i64 (rlR a b)]) ∧ Below w.heap.size w w' := by
 unfold rlS rlR
 have HCa := Aside0.mk (fun W => rCheck_calls a (by omega) W)
 have HCb := Aside0.mk (fun W => rCheck_calls b (by omega) W)
 obtain ⟨E, hE⟩ : ∃ E, divE a b = E := ⟨_, rfl⟩
 rw [hE]
 have hf := (div_first a b).trans hE
 have HWN := Aside0.mk (fun W => rwhen_calls (b.toList == [48]) 30 W)
 have HFI := Aside0.mk (fun (W : World) (g : Nat) (hg : g = W.heap.size) (t : TypeId) => rfirst3_ret (checkI a) (checkI b) (if (b.toList == [48]) = true then 30 else 0) E hf W g hg t)
 have HB := Aside0.mk (Below.refl w.heap.size w)
 by_cases h0 : E = 0
 ·subst h0
  have hz0 : biE a b = 0 ∧ intI b ≠ 0 := by
   unfold divE at hE
   split at hE
   ·rename_i h
    refine ⟨h, fun h2 => ?_⟩
    rw [if_pos h2] at hE
    omega
   ·exact absurd hE ‹_›
  have hz := biE_zero hz0.1
  have HRa := Aside0.mk (fun W => rRead_calls a ha (check_digits hz.1) W)
  have HRb := Aside0.mk (fun W => rRead_calls b hb (check_digits hz.2) W)
  have dx : Dig 1000 (intI a) := (intI_dig hz.1).more (by omega)
  have dy : Dig 1000 (intI b) := (intI_dig hz.2).more (by omega)
  have HLO := rlowest_at dx dy hz0.2
  have HWR := rwrite_low dx dy
  rw [if_pos rfl, if_pos rfl]
  clear hE hz dx dy hz0 hf
  unfold FX at HLO
  unfold RX at *
  unfold fR at *
  generalize (if (b.toList == [48]) = true then (30 : Int) else 0) = cc at *
  generalize checkI a = ca at *
  generalize checkI b = cb at *
  generalize rsS (intI a) (intI b) = S at *
  generalize rsE (intI a) (intI b) = R at *
  generalize intI a / lowD (intI a) (intI b) = P at *
  generalize intI b / lowD (intI a) (intI b) = Q at *
  generalize intI a = x at *
  generalize intI b = y at *
  unfold rV at *
  generalize decide (x < 0) = gx at *
  generalize decide (y < 0) = gy at *
  generalize decide (P < 0) = gP at *
  generalize decide (Q < 0) = gQ at *
  go_enter Tryz.func56, Tryz.ntmps56
  go_wp2_with (first | (go_at_call 13; (with_reducible refine (HCa.out _).mono ?_); rintro e wx ⟨rfl, hbx⟩; have HB2 := Aside0.mk (HB.out.trans (hbx.mono HB.out.size)); clear HB; have HB := HB2; clear HB2; clear hbx) | (go_at_call 13; (with_reducible refine (HCb.out _).mono ?_); rintro e wx ⟨rfl, hbx⟩; have HB2 := Aside0.mk (HB.out.trans (hbx.mono HB.out.size)); clear HB; have HB := HB2; clear HB2; clear hbx) | (go_at_call 67; (with_reducible refine (HWN.out _).mono ?_); rintro e wx ⟨rfl, rfl⟩) | (go_at_call 81; (with_reducible refine (HFI.out _ _ rfl _).mono ?_); rintro e wx ⟨rfl, hwx⟩; rw [hwx]; clear hwx wx; have HB2 := Aside0.mk (below_alloc HB.out (.cells #[.int .i64 ca, .int .i64 cb, .int .i64 cc] 3)); clear HB; have HB := HB2; clear HB2) | (go_at_call 72; (with_reducible refine (HRa.out _).mono ?_); rintro e wx ⟨A1, k1, c1, rfl, hk1, hm1, hbx⟩; have HM1 := Aside0.mk (And.intro hk1 hm1); have HB2 := Aside0.mk (HB.out.trans (hbx.mono HB.out.size)); clear HB; have HB := HB2; clear HB2; clear hbx hk1 hm1) | (go_at_call 72; (with_reducible refine (HRb.out _).mono ?_); rintro e wx ⟨A2, k2, c2, rfl, hk2, hm2, hbx⟩; have HM2 := Aside0.mk (And.intro hk2 hm2); have HM1 := Aside0.mk (And.intro HM1.out.1 (HM1.out.2.below hbx)); have HB2 := Aside0.mk (HB.out.trans (hbx.mono HB.out.size)); clear HB; have HB := HB2; clear HB2; clear hbx hk2 hm2) | (go_at_call 124; (with_reducible refine (HLO.out _ _ _ _ _ _ _ HM1.out.2 HM2.out.2 HM1.out.1 HM2.out.1).mono ?_); rintro e W3 ⟨A5, k5, c5, A6, k6, c6, rfl, hm5, hbx⟩; have HM5 := Aside0.mk hm5; have HB2 := Aside0.mk (HB.out.trans (hbx.mono HB.out.size)); clear HB; have HB := HB2; clear HB2; clear hbx hm5) | (go_at_call 101; (with_reducible refine (HWR.out _ _ _ _ _ _ _ HM5.out).mono ?_); rintro e W4 ⟨rfl, hbx⟩; have HB2 := Aside0.mk (HB.out.trans (hbx.mono HB.out.size)); clear HB; have HB := HB2; clear HB2; clear hbx))
  go_ret2
  exact ⟨rfl, HB.out⟩
 ·have hbe : (E != 0) = true := by simp [h0]
  rw [if_neg h0, if_neg h0]
  clear hE hf
  generalize (if (b.toList == [48]) = true then (30 : Int) else 0) = cc at *
  generalize checkI a = ca at *
  generalize checkI b = cb at *
  go_enter Tryz.func56, Tryz.ntmps56
  go_wp2_with (first | (go_at_call 13; (with_reducible refine (HCa.out _).mono ?_); rintro e wx ⟨rfl, hbx⟩; have HB2 := Aside0.mk (HB.out.trans (hbx.mono HB.out.size)); clear HB; have HB := HB2; clear HB2; clear hbx) | (go_at_call 13; (with_reducible refine (HCb.out _).mono ?_); rintro e wx ⟨rfl, hbx⟩; have HB2 := Aside0.mk (HB.out.trans (hbx.mono HB.out.size)); clear HB; have HB := HB2; clear HB2; clear hbx) | (go_at_call 67; (with_reducible refine (HWN.out _).mono ?_); rintro e wx ⟨rfl, rfl⟩) | (go_at_call 81; (with_reducible refine (HFI.out _ _ rfl _).mono ?_); rintro e wx ⟨rfl, hwx⟩; rw [hwx]; clear hwx wx; have HB2 := Aside0.mk (below_alloc HB.out (.cells #[.int .i64 ca, .int .i64 cb, .int .i64 cc] 3)); clear HB; have HB := HB2; clear HB2))
  go_ret2
  exact ⟨rfl, HB.out⟩
/-- One point at p, digits all around it. -/
def Good (l : List UInt8) (p : Nat) : Prop := ∃ hp : p < l.length, l[p] = 46 ∧ (∀ (j : Nat) (h : j < l.length), j ≠ p → isDig l[j] = true) ∧ 0 < p ∧ p + 1 < l.length
/-- What the loop knows: digits so far; or one point at p, digits else. -/
def FdI (l : List UInt8) (i : Nat) (v : Int) : Prop := (v = -1 ∧ ∀ (j : Nat) (h : j < l.length), j < i → isDig l[j] = true) ∨ ∃ p : Nat, v = p ∧ p < i ∧ ∃ hp : p < l.length, l[p] = 46 ∧ ∀ (j : Nat) (h : j < l.length), j < i → j ≠ p → isDig l[j] = true
theorem FdI.dig {l : List UInt8} {i : Nat} {v : Int} (h : FdI l i v) (hi : i < l.length) (hd : isDig l[i] = true) : FdI l (i + 1) v := by
 have hs : ∀ j, j < i + 1 → j < i ∨ j = i := fun j h => by omega
 rcases h with ⟨h1, h2⟩ | ⟨p, h1, h2, h3, h4, h5⟩
 ·refine .inl ⟨h1, fun j hj hlt => ?_⟩
  rcases hs j hlt with h | rfl
  ·exact h2 j hj h
  ·exact hd
 ·refine .inr ⟨p, h1, by omega, h3, h4, fun j hj hlt hne => ?_⟩
  rcases hs j hlt with h | rfl
  ·exact h5 j hj h hne
  ·exact hd
theorem FdI.dot {l : List UInt8} {i : Nat} (h : ∀ (j : Nat) (h : j < l.length), j < i → isDig l[j] = true) (hi : i < l.length) (hd : l[i] = 46) : FdI l (i + 1) i :=
 .inr ⟨i, rfl, by omega, hi, hd, fun j hj hlt hne => h j hj (by omega)⟩
theorem dig46 : isDig 46 = false := rfl
theorem good_other {l : List UInt8} {p i : Nat} (h : Good l p) (hi : i < l.length) (hd : isDig l[i] = false) : i = p ∧ l[i] = 46 := by
 obtain ⟨hp, h1, h2, h3, h4⟩ := h
 by_cases e : i = p
 ·subst e; exact ⟨rfl, h1⟩
 ·rw [h2 i hi e] at hd; cases hd
theorem fd_good {s : ByteArray} {p : Nat} (h : Good s.data.toList p) : cutF 46 s = true ∧ cutA 46 s = s.extract 0 p ∧ cutB 46 s = s.extract (p + 1) s.size ∧ digitsB (cutA 46 s) = true ∧ digitsB (cutB 46 s) = true ∧ (cutA 46 s).size = p ∧ p + 1 + (cutB 46 s).size = s.size ∧ 0 < p := by
 obtain ⟨hp, h1, h2, h3, h4⟩ := h
 have hsl : s.data.toList.length = s.size := by simp
 have e3 : s.data.toList = s.data.toList.take p ++ 46 :: s.data.toList.drop (p + 1) := by
  have h5 := List.drop_eq_getElem_cons hp
  rw [h1] at h5
  rw [← h5, List.take_append_drop]
 have a1 : ∀ x ∈ s.data.toList.take p, isDig x = true := fun x hx => by
  obtain ⟨j, hj, rfl⟩ := List.mem_take_iff_getElem.1 hx
  exact h2 j (by omega) (by omega)
 have a2 : ∀ x ∈ s.data.toList.drop (p + 1), isDig x = true := fun x hx => by
  obtain ⟨j, hj, rfl⟩ := List.mem_drop_iff_getElem.1 hx
  exact h2 (p + 1 + j) (by omega) (by omega)
 have e4 : (46 : UInt8) ∉ s.data.toList.take p := fun hm => by have := a1 _ hm; rw [dig46] at this; cases this
 have hc : Lib.cut s.data.toList [46] = (s.data.toList.take p, s.data.toList.drop (p + 1), true) := by
  conv => lhs; rw [e3]
  exact cut_append _ _ e4
 have z1 : (cutA 46 s).data.toList = s.data.toList.take p := by unfold cutA; rw [hc]
 have z2 : (cutB 46 s).data.toList = s.data.toList.drop (p + 1) := by unfold cutB; rw [hc]
 have y1 : (cutA 46 s).size = p := by
  have : (cutA 46 s).data.toList.length = (cutA 46 s).size := by simp
  rw [← this, z1, List.length_take]; omega
 have y2 : p + 1 + (cutB 46 s).size = s.size := by
  have : (cutB 46 s).data.toList.length = (cutB 46 s).size := by simp
  rw [← this, z2, List.length_drop]; omega
 refine ⟨by unfold cutF; rw [hc], ?_, ?_, ?_, ?_, y1, y2, h3⟩
 ·apply ByteArray.ext
  apply Array.toList_inj.1
  rw [z1, ByteArray.data_extract, Array.toList_extract]
  simp
 ·apply ByteArray.ext
  apply Array.toList_inj.1
  rw [z2, ByteArray.data_extract, Array.toList_extract]
  simp only [List.extract_eq_take_drop]
  exact (List.take_of_length_le (by rw [List.length_drop]; exact Nat.sub_le_sub_right (by simp) _)).symm
 ·unfold digitsB
  rw [z1, List.all_eq_true.2 a1, Bool.true_and, decide_eq_true_eq]
  omega
 ·unfold digitsB
  rw [z2, List.all_eq_true.2 a2, Bool.true_and, decide_eq_true_eq]
  omega
theorem fd_bad_one {s : ByteArray} (h : ∀ p, ¬ Good s.data.toList p) : fdE s = 1 := by
 unfold fdE
 rw [if_pos]
 cases h1 : cutF 46 s
 ·exact .inl rfl
 ·cases h2 : digitsB (cutA 46 s)
  ·exact .inr (.inl rfl)
  ·cases h3 : digitsB (cutB 46 s)
   ·exact .inr (.inr rfl)
   ·exfalso
    have hj : s.data.toList = (cutA 46 s).data.toList ++ 46 :: (cutB 46 s).data.toList := by
     unfold cutF at h1
     have := cut_join h1
     simpa [cutA, cutB] using this
    unfold digitsB at h2 h3
    simp only [Bool.and_eq_true, decide_eq_true_eq] at h2 h3
    have l1 : (cutA 46 s).data.toList.length = (cutA 46 s).size := by simp
    have l2 : (cutB 46 s).data.toList.length = (cutB 46 s).size := by simp
    generalize (cutA 46 s).data.toList = A at *
    generalize (cutB 46 s).data.toList = B at *
    refine h A.length ?_
    rw [hj]
    refine ⟨by simp, by simp, fun j hlt hne => ?_, by omega, by simp; omega⟩
    rcases Nat.lt_or_ge j A.length with h5 | h5
    ·rw [List.getElem_append_left h5]
     exact List.all_eq_true.1 h2.1 _ (List.getElem_mem _)
    ·rw [List.getElem_append_right h5]
     obtain ⟨m, hm⟩ : ∃ m, j - A.length = m + 1 := ⟨j - A.length - 1, by omega⟩
     simp only [hm, List.getElem_cons_succ]
     exact List.all_eq_true.1 h3.1 _ (List.getElem_mem _)
theorem FdI.bad1 {s : ByteArray} {i : Nat} (hi : i < s.data.toList.length) (hd : isDig s.data.toList[i] = false) (hne : s.data.toList[i] ≠ 46) : fdE s = 1 :=
 fd_bad_one fun p h => hne (good_other h hi hd).2
theorem FdI.bad2 {s : ByteArray} {i p : Nat} (hp : p < s.data.toList.length) (h46 : s.data.toList[p] = 46) (hpi : p < i) (hi : i < s.data.toList.length) (hd : isDig s.data.toList[i] = false) : fdE s = 1 :=
 fd_bad_one fun q h => by
  have e1 := (good_other h hi hd).1
  have e2 := (good_other h hp (by rw [h46]; rfl)).1
  omega
theorem FdI.fin {s : ByteArray} {v : Int} (h : FdI s.data.toList s.data.toList.length v) : (v = -1 ∧ fdE s = 1) ∨ ∃ p : Nat, v = p ∧ p < s.size ∧ ((p = 0 ∨ p + 1 = s.size) ∧ fdE s = 1 ∨ 0 < p ∧ p + 1 < s.size ∧ Good s.data.toList p) := by
 have hsl : s.data.toList.length = s.size := by simp
 rcases h with ⟨h1, h2⟩ | ⟨p, h1, h2, h3, h4, h5⟩
 ·refine .inl ⟨h1, fd_bad_one fun p h => ?_⟩
  obtain ⟨hp, e, _⟩ := h
  have := h2 p hp hp
  rw [e] at this
  cases this
 ·refine .inr ⟨p, h1, by omega, ?_⟩
  by_cases hg : 0 < p ∧ p + 1 < s.size
  ·exact .inr ⟨hg.1, hg.2, h3, h4, fun j hj hne => h5 j hj hj hne, hg.1, by omega⟩
  ·refine .inl ⟨by omega, fd_bad_one fun q h => hg ?_⟩
   have e2 := (good_other h h3 (by rw [h4]; rfl)).1
   subst e2
   obtain ⟨_, _, _, g1, g2⟩ := h
   exact ⟨g1, by omega⟩
theorem good_E {s : ByteArray} {p : Nat} (h : Good s.data.toList p) : fdE s = if 120 < s.size - 1 then 4 else 0 := by
 obtain ⟨g1, _, _, g4, g5, g6, g7, _⟩ := fd_good h
 unfold fdE
 rw [if_neg (by rw [g1, g4, g5]; simp), g6, show p + (cutB 46 s).size = s.size - 1 by omega]
end
end Go.Proofs.YtillgofjlpjbcaaGreatDoor.Nm
