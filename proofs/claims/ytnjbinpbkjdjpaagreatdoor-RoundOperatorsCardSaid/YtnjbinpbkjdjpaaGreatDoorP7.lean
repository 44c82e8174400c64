import Derived.Test.YtnjbinpbkjdjpaaGreatDoorP3
import Derived.Test.YtnjbinpbkjdjpaaGreatDoorP6
import Derived.Test.YtnjbinpbkjdjpaaGreatDoorP4
import Derived.Lib.ParseIntB
import Derived.Lib.SmallJoins
/- Own text: contracts and laws on which the card rests (NmZ NmQ NnM NnN NnO NnP NnQ NnR). -/
set_option linter.unusedVariables false
set_option linter.unusedSimpArgs false
set_option maxRecDepth 1000000
set_option maxHeartbeats 16000000
namespace Go.Proofs.YtnjbinpbkjdjpaaGreatDoor.Nm
section
open Go.Proofs.YtnjbinpbkjdjpaaGreatDoor.Rf Go.Proofs.YtnjbinpbkjdjpaaGreatDoorW.PrintLast Go.Proofs.YtnjbinpbkjdjpaaGreatDoorW.PrintMore Go.Proofs.YtnjbinpbkjdjpaaGreatDoorW.PrintWords Go.RowKit Go.Shelf
/-- What lies in memory before over hands back its two integers. -/
structure OV (w : World) (f g : Bool) (A2 : Option Addr) (L2 n B6 B7 : Nat) (Aq : Option Addr) (kq q : Nat) (Ar : Option Addr) (kr r : Nat) (Z : World) : Prop where
 b6 : Boxed Z B6 109 (.slice Aq kq kq)
 b7 : Boxed Z B7 109 (.slice Ar kr kr)
 m6 : Mag Z Z.heap.size Aq kq q
 m7 : Mag Z Z.heap.size Ar kr r
 xf : Z.cell? ⟨w.heap.size, 1, none⟩ = some (.bool f)
 yg : Z.cell? ⟨w.heap.size + 1, 1, none⟩ = some (.bool g)
 ym : Z.cell? ⟨w.heap.size + 1, 0, none⟩ = some (.slice A2 L2 L2)
 my : Mag Z Z.heap.size A2 L2 n
 o2 : Out Z (w.heap.size + 1 + 1)
 o3 : Out Z (w.heap.size + 1 + 1 + 1)
 n6 : w.heap.size + 4 ≤ B6
 n7 : w.heap.size + 4 ≤ B7
 n67 : B6 ≠ B7
 bl : Below w.heap.size w Z
theorem OV.below {w : World} {f g : Bool} {A2 : Option Addr} {L2 n B6 B7 : Nat} {Aq : Option Addr} {kq q : Nat} {Ar : Option Addr} {kr r : Nat} {Z Y : World} (h : OV w f g A2 L2 n B6 B7 Aq kq q Ar kr r Z) (hb : Below Z.heap.size Z Y) : OV w f g A2 L2 n B6 B7 Aq kq q Ar kr r Y :=
 ⟨boxed_below h.b6 hb, boxed_below h.b7 hb, h.m6.up hb, h.m7.up hb, keepAt hb h.xf, keepAt hb h.yg, keepAt hb h.ym, h.my.up hb, h.o2.keep hb, h.o3.keep hb, h.n6, h.n7, h.n67, h.bl.trans (hb.mono h.bl.size)⟩
theorem Out.other {W : World} {b : Nat} (h : Out W b) {c : Nat} (hne : c ≠ b) (u : Value) : Out (W.setCell ⟨c, 0, none⟩ u) b :=
 ⟨(World.cell?_setCell_other _ _ _ _ (fun e => hne (by first | exact congrArg Addr.block e | exact (congrArg Addr.block e).symm))).trans h.1, (World.cell?_setCell_other _ _ _ _ (fun e => hne (by first | exact congrArg Addr.block e | exact (congrArg Addr.block e).symm))).trans h.2.1, by rw [World.frozen?_setCell]; exact h.2.2.1, by rw [World.frozen?_setCell]; exact h.2.2.2⟩
theorem cell_other {W : World} {b o : Nat} {v : Value} (h : W.cell? ⟨b, o, none⟩ = some v) {c : Nat} (hne : c ≠ b) (u : Value) : (W.setCell ⟨c, 0, none⟩ u).cell? ⟨b, o, none⟩ = some v :=
 (World.cell?_setCell_other _ _ _ _ (fun e => hne (by first | exact congrArg Addr.block e | exact (congrArg Addr.block e).symm))).trans h
theorem OV.set6 {w : World} {f g : Bool} {A2 : Option Addr} {L2 n B6 B7 : Nat} {Aq : Option Addr} {kq q : Nat} {Ar : Option Addr} {kr r : Nat} {Z : World} (h : OV w f g A2 L2 n B6 B7 Aq kq q Ar kr r Z) {Aq' : Option Addr} {kq' q' : Nat} (hm : Mag Z Z.heap.size Aq' kq' q') :
 OV w f g A2 L2 n B6 B7 Aq' kq' q' Ar kr r (Z.setCell ⟨B6, 0, none⟩ (.slice Aq' kq' kq')) := by
 have n6 := h.n6
 exact ⟨h.b6.set _, h.b7.other h.n67.symm _, hm.upS h.b6 (fun d => by simp) _ _, h.m7.upS h.b6 (fun d => by simp) _ _, cell_other h.xf (by omega) _, cell_other h.yg (by omega) _, cell_other h.ym (by omega) _, h.my.upS h.b6 (fun d => by simp) _ _, h.o2.other (by omega) _, h.o3.other (by omega) _, h.n6, h.n7, h.n67, h.bl.setCell (p := ⟨B6, 0, none⟩) (show w.heap.size ≤ B6 by omega) _⟩
theorem OV.set7 {w : World} {f g : Bool} {A2 : Option Addr} {L2 n B6 B7 : Nat} {Aq : Option Addr} {kq q : Nat} {Ar : Option Addr} {kr r : Nat} {Z : World} (h : OV w f g A2 L2 n B6 B7 Aq kq q Ar kr r Z) {Ar' : Option Addr} {kr' r' : Nat} (hm : Mag Z Z.heap.size Ar' kr' r') :
 OV w f g A2 L2 n B6 B7 Aq kq q Ar' kr' r' (Z.setCell ⟨B7, 0, none⟩ (.slice Ar' kr' kr')) := by
 have n7 := h.n7
 exact ⟨h.b6.other h.n67 _, h.b7.set _, h.m6.upS h.b7 (fun d => by simp) _ _, hm.upS h.b7 (fun d => by simp) _ _, cell_other h.xf (by omega) _, cell_other h.yg (by omega) _, cell_other h.ym (by omega) _, h.my.upS h.b7 (fun d => by simp) _ _, h.o2.other (by omega) _, h.o3.other (by omega) _, h.n6, h.n7, h.n67, h.bl.setCell (p := ⟨B7, 0, none⟩) (show w.heap.size ≤ B7 by omega) _⟩
theorem small_one (w : World) : Calls Tryz.prog 166 #[.int .u32 1] w fun e w' => ∃ A k, e = .returned (.agg #[.slice A k k, .bool false]) ∧ Mag w' w'.heap.size A k 1 ∧ Below w.heap.size w w' := small_calls (d := 1) BB1 w
theorem opaqueZ {p : World → Prop} {X : World} (h : Aside0 (p X)) : ∃ Y, X = Y ∧ Aside0 (p Y) := ⟨X, rfl, h⟩
theorem OV_start {w wd : World} {f g : Bool} {A2 A5 A6 : Option Addr} {L2 n k5 k6 q r : Nat} (hb0 : Below w.heap.size w wd) (h4 : w.heap.size + 4 ≤ wd.heap.size) (d0 : wd.cell? ⟨w.heap.size, 1, none⟩ = some (.bool f)) (d1 : wd.cell? ⟨w.heap.size + 1, 1, none⟩ = some (.bool g)) (d2 : wd.cell? ⟨w.heap.size + 1, 0, none⟩ = some (.slice A2 L2 L2))
 (hm : ∀ wx, Below w.heap.size w wx → Mag wx wx.heap.size A2 L2 n) (o2 : Out wd (w.heap.size + 1 + 1)) (o3 : Out wd (w.heap.size + 1 + 1 + 1)) (h5 : Mag wd wd.heap.size A5 k5 q) (h6 : Mag wd wd.heap.size A6 k6 r) :
 OV w f g A2 L2 n wd.heap.size (wd.heap.size + 1) A5 k5 q A6 k6 r ((wd.alloc (.cells #[.slice A5 k5 k5] 109)).alloc (.cells #[.slice A6 k6 k6] 109)) := by
 have hb : Below wd.heap.size wd ((wd.alloc (.cells #[.slice A5 k5 k5] 109)).alloc (.cells #[.slice A6 k6 k6] 109)) := by repeat (first | exact Below.refl _ _ | apply below_alloc)
 have hbw : Below w.heap.size w ((wd.alloc (.cells #[.slice A5 k5 k5] 109)).alloc (.cells #[.slice A6 k6 k6] 109)) := hb0.trans (hb.mono (by omega))
 exact ⟨(boxed_at wd _ _ _ rfl).alloc _, boxed_at (wd.alloc _) _ _ _ (by simp), h5.up hb, h6.up hb, keepAt hb d0, keepAt hb d1, keepAt hb d2, hm _ hbw, o2.keep hb, o3.keep hb, by omega, by omega, by omega, hbw⟩
theorem Out.mag2 {W : World} {b : Nat} {A : Option Addr} {L n : Nat} (h : Out W b) (hm : Mag W W.heap.size A L n) (u u' : Value) : Mag ((W.setCell ⟨b, 0, none⟩ u).setCell ⟨b, 1, none⟩ u') ((W.setCell ⟨b, 0, none⟩ u).setCell ⟨b, 1, none⟩ u').heap.size A L n := (h.mag hm u u').more (by simp)
theorem over_calls {w : World} {B : Nat} {A1 A2 : Option Addr} {L1 L2 : Nat} {x y : Int} (h1 : Mag w B A1 L1 x.natAbs) (h2 : Mag w B A2 L2 y.natAbs) (hB : B ≤ w.heap.size) (hy : y ≠ 0) (hs1 : L1 ≤ 40000) (hs2 : L2 ≤ 40000) :
 Calls Tryz.prog 189 #[iV A1 L1 x, iV A2 L2 y] w fun e w' => ∃ A k A' k', e = .returned (.tuple #[iV A k (x / y), iV A' k' (x % y)]) ∧ Mag w' w'.heap.size A k (x / y).natAbs ∧ Mag w' w'.heap.size A' k' (x % y).natAbs ∧ Below w.heap.size w w' := by
 unfold iV
 obtain ⟨m, hm⟩ : ∃ m, x.natAbs = m := ⟨_, rfl⟩
 obtain ⟨n, hn⟩ : ∃ n, y.natAbs = n := ⟨_, rfl⟩
 have hlaw := over_law hy hm hn
 rw [hm] at h1
 rw [hn] at h2
 have H1 : Aside0 (Mag w B A1 L1 m) := ⟨h1⟩
 have H2 : Aside0 (Mag w B A2 L2 n) := ⟨h2⟩
 have hn0 : 0 < n := by omega
 clear h1 h2
 have hrn : decide (x % y < 0) = false := decide_eq_false (by have := hlaw.2.2; omega)
 rw [hrn]
 obtain ⟨f, hf⟩ : ∃ f, decide (x < 0) = f := ⟨_, rfl⟩
 obtain ⟨g, hg⟩ : ∃ g, decide (y < 0) = g := ⟨_, rfl⟩
 obtain ⟨r, hr⟩ : ∃ r, decide (x / y < 0) = r := ⟨_, rfl⟩
 rw [hf, hg, hr] at hlaw
 have HL := Aside0.mk hlaw
 have HF : Aside0 (f = true ↔ x < 0) := ⟨by rw [← hf]; simp⟩
 rw [hf, hg, hr]
 clear hlaw hf hg hr hrn
 by_cases hc : ¬ x < 0 ∨ m % n = 0
 ·obtain ⟨l1, l2, l3⟩ := HL.out.1 hc
  have HLL : Aside0 ((!(f == g) && decide (m / n ≠ 0)) = r ∧ (x / y).natAbs = m / n ∧ (x % y).natAbs = m % n) := ⟨l1, l2, l3⟩
  clear l1 l2 l3
  cases f
  ·go_enter Tryz.func189, Tryz.ntmps189
   go_wp2_with (go_at_call 181; (with_reducible refine (div_calls ((H1.out.keep hB (by repeat (first | exact Below.refl _ _ | apply below_alloc)))) (H2.out.keep hB (by repeat (first | exact Below.refl _ _ | apply below_alloc))) (by simp; omega) hn0 hs1 hs2).mono ?_); rintro e wd ⟨A5, k5, A6, k6, rfl, hm5, hm6, hbd⟩; obtain ⟨f0, f1⟩ := bcell hbd; have d0 : wd.cell? ⟨w.heap.size, 1, none⟩ = some (.bool false) := (f0 _ _ (by first | (simp; done) | (simp; omega))).trans (by simp [go_sem]); have d1 : wd.cell? ⟨w.heap.size + 1, 1, none⟩ = some (.bool g) := (f0 _ _ (by first | (simp; done) | (simp; omega))).trans (by simp [go_sem]); have d2 : wd.cell? ⟨w.heap.size + 1, 0, none⟩ = some (.slice A2 L2 L2) := (f0 _ _ (by first | (simp; done) | (simp; omega))).trans (by simp [go_sem]); have HOO : Aside0 (Out wd (w.heap.size + 1 + 1) ∧ Out wd (w.heap.size + 1 + 1 + 1)) := ⟨⟨(f0 _ _ (by first | (simp; done) | (simp; omega))).trans (by simp [go_sem]), (f0 _ _ (by first | (simp; done) | (simp; omega))).trans (by simp [go_sem]), (f1 _ _ (by first | (simp; done) | (simp; omega))).trans (by simp [go_sem]), (f1 _ _ (by first | (simp; done) | (simp; omega))).trans (by simp [go_sem])⟩, ⟨(f0 _ _ (by first | (simp; done) | (simp; omega))).trans (by simp [go_sem]), (f0 _ _ (by first | (simp; done) | (simp; omega))).trans (by simp [go_sem]), (f1 _ _ (by first | (simp; done) | (simp; omega))).trans (by simp [go_sem]), (f1 _ _ (by first | (simp; done) | (simp; omega))).trans (by simp [go_sem])⟩⟩; have hlt0 : w.heap.size < wd.heap.size := (by have := hbd.size; simp at this; omega); have HBD : Aside0 (Below w.heap.size w wd ∧ w.heap.size + 4 ≤ wd.heap.size) := ⟨below_step (by repeat (first | exact Below.refl _ _ | apply below_alloc)) hbd, by have := hbd.size; simp at this; omega⟩; have HM5 := Aside0.mk hm5; have HM6 := Aside0.mk hm6; clear f0 f1 hbd hm5 hm6)
   rename_i Q' K hK
   have HZ : Aside0 (OV w false g A2 L2 n wd.heap.size (wd.heap.size + 1) A5 k5 (m / n) A6 k6 (m % n) ((wd.alloc (.cells #[.slice A5 k5 k5] 109)).alloc (.cells #[.slice A6 k6 k6] 109))) := ⟨(by
    have hb : Below wd.heap.size wd ((wd.alloc (.cells #[.slice A5 k5 k5] 109)).alloc (.cells #[.slice A6 k6 k6] 109)) := by repeat (first | exact Below.refl _ _ | apply below_alloc)
    have h4 := HBD.out.2
    have hbw : Below w.heap.size w ((wd.alloc (.cells #[.slice A5 k5 k5] 109)).alloc (.cells #[.slice A6 k6 k6] 109)) := HBD.out.1.trans (hb.mono (by omega))
    exact ⟨(boxed_at wd _ _ _ rfl).alloc _, boxed_at (wd.alloc _) _ _ _ (by simp), HM5.out.up hb, HM6.out.up hb, keepAt hb d0, keepAt hb d1, keepAt hb d2, (H2.out.keep hB hbw).more (Nat.le_trans hB hbw.size), HOO.out.1.keep hb, HOO.out.2.keep hb, by omega, by omega, by omega, hbw⟩)⟩
   obtain ⟨Z, hZ⟩ : ∃ Z, ((wd.alloc (.cells #[.slice A5 k5 k5] 109)).alloc (.cells #[.slice A6 k6 k6] 109)) = Z := ⟨_, rfl⟩
   obtain ⟨B6, hB6⟩ : ∃ B6, wd.heap.size = B6 := ⟨_, rfl⟩
   obtain ⟨B7, hB7⟩ : ∃ B7, B6 + 1 = B7 := ⟨_, rfl⟩
   rw [hZ, hB6, hB7] at HZ
   rw [hZ, hB6, hB7]
   clear hZ d0 d1 d2 HOO hlt0 HM5 HM6 HBD hB6 hB7
   have HSG : Aside0 ((g && decide (m / n ≠ 0)) = r) := ⟨by have h := HLL.out.1; rw [show (!(false == g)) = g by cases g <;> rfl] at h; exact h⟩
   have c6 := HZ.out.b6.cell
   have c7 := HZ.out.b7.cell
   have cf := HZ.out.xf
   have cg := HZ.out.yg
   refine wp_region_held_drew (S := (fun V => V.cell? ⟨B6, 0, none⟩ = some (.slice A5 k5 k5) ∧ V.cell? ⟨B7, 0, none⟩ = some (.slice A6 k6 k6) ∧ V.cell? ⟨w.heap.size, 1, none⟩ = some (.bool false) ∧ V.cell? ⟨w.heap.size + 1, 1, none⟩ = some (.bool g))) (by kernel_rfl) ?_ (fun hHeld => ?_)
   ·exact ⟨c6, c7, cf, cg⟩
   obtain ⟨Wd, hWd⟩ : ∃ Wd, Z.drew = Wd := ⟨_, rfl⟩
   rw [hWd] at hHeld ⊢
   have HBV : Aside0 (Below Z.heap.size Z Wd) := ⟨by subst hWd; exact below_drew1 (Below.refl _ _)⟩
   clear hWd
   refine tp 0 ?_
   try simp only [PU]
   refine tp 1 ?_
   try simp only [PU]
   refine tp 2 ?_
   try simp only [PU]
   refine tp 3 ?_
   try simp only [PU]
   refine tp 4 ?_
   try simp only [PU]
   refine tp 5 ?_
   try simp only [PU]
   refine tp 7 ?_
   try simp only [PU]
   refine tc 6 fun K hK => ?_
   go_simp
   (go_at_call 139; (with_reducible refine (signed_any (HZ.out.below HBV.out).m6 (Nat.le_refl _) HSG.out).mono ?_); rintro e wq ⟨rfl, hmq, hbq⟩; have hma := Aside0.mk (hmq.more hbq.size); have HBV := Aside0.mk (bJoin hbq HBV.out))
   refine hK.out _ _ ?_ fun hHeld => ?_
   ·(first | exact ⟨keepAt HBV.out c6, keepAt HBV.out c7, keepAt HBV.out cf, keepAt HBV.out cg⟩ | exact ⟨(World.cell?_setCell_other _ _ _ _ (by first | (simp; done) | (have := HZ.out.n6; simp; omega))).trans ((World.cell?_setCell_other _ _ _ _ (by first | (simp; done) | (have := HZ.out.n6; simp; omega))).trans hHeld.1), (World.cell?_setCell_other _ _ _ _ (by first | (simp; done) | (have := HZ.out.n7; simp; omega))).trans ((World.cell?_setCell_other _ _ _ _ (by first | (simp; done) | (have := HZ.out.n7; simp; omega))).trans hHeld.2.1), (World.cell?_setCell_other _ _ _ _ (by simp)).trans ((World.cell?_setCell_other _ _ _ _ (by simp)).trans hHeld.2.2.1), (World.cell?_setCell_other _ _ _ _ (by simp)).trans ((World.cell?_setCell_other _ _ _ _ (by simp)).trans hHeld.2.2.2)⟩)
   clear hK K; try simp only [PU]
   refine tc 8 fun K hK => ?_
   go_simp
   (go_at_call 139; (with_reducible refine (signed_any (r := false) (HZ.out.below HBV.out).m7 (Nat.le_refl _) rfl).mono ?_); rintro e wr ⟨rfl, hmr, hbq⟩; have hmb := Aside0.mk (hmr.more hbq.size); have hma := Aside0.mk (hma.out.up hbq); have HBV := Aside0.mk (bJoin hbq HBV.out); have HOT := Aside0.mk (And.intro (HZ.out.below HBV.out).o2 (HZ.out.below HBV.out).o3); obtain ⟨p1, p2, p3, p4⟩ := HOT.out.1; obtain ⟨q1, q2, q3, q4⟩ := HOT.out.2)
   refine hK.out _ _ ?_ fun hHeld => ?_
   ·(first | exact ⟨keepAt HBV.out c6, keepAt HBV.out c7, keepAt HBV.out cf, keepAt HBV.out cg⟩ | exact ⟨(World.cell?_setCell_other _ _ _ _ (by first | (simp; done) | (have := HZ.out.n6; simp; omega))).trans ((World.cell?_setCell_other _ _ _ _ (by first | (simp; done) | (have := HZ.out.n6; simp; omega))).trans hHeld.1), (World.cell?_setCell_other _ _ _ _ (by first | (simp; done) | (have := HZ.out.n7; simp; omega))).trans ((World.cell?_setCell_other _ _ _ _ (by first | (simp; done) | (have := HZ.out.n7; simp; omega))).trans hHeld.2.1), (World.cell?_setCell_other _ _ _ _ (by simp)).trans ((World.cell?_setCell_other _ _ _ _ (by simp)).trans hHeld.2.2.1), (World.cell?_setCell_other _ _ _ _ (by simp)).trans ((World.cell?_setCell_other _ _ _ _ (by simp)).trans hHeld.2.2.2)⟩)
   clear hK K; try simp only [PU]
   refine tc 9 fun K hK => ?_
   go_simp
   refine hK.out _ _ ?_ fun hHeld => ?_
   ·(first | exact ⟨keepAt HBV.out c6, keepAt HBV.out c7, keepAt HBV.out cf, keepAt HBV.out cg⟩ | exact ⟨(World.cell?_setCell_other _ _ _ _ (by first | (simp; done) | (have := HZ.out.n6; simp; omega))).trans ((World.cell?_setCell_other _ _ _ _ (by first | (simp; done) | (have := HZ.out.n6; simp; omega))).trans hHeld.1), (World.cell?_setCell_other _ _ _ _ (by first | (simp; done) | (have := HZ.out.n7; simp; omega))).trans ((World.cell?_setCell_other _ _ _ _ (by first | (simp; done) | (have := HZ.out.n7; simp; omega))).trans hHeld.2.1), (World.cell?_setCell_other _ _ _ _ (by simp)).trans ((World.cell?_setCell_other _ _ _ _ (by simp)).trans hHeld.2.2.1), (World.cell?_setCell_other _ _ _ _ (by simp)).trans ((World.cell?_setCell_other _ _ _ _ (by simp)).trans hHeld.2.2.2)⟩)
   clear hK K; try simp only [PU]
   refine tc 10 fun K hK => ?_
   go_simp
   refine hK.out _ _ ?_ fun hHeld => ?_
   ·(first | exact ⟨keepAt HBV.out c6, keepAt HBV.out c7, keepAt HBV.out cf, keepAt HBV.out cg⟩ | exact ⟨(World.cell?_setCell_other _ _ _ _ (by first | (simp; done) | (have := HZ.out.n6; simp; omega))).trans ((World.cell?_setCell_other _ _ _ _ (by first | (simp; done) | (have := HZ.out.n6; simp; omega))).trans hHeld.1), (World.cell?_setCell_other _ _ _ _ (by first | (simp; done) | (have := HZ.out.n7; simp; omega))).trans ((World.cell?_setCell_other _ _ _ _ (by first | (simp; done) | (have := HZ.out.n7; simp; omega))).trans hHeld.2.1), (World.cell?_setCell_other _ _ _ _ (by simp)).trans ((World.cell?_setCell_other _ _ _ _ (by simp)).trans hHeld.2.2.1), (World.cell?_setCell_other _ _ _ _ (by simp)).trans ((World.cell?_setCell_other _ _ _ _ (by simp)).trans hHeld.2.2.2)⟩)
   clear hK K; try simp only [PU]
   refine wpAnyH_done (by kernel_rfl) ?_ _
   refine hK _ _ ?_
   go_wp2
   have ho3 : Out ((wr.setCell ⟨w.heap.size + 1 + 1, 0, none⟩ (.slice A5 k5 k5)).setCell ⟨w.heap.size + 1 + 1, 1, none⟩ (.bool r)) (w.heap.size + 1 + 1 + 1) := ⟨(World.cell?_setCell_other _ _ _ _ (by simp)).trans ((World.cell?_setCell_other _ _ _ _ (by simp)).trans q1), (World.cell?_setCell_other _ _ _ _ (by simp)).trans ((World.cell?_setCell_other _ _ _ _ (by simp)).trans q2), by rw [World.frozen?_setCell, World.frozen?_setCell]; exact q3, by rw [World.frozen?_setCell, World.frozen?_setCell]; exact q4⟩
   refine bodyPost_ret (v := .tuple #[.agg #[.slice A5 k5 k5, .bool r], .agg #[.slice A6 k6 k6, .bool false]]) (by simp [results, Tryz.results189, go_sem, p1, p2, q1, q2]) rfl ⟨A5, k5, A6, k6, rfl, ?_, ?_, ?_⟩
   ·rw [HLL.out.2.1]; exact ho3.mag2 (HOT.out.1.mag2 hma.out _ _) _ _
   ·rw [HLL.out.2.2]; exact ho3.mag2 (HOT.out.1.mag2 hmb.out _ _) _ _
   ·exact (((((HZ.out.bl.trans (HBV.out.mono HZ.out.bl.size)).setCell (by simp; omega) _).setCell (by simp; omega) _).setCell (by simp; omega) _).setCell (by simp; omega) _)
  ·have HZR : Aside0 (decide (m % n = 0) = true) := ⟨decide_eq_true (hc.elim (fun h => absurd (HF.out.1 rfl) h) id)⟩
   go_enter Tryz.func189, Tryz.ntmps189
   go_wp2_with (first | (go_at_call 181; (with_reducible refine (div_calls ((H1.out.keep hB (by repeat (first | exact Below.refl _ _ | apply below_alloc)))) (H2.out.keep hB (by repeat (first | exact Below.refl _ _ | apply below_alloc))) (by simp; omega) hn0 hs1 hs2).mono ?_); rintro e wd ⟨A5, k5, A6, k6, rfl, hm5, hm6, hbd⟩; obtain ⟨f0, f1⟩ := bcell hbd; have d0 : wd.cell? ⟨w.heap.size, 1, none⟩ = some (.bool true) := (f0 _ _ (by first | (simp; done) | (simp; omega))).trans (by simp [go_sem]); have d1 : wd.cell? ⟨w.heap.size + 1, 1, none⟩ = some (.bool g) := (f0 _ _ (by first | (simp; done) | (simp; omega))).trans (by simp [go_sem]); have d2 : wd.cell? ⟨w.heap.size + 1, 0, none⟩ = some (.slice A2 L2 L2) := (f0 _ _ (by first | (simp; done) | (simp; omega))).trans (by simp [go_sem]); have HOO : Aside0 (Out wd (w.heap.size + 1 + 1) ∧ Out wd (w.heap.size + 1 + 1 + 1)) := ⟨⟨(f0 _ _ (by first | (simp; done) | (simp; omega))).trans (by simp [go_sem]), (f0 _ _ (by first | (simp; done) | (simp; omega))).trans (by simp [go_sem]), (f1 _ _ (by first | (simp; done) | (simp; omega))).trans (by simp [go_sem]), (f1 _ _ (by first | (simp; done) | (simp; omega))).trans (by simp [go_sem])⟩, ⟨(f0 _ _ (by first | (simp; done) | (simp; omega))).trans (by simp [go_sem]), (f0 _ _ (by first | (simp; done) | (simp; omega))).trans (by simp [go_sem]), (f1 _ _ (by first | (simp; done) | (simp; omega))).trans (by simp [go_sem]), (f1 _ _ (by first | (simp; done) | (simp; omega))).trans (by simp [go_sem])⟩⟩; have hlt0 : w.heap.size < wd.heap.size := (by have := hbd.size; simp at this; omega); have HBD : Aside0 (Below w.heap.size w wd ∧ w.heap.size + 4 ≤ wd.heap.size) := ⟨below_step (by repeat (first | exact Below.refl _ _ | apply below_alloc)) hbd, by have := hbd.size; simp at this; omega⟩; have HM5 := Aside0.mk hm5; have HM6 := Aside0.mk hm6; clear f0 f1 hbd hm5 hm6) | (go_at_call 74; (with_reducible refine (isZero_any HM6.out (Nat.le_refl _) (by repeat (first | exact Below.refl _ _ | apply below_alloc)) HZR.out).mono ?_); rintro e wz ⟨rfl, hbz⟩; have HZ := Aside0.mk ((OV_start HBD.out.1 HBD.out.2 d0 d1 d2 (fun wx hx => (H2.out.keep hB hx).more (Nat.le_trans hB hx.size)) HOO.out.1 HOO.out.2 HM5.out HM6.out).below hbz); clear hbz))
   rename_i Q' K hK
   obtain ⟨B6, hB6⟩ : ∃ B6, wd.heap.size = B6 := ⟨_, rfl⟩
   obtain ⟨B7, hB7⟩ : ∃ B7, B6 + 1 = B7 := ⟨_, rfl⟩
   rw [hB6, hB7] at HZ
   rw [hB6, hB7]
   clear d0 d1 d2 HOO hlt0 HM5 HM6 HBD hB6 hB7
   have HSG : Aside0 (((!g) && decide (m / n ≠ 0)) = r) := ⟨by have h := HLL.out.1; rw [show (!(true == g)) = !g by cases g <;> rfl] at h; exact h⟩
   have c6 := HZ.out.b6.cell
   have c7 := HZ.out.b7.cell
   have cf := HZ.out.xf
   have cg := HZ.out.yg
   refine wp_region_held_drew (S := (fun V => V.cell? ⟨B6, 0, none⟩ = some (.slice A5 k5 k5) ∧ V.cell? ⟨B7, 0, none⟩ = some (.slice A6 k6 k6) ∧ V.cell? ⟨w.heap.size, 1, none⟩ = some (.bool true) ∧ V.cell? ⟨w.heap.size + 1, 1, none⟩ = some (.bool g))) (by kernel_rfl) ?_ (fun hHeld => ?_)
   ·exact ⟨c6, c7, cf, cg⟩
   obtain ⟨Wd, hWd⟩ : ∃ Wd, wz.drew = Wd := ⟨_, rfl⟩
   rw [hWd] at hHeld ⊢
   have HBV : Aside0 (Below wz.heap.size wz Wd) := ⟨by subst hWd; exact below_drew1 (Below.refl _ _)⟩
   clear hWd
   refine tp 0 ?_
   try simp only [PU]
   refine tp 1 ?_
   try simp only [PU]
   refine tp 2 ?_
   try simp only [PU]
   refine tp 3 ?_
   try simp only [PU]
   refine tp 4 ?_
   try simp only [PU]
   refine tp 5 ?_
   try simp only [PU]
   refine tp 7 ?_
   try simp only [PU]
   refine tc 6 fun K hK => ?_
   go_simp
   (go_at_call 139; (with_reducible refine (signed_any (HZ.out.below HBV.out).m6 (Nat.le_refl _) HSG.out).mono ?_); rintro e wq ⟨rfl, hmq, hbq⟩; have hma := Aside0.mk (hmq.more hbq.size); have HBV := Aside0.mk (bJoin hbq HBV.out))
   refine hK.out _ _ ?_ fun hHeld => ?_
   ·(first | exact ⟨keepAt HBV.out c6, keepAt HBV.out c7, keepAt HBV.out cf, keepAt HBV.out cg⟩ | exact ⟨(World.cell?_setCell_other _ _ _ _ (by first | (simp; done) | (have := HZ.out.n6; simp; omega))).trans ((World.cell?_setCell_other _ _ _ _ (by first | (simp; done) | (have := HZ.out.n6; simp; omega))).trans hHeld.1), (World.cell?_setCell_other _ _ _ _ (by first | (simp; done) | (have := HZ.out.n7; simp; omega))).trans ((World.cell?_setCell_other _ _ _ _ (by first | (simp; done) | (have := HZ.out.n7; simp; omega))).trans hHeld.2.1), (World.cell?_setCell_other _ _ _ _ (by simp)).trans ((World.cell?_setCell_other _ _ _ _ (by simp)).trans hHeld.2.2.1), (World.cell?_setCell_other _ _ _ _ (by simp)).trans ((World.cell?_setCell_other _ _ _ _ (by simp)).trans hHeld.2.2.2)⟩)
   clear hK K; try simp only [PU]
   refine tc 8 fun K hK => ?_
   go_simp
   (go_at_call 139; (with_reducible refine (signed_any (r := false) (HZ.out.below HBV.out).m7 (Nat.le_refl _) rfl).mono ?_); rintro e wr ⟨rfl, hmr, hbq⟩; have hmb := Aside0.mk (hmr.more hbq.size); have hma := Aside0.mk (hma.out.up hbq); have HBV := Aside0.mk (bJoin hbq HBV.out); have HOT := Aside0.mk (And.intro (HZ.out.below HBV.out).o2 (HZ.out.below HBV.out).o3); obtain ⟨p1, p2, p3, p4⟩ := HOT.out.1; obtain ⟨q1, q2, q3, q4⟩ := HOT.out.2)
   refine hK.out _ _ ?_ fun hHeld => ?_
   ·(first | exact ⟨keepAt HBV.out c6, keepAt HBV.out c7, keepAt HBV.out cf, keepAt HBV.out cg⟩ | exact ⟨(World.cell?_setCell_other _ _ _ _ (by first | (simp; done) | (have := HZ.out.n6; simp; omega))).trans ((World.cell?_setCell_other _ _ _ _ (by first | (simp; done) | (have := HZ.out.n6; simp; omega))).trans hHeld.1), (World.cell?_setCell_other _ _ _ _ (by first | (simp; done) | (have := HZ.out.n7; simp; omega))).trans ((World.cell?_setCell_other _ _ _ _ (by first | (simp; done) | (have := HZ.out.n7; simp; omega))).trans hHeld.2.1), (World.cell?_setCell_other _ _ _ _ (by simp)).trans ((World.cell?_setCell_other _ _ _ _ (by simp)).trans hHeld.2.2.1), (World.cell?_setCell_other _ _ _ _ (by simp)).trans ((World.cell?_setCell_other _ _ _ _ (by simp)).trans hHeld.2.2.2)⟩)
   clear hK K; try simp only [PU]
   refine tc 9 fun K hK => ?_
   go_simp
   refine hK.out _ _ ?_ fun hHeld => ?_
   ·(first | exact ⟨keepAt HBV.out c6, keepAt HBV.out c7, keepAt HBV.out cf, keepAt HBV.out cg⟩ | exact ⟨(World.cell?_setCell_other _ _ _ _ (by first | (simp; done) | (have := HZ.out.n6; simp; omega))).trans ((World.cell?_setCell_other _ _ _ _ (by first | (simp; done) | (have := HZ.out.n6; simp; omega))).trans hHeld.1), (World.cell?_setCell_other _ _ _ _ (by first | (simp; done) | (have := HZ.out.n7; simp; omega))).trans ((World.cell?_setCell_other _ _ _ _ (by first | (simp; done) | (have := HZ.out.n7; simp; omega))).trans hHeld.2.1), (World.cell?_setCell_other _ _ _ _ (by simp)).trans ((World.cell?_setCell_other _ _ _ _ (by simp)).trans hHeld.2.2.1), (World.cell?_setCell_other _ _ _ _ (by simp)).trans ((World.cell?_setCell_other _ _ _ _ (by simp)).trans hHeld.2.2.2)⟩)
   clear hK K; try simp only [PU]
   refine tc 10 fun K hK => ?_
   go_simp
   refine hK.out _ _ ?_ fun hHeld => ?_
   ·(first | exact ⟨keepAt HBV.out c6, keepAt HBV.out c7, keepAt HBV.out cf, keepAt HBV.out cg⟩ | exact ⟨(World.cell?_setCell_other _ _ _ _ (by first | (simp; done) | (have := HZ.out.n6; simp; omega))).trans ((World.cell?_setCell_other _ _ _ _ (by first | (simp; done) | (have := HZ.out.n6; simp; omega))).trans hHeld.1), (World.cell?_setCell_other _ _ _ _ (by first | (simp; done) | (have := HZ.out.n7; simp; omega))).trans ((World.cell?_setCell_other _ _ _ _ (by first | (simp; done) | (have := HZ.out.n7; simp; omega))).trans hHeld.2.1), (World.cell?_setCell_other _ _ _ _ (by simp)).trans ((World.cell?_setCell_other _ _ _ _ (by simp)).trans hHeld.2.2.1), (World.cell?_setCell_other _ _ _ _ (by simp)).trans ((World.cell?_setCell_other _ _ _ _ (by simp)).trans hHeld.2.2.2)⟩)
   clear hK K; try simp only [PU]
   refine wpAnyH_done (by kernel_rfl) ?_ _
   refine hK _ _ ?_
   go_wp2
   have ho3 : Out ((wr.setCell ⟨w.heap.size + 1 + 1, 0, none⟩ (.slice A5 k5 k5)).setCell ⟨w.heap.size + 1 + 1, 1, none⟩ (.bool r)) (w.heap.size + 1 + 1 + 1) := ⟨(World.cell?_setCell_other _ _ _ _ (by simp)).trans ((World.cell?_setCell_other _ _ _ _ (by simp)).trans q1), (World.cell?_setCell_other _ _ _ _ (by simp)).trans ((World.cell?_setCell_other _ _ _ _ (by simp)).trans q2), by rw [World.frozen?_setCell, World.frozen?_setCell]; exact q3, by rw [World.frozen?_setCell, World.frozen?_setCell]; exact q4⟩
   refine bodyPost_ret (v := .tuple #[.agg #[.slice A5 k5 k5, .bool r], .agg #[.slice A6 k6 k6, .bool false]]) (by simp [results, Tryz.results189, go_sem, p1, p2, q1, q2]) rfl ⟨A5, k5, A6, k6, rfl, ?_, ?_, ?_⟩
   ·rw [HLL.out.2.1]; exact ho3.mag2 (HOT.out.1.mag2 hma.out _ _) _ _
   ·rw [HLL.out.2.2]; exact ho3.mag2 (HOT.out.1.mag2 hmb.out _ _) _ _
   ·exact (((((HZ.out.bl.trans (HBV.out.mono HZ.out.bl.size)).setCell (by simp; omega) _).setCell (by simp; omega) _).setCell (by simp; omega) _).setCell (by simp; omega) _)
 ·have hx : x < 0 := Classical.not_not.1 (fun h => hc (.inl h))
  have hr0 : m % n ≠ 0 := fun h => hc (.inr h)
  obtain ⟨l1, l2, l3⟩ := HL.out.2.1 ⟨hx, hr0⟩
  have HLL : Aside0 ((!(f == g) && decide (m / n + 1 ≠ 0)) = r ∧ (x / y).natAbs = m / n + 1 ∧ (x % y).natAbs = n - m % n) := ⟨l1, l2, l3⟩
  have HZR : Aside0 (decide (m % n = 0) = false) := ⟨decide_eq_false hr0⟩
  obtain rfl : f = true := HF.out.2 hx
  clear l1 l2 l3 hc hx hr0
  ·go_enter Tryz.func189, Tryz.ntmps189
   go_wp2_with (first | (go_at_call 181; (with_reducible refine (div_calls ((H1.out.keep hB (by repeat (first | exact Below.refl _ _ | apply below_alloc)))) (H2.out.keep hB (by repeat (first | exact Below.refl _ _ | apply below_alloc))) (by simp; omega) hn0 hs1 hs2).mono ?_); rintro e wd ⟨A5, k5, A6, k6, rfl, hm5, hm6, hbd⟩; obtain ⟨f0, f1⟩ := bcell hbd; have d0 : wd.cell? ⟨w.heap.size, 1, none⟩ = some (.bool true) := (f0 _ _ (by first | (simp; done) | (simp; omega))).trans (by simp [go_sem]); have d1 : wd.cell? ⟨w.heap.size + 1, 1, none⟩ = some (.bool g) := (f0 _ _ (by first | (simp; done) | (simp; omega))).trans (by simp [go_sem]); have d2 : wd.cell? ⟨w.heap.size + 1, 0, none⟩ = some (.slice A2 L2 L2) := (f0 _ _ (by first | (simp; done) | (simp; omega))).trans (by simp [go_sem]); have HOO : Aside0 (Out wd (w.heap.size + 1 + 1) ∧ Out wd (w.heap.size + 1 + 1 + 1)) := ⟨⟨(f0 _ _ (by first | (simp; done) | (simp; omega))).trans (by simp [go_sem]), (f0 _ _ (by first | (simp; done) | (simp; omega))).trans (by simp [go_sem]), (f1 _ _ (by first | (simp; done) | (simp; omega))).trans (by simp [go_sem]), (f1 _ _ (by first | (simp; done) | (simp; omega))).trans (by simp [go_sem])⟩, ⟨(f0 _ _ (by first | (simp; done) | (simp; omega))).trans (by simp [go_sem]), (f0 _ _ (by first | (simp; done) | (simp; omega))).trans (by simp [go_sem]), (f1 _ _ (by first | (simp; done) | (simp; omega))).trans (by simp [go_sem]), (f1 _ _ (by first | (simp; done) | (simp; omega))).trans (by simp [go_sem])⟩⟩; have hlt0 : w.heap.size < wd.heap.size := (by have := hbd.size; simp at this; omega); have HBD : Aside0 (Below w.heap.size w wd ∧ w.heap.size + 4 ≤ wd.heap.size) := ⟨below_step (by repeat (first | exact Below.refl _ _ | apply below_alloc)) hbd, by have := hbd.size; simp at this; omega⟩; have HM5 := Aside0.mk hm5; have HM6 := Aside0.mk hm6; clear f0 f1 hbd hm5 hm6) | (go_at_call 74; (with_reducible refine (isZero_any HM6.out (Nat.le_refl _) (by repeat (first | exact Below.refl _ _ | apply below_alloc)) HZR.out).mono ?_); rintro e wz ⟨rfl, hbz⟩; have HZ := Aside0.mk ((OV_start HBD.out.1 HBD.out.2 d0 d1 d2 (fun wx hx => (H2.out.keep hB hx).more (Nat.le_trans hB hx.size)) HOO.out.1 HOO.out.2 HM5.out HM6.out).below hbz); clear hbz))
   rename_i Q' K hK
   have hk5 : k5 ≤ 90000 := by
    have h1 := dg_lt_pow BB1 m
    rw [H1.out.1] at h1
    have h2 := dg_length BB1 L1 (m / n) (Nat.lt_of_le_of_lt (Nat.div_le_self _ _) h1)
    rw [HM5.out.1] at h2
    omega
   obtain ⟨B6, hB6⟩ : ∃ B6, wd.heap.size = B6 := ⟨_, rfl⟩
   obtain ⟨B7, hB7⟩ : ∃ B7, B6 + 1 = B7 := ⟨_, rfl⟩
   rw [hB6, hB7] at HZ
   rw [hB6, hB7]
   clear d0 d1 d2 HOO hlt0 HM5 HM6 HBD hB6 hB7
   refine wp_mid (fun T0 T V => ∃ As ks A7 k7 A8 k8, T = (((((((T0.setIfInBounds 23 (.agg #[.slice A5 k5 k5])).setIfInBounds 24 (.agg #[.slice As ks ks, .bool false])).setIfInBounds 25 (.agg #[.slice As ks ks])).setIfInBounds 26 (.agg #[.slice A7 k7 k7])).setIfInBounds 27 (.pointer (some ⟨w.heap.size + 1, 0, none⟩))).setIfInBounds 28 (.agg #[.slice A2 L2 L2])).setIfInBounds 29 (.agg #[.slice A6 k6 k6])).setIfInBounds 30 (.agg #[.slice A8 k8 k8]) ∧ OV w true g A2 L2 n B6 B7 A7 k7 (m / n + 1) A8 k8 (n - m % n) V) ?_ ?_
   ·have hfd : ∀ (A : Option Addr) (k : Nat) (w : World), (Instr.field 111 (.agg #[.slice A k k, .bool false]) 0).run Tryz.prog w = .ok (.agg #[.slice A k k]) w := fun _ _ _ => by kernel_rfl
    have HO := HZ
    have cy := HO.out.ym
    have c6 := HO.out.b6.cell
    have c7 := HO.out.b7.cell
    refine wp_region_held_drew (S := (fun V => V.cell? ⟨w.heap.size + 1, 0, none⟩ = some (.slice A2 L2 L2))) (by kernel_rfl) ?_ (fun hHeld => ?_)
    ·exact cy
    obtain ⟨Wd, hWd⟩ : ∃ Wd, wz.drew = Wd := ⟨_, rfl⟩
    rw [hWd] at hHeld ⊢
    have HO : Aside0 (OV w true g A2 L2 n B6 B7 A5 k5 (m / n) A6 k6 (m % n) Wd) := ⟨by subst hWd; exact HO.out.below (below_drew1 (Below.refl _ _))⟩
    clear hWd
    (try have c6 := HO.out.b6.cell); (try have f6 := HO.out.b6.frozen); (try have c7 := HO.out.b7.cell); (try have f7 := HO.out.b7.frozen); (try have cy := HO.out.ym)
    repeat' (first
     | (refine fun (_ : Tg 0) K hK => ?_; go_simp; refine hK.out _ _ ?_ fun hHeld => ?_; (exact HO.out.ym); clear hK K; try simp only [PU])
     | (refine fun (_ : Tg 1) K hK => ?_; go_simp; (go_at_call 166; (with_reducible refine (small_one _).mono ?_); rintro e wq ⟨As, ks, rfl, hms, hbq⟩; have hks : ks ≤ 90000 := (by have h1 := hms.1; have h2 := dg_length BB1 1 1 (by decide); omega); have hms := Aside0.mk hms; have HO := Aside0.mk (HO.out.below hbq); (try have hm8 := Aside0.mk (hm8.out.up hbq)); clear hbq; (try have c6 := HO.out.b6.cell); (try have f6 := HO.out.b6.frozen); (try have c7 := HO.out.b7.cell); (try have f7 := HO.out.b7.frozen); (try have cy := HO.out.ym)); refine hK.out _ _ ?_ fun hHeld => ?_; (exact HO.out.ym); clear hK K; try simp only [PU])
     | (refine fun (_ : Tg 3) K hK => ?_; go_simp; (go_at_call 191; (with_reducible refine (add_calls HO.out.m6 hms.out (Nat.le_refl _) hk5 hks).mono ?_); rintro e wq ⟨A7, k7, rfl, hm7, hbq⟩; have hm7 := Aside0.mk hm7; have HO := Aside0.mk (HO.out.below hbq); clear hbq; (try have c6 := HO.out.b6.cell); (try have f6 := HO.out.b6.frozen); (try have c7 := HO.out.b7.cell); (try have f7 := HO.out.b7.frozen); (try have cy := HO.out.ym)); refine hK.out _ _ ?_ fun hHeld => ?_; (exact HO.out.ym); clear hK K; try simp only [PU])
     | (refine fun (_ : Tg 6) K hK => ?_; go_simp; refine hK.out _ _ ?_ fun hHeld => ?_; (exact HO.out.ym); clear hK K; try simp only [PU])
     | (refine fun (_ : Tg 7) K hK => ?_; go_simp; (go_at_call 192; (with_reducible refine (less_calls HO.out.my HO.out.m7 (Nat.le_refl _) (Nat.le_of_lt (Nat.mod_lt _ hn0))).mono ?_); rintro e wq ⟨A8, k8, rfl, hm8, hbq⟩; have hm8 := Aside0.mk hm8; have hm7 := Aside0.mk (hm7.out.up hbq); have HO := Aside0.mk (HO.out.below hbq); clear hbq; (try have c6 := HO.out.b6.cell); (try have f6 := HO.out.b6.frozen); (try have c7 := HO.out.b7.cell); (try have f7 := HO.out.b7.frozen); (try have cy := HO.out.ym)); refine hK.out _ _ ?_ fun hHeld => ?_; (exact HO.out.ym); clear hK K; try simp only [PU])
     | (refine fun (_ : Tg 8) K hK => ?_; go_simp; (have hm8 := Aside0.mk (hm8.out.upS HO.out.b6 (fun d => by simp) 0 (.slice A7 k7 k7)); have HO := Aside0.mk (HO.out.set6 hm7.out); obtain ⟨Y, hY, HO⟩ := opaqueZ HO; rw [hY]; rw [hY] at hm8; clear hY; (try have c6 := HO.out.b6.cell); (try have f6 := HO.out.b6.frozen); (try have c7 := HO.out.b7.cell); (try have f7 := HO.out.b7.frozen); (try have cy := HO.out.ym)); refine hK.out _ _ ?_ fun hHeld => ?_; (exact HO.out.ym); clear hK K; try simp only [PU])
     | (refine fun (_ : Tg 9) K hK => ?_; go_simp; (have HO := Aside0.mk (HO.out.set7 hm8.out)); refine hK.out _ _ ?_ fun hHeld => ?_; (exact HO.out.ym); clear hK K; try simp only [PU])
     | (refine tq 4 ?_; try simp only [PU])
     | (refine tq 5 ?_; try simp only [PU])
     | (refine tq 2 ?_; try simp only [PU])
     | refine t1 6 ?_
     | refine t1 7 ?_
     | refine t1 8 ?_
     | refine t1 9 ?_
     | refine t1 3 ?_
     | refine t1 1 ?_
     | refine t1 0 ?_
     | refine t3 0 1 6 ?_ ?_ ?_
     | refine t2 1 6 ?_ ?_
     | refine t2 3 6 ?_ ?_
     | refine t2 0 6 ?_ ?_
     | refine t2 0 1 ?_ ?_
     | fail)
    all_goals
     refine wpAnyH_done (by kernel_rfl) ?_ _
     dsimp only
     exact ⟨rfl, As, ks, A7, k7, A8, k8, by simp only [List.setIfInBounds_toArray, List.set_cons_zero, List.set_cons_succ], HO.out⟩
   intro T V hM
   dsimp only at hM ⊢
   obtain ⟨As, ks, A7, k7, A8, k8, hT, hov⟩ := hM
   simp only [List.setIfInBounds_toArray, List.set_cons_zero, List.set_cons_succ] at hT
   subst hT
   have HZ := Aside0.mk hov
   clear hov
   refine hK _ _ ?_
   clear hK
   go_wp2
   rename_i K2 hK2
   have HSG : Aside0 (((!g) && decide (m / n + 1 ≠ 0)) = r) := ⟨by have h := HLL.out.1; rw [show (!(true == g)) = !g by cases g <;> rfl] at h; exact h⟩
   have c6 := HZ.out.b6.cell
   have c7 := HZ.out.b7.cell
   have cf := HZ.out.xf
   have cg := HZ.out.yg
   refine wp_region_held_drew (S := (fun V => V.cell? ⟨B6, 0, none⟩ = some (.slice A7 k7 k7) ∧ V.cell? ⟨B7, 0, none⟩ = some (.slice A8 k8 k8) ∧ V.cell? ⟨w.heap.size, 1, none⟩ = some (.bool true) ∧ V.cell? ⟨w.heap.size + 1, 1, none⟩ = some (.bool g))) (by kernel_rfl) ?_ (fun hHeld => ?_)
   ·exact ⟨c6, c7, cf, cg⟩
   obtain ⟨Wd, hWd⟩ : ∃ Wd, V.drew = Wd := ⟨_, rfl⟩
   rw [hWd] at hHeld ⊢
   have HBV : Aside0 (Below V.heap.size V Wd) := ⟨by subst hWd; exact below_drew1 (Below.refl _ _)⟩
   clear hWd
   refine tp 0 ?_
   try simp only [PU]
   refine tp 1 ?_
   try simp only [PU]
   refine tp 2 ?_
   try simp only [PU]
   refine tp 3 ?_
   try simp only [PU]
   refine tp 4 ?_
   try simp only [PU]
   refine tp 5 ?_
   try simp only [PU]
   refine tp 7 ?_
   try simp only [PU]
   refine tc 6 fun K hK => ?_
   go_simp
   (go_at_call 139; (with_reducible refine (signed_any (HZ.out.below HBV.out).m6 (Nat.le_refl _) HSG.out).mono ?_); rintro e wq ⟨rfl, hmq, hbq⟩; have hma := Aside0.mk (hmq.more hbq.size); have HBV := Aside0.mk (bJoin hbq HBV.out))
   refine hK.out _ _ ?_ fun hHeld => ?_
   ·(first | exact ⟨keepAt HBV.out c6, keepAt HBV.out c7, keepAt HBV.out cf, keepAt HBV.out cg⟩ | exact ⟨(World.cell?_setCell_other _ _ _ _ (by first | (simp; done) | (have := HZ.out.n6; simp; omega))).trans ((World.cell?_setCell_other _ _ _ _ (by first | (simp; done) | (have := HZ.out.n6; simp; omega))).trans hHeld.1), (World.cell?_setCell_other _ _ _ _ (by first | (simp; done) | (have := HZ.out.n7; simp; omega))).trans ((World.cell?_setCell_other _ _ _ _ (by first | (simp; done) | (have := HZ.out.n7; simp; omega))).trans hHeld.2.1), (World.cell?_setCell_other _ _ _ _ (by simp)).trans ((World.cell?_setCell_other _ _ _ _ (by simp)).trans hHeld.2.2.1), (World.cell?_setCell_other _ _ _ _ (by simp)).trans ((World.cell?_setCell_other _ _ _ _ (by simp)).trans hHeld.2.2.2)⟩)
   clear hK K; try simp only [PU]
   refine tc 8 fun K hK => ?_
   go_simp
   (go_at_call 139; (with_reducible refine (signed_any (r := false) (HZ.out.below HBV.out).m7 (Nat.le_refl _) rfl).mono ?_); rintro e wr ⟨rfl, hmr, hbq⟩; have hmb := Aside0.mk (hmr.more hbq.size); have hma := Aside0.mk (hma.out.up hbq); have HBV := Aside0.mk (bJoin hbq HBV.out); have HOT := Aside0.mk (And.intro (HZ.out.below HBV.out).o2 (HZ.out.below HBV.out).o3); obtain ⟨p1, p2, p3, p4⟩ := HOT.out.1; obtain ⟨q1, q2, q3, q4⟩ := HOT.out.2)
   refine hK.out _ _ ?_ fun hHeld => ?_
   ·(first | exact ⟨keepAt HBV.out c6, keepAt HBV.out c7, keepAt HBV.out cf, keepAt HBV.out cg⟩ | exact ⟨(World.cell?_setCell_other _ _ _ _ (by first | (simp; done) | (have := HZ.out.n6; simp; omega))).trans ((World.cell?_setCell_other _ _ _ _ (by first | (simp; done) | (have := HZ.out.n6; simp; omega))).trans hHeld.1), (World.cell?_setCell_other _ _ _ _ (by first | (simp; done) | (have := HZ.out.n7; simp; omega))).trans ((World.cell?_setCell_other _ _ _ _ (by first | (simp; done) | (have := HZ.out.n7; simp; omega))).trans hHeld.2.1), (World.cell?_setCell_other _ _ _ _ (by simp)).trans ((World.cell?_setCell_other _ _ _ _ (by simp)).trans hHeld.2.2.1), (World.cell?_setCell_other _ _ _ _ (by simp)).trans ((World.cell?_setCell_other _ _ _ _ (by simp)).trans hHeld.2.2.2)⟩)
   clear hK K; try simp only [PU]
   refine tc 9 fun K hK => ?_
   go_simp
   refine hK.out _ _ ?_ fun hHeld => ?_
   ·(first | exact ⟨keepAt HBV.out c6, keepAt HBV.out c7, keepAt HBV.out cf, keepAt HBV.out cg⟩ | exact ⟨(World.cell?_setCell_other _ _ _ _ (by first | (simp; done) | (have := HZ.out.n6; simp; omega))).trans ((World.cell?_setCell_other _ _ _ _ (by first | (simp; done) | (have := HZ.out.n6; simp; omega))).trans hHeld.1), (World.cell?_setCell_other _ _ _ _ (by first | (simp; done) | (have := HZ.out.n7; simp; omega))).trans ((World.cell?_setCell_other _ _ _ _ (by first | (simp; done) | (have := HZ.out.n7; simp; omega))).trans hHeld.2.1), (World.cell?_setCell_other _ _ _ _ (by simp)).trans ((World.cell?_setCell_other _ _ _ _ (by simp)).trans hHeld.2.2.1), (World.cell?_setCell_other _ _ _ _ (by simp)).trans ((World.cell?_setCell_other _ _ _ _ (by simp)).trans hHeld.2.2.2)⟩)
   clear hK K; try simp only [PU]
   refine tc 10 fun K hK => ?_
   go_simp
   refine hK.out _ _ ?_ fun hHeld => ?_
   ·(first | exact ⟨keepAt HBV.out c6, keepAt HBV.out c7, keepAt HBV.out cf, keepAt HBV.out cg⟩ | exact ⟨(World.cell?_setCell_other _ _ _ _ (by first | (simp; done) | (have := HZ.out.n6; simp; omega))).trans ((World.cell?_setCell_other _ _ _ _ (by first | (simp; done) | (have := HZ.out.n6; simp; omega))).trans hHeld.1), (World.cell?_setCell_other _ _ _ _ (by first | (simp; done) | (have := HZ.out.n7; simp; omega))).trans ((World.cell?_setCell_other _ _ _ _ (by first | (simp; done) | (have := HZ.out.n7; simp; omega))).trans hHeld.2.1), (World.cell?_setCell_other _ _ _ _ (by simp)).trans ((World.cell?_setCell_other _ _ _ _ (by simp)).trans hHeld.2.2.1), (World.cell?_setCell_other _ _ _ _ (by simp)).trans ((World.cell?_setCell_other _ _ _ _ (by simp)).trans hHeld.2.2.2)⟩)
   clear hK K; try simp only [PU]
   refine wpAnyH_done (by kernel_rfl) ?_ _
   refine hK2 _ _ ?_
   go_wp2
   have ho3 : Out ((wr.setCell ⟨w.heap.size + 1 + 1, 0, none⟩ (.slice A7 k7 k7)).setCell ⟨w.heap.size + 1 + 1, 1, none⟩ (.bool r)) (w.heap.size + 1 + 1 + 1) := ⟨(World.cell?_setCell_other _ _ _ _ (by simp)).trans ((World.cell?_setCell_other _ _ _ _ (by simp)).trans q1), (World.cell?_setCell_other _ _ _ _ (by simp)).trans ((World.cell?_setCell_other _ _ _ _ (by simp)).trans q2), by rw [World.frozen?_setCell, World.frozen?_setCell]; exact q3, by rw [World.frozen?_setCell, World.frozen?_setCell]; exact q4⟩
   refine bodyPost_ret (v := .tuple #[.agg #[.slice A7 k7 k7, .bool r], .agg #[.slice A8 k8 k8, .bool false]]) (by simp [results, Tryz.results189, go_sem, p1, p2, q1, q2]) rfl ⟨A7, k7, A8, k8, rfl, ?_, ?_, ?_⟩
   ·rw [HLL.out.2.1]; exact ho3.mag2 (HOT.out.1.mag2 hma.out _ _) _ _
   ·rw [HLL.out.2.2]; exact ho3.mag2 (HOT.out.1.mag2 hmb.out _ _) _ _
   ·exact (((((HZ.out.bl.trans (HBV.out.mono HZ.out.bl.size)).setCell (by simp; omega) _).setCell (by simp; omega) _).setCell (by simp; omega) _).setCell (by simp; omega) _)
end
section
open Go.Proofs.YtnjbinpbkjdjpaaGreatDoorW.PrintLast Go.Proofs.YtnjbinpbkjdjpaaGreatDoorW.PrintMore Go.Proofs.YtnjbinpbkjdjpaaGreatDoorW.PrintWords Go.RowKit
theorem iorder_calls {w : World} {B : Nat} {A1 A2 : Option Addr} {L1 L2 : Nat} {x y : Int} (h1 : Mag w B A1 L1 x.natAbs) (h2 : Mag w B A2 L2 y.natAbs) (hB : B ≤ w.heap.size) :
 Calls Tryz.prog 128 #[iV A1 L1 x, iV A2 L2 y] w fun e w' => e = .returned (.int .i64 (cmpI x y)) ∧ Below w.heap.size w w' := by
 unfold iV
 have H1 : Aside0 (Mag w B A1 L1 x.natAbs) := ⟨h1⟩
 have H2 : Aside0 (Mag w B A2 L2 y.natAbs) := ⟨h2⟩
 clear h1 h2
 by_cases hx : x < 0 <;> by_cases hy : y < 0
 ·have HV : Aside0 (cmpI (y.natAbs : Int) x.natAbs = cmpI x y) := ⟨by unfold cmpI; split <;> split <;> first | rfl | omega | (split <;> first | rfl | omega) | (split <;> split <;> first | rfl | omega)⟩
  rw [decide_eq_true hx, decide_eq_true hy]
  clear hx hy
  go_enter Tryz.func128, Tryz.ntmps128
  go_wp2_with (go_at_call 182; (with_reducible refine (order_any H2.out H1.out hB (by repeat (first | exact Below.refl _ _ | apply below_alloc)) HV.out).mono ?_); rintro e wr ⟨rfl, hbr⟩)
  go_ret
  exact ⟨rfl, below_step (by repeat (first | exact Below.refl _ _ | apply below_alloc)) hbr⟩
 ·have HV : Aside0 (cmpI x y = -1) := ⟨by unfold cmpI; rw [if_pos (by omega)]⟩
  rw [decide_eq_true hx, decide_eq_false hy, HV.out]
  clear hx hy
  go_enter Tryz.func128, Tryz.ntmps128
  go_wp2
  go_ret
  exact ⟨rfl, by repeat (first | exact Below.refl _ _ | apply below_alloc)⟩
 ·have HV : Aside0 (cmpI x y = 1) := ⟨by unfold cmpI; rw [if_neg (by omega), if_pos (by omega)]⟩
  rw [decide_eq_false hx, decide_eq_true hy, HV.out]
  clear hx hy
  go_enter Tryz.func128, Tryz.ntmps128
  go_wp2
  go_ret
  exact ⟨rfl, by repeat (first | exact Below.refl _ _ | apply below_alloc)⟩
 ·have HV : Aside0 (cmpI (x.natAbs : Int) y.natAbs = cmpI x y) := ⟨by unfold cmpI; split <;> split <;> first | rfl | omega | (split <;> first | rfl | omega) | (split <;> split <;> first | rfl | omega)⟩
  rw [decide_eq_false hx, decide_eq_false hy]
  clear hx hy
  go_enter Tryz.func128, Tryz.ntmps128
  go_wp2_with (go_at_call 182; (with_reducible refine (order_any H1.out H2.out hB (by repeat (first | exact Below.refl _ _ | apply below_alloc)) HV.out).mono ?_); rintro e wr ⟨rfl, hbr⟩)
  go_ret
  exact ⟨rfl, below_step (by repeat (first | exact Below.refl _ _ | apply below_alloc)) hbr⟩
end
section
open Go.Lib Go.Proofs.YtnjbinpbkjdjpaaGreatDoorW.PrintLast Go.Proofs.YtnjbinpbkjdjpaaGreatDoorW.PrintMore Go.Proofs.YtnjbinpbkjdjpaaGreatDoorW.PrintWords Go.RowKit Go.Shelf
theorem wr_dig {x : Int} (h : Dig 120 x) : wrE x = 0 ∧ wrS x = strI x := by
 have h1 : lenI x ≤ 120 := dec_len 120 _ (by omega) h
 unfold wrE wrS
 rw [if_neg (by omega), if_neg (by omega)]
 exact ⟨rfl, rfl⟩
theorem first2_ret (x y z : Int) (hz : firstI [x, y] = z) (w : World) (b : Nat) (hb : b = w.heap.size) (t : TypeId) : Calls Tryz.prog 72 #[.slice (some ⟨b, 0, none⟩) 2 2] (w.alloc (.cells #[.int .i64 x, .int .i64 y] t)) fun e w' => e = .returned (.int .i64 z) ∧ w' = w.alloc (.cells #[.int .i64 x, .int .i64 y] t) := by
 subst hz; exact first2_calls x y w b hb t
theorem F00 : Aside0 (firstI [0, 0] = 0) := ⟨rfl⟩
/-- An integer's variable. -/
def IB (W : World) (b : Nat) (A : Option Addr) (L : Nat) (f : Bool) : Prop := W.heap[b]? = some (.cells #[.slice A L L, .bool f] 111 (0, 0))
theorem IB.cell0 {W : World} {b : Nat} {A : Option Addr} {L : Nat} {f : Bool} (h : IB W b A L f) : W.cell? ⟨b, 0, none⟩ = some (.slice A L L) := by rw [Lib.cell_of_heap h]; rfl
theorem IB.cell1 {W : World} {b : Nat} {A : Option Addr} {L : Nat} {f : Bool} (h : IB W b A L f) : W.cell? ⟨b, 1, none⟩ = some (.bool f) := by rw [Lib.cell_of_heap h]; rfl
theorem IB.fr {W : World} {b : Nat} {A : Option Addr} {L : Nat} {f : Bool} (h : IB W b A L f) (o : Nat) : W.frozen? ⟨b, o, none⟩ = false := Lib.frozen_of_heap h o
theorem IB.lt {W : World} {b : Nat} {A : Option Addr} {L : Nat} {f : Bool} (h : IB W b A L f) : b < W.heap.size := (Array.getElem?_eq_some_iff.1 h).1
theorem IB.below {W X : World} {b : Nat} {A : Option Addr} {L : Nat} {f : Bool} (h : IB W b A L f) (hb : Below W.heap.size W X) : IB X b A L f := (hb.block b h.lt).trans h
theorem IB.put {W : World} {b : Nat} {A : Option Addr} {L : Nat} {f : Bool} (h : IB W b A L f) (A' : Option Addr) (L' : Nat) (f' : Bool) : IB ((W.setCell ⟨b, 0, none⟩ (.slice A' L' L')).setCell ⟨b, 1, none⟩ (.bool f')) b A' L' f' := by
 unfold IB at *
 simp [World.setCell, Array.getElem?_modify, h]
theorem IB.other {W : World} {b c : Nat} {A : Option Addr} {L : Nat} {f : Bool} (h : IB W b A L f) (hne : c ≠ b) (u u' : Value) : IB ((W.setCell ⟨c, 0, none⟩ u).setCell ⟨c, 1, none⟩ u') b A L f := by
 unfold IB at *
 rw [Below.heap_setCell _ _ _ _ (fun e => hne (by first | exact e | exact e.symm)), Below.heap_setCell _ _ _ _ (fun e => hne (by first | exact e | exact e.symm))]
 exact h
theorem IB.mag {W : World} {b : Nat} {A : Option Addr} {L : Nat} {f : Bool} (h : IB W b A L f) {B L' n : Nat} {A' : Option Addr} (hm : Mag W B A' L' n) (u u' : Value) : Mag ((W.setCell ⟨b, 0, none⟩ u).setCell ⟨b, 1, none⟩ u') B A' L' n :=
 have hp := hm.apart h.cell0 (fun d => by simp)
 (hm.setA hp 0 u).setA hp 1 u'
theorem IB.new (W : World) (A : Option Addr) (L : Nat) (f : Bool) : IB (W.alloc (.cells #[.slice A L L, .bool f] 111)) W.heap.size A L f := heap_alloc_new W _
theorem IB.alloc {W : World} {b : Nat} {A : Option Addr} {L : Nat} {f : Bool} (h : IB W b A L f) (o : Obj) : IB (W.alloc o) b A L f := h.below (below_alloc (Below.refl _ _) _)
/-- What lies in memory between two rounds of Pow. -/
structure PW (w : World) (b : Nat) (Ax : Option Addr) (kx : Nat) (fx : Bool) (mx : Nat) (A : Option Addr) (L : Nat) (f : Bool) (m : Nat) (W : World) : Prop where
 x : IB W b Ax kx fx
 o : IB W (b + 1) A L f
 mx : Mag W W.heap.size Ax kx mx
 mo : Mag W W.heap.size A L m
 bl : Below w.heap.size w W
 lt : w.heap.size ≤ b
theorem PW.below {w : World} {b : Nat} {Ax : Option Addr} {kx : Nat} {fx : Bool} {mx : Nat} {A : Option Addr} {L : Nat} {f : Bool} {m : Nat} {W X : World} (h : PW w b Ax kx fx mx A L f m W) (hb : Below W.heap.size W X) : PW w b Ax kx fx mx A L f m X :=
 ⟨h.x.below hb, h.o.below hb, h.mx.up hb, h.mo.up hb, h.bl.trans (hb.mono h.bl.size), h.lt⟩
theorem PW.put {w : World} {b : Nat} {Ax : Option Addr} {kx : Nat} {fx : Bool} {mx : Nat} {A : Option Addr} {L : Nat} {f : Bool} {m : Nat} {W : World} (h : PW w b Ax kx fx mx A L f m W) {A' : Option Addr} {L' m' : Nat} (hm : Mag W W.heap.size A' L' m') (f' : Bool) :
 PW w b Ax kx fx mx A' L' f' m' ((W.setCell ⟨b + 1, 0, none⟩ (.slice A' L' L')).setCell ⟨b + 1, 1, none⟩ (.bool f')) := by
 have hl := h.lt
 refine ⟨h.x.other (by omega) _ _, h.o.put _ _ _, ?_, ?_, (h.bl.setCell (p := ⟨b + 1, 0, none⟩) (by show w.heap.size ≤ b + 1; omega) _).setCell (p := ⟨b + 1, 1, none⟩) (by show w.heap.size ≤ b + 1; omega) _, hl⟩
 ·exact (h.o.mag h.mx _ _).more (by simp)
 ·exact (h.o.mag hm _ _).more (by simp)
/-- The variables that the calls read. -/
structure EN (w : World) : Prop where
 tens : Tens w
 mln : ∃ m, w.cell? ⟨1, 0, none⟩ = some (.int .i64 m)
theorem EN.below {w w' : World} (h : EN w) (hb : Below w.heap.size w w') : EN w' := by
 obtain ⟨m, hm⟩ := h.mln
 exact ⟨h.tens.below hb, ⟨m, pw_cell_below hb hm⟩⟩
theorem list_of {s : ByteArray} (h : checkI s = 0) : DG (bodyB s).data.toList ∧ (bodyB s).data.toList ≠ [] ∧ s.data.toList = (if minusB s = true then [45] else []) ++ (bodyB s).data.toList := by
 obtain ⟨h1, h2⟩ := check_ok h
 refine ⟨isDig_of (by unfold digitsB at h1; simp only [Bool.and_eq_true] at h1; exact h1.1), fun e => ?_, ?_⟩
 ·have := digits_pos h1
  have h3 : (bodyB s).data.toList.length = (bodyB s).size := by simp
  rw [e] at h3
  simp at h3
  omega
 ·unfold minusB bodyB Lib.trimPrefix
  by_cases hp : Lib.hasPrefix s.data.toList [45] = true
  ·rw [if_pos hp, if_pos hp]
   unfold Lib.hasPrefix at hp
   cases hl : s.data.toList with
   | nil => rw [hl] at hp; simp at hp
   | cons c r =>
     rw [hl] at hp
     simp at hp
     subst hp
     simp
  ·rw [if_neg hp, if_neg hp]; simp
/-- The parts of a string about a byte. -/
def cutA (c : UInt8) (s : ByteArray) : ByteArray := ⟨(Lib.cut s.data.toList [c]).1.toArray⟩
def cutB (c : UInt8) (s : ByteArray) : ByteArray := ⟨(Lib.cut s.data.toList [c]).2.1.toArray⟩
def cutF (c : UInt8) (s : ByteArray) : Bool := (Lib.cut s.data.toList [c]).2.2
theorem cut_size (c : UInt8) (s : ByteArray) : (cutA c s).size ≤ s.size ∧ (cutB c s).size ≤ s.size := by
 have e : s.data.toList.length = s.size := by simp
 constructor
 ·show (Lib.cut s.data.toList [c]).1.toArray.size ≤ _
  unfold Lib.cut
  split <;> simp <;> omega
 ·show (Lib.cut s.data.toList [c]).2.1.toArray.size ≤ _
  unfold Lib.cut
  split <;> simp
theorem cut1_calls (c : UInt8) (s : ByteArray) (hs : s.size ≤ 90000) (w : World) (hE : EN w) :
 Calls Tryz.prog 121 #[.string s, .string ⟨#[c]⟩] w fun e w' => e = .returned (.tuple #[.string (cutA c s), .string (cutB c s), .bool (cutF c s)]) ∧ Below w.heap.size w w' := by
 obtain ⟨m, hm⟩ := hE.mln
 refine (Tryz.strings_Cut s ⟨#[c]⟩ m w (by omega) hm).mono ?_
 rintro e w' ⟨rfl, n, rfl⟩
 exact ⟨rfl, pw_below_drewN (Below.refl _ _) _⟩
/-- Does a string hold a byte. -/
def hasB (c : UInt8) (s : ByteArray) : Bool := decide (0 ≤ Lib.indexByte s.data.toList c)
theorem contains_calls (c : UInt8) (s : ByteArray) (w : World) : Calls Tryz.prog 122 #[.string s, .string ⟨#[c]⟩] w fun e w' => e = .returned (.bool (hasB c s)) ∧ w' = w :=
 Tryz.strings_Contains_one s c w
/-- A fraction's variable. -/
def FB (W : World) (b : Nat) (A1 : Option Addr) (L1 : Nat) (f1 : Bool) (A2 : Option Addr) (L2 : Nat) (f2 : Bool) : Prop := W.heap[b]? = some (.cells #[.slice A1 L1 L1, .bool f1, .slice A2 L2 L2, .bool f2] 113 (0, 0))
section
variable {W X : World} {b : Nat} {A1 : Option Addr} {L1 : Nat} {f1 : Bool} {A2 : Option Addr} {L2 : Nat} {f2 : Bool}
theorem FB.cell0 (h : FB W b A1 L1 f1 A2 L2 f2) : W.cell? ⟨b, 0, none⟩ = some (.slice A1 L1 L1) := by rw [Lib.cell_of_heap h]; rfl
theorem FB.cell1 (h : FB W b A1 L1 f1 A2 L2 f2) : W.cell? ⟨b, 1, none⟩ = some (.bool f1) := by rw [Lib.cell_of_heap h]; rfl
theorem FB.cell2 (h : FB W b A1 L1 f1 A2 L2 f2) : W.cell? ⟨b, 2, none⟩ = some (.slice A2 L2 L2) := by rw [Lib.cell_of_heap h]; rfl
theorem FB.cell3 (h : FB W b A1 L1 f1 A2 L2 f2) : W.cell? ⟨b, 3, none⟩ = some (.bool f2) := by rw [Lib.cell_of_heap h]; rfl
theorem FB.fr (h : FB W b A1 L1 f1 A2 L2 f2) (o : Nat) : W.frozen? ⟨b, o, none⟩ = false := Lib.frozen_of_heap h o
theorem FB.lt (h : FB W b A1 L1 f1 A2 L2 f2) : b < W.heap.size := (Array.getElem?_eq_some_iff.1 h).1
theorem FB.below (h : FB W b A1 L1 f1 A2 L2 f2) (hb : Below W.heap.size W X) : FB X b A1 L1 f1 A2 L2 f2 := (hb.block b h.lt).trans h
theorem FB.put (h : FB W b A1 L1 f1 A2 L2 f2) (B1 : Option Addr) (K1 : Nat) (g1 : Bool) (B2 : Option Addr) (K2 : Nat) (g2 : Bool) :
 FB ((((W.setCell ⟨b, 0, none⟩ (.slice B1 K1 K1)).setCell ⟨b, 1, none⟩ (.bool g1)).setCell ⟨b, 2, none⟩ (.slice B2 K2 K2)).setCell ⟨b, 3, none⟩ (.bool g2)) b B1 K1 g1 B2 K2 g2 := by
 unfold FB at *
 simp [World.setCell, Array.getElem?_modify, h]
theorem FB.other (h : FB W b A1 L1 f1 A2 L2 f2) {c : Nat} (hne : c ≠ b) (o : Nat) (u : Value) : FB (W.setCell ⟨c, o, none⟩ u) b A1 L1 f1 A2 L2 f2 := by
 unfold FB at *
 rw [Below.heap_setCell _ _ _ _ (fun e => hne (by first | exact e | exact e.symm))]
 exact h
theorem FB.mag (h : FB W b A1 L1 f1 A2 L2 f2) {B L n : Nat} {A : Option Addr} (hm : Mag W B A L n) (u u' v v' : Value) : Mag ((((W.setCell ⟨b, 0, none⟩ u).setCell ⟨b, 1, none⟩ u').setCell ⟨b, 2, none⟩ v).setCell ⟨b, 3, none⟩ v') B A L n :=
 have hp := hm.apart h.cell0 (fun d => by simp)
 (((hm.setA hp 0 u).setA hp 1 u').setA hp 2 v).setA hp 3 v'
theorem FB.new (W : World) (A1 : Option Addr) (L1 : Nat) (f1 : Bool) (A2 : Option Addr) (L2 : Nat) (f2 : Bool) : FB (W.alloc (.cells #[.slice A1 L1 L1, .bool f1, .slice A2 L2 L2, .bool f2] 113)) W.heap.size A1 L1 f1 A2 L2 f2 := heap_alloc_new W _
theorem FB.alloc (h : FB W b A1 L1 f1 A2 L2 f2) (o : Obj) : FB (W.alloc o) b A1 L1 f1 A2 L2 f2 := h.below (below_alloc (Below.refl _ _) _)
end
theorem below_put4 {B : Nat} {w W : World} (h : Below B w W) {b : Nat} (hb : B ≤ b) (u u' v v' : Value) : Below B w ((((W.setCell ⟨b, 0, none⟩ u).setCell ⟨b, 1, none⟩ u').setCell ⟨b, 2, none⟩ v).setCell ⟨b, 3, none⟩ v') :=
 (((h.setCell (p := ⟨b, 0, none⟩) hb _).setCell (p := ⟨b, 1, none⟩) hb _).setCell (p := ⟨b, 2, none⟩) hb _).setCell (p := ⟨b, 3, none⟩) hb _
/-- The value of a fraction. -/
def fV (A1 : Option Addr) (L1 : Nat) (p : Int) (A2 : Option Addr) (L2 : Nat) (q : Int) : Value := .agg #[.slice A1 L1 L1, .bool (decide (p < 0)), .slice A2 L2 L2, .bool (decide (q < 0))]
theorem real_calls (s : ByteArray) (hs : s.size ≤ 90000) (h1 : checkI (cutA 47 s) = 0) (h2 : checkI (cutB 47 s) = 0) (w : World) (hE : EN w) :
 Calls Tryz.prog 73 #[.string s] w fun e w' => ∃ A1 k1 A2 k2, e = .returned (fV A1 k1 (intI (cutA 47 s)) A2 k2 (intI (cutB 47 s))) ∧ Mag w' w'.heap.size A1 k1 (intI (cutA 47 s)).natAbs ∧ Mag w' w'.heap.size A2 k2 (intI (cutB 47 s)).natAbs ∧ Below w.heap.size w w' := by
 obtain ⟨hz1, hz2⟩ := cut_size 47 s
 have hC := cut1_calls 47 s hs
 have hP1 := parseI_calls (cutA 47 s) (by omega) h1
 have hP2 := parseI_calls (cutB 47 s) (by omega) h2
 have hC : ∀ W, Below w.heap.size w W → Calls Tryz.prog 121 #[.string s, .string ⟨#[47]⟩] W fun e w' => e = .returned (.tuple #[.string (cutA 47 s), .string (cutB 47 s), .bool (cutF 47 s)]) ∧ Below W.heap.size W w' := fun W hb => hC W (hE.below hb)
 unfold fV
 generalize cutF 47 s = F at *
 generalize cutA 47 s = a at *
 generalize cutB 47 s = b at *
 generalize decide (intI a < 0) = fa at *
 generalize (intI a).natAbs = ma at *
 generalize decide (intI b < 0) = fb at *
 generalize (intI b).natAbs = mb at *
 have HC := Aside0.mk hC
 have HP1 := Aside0.mk hP1
 have HP2 := Aside0.mk hP2
 have HB := Aside0.mk (Below.refl w.heap.size w)
 clear hC hP1 hP2 h1 h2 hE
 go_enter Tryz.func73, Tryz.ntmps73
 go_wp2_with (first
  | (go_at_call 121; ((with_reducible refine (HC.out _ bl).mono ?_); rintro e w1 ⟨rfl, hb1⟩; obtain ⟨hc1, hf1⟩ := bcell hb1; have z1_0 : (w.heap.size) < w1.heap.size := zb hb1; have nB1 : Aside0 (Below w.heap.size w w1) := sb hb1; clear HB; have HB := nB1; clear nB1))
  | (go_at_call 124; ((with_reducible refine (HP1.out _).mono ?_); rintro e w2 ⟨A1, k1, rfl, hm1, hb2⟩; obtain ⟨hc2, hf2⟩ := bcell hb2; have z2_0 : (w.heap.size) < w2.heap.size := zb hb2; have nB2 : Aside0 (Below w.heap.size w w2) := sb hb2; clear HB; have HB := nB2; clear nB2; have HM1 := Aside0.mk hm1; clear hm1 HP1))
  | (go_at_call 124; ((with_reducible refine (HP2.out _).mono ?_); rintro e w3 ⟨A2, k2, rfl, hm2, hb3⟩; obtain ⟨hc3, hf3⟩ := bcell hb3; have z3_0 : (w.heap.size) < w3.heap.size := zb hb3; have nB3 : Aside0 (Below w.heap.size w w3) := sb hb3; clear HB; have HB := nB3; clear nB3; have HM2 := Aside0.mk hm2; clear hm2)))
 have q : FB w3 w.heap.size none 0 false none 0 false := (((FB.new w none 0 false none 0 false).below hb1).below hb2).below hb3
 have q0 := q.cell0
 have q1 := q.cell1
 have q2 := q.cell2
 have q3 := q.cell3
 refine bodyPost_ret (v := .agg #[.slice A1 k1 k1, .bool fa, .slice A2 k2 k2, .bool fb]) (by simp [results, Tryz.results73, go_sem, q0, q1, q2, q3]) rfl ⟨A1, k1, A2, k2, rfl, ?_, ?_, ?_⟩
 ·exact (q.mag (HM1.out.up hb3) _ _ _ _).more (by simp)
 ·exact (q.mag HM2.out _ _ _ _).more (by simp)
 ·exact below_put4 HB.out (Nat.le_refl _) _ _ _ _
/-- What text of a fraction answers. -/
def ftE (p q : Int) : Int := firstI [wrE p, wrE q]
def ftS (p q : Int) : ByteArray := if ftE p q = 0 then wrS p ++ ⟨#[47]⟩ ++ wrS q else ⟨#[]⟩
theorem wrS_size (x : Int) : (wrS x).size ≤ 130 := by
 unfold wrS lenI
 split
 ·show (#[] : Array UInt8).size ≤ _; simp
 ·rename_i h
  show (Lib.itoa x).toArray.size ≤ _
  rw [itoa_abs]
  simp
  split <;> simp <;> omega
theorem ftext_calls {w : World} {B : Nat} {A1 A2 : Option Addr} {L1 L2 : Nat} {p q : Int} (h1 : Mag w B A1 L1 p.natAbs) (h2 : Mag w B A2 L2 q.natAbs) (hB : B ≤ w.heap.size) (htab : Tens w) :
 Calls Tryz.prog 137 #[fV A1 L1 p A2 L2 q] w fun e w' => e = .returned (.tuple #[.string (ftS p q), .int .i64 (ftE p q)]) ∧ Below w.heap.size w w' := by
 have HW1 : ∀ W, Below w.heap.size w W → Calls Tryz.prog 190 #[iV A1 L1 p] W fun e w' => e = .returned (.tuple #[.string (wrS p), .int .i64 (wrE p)]) ∧ Below W.heap.size W w' := fun W hb => written_calls (h1.keep hB hb) (Nat.le_trans hB hb.size) (htab.below hb)
 have HW2 : ∀ W, Below w.heap.size w W → Calls Tryz.prog 190 #[iV A2 L2 q] W fun e w' => e = .returned (.tuple #[.string (wrS q), .int .i64 (wrE q)]) ∧ Below W.heap.size W w' := fun W hb => written_calls (h2.keep hB hb) (Nat.le_trans hB hb.size) (htab.below hb)
 have hs1 := wrS_size p
 have hs2 := wrS_size q
 unfold ftS
 obtain ⟨E, hE⟩ : ∃ E, ftE p q = E := ⟨_, rfl⟩
 rw [hE]
 unfold ftE at hE
 unfold fV
 unfold iV at *
 generalize wrS p = P at *
 generalize wrE p = E1 at *
 generalize wrS q = Q at *
 generalize wrE q = E2 at *
 generalize decide (p < 0) = f at *
 generalize decide (q < 0) = g at *
 have HF := Aside0.mk hE
 have HW1 := Aside0.mk HW1
 have HW2 := Aside0.mk HW2
 have HB := Aside0.mk (Below.refl w.heap.size w)
 clear h1 h2 htab hE
 by_cases h : E = 0
 ·subst h
  rw [if_pos rfl]
  go_enter Tryz.func137, Tryz.ntmps137
  go_wp2_with (first
   | (go_at_call 190; ((with_reducible refine (HW1.out _ bl).mono ?_); rintro e w1 ⟨rfl, hb1⟩; obtain ⟨hc1, hf1⟩ := bcell hb1; have z1_0 : (w.heap.size) < w1.heap.size := zb hb1; have nB1 : Aside0 (Below w.heap.size w w1) := sb hb1; clear HB; have HB := nB1; clear nB1; clear HW1))
   | (go_at_call 190; ((with_reducible refine (HW2.out _ bl).mono ?_); rintro e w2 ⟨rfl, hb2⟩; obtain ⟨hc2, hf2⟩ := bcell hb2; have z2_0 : (w.heap.size) < w2.heap.size := zb hb2; have nB2 : Aside0 (Below w.heap.size w w2) := sb hb2; clear HB; have HB := nB2; clear nB2))
   | (go_at_call 72; (with_reducible refine (first2_ret _ _ 0 HF.out _ _ (by simp) _).mono ?_); rintro e w' ⟨rfl, rfl⟩))
  go_ret2
  exact ⟨rfl, bl⟩
 ·rw [if_neg h]
  have hbe : (E != 0) = true := by simp [h]
  go_enter Tryz.func137, Tryz.ntmps137
  go_wp2_with (first
   | (go_at_call 190; ((with_reducible refine (HW1.out _ bl).mono ?_); rintro e w1 ⟨rfl, hb1⟩; obtain ⟨hc1, hf1⟩ := bcell hb1; have z1_0 : (w.heap.size) < w1.heap.size := zb hb1; have nB1 : Aside0 (Below w.heap.size w w1) := sb hb1; clear HB; have HB := nB1; clear nB1; clear HW1))
   | (go_at_call 190; ((with_reducible refine (HW2.out _ bl).mono ?_); rintro e w2 ⟨rfl, hb2⟩; obtain ⟨hc2, hf2⟩ := bcell hb2; have z2_0 : (w.heap.size) < w2.heap.size := zb hb2; have nB2 : Aside0 (Below w.heap.size w w2) := sb hb2; clear HB; have HB := nB2; clear nB2))
   | (go_at_call 72; (with_reducible refine (first2_ret _ _ E HF.out _ _ (by simp) _).mono ?_); rintro e w' ⟨rfl, rfl⟩))
  go_ret2
  exact ⟨rfl, bl⟩
/-- What a function of two fractions does. -/
def OpF (F : FuncId) (p q r s y z : Int) : Prop :=
 ∀ (W : World) (A1 A2 A3 A4 : Option Addr) (L1 L2 L3 L4 : Nat), Mag W W.heap.size A1 L1 p.natAbs → Mag W W.heap.size A2 L2 q.natAbs → Mag W W.heap.size A3 L3 r.natAbs → Mag W W.heap.size A4 L4 s.natAbs →
  Calls Tryz.prog F #[fV A1 L1 p A2 L2 q, fV A3 L3 r A4 L4 s] W fun e w' => ∃ A k A' k', e = .returned (fV A k y A' k' z) ∧ Mag w' w'.heap.size A k y.natAbs ∧ Mag w' w'.heap.size A' k' z.natAbs ∧ Below W.heap.size W w'
theorem times_at {w : World} {A1 A2 : Option Addr} {L1 L2 : Nat} {x y : Int} (h1 : Mag w w.heap.size A1 L1 x.natAbs) (h2 : Mag w w.heap.size A2 L2 y.natAbs) (hx : Dig 1000 x) (hy : Dig 1000 y) : ∀ W, Below w.heap.size w W →
 Calls Tryz.prog 71 #[iV A1 L1 x, iV A2 L2 y] W fun e w' => ∃ A k, e = .returned (iV A k (x * y)) ∧ Mag w' w'.heap.size A k (x * y).natAbs ∧ Below W.heap.size W w' :=
 fun W hb => op2_times hx hy W A1 A2 L1 L2 (h1.up hb) (h2.up hb)
theorem opF_mul {p q r s : Int} (hp : Dig 1000 p) (hq : Dig 1000 q) (hr : Dig 1000 r) (hs : Dig 1000 s) : OpF 70 p q r s (p * r) (q * s) := by
 intro w A1 A2 A3 A4 L1 L2 L3 L4 h1 h2 h3 h4
 have T1 := times_at h1 h3 hp hr
 have T2 := times_at h2 h4 hq hs
 unfold fV
 unfold fV iV at *
 generalize decide (p * r < 0) = g1 at *
 generalize (p * r).natAbs = n1 at *
 generalize decide (q * s < 0) = g2 at *
 generalize (q * s).natAbs = n2 at *
 generalize decide (p < 0) = f1 at *
 generalize decide (q < 0) = f2 at *
 generalize decide (r < 0) = f3 at *
 generalize decide (s < 0) = f4 at *
 have T1 := Aside0.mk T1
 have T2 := Aside0.mk T2
 clear h1 h2 h3 h4 hp hq hr hs
 go_enter Tryz.func70, Tryz.ntmps70
 go_wp2_with fail
 obtain ⟨wr, hwr⟩ : ∃ wr, (((w.alloc (.cells #[.slice A1 L1 L1, .bool f1, .slice A2 L2 L2, .bool f2] 113)).alloc (.cells #[.slice A3 L3 L3, .bool f3, .slice A4 L4 L4, .bool f4] 113)).alloc (.cells #[.slice none 0 0, .bool false, .slice none 0 0, .bool false] 113)) = wr := ⟨_, rfl⟩
 have HF : FB wr w.heap.size A1 L1 f1 A2 L2 f2 ∧ FB wr (w.heap.size + 1) A3 L3 f3 A4 L4 f4 ∧ FB wr (w.heap.size + 1 + 1) none 0 false none 0 false := by
  subst hwr
  refine ⟨((FB.new w _ _ _ _ _ _).alloc _).alloc _, FB.alloc ?_ _, ?_⟩
  ·have h := FB.new (w.alloc (.cells #[.slice A1 L1 L1, .bool f1, .slice A2 L2 L2, .bool f2] 113)) A3 L3 f3 A4 L4 f4
   simpa using h
  ·have h := FB.new ((w.alloc (.cells #[.slice A1 L1 L1, .bool f1, .slice A2 L2 L2, .bool f2] 113)).alloc (.cells #[.slice A3 L3 L3, .bool f3, .slice A4 L4 L4, .bool f4] 113)) none 0 false none 0 false
   simpa using h
 have HX : Aside0 (wr.cell? ⟨w.heap.size, 0, none⟩ = some (.slice A1 L1 L1) ∧ wr.cell? ⟨w.heap.size, 1, none⟩ = some (.bool f1) ∧ wr.cell? ⟨w.heap.size, 2, none⟩ = some (.slice A2 L2 L2) ∧ wr.cell? ⟨w.heap.size, 3, none⟩ = some (.bool f2) ∧ wr.cell? ⟨w.heap.size + 1, 0, none⟩ = some (.slice A3 L3 L3) ∧ wr.cell? ⟨w.heap.size + 1, 1, none⟩ = some (.bool f3) ∧ wr.cell? ⟨w.heap.size + 1, 2, none⟩ = some (.slice A4 L4 L4) ∧ wr.cell? ⟨w.heap.size + 1, 3, none⟩ = some (.bool f4)) :=
  ⟨HF.1.cell0, HF.1.cell1, HF.1.cell2, HF.1.cell3, HF.2.1.cell0, HF.2.1.cell1, HF.2.1.cell2, HF.2.1.cell3⟩
 have HO := Aside0.mk HF.2.2
 have HA : Aside0 (Below w.heap.size w wr ∧ w.heap.size + 3 ≤ wr.heap.size) := ⟨by subst hwr; repeat (first | exact Below.refl _ _ | apply below_alloc), by subst hwr; simp⟩
 rw [hwr]
 clear hwr HF
 rename_i Q' K hK
 have KP : Aside0 (∀ V, Below (w.heap.size + 2) wr V → (fun V => V.cell? ⟨w.heap.size, 0, none⟩ = some (.slice A1 L1 L1) ∧ V.cell? ⟨w.heap.size, 1, none⟩ = some (.bool f1) ∧ V.cell? ⟨w.heap.size, 2, none⟩ = some (.slice A2 L2 L2) ∧ V.cell? ⟨w.heap.size, 3, none⟩ = some (.bool f2) ∧ V.cell? ⟨w.heap.size + 1, 0, none⟩ = some (.slice A3 L3 L3) ∧ V.cell? ⟨w.heap.size + 1, 1, none⟩ = some (.bool f3) ∧ V.cell? ⟨w.heap.size + 1, 2, none⟩ = some (.slice A4 L4 L4) ∧ V.cell? ⟨w.heap.size + 1, 3, none⟩ = some (.bool f4) ∧ Below (w.heap.size + 2) wr V) V) := ⟨fun V hBB => ⟨keepB hBB (by omega) HX.out.1, keepB hBB (by omega) HX.out.2.1, keepB hBB (by omega) HX.out.2.2.1, keepB hBB (by omega) HX.out.2.2.2.1, keepB hBB (by omega) HX.out.2.2.2.2.1, keepB hBB (by omega) HX.out.2.2.2.2.2.1, keepB hBB (by omega) HX.out.2.2.2.2.2.2.1, keepB hBB (by omega) HX.out.2.2.2.2.2.2.2, hBB⟩⟩
 refine wq KP fun hHeld => ?_
 refine tp 0 ?_
 try simp only [PU]
 refine tp 1 ?_
 try simp only [PU]
 refine tp 2 ?_
 try simp only [PU]
 refine tp 3 ?_
 try simp only [PU]
 refine tp 5 ?_
 try simp only [PU]
 refine tp 6 ?_
 try simp only [PU]
 refine tp 7 ?_
 try simp only [PU]
 refine tp 8 ?_
 try simp only [PU]
 refine tc 4 fun K hK => ?_
 go_simp
 (go_at_call 71; (with_reducible refine (T1.out _ (HA.out.1.trans (hHeld.2.2.2.2.2.2.2.2.mono (by omega)))).mono ?_); rintro e wm ⟨A5, k5, rfl, hm5, hbq⟩; have HO := Aside0.mk ((HO.out.below (below_drew1 (Below.refl _ _))).below hbq); have hm5 := Aside0.mk hm5)
 refine hK.out _ _ ?_ fun hHeld => ?_
 ·(first | exact KP.out _ (bKeep hbq hHeld.2.2.2.2.2.2.2.2 (by have := HA.out.2; omega)) | (refine KP.out _ ?_; repeat (first | exact hHeld.2.2.2.2.2.2.2.2 | refine Below.setCell ?_ (by first | (simp; done) | (simp; omega)) _)))
 clear hK K; try simp only [PU]
 refine tc 9 fun K hK => ?_
 go_simp
 (go_at_call 71; (with_reducible refine (T2.out _ (HA.out.1.trans (hHeld.2.2.2.2.2.2.2.2.mono (by omega)))).mono ?_); rintro e wm ⟨A6, k6, rfl, hm6, hbq⟩; have HO := Aside0.mk (HO.out.below hbq); have hm6 := Aside0.mk hm6; have hm5 := Aside0.mk (hm5.out.up hbq); have q0 := HO.out.cell0; have q1 := HO.out.cell1; have q2 := HO.out.cell2; have q3 := HO.out.cell3; have q4 := HO.out.fr 0; have q5 := HO.out.fr 1; have q6 := HO.out.fr 2; have q7 := HO.out.fr 3)
 refine hK.out _ _ ?_ fun hHeld => ?_
 ·(first | exact KP.out _ (bKeep hbq hHeld.2.2.2.2.2.2.2.2 (by have := HA.out.2; omega)) | (refine KP.out _ ?_; repeat (first | exact hHeld.2.2.2.2.2.2.2.2 | refine Below.setCell ?_ (by first | (simp; done) | (simp; omega)) _)))
 clear hK K; try simp only [PU]
 refine tp 10 ?_
 try simp only [PU]
 refine tc 11 fun K hK => ?_
 go_simp
 refine hK.out _ _ ?_ fun hHeld => ?_
 ·(first | exact KP.out _ (bKeep hbq hHeld.2.2.2.2.2.2.2.2 (by have := HA.out.2; omega)) | (refine KP.out _ ?_; repeat (first | exact hHeld.2.2.2.2.2.2.2.2 | refine Below.setCell ?_ (by first | (simp; done) | (simp; omega)) _)))
 clear hK K; try simp only [PU]
 refine wpAnyH_done (by kernel_rfl) ?_ _
 refine hK _ _ ?_
 go_wp2
 refine bodyPost_ret (v := .agg #[.slice A5 k5 k5, .bool g1, .slice A6 k6 k6, .bool g2]) (by simp [results, Tryz.results70, go_sem, q0, q1, q2, q3]) rfl ⟨A5, k5, A6, k6, rfl, ?_, ?_, HA.out.1.trans (hHeld.2.2.2.2.2.2.2.2.mono (by omega))⟩
 ·exact (HO.out.mag hm5.out _ _ _ _).more (by simp)
 ·exact (HO.out.mag hm6.out _ _ _ _).more (by simp)
theorem opF_div {p q r s : Int} (hp : Dig 1000 p) (hq : Dig 1000 q) (hr : Dig 1000 r) (hs : Dig 1000 s) : OpF 75 p q r s (p * s) (q * r) := by
 intro w A1 A2 A3 A4 L1 L2 L3 L4 h1 h2 h3 h4
 have T1 := times_at h1 h4 hp hs
 have T2 := times_at h2 h3 hq hr
 unfold fV
 unfold fV iV at *
 generalize decide (p * s < 0) = g1 at *
 generalize (p * s).natAbs = n1 at *
 generalize decide (q * r < 0) = g2 at *
 generalize (q * r).natAbs = n2 at *
 generalize decide (p < 0) = f1 at *
 generalize decide (q < 0) = f2 at *
 generalize decide (r < 0) = f3 at *
 generalize decide (s < 0) = f4 at *
 have T1 := Aside0.mk T1
 have T2 := Aside0.mk T2
 clear h1 h2 h3 h4 hp hq hr hs
 go_enter Tryz.func75, Tryz.ntmps75
 go_wp2_with fail
 obtain ⟨wr, hwr⟩ : ∃ wr, (((w.alloc (.cells #[.slice A1 L1 L1, .bool f1, .slice A2 L2 L2, .bool f2] 113)).alloc (.cells #[.slice A3 L3 L3, .bool f3, .slice A4 L4 L4, .bool f4] 113)).alloc (.cells #[.slice none 0 0, .bool false, .slice none 0 0, .bool false] 113)) = wr := ⟨_, rfl⟩
 have HF : FB wr w.heap.size A1 L1 f1 A2 L2 f2 ∧ FB wr (w.heap.size + 1) A3 L3 f3 A4 L4 f4 ∧ FB wr (w.heap.size + 1 + 1) none 0 false none 0 false := by
  subst hwr
  refine ⟨((FB.new w _ _ _ _ _ _).alloc _).alloc _, FB.alloc ?_ _, ?_⟩
  ·have h := FB.new (w.alloc (.cells #[.slice A1 L1 L1, .bool f1, .slice A2 L2 L2, .bool f2] 113)) A3 L3 f3 A4 L4 f4
   simpa using h
  ·have h := FB.new ((w.alloc (.cells #[.slice A1 L1 L1, .bool f1, .slice A2 L2 L2, .bool f2] 113)).alloc (.cells #[.slice A3 L3 L3, .bool f3, .slice A4 L4 L4, .bool f4] 113)) none 0 false none 0 false
   simpa using h
 have HX : Aside0 (wr.cell? ⟨w.heap.size, 0, none⟩ = some (.slice A1 L1 L1) ∧ wr.cell? ⟨w.heap.size, 1, none⟩ = some (.bool f1) ∧ wr.cell? ⟨w.heap.size, 2, none⟩ = some (.slice A2 L2 L2) ∧ wr.cell? ⟨w.heap.size, 3, none⟩ = some (.bool f2) ∧ wr.cell? ⟨w.heap.size + 1, 0, none⟩ = some (.slice A3 L3 L3) ∧ wr.cell? ⟨w.heap.size + 1, 1, none⟩ = some (.bool f3) ∧ wr.cell? ⟨w.heap.size + 1, 2, none⟩ = some (.slice A4 L4 L4) ∧ wr.cell? ⟨w.heap.size + 1, 3, none⟩ = some (.bool f4)) :=
  ⟨HF.1.cell0, HF.1.cell1, HF.1.cell2, HF.1.cell3, HF.2.1.cell0, HF.2.1.cell1, HF.2.1.cell2, HF.2.1.cell3⟩
 have HO := Aside0.mk HF.2.2
 have HA : Aside0 (Below w.heap.size w wr ∧ w.heap.size + 3 ≤ wr.heap.size) := ⟨by subst hwr; repeat (first | exact Below.refl _ _ | apply below_alloc), by subst hwr; simp⟩
 rw [hwr]
 clear hwr HF
 rename_i Q' K hK
 have KP : Aside0 (∀ V, Below (w.heap.size + 2) wr V → (fun V => V.cell? ⟨w.heap.size, 0, none⟩ = some (.slice A1 L1 L1) ∧ V.cell? ⟨w.heap.size, 1, none⟩ = some (.bool f1) ∧ V.cell? ⟨w.heap.size, 2, none⟩ = some (.slice A2 L2 L2) ∧ V.cell? ⟨w.heap.size, 3, none⟩ = some (.bool f2) ∧ V.cell? ⟨w.heap.size + 1, 0, none⟩ = some (.slice A3 L3 L3) ∧ V.cell? ⟨w.heap.size + 1, 1, none⟩ = some (.bool f3) ∧ V.cell? ⟨w.heap.size + 1, 2, none⟩ = some (.slice A4 L4 L4) ∧ V.cell? ⟨w.heap.size + 1, 3, none⟩ = some (.bool f4) ∧ Below (w.heap.size + 2) wr V) V) := ⟨fun V hBB => ⟨keepB hBB (by omega) HX.out.1, keepB hBB (by omega) HX.out.2.1, keepB hBB (by omega) HX.out.2.2.1, keepB hBB (by omega) HX.out.2.2.2.1, keepB hBB (by omega) HX.out.2.2.2.2.1, keepB hBB (by omega) HX.out.2.2.2.2.2.1, keepB hBB (by omega) HX.out.2.2.2.2.2.2.1, keepB hBB (by omega) HX.out.2.2.2.2.2.2.2, hBB⟩⟩
 refine wq KP fun hHeld => ?_
 refine tp 0 ?_
 try simp only [PU]
 refine tp 1 ?_
 try simp only [PU]
 refine tp 2 ?_
 try simp only [PU]
 refine tp 3 ?_
 try simp only [PU]
 refine tp 5 ?_
 try simp only [PU]
 refine tp 6 ?_
 try simp only [PU]
 refine tp 7 ?_
 try simp only [PU]
 refine tp 8 ?_
 try simp only [PU]
 refine tc 4 fun K hK => ?_
 go_simp
 (go_at_call 71; (with_reducible refine (T1.out _ (HA.out.1.trans (hHeld.2.2.2.2.2.2.2.2.mono (by omega)))).mono ?_); rintro e wm ⟨A5, k5, rfl, hm5, hbq⟩; have HO := Aside0.mk ((HO.out.below (below_drew1 (Below.refl _ _))).below hbq); have hm5 := Aside0.mk hm5)
 refine hK.out _ _ ?_ fun hHeld => ?_
 ·(first | exact KP.out _ (bKeep hbq hHeld.2.2.2.2.2.2.2.2 (by have := HA.out.2; omega)) | (refine KP.out _ ?_; repeat (first | exact hHeld.2.2.2.2.2.2.2.2 | refine Below.setCell ?_ (by first | (simp; done) | (simp; omega)) _)))
 clear hK K; try simp only [PU]
 refine tc 9 fun K hK => ?_
 go_simp
 (go_at_call 71; (with_reducible refine (T2.out _ (HA.out.1.trans (hHeld.2.2.2.2.2.2.2.2.mono (by omega)))).mono ?_); rintro e wm ⟨A6, k6, rfl, hm6, hbq⟩; have HO := Aside0.mk (HO.out.below hbq); have hm6 := Aside0.mk hm6; have hm5 := Aside0.mk (hm5.out.up hbq); have q0 := HO.out.cell0; have q1 := HO.out.cell1; have q2 := HO.out.cell2; have q3 := HO.out.cell3; have q4 := HO.out.fr 0; have q5 := HO.out.fr 1; have q6 := HO.out.fr 2; have q7 := HO.out.fr 3)
 refine hK.out _ _ ?_ fun hHeld => ?_
 ·(first | exact KP.out _ (bKeep hbq hHeld.2.2.2.2.2.2.2.2 (by have := HA.out.2; omega)) | (refine KP.out _ ?_; repeat (first | exact hHeld.2.2.2.2.2.2.2.2 | refine Below.setCell ?_ (by first | (simp; done) | (simp; omega)) _)))
 clear hK K; try simp only [PU]
 refine tp 10 ?_
 try simp only [PU]
 refine tc 11 fun K hK => ?_
 go_simp
 refine hK.out _ _ ?_ fun hHeld => ?_
 ·(first | exact KP.out _ (bKeep hbq hHeld.2.2.2.2.2.2.2.2 (by have := HA.out.2; omega)) | (refine KP.out _ ?_; repeat (first | exact hHeld.2.2.2.2.2.2.2.2 | refine Below.setCell ?_ (by first | (simp; done) | (simp; omega)) _)))
 clear hK K; try simp only [PU]
 refine wpAnyH_done (by kernel_rfl) ?_ _
 refine hK _ _ ?_
 go_wp2
 refine bodyPost_ret (v := .agg #[.slice A5 k5 k5, .bool g1, .slice A6 k6 k6, .bool g2]) (by simp [results, Tryz.results75, go_sem, q0, q1, q2, q3]) rfl ⟨A5, k5, A6, k6, rfl, ?_, ?_, HA.out.1.trans (hHeld.2.2.2.2.2.2.2.2.mono (by omega))⟩
 ·exact (HO.out.mag hm5.out _ _ _ _).more (by simp)
 ·exact (HO.out.mag hm6.out _ _ _ _).more (by simp)
theorem opF_plus {p q r s : Int} (hp : Dig 490 p) (hq : Dig 490 q) (hr : Dig 490 r) (hs : Dig 490 s) : OpF 67 p q r s (p * s + r * q) (q * s) := by
 intro w A1 A2 A3 A4 L1 L2 L3 L4 h1 h2 h3 h4
 have T1 := times_at h1 h4 (hp.more (by omega)) (hs.more (by omega))
 have T2 := times_at h3 h2 (hr.more (by omega)) (hq.more (by omega))
 have T3 := times_at h2 h4 (hq.more (by omega)) (hs.more (by omega))
 have TP : ∀ (W : World) (A B : Option Addr) (k l : Nat), Mag W W.heap.size A k (p * s).natAbs → Mag W W.heap.size B l (r * q).natAbs → Calls Tryz.prog 138 #[iV A k (p * s), iV B l (r * q)] W fun e w' => ∃ A k, e = .returned (iV A k (p * s + r * q)) ∧ Mag w' w'.heap.size A k (p * s + r * q).natAbs ∧ Below W.heap.size W w' := fun W A B k l h5 h6 =>
  op2_plus ((hp.mul hs).more (by omega)) ((hr.mul hq).more (by omega)) W A B k l h5 h6
 unfold fV
 unfold fV iV at *
 generalize decide (p * s + r * q < 0) = g1 at *
 generalize (p * s + r * q).natAbs = n1 at *
 generalize decide (q * s < 0) = g2 at *
 generalize (q * s).natAbs = n2 at *
 generalize decide (p < 0) = f1 at *
 generalize decide (q < 0) = f2 at *
 generalize decide (r < 0) = f3 at *
 generalize decide (s < 0) = f4 at *
 generalize decide (p * s < 0) = g3 at *
 generalize (p * s).natAbs = n3 at *
 generalize decide (r * q < 0) = g4 at *
 generalize (r * q).natAbs = n4 at *
 have T1 := Aside0.mk T1
 have T2 := Aside0.mk T2
 have T3 := Aside0.mk T3
 have TP := Aside0.mk TP
 clear h1 h2 h3 h4 hp hq hr hs
 go_enter Tryz.func67, Tryz.ntmps67
 go_wp2_with fail
 obtain ⟨wr, hwr⟩ : ∃ wr, (((w.alloc (.cells #[.slice A1 L1 L1, .bool f1, .slice A2 L2 L2, .bool f2] 113)).alloc (.cells #[.slice A3 L3 L3, .bool f3, .slice A4 L4 L4, .bool f4] 113)).alloc (.cells #[.slice none 0 0, .bool false, .slice none 0 0, .bool false] 113)) = wr := ⟨_, rfl⟩
 have HF : FB wr w.heap.size A1 L1 f1 A2 L2 f2 ∧ FB wr (w.heap.size + 1) A3 L3 f3 A4 L4 f4 ∧ FB wr (w.heap.size + 1 + 1) none 0 false none 0 false := by
  subst hwr
  refine ⟨((FB.new w _ _ _ _ _ _).alloc _).alloc _, FB.alloc ?_ _, ?_⟩
  ·have h := FB.new (w.alloc (.cells #[.slice A1 L1 L1, .bool f1, .slice A2 L2 L2, .bool f2] 113)) A3 L3 f3 A4 L4 f4
   simpa using h
  ·have h := FB.new ((w.alloc (.cells #[.slice A1 L1 L1, .bool f1, .slice A2 L2 L2, .bool f2] 113)).alloc (.cells #[.slice A3 L3 L3, .bool f3, .slice A4 L4 L4, .bool f4] 113)) none 0 false none 0 false
   simpa using h
 have HX : Aside0 (wr.cell? ⟨w.heap.size, 0, none⟩ = some (.slice A1 L1 L1) ∧ wr.cell? ⟨w.heap.size, 1, none⟩ = some (.bool f1) ∧ wr.cell? ⟨w.heap.size, 2, none⟩ = some (.slice A2 L2 L2) ∧ wr.cell? ⟨w.heap.size, 3, none⟩ = some (.bool f2) ∧ wr.cell? ⟨w.heap.size + 1, 0, none⟩ = some (.slice A3 L3 L3) ∧ wr.cell? ⟨w.heap.size + 1, 1, none⟩ = some (.bool f3) ∧ wr.cell? ⟨w.heap.size + 1, 2, none⟩ = some (.slice A4 L4 L4) ∧ wr.cell? ⟨w.heap.size + 1, 3, none⟩ = some (.bool f4)) :=
  ⟨HF.1.cell0, HF.1.cell1, HF.1.cell2, HF.1.cell3, HF.2.1.cell0, HF.2.1.cell1, HF.2.1.cell2, HF.2.1.cell3⟩
 have HO := Aside0.mk HF.2.2
 have HA : Aside0 (Below w.heap.size w wr ∧ w.heap.size + 3 ≤ wr.heap.size) := ⟨by subst hwr; repeat (first | exact Below.refl _ _ | apply below_alloc), by subst hwr; simp⟩
 rw [hwr]
 clear hwr HF
 rename_i Q' K hK
 have KP : Aside0 (∀ V, Below (w.heap.size + 2) wr V → (fun V => V.cell? ⟨w.heap.size, 0, none⟩ = some (.slice A1 L1 L1) ∧ V.cell? ⟨w.heap.size, 1, none⟩ = some (.bool f1) ∧ V.cell? ⟨w.heap.size, 2, none⟩ = some (.slice A2 L2 L2) ∧ V.cell? ⟨w.heap.size, 3, none⟩ = some (.bool f2) ∧ V.cell? ⟨w.heap.size + 1, 0, none⟩ = some (.slice A3 L3 L3) ∧ V.cell? ⟨w.heap.size + 1, 1, none⟩ = some (.bool f3) ∧ V.cell? ⟨w.heap.size + 1, 2, none⟩ = some (.slice A4 L4 L4) ∧ V.cell? ⟨w.heap.size + 1, 3, none⟩ = some (.bool f4) ∧ Below (w.heap.size + 2) wr V) V) := ⟨fun V hBB => ⟨keepB hBB (by omega) HX.out.1, keepB hBB (by omega) HX.out.2.1, keepB hBB (by omega) HX.out.2.2.1, keepB hBB (by omega) HX.out.2.2.2.1, keepB hBB (by omega) HX.out.2.2.2.2.1, keepB hBB (by omega) HX.out.2.2.2.2.2.1, keepB hBB (by omega) HX.out.2.2.2.2.2.2.1, keepB hBB (by omega) HX.out.2.2.2.2.2.2.2, hBB⟩⟩
 refine wq KP fun hHeld => ?_
 refine tp 0 ?_
 try simp only [PU]
 refine tp 1 ?_
 try simp only [PU]
 refine tp 2 ?_
 try simp only [PU]
 refine tp 3 ?_
 try simp only [PU]
 refine tp 5 ?_
 try simp only [PU]
 refine tp 6 ?_
 try simp only [PU]
 refine tp 7 ?_
 try simp only [PU]
 refine tp 8 ?_
 try simp only [PU]
 refine tp 11 ?_
 try simp only [PU]
 refine tp 12 ?_
 try simp only [PU]
 refine tp 13 ?_
 try simp only [PU]
 refine tp 14 ?_
 try simp only [PU]
 refine tc 4 fun K hK => ?_
 go_simp
 (go_at_call 71; (with_reducible refine (T1.out _ (HA.out.1.trans (hHeld.2.2.2.2.2.2.2.2.mono (by omega)))).mono ?_); rintro e wm ⟨A5, k5, rfl, hm5, hbq⟩; have HO := Aside0.mk ((HO.out.below (below_drew1 (Below.refl _ _))).below hbq); have hm5 := Aside0.mk hm5)
 refine hK.out _ _ ?_ fun hHeld => ?_
 ·(first | exact KP.out _ (bKeep hbq hHeld.2.2.2.2.2.2.2.2 (by have := HA.out.2; omega)) | (refine KP.out _ ?_; repeat (first | exact hHeld.2.2.2.2.2.2.2.2 | refine Below.setCell ?_ (by first | (simp; done) | (simp; omega)) _)))
 clear hK K; try simp only [PU]
 refine tc 9 fun K hK => ?_
 go_simp
 (go_at_call 71; (with_reducible refine (T2.out _ (HA.out.1.trans (hHeld.2.2.2.2.2.2.2.2.mono (by omega)))).mono ?_); rintro e wm ⟨A6, k6, rfl, hm6, hbq⟩; have HO := Aside0.mk (HO.out.below hbq); have hm6 := Aside0.mk hm6; have hm5 := Aside0.mk (hm5.out.up hbq); have q0 := HO.out.cell0; have q1 := HO.out.cell1; have q2 := HO.out.cell2; have q3 := HO.out.cell3; have q4 := HO.out.fr 0; have q5 := HO.out.fr 1; have q6 := HO.out.fr 2; have q7 := HO.out.fr 3)
 refine hK.out _ _ ?_ fun hHeld => ?_
 ·(first | exact KP.out _ (bKeep hbq hHeld.2.2.2.2.2.2.2.2 (by have := HA.out.2; omega)) | (refine KP.out _ ?_; repeat (first | exact hHeld.2.2.2.2.2.2.2.2 | refine Below.setCell ?_ (by first | (simp; done) | (simp; omega)) _)))
 clear hK K; try simp only [PU]
 refine tc 10 fun K hK => ?_
 go_simp
 (go_at_call 138; (with_reducible refine (TP.out _ _ _ _ _ hm5.out hm6.out).mono ?_); rintro e wm ⟨A7, k7, rfl, hm7, hbq⟩; have HO := Aside0.mk (HO.out.below hbq); have hm7 := Aside0.mk hm7; clear hm5 hm6)
 refine hK.out _ _ ?_ fun hHeld => ?_
 ·(first | exact KP.out _ (bKeep hbq hHeld.2.2.2.2.2.2.2.2 (by have := HA.out.2; omega)) | (refine KP.out _ ?_; repeat (first | exact hHeld.2.2.2.2.2.2.2.2 | refine Below.setCell ?_ (by first | (simp; done) | (simp; omega)) _)))
 clear hK K; try simp only [PU]
 refine tc 15 fun K hK => ?_
 go_simp
 (go_at_call 71; (with_reducible refine (T3.out _ (HA.out.1.trans (hHeld.2.2.2.2.2.2.2.2.mono (by omega)))).mono ?_); rintro e wm ⟨A8, k8, rfl, hm8, hbq⟩; have HO := Aside0.mk (HO.out.below hbq); have hm8 := Aside0.mk hm8; have hm7 := Aside0.mk (hm7.out.up hbq); have q0 := HO.out.cell0; have q1 := HO.out.cell1; have q2 := HO.out.cell2; have q3 := HO.out.cell3; have q4 := HO.out.fr 0; have q5 := HO.out.fr 1; have q6 := HO.out.fr 2; have q7 := HO.out.fr 3)
 refine hK.out _ _ ?_ fun hHeld => ?_
 ·(first | exact KP.out _ (bKeep hbq hHeld.2.2.2.2.2.2.2.2 (by have := HA.out.2; omega)) | (refine KP.out _ ?_; repeat (first | exact hHeld.2.2.2.2.2.2.2.2 | refine Below.setCell ?_ (by first | (simp; done) | (simp; omega)) _)))
 clear hK K; try simp only [PU]
 refine tp 16 ?_
 try simp only [PU]
 refine tc 17 fun K hK => ?_
 go_simp
 refine hK.out _ _ ?_ fun hHeld => ?_
 ·(first | exact KP.out _ (bKeep hbq hHeld.2.2.2.2.2.2.2.2 (by have := HA.out.2; omega)) | (refine KP.out _ ?_; repeat (first | exact hHeld.2.2.2.2.2.2.2.2 | refine Below.setCell ?_ (by first | (simp; done) | (simp; omega)) _)))
 clear hK K; try simp only [PU]
 refine wpAnyH_done (by kernel_rfl) ?_ _
 refine hK _ _ ?_
 go_wp2
 refine bodyPost_ret (v := .agg #[.slice A7 k7 k7, .bool g1, .slice A8 k8 k8, .bool g2]) (by simp [results, Tryz.results67, go_sem, q0, q1, q2, q3]) rfl ⟨A7, k7, A8, k8, rfl, ?_, ?_, HA.out.1.trans (hHeld.2.2.2.2.2.2.2.2.mono (by omega))⟩
 ·exact (HO.out.mag hm7.out _ _ _ _).more (by simp)
 ·exact (HO.out.mag hm8.out _ _ _ _).more (by simp)
theorem opF_minus {p q r s : Int} (hp : Dig 490 p) (hq : Dig 490 q) (hr : Dig 490 r) (hs : Dig 490 s) : OpF 68 p q r s (p * s - r * q) (q * s) := by
 intro w A1 A2 A3 A4 L1 L2 L3 L4 h1 h2 h3 h4
 have TN : ∀ W, Below w.heap.size w W → Calls Tryz.prog 69 #[iV A3 L3 r] W fun e w' => e = .returned (iV A3 L3 (-r)) ∧ Below W.heap.size W w' := fun W hb => (negative_calls (h3.up hb) (Nat.le_refl _)).mono fun e w' h => ⟨h.1, h.2.2⟩
 have TP : ∀ W, Below w.heap.size w W → Calls Tryz.prog 67 #[fV A1 L1 p A2 L2 q, fV A3 L3 (-r) A4 L4 s] W fun e w' => ∃ A k A' k', e = .returned (fV A k (p * s - r * q) A' k' (q * s)) ∧ Mag w' w'.heap.size A k (p * s - r * q).natAbs ∧ Mag w' w'.heap.size A' k' (q * s).natAbs ∧ Below W.heap.size W w' := fun W hb => by
  have h := opF_plus hp hq hr.neg hs W A1 A2 A3 A4 L1 L2 L3 L4 (h1.up hb) (h2.up hb) (by rw [Int.natAbs_neg]; exact h3.up hb) (h4.up hb)
  rwa [Int.neg_mul, ← Int.sub_eq_add_neg] at h
 unfold fV
 unfold fV iV at *
 generalize decide (p * s - r * q < 0) = g1 at *
 generalize (p * s - r * q).natAbs = n1 at *
 generalize decide (q * s < 0) = g2 at *
 generalize (q * s).natAbs = n2 at *
 generalize decide (p < 0) = f1 at *
 generalize decide (q < 0) = f2 at *
 generalize decide (r < 0) = f3 at *
 generalize decide (s < 0) = f4 at *
 generalize decide (-r < 0) = f5 at *
 have TN := Aside0.mk TN
 have TP := Aside0.mk TP
 clear h1 h2 h3 h4 hp hq hr hs
 go_enter Tryz.func68, Tryz.ntmps68
 go_wp2_with fail
 obtain ⟨wr, hwr⟩ : ∃ wr, (((w.alloc (.cells #[.slice A1 L1 L1, .bool f1, .slice A2 L2 L2, .bool f2] 113)).alloc (.cells #[.slice A3 L3 L3, .bool f3, .slice A4 L4 L4, .bool f4] 113)).alloc (.cells #[.slice none 0 0, .bool false, .slice none 0 0, .bool false] 113)) = wr := ⟨_, rfl⟩
 have HF : FB wr w.heap.size A1 L1 f1 A2 L2 f2 ∧ FB wr (w.heap.size + 1) A3 L3 f3 A4 L4 f4 ∧ FB wr (w.heap.size + 1 + 1) none 0 false none 0 false := by
  subst hwr
  refine ⟨((FB.new w _ _ _ _ _ _).alloc _).alloc _, FB.alloc ?_ _, ?_⟩
  ·have h := FB.new (w.alloc (.cells #[.slice A1 L1 L1, .bool f1, .slice A2 L2 L2, .bool f2] 113)) A3 L3 f3 A4 L4 f4
   simpa using h
  ·have h := FB.new ((w.alloc (.cells #[.slice A1 L1 L1, .bool f1, .slice A2 L2 L2, .bool f2] 113)).alloc (.cells #[.slice A3 L3 L3, .bool f3, .slice A4 L4 L4, .bool f4] 113)) none 0 false none 0 false
   simpa using h
 have HX : Aside0 (wr.cell? ⟨w.heap.size, 0, none⟩ = some (.slice A1 L1 L1) ∧ wr.cell? ⟨w.heap.size, 1, none⟩ = some (.bool f1) ∧ wr.cell? ⟨w.heap.size, 2, none⟩ = some (.slice A2 L2 L2) ∧ wr.cell? ⟨w.heap.size, 3, none⟩ = some (.bool f2) ∧ wr.cell? ⟨w.heap.size + 1, 0, none⟩ = some (.slice A3 L3 L3) ∧ wr.cell? ⟨w.heap.size + 1, 1, none⟩ = some (.bool f3) ∧ wr.cell? ⟨w.heap.size + 1, 2, none⟩ = some (.slice A4 L4 L4) ∧ wr.cell? ⟨w.heap.size + 1, 3, none⟩ = some (.bool f4)) :=
  ⟨HF.1.cell0, HF.1.cell1, HF.1.cell2, HF.1.cell3, HF.2.1.cell0, HF.2.1.cell1, HF.2.1.cell2, HF.2.1.cell3⟩
 have HO := Aside0.mk HF.2.2
 have HA : Aside0 (Below w.heap.size w wr ∧ w.heap.size + 3 ≤ wr.heap.size) := ⟨by subst hwr; repeat (first | exact Below.refl _ _ | apply below_alloc), by subst hwr; simp⟩
 rw [hwr]
 clear hwr HF
 rename_i Q' K hK
 have KP : Aside0 (∀ V, Below (w.heap.size + 2) wr V → (fun V => V.cell? ⟨w.heap.size, 0, none⟩ = some (.slice A1 L1 L1) ∧ V.cell? ⟨w.heap.size, 1, none⟩ = some (.bool f1) ∧ V.cell? ⟨w.heap.size, 2, none⟩ = some (.slice A2 L2 L2) ∧ V.cell? ⟨w.heap.size, 3, none⟩ = some (.bool f2) ∧ V.cell? ⟨w.heap.size + 1, 0, none⟩ = some (.slice A3 L3 L3) ∧ V.cell? ⟨w.heap.size + 1, 1, none⟩ = some (.bool f3) ∧ V.cell? ⟨w.heap.size + 1, 2, none⟩ = some (.slice A4 L4 L4) ∧ V.cell? ⟨w.heap.size + 1, 3, none⟩ = some (.bool f4) ∧ Below (w.heap.size + 2) wr V) V) := ⟨fun V hBB => ⟨keepB hBB (by omega) HX.out.1, keepB hBB (by omega) HX.out.2.1, keepB hBB (by omega) HX.out.2.2.1, keepB hBB (by omega) HX.out.2.2.2.1, keepB hBB (by omega) HX.out.2.2.2.2.1, keepB hBB (by omega) HX.out.2.2.2.2.2.1, keepB hBB (by omega) HX.out.2.2.2.2.2.2.1, keepB hBB (by omega) HX.out.2.2.2.2.2.2.2, hBB⟩⟩
 refine wq KP fun hHeld => ?_
 refine tp 0 ?_
 try simp only [PU]
 refine tp 1 ?_
 try simp only [PU]
 refine tp 2 ?_
 try simp only [PU]
 refine tp 4 ?_
 try simp only [PU]
 refine tp 5 ?_
 try simp only [PU]
 refine tc 3 fun K hK => ?_
 go_simp
 (go_at_call 69; (with_reducible refine (TN.out _ (HA.out.1.trans (hHeld.2.2.2.2.2.2.2.2.mono (by omega)))).mono ?_); rintro e wm ⟨rfl, hbq⟩; have HO := Aside0.mk ((HO.out.below (below_drew1 (Below.refl _ _))).below hbq))
 refine hK.out _ _ ?_ fun hHeld => ?_
 ·(first | exact KP.out _ (bKeep hbq hHeld.2.2.2.2.2.2.2.2 (by have := HA.out.2; omega)) | (refine KP.out _ ?_; repeat (first | exact hHeld.2.2.2.2.2.2.2.2 | refine Below.setCell ?_ (by first | (simp; done) | (simp; omega)) _)))
 clear hK K; try simp only [PU]
 refine tp 6 ?_
 try simp only [PU]
 refine tc 7 fun K hK => ?_
 go_simp
 (go_at_call 67; (with_reducible refine (TP.out _ (HA.out.1.trans (hHeld.2.2.2.2.2.2.2.2.mono (by omega)))).mono ?_); rintro e wm ⟨A5, k5, A6, k6, rfl, hm5, hm6, hbq⟩; have HO := Aside0.mk (HO.out.below hbq); have hm5 := Aside0.mk hm5; have hm6 := Aside0.mk hm6; have q0 := HO.out.cell0; have q1 := HO.out.cell1; have q2 := HO.out.cell2; have q3 := HO.out.cell3; have q4 := HO.out.fr 0; have q5 := HO.out.fr 1; have q6 := HO.out.fr 2; have q7 := HO.out.fr 3)
 refine hK.out _ _ ?_ fun hHeld => ?_
 ·(first | exact KP.out _ (bKeep hbq hHeld.2.2.2.2.2.2.2.2 (by have := HA.out.2; omega)) | (refine KP.out _ ?_; repeat (first | exact hHeld.2.2.2.2.2.2.2.2 | refine Below.setCell ?_ (by first | (simp; done) | (simp; omega)) _)))
 clear hK K; try simp only [PU]
 refine tc 8 fun K hK => ?_
 go_simp
 refine hK.out _ _ ?_ fun hHeld => ?_
 ·(first | exact KP.out _ (bKeep hbq hHeld.2.2.2.2.2.2.2.2 (by have := HA.out.2; omega)) | (refine KP.out _ ?_; repeat (first | exact hHeld.2.2.2.2.2.2.2.2 | refine Below.setCell ?_ (by first | (simp; done) | (simp; omega)) _)))
 clear hK K; try simp only [PU]
 refine wpAnyH_done (by kernel_rfl) ?_ _
 refine hK _ _ ?_
 go_wp2
 refine bodyPost_ret (v := .agg #[.slice A5 k5 k5, .bool g1, .slice A6 k6 k6, .bool g2]) (by simp [results, Tryz.results68, go_sem, q0, q1, q2, q3]) rfl ⟨A5, k5, A6, k6, rfl, ?_, ?_, HA.out.1.trans (hHeld.2.2.2.2.2.2.2.2.mono (by omega))⟩
 ·exact (HO.out.mag hm5.out _ _ _ _).more (by simp)
 ·exact (HO.out.mag hm6.out _ _ _ _).more (by simp)
/-- The divisor that brings a fraction into lowest terms. -/
def lowD (p q : Int) : Int := if q < 0 then -(Int.gcd p q : Int) else Int.gcd p q
theorem lowD_ne {p q : Int} (hq : q ≠ 0) : lowD p q ≠ 0 := by
 have : Int.gcd p q ≠ 0 := fun h => hq ((Int.gcd_eq_zero_iff.1 h).2)
 unfold lowD
 split <;> omega
theorem lowD_abs (p q : Int) : (lowD p q).natAbs = Nat.gcd p.natAbs q.natAbs := by
 unfold lowD
 split
 ·rw [Int.natAbs_neg]; rfl
 ·rfl
theorem lowD_neg {p q : Int} (hq : q ≠ 0) : decide (lowD p q < 0) = decide (q < 0) := by
 have : Int.gcd p q ≠ 0 := fun h => hq ((Int.gcd_eq_zero_iff.1 h).2)
 unfold lowD
 split
 ·rename_i h; rw [decide_eq_decide]; omega
 ·rename_i h; rw [decide_eq_decide]; omega
theorem Dig.gcd {k : Nat} {p q : Int} (hq : Dig k q) (h0 : q ≠ 0) : Dig k (lowD p q) := by
 unfold Dig at *
 rw [lowD_abs]
 exact Nat.lt_of_le_of_lt (Nat.gcd_le_right _ (by omega)) hq
/-- What lies in memory while lowest runs. -/
structure LO (w : World) (A1 : Option Addr) (L1 : Nat) (f1 : Bool) (m1 : Nat) (A2 : Option Addr) (L2 : Nat) (f2 : Bool) (m2 : Nat) (V : World) : Prop where
 x : FB V w.heap.size A1 L1 f1 A2 L2 f2
 o : FB V (w.heap.size + 1) none 0 false none 0 false
 m1 : Mag V V.heap.size A1 L1 m1
 m2 : Mag V V.heap.size A2 L2 m2
 bl : Below w.heap.size w V
/-- And with the divisor. -/
structure LD (w : World) (A1 : Option Addr) (L1 : Nat) (f1 : Bool) (m1 : Nat) (A2 : Option Addr) (L2 : Nat) (f2 : Bool) (m2 : Nat) (bd : Nat) (Ag : Option Addr) (kg g : Nat) (V : World) : Prop extends LO w A1 L1 f1 m1 A2 L2 f2 m2 V where
 d : IB V bd Ag kg f2
 md : Mag V V.heap.size Ag kg g
 n : w.heap.size + 2 ≤ bd
section
variable {w V Y : World} {A1 : Option Addr} {L1 : Nat} {f1 : Bool} {m1 : Nat} {A2 : Option Addr} {L2 : Nat} {f2 : Bool} {m2 bd : Nat} {Ag : Option Addr} {kg g : Nat}
theorem LO.below (h : LO w A1 L1 f1 m1 A2 L2 f2 m2 V) (hb : Below V.heap.size V Y) : LO w A1 L1 f1 m1 A2 L2 f2 m2 Y :=
 ⟨h.x.below hb, h.o.below hb, h.m1.up hb, h.m2.up hb, h.bl.trans (hb.mono h.bl.size)⟩
theorem LD.below (h : LD w A1 L1 f1 m1 A2 L2 f2 m2 bd Ag kg g V) (hb : Below V.heap.size V Y) : LD w A1 L1 f1 m1 A2 L2 f2 m2 bd Ag kg g Y :=
 ⟨h.toLO.below hb, h.d.below hb, h.md.up hb, h.n⟩
theorem LO.put (h : LO w A1 L1 f1 m1 A2 L2 f2 m2 V) (hd : IB V bd none 0 false) (hm : Mag V V.heap.size Ag kg g) (hn : w.heap.size + 2 ≤ bd) :
 LD w A1 L1 f1 m1 A2 L2 f2 m2 bd Ag kg g ((V.setCell ⟨bd, 0, none⟩ (.slice Ag kg kg)).setCell ⟨bd, 1, none⟩ (.bool f2)) :=
 ⟨⟨(h.x.other (by omega) 0 _).other (by omega) 1 _, (h.o.other (by omega) 0 _).other (by omega) 1 _, (hd.mag h.m1 _ _).more (by simp), (hd.mag h.m2 _ _).more (by simp), (h.bl.setCell (p := ⟨bd, 0, none⟩) (by show w.heap.size ≤ bd; omega) _).setCell (p := ⟨bd, 1, none⟩) (by show w.heap.size ≤ bd; omega) _⟩, hd.put _ _ _, (hd.mag hm _ _).more (by simp), hn⟩
end
theorem alloc_at (W : World) : ∃ Y bd, W.alloc (.cells #[.slice none 0 0, .bool false] 111) = Y ∧ W.heap.size = bd ∧ IB Y bd none 0 false ∧ Below W.heap.size W Y ∧ W.heap.size ≤ bd :=
 ⟨_, _, rfl, rfl, IB.new W _ _ _, below_alloc (Below.refl _ _) _, Nat.le_refl _⟩
theorem lowest_calls {w : World} {A1 A2 : Option Addr} {L1 L2 : Nat} {p q : Int} (h1 : Mag w w.heap.size A1 L1 p.natAbs) (h2 : Mag w w.heap.size A2 L2 q.natAbs) (hp : Dig 1000 p) (hq : Dig 1000 q) (h0 : q ≠ 0) :
 Calls Tryz.prog 136 #[fV A1 L1 p A2 L2 q] w fun e w' => ∃ A k A' k', e = .returned (fV A k (p / lowD p q) A' k' (q / lowD p q)) ∧ Mag w' w'.heap.size A k (p / lowD p q).natAbs ∧ Mag w' w'.heap.size A' k' (q / lowD p q).natAbs ∧ Below w.heap.size w w' := by
 have l1 := hp.len h1 112 (by omega)
 have l2 := hq.len h2 112 (by omega)
 have HC : ∀ W, Below w.heap.size w W → Calls Tryz.prog 126 #[.agg #[.slice A1 L1 L1], .agg #[.slice A2 L2 L2]] W fun e w' => ∃ A k, e = .returned (.agg #[.slice A k k]) ∧ Mag w' w'.heap.size A k (lowD p q).natAbs ∧ Below W.heap.size W w' := fun W hb => by
  rw [lowD_abs]
  exact common_calls (h1.up hb) (h2.up hb) (Nat.le_refl _) (by omega) (by omega)
 have HV1 : ∀ (W : World) (bd : Nat) (Ag : Option Addr) (kg : Nat), LD w A1 L1 (decide (p < 0)) p.natAbs A2 L2 (decide (q < 0)) q.natAbs bd Ag kg (lowD p q).natAbs W → Calls Tryz.prog 189 #[.agg #[.slice A1 L1 L1, .bool (decide (p < 0))], .agg #[.slice Ag kg kg, .bool (decide (q < 0))]] W fun e w' => ∃ A k A' k', e = .returned (.tuple #[.agg #[.slice A k k, .bool (decide (p / lowD p q < 0))], .agg #[.slice A' k' k', .bool (decide (p % lowD p q < 0))]]) ∧ Mag w' w'.heap.size A k (p / lowD p q).natAbs ∧ Mag w' w'.heap.size A' k' (p % lowD p q).natAbs ∧ Below W.heap.size W w' := fun W bd Ag kg h => by
  have hl := (Dig.gcd (p := p) hq h0).len h.md 112 (by omega)
  have hh := over_calls h.m1 h.md (Nat.le_refl _) (lowD_ne h0) (by omega) (by omega)
  unfold iV at hh
  rwa [lowD_neg h0] at hh
 have HV2 : ∀ (W : World) (bd : Nat) (Ag : Option Addr) (kg : Nat), LD w A1 L1 (decide (p < 0)) p.natAbs A2 L2 (decide (q < 0)) q.natAbs bd Ag kg (lowD p q).natAbs W → Calls Tryz.prog 189 #[.agg #[.slice A2 L2 L2, .bool (decide (q < 0))], .agg #[.slice Ag kg kg, .bool (decide (q < 0))]] W fun e w' => ∃ A k A' k', e = .returned (.tuple #[.agg #[.slice A k k, .bool (decide (q / lowD p q < 0))], .agg #[.slice A' k' k', .bool (decide (q % lowD p q < 0))]]) ∧ Mag w' w'.heap.size A k (q / lowD p q).natAbs ∧ Mag w' w'.heap.size A' k' (q % lowD p q).natAbs ∧ Below W.heap.size W w' := fun W bd Ag kg h => by
  have hl := (Dig.gcd (p := p) hq h0).len h.md 112 (by omega)
  have hh := over_calls h.m2 h.md (Nat.le_refl _) (lowD_ne h0) (by omega) (by omega)
  unfold iV at hh
  rwa [lowD_neg h0] at hh
 unfold fV
 have HM : Aside0 (∀ W, Below w.heap.size w W → Mag W W.heap.size A1 L1 p.natAbs ∧ Mag W W.heap.size A2 L2 q.natAbs) := ⟨fun W hb => ⟨h1.up hb, h2.up hb⟩⟩
 clear h1 h2 l1 l2 hp hq h0
 generalize decide (p / lowD p q < 0) = r1 at *
 generalize (p / lowD p q).natAbs = n1 at *
 generalize decide (q / lowD p q < 0) = r2 at *
 generalize (q / lowD p q).natAbs = n2 at *
 generalize decide (p % lowD p q < 0) = r3 at *
 generalize (p % lowD p q).natAbs = n3 at *
 generalize decide (q % lowD p q < 0) = r4 at *
 generalize (q % lowD p q).natAbs = n4 at *
 generalize (lowD p q).natAbs = g at *
 generalize decide (p < 0) = f1 at *
 generalize p.natAbs = m1 at *
 generalize decide (q < 0) = f2 at *
 generalize q.natAbs = m2 at *
 have HC := Aside0.mk HC
 have HV1 : Aside0 (∀ (W : World) {bd : Nat} {Ag : Option Addr} {kg : Nat}, LD w A1 L1 f1 m1 A2 L2 f2 m2 bd Ag kg g W → Calls Tryz.prog 189 #[.agg #[.slice A1 L1 L1, .bool f1], .agg #[.slice Ag kg kg, .bool f2]] W fun e w' => ∃ A k A' k', e = .returned (.tuple #[.agg #[.slice A k k, .bool r1], .agg #[.slice A' k' k', .bool r3]]) ∧ Mag w' w'.heap.size A k n1 ∧ Mag w' w'.heap.size A' k' n3 ∧ Below W.heap.size W w') := ⟨fun W {bd Ag kg} => HV1 W bd Ag kg⟩
 have HV2 : Aside0 (∀ (W : World) {bd : Nat} {Ag : Option Addr} {kg : Nat}, LD w A1 L1 f1 m1 A2 L2 f2 m2 bd Ag kg g W → Calls Tryz.prog 189 #[.agg #[.slice A2 L2 L2, .bool f2], .agg #[.slice Ag kg kg, .bool f2]] W fun e w' => ∃ A k A' k', e = .returned (.tuple #[.agg #[.slice A k k, .bool r2], .agg #[.slice A' k' k', .bool r4]]) ∧ Mag w' w'.heap.size A k n2 ∧ Mag w' w'.heap.size A' k' n4 ∧ Below W.heap.size W w') := ⟨fun W {bd Ag kg} => HV2 W bd Ag kg⟩
 go_enter Tryz.func136, Tryz.ntmps136
 go_wp2_with fail
 obtain ⟨wr, hwr⟩ : ∃ wr, ((w.alloc (.cells #[.slice A1 L1 L1, .bool f1, .slice A2 L2 L2, .bool f2] 113)).alloc (.cells #[.slice none 0 0, .bool false, .slice none 0 0, .bool false] 113)) = wr := ⟨_, rfl⟩
 have HO : Aside0 (LO w A1 L1 f1 m1 A2 L2 f2 m2 wr) := ⟨by
  have hb : Below w.heap.size w wr := by subst hwr; repeat (first | exact Below.refl _ _ | apply below_alloc)
  refine ⟨?_, ?_, (HM.out _ hb).1, (HM.out _ hb).2, hb⟩
  ·subst hwr; exact (FB.new w _ _ _ _ _ _).alloc _
  ·subst hwr
   have h := FB.new (w.alloc (.cells #[.slice A1 L1 L1, .bool f1, .slice A2 L2 L2, .bool f2] 113)) none 0 false none 0 false
   simpa using h⟩
 have HX : Aside0 (wr.cell? ⟨w.heap.size, 0, none⟩ = some (.slice A1 L1 L1) ∧ wr.cell? ⟨w.heap.size, 1, none⟩ = some (.bool f1) ∧ wr.cell? ⟨w.heap.size, 2, none⟩ = some (.slice A2 L2 L2) ∧ wr.cell? ⟨w.heap.size, 3, none⟩ = some (.bool f2)) := ⟨HO.out.x.cell0, HO.out.x.cell1, HO.out.x.cell2, HO.out.x.cell3⟩
 have HA : Aside0 (Below w.heap.size w wr ∧ w.heap.size + 2 ≤ wr.heap.size) := ⟨HO.out.bl, by subst hwr; simp⟩
 rw [hwr]
 clear hwr HM
 rename_i Q' K hK
 refine wp_mid (fun T0 T V => ∃ Ag kg bd, T = ((((((((((((T0.setIfInBounds 8 (.pointer (some ⟨w.heap.size, 0, none⟩))).setIfInBounds 9 (.pointer (some ⟨w.heap.size, 0, none⟩))).setIfInBounds 10 (.agg #[.slice A1 L1 L1])).setIfInBounds 11 (.pointer (some ⟨w.heap.size, 2, none⟩))).setIfInBounds 12 (.pointer (some ⟨w.heap.size, 2, none⟩))).setIfInBounds 13 (.agg #[.slice A2 L2 L2])).setIfInBounds 14 (.agg #[.slice Ag kg kg])).setIfInBounds 15 (.pointer (some ⟨w.heap.size, 2, none⟩))).setIfInBounds 16 (.pointer (some ⟨w.heap.size, 3, none⟩))).setIfInBounds 17 (.bool f2)).setIfInBounds 18 (.agg #[.slice Ag kg kg, .bool f2])).setIfInBounds 3 (.pointer (some ⟨bd, 0, none⟩))) ∧ LD w A1 L1 f1 m1 A2 L2 f2 m2 bd Ag kg g V) ?_ ?_
 ·have KP : Aside0 (∀ V, Below (w.heap.size + 2) wr V → (fun V => V.cell? ⟨w.heap.size, 0, none⟩ = some (.slice A1 L1 L1) ∧ V.cell? ⟨w.heap.size, 1, none⟩ = some (.bool f1) ∧ V.cell? ⟨w.heap.size, 2, none⟩ = some (.slice A2 L2 L2) ∧ V.cell? ⟨w.heap.size, 3, none⟩ = some (.bool f2) ∧ Below (w.heap.size + 2) wr V) V) := ⟨fun V hBB => ⟨keepB hBB (by omega) HX.out.1, keepB hBB (by omega) HX.out.2.1, keepB hBB (by omega) HX.out.2.2.1, keepB hBB (by omega) HX.out.2.2.2, hBB⟩⟩
  refine wq KP fun hHeld => ?_
  obtain ⟨cur, hcur⟩ : ∃ cur, wr.drew = cur := ⟨_, rfl⟩
  rw [hcur] at hHeld ⊢
  have HO : Aside0 (LO w A1 L1 f1 m1 A2 L2 f2 m2 cur) := ⟨by subst hcur; exact HO.out.below (below_drew1 (Below.refl _ _))⟩
  have hcs : w.heap.size + 2 ≤ cur.heap.size := by have h1 := HA.out.2; have h2 := hHeld.2.2.2.2.size; omega
  clear hcur
  refine tp 0 ?_
  try simp only [PU]
  refine tp 1 ?_
  try simp only [PU]
  refine tp 2 ?_
  try simp only [PU]
  refine tp 3 ?_
  try simp only [PU]
  refine tp 4 ?_
  try simp only [PU]
  refine tp 5 ?_
  try simp only [PU]
  refine tp 7 ?_
  try simp only [PU]
  refine tp 8 ?_
  try simp only [PU]
  refine tp 9 ?_
  try simp only [PU]
  refine wpAnyH_ready (rs := [6, 11]) (by kernel_rfl) (by simp) ?_
  refine AllReadyH.cons rfl (fun K hK => ?_) (AllReadyH.cons rfl (fun K hK => ?_) (AllReadyH.nil))
  ·go_simp
   (go_at_call 126; (with_reducible refine (HC.out _ HO.out.bl).mono ?_); rintro e cur2 ⟨Ag, kg, rfl, hmg, hbq⟩; have HO := Aside0.mk (HO.out.below hbq); have hmg := Aside0.mk hmg; (try have HD := Aside0.mk (HD.out.below hbq)); (try have d0 := HD.out.cell0); (try have d1 := HD.out.cell1); (try have g0 := HD.out.fr 0); (try have g1 := HD.out.fr 1); have hcs := Nat.le_trans hcs hbq.size)
   refine hK.out _ _ ?_ fun hHeld => ?_
   ·(first | exact KP.out _ (bKeep hbq hHeld.2.2.2.2 (by have := HA.out.2; omega)) | (refine KP.out _ ?_; repeat (first | exact hHeld.2.2.2.2 | refine Below.setCell ?_ (by first | (simp; done) | (simp; omega)) _)))
   clear hK K; try simp only [PU]
   refine tp 10 ?_
   try simp only [PU]
   refine tc 11 fun K hK => ?_
   go_simp
   (obtain ⟨cur3, bd, hY, hbd, hIB, hbq, hle⟩ := alloc_at _; rw [hY, hbd]; have HO := Aside0.mk (HO.out.below hbq); have HD := Aside0.mk hIB; (try have hmg := Aside0.mk (hmg.out.up hbq)); have hbd2 : w.heap.size + 2 ≤ bd := Nat.le_trans hcs hle; have hcs := Nat.le_trans hcs hbq.size; (try have d0 := HD.out.cell0); (try have d1 := HD.out.cell1); (try have g0 := HD.out.fr 0); (try have g1 := HD.out.fr 1); clear hY hbd hIB hle)
   refine hK.out _ _ ?_ fun hHeld => ?_
   ·(first | exact KP.out _ (bKeep hbq hHeld.2.2.2.2 (by have := HA.out.2; omega)) | (refine KP.out _ ?_; repeat (first | exact hHeld.2.2.2.2 | refine Below.setCell ?_ (by first | (simp; done) | (simp; omega)) _)))
   clear hK K; try simp only [PU]
   refine tc 12 fun K hK => ?_
   go_simp
   (have HLD := Aside0.mk (HO.out.put HD.out hmg.out hbd2))
   refine hK.out _ _ ?_ fun hHeld => ?_
   ·(first | exact KP.out _ (bKeep hbq hHeld.2.2.2.2 (by have := HA.out.2; omega)) | (refine KP.out _ ?_; repeat (first | exact hHeld.2.2.2.2 | refine Below.setCell ?_ (by first | (simp; done) | (simp; omega)) _)))
   clear hK K; try simp only [PU]
   refine wpAnyH_done (by kernel_rfl) ?_ _
   exact ⟨rfl, Ag, kg, bd, by simp only [List.setIfInBounds_toArray, List.set_cons_zero, List.set_cons_succ], HLD.out⟩
  ·go_simp
   (obtain ⟨cur3, bd, hY, hbd, hIB, hbq, hle⟩ := alloc_at _; rw [hY, hbd]; have HO := Aside0.mk (HO.out.below hbq); have HD := Aside0.mk hIB; (try have hmg := Aside0.mk (hmg.out.up hbq)); have hbd2 : w.heap.size + 2 ≤ bd := Nat.le_trans hcs hle; have hcs := Nat.le_trans hcs hbq.size; (try have d0 := HD.out.cell0); (try have d1 := HD.out.cell1); (try have g0 := HD.out.fr 0); (try have g1 := HD.out.fr 1); clear hY hbd hIB hle)
   refine hK.out _ _ ?_ fun hHeld => ?_
   ·(first | exact KP.out _ (bKeep hbq hHeld.2.2.2.2 (by have := HA.out.2; omega)) | (refine KP.out _ ?_; repeat (first | exact hHeld.2.2.2.2 | refine Below.setCell ?_ (by first | (simp; done) | (simp; omega)) _)))
   clear hK K; try simp only [PU]
   refine tc 6 fun K hK => ?_
   go_simp
   (go_at_call 126; (with_reducible refine (HC.out _ HO.out.bl).mono ?_); rintro e cur2 ⟨Ag, kg, rfl, hmg, hbq⟩; have HO := Aside0.mk (HO.out.below hbq); have hmg := Aside0.mk hmg; (try have HD := Aside0.mk (HD.out.below hbq)); (try have d0 := HD.out.cell0); (try have d1 := HD.out.cell1); (try have g0 := HD.out.fr 0); (try have g1 := HD.out.fr 1); have hcs := Nat.le_trans hcs hbq.size)
   refine hK.out _ _ ?_ fun hHeld => ?_
   ·(first | exact KP.out _ (bKeep hbq hHeld.2.2.2.2 (by have := HA.out.2; omega)) | (refine KP.out _ ?_; repeat (first | exact hHeld.2.2.2.2 | refine Below.setCell ?_ (by first | (simp; done) | (simp; omega)) _)))
   clear hK K; try simp only [PU]
   refine tp 10 ?_
   try simp only [PU]
   refine tc 12 fun K hK => ?_
   go_simp
   (have HLD := Aside0.mk (HO.out.put HD.out hmg.out hbd2))
   refine hK.out _ _ ?_ fun hHeld => ?_
   ·(first | exact KP.out _ (bKeep hbq hHeld.2.2.2.2 (by have := HA.out.2; omega)) | (refine KP.out _ ?_; repeat (first | exact hHeld.2.2.2.2 | refine Below.setCell ?_ (by first | (simp; done) | (simp; omega)) _)))
   clear hK K; try simp only [PU]
   refine wpAnyH_done (by kernel_rfl) ?_ _
   exact ⟨rfl, Ag, kg, bd, by simp only [List.setIfInBounds_toArray, List.set_cons_zero, List.set_cons_succ], HLD.out⟩
 intro T V hM
 dsimp only at hM ⊢
 obtain ⟨Ag, kg, bd, hT, hL⟩ := hM
 simp only [List.setIfInBounds_toArray, List.set_cons_zero, List.set_cons_succ] at hT
 subst hT
 have HL := Aside0.mk hL
 clear hL HO HX HA HC
 refine hK _ _ ?_
 clear hK
 have x0 := HL.out.x.cell0
 have x1 := HL.out.x.cell1
 have x2 := HL.out.x.cell2
 have x3 := HL.out.x.cell3
 have d0 := HL.out.d.cell0
 have d1 := HL.out.d.cell1
 go_wp2_with (first
  | (go_at_call 189; (with_reducible refine (HV1.out _ (HL.out.below (by repeat (first | exact Below.refl _ _ | apply below_alloc)))).mono ?_); rintro e wo ⟨A5, k5, A6, k6, rfl, hmq, hmr, hbo⟩; have HL := Aside0.mk ((HL.out.below (by repeat (first | exact Below.refl _ _ | apply below_alloc))).below hbo); have HM5 := Aside0.mk hmq; clear HV1; clear hmq hmr; have x0 := HL.out.x.cell0; have x1 := HL.out.x.cell1; have x2 := HL.out.x.cell2; have x3 := HL.out.x.cell3; have d0 := HL.out.d.cell0; have d1 := HL.out.d.cell1; have o0 := HL.out.o.cell0; have o1 := HL.out.o.cell1; have o2 := HL.out.o.cell2; have o3 := HL.out.o.cell3; have p0 := HL.out.o.fr 0; have p1 := HL.out.o.fr 1; have p2 := HL.out.o.fr 2; have p3 := HL.out.o.fr 3; have hxl := HL.out.x.lt; have hdl := HL.out.d.lt; have hol := HL.out.o.lt)
  | (go_at_call 189; (with_reducible refine (HV2.out _ (HL.out.below (by repeat (first | exact Below.refl _ _ | apply below_alloc)))).mono ?_); rintro e wu ⟨A7, k7, A8, k8, rfl, hmq, hmr, hbo⟩; have HL := Aside0.mk ((HL.out.below (by repeat (first | exact Below.refl _ _ | apply below_alloc))).below hbo); have HM7 := Aside0.mk hmq; (have HP : Aside0 (IB wu wo.heap.size A5 k5 r1 ∧ Mag wu wu.heap.size A5 k5 n1) := ⟨IB.below ((IB.new wo _ _ _).alloc _) hbo, (HM5.out.up (by repeat (first | exact Below.refl _ _ | apply below_alloc))).up hbo⟩); have pp0 := HP.out.1.cell0; have pp1 := HP.out.1.cell1; have ppl := HP.out.1.lt; clear hmq hmr; have x0 := HL.out.x.cell0; have x1 := HL.out.x.cell1; have x2 := HL.out.x.cell2; have x3 := HL.out.x.cell3; have d0 := HL.out.d.cell0; have d1 := HL.out.d.cell1; have o0 := HL.out.o.cell0; have o1 := HL.out.o.cell1; have o2 := HL.out.o.cell2; have o3 := HL.out.o.cell3; have p0 := HL.out.o.fr 0; have p1 := HL.out.o.fr 1; have p2 := HL.out.o.fr 2; have p3 := HL.out.o.fr 3; have hxl := HL.out.x.lt; have hdl := HL.out.d.lt; have hol := HL.out.o.lt))
 obtain ⟨Z, hZ⟩ : ∃ Z, ((((((wu.setCell ⟨w.heap.size + 1, 0, none⟩ (.slice A5 k5 k5)).setCell ⟨w.heap.size + 1, 1, none⟩ (.bool r1)).setCell ⟨w.heap.size + 1, 2, none⟩ (.slice A7 k7 k7)).setCell ⟨w.heap.size + 1, 3, none⟩ (.bool r2)).alloc (.cells #[.slice A7 k7 k7, .bool r2] 111)).alloc (.cells #[.slice A8 k8 k8, .bool r4] 111)) = Z := ⟨_, rfl⟩
 have HZ : Aside0 (FB Z (w.heap.size + 1) A5 k5 r1 A7 k7 r2 ∧ Mag Z Z.heap.size A5 k5 n1 ∧ Mag Z Z.heap.size A7 k7 n2 ∧ Below w.heap.size w Z) := ⟨by
  subst hZ
  have hb : Below w.heap.size w ((((wu.setCell ⟨w.heap.size + 1, 0, none⟩ (.slice A5 k5 k5)).setCell ⟨w.heap.size + 1, 1, none⟩ (.bool r1)).setCell ⟨w.heap.size + 1, 2, none⟩ (.slice A7 k7 k7)).setCell ⟨w.heap.size + 1, 3, none⟩ (.bool r2)) := below_put4 HL.out.bl (by omega) _ _ _ _
  exact ⟨((HL.out.o.put _ _ _ _ _ _).alloc _).alloc _, ((HL.out.o.mag HP.out.2 _ _ _ _).more (by simp)).up (by repeat (first | exact Below.refl _ _ | apply below_alloc)), ((HL.out.o.mag HM7.out _ _ _ _).more (by simp)).up (by repeat (first | exact Below.refl _ _ | apply below_alloc)), hb.trans (((by repeat (first | exact Below.refl _ _ | apply below_alloc)) : Below (((((wu.setCell ⟨w.heap.size + 1, 0, none⟩ (.slice A5 k5 k5)).setCell ⟨w.heap.size + 1, 1, none⟩ (.bool r1)).setCell ⟨w.heap.size + 1, 2, none⟩ (.slice A7 k7 k7)).setCell ⟨w.heap.size + 1, 3, none⟩ (.bool r2))).heap.size ((((wu.setCell ⟨w.heap.size + 1, 0, none⟩ (.slice A5 k5 k5)).setCell ⟨w.heap.size + 1, 1, none⟩ (.bool r1)).setCell ⟨w.heap.size + 1, 2, none⟩ (.slice A7 k7 k7)).setCell ⟨w.heap.size + 1, 3, none⟩ (.bool r2)) _).mono hb.size)⟩⟩
 rw [hZ]
 clear hZ x0 x1 x2 x3 d0 d1 o0 o1 o2 o3 p0 p1 p2 p3 hxl hdl hol pp0 pp1 ppl
 have z0 := HZ.out.1.cell0
 have z1 := HZ.out.1.cell1
 have z2 := HZ.out.1.cell2
 have z3 := HZ.out.1.cell3
 refine bodyPost_ret (v := .agg #[.slice A5 k5 k5, .bool r1, .slice A7 k7 k7, .bool r2]) (by simp [results, Tryz.results136, go_sem, z0, z1, z2, z3]) rfl ⟨A5, k5, A7, k7, rfl, HZ.out.2.1, HZ.out.2.2.1, HZ.out.2.2.2⟩
end
end Go.Proofs.YtnjbinpbkjdjpaaGreatDoor.Nm
