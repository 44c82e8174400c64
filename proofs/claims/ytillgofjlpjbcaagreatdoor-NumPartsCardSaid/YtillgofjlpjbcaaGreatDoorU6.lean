import Derived.Test.YtillgofjlpjbcaaGreatDoorU3
import Derived.Test.YtillgofjlpjbcaaGreatDoorU5
import Derived.Lib.ParseIntB
import Derived.Lib.SmallJoins
/- Own text: contracts and laws on which the card rests (NmZ NmQ NnM NnN NnO NnP). -/
set_option linter.unusedVariables false
set_option linter.unusedSimpArgs false
set_option maxRecDepth 1000000
set_option maxHeartbeats 16000000
namespace Go.Proofs.YtillgofjlpjbcaaGreatDoor.Nm
section
open Go.Proofs.YtillgofjlpjbcaaGreatDoor.Rf Go.Proofs.YtillgofjlpjbcaaGreatDoorW.PrintLast Go.Proofs.YtillgofjlpjbcaaGreatDoorW.PrintMore Go.Proofs.YtillgofjlpjbcaaGreatDoorW.PrintWords Go.RowKit Go.Shelf
/-- What lies in memory before over hands back its two integers. -/
structure OV (w : World) (f g : Bool) (A2 : Option Addr) (L2 n B6 B7 : Nat) (Aq : Option Addr) (kq q : Nat) (Ar : Option Addr) (kr r : Nat) (Z : World) : Prop where
 b6 : Boxed Z B6 87 (.slice Aq kq kq)
 b7 : Boxed Z B7 87 (.slice Ar kr kr)
 m6 : Mag Z Z.heap.size Aq kq q
 m7 : Mag Z Z.heap.size Ar kr r
 xf : Z.cell? ⟨w.heap.size, 1, none⟩ = some (.bool f)
 yg : Z.cell? ⟨w.heap.size + 1, 1, none⟩ = some (.bool g)
 ym : Z.cell? ⟨w.heap.size + 1, 0, none⟩ = some (.slice A2 L2 L2)
 my : Mag Z Z.heap.size A2 L2 n
 o2 : Out Z (w.heap.size + 1 + 1)
 o3 : Out Z (w.heap.size + 1 + 1 + 1)
 n6 : w.heap.size + 4 ≤ B6
 n7 : w.heap.size + 4 ≤ B7
 n67 : B6 ≠ B7
 bl : Below w.heap.size w Z
theorem OV.below {w : World} {f g : Bool} {A2 : Option Addr} {L2 n B6 B7 : Nat} {Aq : Option Addr} {kq q : Nat} {Ar : Option Addr} {kr r : Nat} {Z Y : World} (h : OV w f g A2 L2 n B6 B7 Aq kq q Ar kr r Z) (hb : Below Z.heap.size Z Y) : OV w f g A2 L2 n B6 B7 Aq kq q Ar kr r Y :=
 ⟨boxed_below h.b6 hb, boxed_below h.b7 hb, h.m6.up hb, h.m7.up hb, keepAt hb h.xf, keepAt hb h.yg, keepAt hb h.ym, h.my.up hb, h.o2.keep hb, h.o3.keep hb, h.n6, h.n7, h.n67, h.bl.trans (hb.mono h.bl.size)⟩
theorem Out.other {W : World} {b : Nat} (h : Out W b) {c : Nat} (hne : c ≠ b) (u : Value) : Out (W.setCell ⟨c, 0, none⟩ u) b :=
 ⟨(World.cell?_setCell_other _ _ _ _ (fun e => hne (by first | exact congrArg Addr.block e | exact (congrArg Addr.block e).symm))).trans h.1, (World.cell?_setCell_other _ _ _ _ (fun e => hne (by first | exact congrArg Addr.block e | exact (congrArg Addr.block e).symm))).trans h.2.1, by rw [World.frozen?_setCell]; exact h.2.2.1, by rw [World.frozen?_setCell]; exact h.2.2.2⟩
theorem cell_other {W : World} {b o : Nat} {v : Value} (h : W.cell? ⟨b, o, none⟩ = some v) {c : Nat} (hne : c ≠ b) (u : Value) : (W.setCell ⟨c, 0, none⟩ u).cell? ⟨b, o, none⟩ = some v :=
 (World.cell?_setCell_other _ _ _ _ (fun e => hne (by first | exact congrArg Addr.block e | exact (congrArg Addr.block e).symm))).trans h
theorem OV.set6 {w : World} {f g : Bool} {A2 : Option Addr} {L2 n B6 B7 : Nat} {Aq : Option Addr} {kq q : Nat} {Ar : Option Addr} {kr r : Nat} {Z : World} (h : OV w f g A2 L2 n B6 B7 Aq kq q Ar kr r Z) {Aq' : Option Addr} {kq' q' : Nat} (hm : Mag Z Z.heap.size Aq' kq' q') :
 OV w f g A2 L2 n B6 B7 Aq' kq' q' Ar kr r (Z.setCell ⟨B6, 0, none⟩ (.slice Aq' kq' kq')) := by
 have n6 := h.n6
 exact ⟨h.b6.set _, h.b7.other h.n67.symm _, hm.upS h.b6 (fun d => by simp) _ _, h.m7.upS h.b6 (fun d => by simp) _ _, cell_other h.xf (by omega) _, cell_other h.yg (by omega) _, cell_other h.ym (by omega) _, h.my.upS h.b6 (fun d => by simp) _ _, h.o2.other (by omega) _, h.o3.other (by omega) _, h.n6, h.n7, h.n67, h.bl.setCell (p := ⟨B6, 0, none⟩) (show w.heap.size ≤ B6 by omega) _⟩
theorem OV.set7 {w : World} {f g : Bool} {A2 : Option Addr} {L2 n B6 B7 : Nat} {Aq : Option Addr} {kq q : Nat} {Ar : Option Addr} {kr r : Nat} {Z : World} (h : OV w f g A2 L2 n B6 B7 Aq kq q Ar kr r Z) {Ar' : Option Addr} {kr' r' : Nat} (hm : Mag Z Z.heap.size Ar' kr' r') :
 OV w f g A2 L2 n B6 B7 Aq kq q Ar' kr' r' (Z.setCell ⟨B7, 0, none⟩ (.slice Ar' kr' kr')) := by
 have n7 := h.n7
 exact ⟨h.b6.other h.n67 _, h.b7.set _, h.m6.upS h.b7 (fun d => by simp) _ _, hm.upS h.b7 (fun d => by simp) _ _, cell_other h.xf (by omega) _, cell_other h.yg (by omega) _, cell_other h.ym (by omega) _, h.my.upS h.b7 (fun d => by simp) _ _, h.o2.other (by omega) _, h.o3.other (by omega) _, h.n6, h.n7, h.n67, h.bl.setCell (p := ⟨B7, 0, none⟩) (show w.heap.size ≤ B7 by omega) _⟩
theorem small_one (w : World) : Calls Tryz.prog 94 #[.int .u32 1] w fun e w' => ∃ A k, e = .returned (.agg #[.slice A k k, .bool false]) ∧ Mag w' w'.heap.size A k 1 ∧ Below w.heap.size w w' := small_calls (d := 1) BB1 w
theorem opaqueZ {p : World → Prop} {X : World} (h : Aside0 (p X)) : ∃ Y, X = Y ∧ Aside0 (p Y) := ⟨X, rfl, h⟩
theorem OV_start {w wd : World} {f g : Bool} {A2 A5 A6 : Option Addr} {L2 n k5 k6 q r : Nat} (hb0 : Below w.heap.size w wd) (h4 : w.heap.size + 4 ≤ wd.heap.size) (d0 : wd.cell? ⟨w.heap.size, 1, none⟩ = some (.bool f)) (d1 : wd.cell? ⟨w.heap.size + 1, 1, none⟩ = some (.bool g)) (d2 : wd.cell? ⟨w.heap.size + 1, 0, none⟩ = some (.slice A2 L2 L2))
 (hm : ∀ wx, Below w.heap.size w wx → Mag wx wx.heap.size A2 L2 n) (o2 : Out wd (w.heap.size + 1 + 1)) (o3 : Out wd (w.heap.size + 1 + 1 + 1)) (h5 : Mag wd wd.heap.size A5 k5 q) (h6 : Mag wd wd.heap.size A6 k6 r) :
 OV w f g A2 L2 n wd.heap.size (wd.heap.size + 1) A5 k5 q A6 k6 r ((wd.alloc (.cells #[.slice A5 k5 k5] 87)).alloc (.cells #[.slice A6 k6 k6] 87)) := by
 have hb : Below wd.heap.size wd ((wd.alloc (.cells #[.slice A5 k5 k5] 87)).alloc (.cells #[.slice A6 k6 k6] 87)) := by repeat (first | exact Below.refl _ _ | apply below_alloc)
 have hbw : Below w.heap.size w ((wd.alloc (.cells #[.slice A5 k5 k5] 87)).alloc (.cells #[.slice A6 k6 k6] 87)) := hb0.trans (hb.mono (by omega))
 exact ⟨(boxed_at wd _ _ _ rfl).alloc _, boxed_at (wd.alloc _) _ _ _ (by simp), h5.up hb, h6.up hb, keepAt hb d0, keepAt hb d1, keepAt hb d2, hm _ hbw, o2.keep hb, o3.keep hb, by omega, by omega, by omega, hbw⟩
theorem Out.mag2 {W : World} {b : Nat} {A : Option Addr} {L n : Nat} (h : Out W b) (hm : Mag W W.heap.size A L n) (u u' : Value) : Mag ((W.setCell ⟨b, 0, none⟩ u).setCell ⟨b, 1, none⟩ u') ((W.setCell ⟨b, 0, none⟩ u).setCell ⟨b, 1, none⟩ u').heap.size A L n := (h.mag hm u u').more (by simp)
theorem over_calls {w : World} {B : Nat} {A1 A2 : Option Addr} {L1 L2 : Nat} {x y : Int} (h1 : Mag w B A1 L1 x.natAbs) (h2 : Mag w B A2 L2 y.natAbs) (hB : B ≤ w.heap.size) (hy : y ≠ 0) (hs1 : L1 ≤ 40000) (hs2 : L2 ≤ 40000) :
 Calls Tryz.prog 90 #[iV A1 L1 x, iV A2 L2 y] w fun e w' => ∃ A k A' k', e = .returned (.tuple #[iV A k (x / y), iV A' k' (x % y)]) ∧ Mag w' w'.heap.size A k (x / y).natAbs ∧ Mag w' w'.heap.size A' k' (x % y).natAbs ∧ Below w.heap.size w w' := by
 unfold iV
 obtain ⟨m, hm⟩ : ∃ m, x.natAbs = m := ⟨_, rfl⟩
 obtain ⟨n, hn⟩ : ∃ n, y.natAbs = n := ⟨_, rfl⟩
 have hlaw := over_law hy hm hn
 rw [hm] at h1
 rw [hn] at h2
 have H1 : Aside0 (Mag w B A1 L1 m) := ⟨h1⟩
 have H2 : Aside0 (Mag w B A2 L2 n) := ⟨h2⟩
 have hn0 : 0 < n := by omega
 clear h1 h2
 have hrn : decide (x % y < 0) = false := decide_eq_false (by have := hlaw.2.2; omega)
 rw [hrn]
 obtain ⟨f, hf⟩ : ∃ f, decide (x < 0) = f := ⟨_, rfl⟩
 obtain ⟨g, hg⟩ : ∃ g, decide (y < 0) = g := ⟨_, rfl⟩
 obtain ⟨r, hr⟩ : ∃ r, decide (x / y < 0) = r := ⟨_, rfl⟩
 rw [hf, hg, hr] at hlaw
 have HL := Aside0.mk hlaw
 have HF : Aside0 (f = true ↔ x < 0) := ⟨by rw [← hf]; simp⟩
 rw [hf, hg, hr]
 clear hlaw hf hg hr hrn
 by_cases hc : ¬ x < 0 ∨ m % n = 0
 ·obtain ⟨l1, l2, l3⟩ := HL.out.1 hc
  have HLL : Aside0 ((!(f == g) && decide (m / n ≠ 0)) = r ∧ (x / y).natAbs = m / n ∧ (x % y).natAbs = m % n) := ⟨l1, l2, l3⟩
  clear l1 l2 l3
  cases f
  ·go_enter Tryz.func90, Tryz.ntmps90
   go_wp2_with (go_at_call 151; (with_reducible refine (div_calls ((H1.out.keep hB (by repeat (first | exact Below.refl _ _ | apply below_alloc)))) (H2.out.keep hB (by repeat (first | exact Below.refl _ _ | apply below_alloc))) (by simp; omega) hn0 hs1 hs2).mono ?_); rintro e wd ⟨A5, k5, A6, k6, rfl, hm5, hm6, hbd⟩; obtain ⟨f0, f1⟩ := bcell hbd; have d0 : wd.cell? ⟨w.heap.size, 1, none⟩ = some (.bool false) := (f0 _ _ (by first | (simp; done) | (simp; omega))).trans (by simp [go_sem]); have d1 : wd.cell? ⟨w.heap.size + 1, 1, none⟩ = some (.bool g) := (f0 _ _ (by first | (simp; done) | (simp; omega))).trans (by simp [go_sem]); have d2 : wd.cell? ⟨w.heap.size + 1, 0, none⟩ = some (.slice A2 L2 L2) := (f0 _ _ (by first | (simp; done) | (simp; omega))).trans (by simp [go_sem]); have HOO : Aside0 (Out wd (w.heap.size + 1 + 1) ∧ Out wd (w.heap.size + 1 + 1 + 1)) := ⟨⟨(f0 _ _ (by first | (simp; done) | (simp; omega))).trans (by simp [go_sem]), (f0 _ _ (by first | (simp; done) | (simp; omega))).trans (by simp [go_sem]), (f1 _ _ (by first | (simp; done) | (simp; omega))).trans (by simp [go_sem]), (f1 _ _ (by first | (simp; done) | (simp; omega))).trans (by simp [go_sem])⟩, ⟨(f0 _ _ (by first | (simp; done) | (simp; omega))).trans (by simp [go_sem]), (f0 _ _ (by first | (simp; done) | (simp; omega))).trans (by simp [go_sem]), (f1 _ _ (by first | (simp; done) | (simp; omega))).trans (by simp [go_sem]), (f1 _ _ (by first | (simp; done) | (simp; omega))).trans (by simp [go_sem])⟩⟩; have hlt0 : w.heap.size < wd.heap.size := (by have := hbd.size; simp at this; omega); have HBD : Aside0 (Below w.heap.size w wd ∧ w.heap.size + 4 ≤ wd.heap.size) := ⟨below_step (by repeat (first | exact Below.refl _ _ | apply below_alloc)) hbd, by have := hbd.size; simp at this; omega⟩; have HM5 := Aside0.mk hm5; have HM6 := Aside0.mk hm6; clear f0 f1 hbd hm5 hm6)
   rename_i Q' K hK
   have HZ : Aside0 (OV w false g A2 L2 n wd.heap.size (wd.heap.size + 1) A5 k5 (m / n) A6 k6 (m % n) ((wd.alloc (.cells #[.slice A5 k5 k5] 87)).alloc (.cells #[.slice A6 k6 k6] 87))) := ⟨(by
    have hb : Below wd.heap.size wd ((wd.alloc (.cells #[.slice A5 k5 k5] 87)).alloc (.cells #[.slice A6 k6 k6] 87)) := by repeat (first | exact Below.refl _ _ | apply below_alloc)
    have h4 := HBD.out.2
    have hbw : Below w.heap.size w ((wd.alloc (.cells #[.slice A5 k5 k5] 87)).alloc (.cells #[.slice A6 k6 k6] 87)) := HBD.out.1.trans (hb.mono (by omega))
    exact ⟨(boxed_at wd _ _ _ rfl).alloc _, boxed_at (wd.alloc _) _ _ _ (by simp), HM5.out.up hb, HM6.out.up hb, keepAt hb d0, keepAt hb d1, keepAt hb d2, (H2.out.keep hB hbw).more (Nat.le_trans hB hbw.size), HOO.out.1.keep hb, HOO.out.2.keep hb, by omega, by omega, by omega, hbw⟩)⟩
   obtain ⟨Z, hZ⟩ : ∃ Z, ((wd.alloc (.cells #[.slice A5 k5 k5] 87)).alloc (.cells #[.slice A6 k6 k6] 87)) = Z := ⟨_, rfl⟩
   obtain ⟨B6, hB6⟩ : ∃ B6, wd.heap.size = B6 := ⟨_, rfl⟩
   obtain ⟨B7, hB7⟩ : ∃ B7, B6 + 1 = B7 := ⟨_, rfl⟩
   rw [hZ, hB6, hB7] at HZ
   rw [hZ, hB6, hB7]
   clear hZ d0 d1 d2 HOO hlt0 HM5 HM6 HBD hB6 hB7
   have HSG : Aside0 ((g && decide (m / n ≠ 0)) = r) := ⟨by have h := HLL.out.1; rw [show (!(false == g)) = g by cases g <;> rfl] at h; exact h⟩
   have c6 := HZ.out.b6.cell
   have c7 := HZ.out.b7.cell
   have cf := HZ.out.xf
   have cg := HZ.out.yg
   refine wp_region_held_drew (S := (fun V => V.cell? ⟨B6, 0, none⟩ = some (.slice A5 k5 k5) ∧ V.cell? ⟨B7, 0, none⟩ = some (.slice A6 k6 k6) ∧ V.cell? ⟨w.heap.size, 1, none⟩ = some (.bool false) ∧ V.cell? ⟨w.heap.size + 1, 1, none⟩ = some (.bool g))) (by kernel_rfl) ?_ (fun hHeld => ?_)
   ·exact ⟨c6, c7, cf, cg⟩
   obtain ⟨Wd, hWd⟩ : ∃ Wd, Z.drew = Wd := ⟨_, rfl⟩
   rw [hWd] at hHeld ⊢
   have HBV : Aside0 (Below Z.heap.size Z Wd) := ⟨by subst hWd; exact below_drew1 (Below.refl _ _)⟩
   clear hWd
   refine tp 0 ?_
   try simp only [PU]
   refine tp 1 ?_
   try simp only [PU]
   refine tp 2 ?_
   try simp only [PU]
   refine tp 3 ?_
   try simp only [PU]
   refine tp 4 ?_
   try simp only [PU]
   refine tp 5 ?_
   try simp only [PU]
   refine tp 7 ?_
   try simp only [PU]
   refine tc 6 fun K hK => ?_
   go_simp
   (go_at_call 139; (with_reducible refine (signed_any (HZ.out.below HBV.out).m6 (Nat.le_refl _) HSG.out).mono ?_); rintro e wq ⟨rfl, hmq, hbq⟩; have hma := Aside0.mk (hmq.more hbq.size); have HBV := Aside0.mk (bJoin hbq HBV.out))
   refine hK.out _ _ ?_ fun hHeld => ?_
   ·(first | exact ⟨keepAt HBV.out c6, keepAt HBV.out c7, keepAt HBV.out cf, keepAt HBV.out cg⟩ | exact ⟨(World.cell?_setCell_other _ _ _ _ (by first | (simp; done) | (have := HZ.out.n6; simp; omega))).trans ((World.cell?_setCell_other _ _ _ _ (by first | (simp; done) | (have := HZ.out.n6; simp; omega))).trans hHeld.1), (World.cell?_setCell_other _ _ _ _ (by first | (simp; done) | (have := HZ.out.n7; simp; omega))).trans ((World.cell?_setCell_other _ _ _ _ (by first | (simp; done) | (have := HZ.out.n7; simp; omega))).trans hHeld.2.1), (World.cell?_setCell_other _ _ _ _ (by simp)).trans ((World.cell?_setCell_other _ _ _ _ (by simp)).trans hHeld.2.2.1), (World.cell?_setCell_other _ _ _ _ (by simp)).trans ((World.cell?_setCell_other _ _ _ _ (by simp)).trans hHeld.2.2.2)⟩)
   clear hK K; try simp only [PU]
   refine tc 8 fun K hK => ?_
   go_simp
   (go_at_call 139; (with_reducible refine (signed_any (r := false) (HZ.out.below HBV.out).m7 (Nat.le_refl _) rfl).mono ?_); rintro e wr ⟨rfl, hmr, hbq⟩; have hmb := Aside0.mk (hmr.more hbq.size); have hma := Aside0.mk (hma.out.up hbq); have HBV := Aside0.mk (bJoin hbq HBV.out); have HOT := Aside0.mk (And.intro (HZ.out.below HBV.out).o2 (HZ.out.below HBV.out).o3); obtain ⟨p1, p2, p3, p4⟩ := HOT.out.1; obtain ⟨q1, q2, q3, q4⟩ := HOT.out.2)
   refine hK.out _ _ ?_ fun hHeld => ?_
   ·(first | exact ⟨keepAt HBV.out c6, keepAt HBV.out c7, keepAt HBV.out cf, keepAt HBV.out cg⟩ | exact ⟨(World.cell?_setCell_other _ _ _ _ (by first | (simp; done) | (have := HZ.out.n6; simp; omega))).trans ((World.cell?_setCell_other _ _ _ _ (by first | (simp; done) | (have := HZ.out.n6; simp; omega))).trans hHeld.1), (World.cell?_setCell_other _ _ _ _ (by first | (simp; done) | (have := HZ.out.n7; simp; omega))).trans ((World.cell?_setCell_other _ _ _ _ (by first | (simp; done) | (have := HZ.out.n7; simp; omega))).trans hHeld.2.1), (World.cell?_setCell_other _ _ _ _ (by simp)).trans ((World.cell?_setCell_other _ _ _ _ (by simp)).trans hHeld.2.2.1), (World.cell?_setCell_other _ _ _ _ (by simp)).trans ((World.cell?_setCell_other _ _ _ _ (by simp)).trans hHeld.2.2.2)⟩)
   clear hK K; try simp only [PU]
   refine tc 9 fun K hK => ?_
   go_simp
   refine hK.out _ _ ?_ fun hHeld => ?_
   ·(first | exact ⟨keepAt HBV.out c6, keepAt HBV.out c7, keepAt HBV.out cf, keepAt HBV.out cg⟩ | exact ⟨(World.cell?_setCell_other _ _ _ _ (by first | (simp; done) | (have := HZ.out.n6; simp; omega))).trans ((World.cell?_setCell_other _ _ _ _ (by first | (simp; done) | (have := HZ.out.n6; simp; omega))).trans hHeld.1), (World.cell?_setCell_other _ _ _ _ (by first | (simp; done) | (have := HZ.out.n7; simp; omega))).trans ((World.cell?_setCell_other _ _ _ _ (by first | (simp; done) | (have := HZ.out.n7; simp; omega))).trans hHeld.2.1), (World.cell?_setCell_other _ _ _ _ (by simp)).trans ((World.cell?_setCell_other _ _ _ _ (by simp)).trans hHeld.2.2.1), (World.cell?_setCell_other _ _ _ _ (by simp)).trans ((World.cell?_setCell_other _ _ _ _ (by simp)).trans hHeld.2.2.2)⟩)
   clear hK K; try simp only [PU]
   refine tc 10 fun K hK => ?_
   go_simp
   refine hK.out _ _ ?_ fun hHeld => ?_
   ·(first | exact ⟨keepAt HBV.out c6, keepAt HBV.out c7, keepAt HBV.out cf, keepAt HBV.out cg⟩ | exact ⟨(World.cell?_setCell_other _ _ _ _ (by first | (simp; done) | (have := HZ.out.n6; simp; omega))).trans ((World.cell?_setCell_other _ _ _ _ (by first | (simp; done) | (have := HZ.out.n6; simp; omega))).trans hHeld.1), (World.cell?_setCell_other _ _ _ _ (by first | (simp; done) | (have := HZ.out.n7; simp; omega))).trans ((World.cell?_setCell_other _ _ _ _ (by first | (simp; done) | (have := HZ.out.n7; simp; omega))).trans hHeld.2.1), (World.cell?_setCell_other _ _ _ _ (by simp)).trans ((World.cell?_setCell_other _ _ _ _ (by simp)).trans hHeld.2.2.1), (World.cell?_setCell_other _ _ _ _ (by simp)).trans ((World.cell?_setCell_other _ _ _ _ (by simp)).trans hHeld.2.2.2)⟩)
   clear hK K; try simp only [PU]
   refine wpAnyH_done (by kernel_rfl) ?_ _
   refine hK _ _ ?_
   go_wp2
   have ho3 : Out ((wr.setCell ⟨w.heap.size + 1 + 1, 0, none⟩ (.slice A5 k5 k5)).setCell ⟨w.heap.size + 1 + 1, 1, none⟩ (.bool r)) (w.heap.size + 1 + 1 + 1) := ⟨(World.cell?_setCell_other _ _ _ _ (by simp)).trans ((World.cell?_setCell_other _ _ _ _ (by simp)).trans q1), (World.cell?_setCell_other _ _ _ _ (by simp)).trans ((World.cell?_setCell_other _ _ _ _ (by simp)).trans q2), by rw [World.frozen?_setCell, World.frozen?_setCell]; exact q3, by rw [World.frozen?_setCell, World.frozen?_setCell]; exact q4⟩
   refine bodyPost_ret (v := .tuple #[.agg #[.slice A5 k5 k5, .bool r], .agg #[.slice A6 k6 k6, .bool false]]) (by simp [results, Tryz.results90, go_sem, p1, p2, q1, q2]) rfl ⟨A5, k5, A6, k6, rfl, ?_, ?_, ?_⟩
   ·rw [HLL.out.2.1]; exact ho3.mag2 (HOT.out.1.mag2 hma.out _ _) _ _
   ·rw [HLL.out.2.2]; exact ho3.mag2 (HOT.out.1.mag2 hmb.out _ _) _ _
   ·exact (((((HZ.out.bl.trans (HBV.out.mono HZ.out.bl.size)).setCell (by simp; omega) _).setCell (by simp; omega) _).setCell (by simp; omega) _).setCell (by simp; omega) _)
  ·have HZR : Aside0 (decide (m % n = 0) = true) := ⟨decide_eq_true (hc.elim (fun h => absurd (HF.out.1 rfl) h) id)⟩
   go_enter Tryz.func90, Tryz.ntmps90
   go_wp2_with (first | (go_at_call 151; (with_reducible refine (div_calls ((H1.out.keep hB (by repeat (first | exact Below.refl _ _ | apply below_alloc)))) (H2.out.keep hB (by repeat (first | exact Below.refl _ _ | apply below_alloc))) (by simp; omega) hn0 hs1 hs2).mono ?_); rintro e wd ⟨A5, k5, A6, k6, rfl, hm5, hm6, hbd⟩; obtain ⟨f0, f1⟩ := bcell hbd; have d0 : wd.cell? ⟨w.heap.size, 1, none⟩ = some (.bool true) := (f0 _ _ (by first | (simp; done) | (simp; omega))).trans (by simp [go_sem]); have d1 : wd.cell? ⟨w.heap.size + 1, 1, none⟩ = some (.bool g) := (f0 _ _ (by first | (simp; done) | (simp; omega))).trans (by simp [go_sem]); have d2 : wd.cell? ⟨w.heap.size + 1, 0, none⟩ = some (.slice A2 L2 L2) := (f0 _ _ (by first | (simp; done) | (simp; omega))).trans (by simp [go_sem]); have HOO : Aside0 (Out wd (w.heap.size + 1 + 1) ∧ Out wd (w.heap.size + 1 + 1 + 1)) := ⟨⟨(f0 _ _ (by first | (simp; done) | (simp; omega))).trans (by simp [go_sem]), (f0 _ _ (by first | (simp; done) | (simp; omega))).trans (by simp [go_sem]), (f1 _ _ (by first | (simp; done) | (simp; omega))).trans (by simp [go_sem]), (f1 _ _ (by first | (simp; done) | (simp; omega))).trans (by simp [go_sem])⟩, ⟨(f0 _ _ (by first | (simp; done) | (simp; omega))).trans (by simp [go_sem]), (f0 _ _ (by first | (simp; done) | (simp; omega))).trans (by simp [go_sem]), (f1 _ _ (by first | (simp; done) | (simp; omega))).trans (by simp [go_sem]), (f1 _ _ (by first | (simp; done) | (simp; omega))).trans (by simp [go_sem])⟩⟩; have hlt0 : w.heap.size < wd.heap.size := (by have := hbd.size; simp at this; omega); have HBD : Aside0 (Below w.heap.size w wd ∧ w.heap.size + 4 ≤ wd.heap.size) := ⟨below_step (by repeat (first | exact Below.refl _ _ | apply below_alloc)) hbd, by have := hbd.size; simp at this; omega⟩; have HM5 := Aside0.mk hm5; have HM6 := Aside0.mk hm6; clear f0 f1 hbd hm5 hm6) | (go_at_call 89; (with_reducible refine (isZero_any HM6.out (Nat.le_refl _) (by repeat (first | exact Below.refl _ _ | apply below_alloc)) HZR.out).mono ?_); rintro e wz ⟨rfl, hbz⟩; have HZ := Aside0.mk ((OV_start HBD.out.1 HBD.out.2 d0 d1 d2 (fun wx hx => (H2.out.keep hB hx).more (Nat.le_trans hB hx.size)) HOO.out.1 HOO.out.2 HM5.out HM6.out).below hbz); clear hbz))
   rename_i Q' K hK
   obtain ⟨B6, hB6⟩ : ∃ B6, wd.heap.size = B6 := ⟨_, rfl⟩
   obtain ⟨B7, hB7⟩ : ∃ B7, B6 + 1 = B7 := ⟨_, rfl⟩
   rw [hB6, hB7] at HZ
   rw [hB6, hB7]
   clear d0 d1 d2 HOO hlt0 HM5 HM6 HBD hB6 hB7
   have HSG : Aside0 (((!g) && decide (m / n ≠ 0)) = r) := ⟨by have h := HLL.out.1; rw [show (!(true == g)) = !g by cases g <;> rfl] at h; exact h⟩
   have c6 := HZ.out.b6.cell
   have c7 := HZ.out.b7.cell
   have cf := HZ.out.xf
   have cg := HZ.out.yg
   refine wp_region_held_drew (S := (fun V => V.cell? ⟨B6, 0, none⟩ = some (.slice A5 k5 k5) ∧ V.cell? ⟨B7, 0, none⟩ = some (.slice A6 k6 k6) ∧ V.cell? ⟨w.heap.size, 1, none⟩ = some (.bool true) ∧ V.cell? ⟨w.heap.size + 1, 1, none⟩ = some (.bool g))) (by kernel_rfl) ?_ (fun hHeld => ?_)
   ·exact ⟨c6, c7, cf, cg⟩
   obtain ⟨Wd, hWd⟩ : ∃ Wd, wz.drew = Wd := ⟨_, rfl⟩
   rw [hWd] at hHeld ⊢
   have HBV : Aside0 (Below wz.heap.size wz Wd) := ⟨by subst hWd; exact below_drew1 (Below.refl _ _)⟩
   clear hWd
   refine tp 0 ?_
   try simp only [PU]
   refine tp 1 ?_
   try simp only [PU]
   refine tp 2 ?_
   try simp only [PU]
   refine tp 3 ?_
   try simp only [PU]
   refine tp 4 ?_
   try simp only [PU]
   refine tp 5 ?_
   try simp only [PU]
   refine tp 7 ?_
   try simp only [PU]
   refine tc 6 fun K hK => ?_
   go_simp
   (go_at_call 139; (with_reducible refine (signed_any (HZ.out.below HBV.out).m6 (Nat.le_refl _) HSG.out).mono ?_); rintro e wq ⟨rfl, hmq, hbq⟩; have hma := Aside0.mk (hmq.more hbq.size); have HBV := Aside0.mk (bJoin hbq HBV.out))
   refine hK.out _ _ ?_ fun hHeld => ?_
   ·(first | exact ⟨keepAt HBV.out c6, keepAt HBV.out c7, keepAt HBV.out cf, keepAt HBV.out cg⟩ | exact ⟨(World.cell?_setCell_other _ _ _ _ (by first | (simp; done) | (have := HZ.out.n6; simp; omega))).trans ((World.cell?_setCell_other _ _ _ _ (by first | (simp; done) | (have := HZ.out.n6; simp; omega))).trans hHeld.1), (World.cell?_setCell_other _ _ _ _ (by first | (simp; done) | (have := HZ.out.n7; simp; omega))).trans ((World.cell?_setCell_other _ _ _ _ (by first | (simp; done) | (have := HZ.out.n7; simp; omega))).trans hHeld.2.1), (World.cell?_setCell_other _ _ _ _ (by simp)).trans ((World.cell?_setCell_other _ _ _ _ (by simp)).trans hHeld.2.2.1), (World.cell?_setCell_other _ _ _ _ (by simp)).trans ((World.cell?_setCell_other _ _ _ _ (by simp)).trans hHeld.2.2.2)⟩)
   clear hK K; try simp only [PU]
   refine tc 8 fun K hK => ?_
   go_simp
   (go_at_call 139; (with_reducible refine (signed_any (r := false) (HZ.out.below HBV.out).m7 (Nat.le_refl _) rfl).mono ?_); rintro e wr ⟨rfl, hmr, hbq⟩; have hmb := Aside0.mk (hmr.more hbq.size); have hma := Aside0.mk (hma.out.up hbq); have HBV := Aside0.mk (bJoin hbq HBV.out); have HOT := Aside0.mk (And.intro (HZ.out.below HBV.out).o2 (HZ.out.below HBV.out).o3); obtain ⟨p1, p2, p3, p4⟩ := HOT.out.1; obtain ⟨q1, q2, q3, q4⟩ := HOT.out.2)
   refine hK.out _ _ ?_ fun hHeld => ?_
   ·(first | exact ⟨keepAt HBV.out c6, keepAt HBV.out c7, keepAt HBV.out cf, keepAt HBV.out cg⟩ | exact ⟨(World.cell?_setCell_other _ _ _ _ (by first | (simp; done) | (have := HZ.out.n6; simp; omega))).trans ((World.cell?_setCell_other _ _ _ _ (by first | (simp; done) | (have := HZ.out.n6; simp; omega))).trans hHeld.1), (World.cell?_setCell_other _ _ _ _ (by first | (simp; done) | (have := HZ.out.n7; simp; omega))).trans ((World.cell?_setCell_other _ _ _ _ (by first | (simp; done) | (have := HZ.out.n7; simp; omega))).trans hHeld.2.1), (World.cell?_setCell_other _ _ _ _ (by simp)).trans ((World.cell?_setCell_other _ _ _ _ (by simp)).trans hHeld.2.2.1), (World.cell?_setCell_other _ _ _ _ (by simp)).trans ((World.cell?_setCell_other _ _ _ _ (by simp)).trans hHeld.2.2.2)⟩)
   clear hK K; try simp only [PU]
   refine tc 9 fun K hK => ?_
   go_simp
   refine hK.out _ _ ?_ fun hHeld => ?_
   ·(first | exact ⟨keepAt HBV.out c6, keepAt HBV.out c7, keepAt HBV.out cf, keepAt HBV.out cg⟩ | exact ⟨(World.cell?_setCell_other _ _ _ _ (by first | (simp; done) | (have := HZ.out.n6; simp; omega))).trans ((World.cell?_setCell_other _ _ _ _ (by first | (simp; done) | (have := HZ.out.n6; simp; omega))).trans hHeld.1), (World.cell?_setCell_other _ _ _ _ (by first | (simp; done) | (have := HZ.out.n7; simp; omega))).trans ((World.cell?_setCell_other _ _ _ _ (by first | (simp; done) | (have := HZ.out.n7; simp; omega))).trans hHeld.2.1), (World.cell?_setCell_other _ _ _ _ (by simp)).trans ((World.cell?_setCell_other _ _ _ _ (by simp)).trans hHeld.2.2.1), (World.cell?_setCell_other _ _ _ _ (by simp)).trans ((World.cell?_setCell_other _ _ _ _ (by simp)).trans hHeld.2.2.2)⟩)
   clear hK K; try simp only [PU]
   refine tc 10 fun K hK => ?_
   go_simp
   refine hK.out _ _ ?_ fun hHeld => ?_
   ·(first | exact ⟨keepAt HBV.out c6, keepAt HBV.out c7, keepAt HBV.out cf, keepAt HBV.out cg⟩ | exact ⟨(World.cell?_setCell_other _ _ _ _ (by first | (simp; done) | (have := HZ.out.n6; simp; omega))).trans ((World.cell?_setCell_other _ _ _ _ (by first | (simp; done) | (have := HZ.out.n6; simp; omega))).trans hHeld.1), (World.cell?_setCell_other _ _ _ _ (by first | (simp; done) | (have := HZ.out.n7; simp; omega))).trans ((World.cell?_setCell_other _ _ _ _ (by first | (simp; done) | (have := HZ.out.n7; simp; omega))).trans hHeld.2.1), (World.cell?_setCell_other _ _ _ _ (by simp)).trans ((World.cell?_setCell_other _ _ _ _ (by simp)).trans hHeld.2.2.1), (World.cell?_setCell_other _ _ _ _ (by simp)).trans ((World.cell?_setCell_other _ _ _ _ (by simp)).trans hHeld.2.2.2)⟩)
   clear hK K; try simp only [PU]
   refine wpAnyH_done (by kernel_rfl) ?_ _
   refine hK _ _ ?_
   go_wp2
   have ho3 : Out ((wr.setCell ⟨w.heap.size + 1 + 1, 0, none⟩ (.slice A5 k5 k5)).setCell ⟨w.heap.size + 1 + 1, 1, none⟩ (.bool r)) (w.heap.size + 1 + 1 + 1) := ⟨(World.cell?_setCell_other _ _ _ _ (by simp)).trans ((World.cell?_setCell_other _ _ _ _ (by simp)).trans q1), (World.cell?_setCell_other _ _ _ _ (by simp)).trans ((World.cell?_setCell_other _ _ _ _ (by simp)).trans q2), by rw [World.frozen?_setCell, World.frozen?_setCell]; exact q3, by rw [World.frozen?_setCell, World.frozen?_setCell]; exact q4⟩
   refine bodyPost_ret (v := .tuple #[.agg #[.slice A5 k5 k5, .bool r], .agg #[.slice A6 k6 k6, .bool false]]) (by simp [results, Tryz.results90, go_sem, p1, p2, q1, q2]) rfl ⟨A5, k5, A6, k6, rfl, ?_, ?_, ?_⟩
   ·rw [HLL.out.2.1]; exact ho3.mag2 (HOT.out.1.mag2 hma.out _ _) _ _
   ·rw [HLL.out.2.2]; exact ho3.mag2 (HOT.out.1.mag2 hmb.out _ _) _ _
   ·exact (((((HZ.out.bl.trans (HBV.out.mono HZ.out.bl.size)).setCell (by simp; omega) _).setCell (by simp; omega) _).setCell (by simp; omega) _).setCell (by simp; omega) _)
 ·have hx : x < 0 := Classical.not_not.1 (fun h => hc (.inl h))
  have hr0 : m % n ≠ 0 := fun h => hc (.inr h)
  obtain ⟨l1, l2, l3⟩ := HL.out.2.1 ⟨hx, hr0⟩
  have HLL : Aside0 ((!(f == g) && decide (m / n + 1 ≠ 0)) = r ∧ (x / y).natAbs = m / n + 1 ∧ (x % y).natAbs = n - m % n) := ⟨l1, l2, l3⟩
  have HZR : Aside0 (decide (m % n = 0) = false) := ⟨decide_eq_false hr0⟩
  obtain rfl : f = true := HF.out.2 hx
  clear l1 l2 l3 hc hx hr0
  ·go_enter Tryz.func90, Tryz.ntmps90
   go_wp2_with (first | (go_at_call 151; (with_reducible refine (div_calls ((H1.out.keep hB (by repeat (first | exact Below.refl _ _ | apply below_alloc)))) (H2.out.keep hB (by repeat (first | exact Below.refl _ _ | apply below_alloc))) (by simp; omega) hn0 hs1 hs2).mono ?_); rintro e wd ⟨A5, k5, A6, k6, rfl, hm5, hm6, hbd⟩; obtain ⟨f0, f1⟩ := bcell hbd; have d0 : wd.cell? ⟨w.heap.size, 1, none⟩ = some (.bool true) := (f0 _ _ (by first | (simp; done) | (simp; omega))).trans (by simp [go_sem]); have d1 : wd.cell? ⟨w.heap.size + 1, 1, none⟩ = some (.bool g) := (f0 _ _ (by first | (simp; done) | (simp; omega))).trans (by simp [go_sem]); have d2 : wd.cell? ⟨w.heap.size + 1, 0, none⟩ = some (.slice A2 L2 L2) := (f0 _ _ (by first | (simp; done) | (simp; omega))).trans (by simp [go_sem]); have HOO : Aside0 (Out wd (w.heap.size + 1 + 1) ∧ Out wd (w.heap.size + 1 + 1 + 1)) := ⟨⟨(f0 _ _ (by first | (simp; done) | (simp; omega))).trans (by simp [go_sem]), (f0 _ _ (by first | (simp; done) | (simp; omega))).trans (by simp [go_sem]), (f1 _ _ (by first | (simp; done) | (simp; omega))).trans (by simp [go_sem]), (f1 _ _ (by first | (simp; done) | (simp; omega))).trans (by simp [go_sem])⟩, ⟨(f0 _ _ (by first | (simp; done) | (simp; omega))).trans (by simp [go_sem]), (f0 _ _ (by first | (simp; done) | (simp; omega))).trans (by simp [go_sem]), (f1 _ _ (by first | (simp; done) | (simp; omega))).trans (by simp [go_sem]), (f1 _ _ (by first | (simp; done) | (simp; omega))).trans (by simp [go_sem])⟩⟩; have hlt0 : w.heap.size < wd.heap.size := (by have := hbd.size; simp at this; omega); have HBD : Aside0 (Below w.heap.size w wd ∧ w.heap.size + 4 ≤ wd.heap.size) := ⟨below_step (by repeat (first | exact Below.refl _ _ | apply below_alloc)) hbd, by have := hbd.size; simp at this; omega⟩; have HM5 := Aside0.mk hm5; have HM6 := Aside0.mk hm6; clear f0 f1 hbd hm5 hm6) | (go_at_call 89; (with_reducible refine (isZero_any HM6.out (Nat.le_refl _) (by repeat (first | exact Below.refl _ _ | apply below_alloc)) HZR.out).mono ?_); rintro e wz ⟨rfl, hbz⟩; have HZ := Aside0.mk ((OV_start HBD.out.1 HBD.out.2 d0 d1 d2 (fun wx hx => (H2.out.keep hB hx).more (Nat.le_trans hB hx.size)) HOO.out.1 HOO.out.2 HM5.out HM6.out).below hbz); clear hbz))
   rename_i Q' K hK
   have hk5 : k5 ≤ 90000 := by
    have h1 := dg_lt_pow BB1 m
    rw [H1.out.1] at h1
    have h2 := dg_length BB1 L1 (m / n) (Nat.lt_of_le_of_lt (Nat.div_le_self _ _) h1)
    rw [HM5.out.1] at h2
    omega
   obtain ⟨B6, hB6⟩ : ∃ B6, wd.heap.size = B6 := ⟨_, rfl⟩
   obtain ⟨B7, hB7⟩ : ∃ B7, B6 + 1 = B7 := ⟨_, rfl⟩
   rw [hB6, hB7] at HZ
   rw [hB6, hB7]
   clear d0 d1 d2 HOO hlt0 HM5 HM6 HBD hB6 hB7
   refine wp_mid (fun T0 T V => ∃ As ks A7 k7 A8 k8, T = (((((((T0.setIfInBounds 23 (.agg #[.slice A5 k5 k5])).setIfInBounds 24 (.agg #[.slice As ks ks, .bool false])).setIfInBounds 25 (.agg #[.slice As ks ks])).setIfInBounds 26 (.agg #[.slice A7 k7 k7])).setIfInBounds 27 (.pointer (some ⟨w.heap.size + 1, 0, none⟩))).setIfInBounds 28 (.agg #[.slice A2 L2 L2])).setIfInBounds 29 (.agg #[.slice A6 k6 k6])).setIfInBounds 30 (.agg #[.slice A8 k8 k8]) ∧ OV w true g A2 L2 n B6 B7 A7 k7 (m / n + 1) A8 k8 (n - m % n) V) ?_ ?_
   ·have hfd : ∀ (A : Option Addr) (k : Nat) (w : World), (Instr.field 89 (.agg #[.slice A k k, .bool false]) 0).run Tryz.prog w = .ok (.agg #[.slice A k k]) w := fun _ _ _ => by kernel_rfl
    have HO := HZ
    have cy := HO.out.ym
    have c6 := HO.out.b6.cell
    have c7 := HO.out.b7.cell
    refine wp_region_held_drew (S := (fun V => V.cell? ⟨w.heap.size + 1, 0, none⟩ = some (.slice A2 L2 L2))) (by kernel_rfl) ?_ (fun hHeld => ?_)
    ·exact cy
    obtain ⟨Wd, hWd⟩ : ∃ Wd, wz.drew = Wd := ⟨_, rfl⟩
    rw [hWd] at hHeld ⊢
    have HO : Aside0 (OV w true g A2 L2 n B6 B7 A5 k5 (m / n) A6 k6 (m % n) Wd) := ⟨by subst hWd; exact HO.out.below (below_drew1 (Below.refl _ _))⟩
    clear hWd
    (try have c6 := HO.out.b6.cell); (try have f6 := HO.out.b6.frozen); (try have c7 := HO.out.b7.cell); (try have f7 := HO.out.b7.frozen); (try have cy := HO.out.ym)
    repeat' (first
     | (refine fun (_ : Tg 0) K hK => ?_; go_simp; refine hK.out _ _ ?_ fun hHeld => ?_; (exact HO.out.ym); clear hK K; try simp only [PU])
     | (refine fun (_ : Tg 1) K hK => ?_; go_simp; (go_at_call 94; (with_reducible refine (small_one _).mono ?_); rintro e wq ⟨As, ks, rfl, hms, hbq⟩; have hks : ks ≤ 90000 := (by have h1 := hms.1; have h2 := dg_length BB1 1 1 (by decide); omega); have hms := Aside0.mk hms; have HO := Aside0.mk (HO.out.below hbq); (try have hm8 := Aside0.mk (hm8.out.up hbq)); clear hbq; (try have c6 := HO.out.b6.cell); (try have f6 := HO.out.b6.frozen); (try have c7 := HO.out.b7.cell); (try have f7 := HO.out.b7.frozen); (try have cy := HO.out.ym)); refine hK.out _ _ ?_ fun hHeld => ?_; (exact HO.out.ym); clear hK K; try simp only [PU])
     | (refine fun (_ : Tg 3) K hK => ?_; go_simp; (go_at_call 143; (with_reducible refine (add_calls HO.out.m6 hms.out (Nat.le_refl _) hk5 hks).mono ?_); rintro e wq ⟨A7, k7, rfl, hm7, hbq⟩; have hm7 := Aside0.mk hm7; have HO := Aside0.mk (HO.out.below hbq); clear hbq; (try have c6 := HO.out.b6.cell); (try have f6 := HO.out.b6.frozen); (try have c7 := HO.out.b7.cell); (try have f7 := HO.out.b7.frozen); (try have cy := HO.out.ym)); refine hK.out _ _ ?_ fun hHeld => ?_; (exact HO.out.ym); clear hK K; try simp only [PU])
     | (refine fun (_ : Tg 6) K hK => ?_; go_simp; refine hK.out _ _ ?_ fun hHeld => ?_; (exact HO.out.ym); clear hK K; try simp only [PU])
     | (refine fun (_ : Tg 7) K hK => ?_; go_simp; (go_at_call 145; (with_reducible refine (less_calls HO.out.my HO.out.m7 (Nat.le_refl _) (Nat.le_of_lt (Nat.mod_lt _ hn0))).mono ?_); rintro e wq ⟨A8, k8, rfl, hm8, hbq⟩; have hm8 := Aside0.mk hm8; have hm7 := Aside0.mk (hm7.out.up hbq); have HO := Aside0.mk (HO.out.below hbq); clear hbq; (try have c6 := HO.out.b6.cell); (try have f6 := HO.out.b6.frozen); (try have c7 := HO.out.b7.cell); (try have f7 := HO.out.b7.frozen); (try have cy := HO.out.ym)); refine hK.out _ _ ?_ fun hHeld => ?_; (exact HO.out.ym); clear hK K; try simp only [PU])
     | (refine fun (_ : Tg 8) K hK => ?_; go_simp; (have hm8 := Aside0.mk (hm8.out.upS HO.out.b6 (fun d => by simp) 0 (.slice A7 k7 k7)); have HO := Aside0.mk (HO.out.set6 hm7.out); obtain ⟨Y, hY, HO⟩ := opaqueZ HO; rw [hY]; rw [hY] at hm8; clear hY; (try have c6 := HO.out.b6.cell); (try have f6 := HO.out.b6.frozen); (try have c7 := HO.out.b7.cell); (try have f7 := HO.out.b7.frozen); (try have cy := HO.out.ym)); refine hK.out _ _ ?_ fun hHeld => ?_; (exact HO.out.ym); clear hK K; try simp only [PU])
     | (refine fun (_ : Tg 9) K hK => ?_; go_simp; (have HO := Aside0.mk (HO.out.set7 hm8.out)); refine hK.out _ _ ?_ fun hHeld => ?_; (exact HO.out.ym); clear hK K; try simp only [PU])
     | (refine tq 4 ?_; try simp only [PU])
     | (refine tq 5 ?_; try simp only [PU])
     | (refine tq 2 ?_; try simp only [PU])
     | refine t1 6 ?_
     | refine t1 7 ?_
     | refine t1 8 ?_
     | refine t1 9 ?_
     | refine t1 3 ?_
     | refine t1 1 ?_
     | refine t1 0 ?_
     | refine t3 0 1 6 ?_ ?_ ?_
     | refine t2 1 6 ?_ ?_
     | refine t2 3 6 ?_ ?_
     | refine t2 0 6 ?_ ?_
     | refine t2 0 1 ?_ ?_
     | fail)
    all_goals
     refine wpAnyH_done (by kernel_rfl) ?_ _
     dsimp only
     exact ⟨rfl, As, ks, A7, k7, A8, k8, by simp only [List.setIfInBounds_toArray, List.set_cons_zero, List.set_cons_succ], HO.out⟩
   intro T V hM
   dsimp only at hM ⊢
   obtain ⟨As, ks, A7, k7, A8, k8, hT, hov⟩ := hM
   simp only [List.setIfInBounds_toArray, List.set_cons_zero, List.set_cons_succ] at hT
   subst hT
   have HZ := Aside0.mk hov
   clear hov
   refine hK _ _ ?_
   clear hK
   go_wp2
   rename_i K2 hK2
   have HSG : Aside0 (((!g) && decide (m / n + 1 ≠ 0)) = r) := ⟨by have h := HLL.out.1; rw [show (!(true == g)) = !g by cases g <;> rfl] at h; exact h⟩
   have c6 := HZ.out.b6.cell
   have c7 := HZ.out.b7.cell
   have cf := HZ.out.xf
   have cg := HZ.out.yg
   refine wp_region_held_drew (S := (fun V => V.cell? ⟨B6, 0, none⟩ = some (.slice A7 k7 k7) ∧ V.cell? ⟨B7, 0, none⟩ = some (.slice A8 k8 k8) ∧ V.cell? ⟨w.heap.size, 1, none⟩ = some (.bool true) ∧ V.cell? ⟨w.heap.size + 1, 1, none⟩ = some (.bool g))) (by kernel_rfl) ?_ (fun hHeld => ?_)
   ·exact ⟨c6, c7, cf, cg⟩
   obtain ⟨Wd, hWd⟩ : ∃ Wd, V.drew = Wd := ⟨_, rfl⟩
   rw [hWd] at hHeld ⊢
   have HBV : Aside0 (Below V.heap.size V Wd) := ⟨by subst hWd; exact below_drew1 (Below.refl _ _)⟩
   clear hWd
   refine tp 0 ?_
   try simp only [PU]
   refine tp 1 ?_
   try simp only [PU]
   refine tp 2 ?_
   try simp only [PU]
   refine tp 3 ?_
   try simp only [PU]
   refine tp 4 ?_
   try simp only [PU]
   refine tp 5 ?_
   try simp only [PU]
   refine tp 7 ?_
   try simp only [PU]
   refine tc 6 fun K hK => ?_
   go_simp
   (go_at_call 139; (with_reducible refine (signed_any (HZ.out.below HBV.out).m6 (Nat.le_refl _) HSG.out).mono ?_); rintro e wq ⟨rfl, hmq, hbq⟩; have hma := Aside0.mk (hmq.more hbq.size); have HBV := Aside0.mk (bJoin hbq HBV.out))
   refine hK.out _ _ ?_ fun hHeld => ?_
   ·(first | exact ⟨keepAt HBV.out c6, keepAt HBV.out c7, keepAt HBV.out cf, keepAt HBV.out cg⟩ | exact ⟨(World.cell?_setCell_other _ _ _ _ (by first | (simp; done) | (have := HZ.out.n6; simp; omega))).trans ((World.cell?_setCell_other _ _ _ _ (by first | (simp; done) | (have := HZ.out.n6; simp; omega))).trans hHeld.1), (World.cell?_setCell_other _ _ _ _ (by first | (simp; done) | (have := HZ.out.n7; simp; omega))).trans ((World.cell?_setCell_other _ _ _ _ (by first | (simp; done) | (have := HZ.out.n7; simp; omega))).trans hHeld.2.1), (World.cell?_setCell_other _ _ _ _ (by simp)).trans ((World.cell?_setCell_other _ _ _ _ (by simp)).trans hHeld.2.2.1), (World.cell?_setCell_other _ _ _ _ (by simp)).trans ((World.cell?_setCell_other _ _ _ _ (by simp)).trans hHeld.2.2.2)⟩)
   clear hK K; try simp only [PU]
   refine tc 8 fun K hK => ?_
   go_simp
   (go_at_call 139; (with_reducible refine (signed_any (r := false) (HZ.out.below HBV.out).m7 (Nat.le_refl _) rfl).mono ?_); rintro e wr ⟨rfl, hmr, hbq⟩; have hmb := Aside0.mk (hmr.more hbq.size); have hma := Aside0.mk (hma.out.up hbq); have HBV := Aside0.mk (bJoin hbq HBV.out); have HOT := Aside0.mk (And.intro (HZ.out.below HBV.out).o2 (HZ.out.below HBV.out).o3); obtain ⟨p1, p2, p3, p4⟩ := HOT.out.1; obtain ⟨q1, q2, q3, q4⟩ := HOT.out.2)
   refine hK.out _ _ ?_ fun hHeld => ?_
   ·(first | exact ⟨keepAt HBV.out c6, keepAt HBV.out c7, keepAt HBV.out cf, keepAt HBV.out cg⟩ | exact ⟨(World.cell?_setCell_other _ _ _ _ (by first | (simp; done) | (have := HZ.out.n6; simp; omega))).trans ((World.cell?_setCell_other _ _ _ _ (by first | (simp; done) | (have := HZ.out.n6; simp; omega))).trans hHeld.1), (World.cell?_setCell_other _ _ _ _ (by first | (simp; done) | (have := HZ.out.n7; simp; omega))).trans ((World.cell?_setCell_other _ _ _ _ (by first | (simp; done) | (have := HZ.out.n7; simp; omega))).trans hHeld.2.1), (World.cell?_setCell_other _ _ _ _ (by simp)).trans ((World.cell?_setCell_other _ _ _ _ (by simp)).trans hHeld.2.2.1), (World.cell?_setCell_other _ _ _ _ (by simp)).trans ((World.cell?_setCell_other _ _ _ _ (by simp)).trans hHeld.2.2.2)⟩)
   clear hK K; try simp only [PU]
   refine tc 9 fun K hK => ?_
   go_simp
   refine hK.out _ _ ?_ fun hHeld => ?_
   ·(first | exact ⟨keepAt HBV.out c6, keepAt HBV.out c7, keepAt HBV.out cf, keepAt HBV.out cg⟩ | exact ⟨(World.cell?_setCell_other _ _ _ _ (by first | (simp; done) | (have := HZ.out.n6; simp; omega))).trans ((World.cell?_setCell_other _ _ _ _ (by first | (simp; done) | (have := HZ.out.n6; simp; omega))).trans hHeld.1), (World.cell?_setCell_other _ _ _ _ (by first | (simp; done) | (have := HZ.out.n7; simp; omega))).trans ((World.cell?_setCell_other _ _ _ _ (by first | (simp; done) | (have := HZ.out.n7; simp; omega))).trans hHeld.2.1), (World.cell?_setCell_other _ _ _ _ (by simp)).trans ((World.cell?_setCell_other _ _ _ _ (by simp)).trans hHeld.2.2.1), (World.cell?_setCell_other _ _ _ _ (by simp)).trans ((World.cell?_setCell_other _ _ _ _ (by simp)).trans hHeld.2.2.2)⟩)
   clear hK K; try simp only [PU]
   refine tc 10 fun K hK => ?_
   go_simp
   refine hK.out _ _ ?_ fun hHeld => ?_
   ·(first | exact ⟨keepAt HBV.out c6, keepAt HBV.out c7, keepAt HBV.out cf, keepAt HBV.out cg⟩ | exact ⟨(World.cell?_setCell_other _ _ _ _ (by first | (simp; done) | (have := HZ.out.n6; simp; omega))).trans ((World.cell?_setCell_other _ _ _ _ (by first | (simp; done) | (have := HZ.out.n6; simp; omega))).trans hHeld.1), (World.cell?_setCell_other _ _ _ _ (by first | (simp; done) | (have := HZ.out.n7; simp; omega))).trans ((World.cell?_setCell_other _ _ _ _ (by first | (simp; done) | (have := HZ.out.n7; simp; omega))).trans hHeld.2.1), (World.cell?_setCell_other _ _ _ _ (by simp)).trans ((World.cell?_setCell_other _ _ _ _ (by simp)).trans hHeld.2.2.1), (World.cell?_setCell_other _ _ _ _ (by simp)).trans ((World.cell?_setCell_other _ _ _ _ (by simp)).trans hHeld.2.2.2)⟩)
   clear hK K; try simp only [PU]
   refine wpAnyH_done (by kernel_rfl) ?_ _
   refine hK2 _ _ ?_
   go_wp2
   have ho3 : Out ((wr.setCell ⟨w.heap.size + 1 + 1, 0, none⟩ (.slice A7 k7 k7)).setCell ⟨w.heap.size + 1 + 1, 1, none⟩ (.bool r)) (w.heap.size + 1 + 1 + 1) := ⟨(World.cell?_setCell_other _ _ _ _ (by simp)).trans ((World.cell?_setCell_other _ _ _ _ (by simp)).trans q1), (World.cell?_setCell_other _ _ _ _ (by simp)).trans ((World.cell?_setCell_other _ _ _ _ (by simp)).trans q2), by rw [World.frozen?_setCell, World.frozen?_setCell]; exact q3, by rw [World.frozen?_setCell, World.frozen?_setCell]; exact q4⟩
   refine bodyPost_ret (v := .tuple #[.agg #[.slice A7 k7 k7, .bool r], .agg #[.slice A8 k8 k8, .bool false]]) (by simp [results, Tryz.results90, go_sem, p1, p2, q1, q2]) rfl ⟨A7, k7, A8, k8, rfl, ?_, ?_, ?_⟩
   ·rw [HLL.out.2.1]; exact ho3.mag2 (HOT.out.1.mag2 hma.out _ _) _ _
   ·rw [HLL.out.2.2]; exact ho3.mag2 (HOT.out.1.mag2 hmb.out _ _) _ _
   ·exact (((((HZ.out.bl.trans (HBV.out.mono HZ.out.bl.size)).setCell (by simp; omega) _).setCell (by simp; omega) _).setCell (by simp; omega) _).setCell (by simp; omega) _)
end
section
open Go.Proofs.YtillgofjlpjbcaaGreatDoorW.PrintLast Go.Proofs.YtillgofjlpjbcaaGreatDoorW.PrintMore Go.Proofs.YtillgofjlpjbcaaGreatDoorW.PrintWords Go.RowKit
theorem iorder_calls {w : World} {B : Nat} {A1 A2 : Option Addr} {L1 L2 : Nat} {x y : Int} (h1 : Mag w B A1 L1 x.natAbs) (h2 : Mag w B A2 L2 y.natAbs) (hB : B ≤ w.heap.size) :
 Calls Tryz.prog 93 #[iV A1 L1 x, iV A2 L2 y] w fun e w' => e = .returned (.int .i64 (cmpI x y)) ∧ Below w.heap.size w w' := by
 unfold iV
 have H1 : Aside0 (Mag w B A1 L1 x.natAbs) := ⟨h1⟩
 have H2 : Aside0 (Mag w B A2 L2 y.natAbs) := ⟨h2⟩
 clear h1 h2
 by_cases hx : x < 0 <;> by_cases hy : y < 0
 ·have HV : Aside0 (cmpI (y.natAbs : Int) x.natAbs = cmpI x y) := ⟨by unfold cmpI; split <;> split <;> first | rfl | omega | (split <;> first | rfl | omega) | (split <;> split <;> first | rfl | omega)⟩
  rw [decide_eq_true hx, decide_eq_true hy]
  clear hx hy
  go_enter Tryz.func93, Tryz.ntmps93
  go_wp2_with (go_at_call 144; (with_reducible refine (order_any H2.out H1.out hB (by repeat (first | exact Below.refl _ _ | apply below_alloc)) HV.out).mono ?_); rintro e wr ⟨rfl, hbr⟩)
  go_ret
  exact ⟨rfl, below_step (by repeat (first | exact Below.refl _ _ | apply below_alloc)) hbr⟩
 ·have HV : Aside0 (cmpI x y = -1) := ⟨by unfold cmpI; rw [if_pos (by omega)]⟩
  rw [decide_eq_true hx, decide_eq_false hy, HV.out]
  clear hx hy
  go_enter Tryz.func93, Tryz.ntmps93
  go_wp2
  go_ret
  exact ⟨rfl, by repeat (first | exact Below.refl _ _ | apply below_alloc)⟩
 ·have HV : Aside0 (cmpI x y = 1) := ⟨by unfold cmpI; rw [if_neg (by omega), if_pos (by omega)]⟩
  rw [decide_eq_false hx, decide_eq_true hy, HV.out]
  clear hx hy
  go_enter Tryz.func93, Tryz.ntmps93
  go_wp2
  go_ret
  exact ⟨rfl, by repeat (first | exact Below.refl _ _ | apply below_alloc)⟩
 ·have HV : Aside0 (cmpI (x.natAbs : Int) y.natAbs = cmpI x y) := ⟨by unfold cmpI; split <;> split <;> first | rfl | omega | (split <;> first | rfl | omega) | (split <;> split <;> first | rfl | omega)⟩
  rw [decide_eq_false hx, decide_eq_false hy]
  clear hx hy
  go_enter Tryz.func93, Tryz.ntmps93
  go_wp2_with (go_at_call 144; (with_reducible refine (order_any H1.out H2.out hB (by repeat (first | exact Below.refl _ _ | apply below_alloc)) HV.out).mono ?_); rintro e wr ⟨rfl, hbr⟩)
  go_ret
  exact ⟨rfl, below_step (by repeat (first | exact Below.refl _ _ | apply below_alloc)) hbr⟩
end
section
open Go.Lib Go.Proofs.YtillgofjlpjbcaaGreatDoorW.PrintLast Go.Proofs.YtillgofjlpjbcaaGreatDoorW.PrintMore Go.Proofs.YtillgofjlpjbcaaGreatDoorW.PrintWords Go.RowKit Go.Shelf
/-- What Neg answers. -/
def negS (s : ByteArray) : ByteArray := if checkI s = 0 then strI (-(intI s)) else ⟨#[]⟩
theorem negN_calls (s : ByteArray) (hs : s.size ≤ 90000) (w : World) (htab : Tens w) :
 Calls Tryz.prog 18 #[.string s] w fun e w' => e = .returned (.tuple #[.string (negS s), .int .i64 (checkI s)]) ∧ Below w.heap.size w w' := by
 have HC := Aside0.mk (fun w => check_calls s (by omega) w)
 have HB := Aside0.mk (Below.refl w.heap.size w)
 unfold negS
 by_cases hc : checkI s = 0
 ·have hP := parseI_calls s hs hc
  have HN : ∀ (W : World) (A : Option Addr) (L : Nat), Mag W W.heap.size A L (intI s).natAbs → Calls Tryz.prog 75 #[iV A L (intI s)] W fun e w' => e = .returned (iV A L (-(intI s))) ∧ Mag w' W.heap.size A L (-(intI s)).natAbs ∧ Below W.heap.size W w' := fun W A L hm => negative_calls hm (Nat.le_refl _)
  have HT : ∀ (W : World) (A : Option Addr) (L : Nat), Below w.heap.size w W → Mag W W.heap.size A L (-(intI s)).natAbs → Calls Tryz.prog 76 #[iV A L (-(intI s))] W fun e w' => e = .returned (.string (strI (-(intI s)))) ∧ Below W.heap.size W w' := fun W A L hb hm => text_calls hm (Nat.le_refl _) (htab.below hb)
  rw [if_pos hc]
  rw [hc] at HC ⊢
  unfold iV at *
  generalize strI (-(intI s)) = S at *
  generalize decide (-(intI s) < 0) = g at *
  generalize (-(intI s)).natAbs = m at *
  generalize decide (intI s < 0) = f at *
  generalize (intI s).natAbs = n at *
  have HP := Aside0.mk hP
  have HN := Aside0.mk HN
  have HT := Aside0.mk HT
  clear hc hP
  go_enter Tryz.func18, Tryz.ntmps18
  go_wp2_with (first
   | (go_at_call 12; ((with_reducible refine (HC.out _).mono ?_); rintro e w1 ⟨rfl, hb1⟩; obtain ⟨hc1, hf1⟩ := bcell hb1; have nB1 : Aside0 (Below w.heap.size w w1) := sb hb1; clear HB; have HB := nB1; clear nB1))
   | (go_at_call 74; ((with_reducible refine (HP.out _).mono ?_); rintro e w2 ⟨A, k, rfl, hm, hb2⟩; obtain ⟨hc2, hf2⟩ := bcell hb2; have nB2 : Aside0 (Below w.heap.size w w2) := sb hb2; clear HB; have HB := nB2; clear nB2; have HM := Aside0.mk hm; clear hm))
   | (go_at_call 75; ((with_reducible refine (HN.out _ _ _ HM.out).mono ?_); rintro e w3 ⟨rfl, hm, hb3⟩; obtain ⟨hc3, hf3⟩ := bcell hb3; have nB3 : Aside0 (Below w.heap.size w w3) := sb hb3; clear HB; have HB := nB3; clear nB3; have HM3 := Aside0.mk (hm.more hb3.size); clear hm))
   | (go_at_call 76; ((with_reducible refine (HT.out _ _ _ bl HM3.out).mono ?_); rintro e w4 ⟨rfl, hb4⟩; obtain ⟨hc4, hf4⟩ := bcell hb4; have nB4 : Aside0 (Below w.heap.size w w4) := sb hb4; clear HB; have HB := nB4; clear nB4)))
  go_ret2
  exact ⟨rfl, bl⟩
 ·rw [if_neg hc]
  generalize checkI s = E at *
  have hbe : (E != 0) = true := by simp [hc]
  go_enter Tryz.func18, Tryz.ntmps18
  go_wp2_with (first | (go_at_call 12; ((with_reducible refine (HC.out _).mono ?_); rintro e w1 ⟨rfl, hb1⟩; obtain ⟨hc1, hf1⟩ := bcell hb1; have nB1 : Aside0 (Below w.heap.size w w1) := sb hb1; clear HB; have HB := nB1; clear nB1)))
  go_ret2
  exact ⟨rfl, bl⟩
/-- What Compare answers. -/
def cmpN (a b : ByteArray) : Int := if biE a b = 0 then cmpI (intI a) (intI b) else 0
theorem compareN_calls (a b : ByteArray) (ha : a.size ≤ 90000) (hb : b.size ≤ 90000) (w : World) :
 Calls Tryz.prog 29 #[.string a, .string b] w fun e w' => e = .returned (.tuple #[.int .i64 (cmpN a b), .int .i64 (biE a b)]) ∧ Below w.heap.size w w' := by
 have HB := Aside0.mk (Below.refl w.heap.size w)
 unfold cmpN
 by_cases h : biE a b = 0
 ·obtain ⟨hca, hcb⟩ := biE_zero h
  rw [if_pos h, h]
  have hR := read_ok a b ha hb hca hcb
  have HO : ∀ (W : World) (A1 A2 : Option Addr) (L1 L2 : Nat), Mag W W.heap.size A1 L1 (intI a).natAbs → Mag W W.heap.size A2 L2 (intI b).natAbs → Calls Tryz.prog 93 #[iV A1 L1 (intI a), iV A2 L2 (intI b)] W fun e w' => e = .returned (.int .i64 (cmpI (intI a) (intI b))) ∧ Below W.heap.size W w' := fun W A1 A2 L1 L2 h1 h2 => iorder_calls h1 h2 (Nat.le_refl _)
  unfold iV at *
  generalize cmpI (intI a) (intI b) = R at *
  generalize decide (intI a < 0) = na at *
  generalize (intI a).natAbs = ma at *
  generalize decide (intI b < 0) = nb at *
  generalize (intI b).natAbs = mb at *
  have HR := Aside0.mk hR
  have HO := Aside0.mk HO
  clear h hca hcb hR
  go_enter Tryz.func29, Tryz.ntmps29
  go_wp2_with (first
   | (go_at_call 87; ((with_reducible refine (HR.out _).mono ?_); rintro e w1 ⟨A1, k1, A2, k2, rfl, hm1, hm2, hb1⟩; obtain ⟨hc1, hf1⟩ := bcell hb1; have nB1 : Aside0 (Below w.heap.size w w1) := sb hb1; clear HB; have HB := nB1; clear nB1; have HM1 := Aside0.mk hm1; clear hm1; have HM2 := Aside0.mk hm2; clear hm2))
   | (go_at_call 93; ((with_reducible refine (HO.out _ _ _ _ _ ((HM1.out.keep (Nat.le_refl _) (by repeat (first | exact Below.refl _ _ | apply below_alloc))).more (by first | (simp; done) | (simp; omega) | omega)) ((HM2.out.keep (Nat.le_refl _) (by repeat (first | exact Below.refl _ _ | apply below_alloc))).more (by first | (simp; done) | (simp; omega) | omega))).mono ?_); rintro e w2 ⟨rfl, hb2⟩; obtain ⟨hc2, hf2⟩ := bcell hb2; have nB2 : Aside0 (Below w.heap.size w w2) := sb hb2; clear HB; have HB := nB2; clear nB2)))
  go_ret2
  exact ⟨rfl, bl⟩
 ·rw [if_neg h]
  have HR : Aside0 (∀ w, Calls Tryz.prog 87 #[.string a, .string b] w fun e w' => e = .returned (.tuple #[.agg #[.slice none 0 0, .bool false], .agg #[.slice none 0 0, .bool false], .int .i64 (biE a b)]) ∧ Below w.heap.size w w') := ⟨read_bad a b ha hb rfl h⟩
  generalize biE a b = E at *
  have hbe : (E != 0) = true := by simp [h]
  go_enter Tryz.func29, Tryz.ntmps29
  go_wp2_with (first | (go_at_call 87; ((with_reducible refine (HR.out _).mono ?_); rintro e w1 ⟨rfl, hb1⟩; obtain ⟨hc1, hf1⟩ := bcell hb1; have nB1 : Aside0 (Below w.heap.size w w1) := sb hb1; clear HB; have HB := nB1; clear nB1)))
  go_ret2
  exact ⟨rfl, bl⟩
theorem wr_dig {x : Int} (h : Dig 120 x) : wrE x = 0 ∧ wrS x = strI x := by
 have h1 : lenI x ≤ 120 := dec_len 120 _ (by omega) h
 unfold wrE wrS
 rw [if_neg (by omega), if_neg (by omega)]
 exact ⟨rfl, rfl⟩
theorem dig_wr {x : Int} (h : wrE x = 0) : Dig 120 x := by
 unfold wrE at h
 split at h
 ·omega
 ·rename_i h1
  have h2 := dv_lt _ (dec_digits x.natAbs)
  rw [dv_dec] at h2
  exact Nat.lt_of_lt_of_le h2 (Nat.pow_le_pow_right (by decide) (by unfold lenI at h1; omega))
theorem Dig.ediv {j : Nat} {x y : Int} (hx : Dig j x) : Dig j (x / y) := by
 unfold Dig at *
 exact Nat.lt_of_le_of_lt (Int.natAbs_ediv_le_natAbs x y) hx
/-- The error of a division. -/
def divE (a b : ByteArray) : Int := if biE a b = 0 then (if intI b = 0 then 30 else 0) else biE a b
def dmS (of : Int → Int → Int) (a b : ByteArray) : ByteArray := if divE a b = 0 then strI (of (intI a) (intI b)) else ⟨#[]⟩
theorem first2_ret (x y z : Int) (hz : firstI [x, y] = z) (w : World) (b : Nat) (hb : b = w.heap.size) (t : TypeId) : Calls Tryz.prog 88 #[.slice (some ⟨b, 0, none⟩) 2 2] (w.alloc (.cells #[.int .i64 x, .int .i64 y] t)) fun e w' => e = .returned (.int .i64 z) ∧ w' = w.alloc (.cells #[.int .i64 x, .int .i64 y] t) := by
 subst hz; exact first2_calls x y w b hb t
theorem F30 : Aside0 (firstI [0, 30] = 30) := ⟨rfl⟩
theorem F00 : Aside0 (firstI [0, 0] = 0) := ⟨rfl⟩
theorem divMod_calls (a b : ByteArray) (ha : a.size ≤ 90000) (hb : b.size ≤ 90000) (w : World) (htab : Tens w) :
 Calls Tryz.prog 27 #[.string a, .string b] w fun e w' => e = .returned (.tuple #[.string (dmS (fun x y => x / y) a b), .string (dmS (fun x y => x % y) a b), .int .i64 (divE a b)]) ∧ Below w.heap.size w w' := by
 have HB := Aside0.mk (Below.refl w.heap.size w)
 by_cases h : biE a b = 0
 ·obtain ⟨hca, hcb⟩ := biE_zero h
  have hR := read_ok a b ha hb hca hcb
  by_cases hy : intI b = 0
  ·have e : divE a b = 30 := by unfold divE; rw [if_pos h, if_pos hy]
   unfold dmS
   rw [e, if_neg (by omega), if_neg (by omega)]
   have HZ : ∀ (W : World) (A : Option Addr) (L : Nat), Mag W W.heap.size A L (intI b).natAbs → Calls Tryz.prog 89 #[.agg #[.slice A L L]] W fun e w' => e = .returned (.bool true) ∧ Below W.heap.size W w' := fun W A L hm => isZero_any hm (Nat.le_refl _) (Below.refl _ _) (decide_eq_true (by omega))
   unfold iV at *
   generalize decide (intI a < 0) = na at *
   generalize (intI a).natAbs = ma at *
   generalize decide (intI b < 0) = nb at *
   generalize (intI b).natAbs = mb at *
   have HR := Aside0.mk hR
   have HZ := Aside0.mk HZ
   clear h hca hcb hR hy e
   go_enter Tryz.func27, Tryz.ntmps27
   go_wp2_with (first
    | (go_at_call 87; ((with_reducible refine (HR.out _).mono ?_); rintro e w1 ⟨A1, k1, A2, k2, rfl, hm1, hm2, hb1⟩; obtain ⟨hc1, hf1⟩ := bcell hb1; have nB1 : Aside0 (Below w.heap.size w w1) := sb hb1; clear HB; have HB := nB1; clear nB1; have HM1 := Aside0.mk hm1; clear hm1; have HM2 := Aside0.mk hm2; clear hm2))
    | (go_at_call 89; ((with_reducible refine (HZ.out _ _ _ ((HM2.out.keep (Nat.le_refl _) (by repeat (first | exact Below.refl _ _ | apply below_alloc))).more (by first | (simp; done) | (simp; omega) | omega))).mono ?_); rintro e w2 ⟨rfl, hb2⟩; obtain ⟨hc2, hf2⟩ := bcell hb2; have nB2 : Aside0 (Below w.heap.size w w2) := sb hb2; clear HB; have HB := nB2; clear nB2))
    | (go_at_call 65; (with_reducible refine (when_calls _ _ _).mono ?_); rintro e w' ⟨rfl, rfl⟩)
    | (go_at_call 88; (with_reducible refine (first2_ret _ _ 30 F30.out _ _ (by simp) _).mono ?_); rintro e w' ⟨rfl, rfl⟩))
   go_ret3
   exact ⟨rfl, bl⟩
  ·have e : divE a b = 0 := by unfold divE; rw [if_pos h, if_neg hy]
   unfold dmS
   rw [e, if_pos rfl, if_pos rfl]
   have HZ : ∀ (W : World) (A : Option Addr) (L : Nat), Mag W W.heap.size A L (intI b).natAbs → Calls Tryz.prog 89 #[.agg #[.slice A L L]] W fun e w' => e = .returned (.bool false) ∧ Below W.heap.size W w' := fun W A L hm => isZero_any hm (Nat.le_refl _) (Below.refl _ _) (decide_eq_false (by omega))
   have HO : ∀ (W : World) (A1 A2 : Option Addr) (L1 L2 : Nat), Mag W W.heap.size A1 L1 (intI a).natAbs → Mag W W.heap.size A2 L2 (intI b).natAbs → Calls Tryz.prog 90 #[iV A1 L1 (intI a), iV A2 L2 (intI b)] W fun e w' => ∃ A k A' k', e = .returned (.tuple #[iV A k (intI a / intI b), iV A' k' (intI a % intI b)]) ∧ Mag w' w'.heap.size A k (intI a / intI b).natAbs ∧ Mag w' w'.heap.size A' k' (intI a % intI b).natAbs ∧ Below W.heap.size W w' :=
    fun W A1 A2 L1 L2 h1 h2 => over_calls h1 h2 (Nat.le_refl _) hy (by have := (intI_dig hca).len h1 14 (by omega); omega) (by have := (intI_dig hcb).len h2 14 (by omega); omega)
   have HW : ∀ (W : World) (A : Option Addr) (L : Nat), Below w.heap.size w W → Mag W W.heap.size A L (intI a / intI b).natAbs → Calls Tryz.prog 91 #[iV A L (intI a / intI b)] W fun e w' => e = .returned (.tuple #[.string (strI (intI a / intI b)), .int .i64 0]) ∧ Below W.heap.size W w' := fun W A L hb hm => by
    have h1 := wr_dig (Dig.ediv (y := intI b) (intI_dig hca))
    have h2 := written_calls hm (Nat.le_refl _) (htab.below hb)
    rw [h1.1, h1.2] at h2
    exact h2
   have HT : ∀ (W : World) (A : Option Addr) (L : Nat), Below w.heap.size w W → Mag W W.heap.size A L (intI a % intI b).natAbs → Calls Tryz.prog 76 #[iV A L (intI a % intI b)] W fun e w' => e = .returned (.string (strI (intI a % intI b))) ∧ Below W.heap.size W w' := fun W A L hb hm => text_calls hm (Nat.le_refl _) (htab.below hb)
   unfold iV at *
   generalize strI (intI a / intI b) = SQ at *
   generalize strI (intI a % intI b) = SR at *
   generalize decide (intI a / intI b < 0) = nq at *
   generalize (intI a / intI b).natAbs = mq at *
   generalize decide (intI a % intI b < 0) = nr at *
   generalize (intI a % intI b).natAbs = mr at *
   generalize decide (intI a < 0) = na at *
   generalize (intI a).natAbs = ma at *
   generalize decide (intI b < 0) = nb at *
   generalize (intI b).natAbs = mb at *
   have HR := Aside0.mk hR
   have HZ := Aside0.mk HZ
   have HO := Aside0.mk HO
   have HW := Aside0.mk HW
   have HT := Aside0.mk HT
   clear h hca hcb hR hy e
   go_enter Tryz.func27, Tryz.ntmps27
   go_wp2_with (first
    | (go_at_call 87; ((with_reducible refine (HR.out _).mono ?_); rintro e w1 ⟨A1, k1, A2, k2, rfl, hm1, hm2, hb1⟩; obtain ⟨hc1, hf1⟩ := bcell hb1; have nB1 : Aside0 (Below w.heap.size w w1) := sb hb1; clear HB; have HB := nB1; clear nB1; have HM1 := Aside0.mk hm1; clear hm1; have HM2 := Aside0.mk hm2; clear hm2))
    | (go_at_call 89; ((with_reducible refine (HZ.out _ _ _ ((HM2.out.keep (Nat.le_refl _) (by repeat (first | exact Below.refl _ _ | apply below_alloc))).more (by first | (simp; done) | (simp; omega) | omega))).mono ?_); rintro e w2 ⟨rfl, hb2⟩; obtain ⟨hc2, hf2⟩ := bcell hb2; have z2_0 : (w1.heap.size) < w2.heap.size := zb hb2; have z2_1 : (w1.heap.size + 1) < w2.heap.size := zb hb2; have nB2 : Aside0 (Below w.heap.size w w2) := sb hb2; clear HB; have HB := nB2; clear nB2; have HM1 := Aside0.mk ((((HM1.out.keep (Nat.le_refl _) (by repeat (first | exact Below.refl _ _ | apply below_alloc))).more (by first | (simp; done) | (simp; omega) | omega))).up hb2); have HM2 := Aside0.mk ((((HM2.out.keep (Nat.le_refl _) (by repeat (first | exact Below.refl _ _ | apply below_alloc))).more (by first | (simp; done) | (simp; omega) | omega))).up hb2)))
    | (go_at_call 65; (with_reducible refine (when_calls _ _ _).mono ?_); rintro e w' ⟨rfl, rfl⟩)
    | (go_at_call 88; (with_reducible refine (first2_ret _ _ 0 F00.out _ _ (by simp) _).mono ?_); rintro e w' ⟨rfl, rfl⟩)
    | (go_at_call 90; ((with_reducible refine (HO.out _ _ _ _ _ ((HM1.out.keep (Nat.le_refl _) (by repeat (first | exact Below.refl _ _ | apply below_alloc))).more (by first | (simp; done) | (simp; omega) | omega)) ((HM2.out.keep (Nat.le_refl _) (by repeat (first | exact Below.refl _ _ | apply below_alloc))).more (by first | (simp; done) | (simp; omega) | omega))).mono ?_); rintro e w3 ⟨A3, k3, A4, k4, rfl, hm3, hm4, hb3⟩; obtain ⟨hc3, hf3⟩ := bcell hb3; have nB3 : Aside0 (Below w.heap.size w w3) := sb hb3; clear HB; have HB := nB3; clear nB3; have HM3 := Aside0.mk hm3; clear hm3; have HM4 := Aside0.mk hm4; clear hm4))
    | (go_at_call 91; ((with_reducible refine (HW.out _ _ _ bl ((HM3.out.keep (Nat.le_refl _) (by repeat (first | exact Below.refl _ _ | apply below_alloc))).more (by first | (simp; done) | (simp; omega) | omega))).mono ?_); rintro e w5 ⟨rfl, hb5⟩; obtain ⟨hc5, hf5⟩ := bcell hb5; have z5_0 : (w3.heap.size) < w5.heap.size := zb hb5; have z5_1 : (w3.heap.size + 1) < w5.heap.size := zb hb5; have nB5 : Aside0 (Below w.heap.size w w5) := sb hb5; clear HB; have HB := nB5; clear nB5; have HM4 := Aside0.mk ((((HM4.out.keep (Nat.le_refl _) (by repeat (first | exact Below.refl _ _ | apply below_alloc))).more (by first | (simp; done) | (simp; omega) | omega))).up hb5)))
    | (go_at_call 76; ((with_reducible refine (HT.out _ _ _ bl HM4.out).mono ?_); rintro e w6 ⟨rfl, hb6⟩; obtain ⟨hc6, hf6⟩ := bcell hb6; have nB6 : Aside0 (Below w.heap.size w w6) := sb hb6; clear HB; have HB := nB6; clear nB6)))
   go_ret3
   exact ⟨rfl, bl⟩
 ·have e : divE a b = biE a b := by unfold divE; rw [if_neg h]
  unfold dmS
  rw [e, if_neg h, if_neg h]
  have HR : Aside0 (∀ w, Calls Tryz.prog 87 #[.string a, .string b] w fun e w' => e = .returned (.tuple #[.agg #[.slice none 0 0, .bool false], .agg #[.slice none 0 0, .bool false], .int .i64 (biE a b)]) ∧ Below w.heap.size w w') := ⟨read_bad a b ha hb rfl h⟩
  clear e
  generalize biE a b = E at *
  have HF : Aside0 (firstI [E, 0] = E) := ⟨by unfold firstI; rw [if_neg h]⟩
  have hbe : (E != 0) = true := by simp [h]
  have hbe' : (E == 0) = false := by simp [h]
  go_enter Tryz.func27, Tryz.ntmps27
  go_wp2_with (first
   | (go_at_call 87; ((with_reducible refine (HR.out _).mono ?_); rintro e w1 ⟨rfl, hb1⟩; obtain ⟨hc1, hf1⟩ := bcell hb1; have nB1 : Aside0 (Below w.heap.size w w1) := sb hb1; clear HB; have HB := nB1; clear nB1))
   | (go_at_call 65; (with_reducible refine (when_calls _ _ _).mono ?_); rintro e w' ⟨rfl, rfl⟩)
   | (go_at_call 88; (with_reducible refine (first2_ret _ _ E HF.out _ _ (by simp) _).mono ?_); rintro e w' ⟨rfl, rfl⟩))
  go_ret3
  exact ⟨rfl, bl⟩
/-- An integer's variable. -/
def IB (W : World) (b : Nat) (A : Option Addr) (L : Nat) (f : Bool) : Prop := W.heap[b]? = some (.cells #[.slice A L L, .bool f] 89 (0, 0))
theorem IB.cell0 {W : World} {b : Nat} {A : Option Addr} {L : Nat} {f : Bool} (h : IB W b A L f) : W.cell? ⟨b, 0, none⟩ = some (.slice A L L) := by rw [Lib.cell_of_heap h]; rfl
theorem IB.cell1 {W : World} {b : Nat} {A : Option Addr} {L : Nat} {f : Bool} (h : IB W b A L f) : W.cell? ⟨b, 1, none⟩ = some (.bool f) := by rw [Lib.cell_of_heap h]; rfl
theorem IB.fr {W : World} {b : Nat} {A : Option Addr} {L : Nat} {f : Bool} (h : IB W b A L f) (o : Nat) : W.frozen? ⟨b, o, none⟩ = false := Lib.frozen_of_heap h o
theorem IB.lt {W : World} {b : Nat} {A : Option Addr} {L : Nat} {f : Bool} (h : IB W b A L f) : b < W.heap.size := (Array.getElem?_eq_some_iff.1 h).1
theorem IB.below {W X : World} {b : Nat} {A : Option Addr} {L : Nat} {f : Bool} (h : IB W b A L f) (hb : Below W.heap.size W X) : IB X b A L f := (hb.block b h.lt).trans h
theorem IB.put {W : World} {b : Nat} {A : Option Addr} {L : Nat} {f : Bool} (h : IB W b A L f) (A' : Option Addr) (L' : Nat) (f' : Bool) : IB ((W.setCell ⟨b, 0, none⟩ (.slice A' L' L')).setCell ⟨b, 1, none⟩ (.bool f')) b A' L' f' := by
 unfold IB at *
 simp [World.setCell, Array.getElem?_modify, h]
theorem IB.other {W : World} {b c : Nat} {A : Option Addr} {L : Nat} {f : Bool} (h : IB W b A L f) (hne : c ≠ b) (u u' : Value) : IB ((W.setCell ⟨c, 0, none⟩ u).setCell ⟨c, 1, none⟩ u') b A L f := by
 unfold IB at *
 rw [Below.heap_setCell _ _ _ _ (fun e => hne (by first | exact e | exact e.symm)), Below.heap_setCell _ _ _ _ (fun e => hne (by first | exact e | exact e.symm))]
 exact h
theorem IB.mag {W : World} {b : Nat} {A : Option Addr} {L : Nat} {f : Bool} (h : IB W b A L f) {B L' n : Nat} {A' : Option Addr} (hm : Mag W B A' L' n) (u u' : Value) : Mag ((W.setCell ⟨b, 0, none⟩ u).setCell ⟨b, 1, none⟩ u') B A' L' n :=
 have hp := hm.apart h.cell0 (fun d => by simp)
 (hm.setA hp 0 u).setA hp 1 u'
theorem IB.new (W : World) (A : Option Addr) (L : Nat) (f : Bool) : IB (W.alloc (.cells #[.slice A L L, .bool f] 89)) W.heap.size A L f := heap_alloc_new W _
theorem IB.alloc {W : World} {b : Nat} {A : Option Addr} {L : Nat} {f : Bool} (h : IB W b A L f) (o : Obj) : IB (W.alloc o) b A L f := h.below (below_alloc (Below.refl _ _) _)
/-- What lies in memory between two rounds of Pow. -/
structure PW (w : World) (b : Nat) (Ax : Option Addr) (kx : Nat) (fx : Bool) (mx : Nat) (A : Option Addr) (L : Nat) (f : Bool) (m : Nat) (W : World) : Prop where
 x : IB W b Ax kx fx
 o : IB W (b + 1) A L f
 mx : Mag W W.heap.size Ax kx mx
 mo : Mag W W.heap.size A L m
 bl : Below w.heap.size w W
 lt : w.heap.size ≤ b
theorem PW.below {w : World} {b : Nat} {Ax : Option Addr} {kx : Nat} {fx : Bool} {mx : Nat} {A : Option Addr} {L : Nat} {f : Bool} {m : Nat} {W X : World} (h : PW w b Ax kx fx mx A L f m W) (hb : Below W.heap.size W X) : PW w b Ax kx fx mx A L f m X :=
 ⟨h.x.below hb, h.o.below hb, h.mx.up hb, h.mo.up hb, h.bl.trans (hb.mono h.bl.size), h.lt⟩
theorem PW.put {w : World} {b : Nat} {Ax : Option Addr} {kx : Nat} {fx : Bool} {mx : Nat} {A : Option Addr} {L : Nat} {f : Bool} {m : Nat} {W : World} (h : PW w b Ax kx fx mx A L f m W) {A' : Option Addr} {L' m' : Nat} (hm : Mag W W.heap.size A' L' m') (f' : Bool) :
 PW w b Ax kx fx mx A' L' f' m' ((W.setCell ⟨b + 1, 0, none⟩ (.slice A' L' L')).setCell ⟨b + 1, 1, none⟩ (.bool f')) := by
 have hl := h.lt
 refine ⟨h.x.other (by omega) _ _, h.o.put _ _ _, ?_, ?_, (h.bl.setCell (p := ⟨b + 1, 0, none⟩) (by show w.heap.size ≤ b + 1; omega) _).setCell (p := ⟨b + 1, 1, none⟩) (by show w.heap.size ≤ b + 1; omega) _, hl⟩
 ·exact (h.o.mag h.mx _ _).more (by simp)
 ·exact (h.o.mag hm _ _).more (by simp)
theorem pow_big {x : Int} {i n : Nat} (hin : i ≤ n) (h : wrE (x ^ i) ≠ 0) : wrE (x ^ n) = 4 ∧ wrS (x ^ n) = ⟨#[]⟩ := by
 have h1 : ¬ Dig 120 (x ^ i) := fun hd => h (wr_dig hd).1
 have h2 : ¬ Dig 120 (x ^ n) := by
  intro hd
  apply h1
  unfold Dig at *
  rw [Int.natAbs_pow] at *
  rcases Nat.lt_or_ge x.natAbs 1 with h0 | h0
  ·have : x.natAbs = 0 := by omega
   rw [this]
   rcases Nat.eq_zero_or_pos i with hi | hi
   ·subst hi; exact Nat.one_lt_pow (by decide) (by decide)
   ·rw [Nat.zero_pow hi]; exact Nat.pow_pos (by decide)
  ·exact Nat.lt_of_le_of_lt (Nat.pow_le_pow_right h0 hin) hd
 have h3 : 120 < lenI (x ^ n) := by
  rcases Nat.lt_or_ge 120 (lenI (x ^ n)) with h | h
  ·exact h
  ·exact absurd (dig_wr (x := x ^ n) (by unfold wrE; rw [if_neg (by omega)])) h2
 unfold wrE wrS
 rw [if_pos h3, if_pos h3]
 exact ⟨rfl, rfl⟩
theorem pow_ok (a : ByteArray) (ha : a.size ≤ 90000) (hca : checkI a = 0) (n : Nat) (hn : n ≤ 1000) (w : World) (htab : Tens w) :
 Calls Tryz.prog 31 #[.string a, .int .i64 (n : Int)] w fun e w' => e = .returned (.tuple #[.string (wrS (intI a ^ n)), .int .i64 (wrE (intI a ^ n))]) ∧ Below w.heap.size w w' := by
 have hdx := intI_dig hca
 have HP := parseI_calls a ha hca
 have HC : Aside0 (∀ w, Calls Tryz.prog 12 #[.string a] w fun e w' => e = .returned (.int .i64 0) ∧ Below w.heap.size w w') := ⟨fun w => hca ▸ check_calls a (by omega) w⟩
 have HB := Aside0.mk (Below.refl w.heap.size w)
 have hn0 : decide ((n : Int) < 0) = false := decide_eq_false (by omega)
 have hn1 : decide ((1000 : Int) < (n : Int)) = false := decide_eq_false (by omega)
 clear hca ha
 generalize intI a = x at *
 obtain ⟨fn, hfn⟩ : ∃ fn : Nat → Bool, ∀ i, fn i = decide (x ^ i < 0) := ⟨_, fun _ => rfl⟩
 obtain ⟨mn, hmn⟩ : ∃ mn : Nat → Nat, ∀ i, mn i = (x ^ i).natAbs := ⟨_, fun _ => rfl⟩
 obtain ⟨En, hEn⟩ : ∃ En : Nat → Int, ∀ i, En i = wrE (x ^ i) := ⟨_, fun _ => rfl⟩
 obtain ⟨Sn, hSn⟩ : ∃ Sn : Nat → ByteArray, ∀ i, Sn i = wrS (x ^ i) := ⟨_, fun _ => rfl⟩
 have HT : Aside0 (∀ (W : World) (A1 A2 : Option Addr) (L1 L2 : Nat) (i : Nat), En i = 0 → Mag W W.heap.size A1 L1 (mn i) → Mag W W.heap.size A2 L2 x.natAbs → Calls Tryz.prog 85 #[.agg #[.slice A1 L1 L1, .bool (fn i)], .agg #[.slice A2 L2 L2, .bool (decide (x < 0))]] W fun e w' => ∃ A k, e = .returned (.agg #[.slice A k k, .bool (fn (i + 1))]) ∧ Mag w' w'.heap.size A k (mn (i + 1)) ∧ Below W.heap.size W w') := ⟨fun W A1 A2 L1 L2 i hi h1 h2 => by
  rw [hmn] at h1
  rw [hEn] at hi
  rw [hmn, hfn, hfn, Int.pow_succ]
  exact op2_times ((dig_wr hi).more (by omega)) (hdx.more (by omega)) W A1 A2 L1 L2 h1 h2⟩
 have HW : Aside0 (∀ (W : World) (A : Option Addr) (L : Nat) (i : Nat), Below w.heap.size w W → Mag W W.heap.size A L (mn i) → Calls Tryz.prog 91 #[.agg #[.slice A L L, .bool (fn i)]] W fun e w' => e = .returned (.tuple #[.string (Sn i), .int .i64 (En i)]) ∧ Below W.heap.size W w') := ⟨fun W A L i hb hm => by
  rw [hmn] at hm
  rw [hSn, hEn, hfn]
  exact written_calls hm (Nat.le_refl _) (htab.below hb)⟩
 have HBIG : Aside0 (∀ i, i ≤ n → En i ≠ 0 → En n = 4 ∧ Sn n = ⟨#[]⟩) := ⟨fun i hi h => by rw [hEn] at h; rw [hEn, hSn]; exact pow_big hi h⟩
 have H4 : Aside0 (∀ i, En i = 0 ∨ En i = 4) := ⟨fun i => by rw [hEn]; unfold wrE; split <;> simp⟩
 have HE0 : Aside0 (En 0 = 0 ∧ fn 0 = false ∧ mn 0 = 1) := ⟨by rw [hEn, hfn, hmn]; exact ⟨(wr_dig (x := x ^ 0) (by unfold Dig; rw [Int.pow_zero]; decide)).1, by simp, by simp⟩⟩
 rw [← hSn, ← hEn]
 have HP := Aside0.mk HP
 have HS := Aside0.mk small_one
 clear hdx hfn hmn hEn hSn htab
 generalize decide (x < 0) = fx at *
 generalize x.natAbs = mx at *
 go_enter Tryz.func31, Tryz.ntmps31
 go_wp2_with (first
  | (go_at_call 12; ((with_reducible refine (HC.out _).mono ?_); rintro e w1 ⟨rfl, hb1⟩; obtain ⟨hc1, hf1⟩ := bcell hb1; have nB1 : Aside0 (Below w.heap.size w w1) := sb hb1; clear HB; have HB := nB1; clear nB1))
  | (go_at_call 65; (with_reducible refine (when_calls _ _ _).mono ?_); rintro e w' ⟨rfl, rfl⟩)
  | (go_at_call 88; (with_reducible refine (first2_ret _ _ 0 F00.out _ _ (by simp) _).mono ?_); rintro e w' ⟨rfl, rfl⟩)
  | (go_at_call 74; ((with_reducible refine (HP.out _).mono ?_); rintro e w2 ⟨Ax, kx, rfl, hmx, hb2⟩; obtain ⟨hc2, hf2⟩ := bcell hb2; have nB2 : Aside0 (Below w.heap.size w w2) := sb hb2; clear HB; have HB := nB2; clear nB2; have HMX := Aside0.mk hmx; clear hmx))
  | (go_at_call 94; ((with_reducible refine (HS.out _).mono ?_); rintro e w3 ⟨Ao, ko, rfl, hmo, hb3⟩; obtain ⟨hc3, hf3⟩ := bcell hb3; have nB3 : Aside0 (Below w.heap.size w w3) := sb hb3; clear HB; have HB := nB3; clear nB3; have HMO := Aside0.mk hmo; clear hmo)))
 have I0 : Aside0 (PW w w3.heap.size Ax kx fx mx Ao ko (fn 0) (mn 0) ((w3.alloc (.cells #[.slice Ax kx kx, .bool fx] 89)).alloc (.cells #[.slice Ao ko ko, .bool false] 89))) := ⟨by
  have hb : Below w3.heap.size w3 ((w3.alloc (.cells #[.slice Ax kx kx, .bool fx] 89)).alloc (.cells #[.slice Ao ko ko, .bool false] 89)) := by repeat (first | exact Below.refl _ _ | apply below_alloc)
  rw [HE0.out.2.1, HE0.out.2.2]
  exact ⟨(IB.new w3 _ _ _).alloc _, by have h := IB.new (w3.alloc (.cells #[.slice Ax kx kx, .bool fx] 89)) Ao ko false; simpa using h, (HMX.out.up hb3).up hb, HMO.out.up hb, HB.out.trans (hb.mono HB.out.size), HB.out.size⟩⟩
 generalize ((w3.alloc (.cells #[.slice Ax kx kx, .bool fx] 89)).alloc (.cells #[.slice Ao ko ko, .bool false] 89)) = W0 at *
 generalize w3.heap.size = b at *
 clear HMX HMO HB hb3 hc1 hc2 hc3 hf1 hf2 hf3 hb1 hb2
 go_loopw [29] (fun v29 W => ∃ (i : Nat) (A : Option Addr) (L : Nat), v29 = .int .i64 (i : Int) ∧ i ≤ n ∧ Aside0 (En i = 0) ∧ Aside0 (PW w b Ax kx fx mx A L (fn i) (mn i) W)) (fun v29 _ => n - (RowKit.intOf v29).toNat)
 case atStart => exact ⟨0, Ao, ko, rfl, Nat.zero_le _, ⟨HE0.out.1⟩, I0⟩
 case round =>
  obtain ⟨i, A, L, rfl, hi, hEi, HI⟩ := hrel
  have c0 := HI.out.x.cell0
  have c1 := HI.out.x.cell1
  have o0 := HI.out.o.cell0
  have o1 := HI.out.o.cell1
  have e1 : IntKind.i64.wrap ((i : Int) + 1) = ((i + 1 : Nat) : Int) := by rw [IntWalk.i64_in _ (by omega)]; omega
  by_cases hlt : i < n
  ·have hlt' : (i : Int) < (n : Int) := by omega
   obtain ⟨E1, hE1⟩ : ∃ E1, En (i + 1) = E1 := ⟨_, rfl⟩
   have HE1 := Aside0.mk hE1
   have HW1 : Aside0 (∀ (W : World) (A : Option Addr) (L : Nat), Below w.heap.size w W → Mag W W.heap.size A L (mn (i + 1)) → Calls Tryz.prog 91 #[.agg #[.slice A L L, .bool (fn (i + 1))]] W fun e w' => e = .returned (.tuple #[.string (Sn (i + 1)), .int .i64 E1]) ∧ Below W.heap.size W w') := ⟨fun W A L => by rw [← hE1]; exact HW.out W A L (i + 1)⟩
   clear hE1
   by_cases hz : E1 = 0
   ·subst hz
    go_wp2_with (first
     | (go_at_call 85; (with_reducible refine (HT.out _ _ _ _ _ i hEi.out HI.out.mo HI.out.mx).mono ?_); rintro e wt ⟨At, kt, rfl, hmt, hbt⟩; have HI2 := Aside0.mk (HI.out.below hbt); have c0 := HI2.out.o.cell0; have c1 := HI2.out.o.cell1; have f0 := HI2.out.o.fr 0; have f1 := HI2.out.o.fr 1; have HMT := Aside0.mk hmt; clear hmt hbt)
     | (go_at_call 91; (with_reducible refine (HW1.out _ _ _ (HI2.out.put HMT.out (fn (i + 1))).bl (HI2.out.put HMT.out (fn (i + 1))).mo).mono ?_); rintro e ww ⟨rfl, hbw⟩; have HI3 := Aside0.mk ((HI2.out.put HMT.out (fn (i + 1))).below hbw); clear hbw))
    go_roundw
    case rel => exact ⟨i + 1, At, kt, by first | rfl | go_num, hlt, HE1, HI3⟩
    case measure => simp [RowKit.intOf]; omega
   ·have hbe : (E1 != 0) = true := by simp [hz]
    go_wp2_with (first
     | (go_at_call 85; (with_reducible refine (HT.out _ _ _ _ _ i hEi.out HI.out.mo HI.out.mx).mono ?_); rintro e wt ⟨At, kt, rfl, hmt, hbt⟩; have HI2 := Aside0.mk (HI.out.below hbt); have c0 := HI2.out.o.cell0; have c1 := HI2.out.o.cell1; have f0 := HI2.out.o.fr 0; have f1 := HI2.out.o.fr 1; have HMT := Aside0.mk hmt; clear hmt hbt)
     | (go_at_call 91; (with_reducible refine (HW1.out _ _ _ (HI2.out.put HMT.out (fn (i + 1))).bl (HI2.out.put HMT.out (fn (i + 1))).mo).mono ?_); rintro e ww ⟨rfl, hbw⟩; have HI3 := Aside0.mk ((HI2.out.put HMT.out (fn (i + 1))).below hbw); clear hbw))
    go_ret2
    obtain ⟨h1, h2⟩ := HBIG.out (i + 1) hlt (by rw [HE1.out]; exact hz)
    have h3 : E1 = 4 := by rw [← HE1.out]; exact (H4.out (i + 1)).resolve_left (by rw [HE1.out]; exact hz)
    exact ⟨by rw [h1, h2, h3]; rfl, HI3.out.bl⟩
  ·have hlt' : ¬ (i : Int) < (n : Int) := by omega
   obtain rfl : i = n := by omega
   go_wp2_with (first
    | (go_at_call 91; (with_reducible refine (HW.out _ _ _ _ HI.out.bl HI.out.mo).mono ?_); rintro e ww ⟨rfl, hbw⟩; have HI3 := Aside0.mk (HI.out.below hbw); clear hbw))
   go_ret2
   exact ⟨rfl, HI3.out.bl⟩
/-- The error of a power's arguments; what Pow answers. -/
def powE (a : ByteArray) (n : Int) : Int := firstI [checkI a, if n < 0 ∨ 1000 < n then 3 else 0]
def powS (a : ByteArray) (n : Int) : ByteArray := if powE a n = 0 then wrS (intI a ^ n.toNat) else ⟨#[]⟩
def powR (a : ByteArray) (n : Int) : Int := if powE a n = 0 then wrE (intI a ^ n.toNat) else powE a n
theorem powE_zero {a : ByteArray} {n : Int} (h : powE a n = 0) : checkI a = 0 ∧ 0 ≤ n ∧ n ≤ 1000 := by
 unfold powE firstI firstI firstI at h
 split at h
 ·rename_i h1
  refine ⟨h1, ?_⟩
  by_cases h2 : n < 0 ∨ 1000 < n
  ·rw [if_pos h2] at h; simp at h
  ·omega
 ·rename_i h1; exact absurd h h1
theorem pow_calls (a : ByteArray) (ha : a.size ≤ 90000) (n : Int) (w : World) (htab : Tens w) :
 Calls Tryz.prog 31 #[.string a, .int .i64 n] w fun e w' => e = .returned (.tuple #[.string (powS a n), .int .i64 (powR a n)]) ∧ Below w.heap.size w w' := by
 unfold powS powR
 by_cases h : powE a n = 0
 ·obtain ⟨h1, h2, h3⟩ := powE_zero h
  rw [if_pos h, if_pos h]
  obtain ⟨m, rfl⟩ : ∃ m : Nat, n = (m : Int) := ⟨n.toNat, by omega⟩
  rw [show (m : Int).toNat = m from rfl]
  exact pow_ok a ha h1 m (by omega) w htab
 ·rw [if_neg h, if_neg h]
  obtain ⟨E, hE⟩ : ∃ E, powE a n = E := ⟨_, rfl⟩
  rw [hE] at h ⊢
  unfold powE at hE
  have HC : Aside0 (∀ w, Calls Tryz.prog 12 #[.string a] w fun e w' => e = .returned (.int .i64 (checkI a)) ∧ Below w.heap.size w w') := ⟨fun w => check_calls a (by omega) w⟩
  have HB := Aside0.mk (Below.refl w.heap.size w)
  have hbe : (E != 0) = true := by simp [h]
  generalize checkI a = c at *
  by_cases hn : n < 0
  ·rw [if_pos (.inl hn)] at hE
   have HF := Aside0.mk hE
   clear hE h
   go_enter Tryz.func31, Tryz.ntmps31
   go_wp2_with (first
    | (go_at_call 12; ((with_reducible refine (HC.out _).mono ?_); rintro e w1 ⟨rfl, hb1⟩; obtain ⟨hc1, hf1⟩ := bcell hb1; have nB1 : Aside0 (Below w.heap.size w w1) := sb hb1; clear HB; have HB := nB1; clear nB1))
    | (go_at_call 65; (with_reducible refine (when_calls _ _ _).mono ?_); rintro e w' ⟨rfl, rfl⟩)
    | (go_at_call 88; (with_reducible refine (first2_ret _ _ E HF.out _ _ (by simp) _).mono ?_); rintro e w' ⟨rfl, rfl⟩))
   go_ret2
   exact ⟨rfl, bl⟩
  ·by_cases hn2 : 1000 < n
   ·rw [if_pos (.inr hn2)] at hE
    have HF := Aside0.mk hE
    have hd1 : decide (n < 0) = false := decide_eq_false hn
    have hd2 : decide (1000 < n) = true := decide_eq_true hn2
    clear hE h
    go_enter Tryz.func31, Tryz.ntmps31
    go_wp2_with (first
     | (go_at_call 12; ((with_reducible refine (HC.out _).mono ?_); rintro e w1 ⟨rfl, hb1⟩; obtain ⟨hc1, hf1⟩ := bcell hb1; have nB1 : Aside0 (Below w.heap.size w w1) := sb hb1; clear HB; have HB := nB1; clear nB1))
     | (go_at_call 65; (with_reducible refine (when_calls _ _ _).mono ?_); rintro e w' ⟨rfl, rfl⟩)
     | (go_at_call 88; (with_reducible refine (first2_ret _ _ E HF.out _ _ (by simp) _).mono ?_); rintro e w' ⟨rfl, rfl⟩))
    go_ret2
    exact ⟨rfl, bl⟩
   ·rw [if_neg (by omega)] at hE
    have HF := Aside0.mk hE
    have hd1 : decide (n < 0) = false := decide_eq_false hn
    have hd2 : decide (1000 < n) = false := decide_eq_false hn2
    clear hE h
    go_enter Tryz.func31, Tryz.ntmps31
    go_wp2_with (first
     | (go_at_call 12; ((with_reducible refine (HC.out _).mono ?_); rintro e w1 ⟨rfl, hb1⟩; obtain ⟨hc1, hf1⟩ := bcell hb1; have nB1 : Aside0 (Below w.heap.size w w1) := sb hb1; clear HB; have HB := nB1; clear nB1))
     | (go_at_call 65; (with_reducible refine (when_calls _ _ _).mono ?_); rintro e w' ⟨rfl, rfl⟩)
     | (go_at_call 88; (with_reducible refine (first2_ret _ _ E HF.out _ _ (by simp) _).mono ?_); rintro e w' ⟨rfl, rfl⟩))
    go_ret2
    exact ⟨rfl, bl⟩
/-- The variables that the calls read. -/
structure EN (w : World) : Prop where
 tens : Tens w
 mln : ∃ m, w.cell? ⟨4, 0, none⟩ = some (.int .i64 m)
 syn : ∃ tp p, w.var? Tryz.prog "strconv.ErrSyntax" = some #[.iface tp p]
 ran : ∃ tp p, w.var? Tryz.prog "strconv.ErrRange" = some #[.iface tp p]
 ops : ∀ j : Nat, j < 10 → w.cell? ⟨0, 2 * j, none⟩ = some (.func (.func (221 + j)) #[] #[]) ∧ w.cell? ⟨0, 2 * j + 1, none⟩ = some (.bool (decide (j = 3 ∨ j = 4)))
theorem var_below {w w' : World} {n : String} {v : Array Value} (h : w.var? Tryz.prog n = some v) (hb : Below w.heap.size w w') : w'.var? Tryz.prog n = some v := by
 unfold World.var? at *
 cases hg : Tryz.prog.globalNamed n with
 | none => simp [hg] at h
 | some g =>
   simp only [hg, Option.bind_some] at h ⊢
   have hlt : g < w.heap.size := by
    rcases Nat.lt_or_ge g w.heap.size with h' | h'
    ·exact h'
    ·rw [Array.getElem?_eq_none h'] at h; simp at h
   rw [hb.block g hlt]
   exact h
theorem EN.below {w w' : World} (h : EN w) (hb : Below w.heap.size w w') : EN w' := by
 obtain ⟨m, hm⟩ := h.mln
 obtain ⟨tp, p, hs⟩ := h.syn
 obtain ⟨tq, q, hr⟩ := h.ran
 exact ⟨h.tens.below hb, ⟨m, pw_cell_below hb hm⟩, ⟨tp, p, var_below hs hb⟩, ⟨tq, q, var_below hr hb⟩, fun j hj => ⟨pw_cell_below hb (h.ops j hj).1, pw_cell_below hb (h.ops j hj).2⟩⟩
theorem dv_cons (c : UInt8) (l : List UInt8) : dv (c :: l) = (c.toNat - 48) * 10 ^ l.length + dv l := by
 show List.foldl _ _ _ = _
 rw [List.foldl_cons, Nat.mul_zero, Nat.zero_add]
 exact dv_from l _
theorem parseM_eq : ∀ (l : List UInt8) (acc : Nat), DG l → Lib.parseUintM 18446744073709551615 acc l = if acc * 10 ^ l.length + dv l ≤ 18446744073709551615 ∨ l = [] then .ok (acc * 10 ^ l.length + dv l) else .range
 | [], acc, _ => by rw [if_pos (.inr rfl)]; simp [Lib.parseUintM, dv]
 | c :: l, acc, h => by
   have hc := h c (by simp)
   have hl : DG l := fun d hd => h d (by simp [hd])
   have e : acc * 10 ^ (c :: l).length + dv (c :: l) = (acc * 10 + (c.toNat - 48)) * 10 ^ l.length + dv l := by
    rw [dv_cons, List.length_cons, Nat.pow_succ, Nat.add_mul, Nat.mul_assoc acc 10, Nat.mul_comm 10, Nat.add_assoc]
   rw [e]
   have hp : 0 < 10 ^ l.length := Nat.pow_pos (by decide)
   have hge : (acc * 10 + (c.toNat - 48)) ≤ (acc * 10 + (c.toNat - 48)) * 10 ^ l.length := Nat.le_mul_of_pos_right _ hp
   rw [Lib.parseUintM, if_pos hc]
   by_cases h1 : 1844674407370955162 ≤ acc
   ·rw [if_pos h1, if_neg (by simp; omega)]
   ·rw [if_neg h1]
    by_cases h2 : 18446744073709551615 < acc * 10 + (c.toNat - 48)
    ·rw [if_pos h2, if_neg (by simp; omega)]
    ·rw [if_neg h2, parseM_eq l _ hl]
     by_cases h4 : l = []
     ·subst h4
      rw [if_pos (.inr rfl), if_pos (.inl (by simp [dv]; omega))]
     ·by_cases h3 : (acc * 10 + (c.toNat - 48)) * 10 ^ l.length + dv l ≤ 18446744073709551615
      ·rw [if_pos (.inl h3), if_pos (.inl h3)]
      ·rw [if_neg (by rintro (h | h); exact h3 h; exact h4 h), if_neg (by rintro (h | h); exact h3 h; cases h)]
theorem parseU_eq {l : List UInt8} (h : DG l) (h0 : l ≠ []) : Lib.parseUintB 64 l = if dv l ≤ 18446744073709551615 then .ok (dv l) else .range := by
 unfold Lib.parseUintB
 rw [if_neg h0, show (2 ^ 64 - 1 : Nat) = 18446744073709551615 from rfl, parseM_eq l 0 h]
 simp [h0]
theorem list_of {s : ByteArray} (h : checkI s = 0) : DG (bodyB s).data.toList ∧ (bodyB s).data.toList ≠ [] ∧ s.data.toList = (if minusB s = true then [45] else []) ++ (bodyB s).data.toList := by
 obtain ⟨h1, h2⟩ := check_ok h
 refine ⟨isDig_of (by unfold digitsB at h1; simp only [Bool.and_eq_true] at h1; exact h1.1), fun e => ?_, ?_⟩
 ·have := digits_pos h1
  have h3 : (bodyB s).data.toList.length = (bodyB s).size := by simp
  rw [e] at h3
  simp at h3
  omega
 ·unfold minusB bodyB Lib.trimPrefix
  by_cases hp : Lib.hasPrefix s.data.toList [45] = true
  ·rw [if_pos hp, if_pos hp]
   unfold Lib.hasPrefix at hp
   cases hl : s.data.toList with
   | nil => rw [hl] at hp; simp at hp
   | cons c r =>
     rw [hl] at hp
     simp at hp
     subst hp
     simp
  ·rw [if_neg hp, if_neg hp]; simp
/-- Does an integer fit into 64 bits. -/
def fit64 (x : Int) : Bool := decide (-9223372036854775808 ≤ x) && decide (x ≤ 9223372036854775807)
theorem e63 : (2 : Nat) ^ (64 - 1) = 9223372036854775808 := rfl
theorem parseI_eq {s : ByteArray} (h : checkI s = 0) : Lib.parseIntB 64 s.data.toList = if fit64 (intI s) = true then .ok (intI s) else .range := by
 obtain ⟨h1, h2, h3⟩ := list_of h
 have hU := parseU_eq h1 h2
 unfold intI fit64
 rw [h3]
 generalize (bodyB s).data.toList = l at *
 by_cases hm : minusB s = true
 ·rw [if_pos hm, if_pos hm]
  simp only [List.cons_append, List.nil_append]
  unfold Lib.parseIntB
  simp only
  rw [if_pos (.inr (by decide)), hU]
  by_cases h4 : dv l ≤ 18446744073709551615
  ·rw [if_pos h4]
   simp only
   by_cases h5 : dv l ≤ 9223372036854775808
   ·have hfit : (decide (-9223372036854775808 ≤ -(dv l : Int)) && decide (-(dv l : Int) ≤ 9223372036854775807)) = true := by simp only [Bool.and_eq_true, decide_eq_true_eq]; omega
    rw [if_pos hfit, e63, if_neg (by simp), if_neg (by simp; omega)]; simp
   ·rw [e63, if_neg (by simp), if_pos (by simp; omega), if_neg (by simp only [Bool.and_eq_true, decide_eq_true_eq]; omega)]
  ·rw [if_neg h4]
   simp only
   rw [if_neg (by simp only [Bool.and_eq_true, decide_eq_true_eq]; omega)]
 ·rw [if_neg hm, if_neg hm, List.nil_append]
  cases l with
  | nil => exact absurd rfl h2
  | cons c r =>
    have hc := h1 c (by simp)
    unfold Lib.parseIntB
    simp only
    rw [if_neg (by omega), hU]
    by_cases h4 : dv (c :: r) ≤ 18446744073709551615
    ·rw [if_pos h4]
     simp only
     by_cases h5 : dv (c :: r) < 9223372036854775808
     ·have hfit : (decide (-9223372036854775808 ≤ (dv (c :: r) : Int)) && decide ((dv (c :: r) : Int) ≤ 9223372036854775807)) = true := by simp only [Bool.and_eq_true, decide_eq_true_eq]; omega
      have hn45 : ¬ c.toNat = 45 := by omega
      rw [if_pos hfit, e63, if_neg (by omega), if_neg (by omega), if_neg hn45]
     ·rw [e63, if_pos (by omega), if_neg (by simp only [Bool.and_eq_true, decide_eq_true_eq]; omega)]
    ·rw [if_neg h4]
     simp only
     rw [if_neg (by simp only [Bool.and_eq_true, decide_eq_true_eq]; omega)]
theorem parseInt_ok (s : ByteArray) (hs : s.size ≤ 90000) (hc : checkI s = 0) (hf : fit64 (intI s) = true) (w : World) :
 Calls Tryz.prog 71 #[.string s, .int .i64 10, .int .i64 64] w fun e w' => e = .returned (.tuple #[.int .i64 (intI s), .nilIface]) ∧ Below w.heap.size w w' := by
 refine (Tryz.strconv_ParseInt_10_at64_ok s (by omega) (intI s) (by rw [parseI_eq hc, if_pos hf]) w).mono ?_
 rintro e w' ⟨rfl, h⟩
 refine ⟨rfl, ?_⟩
 rcases h with rfl | ⟨t, rfl⟩
 ·exact Below.refl _ _
 ·exact bytes_below (Below.refl _ _) (Nat.le_refl _) _ _
theorem parseInt_bad (s : ByteArray) (hs : s.size ≤ 90000) (hc : checkI s = 0) (hf : fit64 (intI s) = false) (w : World) (hE : EN w) :
 Calls Tryz.prog 71 #[.string s, .int .i64 10, .int .i64 64] w fun e w' => ∃ v t p, e = .returned (.tuple #[.int .i64 v, .iface t p]) ∧ Below w.heap.size w w' := by
 obtain ⟨tp, p, hr⟩ := hE.ran
 refine (Tryz.strconv_ParseInt_10_at64_range_var s (by omega) (by rw [parseI_eq hc, if_neg (by simp [hf])]) tp p w hr).mono ?_
 rintro e w' ⟨N, rfl, h1, h2, h3⟩
 exact ⟨_, _, _, rfl, h3⟩
/-- What ToInt answers. -/
def toIV (s : ByteArray) : Int := if checkI s = 0 then (if fit64 (intI s) = true then intI s else 0) else 0
def toIE (s : ByteArray) : Int := if checkI s = 0 then (if fit64 (intI s) = true then 0 else 4) else checkI s
theorem toInt_calls (s : ByteArray) (hs : s.size ≤ 90000) (w : World) (hE : EN w) :
 Calls Tryz.prog 16 #[.string s] w fun e w' => e = .returned (.tuple #[.int .i64 (toIV s), .int .i64 (toIE s)]) ∧ Below w.heap.size w w' := by
 unfold toIV toIE
 have HC := Aside0.mk (fun w => check_calls s (by omega) w)
 have HB := Aside0.mk (Below.refl w.heap.size w)
 by_cases hc : checkI s = 0
 ·rw [if_pos hc, if_pos hc]
  by_cases hf : fit64 (intI s) = true
  ·have HP := Aside0.mk (parseInt_ok s hs hc hf)
   rw [if_pos hf, if_pos hf]
   have hb1 : -9223372036854775808 ≤ intI s ∧ intI s ≤ 9223372036854775807 := by unfold fit64 at hf; simpa using hf
   rw [hc] at HC
   clear hf hc hE
   generalize intI s = x at *
   have e1 : IntKind.i64.wrap x = x := IntWalk.i64_in _ hb1
   go_enter Tryz.func16, Tryz.ntmps16
   go_wp2_with (first
    | (go_at_call 12; ((with_reducible refine (HC.out _).mono ?_); rintro e w1 ⟨rfl, hb1⟩; obtain ⟨hc1, hf1⟩ := bcell hb1; have nB1 : Aside0 (Below w.heap.size w w1) := sb hb1; clear HB; have HB := nB1; clear nB1))
    | (go_at_call 71; ((with_reducible refine (HP.out _).mono ?_); rintro e w2 ⟨rfl, hb2⟩; obtain ⟨hc2, hf2⟩ := bcell hb2; have nB2 : Aside0 (Below w.heap.size w w2) := sb hb2; clear HB; have HB := nB2; clear nB2)))
   go_ret2
   exact ⟨rfl, bl⟩
  ·have hf' : fit64 (intI s) = false := by simpa using hf
   have HP : Aside0 (∀ W, Below w.heap.size w W → Calls Tryz.prog 71 #[.string s, .int .i64 10, .int .i64 64] W fun e w' => ∃ v t p, e = .returned (.tuple #[.int .i64 v, .iface t p]) ∧ Below W.heap.size W w') := ⟨fun W hb => parseInt_bad s hs hc hf' W (hE.below hb)⟩
   rw [if_neg hf, if_neg hf]
   rw [hc] at HC
   clear hf hf' hc hE
   go_enter Tryz.func16, Tryz.ntmps16
   go_wp2_with (first
    | (go_at_call 12; ((with_reducible refine (HC.out _).mono ?_); rintro e w1 ⟨rfl, hb1⟩; obtain ⟨hc1, hf1⟩ := bcell hb1; have nB1 : Aside0 (Below w.heap.size w w1) := sb hb1; clear HB; have HB := nB1; clear nB1))
    | (go_at_call 71; ((with_reducible refine (HP.out _ bl).mono ?_); rintro e w2 ⟨v, t, p, rfl, hb2⟩; obtain ⟨hc2, hf2⟩ := bcell hb2; have nB2 : Aside0 (Below w.heap.size w w2) := sb hb2; clear HB; have HB := nB2; clear nB2)))
   go_ret2
   exact ⟨rfl, bl⟩
 ·rw [if_neg hc, if_neg hc]
  generalize checkI s = E at *
  have hbe : (E != 0) = true := by simp [hc]
  go_enter Tryz.func16, Tryz.ntmps16
  go_wp2_with (first | (go_at_call 12; ((with_reducible refine (HC.out _).mono ?_); rintro e w1 ⟨rfl, hb1⟩; obtain ⟨hc1, hf1⟩ := bcell hb1; have nB1 : Aside0 (Below w.heap.size w w1) := sb hb1; clear HB; have HB := nB1; clear nB1)))
  go_ret2
  exact ⟨rfl, bl⟩
/-- The parts of a string about a byte. -/
def cutA (c : UInt8) (s : ByteArray) : ByteArray := ⟨(Lib.cut s.data.toList [c]).1.toArray⟩
def cutB (c : UInt8) (s : ByteArray) : ByteArray := ⟨(Lib.cut s.data.toList [c]).2.1.toArray⟩
def cutF (c : UInt8) (s : ByteArray) : Bool := (Lib.cut s.data.toList [c]).2.2
theorem cut_size (c : UInt8) (s : ByteArray) : (cutA c s).size ≤ s.size ∧ (cutB c s).size ≤ s.size := by
 have e : s.data.toList.length = s.size := by simp
 constructor
 ·show (Lib.cut s.data.toList [c]).1.toArray.size ≤ _
  unfold Lib.cut
  split <;> simp <;> omega
 ·show (Lib.cut s.data.toList [c]).2.1.toArray.size ≤ _
  unfold Lib.cut
  split <;> simp
theorem cut1_calls (c : UInt8) (s : ByteArray) (hs : s.size ≤ 90000) (w : World) (hE : EN w) :
 Calls Tryz.prog 118 #[.string s, .string ⟨#[c]⟩] w fun e w' => e = .returned (.tuple #[.string (cutA c s), .string (cutB c s), .bool (cutF c s)]) ∧ Below w.heap.size w w' := by
 obtain ⟨m, hm⟩ := hE.mln
 refine (Tryz.strings_Cut s ⟨#[c]⟩ m w (by omega) hm).mono ?_
 rintro e w' ⟨rfl, n, rfl⟩
 exact ⟨rfl, pw_below_drewN (Below.refl _ _) _⟩
/-- Does a string hold a byte. -/
def hasB (c : UInt8) (s : ByteArray) : Bool := decide (0 ≤ Lib.indexByte s.data.toList c)
theorem contains_calls (c : UInt8) (s : ByteArray) (w : World) : Calls Tryz.prog 119 #[.string s, .string ⟨#[c]⟩] w fun e w' => e = .returned (.bool (hasB c s)) ∧ w' = w :=
 Tryz.strings_Contains_one s c w
/-- A fraction's variable. -/
def FB (W : World) (b : Nat) (A1 : Option Addr) (L1 : Nat) (f1 : Bool) (A2 : Option Addr) (L2 : Nat) (f2 : Bool) : Prop := W.heap[b]? = some (.cells #[.slice A1 L1 L1, .bool f1, .slice A2 L2 L2, .bool f2] 116 (0, 0))
section
variable {W X : World} {b : Nat} {A1 : Option Addr} {L1 : Nat} {f1 : Bool} {A2 : Option Addr} {L2 : Nat} {f2 : Bool}
theorem FB.cell0 (h : FB W b A1 L1 f1 A2 L2 f2) : W.cell? ⟨b, 0, none⟩ = some (.slice A1 L1 L1) := by rw [Lib.cell_of_heap h]; rfl
theorem FB.cell1 (h : FB W b A1 L1 f1 A2 L2 f2) : W.cell? ⟨b, 1, none⟩ = some (.bool f1) := by rw [Lib.cell_of_heap h]; rfl
theorem FB.cell2 (h : FB W b A1 L1 f1 A2 L2 f2) : W.cell? ⟨b, 2, none⟩ = some (.slice A2 L2 L2) := by rw [Lib.cell_of_heap h]; rfl
theorem FB.cell3 (h : FB W b A1 L1 f1 A2 L2 f2) : W.cell? ⟨b, 3, none⟩ = some (.bool f2) := by rw [Lib.cell_of_heap h]; rfl
theorem FB.fr (h : FB W b A1 L1 f1 A2 L2 f2) (o : Nat) : W.frozen? ⟨b, o, none⟩ = false := Lib.frozen_of_heap h o
theorem FB.lt (h : FB W b A1 L1 f1 A2 L2 f2) : b < W.heap.size := (Array.getElem?_eq_some_iff.1 h).1
theorem FB.below (h : FB W b A1 L1 f1 A2 L2 f2) (hb : Below W.heap.size W X) : FB X b A1 L1 f1 A2 L2 f2 := (hb.block b h.lt).trans h
theorem FB.put (h : FB W b A1 L1 f1 A2 L2 f2) (B1 : Option Addr) (K1 : Nat) (g1 : Bool) (B2 : Option Addr) (K2 : Nat) (g2 : Bool) :
 FB ((((W.setCell ⟨b, 0, none⟩ (.slice B1 K1 K1)).setCell ⟨b, 1, none⟩ (.bool g1)).setCell ⟨b, 2, none⟩ (.slice B2 K2 K2)).setCell ⟨b, 3, none⟩ (.bool g2)) b B1 K1 g1 B2 K2 g2 := by
 unfold FB at *
 simp [World.setCell, Array.getElem?_modify, h]
theorem FB.other (h : FB W b A1 L1 f1 A2 L2 f2) {c : Nat} (hne : c ≠ b) (o : Nat) (u : Value) : FB (W.setCell ⟨c, o, none⟩ u) b A1 L1 f1 A2 L2 f2 := by
 unfold FB at *
 rw [Below.heap_setCell _ _ _ _ (fun e => hne (by first | exact e | exact e.symm))]
 exact h
theorem FB.mag (h : FB W b A1 L1 f1 A2 L2 f2) {B L n : Nat} {A : Option Addr} (hm : Mag W B A L n) (u u' v v' : Value) : Mag ((((W.setCell ⟨b, 0, none⟩ u).setCell ⟨b, 1, none⟩ u').setCell ⟨b, 2, none⟩ v).setCell ⟨b, 3, none⟩ v') B A L n :=
 have hp := hm.apart h.cell0 (fun d => by simp)
 (((hm.setA hp 0 u).setA hp 1 u').setA hp 2 v).setA hp 3 v'
theorem FB.new (W : World) (A1 : Option Addr) (L1 : Nat) (f1 : Bool) (A2 : Option Addr) (L2 : Nat) (f2 : Bool) : FB (W.alloc (.cells #[.slice A1 L1 L1, .bool f1, .slice A2 L2 L2, .bool f2] 116)) W.heap.size A1 L1 f1 A2 L2 f2 := heap_alloc_new W _
theorem FB.alloc (h : FB W b A1 L1 f1 A2 L2 f2) (o : Obj) : FB (W.alloc o) b A1 L1 f1 A2 L2 f2 := h.below (below_alloc (Below.refl _ _) _)
end
theorem below_put4 {B : Nat} {w W : World} (h : Below B w W) {b : Nat} (hb : B ≤ b) (u u' v v' : Value) : Below B w ((((W.setCell ⟨b, 0, none⟩ u).setCell ⟨b, 1, none⟩ u').setCell ⟨b, 2, none⟩ v).setCell ⟨b, 3, none⟩ v') :=
 (((h.setCell (p := ⟨b, 0, none⟩) hb _).setCell (p := ⟨b, 1, none⟩) hb _).setCell (p := ⟨b, 2, none⟩) hb _).setCell (p := ⟨b, 3, none⟩) hb _
/-- The value of a fraction. -/
def fV (A1 : Option Addr) (L1 : Nat) (p : Int) (A2 : Option Addr) (L2 : Nat) (q : Int) : Value := .agg #[.slice A1 L1 L1, .bool (decide (p < 0)), .slice A2 L2 L2, .bool (decide (q < 0))]
theorem real_calls (s : ByteArray) (hs : s.size ≤ 90000) (h1 : checkI (cutA 47 s) = 0) (h2 : checkI (cutB 47 s) = 0) (w : World) (hE : EN w) :
 Calls Tryz.prog 107 #[.string s] w fun e w' => ∃ A1 k1 A2 k2, e = .returned (fV A1 k1 (intI (cutA 47 s)) A2 k2 (intI (cutB 47 s))) ∧ Mag w' w'.heap.size A1 k1 (intI (cutA 47 s)).natAbs ∧ Mag w' w'.heap.size A2 k2 (intI (cutB 47 s)).natAbs ∧ Below w.heap.size w w' := by
 obtain ⟨hz1, hz2⟩ := cut_size 47 s
 have hC := cut1_calls 47 s hs
 have hP1 := parseI_calls (cutA 47 s) (by omega) h1
 have hP2 := parseI_calls (cutB 47 s) (by omega) h2
 have hC : ∀ W, Below w.heap.size w W → Calls Tryz.prog 118 #[.string s, .string ⟨#[47]⟩] W fun e w' => e = .returned (.tuple #[.string (cutA 47 s), .string (cutB 47 s), .bool (cutF 47 s)]) ∧ Below W.heap.size W w' := fun W hb => hC W (hE.below hb)
 unfold fV
 generalize cutF 47 s = F at *
 generalize cutA 47 s = a at *
 generalize cutB 47 s = b at *
 generalize decide (intI a < 0) = fa at *
 generalize (intI a).natAbs = ma at *
 generalize decide (intI b < 0) = fb at *
 generalize (intI b).natAbs = mb at *
 have HC := Aside0.mk hC
 have HP1 := Aside0.mk hP1
 have HP2 := Aside0.mk hP2
 have HB := Aside0.mk (Below.refl w.heap.size w)
 clear hC hP1 hP2 h1 h2 hE
 go_enter Tryz.func107, Tryz.ntmps107
 go_wp2_with (first
  | (go_at_call 118; ((with_reducible refine (HC.out _ bl).mono ?_); rintro e w1 ⟨rfl, hb1⟩; obtain ⟨hc1, hf1⟩ := bcell hb1; have z1_0 : (w.heap.size) < w1.heap.size := zb hb1; have nB1 : Aside0 (Below w.heap.size w w1) := sb hb1; clear HB; have HB := nB1; clear nB1))
  | (go_at_call 74; ((with_reducible refine (HP1.out _).mono ?_); rintro e w2 ⟨A1, k1, rfl, hm1, hb2⟩; obtain ⟨hc2, hf2⟩ := bcell hb2; have z2_0 : (w.heap.size) < w2.heap.size := zb hb2; have nB2 : Aside0 (Below w.heap.size w w2) := sb hb2; clear HB; have HB := nB2; clear nB2; have HM1 := Aside0.mk hm1; clear hm1 HP1))
  | (go_at_call 74; ((with_reducible refine (HP2.out _).mono ?_); rintro e w3 ⟨A2, k2, rfl, hm2, hb3⟩; obtain ⟨hc3, hf3⟩ := bcell hb3; have z3_0 : (w.heap.size) < w3.heap.size := zb hb3; have nB3 : Aside0 (Below w.heap.size w w3) := sb hb3; clear HB; have HB := nB3; clear nB3; have HM2 := Aside0.mk hm2; clear hm2)))
 have q : FB w3 w.heap.size none 0 false none 0 false := (((FB.new w none 0 false none 0 false).below hb1).below hb2).below hb3
 have q0 := q.cell0
 have q1 := q.cell1
 have q2 := q.cell2
 have q3 := q.cell3
 refine bodyPost_ret (v := .agg #[.slice A1 k1 k1, .bool fa, .slice A2 k2 k2, .bool fb]) (by simp [results, Tryz.results107, go_sem, q0, q1, q2, q3]) rfl ⟨A1, k1, A2, k2, rfl, ?_, ?_, ?_⟩
 ·exact (q.mag (HM1.out.up hb3) _ _ _ _).more (by simp)
 ·exact (q.mag HM2.out _ _ _ _).more (by simp)
 ·exact below_put4 HB.out (Nat.le_refl _) _ _ _ _
end
end Go.Proofs.YtillgofjlpjbcaaGreatDoor.Nm
