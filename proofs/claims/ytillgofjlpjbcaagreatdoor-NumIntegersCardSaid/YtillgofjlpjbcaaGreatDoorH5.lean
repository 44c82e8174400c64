import Derived.Test.YtillgofjlpjbcaaGreatDoorH4
/- Own text: contracts and laws on which the card rests (NmW). -/
set_option linter.unusedVariables false
set_option linter.unusedSimpArgs false
set_option maxRecDepth 1000000
set_option maxHeartbeats 16000000
namespace Go.Proofs.YtillgofjlpjbcaaGreatDoor.Nm
section
open Go.Proofs.YtillgofjlpjbcaaGreatDoor.Rf Go.Proofs.YtillgofjlpjbcaaGreatDoorW.PrintLast Go.Proofs.YtillgofjlpjbcaaGreatDoorW.PrintMore Go.Proofs.YtillgofjlpjbcaaGreatDoorW.PrintWords Go.RowKit Go.Shelf
theorem short_any {w W : World} {B : Nat} {A : Option Addr} {L m d : Nat} (h1 : Mag w B A L m) (hB : B ≤ w.heap.size) (hd0 : 0 < d) (hd1 : d < BB) (hb : Below w.heap.size w W) :
 Calls Tryz.prog 179 #[.agg #[.slice A L L], .int .u32 (d : Int)] W fun e w' => ∃ A1 k1 A2 k2, e = .returned (.tuple #[.agg #[.slice A1 k1 k1], .agg #[.slice A2 k2 k2]]) ∧ Mag w' w'.heap.size A1 k1 (m / d) ∧ Mag w' w'.heap.size A2 k2 (m % d) ∧ Below W.heap.size W w' :=
 short_calls (h1.keep hB hb) (Nat.le_trans hB hb.size) hd0 hd1
/-- What div says. -/
def DivPost (w : World) (m n : Nat) (e : Ending) (w' : World) : Prop := ∃ A1 k1 A2 k2, e = .returned (.tuple #[.agg #[.slice A1 k1 k1], .agg #[.slice A2 k2 k2]]) ∧ Mag w' w'.heap.size A1 k1 (m / n) ∧ Mag w' w'.heap.size A2 k2 (m % n) ∧ Below w.heap.size w w'
theorem divPost_of {w : World} {m n q r : Nat} {e : Ending} {w' : World} (hq : q = m / n) (hr : r = m % n) {A1 A2 : Option Addr} {k1 k2 : Nat} (he : e = .returned (.tuple #[.agg #[.slice A1 k1 k1], .agg #[.slice A2 k2 k2]])) (h1 : Mag w' w'.heap.size A1 k1 q) (h2 : Mag w' w'.heap.size A2 k2 r) (hb : Below w.heap.size w w') : DivPost w m n e w' := by
 subst hq hr
 exact ⟨A1, k1, A2, k2, he, h1, h2, hb⟩
theorem div_small {w : World} {B : Nat} {A1 A2 : Option Addr} {L1 L2 m n : Nat} (h1 : Mag w B A1 L1 m) (h2 : Mag w B A2 L2 n) (hB : B ≤ w.heap.size) (hlt : m < n) :
 Calls Tryz.prog 151 #[.agg #[.slice A1 L1 L1], .agg #[.slice A2 L2 L2]] w (DivPost w m n) := by
 have H1 : Aside0 (Mag w B A1 L1 m) := ⟨h1⟩
 have H2 : Aside0 (Mag w B A2 L2 n) := ⟨h2⟩
 have HV : Aside0 (cmpI (m : Int) n = -1 ∧ 0 = m / n ∧ m = m % n) := ⟨by unfold cmpI; rw [if_pos (by omega)], (Nat.div_eq_of_lt hlt).symm, (Nat.mod_eq_of_lt hlt).symm⟩
 clear h1 h2 hlt
 go_enter Tryz.func151, Tryz.ntmps151
 go_wp2_with (go_at_call 144; (with_reducible refine (order_any H1.out H2.out hB (by repeat (first | exact Below.refl _ _ | apply below_alloc)) HV.out.1).mono ?_); rintro e wr ⟨rfl, hbr⟩)
 obtain ⟨f0, f1⟩ := bcell hbr
 have HX : Aside0 (wr.cell? ⟨w.heap.size, 0, none⟩ = some (.slice A1 L1 L1) ∧ wr.cell? ⟨w.heap.size + 1, 0, none⟩ = some (.slice A2 L2 L2)) := ⟨(f0 _ _ (by first | (simp; done) | (simp; omega))).trans (by simp [go_sem]), (f0 _ _ (by first | (simp; done) | (simp; omega))).trans (by simp [go_sem])⟩
 have g2 : wr.cell? ⟨w.heap.size + 1 + 1, 0, none⟩ = some (.slice none 0 0) := (f0 _ _ (by first | (simp; done) | (simp; omega))).trans (by simp [go_sem])
 have gf2 : wr.frozen? ⟨w.heap.size + 1 + 1, 0, none⟩ = false := (f1 _ _ (by first | (simp; done) | (simp; omega))).trans (by simp [go_sem])
 have g3 : wr.cell? ⟨w.heap.size + 1 + 1 + 1, 0, none⟩ = some (.slice none 0 0) := (f0 _ _ (by first | (simp; done) | (simp; omega))).trans (by simp [go_sem])
 have gf3 : wr.frozen? ⟨w.heap.size + 1 + 1 + 1, 0, none⟩ = false := (f1 _ _ (by first | (simp; done) | (simp; omega))).trans (by simp [go_sem])
 have HA : Aside0 (Below w.heap.size w wr ∧ w.heap.size + 4 ≤ wr.heap.size) := ⟨below_step (by repeat (first | exact Below.refl _ _ | apply below_alloc)) hbr, by have := hbr.size; simp at this; omega⟩
 clear f0 f1 hbr
 rename_i K1 hK1 K hK
 have c0 := HX.out.1
 refine wp_region_held_drew (S := (fun V => V.cell? ⟨w.heap.size, 0, none⟩ = some (.slice A1 L1 L1))) (by kernel_rfl) ?_ (fun hHeld => ?_)
 ·exact c0
 refine tp 0 ?_
 try simp only [PU]
 refine tp 1 ?_
 try simp only [PU]
 refine tc 2 fun K hK => ?_
 go_simp
 (skip)
 refine hK.out _ _ ?_ fun hHeld => ?_
 ·exact (World.cell?_setCell_other _ _ _ _ (by simp)).trans hHeld
 clear hK K; try simp only [PU]
 refine tc 3 fun K hK => ?_
 go_simp
 refine hK.out _ _ ?_ fun hHeld => ?_
 ·exact (World.cell?_setCell_other _ _ _ _ (by simp)).trans hHeld
 clear hK K; try simp only [PU]
 refine wpAnyH_done (by kernel_rfl) ?_ _
 refine hK _ _ ?_
 go_wp2
 have hb : Below w.heap.size w ((wr.setCell ⟨w.heap.size + 1 + 1, 0, none⟩ (.slice none 0 0)).setCell ⟨w.heap.size + 1 + 1 + 1, 0, none⟩ (.slice A1 L1 L1)).drew := ((HA.out.1.setCell (by simp; omega) _).setCell (by simp; omega) _).drew
 refine bodyPost_ret (v := .tuple #[.agg #[.slice none 0 0], .agg #[.slice A1 L1 L1]]) (by simp [results, Tryz.results151, go_sem, g2, g3]) rfl (divPost_of HV.out.2.1 HV.out.2.2 rfl (Mag.zero _ _ _) ((H1.out.keep hB hb).more (Nat.le_trans hB hb.size)) hb)
theorem div_one {w : World} {B : Nat} {A1 A2 : Option Addr} {L1 m n : Nat} (h1 : Mag w B A1 L1 m) (h2 : Mag w B A2 1 n) (hB : B ≤ w.heap.size) (hle : n ≤ m) :
 Calls Tryz.prog 151 #[.agg #[.slice A1 L1 L1], .agg #[.slice A2 1 1]] w (DivPost w m n) := by
 have H1 : Aside0 (Mag w B A1 L1 m) := ⟨h1⟩
 have H2 : Aside0 (Mag w B A2 1 n) := ⟨h2⟩
 have h0 : 0 < n := Nat.pos_of_ne_zero fun e => by have := h2.len_zero.2 e; omega
 have h1b : n < BB := by have := dg_lt_pow BB1 n; rw [h2.1, Nat.pow_one] at this; exact this
 obtain ⟨b, hA, hb, hc⟩ := h2.2.2 (by omega)
 have hc0 := hc 0 (by omega)
 rw [dg_len_one h2.1] at hc0
 subst hA
 obtain ⟨c, hcc⟩ : ∃ c, cmpI (m : Int) n = c := ⟨_, rfl⟩
 have hcd : decide (c < 0) = false := decide_eq_false (by rw [← hcc]; unfold cmpI; rw [if_neg (by omega)]; split <;> omega)
 have HV : Aside0 (cmpI (m : Int) n = c ∧ 0 < n ∧ n < BB) := ⟨hcc, h0, h1b⟩
 have HC : Aside0 (w.cell? ⟨b, 0, none⟩ = some (.int .u32 (n : Int))) := ⟨hc0⟩
 clear h1 h2 hle hcc h0 h1b hc hb hc0
 go_enter Tryz.func151, Tryz.ntmps151
 go_wp2_with (go_at_call 144; (with_reducible refine (order_any H1.out H2.out hB (by repeat (first | exact Below.refl _ _ | apply below_alloc)) HV.out.1).mono ?_); rintro e wr ⟨rfl, hbr⟩; have t1 : wr.cell? ⟨w.heap.size + 1, 0, none⟩ = some (.slice (some ⟨b, 0, none⟩) 1 1) := (hbr.cell (p := ⟨w.heap.size + 1, 0, none⟩) (by first | (simp; done) | (simp; omega))).trans (by simp [go_sem]))
 have tb : wr.cell? ⟨b, 0, none⟩ = some (.int .u32 (n : Int)) := (hbr.cell (p := ⟨b, 0, none⟩) (Nat.lt_of_lt_of_le (World.block_lt_of_cell? w _ HC.out) (by simp; omega))).trans ((Below.cell (p := ⟨b, 0, none⟩) (show Below w.heap.size w _ from by repeat (first | exact Below.refl _ _ | apply below_alloc)) (World.block_lt_of_cell? w _ HC.out)).trans HC.out)
 obtain ⟨f0, f1⟩ := bcell hbr
 have HX : Aside0 (wr.cell? ⟨w.heap.size, 0, none⟩ = some (.slice A1 L1 L1) ∧ wr.cell? ⟨w.heap.size + 1, 0, none⟩ = some (.slice (some ⟨b, 0, none⟩) 1 1)) := ⟨(f0 _ _ (by first | (simp; done) | (simp; omega))).trans (by simp [go_sem]), (f0 _ _ (by first | (simp; done) | (simp; omega))).trans (by simp [go_sem])⟩
 have g2 : wr.cell? ⟨w.heap.size + 1 + 1, 0, none⟩ = some (.slice none 0 0) := (f0 _ _ (by first | (simp; done) | (simp; omega))).trans (by simp [go_sem])
 have gf2 : wr.frozen? ⟨w.heap.size + 1 + 1, 0, none⟩ = false := (f1 _ _ (by first | (simp; done) | (simp; omega))).trans (by simp [go_sem])
 have g3 : wr.cell? ⟨w.heap.size + 1 + 1 + 1, 0, none⟩ = some (.slice none 0 0) := (f0 _ _ (by first | (simp; done) | (simp; omega))).trans (by simp [go_sem])
 have gf3 : wr.frozen? ⟨w.heap.size + 1 + 1 + 1, 0, none⟩ = false := (f1 _ _ (by first | (simp; done) | (simp; omega))).trans (by simp [go_sem])
 have HA : Aside0 (Below w.heap.size w wr ∧ w.heap.size + 4 ≤ wr.heap.size) := ⟨below_step (by repeat (first | exact Below.refl _ _ | apply below_alloc)) hbr, by have := hbr.size; simp at this; omega⟩
 clear f0 f1 hbr
 rename_i K1 hK1 K hK
 have c0 := HX.out.1
 have hbw : b < w.heap.size := World.block_lt_of_cell? w ⟨b, 0, none⟩ HC.out
 refine wp_region_held_drew (S := (fun V => V.cell? ⟨w.heap.size, 0, none⟩ = some (.slice A1 L1 L1) ∧ V.cell? ⟨w.heap.size + 1, 0, none⟩ = some (.slice (some ⟨b, 0, none⟩) 1 1) ∧ V.cell? ⟨b, 0, none⟩ = some (.int .u32 (n : Int)))) (by kernel_rfl) ?_ (fun hHeld => ?_)
 ·exact ⟨c0, t1, tb⟩
 refine tp 0 ?_
 try simp only [PU]
 refine tp 1 ?_
 try simp only [PU]
 refine tp 2 ?_
 try simp only [PU]
 refine tp 3 ?_
 try simp only [PU]
 refine tp 4 ?_
 try simp only [PU]
 refine tc 5 fun K hK => ?_
 go_simp
 (go_at_call 179; (with_reducible refine (short_any H1.out hB HV.out.2.1 HV.out.2.2 (HA.out.1.trans ((below_drew1 (Below.refl wr.heap.size wr)).mono (by have := HA.out.2; omega)))).mono ?_); rintro e wq ⟨A3, k3, A4, k4, rfl, hm3, hm4, hbq⟩; have s2 := keepAt hbq g2; have s3 := keepAt hbq g3; have sf2 := keepF hbq g2 gf2; have sf3 := keepF hbq g3 gf3)
 refine hK.out _ _ ?_ fun hHeld => ?_
 ·(first | exact ⟨keepAt hbq hHeld.1, keepAt hbq hHeld.2.1, keepAt hbq hHeld.2.2⟩ | exact ⟨(World.cell?_setCell_other _ _ _ _ (by simp)).trans hHeld.1, (World.cell?_setCell_other _ _ _ _ (by simp)).trans hHeld.2.1, (World.cell?_setCell_other _ _ _ _ (by first | (simp; done) | (simp; omega))).trans hHeld.2.2⟩)
 clear hK K; try simp only [PU]
 refine tp 6 ?_
 try simp only [PU]
 refine tp 7 ?_
 try simp only [PU]
 refine tc 8 fun K hK => ?_
 go_simp
 refine hK.out _ _ ?_ fun hHeld => ?_
 ·(first | exact ⟨keepAt hbq hHeld.1, keepAt hbq hHeld.2.1, keepAt hbq hHeld.2.2⟩ | exact ⟨(World.cell?_setCell_other _ _ _ _ (by simp)).trans hHeld.1, (World.cell?_setCell_other _ _ _ _ (by simp)).trans hHeld.2.1, (World.cell?_setCell_other _ _ _ _ (by first | (simp; done) | (simp; omega))).trans hHeld.2.2⟩)
 clear hK K; try simp only [PU]
 refine tc 9 fun K hK => ?_
 go_simp
 refine hK.out _ _ ?_ fun hHeld => ?_
 ·(first | exact ⟨keepAt hbq hHeld.1, keepAt hbq hHeld.2.1, keepAt hbq hHeld.2.2⟩ | exact ⟨(World.cell?_setCell_other _ _ _ _ (by simp)).trans hHeld.1, (World.cell?_setCell_other _ _ _ _ (by simp)).trans hHeld.2.1, (World.cell?_setCell_other _ _ _ _ (by first | (simp; done) | (simp; omega))).trans hHeld.2.2⟩)
 clear hK K; try simp only [PU]
 refine wpAnyH_done (by kernel_rfl) ?_ _
 refine hK _ _ ?_
 go_wp2
 refine bodyPost_ret (v := .tuple #[.agg #[.slice A3 k3 k3], .agg #[.slice A4 k4 k4]]) (by simp [results, Tryz.results151, go_sem, s2, s3]) rfl (divPost_of rfl rfl rfl ?_ ?_ ?_)
 ·exact (Mag.setA (Mag.setA hm3 (hm3.apart s2 (fun d => by simp)) _ _) (hm3.apart s3 (fun d => by simp)) _ _).more (by simp)
 ·exact (Mag.setA (Mag.setA hm4 (hm4.apart s2 (fun d => by simp)) _ _) (hm4.apart s3 (fun d => by simp)) _ _).more (by simp)
 ·exact ((HA.out.1.trans ((bJoin hbq (below_drew1 (Below.refl wr.heap.size wr))).mono (by have := HA.out.2; omega))).setCell (by simp; omega) _).setCell (by simp; omega) _
end
end Go.Proofs.YtillgofjlpjbcaaGreatDoor.Nm
