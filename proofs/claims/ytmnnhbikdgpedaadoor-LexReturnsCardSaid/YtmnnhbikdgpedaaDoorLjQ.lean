/- The law LexReturns walked: it answers true. -/
import Derived.Test.YtmnnhbikdgpedaaDoorLjP
namespace Go.Proofs.YtmnnhbikdgpedaaDoor.Lx
open Go.RowKit Go.Proofs.YtmnnhbikdgpedaaDoorW.PrintWords Go.Proofs.YtmnnhbikdgpedaaDoorW.PrintLast Go.Proofs.YtmnnhbikdgpedaaDoorW.PrintMore
open Go.Proofs.YtmnnhbikdgpedaaDoor.PLexTokens
set_option linter.unusedVariables false
set_option linter.unusedSimpArgs false

theorem good_step {s : ByteArray} {B : List S49} {i e : Nat} (hi : i < B.length) (h : Good s (B.drop i) e) : ∃ q : Nat, (tk B i).f2 = (q : Int) ∧ e ≤ q ∧ q ≤ e + 1 ∧ q + (tk B i).f1.size ≤ s.size ∧ s.extract q (q + (tk B i).f1.size) = (tk B i).f1 ∧ Good s (B.drop (i + 1)) (q + (tk B i).f1.size) := by
  rw [tk_drop B i hi, Good] at h
  exact h
theorem tokens_back (M : List S49) (hM : M.length ≤ 80) (h : ∀ j, (tk M j).f1.size ≤ 200) (hb : firstBad M = 0) (s : ByteArray) (hs : s = ⟨(joinUpto M M.length).toArray⟩) (w : World) (hE : Env w) :
    Calls Tryd.prog 10 #[.string s] w fun e w' => ∃ v, e = .returned (.tuple #[v, .int .i64 0, .int .i64 0]) ∧ Kd.R k49 49 w' w.heap.size (fun _ => True) v (backL M) ∧ Below w.heap.size w w' := by
  have hsz : s.size ≤ 16080 := by rw [hs]; exact joined_size M hM h
  obtain ⟨t1, t2, t3, _⟩ := tokens_joined M hM h hb s hs
  refine (tokens_calls s (by omega) w hE).mono ?_
  rintro e w' ⟨v, rfl, hown, hbl⟩
  rw [t2, t3]
  have := R_tokens hown
  rw [t1] at this
  exact ⟨v, rfl, this, hbl⟩

set_option maxHeartbeats 4000000 in
set_option maxRecDepth 100000 in
theorem law_returns (A : Option Addr) (c : Nat) (L : List S61) (w : World) (hC : Kd.C k61 w A L.length L) (hc : L.length ≤ c) (hE : Env w) :
    Calls Tryd.prog 6 #[.slice A L.length c] w fun e w' => e = .returned (.bool true) ∧ Below w.heap.size w w' := by
  have HE := Aside0.mk hE
  have HC := Aside0.mk hC
  have HCC := Aside0.mk hc
  clear hE hC hc
  have hshort := fun (A : Option Addr) (c : Nat) (w : World) => short_calls A c L w
  cases hsh : shortB L with
  | false =>
    rw [hsh] at hshort
    have HSH := Aside0.mk hshort
    clear hsh hshort
    go_enter Tryd.func6, Tryd.ntmps6
    go_wp2_with (first | (go_at_call 24; go_loud ((with_reducible refine (HSH.out _ _ _ HC.out HCC.out).mono ?_); rintro e w1 ⟨rfl, hb1⟩; have HB1 := Aside0.mk hb1; clear hb1)) | (go_at_call 8; go_loud ((with_reducible refine (awake_calls _ (HE.out.below (by repeat (first | (with_reducible exact HB7.out) | (with_reducible exact HB6.out) | (with_reducible exact HB4.out) | (with_reducible exact HB3.out) | (with_reducible exact HB2.out) | (with_reducible exact HB1.out) | (with_reducible apply below_alloc) | (with_reducible apply pw_below_drewN) | (with_reducible apply below_drew1))))).mono ?_); rintro e w9 ⟨rfl, hb9⟩; have HB9 := Aside0.mk (below_step (by repeat (first | (with_reducible exact HB7.out) | (with_reducible exact HB6.out) | (with_reducible exact HB4.out) | (with_reducible exact HB3.out) | (with_reducible exact HB2.out) | (with_reducible exact HB1.out) | (with_reducible apply below_alloc) | (with_reducible apply pw_below_drewN) | (with_reducible apply below_drew1))) hb9); clear hb9)))
    go_ret
    exact ⟨rfl, HB9.out⟩
  | true =>
    rw [hsh] at hshort
    have HSH := Aside0.mk hshort
    rw [shortB, Bool.and_eq_true, List.all_eq_true, decide_eq_true_eq] at hsh
    obtain ⟨h1, h2⟩ := hsh
    have h1' : ∀ x ∈ L, x.f1.size ≤ 200 := fun x hx => by simpa using h1 x hx
    have HT := Aside0.mk (theirs_f L h2)
    have hML : (L.map unconv).length = L.length := List.length_map _
    have hMS : ∀ j, (tk (L.map unconv) j).f1.size ≤ 200 := fun j => by rw [tk_map]; exact tr_le h1' j
    have hjb := fun (A : Option Addr) (c : Nat) (w : World) => join_calls A c (L.map unconv) (by omega) hMS w
    have hwd : (L.map unconv).map (fun z => (z.f0, z.f1)) = L.map (fun z => (z.f0, z.f1)) := by rw [List.map_map]; rfl
    generalize L.map unconv = M at *
    by_cases hb : firstBad M = 0
    · have hJ : joinB M = (⟨(joinUpto M M.length).toArray⟩, 0) := by rw [joinB, if_pos hb]
      obtain ⟨s, hs⟩ : ∃ s : ByteArray, s = ⟨(joinUpto M M.length).toArray⟩ := ⟨_, rfl⟩
      have hsz : s.size ≤ 16080 := by rw [hs]; exact joined_size M (by omega) hMS
      have htk := tokens_back M (by omega) hMS hb s hs
      have hgd := (tokens_joined M (by omega) hMS hb s hs).2.2.2
      have hj2 := fun (A : Option Addr) (c : Nat) (w : World) => join_calls A c (backL M) (by rw [back_len]; omega) (back_size M hMS) w
      have hbs := back_size M hMS
      rw [back_join] at hj2
      rw [hJ, ← hs] at hjb hj2
      have hsw := sameWords_f (backL M) L ((back_words M).trans hwd) h2
      have hou := ours_f (backL M) 100 (by rw [back_len]; omega) (by rw [back_len]; omega)
      have hbl : (backL M).length ≤ 80 := by rw [back_len]; omega
      generalize (backL M).map conv = N at *
      generalize backL M = B at *
      have HJB := Aside0.mk hjb
      have HJ2 := Aside0.mk hj2
      have HTK := Aside0.mk htk
      have HSW := Aside0.mk hsw
      have HO := Aside0.mk hou
      have HGD := Aside0.mk hgd
      have HBS := Aside0.mk hbs
      have HBL80 := Aside0.mk hbl
      have HSZ := Aside0.mk hsz
      have b0 : B.length ≤ 9223372036854775807 := by omega
      clear h1 h1' h2 hML hMS hjb hwd hb hJ hs htk hgd hj2 hsw hou hbl hsz hshort hbs
      go_enter Tryd.func6, Tryd.ntmps6
      go_wp2_with (first | (go_at_call 24; go_loud ((with_reducible refine (HSH.out _ _ _ HC.out HCC.out).mono ?_); rintro e w1 ⟨rfl, hb1⟩; have HB1 := Aside0.mk hb1; clear hb1)) | (go_at_call 27; go_loud ((with_reducible refine (entaillaw03_theirs.calls 100 _ _ _ _ _ (Kd.C_below HC.out HB1.out) HCC.out HT.out).mono ?_); rintro e w2 ⟨v2, rfl, hR2, hb2⟩; obtain ⟨A2, c2, rfl, hl2, hC2⟩ := Kd.R_reads hR2; have HB2 := Aside0.mk (below_step HB1.out hb2); have HC2 := Aside0.mk hC2; clear hb2 hC2 hR2 hl2)) | (go_at_call 26; go_loud ((with_reducible refine (HJB.out _ _ _ HC2.out (HE.out.below HB2.out)).mono ?_); rintro e w3 ⟨rfl, hb3⟩; have HB3 := Aside0.mk (below_step HB2.out hb3); clear hb3)) | (go_at_call 10; go_loud ((with_reducible refine (HTK.out _ (HE.out.below HB3.out)).mono ?_); rintro e w4 ⟨v4, rfl, hR4, hb4⟩; obtain ⟨A4, c4, rfl, hl4, hC4⟩ := Kd.R_reads hR4; have HB4 := Aside0.mk (below_step HB3.out hb4); have HC4 := Aside0.mk hC4; have HL4 := Aside0.mk hl4; clear hb4 hC4 hR4 hl4)) | (go_at_call 12; go_loud ((with_reducible refine (entaillaw03_ours.calls 100 _ _ _ _ _ HC4.out HL4.out HO.out).mono ?_); rintro e w6 ⟨v6, rfl, hR6, hb6⟩; obtain ⟨A6, c6, rfl, hl6, hC6⟩ := Kd.R_reads hR6; have HB6 := Aside0.mk (below_step HB4.out hb6); have HC6 := Aside0.mk hC6; have HL6 := Aside0.mk hl6; have HC5 := Aside0.mk (Kd.C_below HC4.out hb6); clear hb6 hC6 hR6 hl6)) | (go_at_call 28; go_loud ((with_reducible refine (entailref03_SameWords.calls 200 _ _ _ _ _ _ _ _ HC6.out HL6.out (Kd.C_below HC.out HB6.out) HCC.out HSW.out).mono ?_); rintro e w' ⟨rfl, ⟨nd, rfl⟩⟩)))
      go_loopw [47, 8] (fun v47 v8 W => ∃ i e : Nat, v47 = .int .i64 (i : Int) ∧ v8 = .int .i64 (e : Int) ∧ Aside0 (i ≤ B.length) ∧ Aside0 (Good s (B.drop i) e) ∧ Aside0 (Below w6.heap.size w6 W)) (fun v47 _ _ => B.length - (intOf v47).toNat)
      case atStart => exact ⟨0, 0, rfl, rfl, ⟨Nat.zero_le _⟩, ⟨HGD.out⟩, ⟨by repeat (first | exact Below.refl _ _ | apply pw_below_drewN | apply below_drew1)⟩⟩
      case round =>
        clear HGD
        obtain ⟨i, e, rfl, rfl, HI, HG, HBL⟩ := hrel
        by_cases hi : i < B.length
        · obtain ⟨ad, rfl, c0, c1, c2⟩ := at_T49 HC5.out (i : Int) (Int.natCast_nonneg _) (by omega)
          obtain ⟨q, g1, g2, g3, g4, g5, g6⟩ := good_step hi HG.out
          have hbs := HBS.out i
          rw [show rd_T49 B (i : Int) = tk B i from rfl] at c0 c1 c2
          rw [g1] at c2
          replace c0 := (HBL.out.cell (World.block_lt_of_cell? w6 _ c0)).trans c0
          replace c1 := (HBL.out.cell (World.block_lt_of_cell? w6 _ c1)).trans c1
          replace c2 := (HBL.out.cell (World.block_lt_of_cell? w6 _ c2)).trans c2
          simp only [Int.toNat_natCast] at c0 c1 c2
          have HG6 := Aside0.mk g6
          have hsz := HSZ.out
          clear g1 g6 HG
          generalize (tk B i).f0 = k at *
          generalize (tk B i).f1 = t at *
          have dj : decide ((i : Int) < (B.length : Int)) = true := decide_eq_true (by omega)
          have dj' : decide (i < B.length) = true := decide_eq_true hi
          have p0 : (0 ≤ (i : Int)) = True := eq_true (Int.natCast_nonneg _)
          have p1 : ((i : Int) < (B.length : Int)) = True := eq_true (by omega)
          have e1 : decide ((q : Int) < (e : Int)) = false := decide_eq_false (by omega)
          have e2 : decide (q < e) = false := decide_eq_false (by omega)
          have e3 : decide ((e : Int) + 1 < (q : Int)) = false := decide_eq_false (by omega)
          have e4 : decide (e + 1 < q) = false := decide_eq_false (by omega)
          have e5 : decide ((s.size : Int) < (q : Int) + (t.size : Int)) = false := decide_eq_false (by omega)
          have e6 : decide (s.size < q + t.size) = false := decide_eq_false (by omega)
          have w1' : IntKind.i64.wrap ((q : Int) + (t.size : Int)) = (q : Int) + (t.size : Int) := IntWalk.i64_in _ (by omega)
          have w2' : IntKind.i64.wrap ((e : Int) + 1) = (e : Int) + 1 := IntWalk.i64_in _ (by omega)
          have f1 : (0 ≤ (q : Int)) = True := eq_true (by omega)
          have f2 : ((q : Int) ≤ (q : Int) + (t.size : Int)) = True := eq_true (by omega)
          have f3 : ((q : Int) + (t.size : Int) ≤ (s.size : Int)) = True := eq_true (by omega)
          have f4 : ((q : Int) + (t.size : Int)).toNat = q + t.size := by omega
          have f5 : (0 ≤ (q : Int) + (t.size : Int)) = True := eq_true (by omega)
          have f6 : ((s.extract q (q + t.size)).toList != t.toList) = false := by rw [g5]; simp
          have f8 : ((s.extract q (q + t.size)).toList == t.toList) = true := by rw [g5]; simp
          have f7 : (q : Int) + (t.size : Int) = ((q + t.size : Nat) : Int) := by omega
          have F7 := Aside0.mk f7
          clear f7 g2 g3 g4 g5 hsz hbs
          go_wp2_with fail
          go_quiet (fail)
          go_wp2
          go_roundw
          case rel => exact ⟨i + 1, q + t.size, by first | rfl | go_num, by rw [← F7.out], ⟨hi⟩, HG6, ⟨by repeat (first | exact HBL.out | apply below_alloc | apply pw_below_drewN | apply below_drew1)⟩⟩
          case measure => simp [intOf]; omega
        · have dj : decide ((i : Int) < (B.length : Int)) = false := decide_eq_false (by omega)
          have dj' : decide (i < B.length) = false := decide_eq_false hi
          have he : e = s.size := by
            have := HG.out
            rw [List.drop_eq_nil_of_le (by omega), Good] at this
            exact this
          subst he
          clear HG hi
          go_wp2_with (first | (go_at_call 26; go_loud ((with_reducible refine (HJ2.out _ _ _ (Kd.C_below HC5.out HBL.out) (HE.out.below (below_step HB6.out HBL.out))).mono ?_); rintro e w7 ⟨rfl, hb7⟩; have HB7 := Aside0.mk (below_step (below_step HB6.out HBL.out) hb7); clear hb7)) | (go_at_call 8; go_loud ((with_reducible refine (awake_calls _ (HE.out.below (by repeat (first | (with_reducible exact HB7.out) | (with_reducible exact HB6.out) | (with_reducible exact HB4.out) | (with_reducible exact HB3.out) | (with_reducible exact HB2.out) | (with_reducible exact HB1.out) | (with_reducible apply below_alloc) | (with_reducible apply pw_below_drewN) | (with_reducible apply below_drew1))))).mono ?_); rintro e w9 ⟨rfl, hb9⟩; have HB9 := Aside0.mk (below_step (by repeat (first | (with_reducible exact HB7.out) | (with_reducible exact HB6.out) | (with_reducible exact HB4.out) | (with_reducible exact HB3.out) | (with_reducible exact HB2.out) | (with_reducible exact HB1.out) | (with_reducible apply below_alloc) | (with_reducible apply pw_below_drewN) | (with_reducible apply below_drew1))) hb9); clear hb9)))
          go_ret
          exact ⟨rfl, HB9.out⟩
    · have hJ : joinB M = (⟨#[]⟩, firstBad M) := by rw [joinB, if_neg hb]
      rw [hJ] at hjb
      generalize firstBad M = fb at *
      have k1 : (fb != 0) = true := by simpa using hb
      have HJB := Aside0.mk hjb
      clear h1 h1' h2 hML hMS hjb hwd hb hJ hshort
      go_enter Tryd.func6, Tryd.ntmps6
      go_wp2_with (first | (go_at_call 24; go_loud ((with_reducible refine (HSH.out _ _ _ HC.out HCC.out).mono ?_); rintro e w1 ⟨rfl, hb1⟩; have HB1 := Aside0.mk hb1; clear hb1)) | (go_at_call 27; go_loud ((with_reducible refine (entaillaw03_theirs.calls 100 _ _ _ _ _ (Kd.C_below HC.out HB1.out) HCC.out HT.out).mono ?_); rintro e w2 ⟨v2, rfl, hR2, hb2⟩; obtain ⟨A2, c2, rfl, hl2, hC2⟩ := Kd.R_reads hR2; have HB2 := Aside0.mk (below_step HB1.out hb2); have HC2 := Aside0.mk hC2; clear hb2 hC2 hR2 hl2)) | (go_at_call 26; go_loud ((with_reducible refine (HJB.out _ _ _ HC2.out (HE.out.below HB2.out)).mono ?_); rintro e w3 ⟨rfl, hb3⟩; have HB3 := Aside0.mk (below_step HB2.out hb3); clear hb3)) | (go_at_call 8; go_loud ((with_reducible refine (awake_calls _ (HE.out.below (by repeat (first | (with_reducible exact HB7.out) | (with_reducible exact HB6.out) | (with_reducible exact HB4.out) | (with_reducible exact HB3.out) | (with_reducible exact HB2.out) | (with_reducible exact HB1.out) | (with_reducible apply below_alloc) | (with_reducible apply pw_below_drewN) | (with_reducible apply below_drew1))))).mono ?_); rintro e w9 ⟨rfl, hb9⟩; have HB9 := Aside0.mk (below_step (by repeat (first | (with_reducible exact HB7.out) | (with_reducible exact HB6.out) | (with_reducible exact HB4.out) | (with_reducible exact HB3.out) | (with_reducible exact HB2.out) | (with_reducible exact HB1.out) | (with_reducible apply below_alloc) | (with_reducible apply pw_below_drewN) | (with_reducible apply below_drew1))) hb9); clear hb9)))
      go_ret
      exact ⟨rfl, HB9.out⟩
end Go.Proofs.YtmnnhbikdgpedaaDoor.Lx
