/- The law LexJoins walked: it answers true. -/
import Derived.Test.YtmnnhbikdgpedaaDoorLjL
import Derived.Test.YtmnnhbikdgpedaaDoorLxN
namespace Go.Proofs.YtmnnhbikdgpedaaDoor.Lx
open Go.RowKit Go.Proofs.YtmnnhbikdgpedaaDoorW.PrintWords Go.Proofs.YtmnnhbikdgpedaaDoorW.PrintLast Go.Proofs.YtmnnhbikdgpedaaDoorW.PrintMore
open Go.Proofs.YtmnnhbikdgpedaaDoor.PLexTokens
set_option linter.unusedVariables false
set_option linter.unusedSimpArgs false

theorem short_l0 (L : List S61) (hL : L.length ≤ 9223372036854775807) : ∀ (d j k : Nat), j ≤ L.length → L.length - j = d → d < k →
    entaillaw03_short.l0 k L L (L.length : Int) (j : Int) = some (((L.drop j).all fun x => decide (x.f1.size ≤ 200)) && decide (L.length ≤ 80))
  | d, j, 0, _, _, h => by omega
  | d, j, k + 1, hj, hd, hk => by
    rw [entaillaw03_short.l0]
    by_cases h : j < L.length
    · have e : rd_T61 L (j : Int) = L[j] := by rw [rd_T61, Int.toNat_natCast, List.getD_eq_getElem?_getD, List.getElem?_eq_getElem h, Option.getD_some]
      rw [if_pos (by omega), if_pos (Int.natCast_nonneg _), if_pos (by omega), e, List.drop_eq_getElem_cons h, List.all_cons]
      by_cases h2 : L[j].f1.size ≤ 200
      · rw [if_neg (by omega), show wrap64 ((j : Int) + 1) = ((j + 1 : Nat) : Int) by rw [wrap64]; omega, short_l0 L hL (d - 1) (j + 1) k (by omega) (by omega) (by omega), decide_eq_true h2]
        rfl
      · rw [if_pos (by omega), decide_eq_false h2]
        rfl
    · rw [if_neg (by omega), List.drop_eq_nil_of_le (by omega)]
      congr 1
      by_cases h2 : L.length ≤ 80
      · rw [decide_eq_true h2, decide_eq_true (show (L.length : Int) ≤ 80 by omega)]; rfl
      · rw [decide_eq_false h2, decide_eq_false (show ¬ (L.length : Int) ≤ 80 by omega)]; rfl
theorem short_calls (A : Option Addr) (c : Nat) (L : List S61) (w : World) (hC : Kd.C k61 w A L.length L) (hc : L.length ≤ c) :
    Calls Tryd.prog 24 #[.slice A L.length c] w fun e w' => e = .returned (.bool (shortB L)) ∧ Below w.heap.size w w' :=
  entaillaw03_short.calls (L.length + 1) A c L _ w hC hc (short_l0 L hC.2.1 L.length 0 (L.length + 1) (by omega) rfl (by omega))

theorem theirs_l0 (L : List S61) (hL : L.length ≤ 70000) : ∀ (d j k : Nat), j ≤ L.length → L.length - j = d → d < k →
    entaillaw03_theirs.l0 k ((L.take j).map unconv) L (L.length : Int) (j : Int) = some (L.map unconv)
  | d, j, 0, _, _, h => by omega
  | d, j, k + 1, hj, hd, hk => by
    rw [entaillaw03_theirs.l0]
    by_cases h : j < L.length
    · have e : rd_T61 L (j : Int) = L[j] := by rw [rd_T61, Int.toNat_natCast, List.getD_eq_getElem?_getD, List.getElem?_eq_getElem h, Option.getD_some]
      rw [if_pos (by omega), if_pos (Int.natCast_nonneg _), if_pos (by omega), if_pos (by rw [List.length_map, List.length_take]; omega), wrap_one j (by omega), e]
      rw [show (L.take j).map unconv ++ [(⟨L[j].f0, L[j].f1, L[j].f2⟩ : S49)] = (L.take (j + 1)).map unconv by rw [List.take_succ_eq_append_getElem h, List.map_append]; rfl]
      exact theirs_l0 L hL (d - 1) (j + 1) k (by omega) (by omega) (by omega)
    · rw [if_neg (by omega), List.take_of_length_le (by omega)]
theorem theirs_f (L : List S61) (hL : L.length ≤ 80) : entaillaw03_theirs.f 100 L = some (L.map unconv) :=
  theirs_l0 L (by omega) L.length 0 100 (by omega) rfl (by omega)

set_option maxHeartbeats 4000000 in
set_option maxRecDepth 100000 in
theorem law_joins (A : Option Addr) (c : Nat) (L : List S61) (w : World) (hC : Kd.C k61 w A L.length L) (hc : L.length ≤ c) (hE : Env w) :
    Calls Tryd.prog 5 #[.slice A L.length c] w fun e w' => e = .returned (.bool true) ∧ Below w.heap.size w w' := by
  have HE := Aside0.mk hE
  have HC := Aside0.mk hC
  have HCC := Aside0.mk hc
  clear hE hC hc
  cases hsh : shortB L with
  | false =>
    have hshort := fun (A : Option Addr) (c : Nat) (w : World) => short_calls A c L w
    rw [hsh] at hshort
    have HSH := Aside0.mk hshort
    clear hsh hshort
    go_enter Tryd.func5, Tryd.ntmps5
    go_wp2_with (first | (go_at_call 24; go_loud ((with_reducible refine (HSH.out _ _ _ HC.out HCC.out).mono ?_); rintro e w1 ⟨rfl, hb1⟩; have HB1 := Aside0.mk hb1; clear hb1)) | (go_at_call 8; go_loud ((with_reducible refine (awake_calls _ (HE.out.below (by repeat (first | (with_reducible exact HB4.out) | (with_reducible exact HB3.out) | (with_reducible exact HB2.out) | (with_reducible exact HB1.out) | (with_reducible apply below_alloc) | (with_reducible apply pw_below_drewN) | (with_reducible apply below_drew1))))).mono ?_); rintro e w9 ⟨rfl, hb9⟩; have HB9 := Aside0.mk (below_step (by repeat (first | (with_reducible exact HB4.out) | (with_reducible exact HB3.out) | (with_reducible exact HB2.out) | (with_reducible exact HB1.out) | (with_reducible apply below_alloc) | (with_reducible apply pw_below_drewN) | (with_reducible apply below_drew1))) hb9); clear hb9)))
    go_ret
    exact ⟨rfl, HB9.out⟩
  | true =>
    have hshort := fun (A : Option Addr) (c : Nat) (w : World) => short_calls A c L w
    rw [hsh] at hshort
    have HSH := Aside0.mk hshort
    rw [shortB, Bool.and_eq_true, List.all_eq_true, decide_eq_true_eq] at hsh
    obtain ⟨h1, h2⟩ := hsh
    have h1' : ∀ x ∈ L, x.f1.size ≤ 200 := fun x hx => by simpa using h1 x hx
    have HL := Aside0.mk h2
    have HS := Aside0.mk (tr_le h1')
    have HT := Aside0.mk (theirs_f L h2)
    have HL3 := Aside0.mk (show (L.map unconv).length ≤ 80 by rw [List.length_map]; exact h2)
    have HS3 : Aside0 (∀ j, (tk (L.map unconv) j).f1.size ≤ 200) := ⟨fun j => by rw [tk_map]; exact tr_le h1' j⟩
    have hjr := fun (A : Option Addr) (c : Nat) (w : World) => joinR_calls A c L h2 (tr_le h1') w
    have hjb := fun (A : Option Addr) (c : Nat) (w : World) => join_calls A c (L.map unconv) HL3.out HS3.out w
    rw [joinRB_eq L h1'] at hjr
    generalize joinB (L.map unconv) = J at *
    obtain ⟨js, je⟩ := J
    have HJR := Aside0.mk hjr
    have HJB := Aside0.mk hjb
    generalize L.map unconv = M at *
    clear h1 h1' h2 hjr hjb hshort
    go_enter Tryd.func5, Tryd.ntmps5
    go_wp2_with (first | (go_at_call 24; go_loud ((with_reducible refine (HSH.out _ _ _ HC.out HCC.out).mono ?_); rintro e w1 ⟨rfl, hb1⟩; have HB1 := Aside0.mk hb1; clear hb1)) | (go_at_call 25; go_loud ((with_reducible refine (HJR.out _ _ _ (Kd.C_below HC.out HB1.out)).mono ?_); rintro e w2 ⟨rfl, hb2⟩; have HB2 := Aside0.mk (below_step HB1.out hb2); clear hb2)) | (go_at_call 27; go_loud ((with_reducible refine (entaillaw03_theirs.calls 100 _ _ _ _ _ (Kd.C_below HC.out HB2.out) HCC.out HT.out).mono ?_); rintro e w3 ⟨v3, rfl, hR3, hb3⟩; obtain ⟨A3, c3, rfl, hl3, hC3⟩ := Kd.R_reads hR3; have HB3 := Aside0.mk (below_step HB2.out hb3); have HC3 := Aside0.mk hC3; clear hb3 hC3 hR3 hl3)) | (go_at_call 26; go_loud ((with_reducible refine (HJB.out _ _ _ HC3.out (HE.out.below HB3.out)).mono ?_); rintro e w4 ⟨rfl, hb4⟩; have HB4 := Aside0.mk (below_step HB3.out hb4); clear hb4)) | (go_at_call 8; go_loud ((with_reducible refine (awake_calls _ (HE.out.below (by repeat (first | (with_reducible exact HB4.out) | (with_reducible exact HB3.out) | (with_reducible exact HB2.out) | (with_reducible exact HB1.out) | (with_reducible apply below_alloc) | (with_reducible apply pw_below_drewN) | (with_reducible apply below_drew1))))).mono ?_); rintro e w9 ⟨rfl, hb9⟩; have HB9 := Aside0.mk (below_step (by repeat (first | (with_reducible exact HB4.out) | (with_reducible exact HB3.out) | (with_reducible exact HB2.out) | (with_reducible exact HB1.out) | (with_reducible apply below_alloc) | (with_reducible apply pw_below_drewN) | (with_reducible apply below_drew1))) hb9); clear hb9)))
    go_ret
    exact ⟨rfl, HB9.out⟩
end Go.Proofs.YtmnnhbikdgpedaaDoor.Lx
