/- The law LexTokens walked: it answers true. -/
import Derived.Test.YtmnnhbikdgpedaaDoorLxU
import Derived.Test.YtmnnhbikdgpedaaDoorLxM
import Derived.Test.YtmnnhbikdgpedaaDoorLxN
import Derived.Test.YtmnnhbikdgpedaaDoorRf8
namespace Go.Proofs.YtmnnhbikdgpedaaDoor.Lx
open Go.RowKit Go.Proofs.YtmnnhbikdgpedaaDoorW.PrintWords Go.Proofs.YtmnnhbikdgpedaaDoorW.PrintLast Go.Proofs.YtmnnhbikdgpedaaDoorW.PrintMore
open Go.Proofs.YtmnnhbikdgpedaaDoor.PLexTokens
set_option linter.unusedVariables false
set_option linter.unusedSimpArgs false

/-- What lex.Tokens hands back, as the reference's reading of it wants it. -/
def toL (s : ByteArray) (x : Tok × Nat) : S49 := ⟨x.1.kind, s.extract x.2 x.1.fin, x.2⟩
def conv (x : S49) : S61 := ⟨x.f0, x.f1, x.f2⟩
theorem conv_toL (s : ByteArray) (xs : List (Tok × Nat)) : (xs.map (toL s)).map conv = xs.map (toS s) := by
  rw [List.map_map]; rfl

theorem reps_go (s : ByteArray) (w : World) (base : Nat) (ok : Nat → Prop) : ∀ (xs pre : List (Tok × Nat)), Reps (k49.M w base ok) 3 (pre.map (toL s)) (cellsOf s pre) → Reps (k49.M w base ok) 3 ((pre ++ xs).map (toL s)) (cellsOf s (pre ++ xs))
  | [], pre, h => by rw [List.append_nil]; exact h
  | x :: xs, pre, h => by
    have h2 := reps_go s w base ok xs (pre ++ [x]) (by
      rw [List.map_append, cellsOf_snoc]
      exact Reps.snoc h (k49_mkM w base ok (toL s x)) rfl)
    rwa [List.append_assoc] at h2
theorem reps_cells (s : ByteArray) (w : World) (base : Nat) (ok : Nat → Prop) (xs : List (Tok × Nat)) : Reps (k49.M w base ok) 3 (xs.map (toL s)) (cellsOf s xs) :=
  reps_go s w base ok xs [] (Reps.none _ _)

theorem R_tokens {s : ByteArray} {w : World} {base : Nat} {v : Value} {xs : List (Tok × Nat)} (h : w.ownsRow base 49 3 v xs.length (cellsOf s xs)) : Kd.R k49 49 w base (fun _ => True) v (xs.map (toL s)) :=
  ⟨fun _ _ => trivial, cellsOf s xs, by rw [List.length_map]; exact h, reps_cells s w base _ xs⟩

theorem ours_l0 (L : List S49) (hL : L.length ≤ 70000) : ∀ (d j k : Nat), j ≤ L.length → L.length - j = d → d < k →
    entaillaw03_ours.l0 k ((L.take j).map conv) L (L.length : Int) (j : Int) = some (L.map conv)
  | d, j, 0, _, _, h => by omega
  | d, j, k + 1, hj, hd, hk => by
    rw [entaillaw03_ours.l0]
    by_cases h : j < L.length
    · have e : rd_T49 L (j : Int) = L[j] := by rw [rd_T49, Int.toNat_natCast, List.getD_eq_getElem?_getD, List.getElem?_eq_getElem h, Option.getD_some]
      rw [if_pos (by omega), if_pos (Int.natCast_nonneg _), if_pos (by omega), if_pos (by rw [List.length_map, List.length_take]; omega), wrap_one j (by omega), e]
      rw [show (L.take j).map conv ++ [(⟨L[j].f0, L[j].f1, L[j].f2⟩ : S61)] = (L.take (j + 1)).map conv by rw [List.take_succ_eq_append_getElem h, List.map_append]; rfl]
      exact ours_l0 L hL (d - 1) (j + 1) k (by omega) (by omega) (by omega)
    · rw [if_neg (by omega), List.take_of_length_le (by omega)]
theorem ours_f (L : List S49) (k : Nat) (hL : L.length ≤ 70000) (hk : L.length < k) : entaillaw03_ours.f k L = some (L.map conv) :=
  ours_l0 L hL L.length 0 k (by omega) rfl hk

theorem same_l0 (L : List S61) (hL : L.length ≤ 70000) : ∀ (d j k : Nat), j ≤ L.length → L.length - j = d → d < k → entailref03_SameTokens.l0 k L L (j : Int) = some true
  | d, j, 0, _, _, h => by omega
  | d, j, k + 1, hj, hd, hk => by
    rw [entailref03_SameTokens.l0]
    by_cases h : j < L.length
    · rw [if_pos (by omega), if_pos (Int.natCast_nonneg _), if_pos (by omega), if_neg (by simp), wrap_one j (by omega)]
      exact same_l0 L hL (d - 1) (j + 1) k (by omega) (by omega) (by omega)
    · rw [if_neg (by omega)]
theorem same_f (L : List S61) (k : Nat) (hL : L.length ≤ 70000) (hk : L.length < k) : entailref03_SameTokens.f k L L = some true := by
  unfold entailref03_SameTokens.f
  rw [if_pos rfl]
  exact same_l0 L hL L.length 0 k (by omega) rfl hk

theorem same_kw : entailref02_SameStrings.f 100 keywordsL keywordsL = some true := by decide +kernel
theorem same_sg : entailref02_SameStrings.f 100 signsL signsL = some true := by decide +kernel
theorem rkeywords_f : entailref03_Keywords.f = some keywordsL := rfl

theorem tokRes_length (s : ByteArray) (hs : s.size ≤ 65537) : (tokRes s).1.length ≤ 70000 := by
  rw [tokRes]
  split
  · decide
  · split
    · simp
    · split
      · simp
      · have := lexFrom_length s 0 (by omega)
        show (lexFrom s 0).length ≤ 70000
        omega

set_option maxHeartbeats 8000000 in
set_option maxRecDepth 100000 in
theorem law_tokens (s : ByteArray) (w : World) (hE : Env w) :
    Calls Tryd.prog 3 #[.string s] w fun e w' => e = .returned (.bool true) ∧ Below w.heap.size w w' := by
  have HE := Aside0.mk hE
  have HB := Aside0.mk (Below.refl w.heap.size w)
  by_cases c : 4000 < s.size ∧ s.size ≠ 65537
  · have c1 : decide (4000 < (s.size : Int)) = true := by simp; omega
    have c2 : ((s.size : Int) != 65537) = true := by simp; omega
    go_enter Tryd.func3, Tryd.ntmps3
    go_wp2_with (first | (go_at_call 8; (with_reducible refine (awake_calls _ HE.out).mono ?_); rintro e w1 ⟨rfl, hb1⟩))
    go_ret
    exact ⟨rfl, hb1⟩
  · have hs : s.size ≤ 65537 := by omega
    have hlen := tokRes_length s hs
    have hk := Aside0.mk (tokens_f s (2 * s.size + 400) (by omega))
    have hT := Aside0.mk (fun w => tokens_calls s (by omega) w)
    have hL49 : ((tokRes s).1.map (toL s)).length ≤ 70000 := by rw [List.length_map]; exact hlen
    have hO := Aside0.mk (ours_f _ 80000 hL49 (by omega))
    have hS := Aside0.mk (same_f ((tokRes s).1.map (toS s)) 80000 (by rw [List.length_map]; exact hlen) (by rw [List.length_map]; omega))
    rw [conv_toL] at hO
    have hRT := Aside0.mk (fun (w : World) (base : Nat) (v : Value) => R_tokens (s := s) (w := w) (base := base) (v := v) (xs := (tokRes s).1))
    generalize (tokRes s).1.map (toL s) = L at *
    generalize (tokRes s).1.map (toS s) = M at *
    generalize (tokRes s).2.1 = pl at *
    generalize (tokRes s).2.2 = er at *
    clear hlen hL49
    have hc : (decide (4000 < (s.size : Int)) = false) ∨ (decide (4000 < (s.size : Int)) = true ∧ ((s.size : Int) != 65537) = false) := by
      by_cases h : 4000 < s.size
      · exact .inr ⟨by simp; omega, by simp; omega⟩
      · exact .inl (by simp; omega)
    have mixed : Tryd.prog.follows .mixedOrders = true := by kernel_rfl
    rcases hc with c1 | ⟨c1, c2⟩
    all_goals
      clear c hs
      go_enter Tryd.func3, Tryd.ntmps3
      go_wp2_with (first | (go_at_call 9; ((with_reducible refine (entailref03_Tokens.calls _ s _ _ _ _ hk.out).mono ?_); rintro e w1 ⟨v1, rfl, hR1, hb1⟩; obtain ⟨A1, k1, rfl, hl1, hC1⟩ := Kd.R_reads hR1; have HB1 := Aside0.mk hb1; have HC1 := Aside0.mk hC1; have HL1 := Aside0.mk hl1; clear hb1 hR1 hC1 hl1)) | (go_at_call 10; ((with_reducible refine (hT.out _ (HE.out.below HB1.out)).mono ?_); rintro e w2 ⟨v2, rfl, hR2, hb2⟩; obtain ⟨A2, k2, rfl, hl2, hC2⟩ := Kd.R_reads (hRT.out _ _ _ hR2); have HB2 := Aside0.mk (HB1.out.trans (hb2.mono HB1.out.size)); have HC2 := Aside0.mk hC2; have HL2 := Aside0.mk hl2; have HC3 := Aside0.mk (Kd.C_below HC1.out hb2); clear hb2 hR2 hC2 hl2 HC1)) | (go_at_call 12; ((with_reducible refine (entaillaw03_ours.calls 80000 _ _ L M _ HC2.out HL2.out hO.out).mono ?_); rintro e w3 ⟨v3, rfl, hR3, hb3⟩; obtain ⟨A3, k3, rfl, hl3, hC4⟩ := Kd.R_reads hR3; have HBa := Aside0.mk (HB2.out.trans (hb3.mono HB2.out.size)); have HC4 := Aside0.mk hC4; have HL4 := Aside0.mk hl3; have HC5 := Aside0.mk (Kd.C_below HC3.out hb3); clear hb3 hR3 hC4 hl3 HC3 HC2)) | (go_at_call 11; ((with_reducible refine (entailref03_SameTokens.calls 80000 _ _ M _ _ M _ _ HC4.out HL4.out HC5.out HL1.out hS.out).mono ?_); rintro e w4 ⟨rfl, ⟨nd, rfl⟩⟩; have HBb := Aside0.mk (pw_below_drewN HBa.out nd))) | (go_at_call 14; ((with_reducible refine (keywords_calls _ (HE.out.below HBb.out)).mono ?_); rintro e w5 ⟨v5, rfl, hR5, hb5⟩; obtain ⟨A5, k5, rfl, hl5, hC6⟩ := Kd.R_reads hR5; have HBd := Aside0.mk (HBb.out.trans (hb5.mono HBb.out.size)); have HC6 := Aside0.mk hC6; have HL6 := Aside0.mk hl5; clear hb5 hR5 hC6 hl5)) | (go_at_call 15; ((with_reducible refine (entailref03_Keywords.calls _ _ rkeywords_f).mono ?_); rintro e w6 ⟨v6, rfl, hR6, hb6⟩; obtain ⟨A6, k6, rfl, hl6, hC7⟩ := Kd.R_reads hR6; have HBe := Aside0.mk (HBd.out.trans (hb6.mono HBd.out.size)); have HC7 := Aside0.mk hC7; have HL7 := Aside0.mk hl6; have HC8 := Aside0.mk (Kd.C_below HC6.out hb6); clear hb6 hR6 hC7 hl6 HC6)) | (go_at_call 13; ((with_reducible refine (entailref02_SameStrings.calls 100 _ _ keywordsL _ _ keywordsL _ _ HC8.out HL6.out HC7.out HL7.out same_kw).mono ?_); rintro e w7 ⟨rfl, ⟨ne, rfl⟩⟩; have HBf := Aside0.mk (pw_below_drewN HBe.out ne))) | (go_at_call 16; ((with_reducible refine (signs_calls _ (HE.out.below HBf.out)).mono ?_); rintro e w8 ⟨v8, rfl, hR8, hb8⟩; obtain ⟨A8, k8, rfl, hl8, hC9⟩ := Kd.R_reads hR8; have HBg := Aside0.mk (HBf.out.trans (hb8.mono HBf.out.size)); have HC9 := Aside0.mk hC9; have HL9 := Aside0.mk hl8; clear hb8 hR8 hC9 hl8)) | (go_at_call 17; ((with_reducible refine (entailref03_Signs.calls _ _ signs_f).mono ?_); rintro e w9 ⟨v9, rfl, hR9, hb9⟩; obtain ⟨A9, k9, rfl, hl9, hC10⟩ := Kd.R_reads hR9; have HBh := Aside0.mk (HBg.out.trans (hb9.mono HBg.out.size)); have HC10 := Aside0.mk hC10; have HL10 := Aside0.mk hl9; have HC11 := Aside0.mk (Kd.C_below HC9.out hb9); clear hb9 hR9 hC10 hl9 HC9)) | (go_at_call 13; ((with_reducible refine (entailref02_SameStrings.calls 100 _ _ signsL _ _ signsL _ _ HC11.out HL9.out HC10.out HL10.out same_sg).mono ?_); rintro e w10 ⟨rfl, ⟨nf, rfl⟩⟩; have HBi := Aside0.mk (pw_below_drewN HBh.out nf))) | (go_at_call 8; ((with_reducible refine (awake_calls _ (HE.out.below HBi.out)).mono ?_); rintro e w11 ⟨rfl, hb11⟩; have HBc := Aside0.mk (HBi.out.trans (hb11.mono HBi.out.size)); clear hb11)))
      go_ret
      exact ⟨rfl, HBc.out⟩
end Go.Proofs.YtmnnhbikdgpedaaDoor.Lx
