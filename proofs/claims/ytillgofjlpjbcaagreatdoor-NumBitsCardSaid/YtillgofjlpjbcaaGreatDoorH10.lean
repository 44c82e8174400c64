import Derived.Test.YtillgofjlpjbcaaGreatDoorH9
import Derived.Test.YtillgofjlpjbcaaGreatDoorH4
import Derived.Test.YtillgofjlpjbcaaGreatDoorH8
import Derived.Test.YtillgofjlpjbcaaGreatDoorH3
import Derived.Laws.MakeOwn
import Derived.Laws.OwnMore
import Derived.Test.YtillgofjlpjbcaaGreatDoorH7
/- Own text: contracts and laws on which the card rests (RaQ RbA RaM RaO RaT RbB RaR RaS). -/
set_option linter.unusedVariables false
set_option linter.unusedSimpArgs false
set_option maxRecDepth 1000000
set_option maxHeartbeats 16000000
namespace Go.Proofs.YtillgofjlpjbcaaGreatDoor.Nm
section
open Go.Proofs.YtillgofjlpjbcaaGreatDoorW.PrintLast Go.Proofs.YtillgofjlpjbcaaGreatDoorW.PrintMore Go.Proofs.YtillgofjlpjbcaaGreatDoorW.PrintWords Go.RowKit Go.Shelf
open Go.Lib (decDigits itoa)
theorem rinfo8 : (Tryz.prog.info? 5).map (fun i => (i.zero, i.size, i.bytes)) = some (some (.int .u8 0), 1, 1) := by kernel_rfl
/-- Bytes as the ints of a slice's cells. -/
def bi (l : List UInt8) : List Int := l.map fun c => (c.toNat : Int)
theorem bi_len (l : List UInt8) : (bi l).length = l.length := by simp [bi]
theorem bi_snoc (l : List UInt8) (c : UInt8) : bi (l ++ [c]) = bi l ++ [(c.toNat : Int)] := by simp [bi]
theorem bi_string (l : List UInt8) : strOfNums (bi l) = ⟨l.toArray⟩ := by
 unfold strOfNums bi
 simp only [List.map_map]
 rw [(List.map_congr_left (g := id) (fun c _ => by simp [Function.comp])).trans (List.map_id l)]
theorem dig_nat {r : Nat} (h : r < 10) : (UInt8.ofNat (48 + r)).toNat = 48 + r := by rw [UInt8.toNat_ofNat', Nat.mod_eq_of_lt (by omega)]
theorem wd_cell {w0 W : World} {b m l : Nat} {g cap : Nat} (h : Kd.R (Kd.int .u8) 5 W b (fun _ => True) (.slice (some ⟨g, 0, none⟩) l cap) (bi (rdig m l))) {k : Nat} (hk : k < l) : W.cell? ⟨g, k, none⟩ = some (.int .u8 ((48 + m / 10 ^ k % 10 : Nat) : Int)) := by
 have hx := (Kd.R_celln (enc := Value.int .u8) (h1 := fun _ => rfl) (0 : Int) h (k : Int) (by omega) (by omega)).1
 rw [Int.toNat_natCast] at hx
 rw [hx]
 congr 2
 show rdOf 0 (bi (rdig m l)) (k : Int) = _
 unfold rdOf bi
 have e : (rdig m l)[k]? = some (UInt8.ofNat (48 + m / 10 ^ k % 10)) := by
  simp [rdig, hk]
 simp only [Int.toNat_natCast, List.getD_eq_getElem?_getD, List.getElem?_map, e]
 simp only [Option.map_some, Option.getD_some]
 rw [dig_nat (Nat.mod_lt _ (by decide))]
theorem rWrite_nz {w : World} {A : Option Addr} {L c m : Nat} {neg : Bool} (h : RM w A L m) (h0 : 0 < m) (hL : L ≤ 20000) :
 Calls Tryz.prog 69 #[.agg #[.bool neg, .slice A L c]] w fun e w' => e = .returned (.string ⟨((if neg = true then [45] else []) ++ decDigits m).toArray⟩) ∧ Below w.heap.size w w' := by
 have H1 := h.at_below
 have hl0 : ¬ L = 0 := fun e => by have := h.len_zero.1 e; omega
 have g0 : ((L : Int) == 0) = false := by simp; omega
 have HD : Aside0 ((decDigits m).length ≤ 4 * L) := ⟨by
  have h2 := dg_lt_pow QQ1 m
  rw [h.len, show QQ ^ L = 10 ^ (4 * L) by rw [Nat.pow_mul]] at h2
  exact dec_len _ _ (by omega) h2⟩
 clear h
 go_enter Tryz.func69, Tryz.ntmps69
 go_wp2_with fail
 obtain ⟨wa, hwa⟩ : ∃ wa, w.alloc (.cells #[.bool neg, .slice A L c] 77) = wa := ⟨_, rfl⟩
 have HA : Aside0 (Below w.heap.size w wa ∧ wa.heap.size = w.heap.size + 1 ∧ BG wa w.heap.size neg A L c) := ⟨by subst hwa; exact below_alloc (Below.refl _ _) _, by subst hwa; simp, by subst hwa; exact BG.new w _ _ _ _⟩
 rw [hwa]
 clear hwa
 go_loopw [3, 4] (fun v3 v4 W => ∃ i : Nat, v4 = .int .i64 (i : Int) ∧ i ≤ L ∧ Aside0 (Kd.R (Kd.int .u8) 5 W (w.heap.size + 1) (fun _ => True) v3 (bi (rdig m (4 * i)))) ∧ Aside0 (Below (w.heap.size + 1) wa W)) (fun _ v4 _ => L - (intOf v4).toNat)
 case atStart => exact ⟨0, rfl, Nat.zero_le _, ⟨Kd.R_nil _ _ _ _ _⟩, ⟨Below.refl _ _⟩⟩
 case round =>
  obtain ⟨i, rfl, hi, HO, HB⟩ := hrel
  have x1 : wr.cell? ⟨w.heap.size, 1, none⟩ = some (.slice A L c) := (HB.out.cell (p := ⟨w.heap.size, 1, none⟩) (by simp)).trans HA.out.2.2.cell1
  by_cases hlt : i < L
  ·obtain ⟨ad, hA, hc⟩ := (H1.out _ (HA.out.1.trans (HB.out.mono (by omega)))).at hlt
   subst hA
   obtain ⟨d, hd⟩ : ∃ d, m / QQ ^ i % QQ = d := ⟨_, rfl⟩
   rw [hd] at hc
   have HDD := Aside0.mk hd
   have g1 : (i : Int) < (L : Int) := by omega
   clear hd
   go_wp2
   clear x1 hc
   go_loopw [3, 5, 6] (fun v3 v5 v6 W => ∃ k d : Nat, v5 = .int .i64 (d : Int) ∧ v6 = .int .i64 (k : Int) ∧ k ≤ 4 ∧ d ≤ 10000 ∧ Aside0 (m / QQ ^ i % QQ / 10 ^ k = d) ∧ Aside0 (Kd.R (Kd.int .u8) 5 W (w.heap.size + 1) (fun _ => True) v3 (bi (rdig m (4 * i + k)))) ∧ Aside0 (Below (w.heap.size + 1) wa W)) (fun _ _ v6 _ => 4 - (intOf v6).toNat)
   case atStart => exact ⟨0, d, rfl, rfl, by omega, by have := Nat.mod_lt (m / QQ ^ i) (show 0 < QQ by decide); have := HDD.out; unfold QQ at *; omega, ⟨by rw [HDD.out]; simp⟩, HO, HB⟩
   case round =>
    clear HDD HO HB
    obtain ⟨k, d, rfl, rfl, hk, hd4, HDD, HO, HB⟩ := hrel
    by_cases hk4 : k < 4
    ·have g2 : (k : Int) < 4 := by omega
     have HC : Aside0 (d % 10 = m / 10 ^ (4 * i + k) % 10 ∧ m / QQ ^ i % QQ / 10 ^ (k + 1) = d / 10) := ⟨by rw [← HDD.out]; exact limb_digit m i k hk4, by rw [Nat.pow_succ, ← Nat.div_div_eq_div_mul, HDD.out]⟩
     have u1 : IntKind.u8.wrap (48 + (d : Int) % 10) = 48 + (d : Int) % 10 := by simp [IntKind.wrap, IntKind.bits, IntKind.signed]; omega
     have u2 : (48 + (d : Int) % 10) % 256 = 48 + (d : Int) % 10 := by omega
     have e1 : IntKind.i64.wrap ((k : Int) + 1) = ((k + 1 : Nat) : Int) := by rw [IntWalk.i64_in _ (by omega)]; omega
     go_wp2_with (first | ((with_reducible refine gate_builtin (b := .append) (xs := #[.tmp 30, .tmp 35]) rfl ?_); at_builtin; (refine Kd.R_append (Kd.int .u8) (w0 := wa) (w.heap.size + 1) rfl (.tmp 30) (.tmp 35) 146 5 (.int .u8 0) 1 rfl Tryz.underlying146 rinfo8 rfl (by decide) (by omega) u3 (bi (rdig m (4 * i + k))) (48 + (d : Int) % 10) [.int .u8 (48 + (d : Int) % 10)] (fun _ => True) (fun _ => False) rfl rfl ?aP (fun _ hk => hk.elim) ?aF ?aO ?aB ?aS ?aL ?_; (case aP => exact rfl); (case aB => exact HB.out); (case aF => exact (fun _ _ => trivial)); (case aO => exact HO.out); (case aS => exact (by have := HA.out.2.1; have := HB.out.size; omega)); (case aL => rw [bi_len]; (rw [rdig_len]; omega)); intro v38 w8 ho hb hg hat; have HO2 := Aside0.mk ho; have HB2 := Aside0.mk hb; clear ho hb hg hat)))
     go_roundw
     case rel =>
      refine ⟨k + 1, d / 10, congrArg (Value.int .i64) (by omega), by first | rfl | go_num, hk4, by omega, ⟨HC.out.2⟩, ⟨?_⟩, HB2⟩
      rw [show 4 * i + (k + 1) = (4 * i + k) + 1 from rfl, rdig_succ, bi_snoc, dig_nat (Nat.mod_lt _ (by decide)), ← HC.out.1]
      rw [show ((48 + d % 10 : Nat) : Int) = 48 + (d : Int) % 10 by omega]
      exact HO2.out
     case measure => simp [intOf]; omega
    ·obtain rfl : k = 4 := by omega
     have e1 : IntKind.i64.wrap ((i : Int) + 1) = ((i + 1 : Nat) : Int) := by rw [IntWalk.i64_in _ (by omega)]; omega
     go_wp2
     go_roundw
     case rel => exact ⟨i + 1, by first | rfl | go_num, hlt, HO, HB⟩
     case measure => simp [intOf]; omega
  ·obtain rfl : i = L := by omega
   clear hi hlt
   obtain ⟨g, cap, hv, hgb, hgl, _⟩ := Kd.R_form HO.out (by rw [bi_len, rdig_len]; omega)
   rw [bi_len, rdig_len] at hv
   subst hv
   have HC : Aside0 (∀ k, k < 4 * i → wr.cell? ⟨g, k, none⟩ = some (.int .u8 ((48 + m / 10 ^ k % 10 : Nat) : Int))) := ⟨fun k hk => wd_cell (w0 := w) HO.out hk⟩
   have HW : Aside0 (Below w.heap.size w wr) := ⟨HA.out.1.trans (HB.out.mono (by omega))⟩
   have x0 : wr.cell? ⟨w.heap.size, 0, none⟩ = some (.bool neg) := (HB.out.cell (p := ⟨w.heap.size, 0, none⟩) (by simp)).trans HA.out.2.2.cell0
   have XX := Aside0.mk x0
   obtain ⟨X, rfl⟩ : ∃ X, X = wr := ⟨_, rfl⟩
   clear HO HB hgb
   go_wp2
   clear x0 x1
   go_loopw [7] (fun v7 W => ∃ n : Nat, v7 = .int .i64 (n : Int) ∧ n ≤ 4 * i ∧ Aside0 ((decDigits m).length ≤ n) ∧ W = X) (fun v7 _ => (intOf v7).toNat)
   case atStart => exact ⟨4 * i, by first | rfl | (exact congrArg (Value.int .i64) (by omega)), Nat.le_refl _, ⟨HD.out⟩, rfl⟩
   case round =>
    obtain ⟨n, rfl, hn, HN, rfl⟩ := hrel
    have hp := dec_pos m
    have hn1 : 1 ≤ n := by have := HN.out; omega
    have hcell := HC.out (n - 1) (by omega)
    obtain ⟨d, hd⟩ : ∃ d, m / 10 ^ (n - 1) % 10 = d := ⟨_, rfl⟩
    rw [hd] at hcell
    have hd9 : d < 10 := by rw [← hd]; exact Nat.mod_lt _ (by decide)
    have HDD := Aside0.mk hd
    have s1 : IntKind.i64.wrap ((n : Int) - 1) = ((n - 1 : Nat) : Int) := by rw [IntWalk.i64_in _ (by omega)]; omega
    have s2 : ((n - 1 : Nat) : Int) < ((4 * i : Nat) : Int) := by omega
    have s3 : ((n - 1 : Nat) : Int) < 4 * (i : Int) := by omega
    clear hd hp
    by_cases hdz : d = 0
    ·subst hdz
     have g6 : (((48 + 0 : Nat) : Int) == 48) = true := by decide
     go_wp2
     go_roundw
     case rel => exact ⟨n - 1, by first | rfl | go_num, by omega, ⟨by
      have h1 := HN.out
      rcases Nat.eq_or_lt_of_le h1 with h2 | h2
      ·exact absurd (by rw [h2]; exact HDD.out) (dec_at h0)
      ·omega⟩, by first | rfl | trivial⟩
     case measure => simp [intOf]; omega
    ·have g6 : (((48 + d : Nat) : Int) == 48) = false := by rw [beq_eq_false_iff_ne]; omega
     have g7 : ((48 + (d : Int)) == 48) = false := by rw [beq_eq_false_iff_ne]; omega
     have HE : Aside0 (n = (decDigits m).length) := ⟨dec_stop h0 HN.out (by rw [HDD.out]; exact hdz)⟩
     have x0 := XX.out
     cases neg
     ·skip
      obtain ⟨X, rfl⟩ : ∃ X, X = wr := ⟨_, rfl⟩
      go_wp2
      clear hcell
      go_loopw [8, 9] (fun v8 v9 W => ∃ j : Nat, v9 = .int .i64 ((n : Int) - 1 - (j : Int)) ∧ j ≤ n ∧ Aside0 (Kd.R (Kd.int .u8) 5 W X.heap.size (fun _ => True) v8 (bi (([] : List UInt8) ++ (decDigits m).take j))) ∧ Aside0 (Below X.heap.size X W)) (fun _ v9 _ => (intOf v9 + 1).toNat)
      case atStart => exact ⟨0, by first | rfl | (exact congrArg (Value.int .i64) (by omega)), Nat.zero_le _, ⟨Kd.R_nil _ _ _ _ _⟩, ⟨Below.refl _ _⟩⟩
      case round =>
       obtain ⟨j, rfl, hj, HO, HB⟩ := hrel
       by_cases hjn : j < n
       ·have hcell := HC.out (n - 1 - j) (by omega)
        replace hcell := (HB.out.cell (World.block_lt_of_cell? X _ hcell)).trans hcell
        obtain ⟨d, hd⟩ : ∃ d, m / 10 ^ (n - 1 - j) % 10 = d := ⟨_, rfl⟩
        rw [hd] at hcell
        have HX : Aside0 (bi (([] : List UInt8) ++ (decDigits m).take (j + 1)) = bi (([] : List UInt8) ++ (decDigits m).take j) ++ [((48 + d : Nat) : Int)]) := ⟨by
         have hjl : j < (decDigits m).length := by have := HE.out; omega
         have he : (decDigits m)[j]'hjl = UInt8.ofNat (48 + m / 10 ^ (n - 1 - j) % 10) := by
          have h1 : (decDigits m)[j]? = ((rdig m n).reverse)[j]? := by rw [HE.out, ← dec_take]
          rw [List.getElem?_reverse (by rw [rdig_len]; omega), rdig_len, List.getElem?_eq_getElem hjl] at h1
          have hk : n - 1 - j < n := by omega
          have h2 : (rdig m n)[n - 1 - j]? = some (UInt8.ofNat (48 + m / 10 ^ (n - 1 - j) % 10)) := by simp [rdig, hk]
          rw [h2] at h1
          exact Option.some.inj h1
         rw [List.take_succ_eq_append_getElem hjl, ← List.append_assoc, bi_snoc, he, hd, dig_nat (by rw [← hd]; exact Nat.mod_lt _ (by decide))]⟩
        have s1 : (0 : Int) ≤ (n : Int) - 1 - (j : Int) := by omega
        have s2 : ((n : Int) - 1 - (j : Int)).toNat = n - 1 - j := by omega
        have s3 : (n : Int) - 1 - (j : Int) < 4 * (i : Int) := by omega
        have s4 : IntKind.i64.wrap ((n : Int) - 1 - (j : Int) - 1) = (n : Int) - 1 - (j : Int) - 1 := IntWalk.i64_in _ (by omega)
        clear hd
        go_wp2_with (first | ((with_reducible refine gate_builtin (b := .append) (xs := #[.tmp 60, .tmp 65]) rfl ?_); at_builtin; (refine Kd.R_append (Kd.int .u8) (w0 := X) (X.heap.size) rfl (.tmp 60) (.tmp 65) 146 5 (.int .u8 0) 1 rfl Tryz.underlying146 rinfo8 rfl (by decide) (by omega) u8 (bi (([] : List UInt8) ++ (decDigits m).take j)) (((48 + d : Nat) : Int)) [.int .u8 (((48 + d : Nat) : Int))] (fun _ => True) (fun _ => False) rfl rfl ?aP (fun _ hk => hk.elim) ?aF ?aO ?aB ?aS ?aL ?_; (case aP => exact rfl); (case aB => exact HB.out); (case aF => exact (fun _ _ => trivial)); (case aO => exact HO.out); (case aS => exact HB.out.size); (case aL => rw [bi_len]; (rw [List.length_append, List.length_take]; simp; omega)); intro v38 w8 ho hb hg hat; have HO2 := Aside0.mk ho; have HB2 := Aside0.mk hb; clear ho hb hg hat)))
        go_roundw
        case rel => exact ⟨j + 1, congrArg (Value.int .i64) (by omega), hjn, ⟨by rw [HX.out]; exact HO2.out⟩, HB2⟩
        case measure => simp [intOf]; omega
       ·obtain rfl : j = n := by omega
        have g8 : ¬ (0 : Int) ≤ (j : Int) - 1 - (j : Int) := by omega
        obtain ⟨A5, c5, e5, hc5, hrd⟩ := Kd.R_reads HO.out
        rw [HE.out, List.take_length] at hrd e5
        generalize hLL : (([] : List UInt8) ++ decDigits m) = LL at hrd e5
        have HLL := Aside0.mk hLL
        clear hLL
        have hst := Kd.C_string (P := Tryz.prog) (c := c5) Tryz.underlying146 Tryz.underlying5 Tryz.underlying9 hrd
        rw [bi_string] at hst
        subst e5
        clear hrd hc5
        go_wp2
        go_ret
        exact ⟨by rw [← HLL.out]; rfl, HW.out.trans (HB.out.mono HW.out.size)⟩
     ·skip
      obtain ⟨X, rfl⟩ : ∃ X, X = wr := ⟨_, rfl⟩
      have HO : Aside0 (Kd.R (Kd.int .u8) 5 X X.heap.size (fun _ => True) (.slice none 0 0) (bi [])) := ⟨Kd.R_nil _ _ _ _ _⟩
      have HB : Aside0 (Below X.heap.size X X) := ⟨Below.refl _ _⟩
      go_wp2_with (first | ((with_reducible refine gate_builtin (b := .append) (xs := #[.tmp 51, .tmp 52]) rfl ?_); at_builtin; (refine Kd.R_append (Kd.int .u8) (w0 := X) (X.heap.size) rfl (.tmp 51) (.tmp 52) 146 5 (.int .u8 0) 1 rfl Tryz.underlying146 rinfo8 rfl (by decide) (by omega) (.slice none 0 0) (bi []) (45) [.int .u8 (45)] (fun _ => True) (fun _ => False) rfl rfl ?aP (fun _ hk => hk.elim) ?aF ?aO ?aB ?aS ?aL ?_; (case aP => exact rfl); (case aB => exact HB.out); (case aF => exact (fun _ _ => trivial)); (case aO => exact HO.out); (case aS => exact (Nat.le_refl _)); (case aL => rw [bi_len]; (simp)); intro v38 w8 ho hb hg hat; have HO2 := Aside0.mk ho; have HB2 := Aside0.mk hb; clear ho hb hg hat)))
      go_loopw [8, 9] (fun v8 v9 W => ∃ j : Nat, v9 = .int .i64 ((n : Int) - 1 - (j : Int)) ∧ j ≤ n ∧ Aside0 (Kd.R (Kd.int .u8) 5 W X.heap.size (fun _ => True) v8 (bi (([45] : List UInt8) ++ (decDigits m).take j))) ∧ Aside0 (Below X.heap.size X W)) (fun _ v9 _ => (intOf v9 + 1).toNat)
      case atStart => exact ⟨0, by first | rfl | (exact congrArg (Value.int .i64) (by omega)), Nat.zero_le _, HO2, HB2⟩
      case round =>
       obtain ⟨j, rfl, hj, HO, HB⟩ := hrel
       by_cases hjn : j < n
       ·have hcell := HC.out (n - 1 - j) (by omega)
        replace hcell := (HB.out.cell (World.block_lt_of_cell? X _ hcell)).trans hcell
        obtain ⟨d, hd⟩ : ∃ d, m / 10 ^ (n - 1 - j) % 10 = d := ⟨_, rfl⟩
        rw [hd] at hcell
        have HX : Aside0 (bi (([45] : List UInt8) ++ (decDigits m).take (j + 1)) = bi (([45] : List UInt8) ++ (decDigits m).take j) ++ [((48 + d : Nat) : Int)]) := ⟨by
         have hjl : j < (decDigits m).length := by have := HE.out; omega
         have he : (decDigits m)[j]'hjl = UInt8.ofNat (48 + m / 10 ^ (n - 1 - j) % 10) := by
          have h1 : (decDigits m)[j]? = ((rdig m n).reverse)[j]? := by rw [HE.out, ← dec_take]
          rw [List.getElem?_reverse (by rw [rdig_len]; omega), rdig_len, List.getElem?_eq_getElem hjl] at h1
          have hk : n - 1 - j < n := by omega
          have h2 : (rdig m n)[n - 1 - j]? = some (UInt8.ofNat (48 + m / 10 ^ (n - 1 - j) % 10)) := by simp [rdig, hk]
          rw [h2] at h1
          exact Option.some.inj h1
         rw [List.take_succ_eq_append_getElem hjl, ← List.append_assoc, bi_snoc, he, hd, dig_nat (by rw [← hd]; exact Nat.mod_lt _ (by decide))]⟩
        have s1 : (0 : Int) ≤ (n : Int) - 1 - (j : Int) := by omega
        have s2 : ((n : Int) - 1 - (j : Int)).toNat = n - 1 - j := by omega
        have s3 : (n : Int) - 1 - (j : Int) < 4 * (i : Int) := by omega
        have s4 : IntKind.i64.wrap ((n : Int) - 1 - (j : Int) - 1) = (n : Int) - 1 - (j : Int) - 1 := IntWalk.i64_in _ (by omega)
        clear hd
        go_wp2_with (first | ((with_reducible refine gate_builtin (b := .append) (xs := #[.tmp 60, .tmp 65]) rfl ?_); at_builtin; (refine Kd.R_append (Kd.int .u8) (w0 := X) (X.heap.size) rfl (.tmp 60) (.tmp 65) 146 5 (.int .u8 0) 1 rfl Tryz.underlying146 rinfo8 rfl (by decide) (by omega) u8 (bi (([45] : List UInt8) ++ (decDigits m).take j)) (((48 + d : Nat) : Int)) [.int .u8 (((48 + d : Nat) : Int))] (fun _ => True) (fun _ => False) rfl rfl ?aP (fun _ hk => hk.elim) ?aF ?aO ?aB ?aS ?aL ?_; (case aP => exact rfl); (case aB => exact HB.out); (case aF => exact (fun _ _ => trivial)); (case aO => exact HO.out); (case aS => exact HB.out.size); (case aL => rw [bi_len]; (rw [List.length_append, List.length_take]; simp; omega)); intro v38 w8 ho hb hg hat; have HO2 := Aside0.mk ho; have HB2 := Aside0.mk hb; clear ho hb hg hat)))
        go_roundw
        case rel => exact ⟨j + 1, congrArg (Value.int .i64) (by omega), hjn, ⟨by rw [HX.out]; exact HO2.out⟩, HB2⟩
        case measure => simp [intOf]; omega
       ·obtain rfl : j = n := by omega
        have g8 : ¬ (0 : Int) ≤ (j : Int) - 1 - (j : Int) := by omega
        obtain ⟨A5, c5, e5, hc5, hrd⟩ := Kd.R_reads HO.out
        rw [HE.out, List.take_length] at hrd e5
        generalize hLL : (([45] : List UInt8) ++ decDigits m) = LL at hrd e5
        have HLL := Aside0.mk hLL
        clear hLL
        have hst := Kd.C_string (P := Tryz.prog) (c := c5) Tryz.underlying146 Tryz.underlying5 Tryz.underlying9 hrd
        rw [bi_string] at hst
        subst e5
        clear hrd hc5
        go_wp2
        go_ret
        exact ⟨by rw [← HLL.out]; rfl, HW.out.trans (HB.out.mono HW.out.size)⟩
theorem rWrite_calls {w : World} {A : Option Addr} {L c : Nat} {x : Int} (h : RM w A L x.natAbs) (hL : L ≤ 20000) :
 Calls Tryz.prog 69 #[rV A L c x] w fun e w' => e = .returned (.string (strI x)) ∧ Below w.heap.size w w' := by
 unfold rV
 by_cases h0 : x = 0
 ·subst h0
  have hl : L = 0 := h.len_zero.2 rfl
  subst hl
  rw [show strI 0 = ⟨#[48]⟩ by decide +kernel]
  go_enter Tryz.func69, Tryz.ntmps69
  go_wp2_with fail
  go_ret
  exact ⟨rfl, by repeat (first | exact Below.refl _ _ | apply below_alloc)⟩
 ·have hs : strI x = ⟨((if decide (x < 0) = true then [45] else []) ++ decDigits x.natAbs).toArray⟩ := by unfold strI; rw [itoa_abs]; simp
  rw [hs]
  exact rWrite_nz h (by omega) hL
end
section
open Go.Proofs.YtillgofjlpjbcaaGreatDoorW.PrintLast Go.Proofs.YtillgofjlpjbcaaGreatDoorW.PrintMore Go.Proofs.YtillgofjlpjbcaaGreatDoorW.PrintWords Go.RowKit Go.Shelf
/-- What split's loop knows: no slash so far; one at p. -/
def SpI (l : List UInt8) (i : Nat) (v : Int) : Prop := (v = -1 ∧ (47 : UInt8) ∉ l.take i) ∨ ∃ p : Nat, v = p ∧ p < i ∧ l = l.take p ++ 47 :: l.drop (p + 1) ∧ (47 : UInt8) ∉ l.take p ∧ (47 : UInt8) ∉ (l.take i).drop (p + 1)
theorem take_not {l : List UInt8} {i : Nat} (hi : i < l.length) (h : (47 : UInt8) ∉ l.take i) (hd : l[i] ≠ 47) : (47 : UInt8) ∉ l.take (i + 1) := by
 rw [List.take_succ_eq_append_getElem hi]
 intro h2
 rcases List.mem_append.1 h2 with h2 | h2
 ·exact h h2
 ·exact hd (List.mem_singleton.1 h2).symm
theorem SpI.other {l : List UInt8} {i : Nat} {v : Int} (h : SpI l i v) (hi : i < l.length) (hd : l[i] ≠ 47) : SpI l (i + 1) v := by
 rcases h with ⟨h1, h2⟩ | ⟨p, h1, h2, h3, h4, h5⟩
 ·exact .inl ⟨h1, take_not hi h2 hd⟩
 ·refine .inr ⟨p, h1, by omega, h3, h4, ?_⟩
  rw [List.take_succ_eq_append_getElem hi, List.drop_append_of_le_length (by rw [List.length_take]; omega)]
  intro h6
  rcases List.mem_append.1 h6 with h6 | h6
  ·exact h5 h6
  ·exact hd (List.mem_singleton.1 h6).symm
theorem SpI.first {l : List UInt8} {i : Nat} (h : (47 : UInt8) ∉ l.take i) (hi : i < l.length) (hd : l[i] = 47) : SpI l (i + 1) i := by
 refine .inr ⟨i, rfl, by omega, ?_, h, ?_⟩
 ·have h2 := List.drop_eq_getElem_cons hi
  rw [hd] at h2
  rw [← h2, List.take_append_drop]
 ·rw [List.drop_of_length_le (by rw [List.length_take]; exact Nat.min_le_left _ _)]
  simp
theorem rfirst_calls {w : World} {g n : Nat} (es : List Int) (hn : es.length = n) (hl : n ≤ 1000) (hc : ∀ j, j < n → w.cell? ⟨g, j, none⟩ = some (.int .i64 (es.getD j 0))) :
 Calls Tryz.prog 81 #[.slice (some ⟨g, 0, none⟩) n n] w fun e w' => e = .returned (.int .i64 (firstI es)) ∧ w' = w := by
 have HC := Aside0.mk hc
 clear hc
 go_enter Tryz.func81, Tryz.ntmps81
 go_wp2_with fail
 go_loopw [3] (fun v3 W => ∃ i : Nat, v3 = .int .i64 (i : Int) ∧ i ≤ n ∧ W = w ∧ Aside0 (∀ e ∈ es.take i, e = 0)) (fun v3 _ => n - (intOf v3).toNat)
 case atStart => exact ⟨0, rfl, Nat.zero_le _, rfl, ⟨by simp⟩⟩
 case round =>
  obtain ⟨i, rfl, hi, rfl, hz⟩ := hrel
  by_cases hlt : i < n
  ·have hci := HC.out i hlt
   have hli : i < es.length := by omega
   obtain ⟨d, hd⟩ : ∃ d, es.getD i 0 = d := ⟨_, rfl⟩
   rw [hd] at hci
   have hdi : es[i] = d := by rw [← hd]; simp [List.getD_eq_getElem?_getD, hli]
   have hlt' : (i : Int) < (n : Int) := by omega
   have e1 : IntKind.i64.wrap ((i : Int) + 1) = ((i + 1 : Nat) : Int) := by rw [IntWalk.i64_in _ (by omega)]; omega
   have HD := Aside0.mk hdi
   clear hd hdi
   by_cases h0 : d = 0
   ·subst h0
    go_wp2
    go_roundw
    case rel =>
     refine ⟨i + 1, by first | rfl | go_num, hlt, by first | rfl | trivial, ⟨fun e he => ?_⟩⟩
     rw [List.take_succ_eq_append_getElem hli] at he
     rcases List.mem_append.1 he with he | he
     ·exact hz.out e he
     ·rw [List.mem_singleton.1 he]; exact HD.out
    case measure => simp [intOf]; omega
   ·have hb : (d != 0) = true := by simp [h0]
    go_wp2
    go_ret
    refine ⟨?_, rfl⟩
    rw [firstI_skip es i hz.out, List.drop_eq_getElem_cons hli, firstI, HD.out, if_neg h0]
    rfl
  ·obtain rfl : i = n := by omega
   go_wp2
   go_ret
   refine ⟨?_, rfl⟩
   rw [firstI_skip es i hz.out, List.drop_of_length_le (by omega)]
   rfl
theorem rfirst2_calls (x y : Int) (w : World) (b : Nat) (hb : b = w.heap.size) (t : TypeId) : Calls Tryz.prog 81 #[.slice (some ⟨b, 0, none⟩) 2 2] (w.alloc (.cells #[.int .i64 x, .int .i64 y] t)) fun e w' => e = .returned (.int .i64 (firstI [x, y])) ∧ w' = w.alloc (.cells #[.int .i64 x, .int .i64 y] t) := by
 subst hb
 refine rfirst_calls [x, y] rfl (by omega) (fun j hj => ?_)
 match j, hj with
 | 0, _ => simp
 | 1, _ => simp
theorem rfirst2_ret (x y z : Int) (hz : firstI [x, y] = z) (w : World) (b : Nat) (hb : b = w.heap.size) (t : TypeId) : Calls Tryz.prog 81 #[.slice (some ⟨b, 0, none⟩) 2 2] (w.alloc (.cells #[.int .i64 x, .int .i64 y] t)) fun e w' => e = .returned (.int .i64 z) ∧ w' = w.alloc (.cells #[.int .i64 x, .int .i64 y] t) := by
 subst hz; exact rfirst2_calls x y w b hb t
theorem rfirst3_ret (x y z r : Int) (hr : firstI [x, y, z] = r) (w : World) (b : Nat) (hb : b = w.heap.size) (t : TypeId) : Calls Tryz.prog 81 #[.slice (some ⟨b, 0, none⟩) 3 3] (w.alloc (.cells #[.int .i64 x, .int .i64 y, .int .i64 z] t)) fun e w' => e = .returned (.int .i64 r) ∧ w' = w.alloc (.cells #[.int .i64 x, .int .i64 y, .int .i64 z] t) := by
 subst hb hr
 refine rfirst_calls [x, y, z] rfl (by omega) (fun j hj => ?_)
 match j, hj with
 | 0, _ => simp
 | 1, _ => simp
 | 2, _ => simp
/-- A block that is just these limbs. -/
def RowI (w : World) (g : Nat) (xs : List Nat) : Prop := w.heap[g]? = some (.cells (xs.map fun d : Nat => Value.int .i64 (d : Int)).toArray 3 (0, 0))
section
variable {w w' : World} {g : Nat} {xs : List Nat}
theorem RowI.lt (h : RowI w g xs) : g < w.heap.size := (Array.getElem?_eq_some_iff.1 h).1
theorem RowI.cell (h : RowI w g xs) {j : Nat} (hj : j < xs.length) : w.cell? ⟨g, j, none⟩ = some (.int .i64 (xs.getD j 0 : Nat)) := by
 rw [cell_of_row w g j _ _ (0, 0) h]
 simp [hj, List.getD_eq_getElem?_getD]
theorem RowI.frozen (h : RowI w g xs) (j : Nat) : w.frozen? ⟨g, j, none⟩ = false := by
 unfold RowI at h
 simp [World.frozen?, h]
theorem RowI.keep (h : RowI w g xs) (hb : Below w.heap.size w w') : RowI w' g xs := (hb.block g h.lt).trans h
theorem RowI.set (h : RowI w g xs) (j d : Nat) : RowI (w.setCell ⟨g, j, none⟩ (.int .i64 (d : Int))) g (xs.set j d) := by
 unfold RowI at h ⊢
 simp [World.setCell, Array.getElem?_modify, h]
theorem RowI.rl (h : RowI w g xs) (hl : xs.length ≤ 1000000) : RL w (some ⟨g, 0, none⟩) xs.length xs := by
 refine Kd.C_of_reads (enc := Value.int .i64) (d := (0 : Int)) (h1 := fun _ => rfl) ⟨li_len xs, by omega, fun _ => ⟨⟨g, 0, none⟩, rfl, fun j hj => ?_⟩⟩
 have hadd : (⟨g, 0, none⟩ : Addr).add j = ⟨g, j, none⟩ := by unfold Addr.add; split <;> simp_all
 rw [hadd, h.cell hj]
 have e := rd_li xs j
 unfold rd at e
 rw [Int.toNat_natCast] at e
 rw [e]
end
/-- make([]int, n): a block of zeros. -/
def zerosI (N : Nat) : Obj := .cells ((List.replicate N 0).map fun d : Nat => Value.int .i64 (d : Int)).toArray 3
theorem make_int (l : Int) (N : Nat) (hl : l = N) (hN : N ≤ 1000000) (W : World) :
 (Instr.makeSlice 75 (.int .i64 l) (.int .i64 l)).run Tryz.prog W = .ok (.slice (some ⟨W.heap.size, 0, none⟩) N N) (W.alloc (zerosI N)) := by
 subst hl
 obtain ⟨i0, hi0, hz0, hz1, hz2⟩ := info_parts rinfo
 have h := run_make (P := Tryz.prog) W 75 3 i0 _ Tryz.underlying75 hi0 hz0 .i64 .i64 N N (by omega) (by omega) (by rw [hz2]; omega) (by omega)
 rw [hz1, Int.toNat_natCast, Nat.mul_one] at h
 rw [h]
 have e : madeCells (Value.int .i64 0).cells N = ((List.replicate N 0).map fun d : Nat => Value.int .i64 (d : Int)).toArray := by
  apply Array.toList_inj.1
  have := toList_madeCells_one (.int .i64 0) N
  rw [show (Value.int .i64 0).cells = #[Value.int .i64 0] from rfl, this]
  simp
 rw [e]; rfl
theorem rowI_zeros (W : World) (N : Nat) : RowI (W.alloc (zerosI N)) W.heap.size (List.replicate N 0) := heap_alloc_new W _
theorem rlimb_b {w W : World} {A : Option Addr} {L c n x : Nat} (h : RM w A L n) (hb : Below w.heap.size w W) (i : Nat) (hx : n / QQ ^ i % QQ = x) :
 Calls Tryz.prog 150 #[.slice A L c, .int .i64 (i : Int)] W fun e w' => e = .returned (.int .i64 (x : Int)) ∧ Below W.heap.size W w' := by
 subst hx
 exact (rlimb_calls (h.below hb) i).mono fun e w' h => ⟨h.1, by rw [h.2]; exact Below.refl _ _⟩
theorem rTimes_abs {w : World} {A1 A2 : Option Addr} {L1 L2 c1 c2 m n : Nat} {f1 f2 : Bool} (h1 : RM w A1 L1 m) (h2 : RM w A2 L2 n) (hL : L1 + L2 ≤ 90000) :
 Calls Tryz.prog 86 #[.agg #[.bool f1, .slice A1 L1 c1], .agg #[.bool f2, .slice A2 L2 c2]] w fun e w' => ∃ A k c, e = .returned (.agg #[.bool ((f1 != f2) && decide (m * n ≠ 0)), .slice A k c]) ∧ k ≤ c ∧ RM w' A k (m * n) ∧ Below w.heap.size w w' := by
 have H1 : Aside0 (RM w A1 L1 m) := ⟨h1⟩
 have H2 : Aside0 (RM w A2 L2 n) := ⟨h2⟩
 clear h1 h2
 have hmk := make_int ((L1 : Int) + L2 + 1) (L1 + L2 + 1) (by omega) (by omega)
 go_enter Tryz.func86, Tryz.ntmps86
 go_wp2_with fail
 obtain ⟨wa, hwa⟩ : ∃ wa, ((((w.alloc (.cells #[.bool f1, .slice A1 L1 c1] 77)).alloc (.cells #[.bool f2, .slice A2 L2 c2] 77)).alloc (.cells #[.bool false, .slice none 0 0] 77)).alloc (zerosI (L1 + L2 + 1))) = wa := ⟨_, rfl⟩
 have hx0 : wa.heap.size = w.heap.size + 4 := by subst hwa; simp
 have hgo : RowI wa (w.heap.size + 3) (List.replicate (L1 + L2 + 1) 0) := by
  subst hwa
  have := rowI_zeros (((w.alloc (.cells #[.bool f1, .slice A1 L1 c1] 77)).alloc (.cells #[.bool f2, .slice A2 L2 c2] 77)).alloc (.cells #[.bool false, .slice none 0 0] 77)) (L1 + L2 + 1)
  simpa using this
 have hbg : BG wa w.heap.size f1 A1 L1 c1 ∧ BG wa (w.heap.size + 1) f2 A2 L2 c2 ∧ BG wa (w.heap.size + 2) false none 0 0 := by
  subst hwa
  refine ⟨(((BG.new w _ _ _ _).alloc _).alloc _).alloc _, BG.alloc (BG.alloc ?_ _) _, BG.alloc ?_ _⟩
  ·have h := BG.new (w.alloc (.cells #[.bool f1, .slice A1 L1 c1] 77)) f2 A2 L2 c2
   simpa using h
  ·have h := BG.new ((w.alloc (.cells #[.bool f1, .slice A1 L1 c1] 77)).alloc (.cells #[.bool f2, .slice A2 L2 c2] 77)) false none 0 0
   simpa using h
 have hbe : Below w.heap.size w wa := by subst hwa; repeat (first | exact Below.refl _ _ | apply below_alloc)
 rw [hwa]
 have HX0 := Aside0.mk hx0
 have HX := Aside0.mk hbg
 have HA := Aside0.mk hbe
 have HG := Aside0.mk hgo
 clear hgo hwa hmk hbg hbe hx0
 go_loopw [6] (fun v6 W => ∃ i : Nat, v6 = .int .i64 (i : Int) ∧ i ≤ L1 ∧ Aside0 (∃ xs, xs.length = L1 + L2 + 1 ∧ (∀ d ∈ xs, d < QQ) ∧ val QQ xs = m % QQ ^ i * n ∧ RowI W (w.heap.size + 3) xs) ∧ Aside0 (Below (w.heap.size + 3) wa W)) (fun v6 _ => L1 - (intOf v6).toNat)
 case atStart => exact ⟨0, rfl, by omega, ⟨_, by simp, by intro d hd; rw [List.eq_of_mem_replicate hd]; decide, by rw [val_zeros]; simp [Nat.mod_one], HG.out⟩, ⟨Below.refl _ _⟩⟩
 case round =>
  obtain ⟨i, rfl, hi, hout, hbr⟩ := hrel
  have qa : wr.cell? ⟨w.heap.size, 1, none⟩ = some (.slice A1 L1 c1) := (hbr.out.cell (p := ⟨w.heap.size, 1, none⟩) (by simp)).trans HX.out.1.cell1
  by_cases hlt : i < L1
  ·have HW : Aside0 (Below w.heap.size w wr) := ⟨HA.out.trans (hbr.out.mono (by omega))⟩
   have hi0 : (i : Int) < (L1 : Int) := by omega
   go_wp2_with fail
   clear qa
   go_loopw [7, 8] (fun v7 v8 W => ∃ k c : Nat, v7 = .int .i64 (c : Int) ∧ v8 = .int .i64 (k : Int) ∧ k ≤ L2 + 1 ∧ c < 10000 ∧ Aside0 (∃ xs, xs.length = L1 + L2 + 1 ∧ (∀ d ∈ xs, d < QQ) ∧ val QQ xs + QQ ^ (i + k) * c = m % QQ ^ i * n + QQ ^ i * (m / QQ ^ i % QQ * (n % QQ ^ k)) ∧ RowI W (w.heap.size + 3) xs) ∧ Aside0 (Below (w.heap.size + 3) wa W)) (fun _ v8 _ => L2 + 1 - (intOf v8).toNat)
   case atStart =>
    obtain ⟨xs, o1, o2, o3, o4⟩ := hout.out
    exact ⟨0, 0, rfl, rfl, by omega, by omega, ⟨xs, o1, o2, by rw [o3]; simp [Nat.mod_one], o4⟩, hbr⟩
   case round =>
    clear hout hbr HW
    obtain ⟨k, c, rfl, rfl, hk, hc1, hout, hbr⟩ := hrel
    have q2 : wr.cell? ⟨w.heap.size + 1, 1, none⟩ = some (.slice A2 L2 c2) := (hbr.out.cell (p := ⟨w.heap.size + 1, 1, none⟩) (by simp)).trans HX.out.2.1.cell1
    have HEND : Aside0 ((¬ k < L2 ∧ ¬ 0 < c) ∨ k = L2 + 1 → c = 0 ∧ ∃ xs, xs.length = L1 + L2 + 1 ∧ (∀ d ∈ xs, d < QQ) ∧ val QQ xs = m % QQ ^ (i + 1) * n ∧ RowI wr (w.heap.size + 3) xs) := ⟨fun h => by
     obtain ⟨xs, o1, o2, o3, o4⟩ := hout.out
     have hn := dg_lt_pow QQ1 n
     rw [H2.out.len] at hn
     by_cases hk2 : k = L2 + 1
     ·subst hk2
      have := row_end QQ1 (lo := L2) hn o3
      exact ⟨this.1, xs, o1, o2, this.2, o4⟩
     ·have hc0 : c = 0 := by omega
      subst hc0
      refine ⟨rfl, xs, o1, o2, ?_, o4⟩
      rw [Nat.mod_eq_of_lt (Nat.lt_of_lt_of_le hn (Nat.pow_le_pow_right (by decide) (by omega))), Nat.mul_zero, Nat.add_zero] at o3
      rw [o3, mod_pow_succ', Nat.add_mul, Nat.mul_assoc]⟩
    by_cases hgo : k < L2 ∨ (0 < c ∧ k < L2 + 1)
    ·obtain ⟨xs, o1, o2, o3, o4⟩ := hout.out
     obtain ⟨x, hx⟩ : ∃ x, n / QQ ^ k % QQ = x := ⟨_, rfl⟩
     have hx1 : x < 10000 := by rw [← hx]; exact Nat.mod_lt _ (by decide)
     obtain ⟨a, ha⟩ : ∃ a, m / QQ ^ i % QQ = a := ⟨_, rfl⟩
     have ha1 : a < 10000 := by rw [← ha]; exact Nat.mod_lt _ (by decide)
     rw [ha] at o3
     obtain ⟨d, hd⟩ : ∃ d, xs.getD (i + k) 0 = d := ⟨_, rfl⟩
     have hd1 : d < 10000 := by
      rw [← hd, getD_lt (by omega)]
      exact o2 _ (List.getElem_mem _)
     have HWr : Below w.heap.size w wr := HA.out.trans (hbr.out.mono (by omega))
     obtain ⟨ad, hA1, hc⟩ := (H1.out.below HWr).at hlt
     rw [ha] at hc
     have q0 : wr.cell? ⟨w.heap.size + 1 + 1 + 1, i + k, none⟩ = some (.int .i64 (d : Int)) := by rw [← hd]; exact o4.cell (by omega)
     have q1 : wr.cell? ⟨w.heap.size, 1, none⟩ = some (.slice A1 L1 c1) := (hbr.out.cell (p := ⟨w.heap.size, 1, none⟩) (by simp)).trans HX.out.1.cell1
     have HXD : Aside0 (n / QQ ^ k % QQ = x ∧ xs.getD (i + k) 0 = d ∧ m / QQ ^ i % QQ = a) := ⟨hx, hd, ha⟩
     have HO : Aside0 (xs.length = L1 + L2 + 1 ∧ (∀ d ∈ xs, d < QQ) ∧ val QQ xs + QQ ^ (i + k) * c = m % QQ ^ i * n + QQ ^ i * (a * (n % QQ ^ k))) := ⟨o1, o2, o3⟩
     have HR : Aside0 (RowI wr (w.heap.size + 3) xs) := ⟨o4⟩
     have HW : Aside0 (Below w.heap.size w wr) := ⟨HWr⟩
     clear hx hd ha o1 o2 o3 o4 hout HWr HEND
     subst hA1
     have hm1 : d + a * x + c < 10000 * 10000 := row_small hd1 ha1 hx1 hc1
     have hax : (a : Int) * (x : Int) = ((a * x : Nat) : Int) := by simp
     have s1 : IntKind.i64.wrap ((i : Int) + (k : Int)) = (i : Int) + (k : Int) := IntWalk.i64_in _ (by omega)
     have s2 : (0 : Int) ≤ (i : Int) + (k : Int) := by omega
     have s3 : ((i : Int) + (k : Int)).toNat = i + k := by omega
     have s4 : (i : Int) + (k : Int) < (L1 : Int) + (L2 : Int) + 1 := by omega
     have p1 : IntKind.i64.wrap ((a : Int) * (x : Int)) = (a : Int) * (x : Int) := IntWalk.i64_in _ (by rw [hax]; omega)
     have p2 : IntKind.i64.wrap ((d : Int) + (a : Int) * (x : Int)) = (d : Int) + (a : Int) * (x : Int) := IntWalk.i64_in _ (by rw [hax]; omega)
     have p3 : IntKind.i64.wrap ((d : Int) + (a : Int) * (x : Int) + (c : Int)) = (d : Int) + (a : Int) * (x : Int) + (c : Int) := IntWalk.i64_in _ (by rw [hax]; omega)
     have HM : Aside0 (d + a * x + c < 10000 * 10000) := ⟨hm1⟩
     have tb : Below wr.heap.size wr wr.drew := below_drew1 (Below.refl _ _)
     clear hm1 hax
     by_cases hkl : k < L2
     ·have hkl' : (k : Int) < (L2 : Int) := by omega
      go_wp2_with fail
      go_region_held3 (fun W => W.cell? ⟨w.heap.size + 1 + 1 + 1, i + k, none⟩ = some (.int .i64 (d : Int)) ∧ W.cell? (ad.add i) = some (.int .i64 (a : Int)) ∧ W.cell? ⟨w.heap.size, 1, none⟩ = some (.slice (some ad) L1 c1) ∧ W.cell? ⟨w.heap.size + 1, 1, none⟩ = some (.slice A2 L2 c2) ∧ Below wr.heap.size wr W)
       (first
         | go_keep
         | (go_split_ands
            have hBB := bJoin (w1 := wr) hbq (by first | assumption | exact (‹_ ∧ _ ∧ _ ∧ _ ∧ Below wr.heap.size wr _›).2.2.2.2)
            exact ⟨keepB2 hBB q0, keepB2 hBB hc, keepB2 hBB q1, keepB2 hBB q2, hBB⟩))
       (first
         | (go_at_call 150; (with_reducible refine (rlimb_b H2.out (below_step HW.out (by first | assumption | exact (‹_ ∧ _ ∧ _ ∧ _ ∧ Below wr.heap.size wr _›).2.2.2.2)) k HXD.out.1).mono ?_); rintro e wq ⟨rfl, hbq⟩))
      have tq : Below wr.heap.size wr wq := (‹_ ∧ _ ∧ _ ∧ _ ∧ Below wr.heap.size wr wq›).2.2.2.2
      have hRq : RowI wq (w.heap.size + 3) xs := HR.out.keep tq
      have r0 : wq.cell? ⟨w.heap.size + 1 + 1 + 1, i + k, none⟩ = some (.int .i64 (d : Int)) := (‹_ ∧ _ ∧ _ ∧ _ ∧ Below wr.heap.size wr wq›).1
      have r1 : wq.frozen? ⟨w.heap.size + 1 + 1 + 1, i + k, none⟩ = false := hRq.frozen _
      have HRq := Aside0.mk hRq
      have HBq : Aside0 (Below (w.heap.size + 3) wa wq) := ⟨hbr.out.trans (tq.mono (by have := HR.out.lt; omega))⟩
      obtain ⟨N, hN⟩ : ∃ N, d + a * x + c = N := ⟨_, rfl⟩
      have hNi : (d : Int) + (a : Int) * (x : Int) + (c : Int) = (N : Int) := by rw [← hN]; simp
      have hN1 : N < 10000 * 10000 := by rw [← hN]; exact HM.out
      rw [hNi]
      have HN : Aside0 (d + a * x + c = N) := ⟨hN⟩
      clear hRq tb tq hbq q0 q1 q2 hc p1 p2 p3 hNi hN hbr
      go_wp2_with fail
      go_roundw
      case rel =>
       have eN : ((N : Int) % 10000) = ((N % QQ : Nat) : Int) := by unfold QQ; omega
       rw [eN]
       refine ⟨k + 1, N / QQ, congrArg (Value.int .i64) (by unfold QQ; omega), by go_num, by omega, by unfold QQ; omega, ⟨xs.set (i + k) (N % QQ), by rw [List.length_set]; exact HO.out.1, ?_, ?_, HRq.out.set _ _⟩, ⟨HBq.out.setCell (by simp) _⟩⟩
       ·intro d' hd'
        rcases List.mem_or_eq_of_mem_set hd' with h | h
        ·exact HO.out.2.1 d' h
        ·rw [h]; exact Nat.mod_lt _ (by decide)
       ·rw [HXD.out.2.2]
        exact row_step (by rw [HO.out.1]; omega) HO.out.2.2 (by rw [HXD.out.1, HXD.out.2.1, HN.out])
      case measure => simp [intOf]; omega
     ·have hkl' : ¬ (k : Int) < (L2 : Int) := by omega
      have hc0 : (0 : Int) < (c : Int) := by omega
      have hkk : k < L2 + 1 := by omega
      go_wp2_with fail
      go_region_held3 (fun W => W.cell? ⟨w.heap.size + 1 + 1 + 1, i + k, none⟩ = some (.int .i64 (d : Int)) ∧ W.cell? (ad.add i) = some (.int .i64 (a : Int)) ∧ W.cell? ⟨w.heap.size, 1, none⟩ = some (.slice (some ad) L1 c1) ∧ W.cell? ⟨w.heap.size + 1, 1, none⟩ = some (.slice A2 L2 c2) ∧ Below wr.heap.size wr W)
       (first
         | go_keep
         | (go_split_ands
            have hBB := bJoin (w1 := wr) hbq (by first | assumption | exact (‹_ ∧ _ ∧ _ ∧ _ ∧ Below wr.heap.size wr _›).2.2.2.2)
            exact ⟨keepB2 hBB q0, keepB2 hBB hc, keepB2 hBB q1, keepB2 hBB q2, hBB⟩))
       (first
         | (go_at_call 150; (with_reducible refine (rlimb_b H2.out (below_step HW.out (by first | assumption | exact (‹_ ∧ _ ∧ _ ∧ _ ∧ Below wr.heap.size wr _›).2.2.2.2)) k HXD.out.1).mono ?_); rintro e wq ⟨rfl, hbq⟩))
      have tq : Below wr.heap.size wr wq := (‹_ ∧ _ ∧ _ ∧ _ ∧ Below wr.heap.size wr wq›).2.2.2.2
      have hRq : RowI wq (w.heap.size + 3) xs := HR.out.keep tq
      have r0 : wq.cell? ⟨w.heap.size + 1 + 1 + 1, i + k, none⟩ = some (.int .i64 (d : Int)) := (‹_ ∧ _ ∧ _ ∧ _ ∧ Below wr.heap.size wr wq›).1
      have r1 : wq.frozen? ⟨w.heap.size + 1 + 1 + 1, i + k, none⟩ = false := hRq.frozen _
      have HRq := Aside0.mk hRq
      have HBq : Aside0 (Below (w.heap.size + 3) wa wq) := ⟨hbr.out.trans (tq.mono (by have := HR.out.lt; omega))⟩
      obtain ⟨N, hN⟩ : ∃ N, d + a * x + c = N := ⟨_, rfl⟩
      have hNi : (d : Int) + (a : Int) * (x : Int) + (c : Int) = (N : Int) := by rw [← hN]; simp
      have hN1 : N < 10000 * 10000 := by rw [← hN]; exact HM.out
      rw [hNi]
      have HN : Aside0 (d + a * x + c = N) := ⟨hN⟩
      clear hRq tb tq hbq q0 q1 q2 hc p1 p2 p3 hNi hN hbr
      go_wp2_with fail
      go_roundw
      case rel =>
       have eN : ((N : Int) % 10000) = ((N % QQ : Nat) : Int) := by unfold QQ; omega
       rw [eN]
       refine ⟨k + 1, N / QQ, congrArg (Value.int .i64) (by unfold QQ; omega), by go_num, by omega, by unfold QQ; omega, ⟨xs.set (i + k) (N % QQ), by rw [List.length_set]; exact HO.out.1, ?_, ?_, HRq.out.set _ _⟩, ⟨HBq.out.setCell (by simp) _⟩⟩
       ·intro d' hd'
        rcases List.mem_or_eq_of_mem_set hd' with h | h
        ·exact HO.out.2.1 d' h
        ·rw [h]; exact Nat.mod_lt _ (by decide)
       ·rw [HXD.out.2.2]
        exact row_step (by rw [HO.out.1]; omega) HO.out.2.2 (by rw [HXD.out.1, HXD.out.2.1, HN.out])
      case measure => simp [intOf]; omega
    ·have hend : (¬ k < L2 ∧ ¬ 0 < c) ∨ k = L2 + 1 := by omega
     obtain ⟨rfl, hE0⟩ := HEND.out hend
     have HE := Aside0.mk hE0
     have hkl : ¬ (k : Int) < (L2 : Int) := by omega
     clear hout hE0 HEND hgo hend
     go_wp2_with fail
     go_roundw
     case rel => exact ⟨i + 1, by go_num, by omega, HE, hbr⟩
     case measure => simp [intOf]; omega
  ·obtain rfl : i = L1 := by omega
   clear hi hlt
   obtain ⟨xs, o1, o2, o3, o4⟩ := hout.out
   have HO : Aside0 ((∀ d ∈ xs, d < QQ) ∧ val QQ xs = m * n ∧ RL wr (some ⟨w.heap.size + 3, 0, none⟩) (i + L2 + 1) xs) := ⟨o2, by rw [o3, mod_big QQ1 (Nat.le_of_eq H1.out.len)], by have := o4.rl (by omega); rwa [o1] at this⟩
   have HB2 : Aside0 (BG wr (w.heap.size + 2) false none 0 0) := ⟨HX.out.2.2.low (B := w.heap.size + 3) (by omega) hbr.out⟩
   have qb : wr.cell? ⟨w.heap.size, 0, none⟩ = some (.bool f1) := (hbr.out.cell (p := ⟨w.heap.size, 0, none⟩) (by simp)).trans HX.out.1.cell0
   have qc : wr.cell? ⟨w.heap.size + 1, 0, none⟩ = some (.bool f2) := (hbr.out.cell (p := ⟨w.heap.size + 1, 0, none⟩) (by simp)).trans HX.out.2.1.cell0
   have HW : Aside0 (Below w.heap.size w wr ∧ w.heap.size + 3 ≤ wr.heap.size) := ⟨HA.out.trans (hbr.out.mono (by omega)), by have := HX0.out; have := hbr.out.size; omega⟩
   clear o1 o2 o3 o4 hout hbr
   go_wp2_with (go_at_call 137; (with_reducible refine (rtrim_sign HO.out.2.2 (Nat.le_refl _) HO.out.1 _).mono ?_); rintro e wm ⟨k6, g6, rfl, hg6, hk6, hm6, hbq⟩; have HG6 := Aside0.mk (And.intro hg6 hk6); clear hg6 hk6; have HO2 := Aside0.mk (HB2.out.below hbq); have hm6 := Aside0.mk hm6; have HBQ := Aside0.mk hbq; clear hbq; have q0 := HO2.out.cell0; have q1 := HO2.out.cell1; have q4 := HO2.out.fr 0; have q5 := HO2.out.fr 1)
   refine bodyPost_ret (v := .agg #[.bool g6, .slice (some ⟨w.heap.size + 3, 0, none⟩) k6 (i + L2 + 1)]) (by simp [results, Tryz.results86, go_sem, q0, q1]) rfl ⟨some ⟨w.heap.size + 3, 0, none⟩, k6, i + L2 + 1, by rw [HG6.out.1, HO.out.2.1]; rfl, HG6.out.2, ?_, ?_⟩
   ·have h := hm6.out
    rw [HO.out.2.1] at h
    exact (h.bg HO2.out 0 _).bg (HO2.out.put0 _) 1 _
   ·exact ((HW.out.1.trans (HBQ.out.mono (Nat.le_trans (by omega) HW.out.2))).setCell (by simp; omega) _).setCell (by simp; omega) _
theorem strI_size2 {x : Int} {k : Nat} (h : Dig k x) (hk : 0 < k) : (strI x).size ≤ k + 1 := by
 have h1 := dec_len k x.natAbs hk h
 show (Lib.itoa x).toArray.size ≤ _
 rw [itoa_abs]
 simp
 split <;> simp <;> omega
theorem written_check (x : Int) : checkI (strI x) = wrE x := by
 have hs : (⟨(Lib.decDigits x.natAbs).toArray⟩ : ByteArray).size = (Lib.decDigits x.natAbs).length := rfl
 unfold checkI
 rw [strI_body, strI_minus]
 rw [if_neg, if_neg]
 ·rfl
 ·rintro ⟨h1, h2⟩
  have h3 := dec_head _ h1
  rcases h2 with h2 | h2
  ·have := of_decide_eq_true h2; omega
  ·rw [hs, h3, dec_small (by omega)] at h2
   simp at h2
 ·have hp := dec_pos x.natAbs
  unfold digitsB
  rw [show (⟨(Lib.decDigits x.natAbs).toArray⟩ : ByteArray).data.toList = Lib.decDigits x.natAbs from rfl, dg_all (dec_digits _)]
  simp only [Bool.true_and]
  intro h0
  have := of_decide_eq_false h0
  omega
theorem check_digits {s : ByteArray} (h : checkI s = 0) : digitsB (bodyB s) = true := by
 cases hd : digitsB (bodyB s)
 ·unfold checkI at h
  rw [hd] at h
  simp at h
 ·rfl
theorem RM.dig {w : World} {A : Option Addr} {L k : Nat} {x : Int} (h : RM w A L x.natAbs) (hx : Dig k x) (j : Nat) (hk : k ≤ 4 * j) : L ≤ j := by
 refine h.bound (Nat.lt_of_lt_of_le hx ?_)
 rw [show QQ ^ j = 10 ^ (4 * j) by rw [Nat.pow_mul]]
 exact Nat.pow_le_pow_right (by decide) hk
theorem rresult_calls {w : World} {A : Option Addr} {L c : Nat} {x : Int} (h : RM w A L x.natAbs) (hx : Dig 4000 x) :
 Calls Tryz.prog 77 #[rV A L c x] w fun e w' => e = .returned (.tuple #[.string (wrS x), .int .i64 (wrE x)]) ∧ Below w.heap.size w w' := by
 have HW : Aside0 (∀ W, Below w.heap.size w W → Calls Tryz.prog 69 #[rV A L c x] W fun e w' => e = .returned (.string (strI x)) ∧ Below W.heap.size W w') := ⟨fun W hb => rWrite_calls (h.below hb) (Nat.le_trans (h.dig hx 1000 (by omega)) (by omega))⟩
 have HCX := Aside0.mk (fun W => rCheck_calls (strI x) (by have := strI_size2 hx (by omega); omega) W)
 rw [written_check] at HCX
 have HB := Aside0.mk (Below.refl w.heap.size w)
 have hw : wrS x = if wrE x = 0 then strI x else ⟨#[]⟩ := by unfold wrS wrE; split <;> simp
 rw [hw]
 unfold rV at *
 generalize decide (x < 0) = f at *
 generalize strI x = S at *
 generalize wrE x = E at *
 clear h hx hw
 by_cases h0 : E = 0
 ·subst h0
  rw [if_pos rfl]
  go_enter Tryz.func77, Tryz.ntmps77
  go_wp2_with (first | (go_at_call 69; (with_reducible refine (HW.out _ (by first | exact below_alloc (Below.refl _ _) _ | exact HB.out)).mono ?_); rintro e wx ⟨rfl, hbx⟩; have HB2 := Aside0.mk ((below_alloc HB.out _).trans (hbx.mono (by simp))); clear HB; have HB := HB2; clear HB2 hbx) | (go_at_call 13; (with_reducible refine (HCX.out _).mono ?_); rintro e wx ⟨rfl, hbx⟩; have HB2 := Aside0.mk (HB.out.trans (hbx.mono HB.out.size)); clear HB; have HB := HB2; clear HB2; clear hbx))
  go_ret2
  exact ⟨rfl, HB.out⟩
 ·have hbe : (E != 0) = true := by simp [h0]
  rw [if_neg h0]
  go_enter Tryz.func77, Tryz.ntmps77
  go_wp2_with (first | (go_at_call 69; (with_reducible refine (HW.out _ (by first | exact below_alloc (Below.refl _ _) _ | exact HB.out)).mono ?_); rintro e wx ⟨rfl, hbx⟩; have HB2 := Aside0.mk ((below_alloc HB.out _).trans (hbx.mono (by simp))); clear HB; have HB := HB2; clear HB2 hbx) | (go_at_call 13; (with_reducible refine (HCX.out _).mono ?_); rintro e wx ⟨rfl, hbx⟩; have HB2 := Aside0.mk (HB.out.trans (hbx.mono HB.out.size)); clear HB; have HB := HB2; clear HB2; clear hbx))
  go_ret2
  exact ⟨rfl, HB.out⟩
section
variable {x y : Int} {k : Nat}
end
/-- A fraction's value. -/
def fR (A1 : Option Addr) (L1 c1 : Nat) (p : Int) (A2 : Option Addr) (L2 c2 : Nat) (q : Int) : Value := .agg #[.bool (decide (p < 0)), .slice A1 L1 c1, .bool (decide (q < 0)), .slice A2 L2 c2]
/-- A fraction's two magnitudes in memory. -/
structure M2 (W : World) (A1 : Option Addr) (L1 c1 : Nat) (p : Int) (A2 : Option Addr) (L2 c2 : Nat) (q : Int) : Prop where
 l1 : L1 ≤ c1
 l2 : L2 ≤ c2
 m1 : RM W A1 L1 p.natAbs
 m2 : RM W A2 L2 q.natAbs
/-- A variable of type Fraction. -/
def BF (W : World) (b : Nat) (f1 : Bool) (A1 : Option Addr) (L1 c1 : Nat) (f2 : Bool) (A2 : Option Addr) (L2 c2 : Nat) : Prop := W.heap[b]? = some (.cells #[.bool f1, .slice A1 L1 c1, .bool f2, .slice A2 L2 c2] 118 (0, 0))
section
variable {W X : World} {b : Nat} {f1 : Bool} {A1 : Option Addr} {L1 c1 : Nat} {f2 : Bool} {A2 : Option Addr} {L2 c2 : Nat}
theorem BF.cell0 (h : BF W b f1 A1 L1 c1 f2 A2 L2 c2) : W.cell? ⟨b, 0, none⟩ = some (.bool f1) := by rw [Lib.cell_of_heap h]; rfl
theorem BF.cell1 (h : BF W b f1 A1 L1 c1 f2 A2 L2 c2) : W.cell? ⟨b, 1, none⟩ = some (.slice A1 L1 c1) := by rw [Lib.cell_of_heap h]; rfl
theorem BF.cell2 (h : BF W b f1 A1 L1 c1 f2 A2 L2 c2) : W.cell? ⟨b, 2, none⟩ = some (.bool f2) := by rw [Lib.cell_of_heap h]; rfl
theorem BF.cell3 (h : BF W b f1 A1 L1 c1 f2 A2 L2 c2) : W.cell? ⟨b, 3, none⟩ = some (.slice A2 L2 c2) := by rw [Lib.cell_of_heap h]; rfl
theorem BF.fr (h : BF W b f1 A1 L1 c1 f2 A2 L2 c2) (o : Nat) : W.frozen? ⟨b, o, none⟩ = false := Lib.frozen_of_heap h o
theorem BF.lt (h : BF W b f1 A1 L1 c1 f2 A2 L2 c2) : b < W.heap.size := (Array.getElem?_eq_some_iff.1 h).1
theorem BF.below (h : BF W b f1 A1 L1 c1 f2 A2 L2 c2) (hb : Below W.heap.size W X) : BF X b f1 A1 L1 c1 f2 A2 L2 c2 := (hb.block b h.lt).trans h
theorem BF.alloc (h : BF W b f1 A1 L1 c1 f2 A2 L2 c2) (o : Obj) : BF (W.alloc o) b f1 A1 L1 c1 f2 A2 L2 c2 := h.below (below_alloc (Below.refl _ _) _)
theorem BF.new (W : World) (b : Nat) (hb : W.heap.size = b) (f1 : Bool) (A1 : Option Addr) (L1 c1 : Nat) (f2 : Bool) (A2 : Option Addr) (L2 c2 : Nat) : BF (W.alloc (.cells #[.bool f1, .slice A1 L1 c1, .bool f2, .slice A2 L2 c2] 118)) b f1 A1 L1 c1 f2 A2 L2 c2 := by subst hb; exact heap_alloc_new W _
theorem BF.other (h : BF W b f1 A1 L1 c1 f2 A2 L2 c2) {b' : Nat} (hne : b ≠ b') (o : Nat) (u : Value) : BF (W.setCell ⟨b', o, none⟩ u) b f1 A1 L1 c1 f2 A2 L2 c2 := by
 unfold BF at *
 rw [Below.heap_setCell _ _ _ _ hne]
 exact h
theorem BF.s0 (h : BF W b f1 A1 L1 c1 f2 A2 L2 c2) (g : Bool) : BF (W.setCell ⟨b, 0, none⟩ (.bool g)) b g A1 L1 c1 f2 A2 L2 c2 := by
 unfold BF at *; simp [World.setCell, Array.getElem?_modify, h]
theorem BF.s1 (h : BF W b f1 A1 L1 c1 f2 A2 L2 c2) (A : Option Addr) (L c : Nat) : BF (W.setCell ⟨b, 1, none⟩ (.slice A L c)) b f1 A L c f2 A2 L2 c2 := by
 unfold BF at *; simp [World.setCell, Array.getElem?_modify, h]
theorem BF.s2 (h : BF W b f1 A1 L1 c1 f2 A2 L2 c2) (g : Bool) : BF (W.setCell ⟨b, 2, none⟩ (.bool g)) b f1 A1 L1 c1 g A2 L2 c2 := by
 unfold BF at *; simp [World.setCell, Array.getElem?_modify, h]
theorem BF.s3 (h : BF W b f1 A1 L1 c1 f2 A2 L2 c2) (A : Option Addr) (L c : Nat) : BF (W.setCell ⟨b, 3, none⟩ (.slice A L c)) b f1 A1 L1 c1 f2 A L c := by
 unfold BF at *; simp [World.setCell, Array.getElem?_modify, h]
end
section
variable {w W : World} {b : Nat} {f1 : Bool} {A1 : Option Addr} {L1 c1 : Nat} {f2 : Bool} {A2 : Option Addr} {L2 c2 : Nat} {g1 : Bool} {B1 : Option Addr} {K1 d1 : Nat} {g2 : Bool} {B2 : Option Addr} {K2 d2 : Nat}
theorem M2.below {X : World} {p q : Int} (h : M2 W B1 K1 d1 p B2 K2 d2 q) (hb : Below W.heap.size W X) : M2 X B1 K1 d1 p B2 K2 d2 q := ⟨h.l1, h.l2, h.m1.below hb, h.m2.below hb⟩
end
theorem RM.one {W : World} {b d : Nat} (hc : W.cell? ⟨b, 0, none⟩ = some (.int .i64 (d : Int))) (h0 : 0 < d) (h1 : d < QQ) : RM W (some ⟨b, 0, none⟩) 1 d := by
 unfold RM
 rw [dg_one QQ1 h0 h1]
 refine Kd.C_of_reads (enc := Value.int .i64) (d := (0 : Int)) (h1 := fun _ => rfl) ⟨rfl, by omega, fun _ => ⟨⟨b, 0, none⟩, rfl, fun j hj => ?_⟩⟩
 obtain rfl : j = 0 := by omega
 exact hc
theorem RL.far {W : World} {b g L : Nat} {xs : List Nat} (h : RL W (some ⟨b, 0, none⟩) L xs) (hne : b ≠ g) (o : Nat) (u : Value) : RL (W.setCell ⟨g, o, none⟩ u) (some ⟨b, 0, none⟩) L xs := by
 obtain ⟨h1, h2, h3⟩ := h
 refine ⟨h1, h2, fun h0 => ?_⟩
 obtain ⟨ad, e, hc⟩ := h3 h0
 injection e with e
 subst e
 refine ⟨_, rfl, fun j p hp => ?_⟩
 obtain ⟨cs, k1, k2, k3⟩ := hc j p hp
 refine ⟨cs, k1, k2, fun i u' hu => ?_⟩
 rw [World.cell?_setCell_far]
 ·exact k3 i u' hu
 ·intro e2
  refine hne (Eq.trans ?_ e2.symm)
  show b = (Addr.add _ _).block
  unfold Addr.add
  split <;> rfl
theorem RM.far {W : World} {b g L n : Nat} (h : RM W (some ⟨b, 0, none⟩) L n) (hne : b ≠ g) (o : Nat) (u : Value) : RM (W.setCell ⟨g, o, none⟩ u) (some ⟨b, 0, none⟩) L n := RL.far h hne o u
theorem rbyLimb_calls {w : World} {A : Option Addr} {L c n d : Nat} (h : RM w A L n) (hL : L ≤ 80000) (h0 : 0 < d) (h1 : d < 10000) :
 Calls Tryz.prog 180 #[.slice A L c, .int .i64 (d : Int)] w fun e w' => ∃ A' k c', e = .returned (.slice A' k c') ∧ k ≤ c' ∧ RM w' A' k (n * d) ∧ Below w.heap.size w w' := by
 have HT : Aside0 (∀ (t : TypeId) g, g = w.heap.size → Calls Tryz.prog 86 #[.agg #[.bool false, .slice A L c], .agg #[.bool false, .slice (some ⟨g, 0, none⟩) 1 1]] (w.alloc (.cells #[.int .i64 (d : Int)] t)) fun e w' => ∃ A k c, e = .returned (.agg #[.bool ((false != false) && decide (n * d ≠ 0)), .slice A k c]) ∧ k ≤ c ∧ RM w' A k (n * d) ∧ Below (w.alloc (.cells #[.int .i64 (d : Int)] t)).heap.size (w.alloc (.cells #[.int .i64 (d : Int)] t)) w') := ⟨fun t g hg => by
  subst hg
  exact rTimes_abs (h.below (below_alloc (Below.refl _ _) _)) (RM.one (by simp [go_sem]) h0 h1) (by omega)⟩
 have hu77 := bigF1
 clear h
 go_enter Tryz.func180, Tryz.ntmps180
 go_wp2_with (go_at_call 86; (with_reducible refine (HT.out _ _ rfl).mono ?_); rintro e wx ⟨A5, k5, c5, rfl, hk5, hm5, hbx⟩; have HM5 := Aside0.mk (And.intro hk5 hm5); have HB5 := Aside0.mk hbx; clear hk5 hm5 hbx)
 repeat (go_quiet (fail); try go_wp2)
 go_ret
 exact ⟨A5, k5, c5, rfl, HM5.out.1, HM5.out.2, (below_alloc (Below.refl _ _) _).trans (HB5.out.mono (by simp))⟩
theorem RL.of {w : World} {g : Nat} {xs : List Nat} (hl : xs.length ≤ 1000000) (h : ∀ j, j < xs.length → w.cell? ⟨g, j, none⟩ = some (.int .i64 (xs.getD j 0 : Nat))) : RL w (some ⟨g, 0, none⟩) xs.length xs := by
 refine Kd.C_of_reads (enc := Value.int .i64) (d := (0 : Int)) (h1 := fun _ => rfl) ⟨li_len xs, by omega, fun _ => ⟨⟨g, 0, none⟩, rfl, fun j hj => ?_⟩⟩
 have hadd : (⟨g, 0, none⟩ : Addr).add j = ⟨g, j, none⟩ := by unfold Addr.add; split <;> simp_all
 rw [hadd, h j hj]
 have e := rd_li xs j
 unfold rd at e
 rw [Int.toNat_natCast] at e
 rw [e]
theorem own_litI (W : World) (d : Nat) : (W.alloc (.cells #[.int .i64 d] 3)).ownsRow W.heap.size 3 1 (.slice (some ⟨W.heap.size, 0, none⟩) 1 1) 1 [.int .i64 (d : Int)] :=
 ⟨rfl, .inr ⟨W.heap.size, 1, _, rfl, Nat.le_refl _, heap_alloc_new W _, Nat.le_refl _, by unfold maxLen; omega, by simp, by simp⟩⟩
theorem RM.rl {W : World} {A : Option Addr} {L n : Nat} (h : RM W A L n) : RL W A L (dg QQ n) := h
theorem RM.val {W : World} {A : Option Addr} {L n n' : Nat} (h : RM W A L n) (e : n = n') : RM W A L n' := by subst e; exact h
theorem lead_form {W X : World} {v : Value} {a k R : Nat} {A : Option Addr} {Y : World} (h : Kd.R (Kd.int .i64) 3 W X.heap.size (fun _ => True) v ([(a : Int)] ++ li (dg QQ R))) (hm : RM Y A k R) :
 ∃ g c, v = .slice (some ⟨g, 0, none⟩) (k + 1) c ∧ X.heap.size ≤ g ∧ k + 1 ≤ c ∧ Aside0 (RL W (some ⟨g, 0, none⟩) (k + 1) (a :: dg QQ R)) := by
 obtain ⟨g, c, e, hg, _, _⟩ := Kd.R_form h (by simp)
 have hl : ([(a : Int)] ++ li (dg QQ R)).length = k + 1 := by rw [List.length_append, li_len, hm.len]; exact Nat.add_comm _ _
 have h2 := h
 rw [e] at h2
 have h3 := Kd.R_reads' h2
 rw [hl] at e h3
 exact ⟨g, c, e, hg, h3.2.1, ⟨h3.2.2⟩⟩
theorem mid_facts {lo hi mid : Nat} (h : (lo + hi + 1) / 2 = mid) (h1 : lo < hi) (h9 : hi ≤ 9999) (q : Nat) : (lo ≤ mid - 1 ∧ mid - 1 ≤ 9999 ∧ mid ≤ hi) ∧ (((mid - 1 : Nat) : Int) - (lo : Int)).toNat < ((hi : Int) - (lo : Int)).toNat ∧ ((hi : Int) - (mid : Int)).toNat < ((hi : Int) - (lo : Int)).toNat ∧ (¬ mid ≤ q → q ≤ mid - 1) :=
 ⟨by omega, by omega, by omega, by omega⟩
theorem tops_lt {b : Nat} (hb : 1 < b) (n l i : Nat) : ∀ d ∈ tops b n l i, d < b := by
 intro d hd
 obtain ⟨j, _, rfl⟩ := List.mem_map.1 hd
 split
 ·omega
 ·exact Nat.mod_lt _ (by omega)
theorem rover_calls {w : World} {A1 A2 : Option Addr} {L1 L2 c1 c2 m n : Nat} (h1 : RM w A1 L1 m) (h2 : RM w A2 L2 n) (h0 : 0 < n) (hL1 : L1 ≤ 40000) (hL2 : L2 ≤ 40000) :
 Calls Tryz.prog 152 #[.slice A1 L1 c1, .slice A2 L2 c2] w fun e w' => ∃ A k c A' k' c', e = .returned (.tuple #[.slice A k c, .slice A' k' c']) ∧ k ≤ c ∧ k' ≤ c' ∧ RM w' A k (m / n) ∧ RM w' A' k' (m % n) ∧ Below w.heap.size w w' := by
 have HM : Aside0 (m < QQ ^ L1) := ⟨by have := dg_lt_pow QQ1 m; rwa [h1.len] at this⟩
 have HN : Aside0 (n < QQ ^ L2) := ⟨by have := dg_lt_pow QQ1 n; rwa [h2.len] at this⟩
 have H1 := h1.at_below
 have H2 := h2.at_below
 have hmk := make_int (L1 : Int) L1 rfl (by omega)
 have hu77 := bigF1
 clear h1 h2
 go_enter Tryz.func152, Tryz.ntmps152
 go_wp2_with fail
 have HG : Aside0 (RowI (w.alloc (zerosI L1)) w.heap.size (tops QQ (m / n) L1 L1) ∧ Below w.heap.size w (w.alloc (zerosI L1))) := ⟨by
  rw [tops_beyond (Nat.lt_of_le_of_lt (Nat.div_le_self _ _) HM.out) QQ1]
  exact ⟨rowI_zeros w L1, below_alloc (Below.refl _ _) _⟩⟩
 clear hmk
 go_loopw [7, 8] (fun v7 v8 W => ∃ (j : Nat) (Ar : Option Addr) (kr cr : Nat), v7 = .slice Ar kr cr ∧ v8 = .int .i64 ((j : Int) - 1) ∧ j ≤ L1 ∧ kr ≤ cr ∧ Aside0 (RM W Ar kr (m / QQ ^ j % n)) ∧ Aside0 (RowI W w.heap.size (tops QQ (m / n) L1 j)) ∧ Aside0 (Below w.heap.size w W)) (fun _ v8 _ => (intOf v8 + 1).toNat)
 case atStart => exact ⟨L1, none, 0, 0, rfl, by first | rfl | go_num, Nat.le_refl _, Nat.le_refl _, ⟨(RM.zero _).val (by rw [Nat.div_eq_of_lt HM.out, Nat.zero_mod])⟩, ⟨HG.out.1⟩, ⟨HG.out.2⟩⟩
 case round =>
  obtain ⟨j, Ar, kr, cr, rfl, rfl, hj, hkr, HR, HRw, HBX⟩ := hrel
  obtain ⟨X, rfl⟩ : ∃ X, X = wr := ⟨_, rfl⟩
  rcases Nat.eq_zero_or_pos j with rfl | hj0
  ·have g1 : ¬ (0 : Int) ≤ ((0 : Nat) : Int) - 1 := by decide
   have HRF : Aside0 (RM X Ar kr (m % n)) := ⟨HR.out.val (by simp)⟩
   have HF : Aside0 (RL X (some ⟨w.heap.size, 0, none⟩) L1 (tops QQ (m / n) L1 0) ∧ (∀ d ∈ tops QQ (m / n) L1 0, d < QQ) ∧ Go.Proofs.YtillgofjlpjbcaaGreatDoor.Nm.val QQ (tops QQ (m / n) L1 0) = m / n) := ⟨by
    have h := HRw.out.rl (by rw [tops_length]; omega)
    rw [tops_length] at h
    refine ⟨h, tops_lt QQ1 _ _ _, ?_⟩
    rw [tops_full, val_digs QQ1]
    exact Nat.mod_eq_of_lt (Nat.lt_of_le_of_lt (Nat.div_le_self _ _) HM.out)⟩
   clear HR
   go_wp2_with (go_at_call 137; (with_reducible refine (rtrim_sign HF.out.1 (Nat.le_refl _) HF.out.2.1 false).mono ?_); rintro e X2 ⟨k6, g6, rfl, hg6, hk6, hm6, hbq⟩; have HM6 := Aside0.mk (And.intro hk6 (hm6.val HF.out.2.2)); have HB6 := Aside0.mk hbq; clear hg6 hk6 hm6 hbq)
   repeat (go_quiet (fail); try go_wp2)
   go_ret2
   exact ⟨_, k6, L1, Ar, kr, cr, rfl, HM6.out.1, hkr, HM6.out.2, HRF.out.below HB6.out, HBX.out.trans (HB6.out.mono HBX.out.size)⟩
  ·obtain ⟨j, rfl⟩ : ∃ i, j = i + 1 := ⟨j - 1, by omega⟩
   have ej : ((j + 1 : Nat) : Int) - 1 = (j : Int) := by omega
   rw [ej]
   clear ej
   obtain ⟨ad, hA, hc⟩ := (H1.out _ HBX.out).at (i := j) (by omega)
   subst hA
   obtain ⟨a, ha⟩ : ∃ a, m / QQ ^ j % QQ = a := ⟨_, rfl⟩
   rw [ha] at hc
   have ha1 : a < QQ := by rw [← ha]; exact Nat.mod_lt _ (by decide)
   obtain ⟨R, hR⟩ : ∃ R, m / QQ ^ (j + 1) % n = R := ⟨_, rfl⟩
   obtain ⟨R1, hR1⟩ : ∃ R1, R * QQ + a = R1 := ⟨_, rfl⟩
   obtain ⟨q, hq⟩ : ∃ q, R1 / n = q := ⟨_, rfl⟩
   have hstep := quo_step (m := m) (i := j) QQ1 h0
   rw [hR, ha, hR1, hq] at hstep
   have HRR : Aside0 (RM X Ar kr R) := ⟨HR.out.val hR⟩
   have HBND : Aside0 (R1 < QQ ^ (L2 + 1)) := ⟨Nat.lt_of_lt_of_le hstep.2.2 (by rw [Nat.pow_succ]; exact Nat.mul_le_mul_right _ (Nat.le_of_lt HN.out))⟩
   have HVV : Aside0 (Go.Proofs.YtillgofjlpjbcaaGreatDoor.Nm.val QQ (a :: dg QQ R) = R1) := ⟨by rw [Go.Proofs.YtillgofjlpjbcaaGreatDoor.Nm.val, val_dg QQ1, ← hR1, Nat.mul_comm]; omega⟩
   have HDD : Aside0 (∀ d ∈ a :: dg QQ R, d < QQ) := ⟨fun d hd => by
    rcases List.mem_cons.1 hd with h | h
    ·rw [h]; exact ha1
    ·exact dg_lt QQ1 _ d h⟩
   have HRow : Aside0 (∀ W, Below X.heap.size X W → RowI W w.heap.size (tops QQ (m / n) L1 (j + 1))) := ⟨fun W hb => HRw.out.keep hb⟩
   have hq9 : q ≤ 9999 := by
    have : q < 10000 := by rw [← hq]; exact Nat.div_lt_of_lt_mul hstep.2.2
    omega
   have HQS : Aside0 (q = m / n / QQ ^ j % QQ ∧ (q = 0 → m / QQ ^ j % n = R1) ∧ n * q ≤ R1 ∧ R1 - n * q = m / QQ ^ j % n) := ⟨hstep.1, fun e => by
    have := Nat.mod_add_div R1 n
    rw [hq, e, hstep.2.1] at this
    simpa using this, by rw [← hq]; exact Nat.mul_div_le R1 n, by
    have := Nat.mod_add_div R1 n
    rw [hq, hstep.2.1] at this
    omega⟩
   have hkr9 : kr ≤ 50000 := by
    have h := HRR.out.bound (k := L2) (Nat.lt_trans (by rw [← hR]; exact Nat.mod_lt _ h0) HN.out)
    omega
   have g0 : (0 : Int) ≤ (j : Int) := by omega
   have g2 : (j : Int) < (L1 : Int) := by omega
   have s4 : IntKind.i64.wrap ((j : Int) - 1) = (j : Int) - 1 := IntWalk.i64_in _ (by omega)
   clear ha hR HR HRw hstep hR1
   by_cases hlt : R1 < n
   ·have hq0 : q = 0 := by rw [← hq]; exact Nat.div_eq_of_lt hlt
    have gz : decide (cmpI (R1 : Int) (n : Int) < 0) = true := by unfold cmpI; rw [if_pos (by omega)]; rfl
    go_wp2_with (first | ((with_reducible refine gate_builtin (b := .append) (xs := #[.tmp 26, .tmp 27]) rfl ?_); at_builtin; (refine Kd.R_append_row (Value.int .i64) (0 : Int) (h1 := fun _ => rfl) (w0 := X) X.heap.size rfl (.tmp 26) (.tmp 27) 75 3 (.int .i64 0) 8 rfl Tryz.underlying75 rinfo rfl (by omega) (.slice (some ⟨X.heap.size, 0, none⟩) 1 1) [(a : Int)] (li (dg QQ R)) Ar kr cr (fun _ => True) rfl rfl (fun _ _ => trivial) (Kd.R_of_own (own_litI X a) (fun _ _ => trivial)) (HRR.out.below (below_alloc (Below.refl _ _) _)) (below_alloc (Below.refl _ _) _) (by simp) (by simp; omega) ?_); intro v38 w8 ho hb hg hat; obtain ⟨g2, cap, e2, hg2, hcap2, HL⟩ := lead_form ho HRR.out; subst e2; have HG2 := Aside0.mk (And.intro hg2 hcap2); have HB8 := Aside0.mk hb; clear ho hb hg hat hg2 hcap2) | (go_at_call 137; (with_reducible refine (rtrim_sign HL.out HG2.out.2 HDD.out false).mono ?_); rintro e X2 ⟨k6, g6, rfl, hg6, hk6, hm6, hbq⟩; have HM6 := Aside0.mk (hm6.val HVV.out); have HB6 := Aside0.mk ((HBX.out.trans (HB8.out.mono HBX.out.size)).trans (hbq.mono (by have := HBX.out.size; have := HB8.out.size; omega))); have HX6 := Aside0.mk (HB8.out.trans (hbq.mono HB8.out.size)); have HK6 := Aside0.mk hk6; clear hg6 hk6 hm6 hbq) | (go_at_call 147; (with_reducible refine (rmagnitude_calls HM6.out (H2.out _ HB6.out) (Nat.le_trans (HM6.out.bound HBND.out) (by omega))).mono ?_); rintro e X3 ⟨rfl, hdr⟩; have HB3 := Aside0.mk hdr.below; clear hdr))
    go_loopw [9, 10] (fun v9 v10 W => ∃ lo hi : Nat, v9 = .int .i64 (lo : Int) ∧ v10 = .int .i64 (hi : Int) ∧ lo ≤ hi ∧ hi ≤ 9999 ∧ Aside0 (lo ≤ q ∧ q ≤ hi) ∧ Aside0 (Below X2.heap.size X2 W)) (fun v9 v10 _ => (intOf v10 - intOf v9).toNat)
    case atStart => exact ⟨0, 0, rfl, rfl, Nat.zero_le _, by omega, ⟨Nat.zero_le _, (by omega)⟩, HB3⟩
    case round =>
     clear HB3
     obtain ⟨lo, hi, rfl, rfl, hlh, hh9, HLH, HBW⟩ := hrel
     by_cases hlt : lo < hi
     ·have g1 : (lo : Int) < (hi : Int) := by omega
      obtain ⟨mid, hmid⟩ : ∃ mid, (lo + hi + 1) / 2 = mid := ⟨_, rfl⟩
      have hd0 : 0 < mid := by omega
      have hd1 : mid < 10000 := by omega
      have hmi : lo < mid ∧ mid ≤ hi := by omega
      have e1 : IntKind.i64.wrap ((lo : Int) + (hi : Int)) = (lo : Int) + (hi : Int) := IntWalk.i64_in _ (by omega)
      have e2 : IntKind.i64.wrap ((lo : Int) + (hi : Int) + 1) = (lo : Int) + (hi : Int) + 1 := IntWalk.i64_in _ (by omega)
      have e4 : ((lo : Int) + (hi : Int) + 1) / 2 = (mid : Int) := by omega
      have e5 : IntKind.i64.wrap ((mid : Int) - 1) = ((mid - 1 : Nat) : Int) := by rw [IntWalk.i64_in _ (by omega)]; omega
      have e6 : wrap64 (mid : Int) = (mid : Int) := by have h := IntWalk.i64_in (mid : Int) (by omega); rwa [i64_w] at h
      obtain ⟨N, hN⟩ : ∃ N, n * mid = N := ⟨_, rfl⟩
      have HNM := Aside0.mk hN
      have HBM : Aside0 (N < QQ ^ (L2 + 1)) := ⟨by rw [← hN, Nat.pow_succ]; exact Nat.mul_lt_mul'' HN.out hd1⟩
      obtain ⟨z, hz⟩ : ∃ z, decide (cmpI (N : Int) (R1 : Int) ≤ 0) = z := ⟨_, rfl⟩
      have HZ : Aside0 (z = true ↔ mid ≤ q) := ⟨by rw [← hz, decide_eq_true_iff, ← hq, Nat.le_div_iff_mul_le h0, Nat.mul_comm mid n, hN]; unfold cmpI; split <;> (try split) <;> omega⟩
      have HF := Aside0.mk (mid_facts hmid hlt hh9 q)
      clear hmid hN
      cases z
      ·go_wp2_with (first | (go_at_call 180; (with_reducible refine (rbyLimb_calls (H2.out _ (HB6.out.trans (HBW.out.mono HB6.out.size))) (by omega) hd0 hd1).mono ?_); rintro e X4 ⟨A5, k5, c5, rfl, hk5, hm5, hbq⟩; have HM5 := Aside0.mk (And.intro hk5 (And.intro hm5 hm5.rl)); have HB5 := Aside0.mk (HBW.out.trans (hbq.mono HBW.out.size)); clear hk5 hm5 hbq) | (go_at_call 137; (with_reducible refine (rtrim_sign HM5.out.2.2 HM5.out.1 (dg_lt QQ1 _) false).mono ?_); rintro e X5 ⟨k7, g7, rfl, hg7, hk7, hm7, hbq⟩; have HM7 := Aside0.mk (hm7.val ((val_dg QQ1 _).trans HNM.out)); have HB7 := Aside0.mk (HB5.out.trans (hbq.mono HB5.out.size)); clear hg7 hk7 hm7 hbq) | (go_at_call 147; (with_reducible refine (rmagnitude_calls HM7.out (HM6.out.below HB7.out) (Nat.le_trans (HM7.out.bound HBM.out) (by omega))).mono ?_); rintro e X6 ⟨rfl, hdr⟩; have HBE := Aside0.mk (HB7.out.trans (hdr.below.mono HB7.out.size)); clear hdr))
       go_roundw
       case rel => exact ⟨lo, mid - 1, rfl, rfl, HF.out.1.1, HF.out.1.2.1, ⟨HLH.out.1, HF.out.2.2.2 (fun h => Bool.noConfusion (HZ.out.2 h))⟩, HBE⟩
       case measure => exact HF.out.2.1
      ·go_wp2_with (first | (go_at_call 180; (with_reducible refine (rbyLimb_calls (H2.out _ (HB6.out.trans (HBW.out.mono HB6.out.size))) (by omega) hd0 hd1).mono ?_); rintro e X4 ⟨A5, k5, c5, rfl, hk5, hm5, hbq⟩; have HM5 := Aside0.mk (And.intro hk5 (And.intro hm5 hm5.rl)); have HB5 := Aside0.mk (HBW.out.trans (hbq.mono HBW.out.size)); clear hk5 hm5 hbq) | (go_at_call 137; (with_reducible refine (rtrim_sign HM5.out.2.2 HM5.out.1 (dg_lt QQ1 _) false).mono ?_); rintro e X5 ⟨k7, g7, rfl, hg7, hk7, hm7, hbq⟩; have HM7 := Aside0.mk (hm7.val ((val_dg QQ1 _).trans HNM.out)); have HB7 := Aside0.mk (HB5.out.trans (hbq.mono HB5.out.size)); clear hg7 hk7 hm7 hbq) | (go_at_call 147; (with_reducible refine (rmagnitude_calls HM7.out (HM6.out.below HB7.out) (Nat.le_trans (HM7.out.bound HBM.out) (by omega))).mono ?_); rintro e X6 ⟨rfl, hdr⟩; have HBE := Aside0.mk (HB7.out.trans (hdr.below.mono HB7.out.size)); clear hdr))
       go_roundw
       case rel => exact ⟨mid, hi, rfl, rfl, HF.out.1.2.2, hh9, ⟨HZ.out.1 (by first | rfl | trivial), HLH.out.2⟩, HBE⟩
       case measure => exact HF.out.2.2.1
     ·have hlq : lo = q := by have := HLH.out; omega
      have g1 : ¬ (lo : Int) < (hi : Int) := by omega
      subst hlq
      clear hlt hlh HLH hq0
      have HRW := Aside0.mk (HRow.out _ (HX6.out.trans (HBW.out.mono HX6.out.size)))
      have r0 := HRW.out.cell (j := j) (by rw [tops_length]; omega)
      have r1 := HRW.out.frozen j
      have r2 : (j : Int) < (L1 : Int) := by omega
      have HBS := Aside0.mk ((HB6.out.trans (HBW.out.mono HB6.out.size)).setCell (p := ⟨w.heap.size, j, none⟩) (Nat.le_refl _) (.int .i64 (lo : Int)))
      have HM8 := Aside0.mk ((HM6.out.below HBW.out).far (g := w.heap.size) (by have := HG2.out.1; have := HBX.out.size; have := HRow.out _ (Below.refl _ _) |>.lt; omega) j (.int .i64 (lo : Int)))
      have HRS : Aside0 (RowI (wr.setCell ⟨w.heap.size, j, none⟩ (.int .i64 (lo : Int))) w.heap.size (tops QQ (m / n) L1 j)) := ⟨by
       have h := HRW.out.set j lo
       have e : (tops QQ (m / n) L1 (j + 1)).set j lo = tops QQ (m / n) L1 j := by rw [HQS.out.1, tops_set]
       rwa [e] at h⟩
      by_cases hl0 : lo = 0
      ·have HMF := Aside0.mk (HM8.out.val (HQS.out.2.1 hl0).symm)
       subst hl0
       go_wp2
       go_roundw
       case rel => exact ⟨j, some ⟨g2, 0, none⟩, k6, cap, rfl, by first | rfl | go_num, by omega, HK6.out, HMF, HRS, HBS⟩
       case measure => simp [intOf]
      ·have hd0 : 0 < lo := by omega
       have hd1 : lo < 10000 := by omega
       have g9 : (0 : Int) < (lo : Int) := by omega
       have HLE : Aside0 (n * lo ≤ R1) := ⟨HQS.out.2.2.1⟩
       go_wp2_with (first | (go_at_call 180; (with_reducible refine (rbyLimb_calls (H2.out _ HBS.out) (by omega) hd0 hd1).mono ?_); rintro e X4 ⟨A5, k5, c5, rfl, hk5, hm5, hbq⟩; have HM5 := Aside0.mk (And.intro hk5 (And.intro hm5 hm5.rl)); have HB5 := Aside0.mk hbq; clear hk5 hm5 hbq) | (go_at_call 148; (with_reducible refine (rminus_calls (HM8.out.below HB5.out) HM5.out.2.1 HLE.out (Nat.le_trans (HM6.out.bound HBND.out) (by omega))).mono ?_); rintro e X7 ⟨A9, k9, c9, rfl, hk9, hm9, hbq⟩; have HM9 := Aside0.mk (And.intro hk9 hm9); have HB9 := Aside0.mk (HB5.out.trans (hbq.mono HB5.out.size)); clear hk9 hm9 hbq))
       go_roundw
       case rel => exact ⟨j, A9, k9, c9, rfl, by first | rfl | go_num, by omega, HM9.out.1, ⟨HM9.out.2.val HQS.out.2.2.2⟩, ⟨HRS.out.keep HB9.out⟩, ⟨HBS.out.trans (HB9.out.mono HBS.out.size)⟩⟩
       case measure => simp [intOf]
   ·have hq0 : True := trivial
    have gz : decide (cmpI (R1 : Int) (n : Int) < 0) = false := by unfold cmpI; rw [if_neg (by omega)]; split <;> rfl
    go_wp2_with (first | ((with_reducible refine gate_builtin (b := .append) (xs := #[.tmp 26, .tmp 27]) rfl ?_); at_builtin; (refine Kd.R_append_row (Value.int .i64) (0 : Int) (h1 := fun _ => rfl) (w0 := X) X.heap.size rfl (.tmp 26) (.tmp 27) 75 3 (.int .i64 0) 8 rfl Tryz.underlying75 rinfo rfl (by omega) (.slice (some ⟨X.heap.size, 0, none⟩) 1 1) [(a : Int)] (li (dg QQ R)) Ar kr cr (fun _ => True) rfl rfl (fun _ _ => trivial) (Kd.R_of_own (own_litI X a) (fun _ _ => trivial)) (HRR.out.below (below_alloc (Below.refl _ _) _)) (below_alloc (Below.refl _ _) _) (by simp) (by simp; omega) ?_); intro v38 w8 ho hb hg hat; obtain ⟨g2, cap, e2, hg2, hcap2, HL⟩ := lead_form ho HRR.out; subst e2; have HG2 := Aside0.mk (And.intro hg2 hcap2); have HB8 := Aside0.mk hb; clear ho hb hg hat hg2 hcap2) | (go_at_call 137; (with_reducible refine (rtrim_sign HL.out HG2.out.2 HDD.out false).mono ?_); rintro e X2 ⟨k6, g6, rfl, hg6, hk6, hm6, hbq⟩; have HM6 := Aside0.mk (hm6.val HVV.out); have HB6 := Aside0.mk ((HBX.out.trans (HB8.out.mono HBX.out.size)).trans (hbq.mono (by have := HBX.out.size; have := HB8.out.size; omega))); have HX6 := Aside0.mk (HB8.out.trans (hbq.mono HB8.out.size)); have HK6 := Aside0.mk hk6; clear hg6 hk6 hm6 hbq) | (go_at_call 147; (with_reducible refine (rmagnitude_calls HM6.out (H2.out _ HB6.out) (Nat.le_trans (HM6.out.bound HBND.out) (by omega))).mono ?_); rintro e X3 ⟨rfl, hdr⟩; have HB3 := Aside0.mk hdr.below; clear hdr))
    go_loopw [9, 10] (fun v9 v10 W => ∃ lo hi : Nat, v9 = .int .i64 (lo : Int) ∧ v10 = .int .i64 (hi : Int) ∧ lo ≤ hi ∧ hi ≤ 9999 ∧ Aside0 (lo ≤ q ∧ q ≤ hi) ∧ Aside0 (Below X2.heap.size X2 W)) (fun v9 v10 _ => (intOf v10 - intOf v9).toNat)
    case atStart => exact ⟨0, 9999, rfl, rfl, Nat.zero_le _, by omega, ⟨Nat.zero_le _, hq9⟩, HB3⟩
    case round =>
     clear HB3
     obtain ⟨lo, hi, rfl, rfl, hlh, hh9, HLH, HBW⟩ := hrel
     by_cases hlt : lo < hi
     ·have g1 : (lo : Int) < (hi : Int) := by omega
      obtain ⟨mid, hmid⟩ : ∃ mid, (lo + hi + 1) / 2 = mid := ⟨_, rfl⟩
      have hd0 : 0 < mid := by omega
      have hd1 : mid < 10000 := by omega
      have hmi : lo < mid ∧ mid ≤ hi := by omega
      have e1 : IntKind.i64.wrap ((lo : Int) + (hi : Int)) = (lo : Int) + (hi : Int) := IntWalk.i64_in _ (by omega)
      have e2 : IntKind.i64.wrap ((lo : Int) + (hi : Int) + 1) = (lo : Int) + (hi : Int) + 1 := IntWalk.i64_in _ (by omega)
      have e4 : ((lo : Int) + (hi : Int) + 1) / 2 = (mid : Int) := by omega
      have e5 : IntKind.i64.wrap ((mid : Int) - 1) = ((mid - 1 : Nat) : Int) := by rw [IntWalk.i64_in _ (by omega)]; omega
      have e6 : wrap64 (mid : Int) = (mid : Int) := by have h := IntWalk.i64_in (mid : Int) (by omega); rwa [i64_w] at h
      obtain ⟨N, hN⟩ : ∃ N, n * mid = N := ⟨_, rfl⟩
      have HNM := Aside0.mk hN
      have HBM : Aside0 (N < QQ ^ (L2 + 1)) := ⟨by rw [← hN, Nat.pow_succ]; exact Nat.mul_lt_mul'' HN.out hd1⟩
      obtain ⟨z, hz⟩ : ∃ z, decide (cmpI (N : Int) (R1 : Int) ≤ 0) = z := ⟨_, rfl⟩
      have HZ : Aside0 (z = true ↔ mid ≤ q) := ⟨by rw [← hz, decide_eq_true_iff, ← hq, Nat.le_div_iff_mul_le h0, Nat.mul_comm mid n, hN]; unfold cmpI; split <;> (try split) <;> omega⟩
      have HF := Aside0.mk (mid_facts hmid hlt hh9 q)
      clear hmid hN
      cases z
      ·go_wp2_with (first | (go_at_call 180; (with_reducible refine (rbyLimb_calls (H2.out _ (HB6.out.trans (HBW.out.mono HB6.out.size))) (by omega) hd0 hd1).mono ?_); rintro e X4 ⟨A5, k5, c5, rfl, hk5, hm5, hbq⟩; have HM5 := Aside0.mk (And.intro hk5 (And.intro hm5 hm5.rl)); have HB5 := Aside0.mk (HBW.out.trans (hbq.mono HBW.out.size)); clear hk5 hm5 hbq) | (go_at_call 137; (with_reducible refine (rtrim_sign HM5.out.2.2 HM5.out.1 (dg_lt QQ1 _) false).mono ?_); rintro e X5 ⟨k7, g7, rfl, hg7, hk7, hm7, hbq⟩; have HM7 := Aside0.mk (hm7.val ((val_dg QQ1 _).trans HNM.out)); have HB7 := Aside0.mk (HB5.out.trans (hbq.mono HB5.out.size)); clear hg7 hk7 hm7 hbq) | (go_at_call 147; (with_reducible refine (rmagnitude_calls HM7.out (HM6.out.below HB7.out) (Nat.le_trans (HM7.out.bound HBM.out) (by omega))).mono ?_); rintro e X6 ⟨rfl, hdr⟩; have HBE := Aside0.mk (HB7.out.trans (hdr.below.mono HB7.out.size)); clear hdr))
       go_roundw
       case rel => exact ⟨lo, mid - 1, rfl, rfl, HF.out.1.1, HF.out.1.2.1, ⟨HLH.out.1, HF.out.2.2.2 (fun h => Bool.noConfusion (HZ.out.2 h))⟩, HBE⟩
       case measure => exact HF.out.2.1
      ·go_wp2_with (first | (go_at_call 180; (with_reducible refine (rbyLimb_calls (H2.out _ (HB6.out.trans (HBW.out.mono HB6.out.size))) (by omega) hd0 hd1).mono ?_); rintro e X4 ⟨A5, k5, c5, rfl, hk5, hm5, hbq⟩; have HM5 := Aside0.mk (And.intro hk5 (And.intro hm5 hm5.rl)); have HB5 := Aside0.mk (HBW.out.trans (hbq.mono HBW.out.size)); clear hk5 hm5 hbq) | (go_at_call 137; (with_reducible refine (rtrim_sign HM5.out.2.2 HM5.out.1 (dg_lt QQ1 _) false).mono ?_); rintro e X5 ⟨k7, g7, rfl, hg7, hk7, hm7, hbq⟩; have HM7 := Aside0.mk (hm7.val ((val_dg QQ1 _).trans HNM.out)); have HB7 := Aside0.mk (HB5.out.trans (hbq.mono HB5.out.size)); clear hg7 hk7 hm7 hbq) | (go_at_call 147; (with_reducible refine (rmagnitude_calls HM7.out (HM6.out.below HB7.out) (Nat.le_trans (HM7.out.bound HBM.out) (by omega))).mono ?_); rintro e X6 ⟨rfl, hdr⟩; have HBE := Aside0.mk (HB7.out.trans (hdr.below.mono HB7.out.size)); clear hdr))
       go_roundw
       case rel => exact ⟨mid, hi, rfl, rfl, HF.out.1.2.2, hh9, ⟨HZ.out.1 (by first | rfl | trivial), HLH.out.2⟩, HBE⟩
       case measure => exact HF.out.2.2.1
     ·have hlq : lo = q := by have := HLH.out; omega
      have g1 : ¬ (lo : Int) < (hi : Int) := by omega
      subst hlq
      clear hlt hlh HLH hq0
      have HRW := Aside0.mk (HRow.out _ (HX6.out.trans (HBW.out.mono HX6.out.size)))
      have r0 := HRW.out.cell (j := j) (by rw [tops_length]; omega)
      have r1 := HRW.out.frozen j
      have r2 : (j : Int) < (L1 : Int) := by omega
      have HBS := Aside0.mk ((HB6.out.trans (HBW.out.mono HB6.out.size)).setCell (p := ⟨w.heap.size, j, none⟩) (Nat.le_refl _) (.int .i64 (lo : Int)))
      have HM8 := Aside0.mk ((HM6.out.below HBW.out).far (g := w.heap.size) (by have := HG2.out.1; have := HBX.out.size; have := HRow.out _ (Below.refl _ _) |>.lt; omega) j (.int .i64 (lo : Int)))
      have HRS : Aside0 (RowI (wr.setCell ⟨w.heap.size, j, none⟩ (.int .i64 (lo : Int))) w.heap.size (tops QQ (m / n) L1 j)) := ⟨by
       have h := HRW.out.set j lo
       have e : (tops QQ (m / n) L1 (j + 1)).set j lo = tops QQ (m / n) L1 j := by rw [HQS.out.1, tops_set]
       rwa [e] at h⟩
      by_cases hl0 : lo = 0
      ·have HMF := Aside0.mk (HM8.out.val (HQS.out.2.1 hl0).symm)
       subst hl0
       go_wp2
       go_roundw
       case rel => exact ⟨j, some ⟨g2, 0, none⟩, k6, cap, rfl, by first | rfl | go_num, by omega, HK6.out, HMF, HRS, HBS⟩
       case measure => simp [intOf]
      ·have hd0 : 0 < lo := by omega
       have hd1 : lo < 10000 := by omega
       have g9 : (0 : Int) < (lo : Int) := by omega
       have HLE : Aside0 (n * lo ≤ R1) := ⟨HQS.out.2.2.1⟩
       go_wp2_with (first | (go_at_call 180; (with_reducible refine (rbyLimb_calls (H2.out _ HBS.out) (by omega) hd0 hd1).mono ?_); rintro e X4 ⟨A5, k5, c5, rfl, hk5, hm5, hbq⟩; have HM5 := Aside0.mk (And.intro hk5 (And.intro hm5 hm5.rl)); have HB5 := Aside0.mk hbq; clear hk5 hm5 hbq) | (go_at_call 148; (with_reducible refine (rminus_calls (HM8.out.below HB5.out) HM5.out.2.1 HLE.out (Nat.le_trans (HM6.out.bound HBND.out) (by omega))).mono ?_); rintro e X7 ⟨A9, k9, c9, rfl, hk9, hm9, hbq⟩; have HM9 := Aside0.mk (And.intro hk9 hm9); have HB9 := Aside0.mk (HB5.out.trans (hbq.mono HB5.out.size)); clear hk9 hm9 hbq))
       go_roundw
       case rel => exact ⟨j, A9, k9, c9, rfl, by first | rfl | go_num, by omega, HM9.out.1, ⟨HM9.out.2.val HQS.out.2.2.2⟩, ⟨HRS.out.keep HB9.out⟩, ⟨HBS.out.trans (HB9.out.mono HBS.out.size)⟩⟩
       case measure => simp [intOf]
end
end Go.Proofs.YtillgofjlpjbcaaGreatDoor.Nm
