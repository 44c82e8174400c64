/- The reference's Join has a contract in plain words. -/
import Derived.Test.YtmnnhbikdgpedaaDoorLjI
import Derived.Test.YtmnnhbikdgpedaaDoorLjE
namespace Go.Proofs.YtmnnhbikdgpedaaDoor.Lx
open Go.RowKit Go.Proofs.YtmnnhbikdgpedaaDoorW.PrintWords Go.Proofs.YtmnnhbikdgpedaaDoorW.PrintLast Go.Proofs.YtmnnhbikdgpedaaDoorW.PrintMore
open Go.Proofs.YtmnnhbikdgpedaaDoor.PLexTokens
set_option linter.unusedVariables false
set_option linter.unusedSimpArgs false

theorem hsub {w1 W W2 : World} (hb : Below W.heap.size W W2) (hS : Below w1.heap.size w1 W) : Below w1.heap.size w1 W2 := hS.trans (hb.mono hS.size)
theorem whenR_calls (b : Bool) (n : Int) (w : World) : Calls Tryd.prog 46 #[.bool b, .int .i64 n] w fun e w' => e = .returned (.int .i64 (if b = true then n else 0)) ∧ Drawn0 w w' :=
  entailref02_When.calls b n _ w (by unfold entailref02_When.f; cases b <;> rfl)
theorem lit_CI (w : World) (x y : Int) : Kd.C (Kd.int .i64) (w.alloc (.cells #[.int .i64 x, .int .i64 y] 3)) (some ⟨w.heap.size, 0, none⟩) 2 [x, y] := by
  refine ⟨rfl, by decide, fun _ => ⟨_, rfl, fun j p hj => ⟨[.int .i64 p], rfl, rfl, fun i u hu => ?_⟩⟩⟩
  have hlt : j < 2 := (List.getElem?_eq_some_iff.1 hj).1
  have hi : i = 0 := by
    have := (List.getElem?_eq_some_iff.1 hu).1
    simpa using this
  subst hi
  obtain rfl : Value.int .i64 p = u := by simpa using hu
  have ha : (⟨w.heap.size, 0, none⟩ : Addr).add (j * 1 + 0) = ⟨w.heap.size, j, none⟩ := by rw [Nat.mul_one, Nat.add_zero]; unfold Addr.add; split <;> simp_all
  show (w.alloc _).cell? ((⟨w.heap.size, 0, none⟩ : Addr).add (j * 1 + 0)) = _
  rw [ha, Lib.cell_of_heap (World.alloc_heap_new _ _)]
  match j, hlt with
  | 0, _ => simp at hj; subst hj; rfl
  | 1, _ => simp at hj; subst hj; rfl
theorem firstR_f (x y : Int) : entailref02_First.f 5 [x, y] = some (if x = 0 then y else x) := by
  unfold entailref02_First.f
  simp only [entailref02_First.l0]
  by_cases hx : x = 0
  · by_cases hy : y = 0
    · subst hx hy; decide +kernel
    · simp [hx, rd, wrap64, hy]
  · simp [hx, rd, wrap64]
theorem firstR_calls (w : World) (b : Nat) (x y : Int) (hb : b = w.heap.size) : Calls Tryd.prog 45 #[.slice (some ⟨b, 0, none⟩) 2 2] (w.alloc (.cells #[.int .i64 x, .int .i64 y] 3)) fun e w' => e = .returned (.int .i64 (if x = 0 then y else x)) ∧ Drawn0 (w.alloc (.cells #[.int .i64 x, .int .i64 y] 3)) w' := by
  subst hb
  exact entailref02_First.calls 5 _ 2 [x, y] _ _ (lit_CI w x y) (Nat.le_refl _) (firstR_f x y)

/-- The reference's error of a token. -/
def badR (k : Int) (t : ByteArray) : Int := if k < 0 ∨ 4 < k then 11 else if singleB k t = true then 0 else 1
def firstBadR : List S61 → Int
  | [] => 0
  | x :: xs => if badR x.f0 x.f1 = 0 then firstBadR xs else badR x.f0 x.f1
def tr (L : List S61) (j : Nat) : S61 := rd_T61 L (j : Int)
def gapR (L : List S61) (j : Nat) : Bool := decide (0 < j) && spacedB (tr L (j - 1)).f0 (tr L (j - 1)).f1 (tr L j).f0 (tr L j).f1
def joinR (L : List S61) : Nat → ByteArray
  | 0 => ⟨#[]⟩
  | j + 1 => (if gapR L j = true then joinR L j ++ ⟨#[32]⟩ else joinR L j) ++ (tr L j).f1
def joinRB (L : List S61) : ByteArray × Int := if firstBadR L = 0 then (joinR L L.length, 0) else (⟨#[]⟩, firstBadR L)
theorem joinR_le (L : List S61) (h : ∀ j, (tr L j).f1.size ≤ 200) : ∀ j, (joinR L j).size ≤ 201 * j
  | 0 => Nat.le_of_eq rfl
  | j + 1 => by
    have := joinR_le L h j
    have h1 := h j
    rw [joinR, ByteArray.size_append]
    split
    · rw [ByteArray.size_append]
      have : (⟨#[32]⟩ : ByteArray).size = 1 := rfl
      omega
    · omega
theorem tr_drop (L : List S61) (j : Nat) (h : j < L.length) : L.drop j = tr L j :: L.drop (j + 1) := by
  rw [List.drop_eq_getElem_cons h, tr, rd_T61, Int.toNat_natCast, List.getD_eq_getElem?_getD, List.getElem?_eq_getElem h, Option.getD_some]

set_option maxHeartbeats 2000000 in
set_option maxRecDepth 100000 in
theorem joinR_calls (A : Option Addr) (c : Nat) (L : List S61) (hL : L.length ≤ 80) (hs : ∀ j, (tr L j).f1.size ≤ 200) (w : World) (hC : Kd.C k61 w A L.length L) :
    Calls Tryd.prog 25 #[.slice A L.length c] w fun e w' => e = .returned (.tuple #[.string (joinRB L).1, .int .i64 (joinRB L).2]) ∧ Below w.heap.size w w' := by
  have HC := Aside0.mk hC
  have HS := Aside0.mk hs
  have HL := Aside0.mk hL
  have HB := Aside0.mk (Below.refl w.heap.size w)
  have d0 : decide (20000 < (L.length : Int)) = false := decide_eq_false (by omega)
  have d1 : decide (20000 < L.length) = false := decide_eq_false (by omega)
  have b0 : L.length ≤ 9223372036854775807 := by omega
  have mixed : Tryd.prog.follows .mixedOrders = true := by kernel_rfl
  clear hC hs hL
  go_enter Tryd.func25, Tryd.ntmps25
  go_wp2
  go_loopw [5] (fun v5 W => ∃ j : Nat, v5 = .int .i64 (j : Int) ∧ Aside0 (j ≤ L.length) ∧ Aside0 (firstBadR L = firstBadR (L.drop j)) ∧ Aside0 (Below w.heap.size w W)) (fun v5 _ => L.length - (intOf v5).toNat)
  case atStart => exact ⟨0, rfl, ⟨Nat.zero_le _⟩, ⟨rfl⟩, HB⟩
  case round =>
    clear HB
    obtain ⟨j, rfl, HJ, HF, HB⟩ := hrel
    by_cases hj : j < L.length
    · obtain ⟨ad, rfl, c0, c1, c2⟩ := at_T61 HC.out (j : Int) (Int.natCast_nonneg _) (by omega)
      rw [show rd_T61 L (j : Int) = tr L j from rfl] at c0 c1 c2
      have hfb := tr_drop L j hj
      have HF2 := Aside0.mk (show firstBadR L = if badR (tr L j).f0 (tr L j).f1 = 0 then firstBadR (L.drop (j + 1)) else badR (tr L j).f0 (tr L j).f1 by rw [HF.out, hfb, firstBadR])
      clear hfb HF
      generalize tr L j = x at *
      have HS1 := Aside0.mk (fun w => single_calls x.f0 x.f1 x.f2 w)
      have hbd : badR x.f0 x.f1 = if x.f0 < 0 ∨ 4 < x.f0 then 11 else if singleB x.f0 x.f1 = true then 0 else 1 := rfl
      generalize singleB x.f0 x.f1 = sb at *
      generalize badR x.f0 x.f1 = bd at *
      replace c0 := (HB.out.cell (World.block_lt_of_cell? w _ c0)).trans c0
      replace c1 := (HB.out.cell (World.block_lt_of_cell? w _ c1)).trans c1
      replace c2 := (HB.out.cell (World.block_lt_of_cell? w _ c2)).trans c2
      simp only [Int.toNat_natCast] at c0 c1 c2
      have p0 : (0 ≤ (j : Int)) = True := eq_true (Int.natCast_nonneg _)
      have p1 : ((j : Int) < (L.length : Int)) = True := eq_true (by omega)
      have dj : decide ((j : Int) < (L.length : Int)) = true := decide_eq_true (by omega)
      have dj' : decide (j < L.length) = true := decide_eq_true hj
      have hcase : (decide (x.f0 < 0) = true ∧ bd = 11) ∨ (decide (x.f0 < 0) = false ∧ decide (4 < x.f0) = true ∧ bd = 11) ∨ (decide (x.f0 < 0) = false ∧ decide (4 < x.f0) = false ∧ bd = if sb = true then 0 else 1) := by
        by_cases q1 : x.f0 < 0
        · exact .inl ⟨decide_eq_true q1, by rw [hbd, if_pos (.inl q1)]⟩
        · by_cases q2 : 4 < x.f0
          · exact .inr (.inl ⟨decide_eq_false q1, decide_eq_true q2, by rw [hbd, if_pos (.inr q2)]⟩)
          · exact .inr (.inr ⟨decide_eq_false q1, decide_eq_false q2, by rw [hbd, if_neg (by omega)]⟩)
      clear hbd
      have HK4 : Aside0 (∀ W2 : World, Below wr.heap.size wr W2 → W2.cell? (ad.add (j * 3)) = some (.int .i64 x.f0) ∧ W2.cell? ⟨(ad.add (j * 3)).block, (ad.add (j * 3)).off + 1, none⟩ = some (.string x.f1) ∧ W2.cell? ⟨(ad.add (j * 3)).block, (ad.add (j * 3)).off + 2, none⟩ = some (.int .i64 x.f2) ∧ Below wr.heap.size wr W2) := ⟨fun W2 h => ⟨keepA h c0, keepA h c1, keepA h c2, h⟩⟩
      rcases hcase with ⟨q1, rfl⟩ | ⟨q1, q2, rfl⟩ | ⟨q1, q2, hbd⟩
      · rw [if_neg (by decide)] at HF2
        cases sb
        all_goals
          have hb0 := Below.refl wr.heap.size wr
          go_wp2
          refine wp_region_held_drew (S := (fun W => W.cell? (ad.add (j * 3)) = some (.int .i64 x.f0) ∧ W.cell? ⟨(ad.add (j * 3)).block, (ad.add (j * 3)).off + 1, none⟩ = some (.string x.f1) ∧ W.cell? ⟨(ad.add (j * 3)).block, (ad.add (j * 3)).off + 2, none⟩ = some (.int .i64 x.f2) ∧ Below wr.heap.size wr W)) (by kernel_rfl) ?_ (fun hHeld => ?_)
          · exact ⟨keepA (below_drew1 hb0) c0, keepA (below_drew1 hb0) c1, keepA (below_drew1 hb0) c2, below_drew1 hb0⟩
          refine wpAnyH_take (i := 0) (v := ?_) rfl (by kernel_rfl) (by kernel_rfl) (by kernel_rfl) (fun _ _ _ h => h) (Or.inl ⟨by rfl, ?_⟩) (by assumption) ?_
          rotate_left
          · (intro wS hSw; (try dsimp only at hSw); (first | (go_simp; done) | (go_simp; with_reducible rfl)))
          (try simp only [Act.put, List.setIfInBounds_toArray, List.set_cons_zero, List.set_cons_succ, List.getElem_toArray, List.getElem_cons_succ, List.getElem_cons_zero])
          refine wpAnyH_take (i := 1) (v := ?_) rfl (by kernel_rfl) (by kernel_rfl) (by kernel_rfl) (fun _ _ _ h => h) (Or.inl ⟨by rfl, ?_⟩) (by assumption) ?_
          rotate_left
          · (intro wS hSw; (try dsimp only at hSw); (first | (go_simp; done) | (go_simp; with_reducible rfl)))
          (try simp only [Act.put, List.setIfInBounds_toArray, List.set_cons_zero, List.set_cons_succ, List.getElem_toArray, List.getElem_cons_succ, List.getElem_cons_zero])
          refine wpAnyH_take (i := 2) (v := ?_) rfl (by kernel_rfl) (by kernel_rfl) (by kernel_rfl) (fun _ _ _ h => h) (Or.inl ⟨by rfl, ?_⟩) (by assumption) ?_
          rotate_left
          · (intro wS hSw; (try dsimp only at hSw); (first | (go_simp; done) | (go_simp; with_reducible rfl)))
          (try simp only [Act.put, List.setIfInBounds_toArray, List.set_cons_zero, List.set_cons_succ, List.getElem_toArray, List.getElem_cons_succ, List.getElem_cons_zero])
          refine wpAnyH_take (i := 3) (v := ?_) rfl (by kernel_rfl) (by kernel_rfl) (by kernel_rfl) (fun _ _ _ h => h) (Or.inl ⟨by rfl, ?_⟩) (by assumption) ?_
          rotate_left
          · (intro wS hSw; (try dsimp only at hSw); (first | (go_simp; done) | (go_simp; with_reducible rfl)))
          (try simp only [Act.put, List.setIfInBounds_toArray, List.set_cons_zero, List.set_cons_succ, List.getElem_toArray, List.getElem_cons_succ, List.getElem_cons_zero])
          refine wpAnyH_take (i := 4) (v := ?_) rfl (by kernel_rfl) (by kernel_rfl) (by kernel_rfl) (fun _ _ _ h => h) (Or.inl ⟨by rfl, ?_⟩) (by assumption) ?_
          rotate_left
          · (intro wS hSw; (try dsimp only at hSw); (first | (go_simp; done) | (go_simp; with_reducible rfl)))
          (try simp only [Act.put, List.setIfInBounds_toArray, List.set_cons_zero, List.set_cons_succ, List.getElem_toArray, List.getElem_cons_succ, List.getElem_cons_zero])
          refine wpAnyH_take (i := 5) (v := ?_) rfl (by kernel_rfl) (by kernel_rfl) (by kernel_rfl) (fun _ _ _ h => h) (Or.inl ⟨by rfl, ?_⟩) (by assumption) ?_
          rotate_left
          · (intro wS hSw; (try dsimp only at hSw); (first | (go_simp; done) | (go_simp; with_reducible rfl)))
          (try simp only [Act.put, List.setIfInBounds_toArray, List.set_cons_zero, List.set_cons_succ, List.getElem_toArray, List.getElem_cons_succ, List.getElem_cons_zero])
          refine wpAnyH_take (i := 6) (v := ?_) rfl (by kernel_rfl) (by kernel_rfl) (by kernel_rfl) (fun _ _ _ h => h) (Or.inl ⟨by rfl, ?_⟩) (by assumption) ?_
          rotate_left
          · (intro wS hSw; (try dsimp only at hSw); (first | (go_simp; done) | (go_simp; with_reducible rfl)))
          (try simp only [Act.put, List.setIfInBounds_toArray, List.set_cons_zero, List.set_cons_succ, List.getElem_toArray, List.getElem_cons_succ, List.getElem_cons_zero])
          refine wpAnyH_take (i := 7) (v := undef) rfl (by kernel_rfl) (by kernel_rfl) (by kernel_rfl) (fun _ _ _ h => h) (Or.inr ⟨by rfl, rfl⟩) (by assumption) ?_
          (try simp only [Act.put, List.setIfInBounds_toArray, List.set_cons_zero, List.set_cons_succ, List.getElem_toArray, List.getElem_cons_succ, List.getElem_cons_zero])
          refine wpAnyH_take (i := 8) (v := undef) rfl (by kernel_rfl) (by kernel_rfl) (by kernel_rfl) (fun _ _ _ h => h) (Or.inr ⟨by rfl, rfl⟩) (by assumption) ?_
          (try simp only [Act.put, List.setIfInBounds_toArray, List.set_cons_zero, List.set_cons_succ, List.getElem_toArray, List.getElem_cons_succ, List.getElem_cons_zero])
          refine wpAnyH_take (i := 9) (v := undef) rfl (by kernel_rfl) (by kernel_rfl) (by kernel_rfl) (fun _ _ _ h => h) (Or.inr ⟨by rfl, rfl⟩) (by assumption) ?_
          (try simp only [Act.put, List.setIfInBounds_toArray, List.set_cons_zero, List.set_cons_succ, List.getElem_toArray, List.getElem_cons_succ, List.getElem_cons_zero])
          refine wpAnyH_take (i := 10) (v := undef) rfl (by kernel_rfl) (by kernel_rfl) (by kernel_rfl) (fun _ _ _ h => h) (Or.inr ⟨by rfl, rfl⟩) (by assumption) ?_
          (try simp only [Act.put, List.setIfInBounds_toArray, List.set_cons_zero, List.set_cons_succ, List.getElem_toArray, List.getElem_cons_succ, List.getElem_cons_zero])
          refine wpAnyH_take (i := 11) (v := undef) rfl (by kernel_rfl) (by kernel_rfl) (by kernel_rfl) (fun _ _ _ h => h) (Or.inr ⟨by rfl, rfl⟩) (by assumption) ?_
          (try simp only [Act.put, List.setIfInBounds_toArray, List.set_cons_zero, List.set_cons_succ, List.getElem_toArray, List.getElem_cons_succ, List.getElem_cons_zero])
          refine wpAnyH_take (i := 12) (v := undef) rfl (by kernel_rfl) (by kernel_rfl) (by kernel_rfl) (fun _ _ _ h => h) (Or.inr ⟨by rfl, rfl⟩) (by assumption) ?_
          (try simp only [Act.put, List.setIfInBounds_toArray, List.set_cons_zero, List.set_cons_succ, List.getElem_toArray, List.getElem_cons_succ, List.getElem_cons_zero])
          refine wpAnyH_take (i := 13) (v := ?_) rfl (by kernel_rfl) (by kernel_rfl) (by kernel_rfl) (fun _ _ _ h => h) (Or.inl ⟨by rfl, ?_⟩) (by assumption) ?_
          rotate_left
          · (intro wS hSw; (try dsimp only at hSw); (first | (go_simp; done) | (go_simp; with_reducible rfl)))
          (try simp only [Act.put, List.setIfInBounds_toArray, List.set_cons_zero, List.set_cons_succ, List.getElem_toArray, List.getElem_cons_succ, List.getElem_cons_zero])
          refine wpAnyH_take (i := 15) (v := ?_) rfl (by kernel_rfl) (by kernel_rfl) (by kernel_rfl) (fun _ _ _ h => h) (Or.inl ⟨by rfl, ?_⟩) (by assumption) ?_
          rotate_left
          · (intro wS hSw; (try dsimp only at hSw); (first | (go_simp; done) | (go_simp; with_reducible rfl)))
          (try simp only [Act.put, List.setIfInBounds_toArray, List.set_cons_zero, List.set_cons_succ, List.getElem_toArray, List.getElem_cons_succ, List.getElem_cons_zero])
          refine wpAnyH_take (i := 16) (v := ?_) rfl (by kernel_rfl) (by kernel_rfl) (by kernel_rfl) (fun _ _ _ h => h) (Or.inl ⟨by rfl, ?_⟩) (by assumption) ?_
          rotate_left
          · (intro wS hSw; (try dsimp only at hSw); (first | (go_simp; done) | (go_simp; with_reducible rfl)))
          (try simp only [Act.put, List.setIfInBounds_toArray, List.set_cons_zero, List.set_cons_succ, List.getElem_toArray, List.getElem_cons_succ, List.getElem_cons_zero])
          refine wpAnyH_take (i := 17) (v := ?_) rfl (by kernel_rfl) (by kernel_rfl) (by kernel_rfl) (fun _ _ _ h => h) (Or.inl ⟨by rfl, ?_⟩) (by assumption) ?_
          rotate_left
          · (intro wS hSw; (try dsimp only at hSw); (first | (go_simp; done) | (go_simp; with_reducible rfl)))
          (try simp only [Act.put, List.setIfInBounds_toArray, List.set_cons_zero, List.set_cons_succ, List.getElem_toArray, List.getElem_cons_succ, List.getElem_cons_zero])
          refine wpAnyH_take (i := 18) (v := ?_) rfl (by kernel_rfl) (by kernel_rfl) (by kernel_rfl) (fun _ _ _ h => h) (Or.inl ⟨by rfl, ?_⟩) (by assumption) ?_
          rotate_left
          · (intro wS hSw; (try dsimp only at hSw); (first | (go_simp; done) | (go_simp; with_reducible rfl)))
          (try simp only [Act.put, List.setIfInBounds_toArray, List.set_cons_zero, List.set_cons_succ, List.getElem_toArray, List.getElem_cons_succ, List.getElem_cons_zero])
          refine wpAnyH_ready (rs := [14]) (by kernel_rfl) (by simp) ?_
          refine AllReadyH.cons rfl (fun K hK => ?_) AllReadyH.nil
          go_simp
          (go_at_call 46; ((with_reducible refine (whenR_calls _ _ _).mono ?_); rintro e w' ⟨rfl, ⟨nd, rfl⟩⟩))
          refine hK.out _ _ ?_ (fun hHeld => ?_)
          · (obtain ⟨_, _, _, tb⟩ := hHeld; (try dsimp only); refine HK4.out _ ?_; first | exact pw_below_drewN tb _ | exact below_alloc tb _ | exact bJoin (w1 := wr) hb4 tb | exact bJoin (w1 := wr) hb4 (pw_below_drewN (Below.refl _ _) _))
          clear hK K
          (try simp only [Act.put, List.setIfInBounds_toArray, List.set_cons_zero, List.set_cons_succ, List.getElem_toArray, List.getElem_cons_succ, List.getElem_cons_zero])
          refine wpAnyH_ready (rs := [19]) (by kernel_rfl) (by simp) ?_
          refine AllReadyH.cons rfl (fun K hK => ?_) AllReadyH.nil
          go_simp
          (go_at_call 47; ((with_reducible refine (HS1.out _).mono ?_); rintro e w4 ⟨rfl, hb4⟩))
          refine hK.out _ _ ?_ (fun hHeld => ?_)
          · (obtain ⟨_, _, _, tb⟩ := hHeld; (try dsimp only); refine HK4.out _ ?_; first | exact pw_below_drewN tb _ | exact below_alloc tb _ | exact bJoin (w1 := wr) hb4 tb | exact bJoin (w1 := wr) hb4 (pw_below_drewN (Below.refl _ _) _))
          clear hK K
          (try simp only [Act.put, List.setIfInBounds_toArray, List.set_cons_zero, List.set_cons_succ, List.getElem_toArray, List.getElem_cons_succ, List.getElem_cons_zero])
          refine wpAnyH_take (i := 20) (v := ?_) rfl (by kernel_rfl) (by kernel_rfl) (by kernel_rfl) (fun _ _ _ h => h) (Or.inl ⟨by rfl, ?_⟩) (by assumption) ?_
          rotate_left
          · (intro wS hSw; (try dsimp only at hSw); (first | (go_simp; done) | (go_simp; with_reducible rfl)))
          (try simp only [Act.put, List.setIfInBounds_toArray, List.set_cons_zero, List.set_cons_succ, List.getElem_toArray, List.getElem_cons_succ, List.getElem_cons_zero])
          refine wpAnyH_ready (rs := [21]) (by kernel_rfl) (by simp) ?_
          refine AllReadyH.cons rfl (fun K hK => ?_) AllReadyH.nil
          go_simp
          (go_at_call 46; ((with_reducible refine (whenR_calls _ _ _).mono ?_); rintro e w' ⟨rfl, ⟨nd, rfl⟩⟩))
          refine hK.out _ _ ?_ (fun hHeld => ?_)
          · (obtain ⟨_, _, _, tb⟩ := hHeld; (try dsimp only); refine HK4.out _ ?_; first | exact pw_below_drewN tb _ | exact below_alloc tb _ | exact bJoin (w1 := wr) hb4 tb | exact bJoin (w1 := wr) hb4 (pw_below_drewN (Below.refl _ _) _))
          clear hK K
          (try simp only [Act.put, List.setIfInBounds_toArray, List.set_cons_zero, List.set_cons_succ, List.getElem_toArray, List.getElem_cons_succ, List.getElem_cons_zero])
          refine wpAnyH_ready (rs := [22]) (by kernel_rfl) (by simp) ?_
          refine AllReadyH.cons rfl (fun K hK => ?_) AllReadyH.nil
          go_simp
          refine hK.out _ _ ?_ (fun hHeld => ?_)
          · (obtain ⟨_, _, _, tb⟩ := hHeld; (try dsimp only); refine HK4.out _ ?_; first | exact pw_below_drewN tb _ | exact below_alloc tb _ | exact bJoin (w1 := wr) hb4 tb | exact bJoin (w1 := wr) hb4 (pw_below_drewN (Below.refl _ _) _))
          clear hK K
          (try simp only [Act.put, List.setIfInBounds_toArray, List.set_cons_zero, List.set_cons_succ, List.getElem_toArray, List.getElem_cons_succ, List.getElem_cons_zero])
          refine wpAnyH_ready (rs := [23]) (by kernel_rfl) (by simp) ?_
          refine AllReadyH.cons rfl (fun K hK => ?_) AllReadyH.nil
          go_simp
          (go_at_call 45; ((with_reducible refine (firstR_calls _ _ _ _ (by simp)).mono ?_); rintro e w' ⟨rfl, ⟨ne, rfl⟩⟩))
          refine hK.out _ _ ?_ (fun hHeld => ?_)
          · (obtain ⟨_, _, _, tb⟩ := hHeld; (try dsimp only); refine HK4.out _ ?_; first | exact pw_below_drewN tb _ | exact below_alloc tb _ | exact bJoin (w1 := wr) hb4 tb | exact bJoin (w1 := wr) hb4 (pw_below_drewN (Below.refl _ _) _))
          clear hK K
          (try simp only [Act.put, List.setIfInBounds_toArray, List.set_cons_zero, List.set_cons_succ, List.getElem_toArray, List.getElem_cons_succ, List.getElem_cons_zero])
          refine wpAnyH_take (i := 24) (v := ?_) rfl (by kernel_rfl) (by kernel_rfl) (by kernel_rfl) (fun _ _ _ h => h) (Or.inl ⟨by rfl, ?_⟩) (by assumption) ?_
          rotate_left
          · (intro wS hSw; (try dsimp only at hSw); (first | (go_simp; done) | (go_simp; with_reducible rfl)))
          (try simp only [Act.put, List.setIfInBounds_toArray, List.set_cons_zero, List.set_cons_succ, List.getElem_toArray, List.getElem_cons_succ, List.getElem_cons_zero])
          refine wpAnyH_done (by kernel_rfl) ?_ _
          have HB5 := Aside0.mk (below_step HB.out hHeld.2.2.2)
          clear hHeld hb0
          go_wp2
          try rw [Exit.noGoto_ret]
          go_ret2
          refine ⟨?_, HB5.out⟩
          rw [joinRB, if_neg (by rw [HF2.out]; decide), HF2.out]
          rfl
      · rw [if_neg (by decide)] at HF2
        cases sb
        all_goals
          have hb0 := Below.refl wr.heap.size wr
          go_wp2
          refine wp_region_held_drew (S := (fun W => W.cell? (ad.add (j * 3)) = some (.int .i64 x.f0) ∧ W.cell? ⟨(ad.add (j * 3)).block, (ad.add (j * 3)).off + 1, none⟩ = some (.string x.f1) ∧ W.cell? ⟨(ad.add (j * 3)).block, (ad.add (j * 3)).off + 2, none⟩ = some (.int .i64 x.f2) ∧ Below wr.heap.size wr W)) (by kernel_rfl) ?_ (fun hHeld => ?_)
          · exact ⟨keepA (below_drew1 hb0) c0, keepA (below_drew1 hb0) c1, keepA (below_drew1 hb0) c2, below_drew1 hb0⟩
          refine wpAnyH_take (i := 0) (v := ?_) rfl (by kernel_rfl) (by kernel_rfl) (by kernel_rfl) (fun _ _ _ h => h) (Or.inl ⟨by rfl, ?_⟩) (by assumption) ?_
          rotate_left
          · (intro wS hSw; (try dsimp only at hSw); (first | (go_simp; done) | (go_simp; with_reducible rfl)))
          (try simp only [Act.put, List.setIfInBounds_toArray, List.set_cons_zero, List.set_cons_succ, List.getElem_toArray, List.getElem_cons_succ, List.getElem_cons_zero])
          refine wpAnyH_take (i := 1) (v := ?_) rfl (by kernel_rfl) (by kernel_rfl) (by kernel_rfl) (fun _ _ _ h => h) (Or.inl ⟨by rfl, ?_⟩) (by assumption) ?_
          rotate_left
          · (intro wS hSw; (try dsimp only at hSw); (first | (go_simp; done) | (go_simp; with_reducible rfl)))
          (try simp only [Act.put, List.setIfInBounds_toArray, List.set_cons_zero, List.set_cons_succ, List.getElem_toArray, List.getElem_cons_succ, List.getElem_cons_zero])
          refine wpAnyH_take (i := 2) (v := ?_) rfl (by kernel_rfl) (by kernel_rfl) (by kernel_rfl) (fun _ _ _ h => h) (Or.inl ⟨by rfl, ?_⟩) (by assumption) ?_
          rotate_left
          · (intro wS hSw; (try dsimp only at hSw); (first | (go_simp; done) | (go_simp; with_reducible rfl)))
          (try simp only [Act.put, List.setIfInBounds_toArray, List.set_cons_zero, List.set_cons_succ, List.getElem_toArray, List.getElem_cons_succ, List.getElem_cons_zero])
          refine wpAnyH_take (i := 3) (v := ?_) rfl (by kernel_rfl) (by kernel_rfl) (by kernel_rfl) (fun _ _ _ h => h) (Or.inl ⟨by rfl, ?_⟩) (by assumption) ?_
          rotate_left
          · (intro wS hSw; (try dsimp only at hSw); (first | (go_simp; done) | (go_simp; with_reducible rfl)))
          (try simp only [Act.put, List.setIfInBounds_toArray, List.set_cons_zero, List.set_cons_succ, List.getElem_toArray, List.getElem_cons_succ, List.getElem_cons_zero])
          refine wpAnyH_take (i := 4) (v := ?_) rfl (by kernel_rfl) (by kernel_rfl) (by kernel_rfl) (fun _ _ _ h => h) (Or.inl ⟨by rfl, ?_⟩) (by assumption) ?_
          rotate_left
          · (intro wS hSw; (try dsimp only at hSw); (first | (go_simp; done) | (go_simp; with_reducible rfl)))
          (try simp only [Act.put, List.setIfInBounds_toArray, List.set_cons_zero, List.set_cons_succ, List.getElem_toArray, List.getElem_cons_succ, List.getElem_cons_zero])
          refine wpAnyH_take (i := 5) (v := ?_) rfl (by kernel_rfl) (by kernel_rfl) (by kernel_rfl) (fun _ _ _ h => h) (Or.inl ⟨by rfl, ?_⟩) (by assumption) ?_
          rotate_left
          · (intro wS hSw; (try dsimp only at hSw); (first | (go_simp; done) | (go_simp; with_reducible rfl)))
          (try simp only [Act.put, List.setIfInBounds_toArray, List.set_cons_zero, List.set_cons_succ, List.getElem_toArray, List.getElem_cons_succ, List.getElem_cons_zero])
          refine wpAnyH_take (i := 6) (v := ?_) rfl (by kernel_rfl) (by kernel_rfl) (by kernel_rfl) (fun _ _ _ h => h) (Or.inl ⟨by rfl, ?_⟩) (by assumption) ?_
          rotate_left
          · (intro wS hSw; (try dsimp only at hSw); (first | (go_simp; done) | (go_simp; with_reducible rfl)))
          (try simp only [Act.put, List.setIfInBounds_toArray, List.set_cons_zero, List.set_cons_succ, List.getElem_toArray, List.getElem_cons_succ, List.getElem_cons_zero])
          refine wpAnyH_take (i := 7) (v := ?_) rfl (by kernel_rfl) (by kernel_rfl) (by kernel_rfl) (fun _ _ _ h => h) (Or.inl ⟨by rfl, ?_⟩) (by assumption) ?_
          rotate_left
          · (intro wS hSw; (try dsimp only at hSw); (first | (go_simp; done) | (go_simp; with_reducible rfl)))
          (try simp only [Act.put, List.setIfInBounds_toArray, List.set_cons_zero, List.set_cons_succ, List.getElem_toArray, List.getElem_cons_succ, List.getElem_cons_zero])
          refine wpAnyH_take (i := 8) (v := ?_) rfl (by kernel_rfl) (by kernel_rfl) (by kernel_rfl) (fun _ _ _ h => h) (Or.inl ⟨by rfl, ?_⟩) (by assumption) ?_
          rotate_left
          · (intro wS hSw; (try dsimp only at hSw); (first | (go_simp; done) | (go_simp; with_reducible rfl)))
          (try simp only [Act.put, List.setIfInBounds_toArray, List.set_cons_zero, List.set_cons_succ, List.getElem_toArray, List.getElem_cons_succ, List.getElem_cons_zero])
          refine wpAnyH_take (i := 9) (v := ?_) rfl (by kernel_rfl) (by kernel_rfl) (by kernel_rfl) (fun _ _ _ h => h) (Or.inl ⟨by rfl, ?_⟩) (by assumption) ?_
          rotate_left
          · (intro wS hSw; (try dsimp only at hSw); (first | (go_simp; done) | (go_simp; with_reducible rfl)))
          (try simp only [Act.put, List.setIfInBounds_toArray, List.set_cons_zero, List.set_cons_succ, List.getElem_toArray, List.getElem_cons_succ, List.getElem_cons_zero])
          refine wpAnyH_take (i := 10) (v := ?_) rfl (by kernel_rfl) (by kernel_rfl) (by kernel_rfl) (fun _ _ _ h => h) (Or.inl ⟨by rfl, ?_⟩) (by assumption) ?_
          rotate_left
          · (intro wS hSw; (try dsimp only at hSw); (first | (go_simp; done) | (go_simp; with_reducible rfl)))
          (try simp only [Act.put, List.setIfInBounds_toArray, List.set_cons_zero, List.set_cons_succ, List.getElem_toArray, List.getElem_cons_succ, List.getElem_cons_zero])
          refine wpAnyH_take (i := 11) (v := ?_) rfl (by kernel_rfl) (by kernel_rfl) (by kernel_rfl) (fun _ _ _ h => h) (Or.inl ⟨by rfl, ?_⟩) (by assumption) ?_
          rotate_left
          · (intro wS hSw; (try dsimp only at hSw); (first | (go_simp; done) | (go_simp; with_reducible rfl)))
          (try simp only [Act.put, List.setIfInBounds_toArray, List.set_cons_zero, List.set_cons_succ, List.getElem_toArray, List.getElem_cons_succ, List.getElem_cons_zero])
          refine wpAnyH_take (i := 12) (v := ?_) rfl (by kernel_rfl) (by kernel_rfl) (by kernel_rfl) (fun _ _ _ h => h) (Or.inl ⟨by rfl, ?_⟩) (by assumption) ?_
          rotate_left
          · (intro wS hSw; (try dsimp only at hSw); (first | (go_simp; done) | (go_simp; with_reducible rfl)))
          (try simp only [Act.put, List.setIfInBounds_toArray, List.set_cons_zero, List.set_cons_succ, List.getElem_toArray, List.getElem_cons_succ, List.getElem_cons_zero])
          refine wpAnyH_take (i := 13) (v := ?_) rfl (by kernel_rfl) (by kernel_rfl) (by kernel_rfl) (fun _ _ _ h => h) (Or.inl ⟨by rfl, ?_⟩) (by assumption) ?_
          rotate_left
          · (intro wS hSw; (try dsimp only at hSw); (first | (go_simp; done) | (go_simp; with_reducible rfl)))
          (try simp only [Act.put, List.setIfInBounds_toArray, List.set_cons_zero, List.set_cons_succ, List.getElem_toArray, List.getElem_cons_succ, List.getElem_cons_zero])
          refine wpAnyH_take (i := 15) (v := ?_) rfl (by kernel_rfl) (by kernel_rfl) (by kernel_rfl) (fun _ _ _ h => h) (Or.inl ⟨by rfl, ?_⟩) (by assumption) ?_
          rotate_left
          · (intro wS hSw; (try dsimp only at hSw); (first | (go_simp; done) | (go_simp; with_reducible rfl)))
          (try simp only [Act.put, List.setIfInBounds_toArray, List.set_cons_zero, List.set_cons_succ, List.getElem_toArray, List.getElem_cons_succ, List.getElem_cons_zero])
          refine wpAnyH_take (i := 16) (v := ?_) rfl (by kernel_rfl) (by kernel_rfl) (by kernel_rfl) (fun _ _ _ h => h) (Or.inl ⟨by rfl, ?_⟩) (by assumption) ?_
          rotate_left
          · (intro wS hSw; (try dsimp only at hSw); (first | (go_simp; done) | (go_simp; with_reducible rfl)))
          (try simp only [Act.put, List.setIfInBounds_toArray, List.set_cons_zero, List.set_cons_succ, List.getElem_toArray, List.getElem_cons_succ, List.getElem_cons_zero])
          refine wpAnyH_take (i := 17) (v := ?_) rfl (by kernel_rfl) (by kernel_rfl) (by kernel_rfl) (fun _ _ _ h => h) (Or.inl ⟨by rfl, ?_⟩) (by assumption) ?_
          rotate_left
          · (intro wS hSw; (try dsimp only at hSw); (first | (go_simp; done) | (go_simp; with_reducible rfl)))
          (try simp only [Act.put, List.setIfInBounds_toArray, List.set_cons_zero, List.set_cons_succ, List.getElem_toArray, List.getElem_cons_succ, List.getElem_cons_zero])
          refine wpAnyH_take (i := 18) (v := ?_) rfl (by kernel_rfl) (by kernel_rfl) (by kernel_rfl) (fun _ _ _ h => h) (Or.inl ⟨by rfl, ?_⟩) (by assumption) ?_
          rotate_left
          · (intro wS hSw; (try dsimp only at hSw); (first | (go_simp; done) | (go_simp; with_reducible rfl)))
          (try simp only [Act.put, List.setIfInBounds_toArray, List.set_cons_zero, List.set_cons_succ, List.getElem_toArray, List.getElem_cons_succ, List.getElem_cons_zero])
          refine wpAnyH_ready (rs := [14]) (by kernel_rfl) (by simp) ?_
          refine AllReadyH.cons rfl (fun K hK => ?_) AllReadyH.nil
          go_simp
          (go_at_call 46; ((with_reducible refine (whenR_calls _ _ _).mono ?_); rintro e w' ⟨rfl, ⟨nd, rfl⟩⟩))
          refine hK.out _ _ ?_ (fun hHeld => ?_)
          · (obtain ⟨_, _, _, tb⟩ := hHeld; (try dsimp only); refine HK4.out _ ?_; first | exact pw_below_drewN tb _ | exact below_alloc tb _ | exact bJoin (w1 := wr) hb4 tb | exact bJoin (w1 := wr) hb4 (pw_below_drewN (Below.refl _ _) _))
          clear hK K
          (try simp only [Act.put, List.setIfInBounds_toArray, List.set_cons_zero, List.set_cons_succ, List.getElem_toArray, List.getElem_cons_succ, List.getElem_cons_zero])
          refine wpAnyH_ready (rs := [19]) (by kernel_rfl) (by simp) ?_
          refine AllReadyH.cons rfl (fun K hK => ?_) AllReadyH.nil
          go_simp
          (go_at_call 47; ((with_reducible refine (HS1.out _).mono ?_); rintro e w4 ⟨rfl, hb4⟩))
          refine hK.out _ _ ?_ (fun hHeld => ?_)
          · (obtain ⟨_, _, _, tb⟩ := hHeld; (try dsimp only); refine HK4.out _ ?_; first | exact pw_below_drewN tb _ | exact below_alloc tb _ | exact bJoin (w1 := wr) hb4 tb | exact bJoin (w1 := wr) hb4 (pw_below_drewN (Below.refl _ _) _))
          clear hK K
          (try simp only [Act.put, List.setIfInBounds_toArray, List.set_cons_zero, List.set_cons_succ, List.getElem_toArray, List.getElem_cons_succ, List.getElem_cons_zero])
          refine wpAnyH_take (i := 20) (v := ?_) rfl (by kernel_rfl) (by kernel_rfl) (by kernel_rfl) (fun _ _ _ h => h) (Or.inl ⟨by rfl, ?_⟩) (by assumption) ?_
          rotate_left
          · (intro wS hSw; (try dsimp only at hSw); (first | (go_simp; done) | (go_simp; with_reducible rfl)))
          (try simp only [Act.put, List.setIfInBounds_toArray, List.set_cons_zero, List.set_cons_succ, List.getElem_toArray, List.getElem_cons_succ, List.getElem_cons_zero])
          refine wpAnyH_ready (rs := [21]) (by kernel_rfl) (by simp) ?_
          refine AllReadyH.cons rfl (fun K hK => ?_) AllReadyH.nil
          go_simp
          (go_at_call 46; ((with_reducible refine (whenR_calls _ _ _).mono ?_); rintro e w' ⟨rfl, ⟨nd, rfl⟩⟩))
          refine hK.out _ _ ?_ (fun hHeld => ?_)
          · (obtain ⟨_, _, _, tb⟩ := hHeld; (try dsimp only); refine HK4.out _ ?_; first | exact pw_below_drewN tb _ | exact below_alloc tb _ | exact bJoin (w1 := wr) hb4 tb | exact bJoin (w1 := wr) hb4 (pw_below_drewN (Below.refl _ _) _))
          clear hK K
          (try simp only [Act.put, List.setIfInBounds_toArray, List.set_cons_zero, List.set_cons_succ, List.getElem_toArray, List.getElem_cons_succ, List.getElem_cons_zero])
          refine wpAnyH_ready (rs := [22]) (by kernel_rfl) (by simp) ?_
          refine AllReadyH.cons rfl (fun K hK => ?_) AllReadyH.nil
          go_simp
          refine hK.out _ _ ?_ (fun hHeld => ?_)
          · (obtain ⟨_, _, _, tb⟩ := hHeld; (try dsimp only); refine HK4.out _ ?_; first | exact pw_below_drewN tb _ | exact below_alloc tb _ | exact bJoin (w1 := wr) hb4 tb | exact bJoin (w1 := wr) hb4 (pw_below_drewN (Below.refl _ _) _))
          clear hK K
          (try simp only [Act.put, List.setIfInBounds_toArray, List.set_cons_zero, List.set_cons_succ, List.getElem_toArray, List.getElem_cons_succ, List.getElem_cons_zero])
          refine wpAnyH_ready (rs := [23]) (by kernel_rfl) (by simp) ?_
          refine AllReadyH.cons rfl (fun K hK => ?_) AllReadyH.nil
          go_simp
          (go_at_call 45; ((with_reducible refine (firstR_calls _ _ _ _ (by simp)).mono ?_); rintro e w' ⟨rfl, ⟨ne, rfl⟩⟩))
          refine hK.out _ _ ?_ (fun hHeld => ?_)
          · (obtain ⟨_, _, _, tb⟩ := hHeld; (try dsimp only); refine HK4.out _ ?_; first | exact pw_below_drewN tb _ | exact below_alloc tb _ | exact bJoin (w1 := wr) hb4 tb | exact bJoin (w1 := wr) hb4 (pw_below_drewN (Below.refl _ _) _))
          clear hK K
          (try simp only [Act.put, List.setIfInBounds_toArray, List.set_cons_zero, List.set_cons_succ, List.getElem_toArray, List.getElem_cons_succ, List.getElem_cons_zero])
          refine wpAnyH_take (i := 24) (v := ?_) rfl (by kernel_rfl) (by kernel_rfl) (by kernel_rfl) (fun _ _ _ h => h) (Or.inl ⟨by rfl, ?_⟩) (by assumption) ?_
          rotate_left
          · (intro wS hSw; (try dsimp only at hSw); (first | (go_simp; done) | (go_simp; with_reducible rfl)))
          (try simp only [Act.put, List.setIfInBounds_toArray, List.set_cons_zero, List.set_cons_succ, List.getElem_toArray, List.getElem_cons_succ, List.getElem_cons_zero])
          refine wpAnyH_done (by kernel_rfl) ?_ _
          have HB5 := Aside0.mk (below_step HB.out hHeld.2.2.2)
          clear hHeld hb0
          go_wp2
          try rw [Exit.noGoto_ret]
          go_ret2
          refine ⟨?_, HB5.out⟩
          rw [joinRB, if_neg (by rw [HF2.out]; decide), HF2.out]
          rfl
      · cases sb
        · obtain rfl : bd = 1 := hbd
          rw [if_neg (by decide)] at HF2
          have hb0 := Below.refl wr.heap.size wr
          go_wp2
          refine wp_region_held_drew (S := (fun W => W.cell? (ad.add (j * 3)) = some (.int .i64 x.f0) ∧ W.cell? ⟨(ad.add (j * 3)).block, (ad.add (j * 3)).off + 1, none⟩ = some (.string x.f1) ∧ W.cell? ⟨(ad.add (j * 3)).block, (ad.add (j * 3)).off + 2, none⟩ = some (.int .i64 x.f2) ∧ Below wr.heap.size wr W)) (by kernel_rfl) ?_ (fun hHeld => ?_)
          · exact ⟨keepA (below_drew1 hb0) c0, keepA (below_drew1 hb0) c1, keepA (below_drew1 hb0) c2, below_drew1 hb0⟩
          refine wpAnyH_take (i := 0) (v := ?_) rfl (by kernel_rfl) (by kernel_rfl) (by kernel_rfl) (fun _ _ _ h => h) (Or.inl ⟨by rfl, ?_⟩) (by assumption) ?_
          rotate_left
          · (intro wS hSw; (try dsimp only at hSw); (first | (go_simp; done) | (go_simp; with_reducible rfl)))
          (try simp only [Act.put, List.setIfInBounds_toArray, List.set_cons_zero, List.set_cons_succ, List.getElem_toArray, List.getElem_cons_succ, List.getElem_cons_zero])
          refine wpAnyH_take (i := 1) (v := ?_) rfl (by kernel_rfl) (by kernel_rfl) (by kernel_rfl) (fun _ _ _ h => h) (Or.inl ⟨by rfl, ?_⟩) (by assumption) ?_
          rotate_left
          · (intro wS hSw; (try dsimp only at hSw); (first | (go_simp; done) | (go_simp; with_reducible rfl)))
          (try simp only [Act.put, List.setIfInBounds_toArray, List.set_cons_zero, List.set_cons_succ, List.getElem_toArray, List.getElem_cons_succ, List.getElem_cons_zero])
          refine wpAnyH_take (i := 2) (v := ?_) rfl (by kernel_rfl) (by kernel_rfl) (by kernel_rfl) (fun _ _ _ h => h) (Or.inl ⟨by rfl, ?_⟩) (by assumption) ?_
          rotate_left
          · (intro wS hSw; (try dsimp only at hSw); (first | (go_simp; done) | (go_simp; with_reducible rfl)))
          (try simp only [Act.put, List.setIfInBounds_toArray, List.set_cons_zero, List.set_cons_succ, List.getElem_toArray, List.getElem_cons_succ, List.getElem_cons_zero])
          refine wpAnyH_take (i := 3) (v := ?_) rfl (by kernel_rfl) (by kernel_rfl) (by kernel_rfl) (fun _ _ _ h => h) (Or.inl ⟨by rfl, ?_⟩) (by assumption) ?_
          rotate_left
          · (intro wS hSw; (try dsimp only at hSw); (first | (go_simp; done) | (go_simp; with_reducible rfl)))
          (try simp only [Act.put, List.setIfInBounds_toArray, List.set_cons_zero, List.set_cons_succ, List.getElem_toArray, List.getElem_cons_succ, List.getElem_cons_zero])
          refine wpAnyH_take (i := 4) (v := ?_) rfl (by kernel_rfl) (by kernel_rfl) (by kernel_rfl) (fun _ _ _ h => h) (Or.inl ⟨by rfl, ?_⟩) (by assumption) ?_
          rotate_left
          · (intro wS hSw; (try dsimp only at hSw); (first | (go_simp; done) | (go_simp; with_reducible rfl)))
          (try simp only [Act.put, List.setIfInBounds_toArray, List.set_cons_zero, List.set_cons_succ, List.getElem_toArray, List.getElem_cons_succ, List.getElem_cons_zero])
          refine wpAnyH_take (i := 5) (v := ?_) rfl (by kernel_rfl) (by kernel_rfl) (by kernel_rfl) (fun _ _ _ h => h) (Or.inl ⟨by rfl, ?_⟩) (by assumption) ?_
          rotate_left
          · (intro wS hSw; (try dsimp only at hSw); (first | (go_simp; done) | (go_simp; with_reducible rfl)))
          (try simp only [Act.put, List.setIfInBounds_toArray, List.set_cons_zero, List.set_cons_succ, List.getElem_toArray, List.getElem_cons_succ, List.getElem_cons_zero])
          refine wpAnyH_take (i := 6) (v := ?_) rfl (by kernel_rfl) (by kernel_rfl) (by kernel_rfl) (fun _ _ _ h => h) (Or.inl ⟨by rfl, ?_⟩) (by assumption) ?_
          rotate_left
          · (intro wS hSw; (try dsimp only at hSw); (first | (go_simp; done) | (go_simp; with_reducible rfl)))
          (try simp only [Act.put, List.setIfInBounds_toArray, List.set_cons_zero, List.set_cons_succ, List.getElem_toArray, List.getElem_cons_succ, List.getElem_cons_zero])
          refine wpAnyH_take (i := 7) (v := ?_) rfl (by kernel_rfl) (by kernel_rfl) (by kernel_rfl) (fun _ _ _ h => h) (Or.inl ⟨by rfl, ?_⟩) (by assumption) ?_
          rotate_left
          · (intro wS hSw; (try dsimp only at hSw); (first | (go_simp; done) | (go_simp; with_reducible rfl)))
          (try simp only [Act.put, List.setIfInBounds_toArray, List.set_cons_zero, List.set_cons_succ, List.getElem_toArray, List.getElem_cons_succ, List.getElem_cons_zero])
          refine wpAnyH_take (i := 8) (v := ?_) rfl (by kernel_rfl) (by kernel_rfl) (by kernel_rfl) (fun _ _ _ h => h) (Or.inl ⟨by rfl, ?_⟩) (by assumption) ?_
          rotate_left
          · (intro wS hSw; (try dsimp only at hSw); (first | (go_simp; done) | (go_simp; with_reducible rfl)))
          (try simp only [Act.put, List.setIfInBounds_toArray, List.set_cons_zero, List.set_cons_succ, List.getElem_toArray, List.getElem_cons_succ, List.getElem_cons_zero])
          refine wpAnyH_take (i := 9) (v := ?_) rfl (by kernel_rfl) (by kernel_rfl) (by kernel_rfl) (fun _ _ _ h => h) (Or.inl ⟨by rfl, ?_⟩) (by assumption) ?_
          rotate_left
          · (intro wS hSw; (try dsimp only at hSw); (first | (go_simp; done) | (go_simp; with_reducible rfl)))
          (try simp only [Act.put, List.setIfInBounds_toArray, List.set_cons_zero, List.set_cons_succ, List.getElem_toArray, List.getElem_cons_succ, List.getElem_cons_zero])
          refine wpAnyH_take (i := 10) (v := ?_) rfl (by kernel_rfl) (by kernel_rfl) (by kernel_rfl) (fun _ _ _ h => h) (Or.inl ⟨by rfl, ?_⟩) (by assumption) ?_
          rotate_left
          · (intro wS hSw; (try dsimp only at hSw); (first | (go_simp; done) | (go_simp; with_reducible rfl)))
          (try simp only [Act.put, List.setIfInBounds_toArray, List.set_cons_zero, List.set_cons_succ, List.getElem_toArray, List.getElem_cons_succ, List.getElem_cons_zero])
          refine wpAnyH_take (i := 11) (v := ?_) rfl (by kernel_rfl) (by kernel_rfl) (by kernel_rfl) (fun _ _ _ h => h) (Or.inl ⟨by rfl, ?_⟩) (by assumption) ?_
          rotate_left
          · (intro wS hSw; (try dsimp only at hSw); (first | (go_simp; done) | (go_simp; with_reducible rfl)))
          (try simp only [Act.put, List.setIfInBounds_toArray, List.set_cons_zero, List.set_cons_succ, List.getElem_toArray, List.getElem_cons_succ, List.getElem_cons_zero])
          refine wpAnyH_take (i := 12) (v := ?_) rfl (by kernel_rfl) (by kernel_rfl) (by kernel_rfl) (fun _ _ _ h => h) (Or.inl ⟨by rfl, ?_⟩) (by assumption) ?_
          rotate_left
          · (intro wS hSw; (try dsimp only at hSw); (first | (go_simp; done) | (go_simp; with_reducible rfl)))
          (try simp only [Act.put, List.setIfInBounds_toArray, List.set_cons_zero, List.set_cons_succ, List.getElem_toArray, List.getElem_cons_succ, List.getElem_cons_zero])
          refine wpAnyH_take (i := 13) (v := ?_) rfl (by kernel_rfl) (by kernel_rfl) (by kernel_rfl) (fun _ _ _ h => h) (Or.inl ⟨by rfl, ?_⟩) (by assumption) ?_
          rotate_left
          · (intro wS hSw; (try dsimp only at hSw); (first | (go_simp; done) | (go_simp; with_reducible rfl)))
          (try simp only [Act.put, List.setIfInBounds_toArray, List.set_cons_zero, List.set_cons_succ, List.getElem_toArray, List.getElem_cons_succ, List.getElem_cons_zero])
          refine wpAnyH_take (i := 15) (v := ?_) rfl (by kernel_rfl) (by kernel_rfl) (by kernel_rfl) (fun _ _ _ h => h) (Or.inl ⟨by rfl, ?_⟩) (by assumption) ?_
          rotate_left
          · (intro wS hSw; (try dsimp only at hSw); (first | (go_simp; done) | (go_simp; with_reducible rfl)))
          (try simp only [Act.put, List.setIfInBounds_toArray, List.set_cons_zero, List.set_cons_succ, List.getElem_toArray, List.getElem_cons_succ, List.getElem_cons_zero])
          refine wpAnyH_take (i := 16) (v := ?_) rfl (by kernel_rfl) (by kernel_rfl) (by kernel_rfl) (fun _ _ _ h => h) (Or.inl ⟨by rfl, ?_⟩) (by assumption) ?_
          rotate_left
          · (intro wS hSw; (try dsimp only at hSw); (first | (go_simp; done) | (go_simp; with_reducible rfl)))
          (try simp only [Act.put, List.setIfInBounds_toArray, List.set_cons_zero, List.set_cons_succ, List.getElem_toArray, List.getElem_cons_succ, List.getElem_cons_zero])
          refine wpAnyH_take (i := 17) (v := ?_) rfl (by kernel_rfl) (by kernel_rfl) (by kernel_rfl) (fun _ _ _ h => h) (Or.inl ⟨by rfl, ?_⟩) (by assumption) ?_
          rotate_left
          · (intro wS hSw; (try dsimp only at hSw); (first | (go_simp; done) | (go_simp; with_reducible rfl)))
          (try simp only [Act.put, List.setIfInBounds_toArray, List.set_cons_zero, List.set_cons_succ, List.getElem_toArray, List.getElem_cons_succ, List.getElem_cons_zero])
          refine wpAnyH_take (i := 18) (v := ?_) rfl (by kernel_rfl) (by kernel_rfl) (by kernel_rfl) (fun _ _ _ h => h) (Or.inl ⟨by rfl, ?_⟩) (by assumption) ?_
          rotate_left
          · (intro wS hSw; (try dsimp only at hSw); (first | (go_simp; done) | (go_simp; with_reducible rfl)))
          (try simp only [Act.put, List.setIfInBounds_toArray, List.set_cons_zero, List.set_cons_succ, List.getElem_toArray, List.getElem_cons_succ, List.getElem_cons_zero])
          refine wpAnyH_ready (rs := [14]) (by kernel_rfl) (by simp) ?_
          refine AllReadyH.cons rfl (fun K hK => ?_) AllReadyH.nil
          go_simp
          (go_at_call 46; ((with_reducible refine (whenR_calls _ _ _).mono ?_); rintro e w' ⟨rfl, ⟨nd, rfl⟩⟩))
          refine hK.out _ _ ?_ (fun hHeld => ?_)
          · (obtain ⟨_, _, _, tb⟩ := hHeld; (try dsimp only); refine HK4.out _ ?_; first | exact pw_below_drewN tb _ | exact below_alloc tb _ | exact bJoin (w1 := wr) hb4 tb | exact bJoin (w1 := wr) hb4 (pw_below_drewN (Below.refl _ _) _))
          clear hK K
          (try simp only [Act.put, List.setIfInBounds_toArray, List.set_cons_zero, List.set_cons_succ, List.getElem_toArray, List.getElem_cons_succ, List.getElem_cons_zero])
          refine wpAnyH_ready (rs := [19]) (by kernel_rfl) (by simp) ?_
          refine AllReadyH.cons rfl (fun K hK => ?_) AllReadyH.nil
          go_simp
          (go_at_call 47; ((with_reducible refine (HS1.out _).mono ?_); rintro e w4 ⟨rfl, hb4⟩))
          refine hK.out _ _ ?_ (fun hHeld => ?_)
          · (obtain ⟨_, _, _, tb⟩ := hHeld; (try dsimp only); refine HK4.out _ ?_; first | exact pw_below_drewN tb _ | exact below_alloc tb _ | exact bJoin (w1 := wr) hb4 tb | exact bJoin (w1 := wr) hb4 (pw_below_drewN (Below.refl _ _) _))
          clear hK K
          (try simp only [Act.put, List.setIfInBounds_toArray, List.set_cons_zero, List.set_cons_succ, List.getElem_toArray, List.getElem_cons_succ, List.getElem_cons_zero])
          refine wpAnyH_take (i := 20) (v := ?_) rfl (by kernel_rfl) (by kernel_rfl) (by kernel_rfl) (fun _ _ _ h => h) (Or.inl ⟨by rfl, ?_⟩) (by assumption) ?_
          rotate_left
          · (intro wS hSw; (try dsimp only at hSw); (first | (go_simp; done) | (go_simp; with_reducible rfl)))
          (try simp only [Act.put, List.setIfInBounds_toArray, List.set_cons_zero, List.set_cons_succ, List.getElem_toArray, List.getElem_cons_succ, List.getElem_cons_zero])
          refine wpAnyH_ready (rs := [21]) (by kernel_rfl) (by simp) ?_
          refine AllReadyH.cons rfl (fun K hK => ?_) AllReadyH.nil
          go_simp
          (go_at_call 46; ((with_reducible refine (whenR_calls _ _ _).mono ?_); rintro e w' ⟨rfl, ⟨nd, rfl⟩⟩))
          refine hK.out _ _ ?_ (fun hHeld => ?_)
          · (obtain ⟨_, _, _, tb⟩ := hHeld; (try dsimp only); refine HK4.out _ ?_; first | exact pw_below_drewN tb _ | exact below_alloc tb _ | exact bJoin (w1 := wr) hb4 tb | exact bJoin (w1 := wr) hb4 (pw_below_drewN (Below.refl _ _) _))
          clear hK K
          (try simp only [Act.put, List.setIfInBounds_toArray, List.set_cons_zero, List.set_cons_succ, List.getElem_toArray, List.getElem_cons_succ, List.getElem_cons_zero])
          refine wpAnyH_ready (rs := [22]) (by kernel_rfl) (by simp) ?_
          refine AllReadyH.cons rfl (fun K hK => ?_) AllReadyH.nil
          go_simp
          refine hK.out _ _ ?_ (fun hHeld => ?_)
          · (obtain ⟨_, _, _, tb⟩ := hHeld; (try dsimp only); refine HK4.out _ ?_; first | exact pw_below_drewN tb _ | exact below_alloc tb _ | exact bJoin (w1 := wr) hb4 tb | exact bJoin (w1 := wr) hb4 (pw_below_drewN (Below.refl _ _) _))
          clear hK K
          (try simp only [Act.put, List.setIfInBounds_toArray, List.set_cons_zero, List.set_cons_succ, List.getElem_toArray, List.getElem_cons_succ, List.getElem_cons_zero])
          refine wpAnyH_ready (rs := [23]) (by kernel_rfl) (by simp) ?_
          refine AllReadyH.cons rfl (fun K hK => ?_) AllReadyH.nil
          go_simp
          (go_at_call 45; ((with_reducible refine (firstR_calls _ _ _ _ (by simp)).mono ?_); rintro e w' ⟨rfl, ⟨ne, rfl⟩⟩))
          refine hK.out _ _ ?_ (fun hHeld => ?_)
          · (obtain ⟨_, _, _, tb⟩ := hHeld; (try dsimp only); refine HK4.out _ ?_; first | exact pw_below_drewN tb _ | exact below_alloc tb _ | exact bJoin (w1 := wr) hb4 tb | exact bJoin (w1 := wr) hb4 (pw_below_drewN (Below.refl _ _) _))
          clear hK K
          (try simp only [Act.put, List.setIfInBounds_toArray, List.set_cons_zero, List.set_cons_succ, List.getElem_toArray, List.getElem_cons_succ, List.getElem_cons_zero])
          refine wpAnyH_take (i := 24) (v := ?_) rfl (by kernel_rfl) (by kernel_rfl) (by kernel_rfl) (fun _ _ _ h => h) (Or.inl ⟨by rfl, ?_⟩) (by assumption) ?_
          rotate_left
          · (intro wS hSw; (try dsimp only at hSw); (first | (go_simp; done) | (go_simp; with_reducible rfl)))
          (try simp only [Act.put, List.setIfInBounds_toArray, List.set_cons_zero, List.set_cons_succ, List.getElem_toArray, List.getElem_cons_succ, List.getElem_cons_zero])
          refine wpAnyH_done (by kernel_rfl) ?_ _
          have HB5 := Aside0.mk (below_step HB.out hHeld.2.2.2)
          clear hHeld hb0
          go_wp2
          try rw [Exit.noGoto_ret]
          go_ret2
          refine ⟨?_, HB5.out⟩
          rw [joinRB, if_neg (by rw [HF2.out]; decide), HF2.out]
          rfl
        · obtain rfl : bd = 0 := hbd
          rw [if_pos rfl] at HF2
          have hb0 := Below.refl wr.heap.size wr
          go_wp2
          refine wp_region_held_drew (S := (fun W => W.cell? (ad.add (j * 3)) = some (.int .i64 x.f0) ∧ W.cell? ⟨(ad.add (j * 3)).block, (ad.add (j * 3)).off + 1, none⟩ = some (.string x.f1) ∧ W.cell? ⟨(ad.add (j * 3)).block, (ad.add (j * 3)).off + 2, none⟩ = some (.int .i64 x.f2) ∧ Below wr.heap.size wr W)) (by kernel_rfl) ?_ (fun hHeld => ?_)
          · exact ⟨keepA (below_drew1 hb0) c0, keepA (below_drew1 hb0) c1, keepA (below_drew1 hb0) c2, below_drew1 hb0⟩
          refine wpAnyH_take (i := 0) (v := ?_) rfl (by kernel_rfl) (by kernel_rfl) (by kernel_rfl) (fun _ _ _ h => h) (Or.inl ⟨by rfl, ?_⟩) (by assumption) ?_
          rotate_left
          · (intro wS hSw; (try dsimp only at hSw); (first | (go_simp; done) | (go_simp; with_reducible rfl)))
          (try simp only [Act.put, List.setIfInBounds_toArray, List.set_cons_zero, List.set_cons_succ, List.getElem_toArray, List.getElem_cons_succ, List.getElem_cons_zero])
          refine wpAnyH_take (i := 1) (v := ?_) rfl (by kernel_rfl) (by kernel_rfl) (by kernel_rfl) (fun _ _ _ h => h) (Or.inl ⟨by rfl, ?_⟩) (by assumption) ?_
          rotate_left
          · (intro wS hSw; (try dsimp only at hSw); (first | (go_simp; done) | (go_simp; with_reducible rfl)))
          (try simp only [Act.put, List.setIfInBounds_toArray, List.set_cons_zero, List.set_cons_succ, List.getElem_toArray, List.getElem_cons_succ, List.getElem_cons_zero])
          refine wpAnyH_take (i := 2) (v := ?_) rfl (by kernel_rfl) (by kernel_rfl) (by kernel_rfl) (fun _ _ _ h => h) (Or.inl ⟨by rfl, ?_⟩) (by assumption) ?_
          rotate_left
          · (intro wS hSw; (try dsimp only at hSw); (first | (go_simp; done) | (go_simp; with_reducible rfl)))
          (try simp only [Act.put, List.setIfInBounds_toArray, List.set_cons_zero, List.set_cons_succ, List.getElem_toArray, List.getElem_cons_succ, List.getElem_cons_zero])
          refine wpAnyH_take (i := 3) (v := ?_) rfl (by kernel_rfl) (by kernel_rfl) (by kernel_rfl) (fun _ _ _ h => h) (Or.inl ⟨by rfl, ?_⟩) (by assumption) ?_
          rotate_left
          · (intro wS hSw; (try dsimp only at hSw); (first | (go_simp; done) | (go_simp; with_reducible rfl)))
          (try simp only [Act.put, List.setIfInBounds_toArray, List.set_cons_zero, List.set_cons_succ, List.getElem_toArray, List.getElem_cons_succ, List.getElem_cons_zero])
          refine wpAnyH_take (i := 4) (v := ?_) rfl (by kernel_rfl) (by kernel_rfl) (by kernel_rfl) (fun _ _ _ h => h) (Or.inl ⟨by rfl, ?_⟩) (by assumption) ?_
          rotate_left
          · (intro wS hSw; (try dsimp only at hSw); (first | (go_simp; done) | (go_simp; with_reducible rfl)))
          (try simp only [Act.put, List.setIfInBounds_toArray, List.set_cons_zero, List.set_cons_succ, List.getElem_toArray, List.getElem_cons_succ, List.getElem_cons_zero])
          refine wpAnyH_take (i := 5) (v := ?_) rfl (by kernel_rfl) (by kernel_rfl) (by kernel_rfl) (fun _ _ _ h => h) (Or.inl ⟨by rfl, ?_⟩) (by assumption) ?_
          rotate_left
          · (intro wS hSw; (try dsimp only at hSw); (first | (go_simp; done) | (go_simp; with_reducible rfl)))
          (try simp only [Act.put, List.setIfInBounds_toArray, List.set_cons_zero, List.set_cons_succ, List.getElem_toArray, List.getElem_cons_succ, List.getElem_cons_zero])
          refine wpAnyH_take (i := 6) (v := ?_) rfl (by kernel_rfl) (by kernel_rfl) (by kernel_rfl) (fun _ _ _ h => h) (Or.inl ⟨by rfl, ?_⟩) (by assumption) ?_
          rotate_left
          · (intro wS hSw; (try dsimp only at hSw); (first | (go_simp; done) | (go_simp; with_reducible rfl)))
          (try simp only [Act.put, List.setIfInBounds_toArray, List.set_cons_zero, List.set_cons_succ, List.getElem_toArray, List.getElem_cons_succ, List.getElem_cons_zero])
          refine wpAnyH_take (i := 7) (v := ?_) rfl (by kernel_rfl) (by kernel_rfl) (by kernel_rfl) (fun _ _ _ h => h) (Or.inl ⟨by rfl, ?_⟩) (by assumption) ?_
          rotate_left
          · (intro wS hSw; (try dsimp only at hSw); (first | (go_simp; done) | (go_simp; with_reducible rfl)))
          (try simp only [Act.put, List.setIfInBounds_toArray, List.set_cons_zero, List.set_cons_succ, List.getElem_toArray, List.getElem_cons_succ, List.getElem_cons_zero])
          refine wpAnyH_take (i := 8) (v := ?_) rfl (by kernel_rfl) (by kernel_rfl) (by kernel_rfl) (fun _ _ _ h => h) (Or.inl ⟨by rfl, ?_⟩) (by assumption) ?_
          rotate_left
          · (intro wS hSw; (try dsimp only at hSw); (first | (go_simp; done) | (go_simp; with_reducible rfl)))
          (try simp only [Act.put, List.setIfInBounds_toArray, List.set_cons_zero, List.set_cons_succ, List.getElem_toArray, List.getElem_cons_succ, List.getElem_cons_zero])
          refine wpAnyH_take (i := 9) (v := ?_) rfl (by kernel_rfl) (by kernel_rfl) (by kernel_rfl) (fun _ _ _ h => h) (Or.inl ⟨by rfl, ?_⟩) (by assumption) ?_
          rotate_left
          · (intro wS hSw; (try dsimp only at hSw); (first | (go_simp; done) | (go_simp; with_reducible rfl)))
          (try simp only [Act.put, List.setIfInBounds_toArray, List.set_cons_zero, List.set_cons_succ, List.getElem_toArray, List.getElem_cons_succ, List.getElem_cons_zero])
          refine wpAnyH_take (i := 10) (v := ?_) rfl (by kernel_rfl) (by kernel_rfl) (by kernel_rfl) (fun _ _ _ h => h) (Or.inl ⟨by rfl, ?_⟩) (by assumption) ?_
          rotate_left
          · (intro wS hSw; (try dsimp only at hSw); (first | (go_simp; done) | (go_simp; with_reducible rfl)))
          (try simp only [Act.put, List.setIfInBounds_toArray, List.set_cons_zero, List.set_cons_succ, List.getElem_toArray, List.getElem_cons_succ, List.getElem_cons_zero])
          refine wpAnyH_take (i := 11) (v := ?_) rfl (by kernel_rfl) (by kernel_rfl) (by kernel_rfl) (fun _ _ _ h => h) (Or.inl ⟨by rfl, ?_⟩) (by assumption) ?_
          rotate_left
          · (intro wS hSw; (try dsimp only at hSw); (first | (go_simp; done) | (go_simp; with_reducible rfl)))
          (try simp only [Act.put, List.setIfInBounds_toArray, List.set_cons_zero, List.set_cons_succ, List.getElem_toArray, List.getElem_cons_succ, List.getElem_cons_zero])
          refine wpAnyH_take (i := 12) (v := ?_) rfl (by kernel_rfl) (by kernel_rfl) (by kernel_rfl) (fun _ _ _ h => h) (Or.inl ⟨by rfl, ?_⟩) (by assumption) ?_
          rotate_left
          · (intro wS hSw; (try dsimp only at hSw); (first | (go_simp; done) | (go_simp; with_reducible rfl)))
          (try simp only [Act.put, List.setIfInBounds_toArray, List.set_cons_zero, List.set_cons_succ, List.getElem_toArray, List.getElem_cons_succ, List.getElem_cons_zero])
          refine wpAnyH_take (i := 13) (v := ?_) rfl (by kernel_rfl) (by kernel_rfl) (by kernel_rfl) (fun _ _ _ h => h) (Or.inl ⟨by rfl, ?_⟩) (by assumption) ?_
          rotate_left
          · (intro wS hSw; (try dsimp only at hSw); (first | (go_simp; done) | (go_simp; with_reducible rfl)))
          (try simp only [Act.put, List.setIfInBounds_toArray, List.set_cons_zero, List.set_cons_succ, List.getElem_toArray, List.getElem_cons_succ, List.getElem_cons_zero])
          refine wpAnyH_take (i := 15) (v := ?_) rfl (by kernel_rfl) (by kernel_rfl) (by kernel_rfl) (fun _ _ _ h => h) (Or.inl ⟨by rfl, ?_⟩) (by assumption) ?_
          rotate_left
          · (intro wS hSw; (try dsimp only at hSw); (first | (go_simp; done) | (go_simp; with_reducible rfl)))
          (try simp only [Act.put, List.setIfInBounds_toArray, List.set_cons_zero, List.set_cons_succ, List.getElem_toArray, List.getElem_cons_succ, List.getElem_cons_zero])
          refine wpAnyH_take (i := 16) (v := ?_) rfl (by kernel_rfl) (by kernel_rfl) (by kernel_rfl) (fun _ _ _ h => h) (Or.inl ⟨by rfl, ?_⟩) (by assumption) ?_
          rotate_left
          · (intro wS hSw; (try dsimp only at hSw); (first | (go_simp; done) | (go_simp; with_reducible rfl)))
          (try simp only [Act.put, List.setIfInBounds_toArray, List.set_cons_zero, List.set_cons_succ, List.getElem_toArray, List.getElem_cons_succ, List.getElem_cons_zero])
          refine wpAnyH_take (i := 17) (v := ?_) rfl (by kernel_rfl) (by kernel_rfl) (by kernel_rfl) (fun _ _ _ h => h) (Or.inl ⟨by rfl, ?_⟩) (by assumption) ?_
          rotate_left
          · (intro wS hSw; (try dsimp only at hSw); (first | (go_simp; done) | (go_simp; with_reducible rfl)))
          (try simp only [Act.put, List.setIfInBounds_toArray, List.set_cons_zero, List.set_cons_succ, List.getElem_toArray, List.getElem_cons_succ, List.getElem_cons_zero])
          refine wpAnyH_take (i := 18) (v := ?_) rfl (by kernel_rfl) (by kernel_rfl) (by kernel_rfl) (fun _ _ _ h => h) (Or.inl ⟨by rfl, ?_⟩) (by assumption) ?_
          rotate_left
          · (intro wS hSw; (try dsimp only at hSw); (first | (go_simp; done) | (go_simp; with_reducible rfl)))
          (try simp only [Act.put, List.setIfInBounds_toArray, List.set_cons_zero, List.set_cons_succ, List.getElem_toArray, List.getElem_cons_succ, List.getElem_cons_zero])
          refine wpAnyH_ready (rs := [14]) (by kernel_rfl) (by simp) ?_
          refine AllReadyH.cons rfl (fun K hK => ?_) AllReadyH.nil
          go_simp
          (go_at_call 46; ((with_reducible refine (whenR_calls _ _ _).mono ?_); rintro e w' ⟨rfl, ⟨nd, rfl⟩⟩))
          refine hK.out _ _ ?_ (fun hHeld => ?_)
          · (obtain ⟨_, _, _, tb⟩ := hHeld; (try dsimp only); refine HK4.out _ ?_; first | exact pw_below_drewN tb _ | exact below_alloc tb _ | exact bJoin (w1 := wr) hb4 tb | exact bJoin (w1 := wr) hb4 (pw_below_drewN (Below.refl _ _) _))
          clear hK K
          (try simp only [Act.put, List.setIfInBounds_toArray, List.set_cons_zero, List.set_cons_succ, List.getElem_toArray, List.getElem_cons_succ, List.getElem_cons_zero])
          refine wpAnyH_ready (rs := [19]) (by kernel_rfl) (by simp) ?_
          refine AllReadyH.cons rfl (fun K hK => ?_) AllReadyH.nil
          go_simp
          (go_at_call 47; ((with_reducible refine (HS1.out _).mono ?_); rintro e w4 ⟨rfl, hb4⟩))
          refine hK.out _ _ ?_ (fun hHeld => ?_)
          · (obtain ⟨_, _, _, tb⟩ := hHeld; (try dsimp only); refine HK4.out _ ?_; first | exact pw_below_drewN tb _ | exact below_alloc tb _ | exact bJoin (w1 := wr) hb4 tb | exact bJoin (w1 := wr) hb4 (pw_below_drewN (Below.refl _ _) _))
          clear hK K
          (try simp only [Act.put, List.setIfInBounds_toArray, List.set_cons_zero, List.set_cons_succ, List.getElem_toArray, List.getElem_cons_succ, List.getElem_cons_zero])
          refine wpAnyH_take (i := 20) (v := ?_) rfl (by kernel_rfl) (by kernel_rfl) (by kernel_rfl) (fun _ _ _ h => h) (Or.inl ⟨by rfl, ?_⟩) (by assumption) ?_
          rotate_left
          · (intro wS hSw; (try dsimp only at hSw); (first | (go_simp; done) | (go_simp; with_reducible rfl)))
          (try simp only [Act.put, List.setIfInBounds_toArray, List.set_cons_zero, List.set_cons_succ, List.getElem_toArray, List.getElem_cons_succ, List.getElem_cons_zero])
          refine wpAnyH_ready (rs := [21]) (by kernel_rfl) (by simp) ?_
          refine AllReadyH.cons rfl (fun K hK => ?_) AllReadyH.nil
          go_simp
          (go_at_call 46; ((with_reducible refine (whenR_calls _ _ _).mono ?_); rintro e w' ⟨rfl, ⟨nd, rfl⟩⟩))
          refine hK.out _ _ ?_ (fun hHeld => ?_)
          · (obtain ⟨_, _, _, tb⟩ := hHeld; (try dsimp only); refine HK4.out _ ?_; first | exact pw_below_drewN tb _ | exact below_alloc tb _ | exact bJoin (w1 := wr) hb4 tb | exact bJoin (w1 := wr) hb4 (pw_below_drewN (Below.refl _ _) _))
          clear hK K
          (try simp only [Act.put, List.setIfInBounds_toArray, List.set_cons_zero, List.set_cons_succ, List.getElem_toArray, List.getElem_cons_succ, List.getElem_cons_zero])
          refine wpAnyH_ready (rs := [22]) (by kernel_rfl) (by simp) ?_
          refine AllReadyH.cons rfl (fun K hK => ?_) AllReadyH.nil
          go_simp
          refine hK.out _ _ ?_ (fun hHeld => ?_)
          · (obtain ⟨_, _, _, tb⟩ := hHeld; (try dsimp only); refine HK4.out _ ?_; first | exact pw_below_drewN tb _ | exact below_alloc tb _ | exact bJoin (w1 := wr) hb4 tb | exact bJoin (w1 := wr) hb4 (pw_below_drewN (Below.refl _ _) _))
          clear hK K
          (try simp only [Act.put, List.setIfInBounds_toArray, List.set_cons_zero, List.set_cons_succ, List.getElem_toArray, List.getElem_cons_succ, List.getElem_cons_zero])
          refine wpAnyH_ready (rs := [23]) (by kernel_rfl) (by simp) ?_
          refine AllReadyH.cons rfl (fun K hK => ?_) AllReadyH.nil
          go_simp
          (go_at_call 45; ((with_reducible refine (firstR_calls _ _ _ _ (by simp)).mono ?_); rintro e w' ⟨rfl, ⟨ne, rfl⟩⟩))
          refine hK.out _ _ ?_ (fun hHeld => ?_)
          · (obtain ⟨_, _, _, tb⟩ := hHeld; (try dsimp only); refine HK4.out _ ?_; first | exact pw_below_drewN tb _ | exact below_alloc tb _ | exact bJoin (w1 := wr) hb4 tb | exact bJoin (w1 := wr) hb4 (pw_below_drewN (Below.refl _ _) _))
          clear hK K
          (try simp only [Act.put, List.setIfInBounds_toArray, List.set_cons_zero, List.set_cons_succ, List.getElem_toArray, List.getElem_cons_succ, List.getElem_cons_zero])
          refine wpAnyH_take (i := 24) (v := ?_) rfl (by kernel_rfl) (by kernel_rfl) (by kernel_rfl) (fun _ _ _ h => h) (Or.inl ⟨by rfl, ?_⟩) (by assumption) ?_
          rotate_left
          · (intro wS hSw; (try dsimp only at hSw); (first | (go_simp; done) | (go_simp; with_reducible rfl)))
          (try simp only [Act.put, List.setIfInBounds_toArray, List.set_cons_zero, List.set_cons_succ, List.getElem_toArray, List.getElem_cons_succ, List.getElem_cons_zero])
          refine wpAnyH_done (by kernel_rfl) ?_ _
          have HB5 := Aside0.mk (below_step HB.out hHeld.2.2.2)
          clear hHeld hb0
          go_wp2
          go_roundw
          case rel => exact ⟨j + 1, by first | rfl | go_num, ⟨hj⟩, HF2, HB5⟩
          case measure => simp [intOf]; omega
    · have dj : decide ((j : Int) < (L.length : Int)) = false := decide_eq_false (by omega)
      have dj' : decide (j < L.length) = false := decide_eq_false hj
      have HG := Aside0.mk (show firstBadR L = 0 by
        have := HJ.out
        rw [HF.out, List.drop_eq_nil_of_le (by omega), firstBadR])
      clear HF HJ hj
      go_wp2
      clear dj dj'
      obtain ⟨wo, rfl⟩ : ∃ wo : World, wo = wr := ⟨_, rfl⟩
      go_loopw [7, 4] (fun v7 v4 W => ∃ i : Nat, v7 = .int .i64 (i : Int) ∧ v4 = .string (joinR L i) ∧ Aside0 (i ≤ L.length) ∧ Aside0 (Below w.heap.size w W)) (fun v7 _ _ => L.length - (intOf v7).toNat)
      case atStart => exact ⟨0, rfl, rfl, ⟨Nat.zero_le _⟩, HB⟩
      case round =>
        clear HB
        obtain ⟨i, rfl, rfl, HI, HB⟩ := hrel
        by_cases hi : i < L.length
        · obtain ⟨ad, rfl, c0, c1, c2⟩ := at_T61 HC.out (i : Int) (Int.natCast_nonneg _) (by omega)
          rw [show rd_T61 L (i : Int) = tr L i from rfl] at c0 c1 c2
          have hsz := HS.out i
          replace c0 := (HB.out.cell (World.block_lt_of_cell? w _ c0)).trans c0
          replace c1 := (HB.out.cell (World.block_lt_of_cell? w _ c1)).trans c1
          replace c2 := (HB.out.cell (World.block_lt_of_cell? w _ c2)).trans c2
          simp only [Int.toNat_natCast] at c0 c1 c2
          have dj : decide ((i : Int) < (L.length : Int)) = true := decide_eq_true (by omega)
          have dj' : decide (i < L.length) = true := decide_eq_true hi
          have p0 : (0 ≤ (i : Int)) = True := eq_true (Int.natCast_nonneg _)
          have p1 : ((i : Int) < (L.length : Int)) = True := eq_true (by omega)
          have hn := joinR_le L HS.out i
          have HL80 := HL.out
          have hs1 : (joinR L i).size ≤ 20000 := by omega
          clear hn HL80
          cases i with
          | zero =>
            have ea : ad.add (0 * 3) = ad := by simp [Addr.add]
            rw [ea] at c0 c1 c2
            have HJ1 := Aside0.mk (show joinR L (0 + 1) = joinR L 0 ++ (tr L 0).f1 by
              have hg : gapR L 0 = false := by simp [gapR]
              show (if gapR L 0 = true then joinR L 0 ++ ⟨#[32]⟩ else joinR L 0) ++ (tr L 0).f1 = _
              rw [hg]
              rfl)
            generalize tr L 0 = x at *
            generalize joinR L 0 = s at *
            have g1 : s.size + x.f1.size ≤ 9223372036854775807 := by omega
            have g2 : decide (65536 < (s.size : Int) + (x.f1.size : Int)) = false := decide_eq_false (by omega)
            have g3 : decide (65536 < s.size + x.f1.size) = false := decide_eq_false (by omega)
            go_wp2_with fail
            go_quiet (fail)
            go_wp2
            go_roundw
            case rel => exact ⟨0 + 1, by first | rfl | go_num, by rw [HJ1.out], ⟨hi⟩, ⟨by repeat (first | exact HB.out | apply below_drew1 | apply pw_below_drewN)⟩⟩
            case measure => simp [intOf]; omega
          | succ k =>
            obtain ⟨ad', e', q0, q1, q2⟩ := at_T61 HC.out (k : Int) (Int.natCast_nonneg _) (by omega)
            cases e'
            rw [show rd_T61 L (k : Int) = tr L k from rfl] at q0 q1 q2
            replace q0 := (HB.out.cell (World.block_lt_of_cell? w _ q0)).trans q0
            replace q1 := (HB.out.cell (World.block_lt_of_cell? w _ q1)).trans q1
            replace q2 := (HB.out.cell (World.block_lt_of_cell? w _ q2)).trans q2
            simp only [Int.toNat_natCast] at q0 q1 q2
            have hsy := HS.out k
            have HJ1 := Aside0.mk (show (if gapR L (k + 1) = true then joinR L (k + 1) ++ ⟨#[32]⟩ else joinR L (k + 1)) ++ (tr L (k + 1)).f1 = joinR L (k + 1 + 1) from rfl)
            have hgap : gapR L (k + 1) = spacedB (tr L k).f0 (tr L k).f1 (tr L (k + 1)).f0 (tr L (k + 1)).f1 := by simp [gapR]
            have HP := Aside0.mk (fun W => spaced_calls (tr L k).f0 (tr L k).f2 (tr L (k + 1)).f0 (tr L (k + 1)).f2 (tr L k).f1 (tr L (k + 1)).f1 (by omega) W)
            rw [← hgap] at HP
            clear hgap
            generalize gapR L (k + 1) = g at *
            generalize tr L (k + 1) = x at *
            generalize tr L k = y at *
            have HJ2 : Aside0 (∀ s : ByteArray, s = joinR L (k + 1) → (if g = true then s ++ ⟨#[32]⟩ else s) ++ x.f1 = joinR L (k + 1 + 1)) := ⟨fun s h => by rw [h]; exact HJ1.out⟩
            obtain ⟨s, hs⟩ : ∃ s, s = joinR L (k + 1) := ⟨_, rfl⟩
            replace HJ2 := Aside0.mk (HJ2.out s hs)
            rw [← hs] at hs1 ⊢
            clear HJ1 hs
            have hA := below_drew1 (Below.refl wr.heap.size wr)
            have s0 := keepA hA c0
            have s1 := keepA hA c1
            have s2 := keepA hA c2
            have t0 := keepA hA q0
            have t1 := keepA hA q1
            have t2 := keepA hA q2
            have e0 : decide (0 < ((k : Int) + 1)) = true := decide_eq_true (by omega)
            have b1 : (k : Int) ≤ 80 := by have := HL.out; omega
            have b2 : (0 : Int) ≤ (k : Int) := Int.natCast_nonneg _
            have b3 : (k : Int) < (L.length : Int) := by omega
            have b5 : IntKind.i64.wrap (((k + 1 : Nat) : Int) - 1) = (k : Int) := by rw [show ((k + 1 : Nat) : Int) - 1 = k by omega]; exact IntWalk.i64_in _ (by omega)
            have b7 : IntKind.i64.wrap (k : Int) = (k : Int) := IntWalk.i64_in _ (by omega)
            have b8 : (0 ≤ (k : Int)) = True := eq_true b2
            have b9 : ((k : Int) < (L.length : Int)) = True := eq_true b3
            have b6 : ((k + 1 : Nat) : Int) - 1 = (k : Int) := by omega
            have b10 : (0 ≤ (k : Int) + 1) = True := eq_true (by omega)
            have b11 : ((k : Int) + 1 < (L.length : Int)) = True := eq_true (by omega)
            have b12 : ((k : Int) + 1).toNat = k + 1 := by omega
            have e1 : decide (0 < ((k + 1 : Nat) : Int)) = true := decide_eq_true (by omega)
            have b4 : IntKind.i64.wrap ((k : Int) + 1 - 1) = (k : Int) := by rw [show (k : Int) + 1 - 1 = k by omega]; exact IntWalk.i64_in _ (by omega)
            have HKA : Aside0 (∀ W2 : World, Below wr.heap.size wr W2 → W2.cell? (ad.add (k * 3)) = some (.int .i64 y.f0) ∧ W2.cell? ⟨(ad.add (k * 3)).block, (ad.add (k * 3)).off + 1, none⟩ = some (.string y.f1) ∧ W2.cell? ⟨(ad.add (k * 3)).block, (ad.add (k * 3)).off + 2, none⟩ = some (.int .i64 y.f2) ∧ W2.cell? (ad.add ((k + 1) * 3)) = some (.int .i64 x.f0) ∧ W2.cell? ⟨(ad.add ((k + 1) * 3)).block, (ad.add ((k + 1) * 3)).off + 1, none⟩ = some (.string x.f1) ∧ W2.cell? ⟨(ad.add ((k + 1) * 3)).block, (ad.add ((k + 1) * 3)).off + 2, none⟩ = some (.int .i64 x.f2) ∧ Below wr.heap.size wr W2) := ⟨fun W h => ⟨keepA h q0, keepA h q1, keepA h q2, keepA h c0, keepA h c1, keepA h c2, h⟩⟩
            go_wp2_with fail
            go_region_held3 (fun W2 => W2.cell? (ad.add (k * 3)) = some (.int .i64 y.f0) ∧ W2.cell? ⟨(ad.add (k * 3)).block, (ad.add (k * 3)).off + 1, none⟩ = some (.string y.f1) ∧ W2.cell? ⟨(ad.add (k * 3)).block, (ad.add (k * 3)).off + 2, none⟩ = some (.int .i64 y.f2) ∧ W2.cell? (ad.add ((k + 1) * 3)) = some (.int .i64 x.f0) ∧ W2.cell? ⟨(ad.add ((k + 1) * 3)).block, (ad.add ((k + 1) * 3)).off + 1, none⟩ = some (.string x.f1) ∧ W2.cell? ⟨(ad.add ((k + 1) * 3)).block, (ad.add ((k + 1) * 3)).off + 2, none⟩ = some (.int .i64 x.f2) ∧ Below wr.heap.size wr W2)
              (first
                | exact ⟨t0, t1, t2, s0, s1, s2, hA⟩
                | (go_split_ands
                   have hSS := hsub (w1 := wr) hbq (by assumption)
                   exact HKA.out _ hSS)
                | go_keep)
              (first | (go_at_call 48; (with_reducible refine (HP.out _).mono ?_); rintro e wq ⟨rfl, hbq⟩))
            rename_i hS
            obtain ⟨-, -, -, -, z1, -, hBq⟩ := hS
            have HB3 := Aside0.mk (below_step HB.out hBq)
            clear hBq hA s0 s1 s2 t0 t1 t2 q0 q1 q2 c0 c1 c2 HKA
            cases g with
            | true =>
              have HJ3 := Aside0.mk (show (s ++ ⟨#[32]⟩) ++ x.f1 = joinR L (k + 1 + 1) from HJ2.out)
              have g0 : s.size + 1 ≤ 9223372036854775807 := by omega
              have g1 : s.size + 1 + x.f1.size ≤ 9223372036854775807 := by omega
              have g2 : decide (65536 < (s.size : Int) + 1 + (x.f1.size : Int)) = false := decide_eq_false (by omega)
              have g3 : decide (65536 < s.size + 1 + x.f1.size) = false := decide_eq_false (by omega)
              go_wp2
              go_roundw
              case rel => exact ⟨k + 1 + 1, by first | rfl | go_num, by rw [← HJ3.out], ⟨hi⟩, ⟨by repeat (first | exact HB3.out | apply below_drew1 | apply pw_below_drewN)⟩⟩
              case measure => simp [intOf]; omega
            | false =>
              have HJ3 := Aside0.mk (show s ++ x.f1 = joinR L (k + 1 + 1) from HJ2.out)
              have g1 : s.size + x.f1.size ≤ 9223372036854775807 := by omega
              have g2 : decide (65536 < (s.size : Int) + (x.f1.size : Int)) = false := decide_eq_false (by omega)
              have g3 : decide (65536 < s.size + x.f1.size) = false := decide_eq_false (by omega)
              go_wp2
              go_roundw
              case rel => exact ⟨k + 1 + 1, by first | rfl | go_num, by rw [← HJ3.out], ⟨hi⟩, ⟨by repeat (first | exact HB3.out | apply below_drew1 | apply pw_below_drewN)⟩⟩
              case measure => simp [intOf]; omega
        · have dj : decide ((i : Int) < (L.length : Int)) = false := decide_eq_false (by omega)
          have dj' : decide (i < L.length) = false := decide_eq_false hi
          have hiL : i = L.length := by have := HI.out; omega
          subst hiL
          go_wp2
          try rw [Exit.noGoto_ret]
          go_ret2
          refine ⟨?_, HB.out⟩
          rw [joinRB, if_pos HG.out]
          rfl
end Go.Proofs.YtmnnhbikdgpedaaDoor.Lx
