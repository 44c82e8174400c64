import Derived.Test.YtnjbinpbkjdjpaaGreatDoorP13
import Derived.Test.YtnjbinpbkjdjpaaGreatDoorP7
import Derived.Test.YtnjbinpbkjdjpaaGreatDoorRows
import Derived.Deep.DeepHandedRow
import Derived.Deep.DeepWitnessRowRef
import Derived.Lib.LaidTab
import Derived.Lib.LaidU8
import Derived.Lib.LaidIn
import Derived.LaidHandle
import Derived.LaidMore
import Derived.ProofKit
import Derived.SizedLaws
import Derived.OpenShut
import Derived.Carry
/- Own text: contracts and laws on which the card rests (FoD FoE FcE FoF FcW). -/
set_option linter.unusedVariables false
set_option linter.unusedSimpArgs false
set_option maxRecDepth 1000000
set_option maxHeartbeats 16000000
namespace Go.Proofs.YtnjbinpbkjdjpaaGreatDoor.Nm
section
open Go.Proofs.YtnjbinpbkjdjpaaGreatDoor.Rf Go.Proofs.YtnjbinpbkjdjpaaGreatDoorW.PrintLast Go.Proofs.YtnjbinpbkjdjpaaGreatDoorW.PrintMore Go.Proofs.YtnjbinpbkjdjpaaGreatDoorW.PrintWords Go.RowKit Go.Shelf Ieee
/-- Apply and Go's own operation at two numbers. -/
structure AgF (a b : Nat) (op : Int) (z v : Nat) : Prop where
 ap : ∀ W, Calls Tryz.prog 13 #[.int .i64 op, .float .f32 a, .float .f32 b] W fun e w' => e = .returned (.tuple #[.float .f32 v, .int .i64 0]) ∧ Below W.heap.size W w'
 fi : ∀ W, Calls Tryz.prog 32 #[.float .f32 z] W fun e w' => e = .returned (.bool true) ∧ Below W.heap.size W w'
 ne : (FloatKind.f32.format.order v z != some .eq) = false
 eq : (FloatKind.f32.format.order v z == some .eq) = true
structure AgI (a b : Nat) (op : Int) (z v : Nat) : Prop where
 ap : ∀ W, Calls Tryz.prog 13 #[.int .i64 op, .float .f32 a, .float .f32 b] W fun e w' => e = .returned (.tuple #[.float .f32 v, .int .i64 3]) ∧ Below W.heap.size W w'
 fi : ∀ W, Calls Tryz.prog 32 #[.float .f32 z] W fun e w' => e = .returned (.bool false) ∧ Below W.heap.size W w'
def Ag (a b : Nat) (op : Int) (z : Nat) : Prop := (∃ v, AgF a b op z v) ∨ (∃ v, AgI a b op z v)
theorem ag_of {a b : Nat} {op : Int} {s : Bool} {p q z : Nat} (h : OkOp s p q z) (hp : ∀ W, Calls Tryz.prog 13 #[.int .i64 op, .float .f32 a, .float .f32 b] W fun e w' => NrO W s p q e w') : Ag a b op z := by
 unfold NrO at hp
 have hf := fun W => finL_calls h.lt W
 rcases h.or with ⟨h1, h2, h3, h4, h5⟩ | ⟨h1, h2⟩
 ·rw [h2] at hp
  rw [h1] at hf
  have ho : FloatKind.f32.format.order (nrW s p q) z = some .eq := by rw [ord32_w h3 h.lt h4 h1, cpi_eq h5]
  exact .inl ⟨_, hp, hf, by rw [ho]; rfl, by rw [ho]; rfl⟩
 ·rw [h2] at hp
  rw [h1] at hf
  exact .inr ⟨_, hp, hf⟩
/-- A finite number is its own nearest number. -/
theorem own_near {a : Nat} (ha : a < 4294967296) (hf : fin32 a = true) : toE (fmS a) = 0 ∧ (FloatKind.f32.format.order (toW (fmS a)) a != some .eq) = false := by
 have hr : a % 2147483648 < 2139095040 := of_decide_eq_true hf
 have k3 : 2 ^ single.fractionBits ≤ sg32 (a % 2147483648) ∨ pl32 (a % 2147483648) = single.leastPlace := by rw [slp]; show 8388608 ≤ _ ∨ _; unfold sg32 pl32; exact if h : a % 2147483648 < 8388608 then .inr (by rw [if_pos h]) else .inl (by rw [if_neg h]; omega)
 have e : single.nearest (neg32 a) (sg32 (a % 2147483648)) (pl32 (a % 2147483648)) = a := by
  rw [nearest_exact single (neg32 a) (m := sg32 (a % 2147483648)) (e := pl32 (a % 2147483648)) (sg32_lt _) (by rw [slp]; exact pl32_ge _)
   k3
   (by rw [slp, sinf]; show _ * 8388608 + _ ≤ _; unfold sg32 pl32; by_cases h : a % 2147483648 < 8388608 <;> simp only [h, if_true, if_false] <;> omega)]
  rw [sword, slp]
  have k : (pl32 (a % 2147483648) - -149).toNat * 8388608 + sg32 (a % 2147483648) = a % 2147483648 := by
   unfold sg32 pl32
   by_cases h : a % 2147483648 < 8388608
   ·rw [if_pos h, if_pos h]; omega
   ·rw [if_neg h, if_neg h]; omega
  show S32 (neg32 a) + ((pl32 (a % 2147483648) - -149).toNat * 8388608 + sg32 (a % 2147483648)) = a
  rw [k]
  exact (split32 ha).symm
 obtain ⟨f1, f2, f3⟩ := fv_nat hf
 have q0 := (fv_sz hf).2.2
 have hok : OkOp (fvS a) (fvP a) (fvQ a) (single.nearest (neg32 a) (sg32 (a % 2147483648)) (pl32 (a % 2147483648))) :=
  op_core q0 (units 149 (pl32_ge _) f1) (fun h => (f2 h).symm)
 rw [e] at hok
 rcases hok.or with ⟨h1, h2, h3, h4, h5⟩ | ⟨h1, h2⟩
 ·obtain ⟨P, Q, fx, hx⟩ := fm_frc hf
  cases hn : near (fvS a) (fvP a) (fvQ a) with
  | none => unfold nrE at h2; rw [hn] at h2; exact absurd h2 (by decide)
  | some z =>
    obtain ⟨t1, t2⟩ := to_same fx q0 hx hn
    have hw : nrW (fvS a) (fvP a) (fvQ a) = z := by unfold nrW; rw [hn]; rfl
    rw [hw] at h3 h4 h5
    refine ⟨t1, ?_⟩
    rw [t2, ord32_w h3 ha h4 hf, cpi_eq h5]
    rfl
 ·rw [hf] at h1; cases h1
/-- The map of Go's own results. -/
def rE (k : Int) (z n : Nat) : MapEntry := { key := .int .i64 k, val := .float .f32 z, born := n }
def rM (z1 z2 z3 : Nat) : Array MapEntry := #[rE 16 z1 0, rE 17 z2 1, rE 18 z3 2]
theorem upd50g {X : World} {b : Nat} {es : Array MapEntry} {ck : Nat} {k : Int} (v : Value) (hb : X.heap[b]? = some (.map es ck)) (h : Instr.findNow (.int .i64) (.int .i64 k) es.toList 0 = some none) :
 (Instr.mapUpdate 50 (.map (some b)) (.int .i64 k) v).run Tryz.prog X = .ok () (wMap X b (es.push { key := .int .i64 k, val := v, born := ck }) (ck + 1)) := by
 have h2 := MapKept.run_findKey (P := Tryz.prog) (w := X) (kt := 3) Tryz.underlying3 h
 simp [Instr.mapUpdate, run_underlying Tryz.underlying50, MapKept.run_getObj_map hb, Result.andThen, MapKept.run_checkKey (P := Tryz.prog) (k := .int .i64 k) Tryz.underlying3 (by simp [MapKept.IsKey]), h2, setObj, Sem.run, hb, wMap]
theorem upd50 (W : World) {es : Array MapEntry} {ck : Nat} {k : Int} (v : Value) (h : Instr.findNow (.int .i64) (.int .i64 k) es.toList 0 = some none) :
 (Instr.mapUpdate 50 (.map (some W.heap.size)) (.int .i64 k) v).run Tryz.prog (W.alloc (.map es ck)) = .ok () (W.alloc (.map (es.push { key := .int .i64 k, val := v, born := ck }) (ck + 1))) := by
 rw [upd50g v (Go.heap_alloc_new W _) h, wMap_alloc]
theorem ru1 (z : Nat) (W : World) : (Instr.mapUpdate 50 (.map (some W.heap.size)) (.int .i64 16) (.float .f32 z)).run Tryz.prog (W.alloc (.map #[] 0)) = .ok () (W.alloc (.map #[rE 16 z 0] 1)) := upd50 W _ rfl
theorem ru2 (z1 z : Nat) (W : World) : (Instr.mapUpdate 50 (.map (some W.heap.size)) (.int .i64 17) (.float .f32 z)).run Tryz.prog (W.alloc (.map #[rE 16 z1 0] 1)) = .ok () (W.alloc (.map #[rE 16 z1 0, rE 17 z 1] 2)) := upd50 W _ rfl
theorem ru3 (z1 z2 z : Nat) (W : World) : (Instr.mapUpdate 50 (.map (some W.heap.size)) (.int .i64 18) (.float .f32 z)).run Tryz.prog (W.alloc (.map #[rE 16 z1 0, rE 17 z2 1] 2)) = .ok () (W.alloc (.map (rM z1 z2 z) 3)) := upd50 W _ rfl
theorem ru4 (es : Array MapEntry) (k : Nat) (W : World) : (Instr.range 50 (.map (some W.heap.size))).run Tryz.prog (W.alloc (.map es k)) = .ok (.pointer (some ⟨W.heap.size + 1, 0, none⟩)) ((W.alloc (.map es k)).alloc (.mapIter (some W.heap.size) k #[] k)) := by
 have := run_range_map (P := Tryz.prog) (W.alloc (.map es k)) 50 3 24 W.heap.size es k Tryz.underlying50 (Go.heap_alloc_new W _)
 rw [show (W.alloc (.map es k)).heap.size = W.heap.size + 1 by simp] at this
 exact this
theorem rg_start (z1 z2 z3 : Nat) (W : World) : RgM ((W.alloc (.map (rM z1 z2 z3) 3)).alloc (.mapIter (some W.heap.size) 3 #[] 3)) W.heap.size (W.heap.size + 1) (rM z1 z2 z3) 3 3 := by
 have h1 : (W.alloc (.map (rM z1 z2 z3) 3)).heap[W.heap.size]? = some (.map (rM z1 z2 z3) 3) := Go.heap_alloc_new W _
 have hs : (W.alloc (.map (rM z1 z2 z3) 3)).heap.size = W.heap.size + 1 := by simp
 have h2 := Go.heap_alloc_new (W.alloc (.map (rM z1 z2 z3) 3)) (.mapIter (some W.heap.size) 3 #[] 3)
 rw [hs] at h2
 refine ⟨?_, ⟨#[], 3, h2, Nat.le_refl _, ?_⟩, ?_, ?_⟩
 ·rw [Go.heap_alloc_old _ _ (by rw [hs]; omega)]; exact h1
 ·simp [leftOf, rM]
 ·intro x hx
  simp [rM, rE] at hx
  rcases hx with rfl | rfl | rfl <;> simp
 ·simp [rM, rE]
section
variable (w : World) {ops : Array Oper} {rest : List Oper} {o : Oper} {a : Act} {Q : Exit → Act → World → Prop}
theorem wpList_next_rg {es : Array MapEntry} {b r k cnt : Nat} (hg : o.guard = none) (it : Operand) (hop : o.op = Op.next it false) (hit : a.eval it = .pointer (some ⟨r, 0, none⟩)) (h : RgM w b r es k cnt)
 (hDone : wpList Tryz.prog ops Q rest (a.put o.dst (.tuple #[.bool false])) w)
 (hMore : ∀ e ∈ es.toList, ∀ X c, RgM X b r es k c → c < cnt → (∀ B w0, B ≤ r → Below B w0 w → Below B w0 X) → (Instr.entry (.pointer (some ⟨r, 0, none⟩))).run Tryz.prog X = .ok (.tuple #[e.key, e.val]) X → wpList Tryz.prog ops Q rest (a.put o.dst (.tuple #[.bool true, e.key, e.val])) X) :
 wpList Tryz.prog ops Q (o :: rest) a w := by
 refine wpList_plain hg fun K' hK' => ?_
 unfold Oper.wp
 rcases h.next o.type with hrun | ⟨e, he, X, c, hrun, hr, hlt, hbl, hen⟩
 ·simp [execOp, hop, hit, hrun, Result.andThen]
  exact hK' _ _ hDone
 ·simp [execOp, hop, hit, hrun, Result.andThen]
  exact hK' _ _ (hMore e he X c hr hlt hbl hen)
end
/-- Where a number is not finite. -/
theorem ops_bad {a b v : Nat} {fa fb : Bool} (h : (fa && fb) = false) (w : World) (hE : EN w)
 (hfa : ∀ W, Calls Tryz.prog 32 #[.float .f32 a] W fun e w' => e = .returned (.bool fa) ∧ Below W.heap.size W w') (hfb : ∀ W, Calls Tryz.prog 32 #[.float .f32 b] W fun e w' => e = .returned (.bool fb) ∧ Below W.heap.size W w')
 (hp : ∀ W, Calls Tryz.prog 13 #[.int .i64 16, .float .f32 a, .float .f32 b] W fun e w' => e = .returned (.tuple #[.float .f32 v, .int .i64 1]) ∧ Below W.heap.size W w') :
 Calls Tryz.prog 6 #[.int .u32 (a : Int), .int .u32 (b : Int)] w fun e w' => e = .returned (.bool true) ∧ Below w.heap.size w w' := by
 have HA := Aside0.mk (awakeR_calls w hE)
 have HFA := Aside0.mk hfa
 have HFB := Aside0.mk hfb
 have HP := Aside0.mk hp
 have r1 := run_from32 (a : Int)
 have r2 := run_from32 (b : Int)
 simp only [Int.toNat_natCast] at r1 r2
 clear hp hfa hfb hE
 cases fa <;> cases fb
 case true.true => cases h
 all_goals
  clear h
  go_enter Tryz.func6, Tryz.ntmps6
  go_wp2_with (first | (go_at_call 22; (with_reducible refine HA.out.mono ?_); rintro e W0 ⟨rfl, hbx⟩; have HC := Aside0.mk hbx; clear hbx) | (go_at_call 32; (with_reducible refine (HFA.out _).mono ?_); rintro e W1 ⟨rfl, hbx⟩; have HC2 := Aside0.mk (HC.out.trans (hbx.mono HC.out.size)); clear HC; have HC := HC2; clear HC2; clear hbx) | (go_at_call 32; (with_reducible refine (HFB.out _).mono ?_); rintro e W2 ⟨rfl, hbx⟩; have HC2 := Aside0.mk (HC.out.trans (hbx.mono HC.out.size)); clear HC; have HC := HC2; clear HC2; clear hbx) | (go_at_call 13; (with_reducible refine (HP.out _).mono ?_); rintro e W3 ⟨rfl, hbx⟩; have HC2 := Aside0.mk (HC.out.trans (hbx.mono HC.out.size)); clear HC; have HC := HC2; clear HC2; clear hbx))
  go_ret
  exact ⟨rfl, HC.out⟩
theorem ops_good {a b x1 z1 z2 z3 : Nat} {s1 : ByteArray} (w : World) (hE : EN w)
 (hfa : ∀ W, Calls Tryz.prog 32 #[.float .f32 a] W fun e w' => e = .returned (.bool true) ∧ Below W.heap.size W w') (hfb : ∀ W, Calls Tryz.prog 32 #[.float .f32 b] W fun e w' => e = .returned (.bool true) ∧ Below W.heap.size W w')
 (hfr : ∀ W, Calls Tryz.prog 18 #[.float .f32 a] W fun e w' => e = .returned (.tuple #[.string s1, .int .i64 0]) ∧ Below W.heap.size W w')
 (ht : ∀ W, Below w.heap.size w W → Calls Tryz.prog 23 #[.string s1] W fun e w' => e = .returned (.tuple #[.float .f32 x1, .int .i64 0]) ∧ Below W.heap.size W w') (ho : (FloatKind.f32.format.order x1 a != some .eq) = false)
 (ra : ∀ (W : World) t, (binOp .add t (.float .f32 a) (.float .f32 b)).run Tryz.prog W = .ok (.float .f32 z1) W) (rs : ∀ (W : World) t, (binOp .sub t (.float .f32 a) (.float .f32 b)).run Tryz.prog W = .ok (.float .f32 z2) W) (rm : ∀ (W : World) t, (binOp .mul t (.float .f32 a) (.float .f32 b)).run Tryz.prog W = .ok (.float .f32 z3) W)
 (hg1 : Ag a b 16 z1) (hg2 : Ag a b 17 z2) (hg3 : Ag a b 18 z3)
 (hl : ((FloatKind.f32.format.order b 0 == some .eq) = true ∧ ∀ W, Calls Tryz.prog 13 #[.int .i64 19, .float .f32 a, .float .f32 b] W fun e w' => e = .returned (.tuple #[.float .f32 0, .int .i64 30]) ∧ Below W.heap.size W w') ∨
   ((FloatKind.f32.format.order b 0 == some .eq) = false ∧ ∃ z4, (∀ (W : World) t, (binOp .quo t (.float .f32 a) (.float .f32 b)).run Tryz.prog W = .ok (.float .f32 z4) W) ∧ Ag a b 19 z4)) :
 Calls Tryz.prog 6 #[.int .u32 (a : Int), .int .u32 (b : Int)] w fun e w' => e = .returned (.bool true) ∧ Below w.heap.size w w' := by
 have HA := Aside0.mk (awakeR_calls w hE)
 have HFA := Aside0.mk hfa
 have HFB := Aside0.mk hfb
 have HFR := Aside0.mk hfr
 have HT := Aside0.mk ht
 have HL := Aside0.mk hl
 have HG : Aside0 (∀ e ∈ (rM z1 z2 z3).toList, ∃ op z, e.key = .int .i64 op ∧ e.val = .float .f32 z ∧ Ag a b op z) := ⟨fun e he => by
  simp [rM] at he
  rcases he with rfl | rfl | rfl
  ·exact ⟨16, z1, rfl, rfl, hg1⟩
  ·exact ⟨17, z2, rfl, rfl, hg2⟩
  ·exact ⟨18, z3, rfl, rfl, hg3⟩⟩
 have r1 := run_from32 (a : Int)
 have r2 := run_from32 (b : Int)
 simp only [Int.toNat_natCast] at r1 r2
 have hmm := @run_makeMap Tryz.prog
 have m1 := ru1 z1
 have m2 := ru2 z1 z2
 have m3 := ru3 z1 z2 z3
 have m4 := ru4 (rM z1 z2 z3) 3
 clear hfa hfb hfr ht hl hg1 hg2 hg3 hE
 go_enter Tryz.func6, Tryz.ntmps6
 go_wp2_with (first | (go_at_call 22; (with_reducible refine HA.out.mono ?_); rintro e W0 ⟨rfl, hbx⟩; have HC := Aside0.mk hbx; clear hbx) | (go_at_call 32; (with_reducible refine (HFA.out _).mono ?_); rintro e W1 ⟨rfl, hbx⟩; have HC2 := Aside0.mk (HC.out.trans (hbx.mono HC.out.size)); clear HC; have HC := HC2; clear HC2; clear hbx) | (go_at_call 32; (with_reducible refine (HFB.out _).mono ?_); rintro e W2 ⟨rfl, hbx⟩; have HC2 := Aside0.mk (HC.out.trans (hbx.mono HC.out.size)); clear HC; have HC := HC2; clear HC2; clear hbx) | (go_at_call 18; (with_reducible refine (HFR.out _).mono ?_); rintro e W4 ⟨rfl, hbx⟩; have HC2 := Aside0.mk (HC.out.trans (hbx.mono HC.out.size)); clear HC; have HC := HC2; clear HC2; clear hbx) | (go_at_call 23; (with_reducible refine (HT.out _ HC.out).mono ?_); rintro e W5 ⟨rfl, hbx⟩; have HC2 := Aside0.mk (HC.out.trans (hbx.mono HC.out.size)); clear HC; have HC := HC2; clear HC2; clear hbx))
 have HR0 := rg_start z1 z2 z3 W5
 have HC1 := below_alloc (below_alloc HC.out (.map (rM z1 z2 z3) 3)) (.mapIter (some W5.heap.size) 3 #[] 3)
 have HS := Aside0.mk HC.out.size
 go_loopw [13] (fun v13 W => ∃ cnt, RgM W W5.heap.size (W5.heap.size + 1) (rM z1 z2 z3) 3 cnt ∧ Below w.heap.size w W) (fun v13 W => W.rangeLeft W5.heap.size (W5.heap.size + 1))
 case atStart => exact ⟨_, HR0, HC1⟩
 case round =>
  clear HC HR0 HC1
  obtain ⟨cnt, hrel, hbl⟩ := hrel
  have HR := Aside0.mk hrel
  have HC := Aside0.mk hbl
  clear hbl
  go_wp2_with (first | (at_next; refine wpList_next_rg _ rfl _ rfl rfl HR.out ?_ (fun e he X c hx hlt hbx hen => ?_); all_goals first | (obtain ⟨op, z, hk, hv, hag⟩ := HG.out e he; rw [hk, hv] at hen ⊢; clear hk hv he; have HC2 : Aside0 (Below w.heap.size w X) := ⟨hbx _ _ (Nat.le_succ_of_le HS.out) HC.out⟩; clear HC hbx; have HC := HC2; clear HC2; have HR2 := Aside0.mk hx; clear HR hx; have HR := HR2; clear HR2; rcases hag with ⟨v, hag⟩ | ⟨v, hag⟩; all_goals first | (have HAP := Aside0.mk hap; clear hap) | (have g1 := hag.ne; have g2 := hag.eq; have HAP := Aside0.mk hag.ap; have HFZ := Aside0.mk hag.fi; clear hag) | (have HAP := Aside0.mk hag.ap; have HFZ := Aside0.mk hag.fi; clear hag)) | (rcases HL.out with ⟨hz, hap⟩ | ⟨hz, z4, hq, ⟨v, hag⟩ | ⟨v, hag⟩⟩; all_goals first | (have HAP := Aside0.mk hap; clear hap) | (have g1 := hag.ne; have g2 := hag.eq; have HAP := Aside0.mk hag.ap; have HFZ := Aside0.mk hag.fi; clear hag) | (have HAP := Aside0.mk hag.ap; have HFZ := Aside0.mk hag.fi; clear hag))) | (go_at_call 32; (with_reducible refine (HFZ.out _).mono ?_); rintro e W6 ⟨rfl, hbx⟩; have HC2 := Aside0.mk (HC.out.trans (hbx.mono HC.out.size)); clear HC; have HC := HC2; clear HC2; have HR2 := Aside0.mk (HR.out.below hbx); clear HR; have HR := HR2; clear HR2 hbx) | (go_at_call 13; (with_reducible refine (HAP.out _).mono ?_); rintro e W7 ⟨rfl, hbx⟩; have HC2 := Aside0.mk (HC.out.trans (hbx.mono HC.out.size)); clear HC; have HC := HC2; clear HC2; have HR2 := Aside0.mk (HR.out.below hbx); clear HR; have HR := HR2; clear HR2 hbx))
  all_goals first | (go_ret; exact ⟨rfl, HC.out⟩) | skip
  all_goals
   go_roundw
   case rel => exact ⟨_, HR.out, HC.out⟩
   case measure => rw [HR.out.left, hrel.left]; omega
theorem fvP_pos {b : Nat} (hf : fin32 b = true) (hz : b % 2147483648 ≠ 0) : 0 < fvP b := by
 have h := fv_dy hf
 have h1 : 0 < sg32 (b % 2147483648) := by unfold sg32; split <;> omega
 have h2 : 0 < vp (sg32 (b % 2147483648)) (pl32 (b % 2147483648)) := Nat.mul_pos h1 (pp _)
 rcases Nat.eq_zero_or_pos (fvP b) with h3 | h3
 ·rw [h3, Nat.zero_mul] at h
  have := Nat.mul_pos h2 (fv_sz hf).2.2
  omega
 ·exact h3
theorem finL_bad {b : Nat} (h : b < 4294967296) (hf : ¬ fin32 b = true) (W : World) : Calls Tryz.prog 32 #[.float .f32 b] W fun e w' => e = .returned (.bool false) ∧ Below W.heap.size W w' := by
 have := finL_calls h W
 rwa [show fin32 b = false by simpa using hf] at this
theorem finL_good {b : Nat} (h : b < 4294967296) (hf : fin32 b = true) (W : World) : Calls Tryz.prog 32 #[.float .f32 b] W fun e w' => e = .returned (.bool true) ∧ Below W.heap.size W w' := by
 have := finL_calls h W
 rwa [hf] at this
theorem opsR_calls (a b : Nat) (ha : a < 4294967296) (hb : b < 4294967296) (w : World) (hE : EN w) :
 Calls Tryz.prog 6 #[.int .u32 (a : Int), .int .u32 (b : Int)] w fun e w' => e = .returned (.bool true) ∧ Below w.heap.size w w' := by
 by_cases hf : fin32 a = true
 ·by_cases hg : fin32 b = true
  ·obtain ⟨z1, e1, k1⟩ := go_add ha hf hb hg
   obtain ⟨z2, e2, k2⟩ := go_sub ha hf hb hg
   obtain ⟨z3, e3, k3⟩ := go_mul ha hf hb hg
   obtain ⟨t0, t1⟩ := own_near ha hf
   obtain ⟨_, _, fa, _⟩ := fm_frc hf
   have sa := fa.size2
   refine ops_good (s1 := fmS a) w hE (finL_good ha hf) (finL_good hb hg) (fun W => ?_) (fun W hw => ?_) t1
    (fun W t => run_float_arith (P := Tryz.prog) W .add t .f32 _ _ _ e1) (fun W t => run_float_arith (P := Tryz.prog) W .sub t .f32 _ _ _ e2) (fun W t => run_float_arith (P := Tryz.prog) W .mul t .f32 _ _ _ e3)
    (ag_of k1 (fun W => apply_add ha hf hb hg W)) (ag_of k2 (fun W => apply_sub ha hf hb hg W)) (ag_of k3 (fun W => apply_mul ha hf hb hg W)) ?_
   ·have := from32_any ha W
    unfold fmE at this
    rwa [if_pos hf] at this
   ·have := to32_calls (fmS a) (by omega) W (hE.below hw)
    rwa [t0] at this
   ·have hz := ordz32 hb hg
    by_cases h0 : b % 2147483648 = 0
    ·rw [decide_eq_true h0] at hz
     exact .inl ⟨hz, fun W => apply_div ha hf hb hg h0 W⟩
    ·rw [decide_eq_false h0] at hz
     obtain ⟨z4, e4, k4⟩ := go_quo ha hf hb hg h0
     exact .inr ⟨hz, z4, fun W t => run_float_arith (P := Tryz.prog) W .quo t .f32 _ _ _ e4, ag_of k4 (fun W => apply_quo ha hf hb hg h0 (fvP_pos hg h0) W)⟩
  ·exact ops_bad (fa := true) (fb := false) rfl w hE (finL_good ha hf) (finL_bad hb hg) (fun W => apply_formB (op := 16) (i := 0) rfl ha hf hb hg W)
 ·by_cases hg : fin32 b = true
  ·exact ops_bad (fa := false) (fb := true) rfl w hE (finL_bad ha hf) (finL_good hb hg) (fun W => apply_formA (op := 16) (i := 0) rfl b ha hf W)
  ·exact ops_bad (fa := false) (fb := false) rfl w hE (finL_bad ha hf) (finL_bad hb hg) (fun W => apply_formA (op := 16) (i := 0) rfl b ha hf W)
end
section
open Go.ChangeAt Go.ChangeShapes Go.Proofs.YtnjbinpbkjdjpaaGreatDoorW.PrintLast Go.Proofs.YtnjbinpbkjdjpaaGreatDoorW.PrintMore Go.Proofs.YtnjbinpbkjdjpaaGreatDoorW.PrintWords Go.RowKit Go.WideShapes
/-- The variables that the rows list. -/
def laidL : List (String × DataW Unit) := [("math/bits.deBruijn32tab", Rows.laid_math_bits_deBruijn32tab), ("math/bits.deBruijn64tab", Rows.laid_math_bits_deBruijn64tab), ("internal/strconv.uint64pow10", Rows.laid_internal_strconv_uint64pow10)]
theorem mln_of {W : World} (h : W.ShapedOpen Tryz.prog) : ∃ m, W.cell? ⟨1, 0, none⟩ = some (.int .i64 m) := by
 obtain ⟨cs, hh, hs, hr⟩ := h.1 1 #[.int .i64 0] 3 (by decide +kernel) (by kernel_rfl)
 obtain ⟨ts, hts, _, hall⟩ := hr (by kernel_rfl)
 have hts2 : Tryz.prog.cellTypes Tryz.prog.depth 3 = some [3] := by kernel_rfl
 rw [hts2] at hts
 cases hts
 have h1 : 0 < cs.size := by rw [hs]; decide
 obtain ⟨u, hu', hok⟩ := hall 0 cs[0] (Array.getElem?_eq_getElem h1)
 have : u = 3 := (Option.some.inj (show some 3 = some u from hu')).symm
 subst this
 have hcell : W.cell? ⟨1, 0, none⟩ = some cs[0] := by
  unfold World.cell?
  rw [hh]
  exact Array.getElem?_eq_getElem h1
 rw [hcell]
 unfold Cell.ok at hok
 rw [Tryz.underlying3] at hok
 cases hv : cs[0] <;> rw [hv] at hok <;> first | (simp at hok; done) | (rename_i k a; simp at hok; exact ⟨a, by rw [hok.1]⟩) | skip
theorem tens_of {P : Program} {W : World} {n : String} {g t e m : Nat} {k : IntKind} {zs : List Int} (hn : P.globalNamed n = some g) (ht : (P.globals[g]?).map (·.type) = some t) (hu : P.underlying t = some (.array m e)) (he : P.underlying e = some (.int k)) (hce : P.cellsOf e = 1) (hct : P.cellsOf t = m)
 (h : Lib.VarReads P W n (Lib.tabData k zs)) : Lib.TabIs P W n k zs := by
 obtain ⟨g', t', cs, fuel, p, h1, h2, h3, h4⟩ := h
 obtain rfl := Option.some.inj (hn.symm.trans h1)
 obtain rfl := Option.some.inj (ht.symm.trans h2)
 have := Lib.cells_of_tab hu he hce hct h4
 unfold Lib.TabIs
 rw [h3, ← this]
theorem pow10D : (Rows.laid_internal_strconv_uint64pow10 : DataW Unit) = Lib.tabData .u64 Lib.pow10Tab := by kernel_rfl
theorem env_of {W : World} (hd : laidMet Tryz.prog laidL W) (hsh : W.ShapedOpen Tryz.prog) : EN W := by
 have r1 := Lib.laidMet.reads hd (n := "internal/strconv.uint64pow10") (d := Rows.laid_internal_strconv_uint64pow10) (by simp [laidL])
 rw [pow10D] at r1
 exact ⟨tens_of (P := Tryz.prog) (g := 2) (by kernel_rfl) (by kernel_rfl) Tryz.underlying292 Tryz.underlying53 (by kernel_rfl) (by kernel_rfl) r1, mln_of hsh⟩
theorem args_below {H : Type} {enc : TypeId × Value → H} {P : Program} (hl : laidOutB P = true) {W W' : World} (hb : Below W.heap.size W W') :
 ∀ {ts : List TypeId} {vs : List Value} {ds : List (DataW H)} {ps : List MemPlace}, (ts.all fun t => P.readableRec t && decide (t < P.types.size)) = true → (∀ x ∈ ps, x.block < W.heap.size) →
  DataW.TrodAll enc P W 0 (fun _ => true) true ts vs ds ps → DataW.TrodAll enc P W' 0 (fun b => decide (b < W.heap.size)) true ts vs ds ps
 | [], [], [], _, _, _, h => h
 | t :: ts, v :: vs, d :: ds, _, ht, hlt, ⟨p, q, h1, h2, e⟩ => by
   simp only [List.all_cons, Bool.and_eq_true, decide_eq_true_eq] at ht
   exact ⟨p, q, Below.trod hl ht.1.1 ht.1.2 h1 hb (fun x hx => hlt x (by rw [e]; exact List.mem_append_left _ hx)), args_below hl hb (by rw [List.all_eq_true]; intro x hx; simpa using List.all_eq_true.mp ht.2 x hx) (fun x hx => hlt x (by rw [e]; exact List.mem_append_right _ hx)) h2, e⟩
theorem post_law {H : Type} {enc : TypeId × Value → H} {P : Program} {f : Func} {s : ChangeSpec} {W W' : World} {args : Array Value} {ds gs : List (DataW H)} {before : List MemPlace} (hl : laidOutB P = true) (h4 : P.underlying 4 = some .bool)
 (hW : DataW.Whole enc P f.params.toList s.vars false W args.toList ds gs before) (ht : (f.params.toList.all fun t => P.readableRec t && decide (t < P.types.size)) = true)
 (hv : s.vars = []) (hs : s.fn H ds = { results := [.lit (.bool true)], args := ds }) (hr : f.resultTypes = #[4]) (hb : Below W.heap.size W W') :
 s.post enc P f false true false false W args (.bool true) W' := by
 have hlt : ∀ p ∈ before, p.block < W.heap.size := fun p hp => hW.lt p hp
 have hW' := hW
 obtain ⟨p, q, hA, hV, rfl, _, _⟩ := hW
 rw [hv] at hV
 obtain ⟨rfl, rfl⟩ := trodVars_none hV
 rw [List.append_nil] at hlt hW'
 refine ⟨ds, [], p, [], p, [], hW', ?_, ?_, ?_, World.keptBut_mono (fun x hx => ⟨hx, .inr (.inl hx)⟩) (hb.frame (· ∈ p)), fun h => by cases h⟩
 ·rw [List.append_nil, hs, hr]
  exact trodAll_cons_mk (shut_bool h4 _) trodAll_mk0
 ·rw [List.append_nil, hs]
  exact args_below hl hb ht hlt hA
 ·rw [List.append_nil, hs, hv]
  trivial
theorem laidOut : laidOutB Tryz.prog = true := by kernel_rfl
theorem ownK : ownKnob Tryz.prog.godebug = none := by kernel_rfl
end
end Go.Proofs.YtnjbinpbkjdjpaaGreatDoor.Nm
