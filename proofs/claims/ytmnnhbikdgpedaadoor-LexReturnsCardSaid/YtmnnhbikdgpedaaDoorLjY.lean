/- An argument that is a slice of tokens of the reference, opened to cells. -/
import Derived.Test.YtmnnhbikdgpedaaDoorLjM
import Derived.Test.YtmnnhbikdgpedaaDoorLxW
import Derived.Test.YtmnnhbikdgpedaaDoorCards
import Derived.Test.YtmnnhbikdgpedaaDoorTie
import Derived.OpenShut
import Derived.Deep.Slices
import Derived.Deep.Fields
import Derived.ChangeSame
namespace Go.Proofs.YtmnnhbikdgpedaaDoor.Lx
open Go.ChangeShapes Go.WideShapes Go.ChangeAt Go.RowKit Go.Deep
open Go.Proofs.YtmnnhbikdgpedaaDoorW.PrintWords Go.Proofs.YtmnnhbikdgpedaaDoorW.PrintLast Go.Proofs.YtmnnhbikdgpedaaDoorW.PrintMore
open Go.Proofs.YtmnnhbikdgpedaaDoor.PLexTokens
set_option linter.unusedVariables false
section
variable {H : Type} {enc : TypeId × Value → H} {P : Program} {w : World} {base : Nat} {spare : Nat → Bool} {held : Bool}
theorem open_slice_fields {t e : TypeId} {fs : Array Field} {fuel : Nat} {cs : List Value} {x : DataW H × List MemPlace} (ht : P.underlying t = some (.slice e)) (he : P.underlying e = some (.struct fs))
    (hone : oneCellFields P fs = true) (hC : P.cellsOf e = fs.size) (h : DataW.trod enc P w base spare held fuel t cs = some x) :
    (cs = [.slice none 0 0] ∧ x = (.nil, [])) ∨
    ∃ (a : Addr) (len cap m : Nat) (D : Nat → DataW H) (Pl : Nat → List MemPlace), cs = [.slice (some a) len cap] ∧ base ≤ a.block ∧ len ≤ cap ∧ cap ≤ maxLen ∧ m = (if spare a.block then cap else len) ∧
      x = (.slice ((List.range len).map D) ((List.range (m - len)).map fun j => D (len + j)), MemPlace.row a (m * fs.size) ++ (List.range m).flatMap Pl) ∧
      ∀ i, i < m → ∃ (ys : List (DataW H × List MemPlace)) (n : Nat), D i = .agg (ys.map (·.1)) ∧ Pl i = ys.flatMap (·.2) ∧ ys.length = fs.size ∧
        ∀ (j : Nat) (f : Field), fs[j]? = some f → ∃ (v : Value) (y : DataW H × List MemPlace), w.cell? (a.add (i * fs.size + j)) = some v ∧ ys[j]? = some y ∧ DataW.trod enc P w base spare held n f.type [v] = some y := by
  rcases open_slice ht h with h0 | ⟨a, len, cap, m, n, D, Pl, hcs, hb, hl, hm, hmm, hx, hi⟩
  · exact .inl h0
  · refine .inr ⟨a, len, cap, m, D, Pl, hcs, hb, hl, hm, hmm, by rw [hC] at hx; exact hx, fun i him => ?_⟩
    obtain ⟨cs', hc, ht'⟩ := hi i him
    rw [hC] at hc
    obtain ⟨ys, n', hn', hy, hlen, hyl, hf⟩ := DataW.trod_struct he ht'
    obtain ⟨_, hcl, hat⟩ := World.cells?_some hc
    simp only [Prod.mk.injEq] at hy
    refine ⟨ys, n', hy.1, hy.2, hyl, fun j f hj => ?_⟩
    obtain ⟨ho, hk⟩ := hone_of hone j f hj
    have hjl : j < fs.size := (Array.getElem?_eq_some_iff.1 hj).1
    have hcell := hat j hjl
    have hv : cs'[j]? = some (cs'[j]'(by omega)) := List.getElem?_eq_getElem (by omega)
    have h1 := hf j f hj
    rw [ho, hk] at h1
    have hone' : (cs'.drop j).take 1 = [cs'[j]'(by omega)] := by
      rw [List.drop_eq_getElem_cons (by omega)]
      rfl
    rw [hone'] at h1
    have hys : ys[j]? = some (ys[j]'(by omega)) := List.getElem?_eq_getElem (by omega)
    refine ⟨_, _, ?_, hys, h1.trans hys⟩
    rw [← Go.Deep.add_add, hcell, hv]
end

theorem list_of {α : Type} {Q : Nat → α → Prop} : ∀ (n : Nat), (∀ i, i < n → ∃ x, Q i x) → ∃ L : List α, L.length = n ∧ ∀ (i : Nat) (x : α), L[i]? = some x → Q i x
  | 0, _ => ⟨[], rfl, fun i x h => by simp at h⟩
  | n + 1, h => by
    obtain ⟨L, hl, hL⟩ := list_of n (fun i hi => h i (by omega))
    obtain ⟨y, hy⟩ := h n (by omega)
    refine ⟨L ++ [y], by simp [hl], fun i x hx => ?_⟩
    by_cases hi : i < n
    · rw [List.getElem?_append_left (by omega)] at hx
      exact hL i x hx
    · rw [List.getElem?_append_right (by omega)] at hx
      have : i - L.length = 0 := by
        have := (List.getElem?_eq_some_iff.1 hx).1
        simpa using this
      rw [this] at hx
      obtain rfl : y = x := by simpa using hx
      obtain rfl : i = n := by omega
      exact hy

set_option maxRecDepth 100000 in
theorem one61 : ∃ fs, Tryd.prog.underlying 61 = some (.struct fs) ∧ oneCellFields Tryd.prog fs = true ∧ Tryd.prog.cellsOf 61 = fs.size ∧ fs.size = 3 ∧ (fs[0]?).map (·.type) = some 3 ∧ (fs[1]?).map (·.type) = some 9 ∧ (fs[2]?).map (·.type) = some 3 :=
  ⟨_, Tryd.underlying61, by kernel_rfl, by kernel_rfl, rfl, rfl, rfl, rfl⟩

set_option maxRecDepth 100000 in
theorem open_toks {H : Type} {enc : TypeId × Value → H} {W : World} {r : Reach} {b0 base : Nat} {spare : Nat → Bool} {held : Bool} {v : Value} {d : DataW H} {p : List MemPlace}
    (hv : Value.okWide Tryd.prog W r b0 23 v) (h : DataW.Trod enc Tryd.prog W base spare held 23 v d p) : ∃ (A : Option Addr) (c : Nat) (L : List S61), v = .slice A L.length c ∧ L.length ≤ c ∧ Kd.C k61 W A L.length L := by
  obtain ⟨a0, len, cap, rfl⟩ := okWide_slice Tryd.underlying23 hv
  obtain ⟨fuel, hf⟩ := h
  obtain ⟨fs, hu, hone, hcs, hfs, hf0, hf1, hf2⟩ := one61
  rcases open_slice_fields Tryd.underlying23 hu hone hcs hf with ⟨h1, _⟩ | ⟨a, len', cap', m, D, Pl, h1, hb, hl, hm, hmm, hx, hi⟩
  · have h2 : Value.slice a0 len cap = .slice none 0 0 := by simpa [Value.cells] using h1
    injection h2 with h3 h4 h5
    subst h3 h4 h5
    exact ⟨none, 0, [], rfl, Nat.le_refl _, rfl, by decide, fun h => by simp at h⟩
  · have h2 : Value.slice a0 len cap = .slice (some a) len' cap' := by simpa [Value.cells] using h1
    injection h2 with h3 h4 h5
    subst h3 h4 h5
    have hml : len ≤ m := by rw [hmm]; split <;> omega
    obtain ⟨L, hLl, hL⟩ := list_of (α := S61) (Q := fun i x => W.cell? (a.add (i * 3)) = some (.int .i64 x.f0) ∧ W.cell? (a.add (i * 3 + 1)) = some (.string x.f1) ∧ W.cell? (a.add (i * 3 + 2)) = some (.int .i64 x.f2)) len (fun i hil => by
      obtain ⟨ys, n, _, _, _, hg⟩ := hi i (by omega)
      rw [hfs] at hg
      obtain ⟨f0, e0, t0⟩ := Option.map_eq_some_iff.1 hf0
      obtain ⟨f1, e1, t1⟩ := Option.map_eq_some_iff.1 hf1
      obtain ⟨f2, e2, t2⟩ := Option.map_eq_some_iff.1 hf2
      obtain ⟨v0, y0, c0, _, r0⟩ := hg 0 f0 e0
      obtain ⟨v1, y1, c1, _, r1⟩ := hg 1 f1 e1
      obtain ⟨v2, y2, c2, _, r2⟩ := hg 2 f2 e2
      rw [t0] at r0
      rw [t1] at r1
      rw [t2] at r2
      obtain ⟨z0, g0, _⟩ := DataW.trod_int Tryd.underlying3 r0
      obtain ⟨s1, g1, _⟩ := DataW.trod_string Tryd.underlying9 r1
      obtain ⟨z2, g2, _⟩ := DataW.trod_int Tryd.underlying3 r2
      obtain rfl : v0 = .int .i64 z0 := by simpa using g0
      obtain rfl : v1 = .string s1 := by simpa using g1
      obtain rfl : v2 = .int .i64 z2 := by simpa using g2
      exact ⟨⟨z0, s1, z2⟩, c0, c1, c2⟩)
    subst hLl
    refine ⟨some a, cap, L, rfl, hl, rfl, by unfold maxLen at hm; omega, fun _ => ⟨a, rfl, fun j x hx => ?_⟩⟩
    obtain ⟨q0, q1, q2⟩ := hL j x hx
    refine ⟨[.int .i64 x.f0, .string x.f1, .int .i64 x.f2], rfl, k61_mk W x, fun i u hu => ?_⟩
    match i, hu with
    | 0, hu => obtain rfl : Value.int .i64 x.f0 = u := by simpa using hu
               exact q0
    | 1, hu => obtain rfl : Value.string x.f1 = u := by simpa using hu
               exact q1
    | 2, hu => obtain rfl : Value.int .i64 x.f2 = u := by simpa using hu
               exact q2
    | n + 3, hu => simp at hu
end Go.Proofs.YtmnnhbikdgpedaaDoor.Lx
