/- What package lex keeps in its two tables, and what a world must hold of them. -/
import Derived.Test.YtmnnhbikdgpedaaDoorLxC
import Derived.Shelf.Spec.SearchS
namespace Go.Proofs.YtmnnhbikdgpedaaDoor.Lx
open Go.RowKit Go.Proofs.YtmnnhbikdgpedaaDoorW.PrintWords Go.Proofs.YtmnnhbikdgpedaaDoorW.PrintLast Go.Proofs.YtmnnhbikdgpedaaDoorW.PrintMore
set_option linter.unusedVariables false
set_option linter.unusedSimpArgs false

def keywordsL : List ByteArray := [⟨#[97, 114, 114, 97, 121]⟩, ⟨#[97, 115]⟩, ⟨#[97, 115, 115, 101, 114, 116]⟩, ⟨#[97, 115, 115, 117, 109, 101]⟩, ⟨#[98, 111, 111, 108]⟩, ⟨#[98, 121]⟩, ⟨#[99, 97, 108, 99]⟩, ⟨#[99, 97, 108, 108]⟩, ⟨#[99, 97, 115, 101]⟩, ⟨#[99, 108, 97, 115, 115]⟩, ⟨#[99, 111, 110, 115, 116]⟩, ⟨#[100, 97, 116, 97, 116, 121, 112, 101]⟩, ⟨#[100, 101, 99, 114, 101, 97, 115, 101, 115]⟩, ⟨#[101, 108, 115, 101]⟩, ⟨#[101, 110, 115, 117, 114, 101, 115]⟩, ⟨#[101, 120, 105, 115, 116, 115]⟩, ⟨#[101, 120, 112, 111, 114, 116]⟩, ⟨#[102, 97, 108, 115, 101]⟩, ⟨#[102, 111, 114, 97, 108, 108]⟩, ⟨#[102, 114, 101, 115, 104]⟩, ⟨#[102, 117, 101, 108]⟩, ⟨#[102, 117, 110, 99, 116, 105, 111, 110]⟩, ⟨#[103, 104, 111, 115, 116]⟩, ⟨#[103, 114, 101, 97, 116, 101, 115, 116]⟩, ⟨#[104, 105, 100, 100, 101, 110]⟩, ⟨#[105, 102]⟩, ⟨#[105, 109, 112, 111, 114, 116]⟩, ⟨#[105, 110]⟩, ⟨#[105, 110, 116]⟩, ⟨#[105, 110, 118, 97, 114, 105, 97, 110, 116]⟩, ⟨#[108, 101, 97, 115, 116]⟩, ⟨#[108, 101, 109, 109, 97]⟩, ⟨#[109, 97, 112]⟩, ⟨#[109, 97, 116, 99, 104]⟩, ⟨#[109, 101, 116, 104, 111, 100]⟩, ⟨#[109, 111, 100, 105, 102, 105, 101, 115]⟩, ⟨#[109, 111, 100, 117, 108, 101]⟩, ⟨#[109, 117, 108, 116, 105, 115, 101, 116]⟩, ⟨#[110, 101, 119]⟩, ⟨#[111, 108, 100]⟩, ⟨#[111, 112, 97, 113, 117, 101]⟩, ⟨#[112, 114, 105, 110, 116]⟩, ⟨#[114, 101, 97, 100, 115]⟩, ⟨#[114, 101, 97, 108]⟩, ⟨#[114, 101, 102, 105, 110, 101, 115]⟩, ⟨#[114, 101, 113, 117, 105, 114, 101, 115]⟩, ⟨#[114, 101, 116, 117, 114, 110]⟩, ⟨#[114, 101, 116, 117, 114, 110, 115]⟩, ⟨#[114, 101, 118, 101, 97, 108]⟩, ⟨#[115, 101, 113]⟩, ⟨#[115, 101, 116]⟩, ⟨#[116, 104, 101, 110]⟩, ⟨#[116, 114, 117, 101]⟩, ⟨#[116, 121, 112, 101]⟩, ⟨#[118, 97, 114]⟩, ⟨#[119, 104, 105, 108, 101]⟩, ⟨#[119, 105, 116, 110, 101, 115, 115]⟩]
def signsL : List ByteArray := [⟨#[33]⟩, ⟨#[33, 61]⟩, ⟨#[35]⟩, ⟨#[37]⟩, ⟨#[38]⟩, ⟨#[38, 38]⟩, ⟨#[40]⟩, ⟨#[41]⟩, ⟨#[42]⟩, ⟨#[43]⟩, ⟨#[44]⟩, ⟨#[45]⟩, ⟨#[46]⟩, ⟨#[46, 46]⟩, ⟨#[47]⟩, ⟨#[58]⟩, ⟨#[58, 58]⟩, ⟨#[58, 61]⟩, ⟨#[58, 124]⟩, ⟨#[59]⟩, ⟨#[60]⟩, ⟨#[60, 60]⟩, ⟨#[60, 61]⟩, ⟨#[60, 61, 61, 62]⟩, ⟨#[61]⟩, ⟨#[61, 61]⟩, ⟨#[61, 61, 62]⟩, ⟨#[61, 62]⟩, ⟨#[62]⟩, ⟨#[62, 61]⟩, ⟨#[62, 62]⟩, ⟨#[63]⟩, ⟨#[91]⟩, ⟨#[93]⟩, ⟨#[94]⟩, ⟨#[123]⟩, ⟨#[124]⟩, ⟨#[124, 124]⟩, ⟨#[125]⟩]
def kw (j : Nat) : ByteArray := keywordsL.getD j ByteArray.empty
def sg (j : Nat) : ByteArray := signsL.getD j ByteArray.empty

/-- The two tables lie in memory, and the library's one number. -/
structure Env (w : World) : Prop where
  kws : ∃ b off c, w.cell? ⟨0, 0, none⟩ = some (.slice (some ⟨b, off, none⟩) 57 c) ∧ ∀ j, j < 57 → w.cell? ⟨b, off + j, none⟩ = some (.string (kw j))
  sgs : ∃ b off c, w.cell? ⟨1, 0, none⟩ = some (.slice (some ⟨b, off, none⟩) 39 c) ∧ ∀ j, j < 39 → w.cell? ⟨b, off + j, none⟩ = some (.string (sg j))
  mln : ∃ m, w.cell? ⟨2, 0, none⟩ = some (.int .i64 m)

theorem Env.below {w w' : World} (h : Env w) (hb : Below w.heap.size w w') : Env w' := by
  obtain ⟨⟨b, off, c, h1, h2⟩, ⟨b', off', c', h3, h4⟩, ⟨m, h5⟩⟩ := h
  exact ⟨⟨b, off, c, pw_cell_below hb h1, fun j hj => pw_cell_below hb (h2 j hj)⟩, ⟨b', off', c', pw_cell_below hb h3, fun j hj => pw_cell_below hb (h4 j hj)⟩, ⟨m, pw_cell_below hb h5⟩⟩

theorem less_calls (x y : ByteArray) (w : World) : Calls Tryd.prog 95 #[.string x, .string y] w fun e w' => e = .returned (.bool (Op.bytesLess x.toList y.toList)) ∧ w = w' := by
  go_enter Tryd.func95, Tryd.ntmps95
  go_wp2
  go_ret
  exact ⟨by simp, rfl⟩
theorem nan_calls (x : ByteArray) (w : World) : Calls Tryd.prog 96 #[.string x] w fun e w' => e = .returned (.bool false) ∧ w = w' := by
  go_enter Tryd.func96, Tryd.ntmps96
  go_wp2
  go_ret
  exact ⟨by simp, rfl⟩

def inList (l : List ByteArray) (x : ByteArray) : Bool := l.any fun k => decide (k = x)
theorem inList_iff (l : List ByteArray) (x : ByteArray) : inList l x = true ↔ x ∈ l := by
  simp [inList]

/-- Where the halving of slices.BinarySearch comes to, of the keywords. -/
def kwAt (x : ByteArray) : Nat := Lib.bsGo (fun t => Op.bytesLess (kw t).toList x.toList) 57 0 57

theorem kwAt_self : ∀ j, j < 57 → Lib.bsGo (fun t => Op.bytesLess (kw t).data.toList (kw j).data.toList) 57 0 57 = j := by
  have h : (List.range 57).all (fun j => Lib.bsGo (fun t => Op.bytesLess (kw t).data.toList (kw j).data.toList) 57 0 57 == j) = true := by decide +kernel
  intro j hj
  have := List.all_eq_true.mp h j (by simpa using hj)
  simpa using this

theorem kw_mem (x : ByteArray) : (kwAt x < 57 ∧ kw (kwAt x) = x) ↔ x ∈ keywordsL := by
  constructor
  · rintro ⟨h1, h2⟩
    rw [← h2, kw, List.getD_eq_getElem?_getD, List.getElem?_eq_getElem (show kwAt x < keywordsL.length from h1), Option.getD_some]
    exact List.getElem_mem _
  · intro h
    obtain ⟨j, hj, rfl⟩ := List.getElem_of_mem h
    have hj57 : j < 57 := hj
    have e0 : ∀ y, y = kw j → (kwAt y < 57 ∧ kw (kwAt y) = y) := by
      rintro y rfl
      have h1 : kwAt (kw j) = j := by
        rw [kwAt]
        have := kwAt_self j hj57
        simpa only [Lib.toList_data] using this
      rw [h1]
      exact ⟨hj57, rfl⟩
    apply e0
    rw [kw, List.getD_eq_getElem?_getD, List.getElem?_eq_getElem hj]
    rfl

set_option maxHeartbeats 4000000 in
set_option maxRecDepth 1000000 in
theorem search_calls (b off n c : Nat) (Sx : Nat → ByteArray) (x : ByteArray) (w : World) (hbig : n < 4611686018427387904) (hc : ∀ j, j < n → w.cell? ⟨b, off + j, none⟩ = some (.string (Sx j))) :
    Calls Tryd.prog 73 #[.slice (some ⟨b, off, none⟩) n c, .string x] w fun e w' =>
      e = .returned (.tuple #[.int .i64 (Lib.bsGo (fun t => Op.bytesLess (Sx t).toList x.toList) n 0 n : Nat), .bool (decide (Lib.bsGo (fun t => Op.bytesLess (Sx t).toList x.toList) n 0 n < n ∧ Sx (Lib.bsGo (fun t => Op.bytesLess (Sx t).toList x.toList) n 0 n) = x))]) ∧ ∃ q, w' = w.drewN q := by
  obtain ⟨I, hI⟩ : ∃ I, Lib.bsGo (fun t => Op.bytesLess (Sx t).toList x.toList) n 0 n = I := ⟨_, rfl⟩
  rw [hI]
  have hc' := Aside0.mk hc
  clear hc
  go_enter Tryd.func73, Tryd.ntmps73
  go_wp2
  go_loopg [7, 8] n (fun g s7 s8 wr => ∃ lo hi q : Nat, s7 = .int .i64 lo ∧ s8 = .int .i64 hi ∧ lo ≤ hi ∧ hi ≤ n ∧ hi - lo ≤ g ∧ wr = w.drewN q ∧ Lib.bsGo (fun t => Op.bytesLess (Sx t).toList x.toList) g lo hi = I)
  case atStart => exact ⟨0, n, 0, rfl, rfl, Nat.zero_le _, Nat.le_refl _, by omega, rfl, hI⟩
  case round =>
    obtain ⟨lo, hi, q, rfl, rfl, hlh, hin, hg, rfl, hb⟩ := hrel
    clear hI
    by_cases hlt : lo < hi
    · have cm : w.cell? ⟨b, off + (lo + hi) / 2, none⟩ = some (.string (Sx ((lo + hi) / 2))) := hc'.out _ (by omega)
      obtain ⟨g', rfl⟩ : ∃ g', gk = g' + 1 := ⟨gk - 1, by omega⟩
      simp only [Lib.bsGo, hlt, if_true] at hb
      obtain ⟨y, hy⟩ : ∃ y, Sx ((lo + hi) / 2) = y := ⟨_, rfl⟩
      rw [hy] at cm
      simp only [hy] at hb
      cases hyx : Op.bytesLess y.toList x.toList <;> simp only [hyx, if_true, Bool.false_eq_true, if_false] at hb
      · go_wp2_with (first | (go_at_call 95; refine (less_calls _ _ _).mono ?_; rintro e w' ⟨rfl, rfl⟩) | (go_at_call 96; refine (nan_calls _ _).mono ?_; rintro e w' ⟨rfl, rfl⟩))
        go_roundg ((lo + hi) / 2 - lo)
        case measure => omega
        case rel => exact ⟨lo, (lo + hi) / 2, _, rfl, by rw [show ((lo : Int) + (hi : Int)) / 2 = (((lo + hi) / 2 : Nat) : Int) by omega], by omega, by omega, Nat.le_refl _, rfl, by rw [← hb]; exact Lib.bsGo_fuel _ _ _ _ _ (Nat.le_refl _) (by omega)⟩
      · go_wp2_with (first | (go_at_call 95; refine (less_calls _ _ _).mono ?_; rintro e w' ⟨rfl, rfl⟩) | (go_at_call 96; refine (nan_calls _ _).mono ?_; rintro e w' ⟨rfl, rfl⟩))
        go_roundg (hi - ((lo + hi) / 2 + 1))
        case measure => omega
        case rel => exact ⟨(lo + hi) / 2 + 1, hi, _, by rw [show ((lo : Int) + (hi : Int)) / 2 + 1 = (((lo + hi) / 2 + 1 : Nat) : Int) by omega], rfl, by omega, hin, Nat.le_refl _, rfl, by rw [← hb]; exact Lib.bsGo_fuel _ _ _ _ _ (Nat.le_refl _) (by omega)⟩
    · have : hi = lo := by omega
      subst this
      have hIe : I = hi := by
        rw [← hb]
        cases gk <;> simp [Lib.bsGo]
      by_cases hn : hi < n
      · have cl : w.cell? ⟨b, off + hi, none⟩ = some (.string (Sx hi)) := hc'.out _ hn
        clear hb
        obtain ⟨y, hy⟩ : ∃ y, Sx hi = y := ⟨_, rfl⟩
        rw [hy] at cl
        by_cases hyx : y = x
        · go_wp2_with (first | (go_at_call 95; refine (less_calls _ _ _).mono ?_; rintro e w' ⟨rfl, rfl⟩) | (go_at_call 96; refine (nan_calls _ _).mono ?_; rintro e w' ⟨rfl, rfl⟩))
          go_ret2
          refine ⟨?_, _, rfl⟩
          try rw [hIe]
          rw [hy, decide_eq_true (show hi < n ∧ y = x from ⟨hn, hyx⟩)]
          first | rfl | simp [*]
        · have hne : (y.toList == x.toList) = false := by
            rw [beq_eq_false_iff_ne]
            intro h
            apply hyx
            rw [Lib.toList_data, Lib.toList_data] at h
            cases y with
            | mk yd => cases x with
              | mk xd => exact congrArg ByteArray.mk (Array.toList_inj.1 h)
          go_wp2_with (first | (go_at_call 95; refine (less_calls _ _ _).mono ?_; rintro e w' ⟨rfl, rfl⟩) | (go_at_call 96; refine (nan_calls _ _).mono ?_; rintro e w' ⟨rfl, rfl⟩))
          all_goals
            (go_ret2
             refine ⟨?_, _, rfl⟩
             try rw [hIe]
             rw [hy, decide_eq_false (show ¬ (hi < n ∧ y = x) from fun h => hyx h.2)]
             first | rfl | simp [*])
      · clear hb
        go_wp2_with (first | (go_at_call 95; refine (less_calls _ _ _).mono ?_; rintro e w' ⟨rfl, rfl⟩) | (go_at_call 96; refine (nan_calls _ _).mono ?_; rintro e w' ⟨rfl, rfl⟩))
        go_ret2
        refine ⟨?_, _, rfl⟩
        try rw [hIe]
        rw [decide_eq_false (show ¬ (hi < n ∧ Sx hi = x) from fun h => hn h.1)]
        first | rfl | simp [*]

def isKeyword (x : ByteArray) : Bool := inList keywordsL x || isWide x

set_option maxRecDepth 20000 in
theorem isKeyword_calls (x : ByteArray) (w : World) (hE : Env w) :
    Calls Tryd.prog 41 #[.string x] w fun e w' => e = .returned (.bool (isKeyword x)) ∧ Below w.heap.size w w' := by
  obtain ⟨⟨b, off, c, h1, h2⟩, _, _⟩ := hE
  have HC : ∀ n, Calls Tryd.prog 73 #[.slice (some ⟨b, off, none⟩) 57 c, .string x] (w.drewN n) fun e w' => (∃ i : Int, e = .returned (.tuple #[.int .i64 i, .bool (inList keywordsL x)])) ∧ ∃ q, w' = w.drewN q := by
    intro n
    refine (search_calls b off 57 c kw x (w.drewN n) (by omega) (by simpa using h2)).mono ?_
    rintro e w' ⟨rfl, q, rfl⟩
    refine ⟨⟨((Lib.bsGo (fun t => Op.bytesLess (kw t).toList x.toList) 57 0 57 : Nat) : Int), ?_⟩, ?_⟩
    · rw [show inList keywordsL x = decide (Lib.bsGo (fun t => Op.bytesLess (kw t).toList x.toList) 57 0 57 < 57 ∧ kw (Lib.bsGo (fun t => Op.bytesLess (kw t).toList x.toList) 57 0 57) = x) from by rw [Bool.eq_iff_iff, inList_iff, decide_eq_true_iff]; exact (kw_mem x).symm]
    · exact ⟨_, World.drewN_drewN _ _ _⟩
  have HC0 := HC 0
  have HC := Aside0.mk HC0
  clear HC0
  clear h2
  rw [isKeyword]
  cases c1 : inList keywordsL x with
  | true =>
    rw [c1] at HC
    go_enter Tryd.func41, Tryd.ntmps41
    go_wp2_with (first | (go_at_call 73; refine (HC.out).mono ?_; rintro e w' ⟨⟨i, rfl⟩, q, rfl⟩))
    go_ret
    exact ⟨rfl, by repeat (first | exact Below.refl _ _ | apply below_alloc | apply pw_below_drewN)⟩
  | false =>
    rw [c1] at HC
    go_enter Tryd.func41, Tryd.ntmps41
    go_wp2_with (first | (go_at_call 73; refine (HC.out).mono ?_; rintro e w' ⟨⟨i, rfl⟩, q, rfl⟩) | (go_at_call 74; refine (isWide_calls x _).mono ?_; rintro e w' ⟨rfl, hb⟩))
    go_ret
    exact ⟨by simp, below_then (by repeat (first | exact Below.refl _ _ | apply below_alloc | apply pw_below_drewN)) (by simp) hb⟩
end Go.Proofs.YtmnnhbikdgpedaaDoor.Lx
