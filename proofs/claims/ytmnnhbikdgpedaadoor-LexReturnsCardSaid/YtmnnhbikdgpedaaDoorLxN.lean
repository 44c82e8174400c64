/- The law's awake has its contract: it answers true. -/
import Derived.Test.YtmnnhbikdgpedaaDoorLxL
import Derived.Test.YtmnnhbikdgpedaaDoorRf2
namespace Go.Proofs.YtmnnhbikdgpedaaDoor.Lx
open Go.RowKit Go.Proofs.YtmnnhbikdgpedaaDoorW.PrintWords Go.Proofs.YtmnnhbikdgpedaaDoorW.PrintLast Go.Proofs.YtmnnhbikdgpedaaDoorW.PrintMore
open Go.Proofs.YtmnnhbikdgpedaaDoor.PLexTokens
set_option linter.unusedVariables false
set_option linter.unusedSimpArgs false
def awakeS : ByteArray := ⟨#[120, 32, 58, 61, 32, 77, 58, 58, 102, 40, 51, 44, 32, 49, 46, 53, 41, 59, 32, 47, 47, 32, 101, 110, 100]⟩
def awakeL : List (Tok × Nat) := [(⟨0, 1, 0⟩, 0), (⟨4, 4, 0⟩, 2), (⟨0, 9, 0⟩, 5), (⟨4, 10, 0⟩, 9), (⟨2, 11, 0⟩, 10), (⟨4, 12, 0⟩, 11), (⟨3, 16, 0⟩, 13), (⟨4, 17, 0⟩, 16), (⟨4, 18, 0⟩, 17)]
theorem awake_pos : lex_Position.f 20 ⟨#[97, 10, 98, 99, 100]⟩ 4 = some (2, 3, 0) := by decide +kernel
theorem awake_toks : tokRes awakeS = (awakeL, 0, 0) := by decide +kernel
theorem awake_6 : (cellsOf awakeS awakeL)[6]? = some (.int .i64 0) := by kernel_rfl
theorem awake_7 : (cellsOf awakeS awakeL)[7]? = some (.string ⟨#[77, 58, 58, 102]⟩) := by kernel_rfl
theorem awake_8 : (cellsOf awakeS awakeL)[8]? = some (.int .i64 5) := by kernel_rfl
theorem awake_20 : (cellsOf awakeS awakeL)[20]? = some (.int .i64 13) := by kernel_rfl

theorem awake_tokens (w : World) (hE : Env w) :
    Calls Tryd.prog 10 #[.string ⟨#[120, 32, 58, 61, 32, 77, 58, 58, 102, 40, 51, 44, 32, 49, 46, 53, 41, 59, 32, 47, 47, 32, 101, 110, 100]⟩] w fun e w' => ∃ g c, e = .returned (.tuple #[.slice (some ⟨g, 0, none⟩) 9 c, .int .i64 0, .int .i64 0]) ∧
      w'.cell? ⟨g, 6, none⟩ = some (.int .i64 0) ∧ w'.cell? ⟨g, 7, none⟩ = some (.string ⟨#[77, 58, 58, 102]⟩) ∧ w'.cell? ⟨g, 8, none⟩ = some (.int .i64 5) ∧ w'.cell? ⟨g, 20, none⟩ = some (.int .i64 13) ∧ Below w.heap.size w w' := by
  refine (tokens_calls awakeS (by decide) w hE).mono ?_
  rintro e w' ⟨v, rfl, hown, hb⟩
  rw [awake_toks] at hown ⊢
  obtain ⟨g, c, rfl, hgb, _⟩ := hown.form (by decide)
  have ha : ∀ j, (⟨g, 0, none⟩ : Addr).add j = ⟨g, j, none⟩ := fun j => by unfold Addr.add; split <;> simp_all
  have hc := hown.cells (g := g) rfl
  refine ⟨g, c, rfl, ?_, ?_, ?_, ?_, hb⟩
  · rw [← ha]; exact hc 6 _ awake_6
  · rw [← ha]; exact hc 7 _ awake_7
  · rw [← ha]; exact hc 8 _ awake_8
  · rw [← ha]; exact hc 20 _ awake_20

set_option maxHeartbeats 4000000 in
set_option maxRecDepth 100000 in
theorem awake_calls (w : World) (hE : Env w) :
    Calls Tryd.prog 8 #[] w fun e w' => e = .returned (.bool true) ∧ Below w.heap.size w w' := by
  have HE := Aside0.mk hE
  have HB := Aside0.mk (Below.refl w.heap.size w)
  go_enter Tryd.func8, Tryd.ntmps8
  go_wp2_with (first | (go_at_call 10; ((with_reducible refine (awake_tokens _ (HE.out.below (by repeat (first | (with_reducible exact HB.out) | (with_reducible exact Below.refl _ _) | (with_reducible apply below_alloc) | (with_reducible apply pw_below_drewN) | (with_reducible apply below_drew1) | refine below_set ?_ (by omega))))).mono ?_); rintro e w1 ⟨g, c, rfl, k6, k7, k8, k20, hb1⟩; obtain ⟨hc1, hf1⟩ := bcell hb1; have hgl : g < w1.heap.size := World.block_lt_of_cell? w1 _ k6; have HB1 := Aside0.mk hb1; clear hb1)) | (go_at_call 30; ((with_reducible refine (lex_Position.calls 20 _ _ 2 3 0 _ awake_pos).mono ?_); rintro e w2 ⟨rfl, hb2⟩; obtain ⟨hc2, hf2⟩ := bcell hb2; have HB2 := Aside0.mk hb2; clear hb2)))
  go_ret
  exact ⟨rfl, HB1.out.trans (HB2.out.mono HB1.out.size)⟩
end Go.Proofs.YtmnnhbikdgpedaaDoor.Lx
