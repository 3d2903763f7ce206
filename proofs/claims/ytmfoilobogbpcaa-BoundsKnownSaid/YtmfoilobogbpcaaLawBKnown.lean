/-
  BoundsKnown, a closed statement: the program is run by the abstract machine, whose answers are so (EngT, run_ok).
-/
import Derived.Test.YtmfoilobogbpcaaEngT
import Derived.Test.YtmfoilobogbpcaaFrame
namespace Go.Proofs.Ytmfoilobogbpcaa
open Go.ChangeShapes Go.WideShapes Go.ChangeAt Go.RowKit

theorem boundsKnown_names : Eng.namesOk Try.prog = true := by kernel_rfl
theorem boundsKnown_says : Eng.Run Try.prog 1000 20 12 = True := by kernel_rfl
theorem boundsKnown_walk (W : World) : Calls Try.prog 12 #[] W fun e w' => e = .returned (.bool true) ∧ Below W.heap.size W w' :=
  Eng.run_calls boundsKnown_names boundsKnown_says W
theorem boundsKnown_law : LawWalk 12 Try.f12 := by
  intro H enc W base args ds p hval hA
  rw [Try.params12] at hA hval
  obtain ⟨ha0, rfl, rfl⟩ := trodAll_nil hA
  obtain rfl : args = #[] := by cases args; simp_all
  exact boundsKnown_walk W
set_option maxRecDepth 100000 in
theorem boundsKnown_proved : Rows.BoundsKnownSaid :=
  OpenClaim.holds_of_wide 12 Try.f12 rfl rfl rfl rfl rfl rfl rfl ⟨rfl, rfl, rfl, rfl, rfl⟩ rfl rfl rfl rfl rfl (by kernel_rfl) Try.func12 (by kernel_rfl)
    (of_decide_eq_true (by kernel_rfl)) (by unfold Func.isWrapper; first | (rw [if_pos (by decide +kernel)]; kernel_rfl) | (rw [if_neg (by decide +kernel)]; exact ⟨rfl, rfl⟩))
    (fun os started H enc _ => law_lifted 12 Try.f12 Rows.boundsKnownSpec Rows.boundsKnownRow.domain Try.func12 (by kernel_rfl) rfl rfl
      (fun H ds hd => by match ds, hd with | [], _ => exact ⟨rfl, rfl, rfl⟩) (by decide +kernel) boundsKnown_law os started H enc
      (ChangeSpec.witness6 (enc := enc) (C := Try.checked) false ⟨#[], #[], []⟩ 8 (by kernel_rfl) (by kernel_rfl) (by kernel_rfl) (by kernel_rfl)))
#print axioms boundsKnown_proved
end Go.Proofs.Ytmfoilobogbpcaa
