/-
  DeriveKnown, a closed statement: the program is run by the abstract machine, whose answers are so (EngZB, kF_ok).
-/
import Derived.Test.YtljchnfofjmleaaEngZB
import Derived.Test.YtljchnfofjmleaaFrame
namespace Go.Proofs.Ytljchnfofjmleaa
open Go.ChangeShapes Go.WideShapes Go.ChangeAt Go.RowKit

theorem deriveKnown_names : Eng.namesOk Try.prog = true := by kernel_rfl
theorem deriveKnown_says : Eng.RunK Try.prog 1000 20 14 = True := by kernel_rfl
theorem deriveKnown_walk (W : World) : Calls Try.prog 14 #[] W fun e w' => e = .returned (.bool true) ∧ Below W.heap.size W w' :=
  Eng.runK_calls deriveKnown_names deriveKnown_says W
theorem deriveKnown_law : LawWalk 14 Try.f14 := by
  intro H enc W base args ds p hval hA
  rw [Try.params14] at hA hval
  obtain ⟨ha0, rfl, rfl⟩ := trodAll_nil hA
  obtain rfl : args = #[] := by cases args; simp_all
  exact deriveKnown_walk W
set_option maxRecDepth 100000 in
theorem deriveKnown_proved : Rows.DeriveKnownSaid :=
  OpenClaim.holds_of_wide 14 Try.f14 rfl rfl rfl rfl rfl rfl rfl ⟨rfl, rfl, rfl, rfl, rfl⟩ rfl rfl rfl rfl rfl (by kernel_rfl) Try.func14 (by kernel_rfl)
    (of_decide_eq_true (by kernel_rfl)) (by unfold Func.isWrapper; first | (rw [if_pos (by decide +kernel)]; kernel_rfl) | (rw [if_neg (by decide +kernel)]; exact ⟨rfl, rfl⟩))
    (fun os started H enc _ => law_lifted 14 Try.f14 Rows.deriveKnownSpec Rows.deriveKnownRow.domain Try.func14 (by kernel_rfl) rfl rfl
      (fun H ds hd => by match ds, hd with | [], _ => exact ⟨rfl, rfl, rfl⟩) (by decide +kernel) deriveKnown_law os started H enc
      (ChangeSpec.witness6 (enc := enc) (C := Try.checked) false ⟨#[], #[], []⟩ 8 (by kernel_rfl) (by kernel_rfl) (by kernel_rfl) (by kernel_rfl)))
#print axioms deriveKnown_proved
end Go.Proofs.Ytljchnfofjmleaa
