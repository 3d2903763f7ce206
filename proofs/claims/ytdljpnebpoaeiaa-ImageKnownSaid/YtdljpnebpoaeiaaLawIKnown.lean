/-
  ImageKnown, a closed statement: the program is run by the abstract machine, whose answers are so (EngZB, kF_ok).
-/
import Derived.Test.YtdljpnebpoaeiaaEngZB
import Derived.Test.YtdljpnebpoaeiaaFrame
namespace Go.Proofs.Ytdljpnebpoaeiaa
open Go.ChangeShapes Go.WideShapes Go.ChangeAt Go.RowKit

theorem imageKnown_names : Eng.namesOk Try.prog = true := by kernel_rfl
theorem imageKnown_says : Eng.RunK Try.prog 10000 30 7 = True := by kernel_rfl
theorem imageKnown_walk (W : World) : Calls Try.prog 7 #[] W fun e w' => e = .returned (.bool true) ∧ Below W.heap.size W w' :=
  Eng.runK_calls imageKnown_names imageKnown_says W
theorem imageKnown_law : LawWalk 7 Try.f7 := by
  intro H enc W base args ds p hval hA
  rw [Try.params7] at hA hval
  obtain ⟨ha0, rfl, rfl⟩ := trodAll_nil hA
  obtain rfl : args = #[] := by cases args; simp_all
  exact imageKnown_walk W
set_option maxRecDepth 100000 in
theorem imageKnown_proved : Rows.ImageKnownSaid :=
  OpenClaim.holds_of_wide 7 Try.f7 rfl rfl rfl rfl rfl rfl rfl ⟨rfl, rfl, rfl, rfl, rfl⟩ rfl rfl rfl rfl rfl (by kernel_rfl) Try.func7 (by kernel_rfl)
    (of_decide_eq_true (by kernel_rfl)) (by unfold Func.isWrapper; first | (rw [if_pos (by decide +kernel)]; kernel_rfl) | (rw [if_neg (by decide +kernel)]; exact ⟨rfl, rfl⟩))
    (fun os started H enc _ => law_lifted 7 Try.f7 Rows.imageKnownSpec Rows.imageKnownRow.domain Try.func7 (by kernel_rfl) rfl rfl
      (fun H ds hd => by match ds, hd with | [], _ => exact ⟨rfl, rfl, rfl⟩) (by decide +kernel) imageKnown_law os started H enc
      (ChangeSpec.witness6 (enc := enc) (C := Try.checked) false ⟨#[], #[], []⟩ 8 (by kernel_rfl) (by kernel_rfl) (by kernel_rfl) (by kernel_rfl)))
#print axioms imageKnown_proved
end Go.Proofs.Ytdljpnebpoaeiaa
