/-
  CapsKnown, a closed statement: the program is run by the abstract machine, whose answers are so (EngT, run_ok).
-/
import Derived.Test.YtnnagaioiodniaaEngT
import Derived.Test.YtnnagaioiodniaaFrame
namespace Go.Proofs.Ytnnagaioiodniaa
open Go.ChangeShapes Go.WideShapes Go.ChangeAt Go.RowKit

theorem capsKnown_names : Eng.namesOk Try.prog = true := by kernel_rfl
theorem capsKnown_says : Eng.Run Try.prog 1000 20 11 = True := by kernel_rfl
theorem capsKnown_walk (W : World) : Calls Try.prog 11 #[] W fun e w' => e = .returned (.bool true) ∧ Below W.heap.size W w' :=
  Eng.run_calls capsKnown_names capsKnown_says W
theorem capsKnown_law : LawWalk 11 Try.f11 := by
  intro H enc W base args ds p hval hA
  rw [Try.params11] at hA hval
  obtain ⟨ha0, rfl, rfl⟩ := trodAll_nil hA
  obtain rfl : args = #[] := by cases args; simp_all
  exact capsKnown_walk W
set_option maxRecDepth 100000 in
theorem capsKnown_proved : Rows.CapsKnownSaid :=
  OpenClaim.holds_of_wide 11 Try.f11 rfl rfl rfl rfl rfl rfl rfl ⟨rfl, rfl, rfl, rfl, rfl⟩ rfl rfl rfl rfl rfl (by kernel_rfl) Try.func11 (by kernel_rfl)
    (of_decide_eq_true (by kernel_rfl)) (by unfold Func.isWrapper; first | (rw [if_pos (by decide +kernel)]; kernel_rfl) | (rw [if_neg (by decide +kernel)]; exact ⟨rfl, rfl⟩))
    (fun os started H enc _ => law_lifted 11 Try.f11 Rows.capsKnownSpec Rows.capsKnownRow.domain Try.func11 (by kernel_rfl) rfl rfl
      (fun H ds hd => by match ds, hd with | [], _ => exact ⟨rfl, rfl, rfl⟩) (by decide +kernel) capsKnown_law os started H enc
      (ChangeSpec.witness6 (enc := enc) (C := Try.checked) false ⟨#[], #[], []⟩ 8 (by kernel_rfl) (by kernel_rfl) (by kernel_rfl) (by kernel_rfl)))
#print axioms capsKnown_proved
end Go.Proofs.Ytnnagaioiodniaa
