/-
  LoaderKnown, a closed statement: the program is run by the abstract machine, whose answers are so (EngZB, kF_ok); works() ahead of it.
-/
import Derived.Test.YtliidiceljdgmaaEngZC
import Derived.Test.YtliidiceljdgmaaFrame
namespace Go.Proofs.Ytliidiceljdgmaa
open Go.ChangeShapes Go.WideShapes Go.ChangeAt Go.RowKit

theorem loaderKnown_names : Eng.namesOk Try.prog = true := by kernel_rfl
theorem loaderKnown_works : Eng.RunW Try.prog [] 10000 30 10 = True := by kernel_rfl
theorem loaderKnown_says : Eng.RunW Try.prog [10] 10000 30 4 = True := by kernel_rfl
theorem loaderKnown_walk (W : World) : Calls Try.prog 4 #[] W fun e w' => e = .returned (.bool true) ∧ Below W.heap.size W w' :=
  (Eng.runW_pure loaderKnown_names (fun f hf => by
    obtain rfl := List.mem_singleton.1 hf
    exact Eng.runW_pure loaderKnown_names (fun f hf => by cases hf) loaderKnown_works) loaderKnown_says).calls W
theorem loaderKnown_law : LawWalk 4 Try.f4 := by
  intro H enc W base args ds p hval hA
  rw [Try.params4] at hA hval
  obtain ⟨ha0, rfl, rfl⟩ := trodAll_nil hA
  obtain rfl : args = #[] := by cases args; simp_all
  exact loaderKnown_walk W
set_option maxRecDepth 100000 in
theorem loaderKnown_proved : Rows.LoaderKnownSaid :=
  OpenClaim.holds_of_wide 4 Try.f4 rfl rfl rfl rfl rfl rfl rfl ⟨rfl, rfl, rfl, rfl, rfl⟩ rfl rfl rfl rfl rfl (by kernel_rfl) Try.func4 (by kernel_rfl)
    (of_decide_eq_true (by kernel_rfl)) (by unfold Func.isWrapper; first | (rw [if_pos (by decide +kernel)]; kernel_rfl) | (rw [if_neg (by decide +kernel)]; exact ⟨rfl, rfl⟩))
    (fun os started H enc _ => law_lifted 4 Try.f4 Rows.loaderKnownSpec Rows.loaderKnownRow.domain Try.func4 (by kernel_rfl) rfl rfl
      (fun H ds hd => by match ds, hd with | [], _ => exact ⟨rfl, rfl, rfl⟩) (by decide +kernel) loaderKnown_law os started H enc
      (ChangeSpec.witness6 (enc := enc) (C := Try.checked) false ⟨#[], #[], []⟩ 8 (by kernel_rfl) (by kernel_rfl) (by kernel_rfl) (by kernel_rfl)))
#print axioms loaderKnown_proved
end Go.Proofs.Ytliidiceljdgmaa
