/-
  OctetKnown, a closed statement: the program is run by the abstract machine, whose answers are so (EngT, run_ok).
-/
import Derived.Test.YtopfbiecdoemcaaEngT
import Derived.Test.YtopfbiecdoemcaaFrame
namespace Go.Proofs.Ytopfbiecdoemcaa
open Go.ChangeShapes Go.WideShapes Go.ChangeAt Go.RowKit

theorem octetKnown_names : Eng.namesOk Try.prog = true := by kernel_rfl
theorem octetKnown_says : Eng.SaysTrue (Eng.evF Try.prog Eng.noBase 1000 20 9 [] Eng.st0) = True := by kernel_rfl
theorem octetKnown_walk (W : World) : Calls Try.prog 9 #[] W fun e w' => e = .returned (.bool true) ∧ Below W.heap.size W w' :=
  Eng.true_ok (Eng.run_ok octetKnown_names (Eng.noBase_ok _) 20) (of_eq_true octetKnown_says) (fun u hu => by cases hu) W
theorem octetKnown_law : LawWalk 9 Try.f9 := by
  intro H enc W base args ds p hval hA
  rw [Try.params9] at hA hval
  obtain ⟨ha0, rfl, rfl⟩ := trodAll_nil hA
  obtain rfl : args = #[] := by cases args; simp_all
  exact octetKnown_walk W
set_option maxRecDepth 100000 in
theorem octetKnown_proved : Rows.OctetKnownSaid :=
  OpenClaim.holds_of_wide 9 Try.f9 rfl rfl rfl rfl rfl rfl rfl ⟨rfl, rfl, rfl, rfl, rfl⟩ rfl rfl rfl rfl rfl (by kernel_rfl) Try.func9 (by kernel_rfl)
    (of_decide_eq_true (by kernel_rfl)) (by unfold Func.isWrapper; first | (rw [if_pos (by decide +kernel)]; kernel_rfl) | (rw [if_neg (by decide +kernel)]; exact ⟨rfl, rfl⟩))
    (fun os started H enc _ => law_lifted 9 Try.f9 Rows.octetKnownSpec Rows.octetKnownRow.domain Try.func9 (by kernel_rfl) rfl rfl
      (fun H ds hd => by match ds, hd with | [], _ => exact ⟨rfl, rfl, rfl⟩) (by decide +kernel) octetKnown_law os started H enc
      (ChangeSpec.witness6 (enc := enc) (C := Try.checked) false ⟨#[], #[], []⟩ 8 (by kernel_rfl) (by kernel_rfl) (by kernel_rfl) (by kernel_rfl)))
#print axioms octetKnown_proved
end Go.Proofs.Ytopfbiecdoemcaa
