/-
  BoundsPad: any size is padded as the document says. No condition.
-/
import Derived.Test.YtmfoilobogbpcaaBndWorks
import Derived.Test.YtmfoilobogbpcaaFrame
namespace Go.Proofs.Ytmfoilobogbpcaa
open Go.ChangeShapes Go.WideShapes Go.ChangeAt Go.RowKit
open Go.ChangeMaps (open_string shut_string)

theorem bpad_walk (s : Nat) (w : World) (hs : s < 4294967296) :
    Calls Try.prog 9 #[.int .u32 s] w fun e' w' => e' = .returned (.bool true) ∧ Below w.heap.size w w' := by
  have hd := fun W => pad_any s W hs
  have hr := fun W => rpad_any s W hs
  obtain ⟨x1, h1⟩ : ∃ x, padN s = x := ⟨_, rfl⟩
  obtain ⟨x2, h2⟩ : ∃ x, padA s = x := ⟨_, rfl⟩
  rw [h1, h2] at hd hr
  have HD := hide hd
  have HR := hide hr
  clear hd hr h1 h2
  go_enter Try.func9, Try.ntmps9
  go_wp2_with fail
  refine (HD.out _).mono ?_
  rintro e' w1 ⟨rfl, m1, rfl⟩
  go_wp2_with fail
  refine (HR.out _).mono ?_
  rintro e' w2 ⟨rfl, m2, rfl⟩
  go_wp2_with fail
  refine (bworks_any _).mono ?_
  rintro e' w3 ⟨rfl, hb3⟩
  have HB3 := hide hb3; clear hb3
  go_wp2
  go_ret
  exact ⟨rfl, below_of_drewN HB3.out⟩
theorem bpad_law : LawWalk 9 Try.f9 := by
  intro H enc W base args ds p hval hA
  rw [Try.params9] at hA hval
  obtain ⟨v0, vs0, d0, ds0, p0, q0, hargs, rfl, rfl, h0, r0⟩ := trodAll_cons hA
  obtain ⟨rfl, rfl, rfl⟩ := trodAll_nil r0
  obtain rfl : args = #[v0] := by cases args; simp_all
  obtain ⟨a0, rfl, rfl, rfl, w0⟩ := open_int Try.underlying25 (hval 0 _ v0 rfl rfl) h0
  have b0 := wf_u32 w0
  obtain ⟨s, rfl⟩ := Int.eq_ofNat_of_zero_le b0.1
  exact bpad_walk s W (by omega)
set_option maxRecDepth 100000 in
theorem boundsPad_proved : Rows.BoundsPadSaid :=
  OpenClaim.holds_of_wide 9 Try.f9 rfl rfl rfl rfl rfl rfl rfl ⟨rfl, rfl, rfl, rfl, rfl⟩ rfl rfl rfl rfl rfl (by kernel_rfl) Try.func9 (by kernel_rfl)
    (of_decide_eq_true (by kernel_rfl)) (by unfold Func.isWrapper; first | (rw [if_pos (by decide +kernel)]; kernel_rfl) | (rw [if_neg (by decide +kernel)]; exact ⟨rfl, rfl⟩))
    (fun os started H enc _ => law_lifted 9 Try.f9 Rows.boundsPadSpec Rows.boundsPadRow.domain Try.func9 (by kernel_rfl) rfl rfl
      (fun H ds hd => by match ds, hd with | [d0], _ => exact ⟨rfl, rfl, rfl⟩) (by decide +kernel) bpad_law os started H enc
      (ChangeSpec.witness6 (enc := enc) (C := Try.checked) false ⟨#[], #[.int .u32 0], []⟩ 8 (by kernel_rfl) (by kernel_rfl) (by kernel_rfl) (by kernel_rfl)))
#print axioms boundsPad_proved
end Go.Proofs.Ytmfoilobogbpcaa
