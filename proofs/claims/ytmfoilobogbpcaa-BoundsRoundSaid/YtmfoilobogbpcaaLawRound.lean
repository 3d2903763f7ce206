/-
  BoundsRound: any base and top are rounded as the document says. No condition.
-/
import Derived.Test.YtmfoilobogbpcaaBndWorks
import Derived.Test.YtmfoilobogbpcaaFrame
namespace Go.Proofs.Ytmfoilobogbpcaa
open Go.ChangeShapes Go.WideShapes Go.ChangeAt Go.RowKit
open Go.ChangeMaps (open_string shut_string)

theorem bround_walk (b t : Nat) (w : World) (hb : b < 4294967296) (ht : t < 18446744073709551616) :
    Calls Try.prog 6 #[.int .u32 b, .int .u64 t] w fun e' w' => e' = .returned (.bool true) ∧ Below w.heap.size w w' := by
  have hd := fun W => round_any b t W hb ht
  have hr := fun W => rround_any b t W hb ht
  obtain ⟨x1, h1⟩ : ∃ x : Nat, (if rightN b t then dnN b (expoN b t) else 0) = x := ⟨_, rfl⟩
  obtain ⟨x2, h2⟩ : ∃ x : Nat, (if rightN b t then upN t (expoN b t) else 0) = x := ⟨_, rfl⟩
  obtain ⟨x5, h5⟩ : ∃ x, rightN b t = x := ⟨_, rfl⟩
  rw [h1, h2, h5] at hd hr
  have HD := hide hd
  have HR := hide hr
  clear hd hr h1 h2 h5
  go_enter Try.func6, Try.ntmps6
  go_wp2_with fail
  refine (HD.out _).mono ?_
  rintro e' w1 ⟨rfl, rfl⟩
  go_wp2_with fail
  refine (HR.out _).mono ?_
  rintro e' w2 ⟨rfl, m2, rfl⟩
  go_wp2_with fail
  refine (bworks_any _).mono ?_
  rintro e' w3 ⟨rfl, hb3⟩
  have HB3 := hide hb3; clear hb3
  go_wp2
  go_ret
  exact ⟨rfl, below_of_drewN HB3.out⟩
theorem bround_law : LawWalk 6 Try.f6 := by
  intro H enc W base args ds p hval hA
  rw [Try.params6] at hA hval
  obtain ⟨v0, vs0, d0, ds0, p0, q0, hargs, rfl, rfl, h0, r0⟩ := trodAll_cons hA
  obtain ⟨v1, vs1, d1, ds1, p1, q1, rfl, rfl, rfl, h1, r1⟩ := trodAll_cons r0
  obtain ⟨rfl, rfl, rfl⟩ := trodAll_nil r1
  obtain rfl : args = #[v0, v1] := by cases args; simp_all
  obtain ⟨a0, rfl, rfl, rfl, w0⟩ := open_int Try.underlying25 (hval 0 _ v0 rfl rfl) h0
  have b0 := wf_u32 w0
  obtain ⟨a1, rfl, rfl, rfl, w1⟩ := open_int Try.underlying26 (hval 1 _ v1 rfl rfl) h1
  have b1 := wf_u64 w1
  obtain ⟨b, rfl⟩ := Int.eq_ofNat_of_zero_le b0.1
  obtain ⟨t, rfl⟩ := Int.eq_ofNat_of_zero_le b1.1
  exact bround_walk b t W (by omega) (by omega)
set_option maxRecDepth 100000 in
theorem boundsRound_proved : Rows.BoundsRoundSaid :=
  OpenClaim.holds_of_wide 6 Try.f6 rfl rfl rfl rfl rfl rfl rfl ⟨rfl, rfl, rfl, rfl, rfl⟩ rfl rfl rfl rfl rfl (by kernel_rfl) Try.func6 (by kernel_rfl)
    (of_decide_eq_true (by kernel_rfl)) (by unfold Func.isWrapper; first | (rw [if_pos (by decide +kernel)]; kernel_rfl) | (rw [if_neg (by decide +kernel)]; exact ⟨rfl, rfl⟩))
    (fun os started H enc _ => law_lifted 6 Try.f6 Rows.boundsRoundSpec Rows.boundsRoundRow.domain Try.func6 (by kernel_rfl) rfl rfl
      (fun H ds hd => by match ds, hd with | [d0, d1], _ => exact ⟨rfl, rfl, rfl⟩) (by decide +kernel) bround_law os started H enc
      (ChangeSpec.witness6 (enc := enc) (C := Try.checked) false ⟨#[], #[.int .u32 0, .int .u64 0], []⟩ 8 (by kernel_rfl) (by kernel_rfl) (by kernel_rfl) (by kernel_rfl)))
#print axioms boundsRound_proved
end Go.Proofs.Ytmfoilobogbpcaa
