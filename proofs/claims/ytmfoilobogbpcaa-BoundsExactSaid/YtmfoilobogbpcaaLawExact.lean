/-
  BoundsExact: up to 2048 bytes, wherever they lie, have exact bounds, with the exponent 0. No condition.
-/
import Derived.Test.YtmfoilobogbpcaaBndWorks
import Derived.Test.YtmfoilobogbpcaaBndMath
import Derived.Test.YtmfoilobogbpcaaFrame
namespace Go.Proofs.Ytmfoilobogbpcaa
open Go.ChangeShapes Go.WideShapes Go.ChangeAt Go.RowKit
open Go.ChangeMaps (open_string shut_string)

theorem bexact_walk (b s : Nat) (w : World) (hb : b < 4294967296) (hs : s < 65536) :
    Calls Try.prog 8 #[.int .u32 b, .int .u16 s] w fun e' w' => e' = .returned (.bool true) ∧ Below w.heap.size w w' := by
  obtain ⟨n, hn⟩ : ∃ n, s % 2049 = n := ⟨_, rfl⟩
  have r1 : (s : Int) % 2049 = (n : Int) := by rw [← hn]; simp
  have hn2 : n ≤ 2048 := by omega
  obtain ⟨t, ht⟩ : ∃ t : Nat, (if (4294967296 : Int) < (b : Int) + n then 4294967296 else (b : Int) + n) = (t : Int) ∧ b ≤ t ∧ t ≤ b + 2048 ∧ t ≤ 4294967296 := by
    by_cases h : (4294967296 : Int) < (b : Int) + n
    · exact ⟨4294967296, by rw [if_pos h]; rfl, by omega, by omega, by omega⟩
    · exact ⟨b + n, by rw [if_neg h]; omega, by omega, by omega, by omega⟩
  obtain ⟨hmin, h1, h2, h3⟩ := ht
  have hex := small_exact h1 h2 h3
  have hr : rightN b t = true := by simp [rightN, h1, h3]
  have hdn : dnN b 0 = b := by unfold dnN; simp
  have hup : upN t 0 = t := by unfold upN; simp
  have hd := fun W => encode_any b t W hb (by omega)
  have hrd := fun W => round_any b t W hb (by omega)
  rw [show encE b t = 0 by unfold encE; rw [if_pos hr, hex], show encX b t = true by unfold encX; rw [hr, hex, hdn, hup]; simp, hr] at hd
  rw [hr, if_pos rfl, if_pos rfl, hex, hdn, hup] at hrd
  obtain ⟨x2, g2⟩ : ∃ x, encB b t = x := ⟨_, rfl⟩
  obtain ⟨x3, g3⟩ : ∃ x, encT b t = x := ⟨_, rfl⟩
  rw [g2, g3] at hd
  have HD := hide hd
  have HR := hide hrd
  clear hd hrd hex hr hdn hup g2 g3 hn
  go_enter Try.func8, Try.ntmps8
  go_wp2_with fail
  refine (HD.out _).mono ?_
  rintro e' w1 ⟨rfl, m1, rfl⟩
  go_wp2_with fail
  refine (HR.out _).mono ?_
  rintro e' w2 ⟨rfl, rfl⟩
  go_wp2_with fail
  refine (bworks_any _).mono ?_
  rintro e' w3 ⟨rfl, hb3⟩
  have HB3 := hide hb3; clear hb3
  go_wp2
  go_ret
  exact ⟨rfl, below_of_drewN HB3.out⟩
theorem bexact_law : LawWalk 8 Try.f8 := by
  intro H enc W base args ds p hval hA
  rw [Try.params8] at hA hval
  obtain ⟨v0, vs0, d0, ds0, p0, q0, hargs, rfl, rfl, h0, r0⟩ := trodAll_cons hA
  obtain ⟨v1, vs1, d1, ds1, p1, q1, rfl, rfl, rfl, h1, r1⟩ := trodAll_cons r0
  obtain ⟨rfl, rfl, rfl⟩ := trodAll_nil r1
  obtain rfl : args = #[v0, v1] := by cases args; simp_all
  obtain ⟨a0, rfl, rfl, rfl, w0⟩ := open_int Try.underlying25 (hval 0 _ v0 rfl rfl) h0
  have b0 := wf_u32 w0
  obtain ⟨a1, rfl, rfl, rfl, w1⟩ := open_int Try.underlying22 (hval 1 _ v1 rfl rfl) h1
  have b1 := wf_u16 w1
  obtain ⟨b, rfl⟩ := Int.eq_ofNat_of_zero_le b0.1
  obtain ⟨s, rfl⟩ := Int.eq_ofNat_of_zero_le b1.1
  exact bexact_walk b s W (by omega) (by omega)
set_option maxRecDepth 100000 in
theorem boundsExact_proved : Rows.BoundsExactSaid :=
  OpenClaim.holds_of_wide 8 Try.f8 rfl rfl rfl rfl rfl rfl rfl ⟨rfl, rfl, rfl, rfl, rfl⟩ rfl rfl rfl rfl rfl (by kernel_rfl) Try.func8 (by kernel_rfl)
    (of_decide_eq_true (by kernel_rfl)) (by unfold Func.isWrapper; first | (rw [if_pos (by decide +kernel)]; kernel_rfl) | (rw [if_neg (by decide +kernel)]; exact ⟨rfl, rfl⟩))
    (fun os started H enc _ => law_lifted 8 Try.f8 Rows.boundsExactSpec Rows.boundsExactRow.domain Try.func8 (by kernel_rfl) rfl rfl
      (fun H ds hd => by match ds, hd with | [d0, d1], _ => exact ⟨rfl, rfl, rfl⟩) (by decide +kernel) bexact_law os started H enc
      (ChangeSpec.witness6 (enc := enc) (C := Try.checked) false ⟨#[], #[.int .u32 0, .int .u16 0], []⟩ 8 (by kernel_rfl) (by kernel_rfl) (by kernel_rfl) (by kernel_rfl)))
#print axioms boundsExact_proved
end Go.Proofs.Ytmfoilobogbpcaa
