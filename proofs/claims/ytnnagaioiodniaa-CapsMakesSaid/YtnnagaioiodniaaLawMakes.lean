/-
  CapsMakes: the capability of any region, with any permissions, is what the document says. No condition.
-/
import Derived.Test.YtnnagaioiodniaaCapWorks
import Derived.Test.YtnnagaioiodniaaFrame
import Derived.Test.YtnnagaioiodniaaOpen
namespace Go.Proofs.Ytnnagaioiodniaa
open Go.ChangeShapes Go.WideShapes Go.ChangeAt Go.RowKit
open Go.ChangeMaps (open_string shut_string)
attribute [local go_sem ↓] Go.wp_at_zero Go.wp_at_succ

set_option maxRecDepth 100000 in
set_option maxHeartbeats 1000000 in
theorem makes_y (a s p : Nat) (w : World) (ha : a < 4294967296) (hs : s < 4294967296) (h : makeOk a s p = true) :
    Calls Try.prog 4 #[.agg #[.int .u32 a, .int .u32 s], .int .u16 p] w fun e' w' => e' = .returned (.bool true) ∧ Below w.heap.size w w' := by
  have h1 := fun W => make_y a s p W ha hs h
  have h2 := fun W => rmake_y a s p W ha hs h
  obtain ⟨e, he0⟩ : ∃ e, encE a (a + s) = e := ⟨_, rfl⟩
  obtain ⟨b, hb0⟩ : ∃ b, encB a (a + s) = b := ⟨_, rfl⟩
  obtain ⟨t, ht0⟩ : ∃ t, encT a (a + s) = t := ⟨_, rfl⟩
  rw [he0, hb0, ht0] at h1 h2
  clear he0 hb0 ht0
  have he := fun W => eql_cap a e b t p 0 0 true a e b t p 0 0 true W
  rw [capEq_self] at he
  simp only [Int.cast_ofNat_Int] at he
  have H1 := hide h1
  have H2 := hide h2
  clear h1 h2 h
  go_enter Try.func4, Try.ntmps4
  go_wp2_with fail
  refine (H1.out _).mono ?_
  rintro e' w1 ⟨rfl, hb1⟩
  obtain ⟨hc1, hf1⟩ := bcell hb1
  have hz1 := hb1.size
  simp at hz1
  have l1 : w.heap.size < w1.heap.size := by omega
  have HB1 := hide hb1; clear hb1
  go_wp2_with fail
  refine (H2.out _).mono ?_
  rintro e' w2 ⟨rfl, hb2⟩
  obtain ⟨hc2, hf2⟩ := bcell hb2
  have hz2 := hb2.size
  simp at hz2
  have l2 : w1.heap.size < w2.heap.size := by omega
  have HB2 := hide hb2; clear hb2
  go_wp2_with fail
  refine (cworks_any _).mono ?_
  rintro e' w3 ⟨rfl, hb3⟩
  have HB3 := hide hb3; clear hb3
  go_wp2
  go_ret
  have k1 := ((Below.refl _ _).alloc (Nat.le_refl _) _).trans (HB1.out.mono (by simp))
  have k2 := (k1.alloc k1.size _).trans (HB2.out.mono (by simp; have := k1.size; omega))
  exact ⟨rfl, (k2.alloc k2.size _).trans (HB3.out.mono (by simp; have := k2.size; omega))⟩

set_option maxRecDepth 100000 in
set_option maxHeartbeats 1000000 in
theorem makes_n (a s p : Nat) (w : World) (ha : a < 4294967296) (hs : s < 4294967296) (h : makeOk a s p = false) :
    Calls Try.prog 4 #[.agg #[.int .u32 a, .int .u32 s], .int .u16 p] w fun e' w' => e' = .returned (.bool true) ∧ Below w.heap.size w w' := by
  have h1 := fun W => make_n a s p W ha hs h
  have h2 := fun W => rmake_n a s p W ha hs h
  have he := fun W => eql_cap 0 0 0 0 0 0 0 false 0 0 0 0 0 0 0 false W
  rw [capEq_self] at he
  simp only [Int.cast_ofNat_Int] at he
  have H1 := hide h1
  have H2 := hide h2
  clear h1 h2 h
  go_enter Try.func4, Try.ntmps4
  go_wp2_with fail
  refine (H1.out _).mono ?_
  rintro e' w1 ⟨rfl, hb1⟩
  obtain ⟨hc1, hf1⟩ := bcell hb1
  have hz1 := hb1.size
  simp at hz1
  have l1 : w.heap.size < w1.heap.size := by omega
  have HB1 := hide hb1; clear hb1
  go_wp2_with fail
  refine (H2.out _).mono ?_
  rintro e' w2 ⟨rfl, hb2⟩
  obtain ⟨hc2, hf2⟩ := bcell hb2
  have hz2 := hb2.size
  simp at hz2
  have l2 : w1.heap.size < w2.heap.size := by omega
  have HB2 := hide hb2; clear hb2
  go_wp2_with fail
  refine (cworks_any _).mono ?_
  rintro e' w3 ⟨rfl, hb3⟩
  have HB3 := hide hb3; clear hb3
  go_wp2
  go_ret
  have k1 := ((Below.refl _ _).alloc (Nat.le_refl _) _).trans (HB1.out.mono (by simp))
  have k2 := (k1.alloc k1.size _).trans (HB2.out.mono (by simp; have := k1.size; omega))
  exact ⟨rfl, (k2.alloc k2.size _).trans (HB3.out.mono (by simp; have := k2.size; omega))⟩

theorem makes_law : LawWalk 4 Try.f4 := by
  intro H enc W base args ds p hval hA
  rw [Try.params4] at hA hval
  obtain ⟨v0, vs0, d0, ds0, p0, q0, hargs, rfl, rfl, h0, r0⟩ := trodAll_cons hA
  obtain ⟨v1, vs1, d1, ds1, p1, q1, rfl, rfl, rfl, h1, r1⟩ := trodAll_cons r0
  obtain ⟨rfl, rfl, rfl⟩ := trodAll_nil r1
  obtain rfl : args = #[v0, v1] := by cases args; simp_all
  obtain ⟨c0_0, c0_1, y0_0, y0_1, m0, rfl, rfl, rfl, hy0_0, hy0_1⟩ := Go.Joins.open_agg2 Try.underlying27 (by kernel_rfl) (by kernel_rfl) (hval 0 _ v0 rfl rfl) h0
  obtain ⟨a0_0, e0_0, _, w0_0⟩ := DataW.trod_int Try.underlying22 hy0_0
  simp at e0_0; subst e0_0
  have b0_0 := wf_u32 w0_0
  obtain ⟨a0_1, e0_1, _, w0_1⟩ := DataW.trod_int Try.underlying22 hy0_1
  simp at e0_1; subst e0_1
  have b0_1 := wf_u32 w0_1
  obtain ⟨a1, rfl, rfl, rfl, w1⟩ := open_int Try.underlying23 (hval 1 _ v1 rfl rfl) h1
  have b1 := wf_u16 w1
  obtain ⟨a, rfl⟩ := Int.eq_ofNat_of_zero_le b0_0.1
  obtain ⟨s, rfl⟩ := Int.eq_ofNat_of_zero_le b0_1.1
  obtain ⟨p, rfl⟩ := Int.eq_ofNat_of_zero_le b1.1
  by_cases h : makeOk a s p = true
  · exact makes_y a s p W (by omega) (by omega) h
  · exact makes_n a s p W (by omega) (by omega) (by simpa using h)
set_option maxRecDepth 100000 in
theorem capsMakes_proved : Rows.CapsMakesSaid :=
  OpenClaim.holds_of_wide 4 Try.f4 rfl rfl rfl rfl rfl rfl rfl ⟨rfl, rfl, rfl, rfl, rfl⟩ rfl rfl rfl rfl rfl (by kernel_rfl) Try.func4 (by kernel_rfl)
    (of_decide_eq_true (by kernel_rfl)) (by unfold Func.isWrapper; first | (rw [if_pos (by decide +kernel)]; kernel_rfl) | (rw [if_neg (by decide +kernel)]; exact ⟨rfl, rfl⟩))
    (fun os started H enc _ => law_lifted 4 Try.f4 Rows.capsMakesSpec Rows.capsMakesRow.domain Try.func4 (by kernel_rfl) rfl rfl
      (fun H ds hd => by match ds, hd with | [d0, d1], _ => exact ⟨rfl, rfl, rfl⟩) (by decide +kernel) makes_law os started H enc
      (ChangeSpec.witness6 (enc := enc) (C := Try.checked) false ⟨#[], #[.agg #[.int .u32 0, .int .u32 0], .int .u16 0], []⟩ 8 (by kernel_rfl) (by kernel_rfl) (by kernel_rfl) (by kernel_rfl)))
#print axioms capsMakes_proved
end Go.Proofs.Ytnnagaioiodniaa
