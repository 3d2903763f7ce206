/-
  BoundsTell: what any parts tell at any cursor is what the document says. No condition.
-/
import Derived.Test.YtmfoilobogbpcaaBndWorks
import Derived.Test.YtmfoilobogbpcaaFrame
namespace Go.Proofs.Ytmfoilobogbpcaa
open Go.ChangeShapes Go.WideShapes Go.ChangeAt Go.RowKit
open Go.ChangeMaps (open_string shut_string)

theorem btell_walk (e b t c : Nat) (w : World) (he : e < 256) (hb : b < 65536) (ht : t < 65536) (hc : c < 4294967296) :
    Calls Try.prog 3 #[.agg #[.int .u8 e, .int .u16 b, .int .u16 t], .int .u32 c] w fun e' w' => e' = .returned (.bool true) ∧ Below w.heap.size w w' := by
  have hd := fun W => decode_any e b t c W he hb ht hc
  have hr := fun W => rdecode_any e b t c W he hb ht hc
  obtain ⟨x, hx⟩ : ∃ x, (decN e b t c).1 = x := ⟨_, rfl⟩
  obtain ⟨y, hy⟩ : ∃ y, (decN e b t c).2 = y := ⟨_, rfl⟩
  rw [hx, hy] at hd hr
  have HD := hide hd
  have HR := hide hr
  clear hd hr hx hy
  go_enter Try.func3, Try.ntmps3
  go_wp2_with fail
  refine (HD.out _).mono ?_
  rintro e' w1 ⟨rfl, hb1⟩
  have f0 : w1.cell? ⟨w.heap.size, 0, none⟩ = some (.int .u8 e) := (hb1.cell (p := ⟨w.heap.size, 0, none⟩) (by simp)).trans (cell_of_row _ _ 0 _ _ _ (heap_alloc_new w _))
  have f1 : w1.cell? ⟨w.heap.size, 1, none⟩ = some (.int .u16 b) := (hb1.cell (p := ⟨w.heap.size, 1, none⟩) (by simp)).trans (cell_of_row _ _ 1 _ _ _ (heap_alloc_new w _))
  have f2 : w1.cell? ⟨w.heap.size, 2, none⟩ = some (.int .u16 t) := (hb1.cell (p := ⟨w.heap.size, 2, none⟩) (by simp)).trans (cell_of_row _ _ 2 _ _ _ (heap_alloc_new w _))
  have HB1 : Hid (Below w.heap.size w w1) := ((Below.refl _ _).alloc (Nat.le_refl _) _).trans (hb1.mono (by simp))
  clear hb1
  go_wp2_with fail
  refine (HR.out _).mono ?_
  rintro e' w2 ⟨rfl, rfl⟩
  go_wp2_with fail
  refine (bworks_any _).mono ?_
  rintro e' w3 ⟨rfl, hb3⟩
  have HB3 := hide hb3; clear hb3
  go_wp2
  go_ret
  exact ⟨rfl, HB1.out.trans (HB3.out.mono HB1.out.size)⟩
theorem btell_law : LawWalk 3 Try.f3 := by
  intro H enc W base args ds p hval hA
  rw [Try.params3] at hA hval
  obtain ⟨v0, vs0, d0, ds0, p0, q0, hargs, rfl, rfl, h0, r0⟩ := trodAll_cons hA
  obtain ⟨v1, vs1, d1, ds1, p1, q1, rfl, rfl, rfl, h1, r1⟩ := trodAll_cons r0
  obtain ⟨rfl, rfl, rfl⟩ := trodAll_nil r1
  obtain rfl : args = #[v0, v1] := by cases args; simp_all
  obtain ⟨c0_0, c0_1, c0_2, y0_0, y0_1, y0_2, m0, rfl, rfl, rfl, hy0_0, hy0_1, hy0_2⟩ := Go.Joins.open_agg3 Try.underlying24 (by kernel_rfl) (by kernel_rfl) (hval 0 _ v0 rfl rfl) h0
  obtain ⟨a0_0, e0_0, _, w0_0⟩ := DataW.trod_int Try.underlying5 hy0_0
  simp at e0_0; subst e0_0
  have b0_0 := wf_u8 w0_0
  obtain ⟨a0_1, e0_1, _, w0_1⟩ := DataW.trod_int Try.underlying22 hy0_1
  simp at e0_1; subst e0_1
  have b0_1 := wf_u16 w0_1
  obtain ⟨a0_2, e0_2, _, w0_2⟩ := DataW.trod_int Try.underlying22 hy0_2
  simp at e0_2; subst e0_2
  have b0_2 := wf_u16 w0_2
  obtain ⟨a1, rfl, rfl, rfl, w1⟩ := open_int Try.underlying25 (hval 1 _ v1 rfl rfl) h1
  have b1 := wf_u32 w1
  obtain ⟨e, rfl⟩ := Int.eq_ofNat_of_zero_le b0_0.1
  obtain ⟨b, rfl⟩ := Int.eq_ofNat_of_zero_le b0_1.1
  obtain ⟨t, rfl⟩ := Int.eq_ofNat_of_zero_le b0_2.1
  obtain ⟨c, rfl⟩ := Int.eq_ofNat_of_zero_le b1.1
  exact btell_walk e b t c W (by omega) (by omega) (by omega) (by omega)
set_option maxRecDepth 100000 in
theorem boundsTell_proved : Rows.BoundsTellSaid :=
  OpenClaim.holds_of_wide 3 Try.f3 rfl rfl rfl rfl rfl rfl rfl ⟨rfl, rfl, rfl, rfl, rfl⟩ rfl rfl rfl rfl rfl (by kernel_rfl) Try.func3 (by kernel_rfl)
    (of_decide_eq_true (by kernel_rfl)) (by unfold Func.isWrapper; first | (rw [if_pos (by decide +kernel)]; kernel_rfl) | (rw [if_neg (by decide +kernel)]; exact ⟨rfl, rfl⟩))
    (fun os started H enc _ => law_lifted 3 Try.f3 Rows.boundsTellSpec Rows.boundsTellRow.domain Try.func3 (by kernel_rfl) rfl rfl
      (fun H ds hd => by match ds, hd with | [d0, d1], _ => exact ⟨rfl, rfl, rfl⟩) (by decide +kernel) btell_law os started H enc
      (ChangeSpec.witness6 (enc := enc) (C := Try.checked) false ⟨#[], #[.agg #[.int .u8 0, .int .u16 0, .int .u16 0], .int .u32 0], []⟩ 8 (by kernel_rfl) (by kernel_rfl) (by kernel_rfl) (by kernel_rfl)))
#print axioms boundsTell_proved
end Go.Proofs.Ytmfoilobogbpcaa
