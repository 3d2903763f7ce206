/-
  BoundsKeep: whether any parts tell the same at two cursors is what the document says. No condition.
-/
import Derived.Test.YtmfoilobogbpcaaBndWorks
import Derived.Test.YtmfoilobogbpcaaFrame
namespace Go.Proofs.Ytmfoilobogbpcaa
open Go.ChangeShapes Go.WideShapes Go.ChangeAt Go.RowKit
open Go.ChangeMaps (open_string shut_string)

theorem bkeep_walk (e b t c n : Nat) (w : World) (he : e < 256) (hb : b < 65536) (ht : t < 65536) (hc : c < 4294967296) (hn : n < 4294967296) :
    Calls Try.prog 5 #[.agg #[.int .u8 e, .int .u16 b, .int .u16 t], .int .u32 c, .int .u32 n] w fun e' w' => e' = .returned (.bool true) ∧ Below w.heap.size w w' := by
  have hd := fun W => keeps_any e b t c n W he hb ht hc hn
  have hr := fun W => rkeeps_any e b t c n W he hb ht hc hn
  obtain ⟨x, hx⟩ : ∃ x, keepsN e b t c n = x := ⟨_, rfl⟩
  rw [hx] at hd hr
  have HD := hide hd
  have HR := hide hr
  clear hd hr hx
  have KK : Hid (∀ W, Below (w.heap.size + 1) (w.alloc (.cells #[.int .u8 e, .int .u16 b, .int .u16 t] 24)) W → W.cell? ⟨w.heap.size, 0, none⟩ = some (.int .u8 e) ∧ W.cell? ⟨w.heap.size, 1, none⟩ = some (.int .u16 b) ∧ W.cell? ⟨w.heap.size, 2, none⟩ = some (.int .u16 t)) := fun W hW =>
    ⟨(hW.cell (p := ⟨w.heap.size, 0, none⟩) (by show w.heap.size < _; omega)).trans (cell_of_row _ _ 0 _ _ _ (heap_alloc_new w _)), (hW.cell (p := ⟨w.heap.size, 1, none⟩) (by show w.heap.size < _; omega)).trans (cell_of_row _ _ 1 _ _ _ (heap_alloc_new w _)), (hW.cell (p := ⟨w.heap.size, 2, none⟩) (by show w.heap.size < _; omega)).trans (cell_of_row _ _ 2 _ _ _ (heap_alloc_new w _))⟩
  go_enter Try.func5, Try.ntmps5
  go_wp2_with fail
  go_region_held3 (fun w' => w'.cell? ⟨w.heap.size, 0, none⟩ = some (.int .u8 e) ∧ w'.cell? ⟨w.heap.size, 1, none⟩ = some (.int .u16 b) ∧ w'.cell? ⟨w.heap.size, 2, none⟩ = some (.int .u16 t)) (first | exact KK.out _ HB3.out | exact KK.out _ HB1.out | exact KK.out _ ((Below.refl _ _).drew))
    (first
      | (go_at_call 18; refine (HD.out _).mono ?_; rintro e' w1 ⟨rfl, hb1⟩; have HB1 : Hid (Below (w.heap.size + 1) (w.alloc (.cells #[.int .u8 e, .int .u16 b, .int .u16 t] 24)) w1) := ((Below.refl _ _).drew).trans (hb1.mono (by simp [World.drew])); clear hb1)
      | (go_at_call 19; refine (HR.out _).mono ?_; rintro e' w2 ⟨rfl, rfl⟩)
      | (go_at_call 15; refine (bworks_any _).mono ?_; rintro e' w3 ⟨rfl, hb3⟩; have HB3 : Hid (Below (w.heap.size + 1) (w.alloc (.cells #[.int .u8 e, .int .u16 b, .int .u16 t] 24)) w3) := HB1.out.trans (hb3.mono (by have := HB1.out.size; simp at this; omega)); clear hb3))
  go_wp2
  go_ret
  exact ⟨rfl, ((Below.refl _ _).alloc (Nat.le_refl _) _).trans (HB3.out.mono (by omega))⟩
theorem bkeep_law : LawWalk 5 Try.f5 := by
  intro H enc W base args ds p hval hA
  rw [Try.params5] at hA hval
  obtain ⟨v0, vs0, d0, ds0, p0, q0, hargs, rfl, rfl, h0, r0⟩ := trodAll_cons hA
  obtain ⟨v1, vs1, d1, ds1, p1, q1, rfl, rfl, rfl, h1, r1⟩ := trodAll_cons r0
  obtain ⟨v2, vs2, d2, ds2, p2, q2, rfl, rfl, rfl, h2, r2⟩ := trodAll_cons r1
  obtain ⟨rfl, rfl, rfl⟩ := trodAll_nil r2
  obtain rfl : args = #[v0, v1, v2] := by cases args; simp_all
  obtain ⟨c0_0, c0_1, c0_2, y0_0, y0_1, y0_2, m0, rfl, rfl, rfl, hy0_0, hy0_1, hy0_2⟩ := Go.Joins.open_agg3 Try.underlying24 (by kernel_rfl) (by kernel_rfl) (hval 0 _ v0 rfl rfl) h0
  obtain ⟨a0_0, e0_0, _, w0_0⟩ := DataW.trod_int Try.underlying5 hy0_0
  simp at e0_0; subst e0_0
  have b0_0 := wf_u8 w0_0
  obtain ⟨a0_1, e0_1, _, w0_1⟩ := DataW.trod_int Try.underlying22 hy0_1
  simp at e0_1; subst e0_1
  have b0_1 := wf_u16 w0_1
  obtain ⟨a0_2, e0_2, _, w0_2⟩ := DataW.trod_int Try.underlying22 hy0_2
  simp at e0_2; subst e0_2
  have b0_2 := wf_u16 w0_2
  obtain ⟨a1, rfl, rfl, rfl, w1⟩ := open_int Try.underlying25 (hval 1 _ v1 rfl rfl) h1
  have b1 := wf_u32 w1
  obtain ⟨a2, rfl, rfl, rfl, w2⟩ := open_int Try.underlying25 (hval 2 _ v2 rfl rfl) h2
  have b2 := wf_u32 w2
  obtain ⟨e, rfl⟩ := Int.eq_ofNat_of_zero_le b0_0.1
  obtain ⟨b, rfl⟩ := Int.eq_ofNat_of_zero_le b0_1.1
  obtain ⟨t, rfl⟩ := Int.eq_ofNat_of_zero_le b0_2.1
  obtain ⟨c, rfl⟩ := Int.eq_ofNat_of_zero_le b1.1
  obtain ⟨n, rfl⟩ := Int.eq_ofNat_of_zero_le b2.1
  exact bkeep_walk e b t c n W (by omega) (by omega) (by omega) (by omega) (by omega)
set_option maxRecDepth 100000 in
theorem boundsKeep_proved : Rows.BoundsKeepSaid :=
  OpenClaim.holds_of_wide 5 Try.f5 rfl rfl rfl rfl rfl rfl rfl ⟨rfl, rfl, rfl, rfl, rfl⟩ rfl rfl rfl rfl rfl (by kernel_rfl) Try.func5 (by kernel_rfl)
    (of_decide_eq_true (by kernel_rfl)) (by unfold Func.isWrapper; first | (rw [if_pos (by decide +kernel)]; kernel_rfl) | (rw [if_neg (by decide +kernel)]; exact ⟨rfl, rfl⟩))
    (fun os started H enc _ => law_lifted 5 Try.f5 Rows.boundsKeepSpec Rows.boundsKeepRow.domain Try.func5 (by kernel_rfl) rfl rfl
      (fun H ds hd => by match ds, hd with | [d0, d1, d2], _ => exact ⟨rfl, rfl, rfl⟩) (by decide +kernel) bkeep_law os started H enc
      (ChangeSpec.witness6 (enc := enc) (C := Try.checked) false ⟨#[], #[.agg #[.int .u8 0, .int .u16 0, .int .u16 0], .int .u32 0, .int .u32 0], []⟩ 8 (by kernel_rfl) (by kernel_rfl) (by kernel_rfl) (by kernel_rfl)))
#print axioms boundsKeep_proved
end Go.Proofs.Ytmfoilobogbpcaa
