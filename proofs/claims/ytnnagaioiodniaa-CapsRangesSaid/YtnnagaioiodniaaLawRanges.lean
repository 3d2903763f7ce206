/-
  CapsRanges: a capability's bounds, and whether they hold, or meet, a region, are what the document says. No condition.
-/
import Derived.Test.YtnnagaioiodniaaCapWorks
import Derived.Test.YtnnagaioiodniaaFrame
import Derived.Test.YtnnagaioiodniaaOpen
namespace Go.Proofs.Ytnnagaioiodniaa
open Go.ChangeShapes Go.WideShapes Go.ChangeAt Go.RowKit
open Go.ChangeMaps (open_string shut_string)
attribute [local go_sem ↓] Go.wp_at_zero Go.wp_at_succ

set_option maxRecDepth 100000 in
set_option maxHeartbeats 2000000 in
theorem ranges_walk (cC cE cB cT cP cY cR : Nat) (cV : Bool) (a s x y : Nat) (w : World) (cl : capB cC cE cB cT cP cY cR) (ha : a < 4294967296) (hs : s < 4294967296) (hx : (decN cE cB cT cC).1 = x) (hy : (decN cE cB cT cC).2 = y) :
    Calls Try.prog 3 #[.agg #[.int .u32 cC, .int .u8 cE, .int .u16 cB, .int .u16 cT, .int .u16 cP, .int .u16 cY, .int .u32 cR, .bool cV], .agg #[.int .u32 a, .int .u32 s]] w fun e' w' => e' = .returned (.bool true) ∧ Below w.heap.size w w' := by
  obtain ⟨kh, hkh⟩ : ∃ k, holdsN x y a s = k := ⟨_, rfl⟩
  obtain ⟨km, hkm⟩ : ∃ k, meetsN x y a s = k := ⟨_, rfl⟩
  have H1 : Hid (∀ W, Calls Try.prog 12 #[.agg #[.int .u32 cC, .int .u8 cE, .int .u16 cB, .int .u16 cT, .int .u16 cP, .int .u16 cY, .int .u32 cR, .bool cV]] W fun e' w' => e' = .returned (.tuple #[.int .u32 x, .int .u64 y]) ∧ Below W.heap.size W w') := fun W => range_is cC cE cB cT cP cY cR cV x y W cl hx hy
  have H2 : Hid (∀ W, Calls Try.prog 13 #[.agg #[.int .u32 cC, .int .u8 cE, .int .u16 cB, .int .u16 cT, .int .u16 cP, .int .u16 cY, .int .u32 cR, .bool cV]] W fun e' w' => e' = .returned (.tuple #[.int .u32 x, .int .u64 y]) ∧ Below W.heap.size W w') := fun W => rrange_is cC cE cB cT cP cY cR cV x y W cl hx hy
  have h3 := fun W => holds_any cC cE cB cT cP cY cR cV a s x y W cl ha hs hx hy
  have h4 := fun W => rholds_any cC cE cB cT cP cY cR cV a s x y W cl ha hs hx hy
  have h5 := fun W => meets_any cC cE cB cT cP cY cR cV a s x y W cl ha hs hx hy
  have h6 := fun W => rmeets_any cC cE cB cT cP cY cR cV a s x y W cl ha hs hx hy
  rw [hkh] at h3 h4
  rw [hkm] at h5 h6
  have H3 := hide h3
  have H4 := hide h4
  have H5 := hide h5
  have H6 := hide h6
  clear h3 h4 h5 h6 hkh hkm hx hy
  go_enter Try.func3, Try.ntmps3
  go_wp2_with fail
  refine (H1.out _).mono ?_
  rintro e' w1 ⟨rfl, hb1⟩
  obtain ⟨hc1, hf1⟩ := bcell hb1
  have hz1 := hb1.size
  simp at hz1
  go_wp2_with fail
  refine (H2.out _).mono ?_
  rintro e' w2 ⟨rfl, hb2⟩
  have hk1 := ((Blk.new1 w _ _ _).below hb1 (by simp; omega)).below hb2 (by omega)
  have hk2 := ((Blk.new2 w _ _ _).below hb1 (by simp)).below hb2 (by omega)
  have hz2 := hb2.size
  have HB1 := hide hb1
  have HB2 := hide hb2
  have KK : Hid (∀ W, Below w2.heap.size w2 W → W.cell? ⟨w.heap.size, 0, none⟩ = some (.int .u32 cC) ∧ W.cell? ⟨w.heap.size, 1, none⟩ = some (.int .u8 cE) ∧ W.cell? ⟨w.heap.size, 2, none⟩ = some (.int .u16 cB) ∧ W.cell? ⟨w.heap.size, 3, none⟩ = some (.int .u16 cT) ∧ W.cell? ⟨w.heap.size, 4, none⟩ = some (.int .u16 cP) ∧ W.cell? ⟨w.heap.size, 5, none⟩ = some (.int .u16 cY) ∧ W.cell? ⟨w.heap.size, 6, none⟩ = some (.int .u32 cR) ∧ W.cell? ⟨w.heap.size, 7, none⟩ = some (.bool cV) ∧ W.cell? ⟨w.heap.size + 1, 0, none⟩ = some (.int .u32 a) ∧ W.cell? ⟨w.heap.size + 1, 1, none⟩ = some (.int .u32 s)) := fun W hW => ⟨(hk1.below hW (by omega)).cell 0, (hk1.below hW (by omega)).cell 1, (hk1.below hW (by omega)).cell 2, (hk1.below hW (by omega)).cell 3, (hk1.below hW (by omega)).cell 4, (hk1.below hW (by omega)).cell 5, (hk1.below hW (by omega)).cell 6, (hk1.below hW (by omega)).cell 7, (hk2.below hW (by omega)).cell 0, (hk2.below hW (by omega)).cell 1⟩
  have hK : Below w2.heap.size w2 w2 := Below.refl _ _
  clear hb1 hb2 hc1 hf1 hk1 hk2
  go_wp2_with fail
  go_region_held3 (fun w' => w'.cell? ⟨w.heap.size, 0, none⟩ = some (.int .u32 cC) ∧ w'.cell? ⟨w.heap.size, 1, none⟩ = some (.int .u8 cE) ∧ w'.cell? ⟨w.heap.size, 2, none⟩ = some (.int .u16 cB) ∧ w'.cell? ⟨w.heap.size, 3, none⟩ = some (.int .u16 cT) ∧ w'.cell? ⟨w.heap.size, 4, none⟩ = some (.int .u16 cP) ∧ w'.cell? ⟨w.heap.size, 5, none⟩ = some (.int .u16 cY) ∧ w'.cell? ⟨w.heap.size, 6, none⟩ = some (.int .u32 cR) ∧ w'.cell? ⟨w.heap.size, 7, none⟩ = some (.bool cV) ∧ w'.cell? ⟨w.heap.size + 1, 0, none⟩ = some (.int .u32 a) ∧ w'.cell? ⟨w.heap.size + 1, 1, none⟩ = some (.int .u32 s)) ((refine KK.out _ ?_; first | exact hK | exact hK.drew | exact below_drewN hK _ | exact (below_drewN hK _).drew))
    (first
      | (go_at_call 14; refine (H3.out _).mono ?_; rintro e' w9 ⟨rfl, hb⟩; have hK' := Below.trans (show Below _ _ _ from by first | exact hK | exact hK.drew | exact below_drewN hK _) (hb.mono (by first | exact hK.size | exact Nat.le_trans hK.size (Nat.le_refl _))); clear hb hK; have hK := hK'; clear hK')
      | (go_at_call 15; refine (H4.out _).mono ?_; rintro e' w9 ⟨rfl, hb⟩; have hK' := Below.trans (show Below _ _ _ from by first | exact hK | exact hK.drew | exact below_drewN hK _) (hb.mono (by first | exact hK.size | exact Nat.le_trans hK.size (Nat.le_refl _))); clear hb hK; have hK := hK'; clear hK')
      | (go_at_call 16; refine (H5.out _).mono ?_; rintro e' w9 ⟨rfl, hb⟩; have hK' := Below.trans (show Below _ _ _ from by first | exact hK | exact hK.drew | exact below_drewN hK _) (hb.mono (by first | exact hK.size | exact Nat.le_trans hK.size (Nat.le_refl _))); clear hb hK; have hK := hK'; clear hK')
      | (go_at_call 17; refine (H6.out _).mono ?_; rintro e' w9 ⟨rfl, hb⟩; have hK' := Below.trans (show Below _ _ _ from by first | exact hK | exact hK.drew | exact below_drewN hK _) (hb.mono (by first | exact hK.size | exact Nat.le_trans hK.size (Nat.le_refl _))); clear hb hK; have hK := hK'; clear hK')
      | (go_at_call 18; refine (cworks_any _).mono ?_; rintro e' w9 ⟨rfl, hb⟩; have hK' := Below.trans (show Below _ _ _ from by first | exact hK | exact hK.drew | exact below_drewN hK _) (hb.mono (by first | exact hK.size | exact Nat.le_trans hK.size (Nat.le_refl _))); clear hb hK; have hK := hK'; clear hK'))
  all_goals
    have HK := hide hK; clear hK
    go_wp2
    go_ret
    exact ⟨rfl, (((((Below.refl _ _).alloc (Nat.le_refl _) _).alloc (by simp) _).trans (HB1.out.mono (by simp; omega))).trans (HB2.out.mono (by omega))).trans (HK.out.mono (by omega))⟩
theorem ranges_law : LawWalk 3 Try.f3 := by
  intro H enc W base args ds p hval hA
  rw [Try.params3] at hA hval
  obtain ⟨v0, vs0, d0, ds0, p0, q0, hargs, rfl, rfl, h0, r0⟩ := trodAll_cons hA
  obtain ⟨v1, vs1, d1, ds1, p1, q1, rfl, rfl, rfl, h1, r1⟩ := trodAll_cons r0
  obtain ⟨rfl, rfl, rfl⟩ := trodAll_nil r1
  obtain rfl : args = #[v0, v1] := by cases args; simp_all
  obtain ⟨cs0, rfl, hcl0, hcf0⟩ := open_agg_all Try.underlying25 (by kernel_rfl) (by kernel_rfl) (hval 0 _ v0 rfl rfl) h0
  obtain ⟨u0_0, y0_0, n0_0, hu0_0, hy0_0⟩ := hcf0 0 _ rfl
  obtain ⟨a0_0, e0_0, _, w0_0⟩ := DataW.trod_int Try.underlying22 hy0_0
  simp at e0_0; subst e0_0
  have b0_0 := wf_u32 w0_0
  obtain ⟨a0_0, rfl⟩ := Int.eq_ofNat_of_zero_le b0_0.1
  obtain ⟨u0_1, y0_1, n0_1, hu0_1, hy0_1⟩ := hcf0 1 _ rfl
  obtain ⟨a0_1, e0_1, _, w0_1⟩ := DataW.trod_int Try.underlying5 hy0_1
  simp at e0_1; subst e0_1
  have b0_1 := wf_u8 w0_1
  obtain ⟨a0_1, rfl⟩ := Int.eq_ofNat_of_zero_le b0_1.1
  obtain ⟨u0_2, y0_2, n0_2, hu0_2, hy0_2⟩ := hcf0 2 _ rfl
  obtain ⟨a0_2, e0_2, _, w0_2⟩ := DataW.trod_int Try.underlying23 hy0_2
  simp at e0_2; subst e0_2
  have b0_2 := wf_u16 w0_2
  obtain ⟨a0_2, rfl⟩ := Int.eq_ofNat_of_zero_le b0_2.1
  obtain ⟨u0_3, y0_3, n0_3, hu0_3, hy0_3⟩ := hcf0 3 _ rfl
  obtain ⟨a0_3, e0_3, _, w0_3⟩ := DataW.trod_int Try.underlying23 hy0_3
  simp at e0_3; subst e0_3
  have b0_3 := wf_u16 w0_3
  obtain ⟨a0_3, rfl⟩ := Int.eq_ofNat_of_zero_le b0_3.1
  obtain ⟨u0_4, y0_4, n0_4, hu0_4, hy0_4⟩ := hcf0 4 _ rfl
  obtain ⟨a0_4, e0_4, _, w0_4⟩ := DataW.trod_int Try.underlying23 hy0_4
  simp at e0_4; subst e0_4
  have b0_4 := wf_u16 w0_4
  obtain ⟨a0_4, rfl⟩ := Int.eq_ofNat_of_zero_le b0_4.1
  obtain ⟨u0_5, y0_5, n0_5, hu0_5, hy0_5⟩ := hcf0 5 _ rfl
  obtain ⟨a0_5, e0_5, _, w0_5⟩ := DataW.trod_int Try.underlying23 hy0_5
  simp at e0_5; subst e0_5
  have b0_5 := wf_u16 w0_5
  obtain ⟨a0_5, rfl⟩ := Int.eq_ofNat_of_zero_le b0_5.1
  obtain ⟨u0_6, y0_6, n0_6, hu0_6, hy0_6⟩ := hcf0 6 _ rfl
  obtain ⟨a0_6, e0_6, _, w0_6⟩ := DataW.trod_int Try.underlying22 hy0_6
  simp at e0_6; subst e0_6
  have b0_6 := wf_u32 w0_6
  obtain ⟨a0_6, rfl⟩ := Int.eq_ofNat_of_zero_le b0_6.1
  obtain ⟨u0_7, y0_7, n0_7, hu0_7, hy0_7⟩ := hcf0 7 _ rfl
  obtain ⟨a0_7, e0_7, _⟩ := DataW.trod_bool Try.underlying4 hy0_7
  simp at e0_7; subst e0_7
  obtain rfl := eq8 hcl0 hu0_0 hu0_1 hu0_2 hu0_3 hu0_4 hu0_5 hu0_6 hu0_7
  clear hcf0
  obtain ⟨c1_0, c1_1, y1_0, y1_1, m1, rfl, rfl, rfl, hy1_0, hy1_1⟩ := Go.Joins.open_agg2 Try.underlying27 (by kernel_rfl) (by kernel_rfl) (hval 1 _ v1 rfl rfl) h1
  obtain ⟨a1_0, e1_0, _, w1_0⟩ := DataW.trod_int Try.underlying22 hy1_0
  simp at e1_0; subst e1_0
  have b1_0 := wf_u32 w1_0
  obtain ⟨a1_1, e1_1, _, w1_1⟩ := DataW.trod_int Try.underlying22 hy1_1
  simp at e1_1; subst e1_1
  have b1_1 := wf_u32 w1_1
  obtain ⟨a1_0, rfl⟩ := Int.eq_ofNat_of_zero_le b1_0.1
  obtain ⟨a1_1, rfl⟩ := Int.eq_ofNat_of_zero_le b1_1.1
  exact ranges_walk a0_0 a0_1 a0_2 a0_3 a0_4 a0_5 a0_6 a0_7 a1_0 a1_1 _ _ W ⟨by omega, by omega, by omega, by omega, by omega, by omega, by omega⟩ (by omega) (by omega) rfl rfl
set_option maxRecDepth 100000 in
theorem capsRanges_proved : Rows.CapsRangesSaid :=
  OpenClaim.holds_of_wide 3 Try.f3 rfl rfl rfl rfl rfl rfl rfl ⟨rfl, rfl, rfl, rfl, rfl⟩ rfl rfl rfl rfl rfl (by kernel_rfl) Try.func3 (by kernel_rfl)
    (of_decide_eq_true (by kernel_rfl)) (by unfold Func.isWrapper; first | (rw [if_pos (by decide +kernel)]; kernel_rfl) | (rw [if_neg (by decide +kernel)]; exact ⟨rfl, rfl⟩))
    (fun os started H enc _ => law_lifted 3 Try.f3 Rows.capsRangesSpec Rows.capsRangesRow.domain Try.func3 (by kernel_rfl) rfl rfl
      (fun H ds hd => by match ds, hd with | [d0, d1], _ => exact ⟨rfl, rfl, rfl⟩) (by decide +kernel) ranges_law os started H enc
      (ChangeSpec.witness6 (enc := enc) (C := Try.checked) false ⟨#[], #[.agg #[.int .u32 0, .int .u8 0, .int .u16 0, .int .u16 0, .int .u16 0, .int .u16 0, .int .u32 0, .bool false], .agg #[.int .u32 0, .int .u32 0]], []⟩ 8 (by kernel_rfl) (by kernel_rfl) (by kernel_rfl) (by kernel_rfl)))
#print axioms capsRanges_proved
end Go.Proofs.Ytnnagaioiodniaa
