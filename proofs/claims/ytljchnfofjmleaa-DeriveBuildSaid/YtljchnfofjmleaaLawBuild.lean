/-
  DeriveBuild: any bits are made valid by any capability, or not, as the document says. No condition.
-/
import Derived.Test.YtljchnfofjmleaaDerWorks
import Derived.Test.YtljchnfofjmleaaDerBld
import Derived.Test.YtljchnfofjmleaaFrame
import Derived.Test.YtljchnfofjmleaaOpen
namespace Go.Proofs.Ytljchnfofjmleaa
open Go.ChangeShapes Go.WideShapes Go.ChangeAt Go.RowKit
open Go.ChangeMaps (open_string shut_string)
attribute [local go_sem ↓] Go.wp_at_zero Go.wp_at_succ

set_option maxRecDepth 100000 in
set_option maxHeartbeats 2000000 in
theorem build_core (cC cE cB cT cP cY cR : Nat) (cV : Bool) (bC bE bB bT bP bY bR : Nat) (bV : Bool) (zC zE zB zT zP zY zR : Nat) (zV : Bool) (w : World)
    (H1 : Hid (∀ W, Calls Try.prog 30 #[.agg #[.int .u32 cC, .int .u8 cE, .int .u16 cB, .int .u16 cT, .int .u16 cP, .int .u16 cY, .int .u32 cR, .bool cV], .agg #[.int .u32 bC, .int .u8 bE, .int .u16 bB, .int .u16 bT, .int .u16 bP, .int .u16 bY, .int .u32 bR, .bool bV]] W fun e w' => e = .returned (.agg #[.int .u32 zC, .int .u8 zE, .int .u16 zB, .int .u16 zT, .int .u16 zP, .int .u16 zY, .int .u32 zR, .bool zV]) ∧ Below W.heap.size W w'))
    (H2 : Hid (∀ W, Calls Try.prog 31 #[.agg #[.int .u32 cC, .int .u8 cE, .int .u16 cB, .int .u16 cT, .int .u16 cP, .int .u16 cY, .int .u32 cR, .bool cV], .agg #[.int .u32 bC, .int .u8 bE, .int .u16 bB, .int .u16 bT, .int .u16 bP, .int .u16 bY, .int .u32 bR, .bool bV]] W fun e w' => e = .returned (.agg #[.int .u32 zC, .int .u8 zE, .int .u16 zB, .int .u16 zT, .int .u16 zP, .int .u16 zY, .int .u32 zR, .bool zV]) ∧ Below W.heap.size W w')) :
    Calls Try.prog 9 #[.agg #[.int .u32 cC, .int .u8 cE, .int .u16 cB, .int .u16 cT, .int .u16 cP, .int .u16 cY, .int .u32 cR, .bool cV], .agg #[.int .u32 bC, .int .u8 bE, .int .u16 bB, .int .u16 bT, .int .u16 bP, .int .u16 bY, .int .u32 bR, .bool bV]] w fun e w' => e = .returned (.bool true) ∧ Below w.heap.size w w' := by
  have hez := fun W => eql_cap zC zE zB zT zP zY zR zV zC zE zB zT zP zY zR zV W
  rw [capEq_self] at hez
  have KK : Hid (∀ W, Below ((w.alloc (.cells #[.int .u32 cC, .int .u8 cE, .int .u16 cB, .int .u16 cT, .int .u16 cP, .int .u16 cY, .int .u32 cR, .bool cV] 25)).alloc (.cells #[.int .u32 bC, .int .u8 bE, .int .u16 bB, .int .u16 bT, .int .u16 bP, .int .u16 bY, .int .u32 bR, .bool bV] 25)).heap.size ((w.alloc (.cells #[.int .u32 cC, .int .u8 cE, .int .u16 cB, .int .u16 cT, .int .u16 cP, .int .u16 cY, .int .u32 cR, .bool cV] 25)).alloc (.cells #[.int .u32 bC, .int .u8 bE, .int .u16 bB, .int .u16 bT, .int .u16 bP, .int .u16 bY, .int .u32 bR, .bool bV] 25)) W → W.cell? ⟨w.heap.size, 0, none⟩ = some (.int .u32 cC) ∧ W.cell? ⟨w.heap.size, 1, none⟩ = some (.int .u8 cE) ∧ W.cell? ⟨w.heap.size, 2, none⟩ = some (.int .u16 cB) ∧ W.cell? ⟨w.heap.size, 3, none⟩ = some (.int .u16 cT) ∧ W.cell? ⟨w.heap.size, 4, none⟩ = some (.int .u16 cP) ∧ W.cell? ⟨w.heap.size, 5, none⟩ = some (.int .u16 cY) ∧ W.cell? ⟨w.heap.size, 6, none⟩ = some (.int .u32 cR) ∧ W.cell? ⟨w.heap.size, 7, none⟩ = some (.bool cV) ∧ W.cell? ⟨w.heap.size + 1, 0, none⟩ = some (.int .u32 bC) ∧ W.cell? ⟨w.heap.size + 1, 1, none⟩ = some (.int .u8 bE) ∧ W.cell? ⟨w.heap.size + 1, 2, none⟩ = some (.int .u16 bB) ∧ W.cell? ⟨w.heap.size + 1, 3, none⟩ = some (.int .u16 bT) ∧ W.cell? ⟨w.heap.size + 1, 4, none⟩ = some (.int .u16 bP) ∧ W.cell? ⟨w.heap.size + 1, 5, none⟩ = some (.int .u16 bY) ∧ W.cell? ⟨w.heap.size + 1, 6, none⟩ = some (.int .u32 bR) ∧ W.cell? ⟨w.heap.size + 1, 7, none⟩ = some (.bool bV)) := fun W hW => ⟨((Blk.new1 w _ _ _).below hW (by first | (simp; done) | (simp; omega))).cell 0, ((Blk.new1 w _ _ _).below hW (by first | (simp; done) | (simp; omega))).cell 1, ((Blk.new1 w _ _ _).below hW (by first | (simp; done) | (simp; omega))).cell 2, ((Blk.new1 w _ _ _).below hW (by first | (simp; done) | (simp; omega))).cell 3, ((Blk.new1 w _ _ _).below hW (by first | (simp; done) | (simp; omega))).cell 4, ((Blk.new1 w _ _ _).below hW (by first | (simp; done) | (simp; omega))).cell 5, ((Blk.new1 w _ _ _).below hW (by first | (simp; done) | (simp; omega))).cell 6, ((Blk.new1 w _ _ _).below hW (by first | (simp; done) | (simp; omega))).cell 7, ((Blk.new2 w _ _ _).below hW (by first | (simp; done) | (simp; omega))).cell 0, ((Blk.new2 w _ _ _).below hW (by first | (simp; done) | (simp; omega))).cell 1, ((Blk.new2 w _ _ _).below hW (by first | (simp; done) | (simp; omega))).cell 2, ((Blk.new2 w _ _ _).below hW (by first | (simp; done) | (simp; omega))).cell 3, ((Blk.new2 w _ _ _).below hW (by first | (simp; done) | (simp; omega))).cell 4, ((Blk.new2 w _ _ _).below hW (by first | (simp; done) | (simp; omega))).cell 5, ((Blk.new2 w _ _ _).below hW (by first | (simp; done) | (simp; omega))).cell 6, ((Blk.new2 w _ _ _).below hW (by first | (simp; done) | (simp; omega))).cell 7⟩
  have hK : Below ((w.alloc (.cells #[.int .u32 cC, .int .u8 cE, .int .u16 cB, .int .u16 cT, .int .u16 cP, .int .u16 cY, .int .u32 cR, .bool cV] 25)).alloc (.cells #[.int .u32 bC, .int .u8 bE, .int .u16 bB, .int .u16 bT, .int .u16 bP, .int .u16 bY, .int .u32 bR, .bool bV] 25)).heap.size ((w.alloc (.cells #[.int .u32 cC, .int .u8 cE, .int .u16 cB, .int .u16 cT, .int .u16 cP, .int .u16 cY, .int .u32 cR, .bool cV] 25)).alloc (.cells #[.int .u32 bC, .int .u8 bE, .int .u16 bB, .int .u16 bT, .int .u16 bP, .int .u16 bY, .int .u32 bR, .bool bV] 25)) ((w.alloc (.cells #[.int .u32 cC, .int .u8 cE, .int .u16 cB, .int .u16 cT, .int .u16 cP, .int .u16 cY, .int .u32 cR, .bool cV] 25)).alloc (.cells #[.int .u32 bC, .int .u8 bE, .int .u16 bB, .int .u16 bT, .int .u16 bP, .int .u16 bY, .int .u32 bR, .bool bV] 25)) := Below.refl _ _
  go_enter Try.func9, Try.ntmps9
  go_wp2_with fail
  go_region_held3 (fun w' => w'.cell? ⟨w.heap.size, 0, none⟩ = some (.int .u32 cC) ∧ w'.cell? ⟨w.heap.size, 1, none⟩ = some (.int .u8 cE) ∧ w'.cell? ⟨w.heap.size, 2, none⟩ = some (.int .u16 cB) ∧ w'.cell? ⟨w.heap.size, 3, none⟩ = some (.int .u16 cT) ∧ w'.cell? ⟨w.heap.size, 4, none⟩ = some (.int .u16 cP) ∧ w'.cell? ⟨w.heap.size, 5, none⟩ = some (.int .u16 cY) ∧ w'.cell? ⟨w.heap.size, 6, none⟩ = some (.int .u32 cR) ∧ w'.cell? ⟨w.heap.size, 7, none⟩ = some (.bool cV) ∧ w'.cell? ⟨w.heap.size + 1, 0, none⟩ = some (.int .u32 bC) ∧ w'.cell? ⟨w.heap.size + 1, 1, none⟩ = some (.int .u8 bE) ∧ w'.cell? ⟨w.heap.size + 1, 2, none⟩ = some (.int .u16 bB) ∧ w'.cell? ⟨w.heap.size + 1, 3, none⟩ = some (.int .u16 bT) ∧ w'.cell? ⟨w.heap.size + 1, 4, none⟩ = some (.int .u16 bP) ∧ w'.cell? ⟨w.heap.size + 1, 5, none⟩ = some (.int .u16 bY) ∧ w'.cell? ⟨w.heap.size + 1, 6, none⟩ = some (.int .u32 bR) ∧ w'.cell? ⟨w.heap.size + 1, 7, none⟩ = some (.bool bV)) ((refine KK.out _ ?_; first | exact hK | exact hK.drew | exact below_drewN hK _ | exact (below_drewN hK _).drew))
    (first
      | (go_at_call 30; refine (H1.out _).mono ?_; rintro e' w9 ⟨rfl, hb⟩; have hK' := Below.trans (show Below _ _ _ from by first | exact hK | exact hK.drew | exact below_drewN hK _) (hb.mono (by first | exact hK.size | exact Nat.le_trans hK.size (Nat.le_refl _))); clear hb hK; have hK := hK'; clear hK')
      | (go_at_call 31; refine (H2.out _).mono ?_; rintro e' w9 ⟨rfl, hb⟩; have hK' := Below.trans (show Below _ _ _ from by first | exact hK | exact hK.drew | exact below_drewN hK _) (hb.mono (by first | exact hK.size | exact Nat.le_trans hK.size (Nat.le_refl _))); clear hb hK; have hK := hK'; clear hK')
      | (go_at_call 17; refine (dworks_any _).mono ?_; rintro e' w9 ⟨rfl, hb⟩; have hK' := Below.trans (show Below _ _ _ from by first | exact hK | exact hK.drew | exact below_drewN hK _) (hb.mono (by first | exact hK.size | exact Nat.le_trans hK.size (Nat.le_refl _))); clear hb hK; have hK := hK'; clear hK'))
  all_goals
    have HK := hide hK; clear hK
    go_wp2
    go_ret
    exact ⟨rfl, Below.trans (by (repeat (first | (with_reducible exact Below.refl _ _) | (with_reducible refine Below.drew ?_) | (with_reducible refine below_drewN ?_ _) | (with_reducible refine Below.alloc ?_ (by simp <;> omega) _) | (with_reducible refine Below.setCell ?_ (by simp <;> omega) _)))) (HK.out.mono (by first | (simp; done) | (simp; omega)))⟩
theorem build_law : LawWalk 9 Try.f9 := by
  intro H enc W base args ds p hval hA
  rw [Try.params9] at hA hval
  obtain ⟨v0, vs0, d0, ds0, p0, q0, hargs, rfl, rfl, h0, r0⟩ := trodAll_cons hA
  obtain ⟨v1, vs1, d1, ds1, p1, q1, rfl, rfl, rfl, h1, r1⟩ := trodAll_cons r0
  obtain ⟨rfl, rfl, rfl⟩ := trodAll_nil r1
  obtain rfl : args = #[v0, v1] := by cases args; simp_all
  obtain ⟨cs0, rfl, hcl0, hcf0⟩ := open_agg_all Try.underlying25 (by kernel_rfl) (by kernel_rfl) (hval 0 _ v0 rfl rfl) h0
  obtain ⟨u0_0, y0_0, n0_0, hu0_0, hy0_0⟩ := hcf0 0 _ rfl
  obtain ⟨a0_0, e0_0, _, w0_0⟩ := DataW.trod_int Try.underlying22 hy0_0
  simp at e0_0; subst e0_0
  have b0_0 := wf_u32 w0_0
  obtain ⟨a0_0, rfl⟩ := Int.eq_ofNat_of_zero_le b0_0.1
  obtain ⟨u0_1, y0_1, n0_1, hu0_1, hy0_1⟩ := hcf0 1 _ rfl
  obtain ⟨a0_1, e0_1, _, w0_1⟩ := DataW.trod_int Try.underlying5 hy0_1
  simp at e0_1; subst e0_1
  have b0_1 := wf_u8 w0_1
  obtain ⟨a0_1, rfl⟩ := Int.eq_ofNat_of_zero_le b0_1.1
  obtain ⟨u0_2, y0_2, n0_2, hu0_2, hy0_2⟩ := hcf0 2 _ rfl
  obtain ⟨a0_2, e0_2, _, w0_2⟩ := DataW.trod_int Try.underlying23 hy0_2
  simp at e0_2; subst e0_2
  have b0_2 := wf_u16 w0_2
  obtain ⟨a0_2, rfl⟩ := Int.eq_ofNat_of_zero_le b0_2.1
  obtain ⟨u0_3, y0_3, n0_3, hu0_3, hy0_3⟩ := hcf0 3 _ rfl
  obtain ⟨a0_3, e0_3, _, w0_3⟩ := DataW.trod_int Try.underlying23 hy0_3
  simp at e0_3; subst e0_3
  have b0_3 := wf_u16 w0_3
  obtain ⟨a0_3, rfl⟩ := Int.eq_ofNat_of_zero_le b0_3.1
  obtain ⟨u0_4, y0_4, n0_4, hu0_4, hy0_4⟩ := hcf0 4 _ rfl
  obtain ⟨a0_4, e0_4, _, w0_4⟩ := DataW.trod_int Try.underlying23 hy0_4
  simp at e0_4; subst e0_4
  have b0_4 := wf_u16 w0_4
  obtain ⟨a0_4, rfl⟩ := Int.eq_ofNat_of_zero_le b0_4.1
  obtain ⟨u0_5, y0_5, n0_5, hu0_5, hy0_5⟩ := hcf0 5 _ rfl
  obtain ⟨a0_5, e0_5, _, w0_5⟩ := DataW.trod_int Try.underlying23 hy0_5
  simp at e0_5; subst e0_5
  have b0_5 := wf_u16 w0_5
  obtain ⟨a0_5, rfl⟩ := Int.eq_ofNat_of_zero_le b0_5.1
  obtain ⟨u0_6, y0_6, n0_6, hu0_6, hy0_6⟩ := hcf0 6 _ rfl
  obtain ⟨a0_6, e0_6, _, w0_6⟩ := DataW.trod_int Try.underlying22 hy0_6
  simp at e0_6; subst e0_6
  have b0_6 := wf_u32 w0_6
  obtain ⟨a0_6, rfl⟩ := Int.eq_ofNat_of_zero_le b0_6.1
  obtain ⟨u0_7, y0_7, n0_7, hu0_7, hy0_7⟩ := hcf0 7 _ rfl
  obtain ⟨a0_7, e0_7, _⟩ := DataW.trod_bool Try.underlying4 hy0_7
  simp at e0_7; subst e0_7
  obtain rfl := eq8 hcl0 hu0_0 hu0_1 hu0_2 hu0_3 hu0_4 hu0_5 hu0_6 hu0_7
  clear hcf0
  obtain ⟨cs1, rfl, hcl1, hcf1⟩ := open_agg_all Try.underlying25 (by kernel_rfl) (by kernel_rfl) (hval 1 _ v1 rfl rfl) h1
  obtain ⟨u1_0, y1_0, n1_0, hu1_0, hy1_0⟩ := hcf1 0 _ rfl
  obtain ⟨a1_0, e1_0, _, w1_0⟩ := DataW.trod_int Try.underlying22 hy1_0
  simp at e1_0; subst e1_0
  have b1_0 := wf_u32 w1_0
  obtain ⟨a1_0, rfl⟩ := Int.eq_ofNat_of_zero_le b1_0.1
  obtain ⟨u1_1, y1_1, n1_1, hu1_1, hy1_1⟩ := hcf1 1 _ rfl
  obtain ⟨a1_1, e1_1, _, w1_1⟩ := DataW.trod_int Try.underlying5 hy1_1
  simp at e1_1; subst e1_1
  have b1_1 := wf_u8 w1_1
  obtain ⟨a1_1, rfl⟩ := Int.eq_ofNat_of_zero_le b1_1.1
  obtain ⟨u1_2, y1_2, n1_2, hu1_2, hy1_2⟩ := hcf1 2 _ rfl
  obtain ⟨a1_2, e1_2, _, w1_2⟩ := DataW.trod_int Try.underlying23 hy1_2
  simp at e1_2; subst e1_2
  have b1_2 := wf_u16 w1_2
  obtain ⟨a1_2, rfl⟩ := Int.eq_ofNat_of_zero_le b1_2.1
  obtain ⟨u1_3, y1_3, n1_3, hu1_3, hy1_3⟩ := hcf1 3 _ rfl
  obtain ⟨a1_3, e1_3, _, w1_3⟩ := DataW.trod_int Try.underlying23 hy1_3
  simp at e1_3; subst e1_3
  have b1_3 := wf_u16 w1_3
  obtain ⟨a1_3, rfl⟩ := Int.eq_ofNat_of_zero_le b1_3.1
  obtain ⟨u1_4, y1_4, n1_4, hu1_4, hy1_4⟩ := hcf1 4 _ rfl
  obtain ⟨a1_4, e1_4, _, w1_4⟩ := DataW.trod_int Try.underlying23 hy1_4
  simp at e1_4; subst e1_4
  have b1_4 := wf_u16 w1_4
  obtain ⟨a1_4, rfl⟩ := Int.eq_ofNat_of_zero_le b1_4.1
  obtain ⟨u1_5, y1_5, n1_5, hu1_5, hy1_5⟩ := hcf1 5 _ rfl
  obtain ⟨a1_5, e1_5, _, w1_5⟩ := DataW.trod_int Try.underlying23 hy1_5
  simp at e1_5; subst e1_5
  have b1_5 := wf_u16 w1_5
  obtain ⟨a1_5, rfl⟩ := Int.eq_ofNat_of_zero_le b1_5.1
  obtain ⟨u1_6, y1_6, n1_6, hu1_6, hy1_6⟩ := hcf1 6 _ rfl
  obtain ⟨a1_6, e1_6, _, w1_6⟩ := DataW.trod_int Try.underlying22 hy1_6
  simp at e1_6; subst e1_6
  have b1_6 := wf_u32 w1_6
  obtain ⟨a1_6, rfl⟩ := Int.eq_ofNat_of_zero_le b1_6.1
  obtain ⟨u1_7, y1_7, n1_7, hu1_7, hy1_7⟩ := hcf1 7 _ rfl
  obtain ⟨a1_7, e1_7, _⟩ := DataW.trod_bool Try.underlying4 hy1_7
  simp at e1_7; subst e1_7
  obtain rfl := eq8 hcl1 hu1_0 hu1_1 hu1_2 hu1_3 hu1_4 hu1_5 hu1_6 hu1_7
  clear hcf1
  have h0 : capB a0_0 a0_1 a0_2 a0_3 a0_4 a0_5 a0_6 := ⟨by omega, by omega, by omega, by omega, by omega, by omega, by omega⟩
  have h1 : capB a1_0 a1_1 a1_2 a1_3 a1_4 a1_5 a1_6 := ⟨by omega, by omega, by omega, by omega, by omega, by omega, by omega⟩
  have hP := fun W => build_any a0_0 a0_1 a0_2 a0_3 a0_4 a0_5 a0_6 a0_7 a1_0 a1_1 a1_2 a1_3 a1_4 a1_5 a1_6 a1_7 _ _ _ _ W h0 h1 rfl rfl rfl rfl
  have hf := fun W => rfree_any a1_0 a1_1 a1_2 a1_3 a1_4 a1_5 a1_6 a1_7 W
  have hs := fun W => rsound_any a0_0 a0_1 a0_2 a0_3 a0_4 a0_5 a0_6 a0_7 W h0
  have hw := fun W => rwithin_any a0_0 a0_1 a0_2 a0_3 a0_4 a0_5 a0_6 a0_7 a1_0 a1_1 a1_2 a1_3 a1_4 a1_5 a1_6 a1_7 _ _ _ _ W h0 h1 rfl rfl rfl rfl
  cases kf : freeN a1_5 a1_7 with
  | false =>
    simp only [kf, Bool.false_and] at hP hf
    exact build_core a0_0 a0_1 a0_2 a0_3 a0_4 a0_5 a0_6 a0_7 a1_0 a1_1 a1_2 a1_3 a1_4 a1_5 a1_6 a1_7 _ _ _ _ _ _ _ _ W hP (fun W => rbuild_f a0_0 a0_1 a0_2 a0_3 a0_4 a0_5 a0_6 a0_7 a1_0 a1_1 a1_2 a1_3 a1_4 a1_5 a1_6 a1_7 W hf)
  | true =>
    simp only [kf, Bool.true_and] at hP hf
    cases ks : soundN a0_1 a0_2 a0_3 a0_4 a0_5 a0_6 with
    | false =>
      simp only [bldB, ks, Bool.false_and, Bool.and_false] at hP hs
      exact build_core a0_0 a0_1 a0_2 a0_3 a0_4 a0_5 a0_6 a0_7 a1_0 a1_1 a1_2 a1_3 a1_4 a1_5 a1_6 a1_7 _ _ _ _ _ _ _ _ W hP (fun W => rbuild_s a0_0 a0_1 a0_2 a0_3 a0_4 a0_5 a0_6 a0_7 a1_0 a1_1 a1_2 a1_3 a1_4 a1_5 a1_6 a1_7 W hf hs)
    | true =>
      by_cases hy : a0_5 = 0
      · subst hy
        have d : (((0 : Nat) : Int) == 0) = true := rfl
        simp only [bldB, ks, decide_true, Bool.true_and] at hP
        rw [ks] at hs
        exact build_core a0_0 a0_1 a0_2 a0_3 a0_4 0 a0_6 a0_7 a1_0 a1_1 a1_2 a1_3 a1_4 a1_5 a1_6 a1_7 _ _ _ _ _ _ _ _ W hP (fun W => rbuild_t a0_0 a0_1 a0_2 a0_3 a0_4 0 a0_6 a0_7 a1_0 a1_1 a1_2 a1_3 a1_4 a1_5 a1_6 a1_7 _ W hf hs d hw)
      · have d : ((a0_5 : Int) == 0) = false := by simp; omega
        simp only [bldB, ks, hy, decide_false, Bool.false_and] at hP
        rw [ks] at hs
        exact build_core a0_0 a0_1 a0_2 a0_3 a0_4 a0_5 a0_6 a0_7 a1_0 a1_1 a1_2 a1_3 a1_4 a1_5 a1_6 a1_7 _ _ _ _ _ _ _ _ W hP (fun W => rbuild_y a0_0 a0_1 a0_2 a0_3 a0_4 a0_5 a0_6 a0_7 a1_0 a1_1 a1_2 a1_3 a1_4 a1_5 a1_6 a1_7 W hf hs d)
set_option maxRecDepth 100000 in
theorem deriveBuild_proved : Rows.DeriveBuildSaid :=
  OpenClaim.holds_of_wide 9 Try.f9 rfl rfl rfl rfl rfl rfl rfl ⟨rfl, rfl, rfl, rfl, rfl⟩ rfl rfl rfl rfl rfl (by kernel_rfl) Try.func9 (by kernel_rfl)
    (of_decide_eq_true (by kernel_rfl)) (by unfold Func.isWrapper; first | (rw [if_pos (by decide +kernel)]; kernel_rfl) | (rw [if_neg (by decide +kernel)]; exact ⟨rfl, rfl⟩))
    (fun os started H enc _ => law_lifted 9 Try.f9 Rows.deriveBuildSpec Rows.deriveBuildRow.domain Try.func9 (by kernel_rfl) rfl rfl
      (fun H ds hd => by match ds, hd with | [d0, d1], _ => exact ⟨rfl, rfl, rfl⟩) (by decide +kernel) build_law os started H enc
      (ChangeSpec.witness6 (enc := enc) (C := Try.checked) false ⟨#[], #[.agg #[.int .u32 0, .int .u8 0, .int .u16 0, .int .u16 0, .int .u16 0, .int .u16 0, .int .u32 0, .bool false], .agg #[.int .u32 0, .int .u8 0, .int .u16 0, .int .u16 0, .int .u16 0, .int .u16 0, .int .u32 0, .bool false]], []⟩ 8 (by kernel_rfl) (by kernel_rfl) (by kernel_rfl) (by kernel_rfl)))
#print axioms deriveBuild_proved
end Go.Proofs.Ytljchnfofjmleaa
