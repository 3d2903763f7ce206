/-
  DeriveSealed: of a sealed capability nothing that is valid comes but by opening it with an authority over its type, and that has all else as it was. No condition.
-/
import Derived.Test.YtljchnfofjmleaaDerSld
import Derived.Test.YtljchnfofjmleaaOpen2
namespace Go.Proofs.Ytljchnfofjmleaa
open Go.ChangeShapes Go.WideShapes Go.ChangeAt Go.RowKit

theorem setV_f {cC cY : Nat} {cV : Bool} (h : freeN cY cV = false) (s : Nat) (ex : Bool) (x y : Nat) : setV cC cY cV s ex x y = false := by unfold setV; rw [h]; rfl
theorem sealed_walk (cC cE cB cT cP cY cR : Nat) (cV : Bool) (bC bE bB bT bP bY bR : Nat) (bV : Bool) (k : Int) (n : Nat) (w : World) (cl : capB cC cE cB cT cP cY cR) (bl : capB bC bE bB bT bP bY bR) (hn : n < 4294967296) :
    Calls Try.prog 13 #[.agg #[.int .u32 cC, .int .u8 cE, .int .u16 cB, .int .u16 cT, .int .u16 cP, .int .u16 cY, .int .u32 cR, .bool cV], .agg #[.int .i64 k, .int .u32 n, .int .u32 bC, .int .u8 bE, .int .u16 bB, .int .u16 bT, .int .u16 bP, .int .u16 bY, .int .u32 bR, .bool bV]] w fun e w' => e = .returned (.bool true) ∧ Below w.heap.size w w' := by
  by_cases hY : cY = 0
  · exact sealed_free cC cE cB cT cP cY cR cV bC bE bB bT bP bY bR bV k n w (by subst hY; rfl)
  have d : ((cY : Int) == 0) = false := by simp; omega
  have hf : freeN cY cV = false := by unfold freeN; rw [decide_eq_false hY, Bool.and_false]
  by_cases h0 : k = 0
  · subst h0
    have hc := fun W => addr_any cC cE cB cT cP cY cR cV n W cl hn
    simp only [hf, Bool.false_and] at hc
    exact sealed_dead cC cE cB cT cP cY cR cV bC bE bB bT bP bY bR bV _ n _ _ _ _ _ _ _ w d (fun W => chg_0 cC cE cB cT cP cY cR cV bC bE bB bT bP bY bR bV _ _ _ _ _ _ _ _ n W hc)
  by_cases h1 : k = 1
  · subst h1
    by_cases hr : rightN cC (cC + n) = true
    · have hc := fun W => set_y cC cE cB cT cP cY cR cV n _ _ W cl hn rfl rfl hr
      simp only [setV_f hf] at hc
      exact sealed_dead cC cE cB cT cP cY cR cV bC bE bB bT bP bY bR bV _ n _ _ _ _ _ _ _ w d (fun W => chg_1 cC cE cB cT cP cY cR cV bC bE bB bT bP bY bR bV _ _ _ _ _ _ _ _ n W hc)
    · have hc := fun W => set_n cC cE cB cT cP cY cR cV n W cl hn (by simpa using hr)
      exact sealed_dead cC cE cB cT cP cY cR cV bC bE bB bT bP bY bR bV _ n _ _ _ _ _ _ _ w d (fun W => chg_1 cC cE cB cT cP cY cR cV bC bE bB bT bP bY bR bV _ _ _ _ _ _ _ _ n W hc)
  by_cases h2 : k = 2
  · subst h2
    by_cases hr : rightN cC (cC + n) = true
    · have hc := fun W => exact_y cC cE cB cT cP cY cR cV n _ _ W cl hn rfl rfl hr
      simp only [setV_f hf] at hc
      exact sealed_dead cC cE cB cT cP cY cR cV bC bE bB bT bP bY bR bV _ n _ _ _ _ _ _ _ w d (fun W => chg_2 cC cE cB cT cP cY cR cV bC bE bB bT bP bY bR bV _ _ _ _ _ _ _ _ n W hc)
    · have hc := fun W => exact_n cC cE cB cT cP cY cR cV n W cl hn (by simpa using hr)
      exact sealed_dead cC cE cB cT cP cY cR cV bC bE bB bT bP bY bR bV _ n _ _ _ _ _ _ _ w d (fun W => chg_2 cC cE cB cT cP cY cR cV bC bE bB bT bP bY bR bV _ _ _ _ _ _ _ _ n W hc)
  by_cases h3 : k = 3
  · subst h3
    have hc := fun W => and_any cC cE cB cT cP cY cR cV n W cl hn
    simp only [hf] at hc
    exact sealed_dead cC cE cB cT cP cY cR cV bC bE bB bT bP bY bR bV _ n _ _ _ _ _ _ _ w d (fun W => chg_3 cC cE cB cT cP cY cR cV bC bE bB bT bP bY bR bV _ _ _ _ _ _ _ _ n W hc)
  by_cases h4 : k = 4
  · subst h4
    exact sealed_dead cC cE cB cT cP cY cR cV bC bE bB bT bP bY bR bV _ n _ _ _ _ _ _ _ w d (fun W => chg_4 cC cE cB cT cP cY cR cV bC bE bB bT bP bY bR bV _ _ _ _ _ _ _ _ n W (fun W => seal_f cC cE cB cT cP cY cR cV bC bE bB bT bP bY bR bV W hf))
  by_cases h5 : k = 5
  · subst h5
    cases cV with
    | false => exact sealed_dead cC cE cB cT cP cY cR false bC bE bB bT bP bY bR bV _ n _ _ _ _ _ _ _ w d (fun W => chg_5 cC cE cB cT cP cY cR false bC bE bB bT bP bY bR bV _ _ _ _ _ _ _ _ n W (fun W => open_v cC cE cB cT cP cY cR bC bE bB bT bP bY bR bV W))
    | true =>
      by_cases ho : overN bC bP bY bV 64 (decN bE bB bT bC).1 (decN bE bB bT bC).2 = true
      · by_cases he : bC = cY
        · subst he
          have hc := fun W => open_y cC cE cB cT cP bC cR bC bE bB bT bP bY bR bV _ _ W bl rfl rfl d ho (by simp) (by simp) cl.2.2.2.2.2.1
          have hr := fun W => range_is bC bE bB bT bP bY bR bV _ _ W bl rfl rfl
          simp only [overN, freeN, Bool.and_eq_true, decide_eq_true_eq] at ho
          obtain ⟨⟨rfl, rfl⟩, hp, _, _, hx, hy⟩ := ho
          exact sealed_open cC cE cB cT cP bC cR bE bB bT bP bR n _ _ w d cl.2.2.2.2.2.1 (by rw [show (64 : Int) = ((64 : Nat) : Int) from rfl, bits_ne bl.2.2.2.2.1 (by omega)]; simpa using hp) (by simpa using hx) (by simpa using hy)
            (fun W => chg_5 cC cE cB cT cP bC cR true bC bE bB bT bP 0 bR true _ _ _ _ _ _ _ _ n W hc) hr
        · exact sealed_dead cC cE cB cT cP cY cR true bC bE bB bT bP bY bR bV _ n _ _ _ _ _ _ _ w d (fun W => chg_5 cC cE cB cT cP cY cR true bC bE bB bT bP bY bR bV _ _ _ _ _ _ _ _ n W (fun W => open_n cC cE cB cT cP cY cR bC bE bB bT bP bY bR bV _ _ W bl rfl rfl d ho (by simp; omega) (by simp; omega) cl.2.2.2.2.2.1))
      · exact sealed_dead cC cE cB cT cP cY cR true bC bE bB bT bP bY bR bV _ n _ _ _ _ _ _ _ w d (fun W => chg_5 cC cE cB cT cP cY cR true bC bE bB bT bP bY bR bV _ _ _ _ _ _ _ _ n W (fun W => open_o cC cE cB cT cP cY cR bC bE bB bT bP bY bR bV _ _ W bl rfl rfl d (by simpa using ho)))
  by_cases h6 : k = 6
  · subst h6
    have hc := fun W => build_any bC bE bB bT bP bY bR bV cC cE cB cT cP cY cR cV _ _ _ _ W bl cl rfl rfl rfl rfl
    simp only [hf, Bool.false_and] at hc
    exact sealed_dead cC cE cB cT cP cY cR cV bC bE bB bT bP bY bR bV _ n _ _ _ _ _ _ _ w d (fun W => chg_6 cC cE cB cT cP cY cR cV bC bE bB bT bP bY bR bV _ _ _ _ _ _ _ _ n W hc)
  exact sealed_dead cC cE cB cT cP cY cR cV bC bE bB bT bP bY bR bV _ n _ _ _ _ _ _ _ w d (fun W => chg_d cC cE cB cT cP cY cR cV bC bE bB bT bP bY bR bV _ _ _ _ _ _ _ _ n k (by simpa using h0) (by simpa using h1) (by simpa using h2) (by simpa using h3) (by simpa using h4) (by simpa using h5) (by simpa using h6) W (fun W => clear_any cC cE cB cT cP cY cR cV W))
theorem sealed_law : LawWalk 13 Try.f13 := by
  intro H enc W base args ds p hval hA
  rw [Try.params13] at hA hval
  obtain ⟨v0, vs0, d0, ds0, p0, q0, hargs, rfl, rfl, h0, r0⟩ := trodAll_cons hA
  obtain ⟨v1, vs1, d1, ds1, p1, q1, rfl, rfl, rfl, h1, r1⟩ := trodAll_cons r0
  obtain ⟨rfl, rfl, rfl⟩ := trodAll_nil r1
  obtain rfl : args = #[v0, v1] := by cases args; simp_all
  obtain ⟨cs0, rfl, hcl0, hcf0⟩ := open_agg_all Try.underlying25 (by kernel_rfl) (by kernel_rfl) (hval 0 _ v0 rfl rfl) h0
  obtain ⟨u0_0, y0_0, n0_0, hu0_0, hy0_0⟩ := hcf0 0 _ rfl
  obtain ⟨a0_0, e0_0, _, w0_0⟩ := DataW.trod_int Try.underlying22 hy0_0
  simp at e0_0; subst e0_0
  have b0_0 := wf_u32 w0_0
  obtain ⟨a0_0, rfl⟩ := Int.eq_ofNat_of_zero_le b0_0.1
  obtain ⟨u0_1, y0_1, n0_1, hu0_1, hy0_1⟩ := hcf0 1 _ rfl
  obtain ⟨a0_1, e0_1, _, w0_1⟩ := DataW.trod_int Try.underlying5 hy0_1
  simp at e0_1; subst e0_1
  have b0_1 := wf_u8 w0_1
  obtain ⟨a0_1, rfl⟩ := Int.eq_ofNat_of_zero_le b0_1.1
  obtain ⟨u0_2, y0_2, n0_2, hu0_2, hy0_2⟩ := hcf0 2 _ rfl
  obtain ⟨a0_2, e0_2, _, w0_2⟩ := DataW.trod_int Try.underlying23 hy0_2
  simp at e0_2; subst e0_2
  have b0_2 := wf_u16 w0_2
  obtain ⟨a0_2, rfl⟩ := Int.eq_ofNat_of_zero_le b0_2.1
  obtain ⟨u0_3, y0_3, n0_3, hu0_3, hy0_3⟩ := hcf0 3 _ rfl
  obtain ⟨a0_3, e0_3, _, w0_3⟩ := DataW.trod_int Try.underlying23 hy0_3
  simp at e0_3; subst e0_3
  have b0_3 := wf_u16 w0_3
  obtain ⟨a0_3, rfl⟩ := Int.eq_ofNat_of_zero_le b0_3.1
  obtain ⟨u0_4, y0_4, n0_4, hu0_4, hy0_4⟩ := hcf0 4 _ rfl
  obtain ⟨a0_4, e0_4, _, w0_4⟩ := DataW.trod_int Try.underlying23 hy0_4
  simp at e0_4; subst e0_4
  have b0_4 := wf_u16 w0_4
  obtain ⟨a0_4, rfl⟩ := Int.eq_ofNat_of_zero_le b0_4.1
  obtain ⟨u0_5, y0_5, n0_5, hu0_5, hy0_5⟩ := hcf0 5 _ rfl
  obtain ⟨a0_5, e0_5, _, w0_5⟩ := DataW.trod_int Try.underlying23 hy0_5
  simp at e0_5; subst e0_5
  have b0_5 := wf_u16 w0_5
  obtain ⟨a0_5, rfl⟩ := Int.eq_ofNat_of_zero_le b0_5.1
  obtain ⟨u0_6, y0_6, n0_6, hu0_6, hy0_6⟩ := hcf0 6 _ rfl
  obtain ⟨a0_6, e0_6, _, w0_6⟩ := DataW.trod_int Try.underlying22 hy0_6
  simp at e0_6; subst e0_6
  have b0_6 := wf_u32 w0_6
  obtain ⟨a0_6, rfl⟩ := Int.eq_ofNat_of_zero_le b0_6.1
  obtain ⟨u0_7, y0_7, n0_7, hu0_7, hy0_7⟩ := hcf0 7 _ rfl
  obtain ⟨a0_7, e0_7, _⟩ := DataW.trod_bool Try.underlying4 hy0_7
  simp at e0_7; subst e0_7
  obtain rfl := eq8 hcl0 hu0_0 hu0_1 hu0_2 hu0_3 hu0_4 hu0_5 hu0_6 hu0_7
  clear hcf0
  have h0 : capB a0_0 a0_1 a0_2 a0_3 a0_4 a0_5 a0_6 := ⟨by omega, by omega, by omega, by omega, by omega, by omega, by omega⟩
  obtain ⟨k, n, bC, bE, bB, bT, bP, bY, bR, bV, rfl, _, _, hn, hb⟩ := open_chg (hval 1 _ v1 rfl rfl) h1
  exact sealed_walk a0_0 a0_1 a0_2 a0_3 a0_4 a0_5 a0_6 a0_7 bC bE bB bT bP bY bR bV k n W h0 hb hn
set_option maxRecDepth 100000 in
theorem deriveSealed_proved : Rows.DeriveSealedSaid :=
  OpenClaim.holds_of_wide 13 Try.f13 rfl rfl rfl rfl rfl rfl rfl ⟨rfl, rfl, rfl, rfl, rfl⟩ rfl rfl rfl rfl rfl (by kernel_rfl) Try.func13 (by kernel_rfl)
    (of_decide_eq_true (by kernel_rfl)) (by unfold Func.isWrapper; first | (rw [if_pos (by decide +kernel)]; kernel_rfl) | (rw [if_neg (by decide +kernel)]; exact ⟨rfl, rfl⟩))
    (fun os started H enc _ => law_lifted 13 Try.f13 Rows.deriveSealedSpec Rows.deriveSealedRow.domain Try.func13 (by kernel_rfl) rfl rfl
      (fun H ds hd => by match ds, hd with | [d0, d1], _ => exact ⟨rfl, rfl, rfl⟩) (by decide +kernel) sealed_law os started H enc
      (ChangeSpec.witness6 (enc := enc) (C := Try.checked) false ⟨#[], #[.agg #[.int .u32 0, .int .u8 0, .int .u16 0, .int .u16 0, .int .u16 0, .int .u16 0, .int .u32 0, .bool false], .agg #[.int .i64 0, .int .u32 0, .int .u32 0, .int .u8 0, .int .u16 0, .int .u16 0, .int .u16 0, .int .u16 0, .int .u32 0, .bool false]], []⟩ 8 (by kernel_rfl) (by kernel_rfl) (by kernel_rfl) (by kernel_rfl)))
#print axioms deriveSealed_proved
end Go.Proofs.Ytljchnfofjmleaa
