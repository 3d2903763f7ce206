/-
  DeriveLess: whatever is done to a capability, one thing behind the other, what is valid lies within what there was, and that was valid. No condition.
-/
import Derived.Test.YtljchnfofjmleaaDerLs
import Derived.Test.YtljchnfofjmleaaRecs
namespace Go.Proofs.Ytljchnfofjmleaa
open Go.ChangeShapes Go.WideShapes Go.Deep Go.ChangeAt Go.RowKit

section
variable {H : Type} {enc : TypeId × Value → H} {w : World} {base : Nat} {spare : Nat → Bool} {held : Bool}
theorem open_chgs {v : Value} {d : DataW H} {p : List MemPlace} {b0 : Nat} (hv : Value.okWide Try.prog w .any b0 34 v) (h : DataW.Trod enc Try.prog w base spare held 34 v d p) :
    ∃ (A : Option Addr) (n cap : Nat), v = .slice A n cap ∧ ChgAt w A n := by
  obtain ⟨A, len, cap, rfl⟩ := okWide_slice Try.underlying34 hv
  obtain ⟨fuel, hf⟩ := h
  have c0 : Try.prog.cellsOf 38 = 10 := by kernel_rfl
  rcases open_slice Try.underlying34 hf with ⟨hcs, _⟩ | ⟨a, len', cap', m, n, D, Pl, hcs, _, hl, _, hmm, _, hi⟩
  · simp [Value.cells] at hcs
    obtain ⟨rfl, rfl, rfl⟩ := hcs
    exact ⟨none, 0, 0, rfl, .inl rfl⟩
  · simp [Value.cells] at hcs
    obtain ⟨rfl, rfl, rfl⟩ := hcs
    refine ⟨_, _, _, rfl, ?_⟩
    rcases Nat.eq_zero_or_pos len with h0 | h0
    · exact .inl h0
    have hle : len ≤ m := by rw [hmm]; split <;> omega
    right
    have key : ∀ i, i < len → ∃ (q : Int) (m bC bE bB bT bP bY bR : Nat) (bV : Bool), m < 4294967296 ∧ capB bC bE bB bT bP bY bR ∧
        ∀ j (hj : j < 10), w.cell? ((a.add (i * 10)).add j) = [.int .i64 q, .int .u32 m, .int .u32 bC, .int .u8 bE, .int .u16 bB, .int .u16 bT, .int .u16 bP, .int .u16 bY, .int .u32 bR, .bool bV][j]? := by
      intro i hin
      obtain ⟨cs', hc, ht'⟩ := hi i (by omega)
      rw [c0] at hc
      obtain ⟨_, hcl, hat⟩ := World.cells?_some hc
      obtain ⟨q, m, bC, bE, bB, bT, bP, bY, bR, bV, rfl, _, _, hm, hb⟩ := chg_cells ht' hcl
      exact ⟨q, m, bC, bE, bB, bT, bP, bY, bR, bV, hm, hb, fun j hj => hat j hj⟩
    have hs : a.spot = none := by
      obtain ⟨q, m, bC, bE, bB, bT, bP, bY, bR, bV, _, _, hc⟩ := key 0 h0
      have hc0 : w.cell? a = some (.int .i64 q) := by simpa [Addr.add] using hc 0 (by omega)
      exact World.cell?_spot hc0
    obtain ⟨g, off, spot⟩ := a
    simp only at hs
    subst hs
    refine ⟨g, off, rfl, ?_, fun i hin => ?_⟩
    · obtain ⟨q, m, bC, bE, bB, bT, bP, bY, bR, bV, _, _, hc⟩ := key 0 h0
      have hc0 := hc 0 (by omega)
      rw [Go.WideShapes.add_plain, Go.WideShapes.add_plain] at hc0
      exact cell_lt hc0
    · obtain ⟨q, m, bC, bE, bB, bT, bP, bY, bR, bV, hm, hb, hc⟩ := key i hin
      simp only [Go.WideShapes.add_plain] at hc
      exact ⟨q, m, bC, bE, bB, bT, bP, bY, bR, bV, hm, hb, hc 0 (by omega), hc 1 (by omega), hc 2 (by omega), hc 3 (by omega), hc 4 (by omega), hc 5 (by omega), hc 6 (by omega), hc 7 (by omega), hc 8 (by omega), hc 9 (by omega)⟩
end
theorem less_law : LawWalk 12 Try.f12 := by
  intro H enc W base args ds p hval hA
  rw [Try.params12] at hA hval
  obtain ⟨v0, vs0, d0, ds0, p0, q0, hargs, rfl, rfl, h0, r0⟩ := trodAll_cons hA
  obtain ⟨v1, vs1, d1, ds1, p1, q1, rfl, rfl, rfl, h1, r1⟩ := trodAll_cons r0
  obtain ⟨rfl, rfl, rfl⟩ := trodAll_nil r1
  obtain rfl : args = #[v0, v1] := by cases args; simp_all
  obtain ⟨cs0, rfl, hcl0, hcf0⟩ := open_agg_all Try.underlying25 (by kernel_rfl) (by kernel_rfl) (hval 0 _ v0 rfl rfl) h0
  obtain ⟨u0_0, y0_0, n0_0, hu0_0, hy0_0⟩ := hcf0 0 _ rfl
  obtain ⟨a0_0, e0_0, _, w0_0⟩ := DataW.trod_int Try.underlying22 hy0_0
  simp at e0_0; subst e0_0
  have b0_0 := wf_u32 w0_0
  obtain ⟨a0_0, rfl⟩ := Int.eq_ofNat_of_zero_le b0_0.1
  obtain ⟨u0_1, y0_1, n0_1, hu0_1, hy0_1⟩ := hcf0 1 _ rfl
  obtain ⟨a0_1, e0_1, _, w0_1⟩ := DataW.trod_int Try.underlying5 hy0_1
  simp at e0_1; subst e0_1
  have b0_1 := wf_u8 w0_1
  obtain ⟨a0_1, rfl⟩ := Int.eq_ofNat_of_zero_le b0_1.1
  obtain ⟨u0_2, y0_2, n0_2, hu0_2, hy0_2⟩ := hcf0 2 _ rfl
  obtain ⟨a0_2, e0_2, _, w0_2⟩ := DataW.trod_int Try.underlying23 hy0_2
  simp at e0_2; subst e0_2
  have b0_2 := wf_u16 w0_2
  obtain ⟨a0_2, rfl⟩ := Int.eq_ofNat_of_zero_le b0_2.1
  obtain ⟨u0_3, y0_3, n0_3, hu0_3, hy0_3⟩ := hcf0 3 _ rfl
  obtain ⟨a0_3, e0_3, _, w0_3⟩ := DataW.trod_int Try.underlying23 hy0_3
  simp at e0_3; subst e0_3
  have b0_3 := wf_u16 w0_3
  obtain ⟨a0_3, rfl⟩ := Int.eq_ofNat_of_zero_le b0_3.1
  obtain ⟨u0_4, y0_4, n0_4, hu0_4, hy0_4⟩ := hcf0 4 _ rfl
  obtain ⟨a0_4, e0_4, _, w0_4⟩ := DataW.trod_int Try.underlying23 hy0_4
  simp at e0_4; subst e0_4
  have b0_4 := wf_u16 w0_4
  obtain ⟨a0_4, rfl⟩ := Int.eq_ofNat_of_zero_le b0_4.1
  obtain ⟨u0_5, y0_5, n0_5, hu0_5, hy0_5⟩ := hcf0 5 _ rfl
  obtain ⟨a0_5, e0_5, _, w0_5⟩ := DataW.trod_int Try.underlying23 hy0_5
  simp at e0_5; subst e0_5
  have b0_5 := wf_u16 w0_5
  obtain ⟨a0_5, rfl⟩ := Int.eq_ofNat_of_zero_le b0_5.1
  obtain ⟨u0_6, y0_6, n0_6, hu0_6, hy0_6⟩ := hcf0 6 _ rfl
  obtain ⟨a0_6, e0_6, _, w0_6⟩ := DataW.trod_int Try.underlying22 hy0_6
  simp at e0_6; subst e0_6
  have b0_6 := wf_u32 w0_6
  obtain ⟨a0_6, rfl⟩ := Int.eq_ofNat_of_zero_le b0_6.1
  obtain ⟨u0_7, y0_7, n0_7, hu0_7, hy0_7⟩ := hcf0 7 _ rfl
  obtain ⟨a0_7, e0_7, _⟩ := DataW.trod_bool Try.underlying4 hy0_7
  simp at e0_7; subst e0_7
  obtain rfl := eq8 hcl0 hu0_0 hu0_1 hu0_2 hu0_3 hu0_4 hu0_5 hu0_6 hu0_7
  clear hcf0
  have h0 : capB a0_0 a0_1 a0_2 a0_3 a0_4 a0_5 a0_6 := ⟨by omega, by omega, by omega, by omega, by omega, by omega, by omega⟩
  obtain ⟨A, n, cap, rfl, hChg⟩ := open_chgs (hval 1 _ v1 rfl rfl) h1
  exact less_loop a0_0 a0_1 a0_2 a0_3 a0_4 a0_5 a0_6 a0_7 A n cap W h0 hChg
set_option maxRecDepth 100000 in
theorem deriveLess_proved : Rows.DeriveLessSaid :=
  OpenClaim.holds_of_wide 12 Try.f12 rfl rfl rfl rfl rfl rfl rfl ⟨rfl, rfl, rfl, rfl, rfl⟩ rfl rfl rfl rfl rfl (by kernel_rfl) Try.func12 (by kernel_rfl)
    (of_decide_eq_true (by kernel_rfl)) (by unfold Func.isWrapper; first | (rw [if_pos (by decide +kernel)]; kernel_rfl) | (rw [if_neg (by decide +kernel)]; exact ⟨rfl, rfl⟩))
    (fun os started H enc _ => law_lifted 12 Try.f12 Rows.deriveLessSpec Rows.deriveLessRow.domain Try.func12 (by kernel_rfl) rfl rfl
      (fun H ds hd => by match ds, hd with | [d0, d1], _ => exact ⟨rfl, rfl, rfl⟩) (by decide +kernel) less_law os started H enc
      (ChangeSpec.witness6 (enc := enc) (C := Try.checked) false ⟨#[], #[.agg #[.int .u32 0, .int .u8 0, .int .u16 0, .int .u16 0, .int .u16 0, .int .u16 0, .int .u32 0, .bool false], .slice none 0 0], []⟩ 8 (by kernel_rfl) (by kernel_rfl) (by kernel_rfl) (by kernel_rfl)))
#print axioms deriveLess_proved
end Go.Proofs.Ytljchnfofjmleaa
