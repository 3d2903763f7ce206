/-
  OctetSets: for any bytes, place, width and number octet.Set answers, and leaves, what the document says. No condition.
-/
import Derived.Test.YtopfbiecdoemcaaOctWorks
import Derived.Test.YtopfbiecdoemcaaOctSetW
import Derived.Test.YtopfbiecdoemcaaFrame
namespace Go.Proofs.Ytopfbiecdoemcaa
open Go.ChangeShapes Go.WideShapes Go.ChangeAt Go.RowKit
open Go.ChangeMaps (open_string shut_string)

theorem sets_walk (l : List UInt8) (a k : Int) (v : Nat) (w : World) (hl : l.length ≤ 9223372036854775807) (hv : v < 4294967296) :
    Calls Try.prog 5 #[.string (bs l), .agg #[.int .i64 a, .int .i64 k, .int .u32 v]] w fun e w' => e = .returned (.bool true) ∧ Below w.heap.size w w' := by
  obtain ⟨t, ht, _, hcase⟩ := cut_at 5000 l
  have hx : (⟨#[170, 170, 170, 170]⟩ : ByteArray) = bs [170, 170, 170, 170] := rfl
  obtain ⟨cap, w1, hcv, hc1, hc2, hb1, hs1, hcell, hfr⟩ := bytes_of (P := Try.prog) 9 28 5 Try.underlying9 Try.underlying28 Try.underlying5 (w.alloc (.cells #[.int .i64 a, .int .i64 k, .int .u32 v] 32)) (t ++ [170, 170, 170, 170]) (by unfold maxLen; simp; omega)
  have e0 : w1.cell? ⟨w.heap.size, 0, none⟩ = some (.int .i64 a) := (hb1.cell (p := ⟨w.heap.size, 0, none⟩) (by simp)).trans (cell_of_row _ _ 0 _ _ _ (heap_alloc_new w _))
  have e1 : w1.cell? ⟨w.heap.size, 1, none⟩ = some (.int .i64 k) := (hb1.cell (p := ⟨w.heap.size, 1, none⟩) (by simp)).trans (cell_of_row _ _ 1 _ _ _ (heap_alloc_new w _))
  have e2 : w1.cell? ⟨w.heap.size, 2, none⟩ = some (.int .u32 v) := (hb1.cell (p := ⟨w.heap.size, 2, none⟩) (by simp)).trans (cell_of_row _ _ 2 _ _ _ (heap_alloc_new w _))
  have hB : Bys w1 (w.heap.size + 1) 0 (t ++ [170, 170, 170, 170]) := by
    intro j hj
    have := hcell j hj
    rw [Nat.zero_add]; simpa using this
  have HB := hide hB
  have HF : Hid (∀ j, j < (t ++ [170, 170, 170, 170]).length → w1.frozen? ⟨w.heap.size + 1, 0 + j, none⟩ = false) := by
    intro j hj
    have := hfr j hj
    rw [Nat.zero_add]; simpa using this
  have HB1 : Hid (Below w.heap.size w w1) := ((Below.refl _ _).alloc (Nat.le_refl _) _).trans (hb1.mono (by simp))
  have HS : Hid (w1.heap.size = w.heap.size + 2) := by
    have := hs1; simp at this; exact this
  clear hcell hb1 hs1 hfr hB
  have i1 : ¬ (9223372036854775807 < t.length + 4) := by omega
  have i2 : (t.length : Int) ≤ cap := by simp at hc1; omega
  have i3 : cap ≤ 9223372036854775807 := by unfold maxLen at hc2; omega
  clear hc1 hc2
  have HSC : Hid (∀ W, Bys W (w.heap.size + 1) 0 (t ++ [170, 170, 170, 170]) → (∀ j, j < (t ++ [170, 170, 170, 170]).length → W.frozen? ⟨w.heap.size + 1, 0 + j, none⟩ = false) → _) := fun W hb hf => set_any (w.heap.size + 1) 0 cap v (t ++ [170, 170, 170, 170]) t.length (by simp) a k W (by omega) hv hb hf
  rcases hcase with ⟨rfl, h5⟩ | ⟨htk, h5⟩
  all_goals
    go_enter Try.func5, Try.ntmps5
    go_wp2_with fail
    go_region_held3 (fun w' => w'.cell? ⟨w.heap.size, 0, none⟩ = some (.int .i64 a) ∧ w'.cell? ⟨w.heap.size, 1, none⟩ = some (.int .i64 k) ∧ w'.cell? ⟨w.heap.size, 2, none⟩ = some (.int .u32 v)) (first | exact ⟨f0, f1, f2⟩ | exact ⟨e0, e1, e2⟩)
      ((go_at_call 15; refine (HSC.out w1.drew HB.out HF.out).mono ?_; rintro e w2 ⟨rfl, hw2⟩; have f0 := setW_far hw2 (by omega) e0; have f1 := setW_far hw2 (by omega) e1; have f2 := setW_far hw2 (by omega) e2))
    have HB2 : Hid (Bys w2 (w.heap.size + 1) 0 (setN t a k v ++ [170, 170, 170, 170])) := by
      have := setW_bys (w := w1.drew) [170, 170, 170, 170] a k v HB.out
      rw [hw2] at this; exact this
    have HBe : Hid (Below w.heap.size w w2 ∧ w2.heap.size = w.heap.size + 2) := by
      have h1 := setW_below (B := w.heap.size) (by omega) hw2 (w0 := w) (HB1.out.drew)
      exact ⟨h1.1, h1.2.trans HS.out⟩
    clear hw2 e0 e1 e2
    go_wp2_with fail
    refine (rset_any t a k v _ (by omega) hv).mono ?_
    rintro e w3 ⟨rfl, hb3⟩
    have HB3 := hide hb3; clear hb3
    have hcv3 := (HB2.out.below HB3.out (by have := HBe.out.2; omega)).conv (P := Try.prog) 28 9 5 Try.underlying28 Try.underlying5 Try.underlying9 cap (t.length + 4) (by simp [setN_length])
    have i8 : ¬ (9223372036854775807 < (setN t a k v).length + 4) := by rw [setN_length]; exact i1
    go_wp2_with fail
    refine (works_any _).mono ?_
    rintro e w4 ⟨rfl, hb4⟩
    have HB4 := hide hb4; clear hb4
    go_wp2
    go_ret
    exact ⟨rfl, (HBe.out.1.trans (HB3.out.mono HBe.out.1.size)).trans (HB4.out.mono (Nat.le_trans HBe.out.1.size HB3.out.size))⟩
theorem sets_law : LawWalk 5 Try.f5 := by
  intro H enc W base args ds p hval hA
  rw [Try.params5] at hA hval
  obtain ⟨v0, vs0, d0, ds0, p0, q0, hargs, rfl, rfl, h0, r0⟩ := trodAll_cons hA
  obtain ⟨v1, vs1, d1, ds1, p1, q1, rfl, rfl, rfl, h1, r1⟩ := trodAll_cons r0
  obtain ⟨rfl, rfl, rfl⟩ := trodAll_nil r1
  obtain rfl : args = #[v0, v1] := by cases args; simp_all
  obtain ⟨a0, rfl, rfl, rfl, w0⟩ := open_string Try.underlying9 (hval 0 _ v0 rfl rfl) h0
  obtain ⟨l0, rfl⟩ := bs_of a0
  rw [bs_size] at w0
  obtain ⟨c1_0, c1_1, c1_2, y1_0, y1_1, y1_2, m1, rfl, rfl, rfl, hy1_0, hy1_1, hy1_2⟩ := Go.Joins.open_agg3 Try.underlying32 (by kernel_rfl) (by kernel_rfl) (hval 1 _ v1 rfl rfl) h1
  obtain ⟨a1_0, e1_0, _, w1_0⟩ := DataW.trod_int Try.underlying3 hy1_0
  simp at e1_0; subst e1_0
  have b1_0 := wf_i64 w1_0
  obtain ⟨a1_1, e1_1, _, w1_1⟩ := DataW.trod_int Try.underlying3 hy1_1
  simp at e1_1; subst e1_1
  have b1_1 := wf_i64 w1_1
  obtain ⟨a1_2, e1_2, _, w1_2⟩ := DataW.trod_int Try.underlying22 hy1_2
  simp at e1_2; subst e1_2
  have b1_2 := wf_u32 w1_2
  obtain ⟨v, rfl⟩ := Int.eq_ofNat_of_zero_le b1_2.1
  exact sets_walk l0 a1_0 a1_1 v W w0 (by omega)
set_option maxRecDepth 100000 in
theorem octetSets_proved : Rows.OctetSetsSaid :=
  OpenClaim.holds_of_wide 5 Try.f5 rfl rfl rfl rfl rfl rfl rfl ⟨rfl, rfl, rfl, rfl, rfl⟩ rfl rfl rfl rfl rfl (by kernel_rfl) Try.func5 (by kernel_rfl)
    (of_decide_eq_true (by kernel_rfl)) (by unfold Func.isWrapper; first | (rw [if_pos (by decide +kernel)]; kernel_rfl) | (rw [if_neg (by decide +kernel)]; exact ⟨rfl, rfl⟩))
    (fun os started H enc _ => law_lifted 5 Try.f5 Rows.octetSetsSpec Rows.octetSetsRow.domain Try.func5 (by kernel_rfl) rfl rfl
      (fun H ds hd => by match ds, hd with | [d0, d1], _ => exact ⟨rfl, rfl, rfl⟩) (by decide +kernel) sets_law os started H enc
      (ChangeSpec.witness6 (enc := enc) (C := Try.checked) false ⟨#[], #[.string ByteArray.empty, .agg #[.int .i64 0, .int .i64 0, .int .u32 0]], []⟩ 8 (by kernel_rfl) (by kernel_rfl) (by kernel_rfl) (by kernel_rfl)))
#print axioms octetSets_proved
end Go.Proofs.Ytopfbiecdoemcaa
