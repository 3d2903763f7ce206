/-
  OctetGets: for any bytes, place and width octet.Get answers what the document says. No condition.
-/
import Derived.Test.YtopfbiecdoemcaaOctWorks
import Derived.Test.YtopfbiecdoemcaaFrame
namespace Go.Proofs.Ytopfbiecdoemcaa
open Go.ChangeShapes Go.WideShapes Go.ChangeAt Go.RowKit
open Go.ChangeMaps (open_string shut_string)

theorem gets_walk (l : List UInt8) (a k : Int) (w : World) (hl : l.length ≤ 9223372036854775807) :
    Calls Try.prog 4 #[.string (bs l), .int .i64 a, .int .i64 k] w fun e w' => e = .returned (.bool true) ∧ Below w.heap.size w w' := by
  obtain ⟨t, ht, _, hcase⟩ := cut_at 5000 l
  obtain ⟨cap, w1, hcv, hc1, hc2, hb1, hs1, hcell, _⟩ := bytes_of (P := Try.prog) 9 28 5 Try.underlying9 Try.underlying28 Try.underlying5 w t (by unfold maxLen; omega)
  have HR := hide (row_bytes (B := w1.heap.size) (by omega) hcell)
  have HB1 := hide hb1
  have HC := hide hc2
  clear hcell hb1 hs1 hc2
  rcases hcase with ⟨rfl, h5⟩ | ⟨htk, h5⟩
  all_goals
    go_enter Try.func4, Try.ntmps4
    go_wp2_with fail
    refine (get_any w1.heap.size _ cap _ a k w1 HR.out hc1 HC.out).mono ?_
    rintro e w2 ⟨rfl, m, rfl⟩
    go_wp2_with fail
    refine (rget_any _ a k _ (by omega)).mono ?_
    rintro e w3 ⟨rfl, rfl⟩
    go_wp2_with fail
    refine (works_any _).mono ?_
    rintro e w4 ⟨rfl, hb3⟩
    have HB3 := hide hb3; clear hb3
    go_wp2
    go_ret
    exact ⟨rfl, (below_drewN HB1.out m).trans (HB3.out.mono HB1.out.size)⟩
theorem gets_law : LawWalk 4 Try.f4 := by
  intro H enc W base args ds p hval hA
  rw [Try.params4] at hA hval
  obtain ⟨v0, vs0, d0, ds0, p0, q0, hargs, rfl, rfl, h0, r0⟩ := trodAll_cons hA
  obtain ⟨v1, vs1, d1, ds1, p1, q1, rfl, rfl, rfl, h1, r1⟩ := trodAll_cons r0
  obtain ⟨v2, vs2, d2, ds2, p2, q2, rfl, rfl, rfl, h2, r2⟩ := trodAll_cons r1
  obtain ⟨rfl, rfl, rfl⟩ := trodAll_nil r2
  obtain rfl : args = #[v0, v1, v2] := by cases args; simp_all
  obtain ⟨a0, rfl, rfl, rfl, w0⟩ := open_string Try.underlying9 (hval 0 _ v0 rfl rfl) h0
  obtain ⟨l0, rfl⟩ := bs_of a0
  rw [bs_size] at w0
  obtain ⟨a1, rfl, rfl, rfl, w1⟩ := open_int Try.underlying3 (hval 1 _ v1 rfl rfl) h1
  have b1 := wf_i64 w1
  obtain ⟨a2, rfl, rfl, rfl, w2⟩ := open_int Try.underlying3 (hval 2 _ v2 rfl rfl) h2
  have b2 := wf_i64 w2
  exact gets_walk l0 a1 a2 W w0
set_option maxRecDepth 100000 in
theorem octetGets_proved : Rows.OctetGetsSaid :=
  OpenClaim.holds_of_wide 4 Try.f4 rfl rfl rfl rfl rfl rfl rfl ⟨rfl, rfl, rfl, rfl, rfl⟩ rfl rfl rfl rfl rfl (by kernel_rfl) Try.func4 (by kernel_rfl)
    (of_decide_eq_true (by kernel_rfl)) (by unfold Func.isWrapper; first | (rw [if_pos (by decide +kernel)]; kernel_rfl) | (rw [if_neg (by decide +kernel)]; exact ⟨rfl, rfl⟩))
    (fun os started H enc _ => law_lifted 4 Try.f4 Rows.octetGetsSpec Rows.octetGetsRow.domain Try.func4 (by kernel_rfl) rfl rfl
      (fun H ds hd => by match ds, hd with | [d0, d1, d2], _ => exact ⟨rfl, rfl, rfl⟩) (by decide +kernel) gets_law os started H enc
      (ChangeSpec.witness6 (enc := enc) (C := Try.checked) false ⟨#[], #[.string ByteArray.empty, .int .i64 0, .int .i64 0], []⟩ 8 (by kernel_rfl) (by kernel_rfl) (by kernel_rfl) (by kernel_rfl)))
#print axioms octetGets_proved
end Go.Proofs.Ytopfbiecdoemcaa
