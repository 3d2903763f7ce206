/-
  ImageParts: the parts of any image's layout lie behind one another, within the arena, with exact bounds; for every image, of the sizes that own says.
-/
import Derived.Test.YtdljpnebpoaeiaaImgX
import Derived.Test.YtdljpnebpoaeiaaImgW
namespace Go.Proofs.Ytdljpnebpoaeiaa
open Go.ChangeShapes Go.WideShapes Go.ChangeAt Go.RowKit
open Sy

theorem imOk_own {rs : List Rl} {starts : List Nat} (h1 : ∀ x ∈ rs, RlOk x) (h2 : ∀ x ∈ starts, x < 4294967296) : ImOk (rs.take 300) (starts.take 6) :=
  ⟨fun x hx => h1 x (List.mem_of_mem_take hx), fun x hx => h2 x (List.mem_of_mem_take hx), by rw [List.length_take]; omega⟩
theorem imageParts_law : LawWalk 3 Try.f3 := by
  intro H enc W base args ds p hval hA
  rw [Try.params3] at hA hval
  obtain ⟨v0, vs0, d0, ds0, p0, q0, hargs, rfl, rfl, h0, r0⟩ := trodAll_cons hA
  obtain ⟨rfl, rfl, rfl⟩ := trodAll_nil r0
  obtain rfl : args = #[v0] := by cases args; simp_all
  obtain ⟨pages, stack, types, data, cs, rs, starts, v1, v2, v3, i, j, k, B1, O1, C1, B2, O2, C2, B3, O3, C3, S1, S2, S3, rfl, s1, s2, s3, n1, n2, n3⟩ := open_img (hval 0 _ v0 rfl rfl) h0
  have hown := own_con i j k pages stack types data cs rs starts s1.ok s2.ok s3.ok
  have hid := own_id (inV i j k pages stack types data cs rs starts) i j k pages stack types data cs rs starts
  refine img_walk (run_ok (L := 100) i_names (baseL_ok (ro := rs.take 300) (so := starts.take 6) [3] hown hid) (noLoop_ok _) 10) (pages := pages) (stack := stack) (types := types) (data := data) s1 s2 s3 ?_
  obtain ⟨a1, c1, e1⟩ := sl_form (g := 64) s1.ok
  obtain ⟨a2, c2, e2⟩ := sl_form (g := 65) s2.ok
  obtain ⟨a3, c3, e3⟩ := sl_form (g := 66) s3.ok
  have hr := parts_run pages stack types data (data.take 20000) (cs.take 5000) (rs.take 300) (starts.take 6) a1 a2 a3 c1 c2 c3 (inH i j k cs rs starts) cs.length rs.length starts.length (imOk_own n2 n3)
  unfold PartsRun at hr
  rw [← e1, ← e2, ← e3] at hr
  exact hr
set_option maxRecDepth 100000 in
theorem imageParts_proved : Rows.ImagePartsSaid :=
  OpenClaim.holds_of_wide 3 Try.f3 rfl rfl rfl rfl rfl rfl rfl ⟨rfl, rfl, rfl, rfl, rfl⟩ rfl rfl rfl rfl rfl (by kernel_rfl) Try.func3 (by kernel_rfl)
    (of_decide_eq_true (by kernel_rfl)) (by unfold Func.isWrapper; first | (rw [if_pos (by decide +kernel)]; kernel_rfl) | (rw [if_neg (by decide +kernel)]; exact ⟨rfl, rfl⟩))
    (fun os started H enc _ => law_lifted 3 Try.f3 Rows.imagePartsSpec Rows.imagePartsRow.domain Try.func3 (by kernel_rfl) rfl rfl
      (fun H ds hd => by match ds, hd with | [d0], _ => exact ⟨rfl, rfl, rfl⟩) (by decide +kernel) imageParts_law os started H enc
      (ChangeSpec.witness6 (enc := enc) (C := Try.checked) false ⟨#[], #[.agg #[.int .i64 0, .int .i64 0, .int .i64 0, .slice none 0 0, .string ByteArray.empty, .slice none 0 0, .slice none 0 0]], []⟩ 8 (by kernel_rfl) (by kernel_rfl) (by kernel_rfl) (by kernel_rfl)))
#print axioms imageParts_proved
end Go.Proofs.Ytdljpnebpoaeiaa
