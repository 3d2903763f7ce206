/-
  Chapter 21: relocations as cells.
-/
import Derived.Test.YtdljpnebpoaeiaaImgD
namespace Go.Proofs.Ytdljpnebpoaeiaa
open Go.RowKit
open Sy

def rl0 (rs : List Rl) (k : Nat) : Rl := rs.getD k ⟨0, false, 0, 0, 0, 0⟩
theorem getD'_append (d : Value) : ∀ (a b : List Value) (i : Nat), getD' d (a ++ b) (a.length + i) = getD' d b i
  | [], b, i => by simp
  | x :: a, b, i => by
    have := getD'_append d a b i
    rw [show (x :: a).length + i = (a.length + i) + 1 by simp; omega]
    exact this
theorem rels_cons (x : Rl) (rs : List Rl) : rels (x :: rs) = relC x ++ rels rs := by simp [rels]
theorem rels_len (rs : List Rl) : (rels rs).length = rs.length * 6 := by
  induction rs with
  | nil => rfl
  | cons x rs ih => rw [rels_cons, List.length_append, ih]; simp [relC]; omega
theorem rels_get : ∀ (rs : List Rl) (k j : Nat), k < rs.length → j < 6 → getD' undef (rels rs) (k * 6 + j) = getD' undef (relC (rl0 rs k)) j
  | [], k, j, h, _ => by simp at h
  | x :: rs, 0, j, _, hj => by
    rw [rels_cons]
    obtain rfl | rfl | rfl | rfl | rfl | rfl : j = 0 ∨ j = 1 ∨ j = 2 ∨ j = 3 ∨ j = 4 ∨ j = 5 := by omega
    all_goals rfl
  | x :: rs, k + 1, j, h, hj => by
    rw [rels_cons, show (k + 1) * 6 + j = (relC x).length + (k * 6 + j) by simp [relC]; omega, getD'_append]
    exact rels_get rs k j (by simp at h; omega) hj
theorem rels_0 {rs : List Rl} {k : Nat} (h : k < rs.length) : intOf' (getD' undef (rels rs) (k * 6)) = ((rl0 rs k).at_ : Int) := by
  have := rels_get rs k 0 h (by omega); rw [Nat.add_zero] at this; rw [this]; rfl
theorem rels_1 {rs : List Rl} {k : Nat} (h : k < rs.length) : boolOf' (getD' undef (rels rs) (k * 6 + 1)) = (rl0 rs k).code := by rw [rels_get rs k 1 h (by omega)]; rfl
theorem rels_2 {rs : List Rl} {k : Nat} (h : k < rs.length) : intOf' (getD' undef (rels rs) (k * 6 + 2)) = ((rl0 rs k).off : Int) := by rw [rels_get rs k 2 h (by omega)]; rfl
theorem rels_3 {rs : List Rl} {k : Nat} (h : k < rs.length) : intOf' (getD' undef (rels rs) (k * 6 + 3)) = ((rl0 rs k).size : Int) := by rw [rels_get rs k 3 h (by omega)]; rfl
theorem rels_4 {rs : List Rl} {k : Nat} (h : k < rs.length) : intOf' (getD' undef (rels rs) (k * 6 + 4)) = ((rl0 rs k).perms : Int) := by rw [rels_get rs k 4 h (by omega)]; rfl
theorem rels_5 {rs : List Rl} {k : Nat} (h : k < rs.length) : intOf' (getD' undef (rels rs) (k * 6 + 5)) = ((rl0 rs k).typ : Int) := by rw [rels_get rs k 5 h (by omega)]; rfl
theorem rels_has {rs : List Rl} (n : Nat) : hasN n (rels rs) = decide (n ≤ rs.length * 6) := by
  rw [Bool.eq_iff_iff, hasN_iff, rels_len]; simp
theorem rels_like {rs : List Rl} {k : Nat} (h : k < rs.length) (a c d e f : Int) (b : Bool) : isLikeL [.int .u32 a, .bool b, .int .u32 c, .int .u32 d, .int .u16 e, .int .u16 f] (rels rs) (k * 6) = true := by
  have h0 := rels_get rs k 0 h (by omega)
  rw [Nat.add_zero] at h0
  simp only [isLikeL, Nat.add_assoc, Nat.reduceAdd, h0, rels_get rs k 1 h (by omega), rels_get rs k 2 h (by omega), rels_get rs k 3 h (by omega), rels_get rs k 4 h (by omega), rels_get rs k 5 h (by omega)]
  rfl
theorem rels_like1 {rs : List Rl} {k : Nat} (h : k < rs.length) (a : Int) : isLikeL [.int .u32 a] (rels rs) (k * 6) = true := by
  have h0 := rels_get rs k 0 h (by omega)
  rw [Nat.add_zero] at h0
  simp only [isLikeL, h0]
  rfl
theorem rels_flat (rs : List Rl) : ∀ v ∈ rels rs, flat0 v = true := by
  intro v hv
  unfold rels at hv
  obtain ⟨x, _, hx⟩ := List.mem_flatMap.1 hv
  simp only [relC, List.mem_cons, List.not_mem_nil, or_false] at hx
  rcases hx with rfl | rfl | rfl | rfl | rfl | rfl <;> rfl
end Go.Proofs.Ytdljpnebpoaeiaa
