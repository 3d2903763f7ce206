/-
  Chapter 21: images of a law's own, as a contract.
-/
import Derived.Test.YtdljpnebpoaeiaaImgT
namespace Go.Proofs.Ytdljpnebpoaeiaa
open Go.RowKit
open Sy
set_option linter.unusedSimpArgs false

theorem take_u32s (n : Nat) (xs : List Nat) : List.take n (u32s xs) = u32s (xs.take n) := by unfold u32s; rw [List.map_take]
theorem take_rels : ∀ (n : Nat) (rs : List Rl), List.take (n * 6) (rels rs) = rels (rs.take n)
  | 0, rs => by simp [rels]
  | n + 1, [] => by simp [rels]
  | n + 1, x :: rs => by
    rw [rels_cons, List.take_succ_cons, rels_cons, List.take_append, List.take_of_length_le (by simp only [relC, List.length_cons, List.length_nil]; omega), show (relC x).length = 6 from rfl, show (n + 1) * 6 - 6 = n * 6 by omega, take_rels n rs]
theorem u32s_len (xs : List Nat) : lenT (u32s xs) = xs.length := by rw [lenT_eq]; simp [u32s]
theorem rels_lenT (rs : List Rl) : lenT (rels rs) = rs.length * 6 := by rw [lenT_eq, rels_len]
theorem oneC_flat : ∀ {l : List Value}, (∀ v ∈ l, flat0 v = true) → oneC l = true
  | [], _ => rfl
  | v :: l, h => by
    have h1 := flat0_oneCell (h v (List.mem_cons_self ..))
    have h2 := oneC_flat fun u hu => h u (List.mem_cons_of_mem _ hu)
    unfold oneC at *
    simp only [List.all_cons, Bool.and_eq_true]
    exact ⟨h1, h2⟩
theorem cut_len {α : Type} (m : Nat) (l : List α) : (if ((m : Nat) : Int) < (l.length : Int) then ((m : Nat) : Int) else (l.length : Int)) = (((l.take m).length : Nat) : Int) := by
  rw [List.length_take]; split <;> omega
theorem take_take_len {α : Type} (m : Nat) (l : List α) : l.take (l.take m).length = l.take m := by
  rw [List.length_take, List.take_eq_take_iff]; omega
theorem ble_true {a b : Nat} (h : a ≤ b) : a.ble b = true := Nat.ble_eq_true_of_le h
theorem blt_true {a b : Nat} (h : a < b) : a.blt b = true := (Nat.blt_eq).mpr h

theorem occ1 (cs : List Nat) : (if (5000 : Int) < (cs.length : Int) then (5000 : Int) else (cs.length : Int)) = (((cs.take 5000).length : Nat) : Int) := cut_len 5000 cs
theorem occ2 (cs : List Nat) : List.take (cs.take 5000).length (u32s cs) = u32s (cs.take 5000) := by rw [take_u32s, take_take_len]
theorem occ3 (cs : List Nat) : (u32s (cs.take 5000)).length.beq (cs.take 5000).length = true := by rw [show (u32s (cs.take 5000)).length = (cs.take 5000).length from by simp [u32s]]; exact Nat.beq_refl _
theorem occ7 (cs : List Nat) : hasN (cs.take 5000).length (u32s cs) = true := by rw [u32s_has, decide_eq_true_eq, List.length_take]; omega
theorem occ4 (cs : List Nat) : oneC (u32s (cs.take 5000)) = true := oneC_flat (u32s_flat _)
theorem occ5 (cs : List Nat) : ((cs.take 5000).length * 4).ble 1099511627776 = true := ble_true (by rw [List.length_take]; omega)
theorem occ6 (cs : List Nat) : (cs.take 5000).length.blt 4611686018427387904 = true := blt_true (by rw [List.length_take]; omega)
theorem occ8 (cs : List Nat) : decide ((0 : Int) ≤ (((cs.take 5000).length : Nat) : Int)) = true := by simp
theorem occ9 (cs : List Nat) : decide ((((cs.take 5000).length : Nat) : Int) ≤ ((cs.length : Nat) : Int)) = true := by rw [decide_eq_true_eq, List.length_take]; omega
theorem ocr1 (rs : List Rl) : (if (300 : Int) < (rs.length : Int) then (300 : Int) else (rs.length : Int)) = (((rs.take 300).length : Nat) : Int) := cut_len 300 rs
theorem ocr2 (rs : List Rl) : List.take ((rs.take 300).length * 6) (rels rs) = rels (rs.take 300) := by rw [take_rels, take_take_len]
theorem ocr3 (rs : List Rl) : (rels (rs.take 300)).length.beq ((rs.take 300).length * 6) = true := by rw [rels_len]; exact Nat.beq_refl _
theorem ocr7 (rs : List Rl) : hasN ((rs.take 300).length * 6) (rels rs) = true := by rw [rels_has, decide_eq_true_eq, List.length_take]; omega
theorem ocr4 (rs : List Rl) : oneC (rels (rs.take 300)) = true := oneC_flat (rels_flat _)
theorem ocr5 (rs : List Rl) : ((rs.take 300).length * 20).ble 1099511627776 = true := ble_true (by rw [List.length_take]; omega)
theorem ocr6 (rs : List Rl) : (rs.take 300).length.blt 4611686018427387904 = true := blt_true (by rw [List.length_take]; omega)
theorem ocr8 (rs : List Rl) : decide ((0 : Int) ≤ (((rs.take 300).length : Nat) : Int)) = true := by simp
theorem ocr9 (rs : List Rl) : decide ((((rs.take 300).length : Nat) : Int) ≤ ((rs.length : Nat) : Int)) = true := by rw [decide_eq_true_eq, List.length_take]; omega
theorem ocs1 (starts : List Nat) : (if (6 : Int) < (starts.length : Int) then (6 : Int) else (starts.length : Int)) = (((starts.take 6).length : Nat) : Int) := cut_len 6 starts
theorem ocs2 (starts : List Nat) : List.take (starts.take 6).length (u32s starts) = u32s (starts.take 6) := by rw [take_u32s, take_take_len]
theorem ocs3 (starts : List Nat) : (u32s (starts.take 6)).length.beq (starts.take 6).length = true := by rw [show (u32s (starts.take 6)).length = (starts.take 6).length from by simp [u32s]]; exact Nat.beq_refl _
theorem ocs7 (starts : List Nat) : hasN (starts.take 6).length (u32s starts) = true := by rw [u32s_has, decide_eq_true_eq, List.length_take]; omega
theorem ocs4 (starts : List Nat) : oneC (u32s (starts.take 6)) = true := oneC_flat (u32s_flat _)
theorem ocs5 (starts : List Nat) : ((starts.take 6).length * 4).ble 1099511627776 = true := ble_true (by rw [List.length_take]; omega)
theorem ocs6 (starts : List Nat) : (starts.take 6).length.blt 4611686018427387904 = true := blt_true (by rw [List.length_take]; omega)
theorem ocs8 (starts : List Nat) : decide ((0 : Int) ≤ (((starts.take 6).length : Nat) : Int)) = true := by simp
theorem ocs9 (starts : List Nat) : decide ((((starts.take 6).length : Nat) : Int) ≤ ((starts.length : Nat) : Int)) = true := by rw [decide_eq_true_eq, List.length_take]; omega
theorem ocd1 (data : List UInt8) : (if (20000 : Int) < (data.length : Int) then (20000 : Int) else (data.length : Int)) = (((data.take 20000).length : Nat) : Int) := cut_len 20000 data
theorem ocd2 (data : List UInt8) : List.take (data.take 20000).length data = data.take 20000 := take_take_len _ _
theorem ocd8 (data : List UInt8) : decide ((0 : Int) ≤ (((data.take 20000).length : Nat) : Int)) = true := by simp
theorem ocd9 (data : List UInt8) : decide ((((data.take 20000).length : Nat) : Int) ≤ ((data.length : Nat) : Int)) = true := by rw [decide_eq_true_eq, List.length_take]; omega
/-- a slice that came in: nil; empty; or these numbers -/
def sl (k : Nat) (g n : Nat) : Value := match k with | 0 => .slice none 0 0 | 1 => .slice (some ⟨g, 0, some g⟩) 0 (big + g) | _ => .slice (some ⟨g, 0, none⟩) n (big + g)
def slH (k : Nat) (g : Nat) (cells : List Value) : Sy.Heap := match k with | 0 => [] | 1 => [] | _ => [(g, ⟨false, some (0, 0), cells, none⟩)]
def slOk (k n : Nat) : Prop := k ≤ 2 ∧ (k < 2 → n = 0)
def inV (i j k : Nat) (pages stack types : Int) (data : List UInt8) (cs : List Nat) (rs : List Rl) (starts : List Nat) : Value :=
  .agg ⟨[.int .i64 pages, .int .i64 stack, .int .i64 types, sl i 64 cs.length, .string ⟨⟨data⟩⟩, sl j 65 rs.length, sl k 66 starts.length]⟩
def inH (i j k : Nat) (cs : List Nat) (rs : List Rl) (starts : List Nat) : Sy.Heap := slH i 64 (u32s cs) ++ slH j 65 (rels rs) ++ slH k 66 (u32s starts)
def inLo (cs : List Nat) (rs : List Rl) (starts : List Nat) : List (Nat × Nat) := [(64, cs.length), (65, rs.length), (66, starts.length)]
def ownV (pages stack types : Int) (data : List UInt8) (cs : List Nat) (rs : List Rl) (starts : List Nat) (a b c : Nat) : Value :=
  .agg ⟨[.int .i64 pages, .int .i64 stack, .int .i64 types, .slice (some ⟨a, 0, none⟩) (cs.take 5000).length (big + a), .string ⟨⟨data.take 20000⟩⟩, .slice (some ⟨b, 0, none⟩) (rs.take 300).length (big + b), .slice (some ⟨c, 0, none⟩) (starts.take 6).length (big + c)]⟩
def ownH (cs : List Nat) (rs : List Rl) (starts : List Nat) (a b c : Nat) : Sy.Heap := [(c, ⟨true, some (c, 1), u32s (starts.take 6), none⟩), (b, ⟨true, some (b, 6), rels (rs.take 300), none⟩), (a, ⟨true, some (a, 1), u32s (cs.take 5000), none⟩)]
def ownC (v : Value) (h : Sy.Heap) (pages stack types : Int) (data : List UInt8) (cs : List Nat) (rs : List Rl) (starts : List Nat) : Con :=
  ⟨[v], 67, h, inLo cs rs starts, ownV pages stack types data cs rs starts 67 68 69, 70, ownH cs rs starts 67 68 69, []⟩
def owσ (l : Nat) : Nat := if l = 67 then 70 else if l = 68 then 72 else if l = 69 then 74 else l
theorem okH_append {q : Nat → Bool} : ∀ {a b : Sy.Heap}, OkH q a → OkH q b → OkH q (a ++ b)
  | [], _, _, h => h
  | _ :: _, _, h1, h2 => ⟨h1.1, okH_append h1.2 h2⟩
theorem slH_ok {q : Nat → Bool} (k : Nat) {g : Nat} {cells : List Value} (h1 : q g = true) (h2 : q 0 = true) (h3 : ∀ v ∈ cells, flat0 v = true) : OkH q (slH k g cells) := by
  unfold slH
  split
  · trivial
  · trivial
  · exact ⟨⟨h1, h2, flat_bnd h3⟩, trivial⟩
theorem in_wf (i j k : Nat) (pages stack types : Int) (data : List UInt8) (cs : List Nat) (rs : List Rl) (starts : List Nat) (hi : i ≤ 2) (hj : j ≤ 2) (hk : k ≤ 2) : (ownC (inV i j k pages stack types data cs rs starts) (inH i j k cs rs starts) pages stack types data cs rs starts).Wf 3 := by
  have h1 : OkH (fun l => Nat.blt l 67) (inH i j k cs rs starts) := okH_append (okH_append (slH_ok i (by decide) (by decide) (u32s_flat cs)) (slH_ok j (by decide) (by decide) (rels_flat rs))) (slH_ok k (by decide) (by decide) (u32s_flat starts))
  refine ⟨by show NG ≤ 67; decide, by show 67 ≤ 70; omega, h1, rfl, rfl, rfl, ?_, by kernel_rfl, fun x hx v hv => ?_⟩
  · obtain rfl | rfl | rfl : i = 0 ∨ i = 1 ∨ i = 2 := by omega
    all_goals obtain rfl | rfl | rfl : j = 0 ∨ j = 1 ∨ j = 2 := by omega
    all_goals obtain rfl | rfl | rfl : k = 0 ∨ k = 1 ∨ k = 2 := by omega
    all_goals kernel_rfl
  · simp only [ownC, ownH, List.mem_cons, List.not_mem_nil, or_false] at hx
    rcases hx with rfl | rfl | rfl
    · exact okV_flat0 (u32s_flat _ v hv) 3
    · exact okV_flat0 (rels_flat _ v hv) 3
    · exact okV_flat0 (u32s_flat _ v hv) 3
theorem own_any {i j k : Nat} {pages stack types : Int} {data : List UInt8} {cs : List Nat} {rs : List Rl} {starts : List Nat} {b1 b2 : Nat × Sy.Blk} {lo' : List (Nat × Nat)} {q : Prop}
    (h : evF Try.prog noBase noLoop 100 10 9 [inV i j k pages stack types data cs rs starts] ⟨67, inH i j k cs rs starts, inLo cs rs starts, 0, [], 0, True⟩ = some (ownV pages stack types data cs rs starts 70 72 74, ⟨75, (ownH cs rs starts 70 72 74) ++ b1 :: b2 :: inH i j k cs rs starts, lo', 0, [], 0, q⟩))
    (hq : q) (hi : i ≤ 2) (hj : j ≤ 2) (hk : k ≤ 2) : ConOk Try.prog 9 3 (ownC (inV i j k pages stack types data cs rs starts) (inH i j k cs rs starts) pages stack types data cs rs starts) := by
  refine conOk_run (run_ok (L := 100) i_names (noBase_ok _) (noLoop_ok _) 10) (in_wf i j k pages stack types data cs rs starts hi hj hk) (T := []) (p := fun l => Nat.blt l 70) (σ := owσ) h hq ?_
  refine ⟨fun l hl => ?_, ⟨⟨rfl, flat_all (u32s_flat _), rfl, rfl, rfl, trivial, (flat_map (u32s_flat _)).symm⟩, ⟨rfl, flat_all (rels_flat _), rfl, rfl, rfl, trivial, (flat_map (rels_flat _)).symm⟩, ⟨rfl, flat_all (u32s_flat _), rfl, rfl, rfl, trivial, (flat_map (u32s_flat _)).symm⟩, trivial⟩, rfl, trivial, ⟨by kernel_rfl, by kernel_rfl⟩, rfl, ⟨⟨rfl, rfl, flat_bnd (u32s_flat _)⟩, ⟨rfl, rfl, flat_bnd (rels_flat _)⟩, ⟨rfl, rfl, flat_bnd (u32s_flat _)⟩, trivial⟩, rfl, okV_bnd 3 _ (show okV (keeps 67 70 owσ (fun l => Nat.blt l 70)) 3 (ownV pages stack types data cs rs starts 67 68 69) = true from by kernel_rfl), fun x hx hrw => ?_⟩
  · have : NG ≤ 67 := by decide
    unfold owσ
    rw [if_neg (by omega), if_neg (by omega), if_neg (by omega)]
  · simp only [ownC, ownH, List.mem_cons, List.not_mem_nil, or_false] at hx
    rcases hx with rfl | rfl | rfl <;> cases hrw
theorem nil_of {α : Type} {l : List α} (h : l.length = 0) : l = [] := List.eq_nil_of_length_eq_zero h
theorem own_con (i j k : Nat) (pages stack types : Int) (data : List UInt8) (cs : List Nat) (rs : List Rl) (starts : List Nat) (hi : slOk i cs.length) (hj : slOk j rs.length) (hk : slOk k starts.length) :
    ConOk Try.prog 9 3 (ownC (inV i j k pages stack types data cs rs starts) (inH i j k cs rs starts) pages stack types data cs rs starts) := by
  obtain ⟨hi, ei⟩ := hi
  obtain ⟨hj, ej⟩ := hj
  obtain ⟨hk, ek⟩ := hk
  obtain rfl | rfl | rfl : i = 0 ∨ i = 1 ∨ i = 2 := by omega
  · obtain rfl := nil_of (ei (by omega))
    obtain rfl | rfl | rfl : j = 0 ∨ j = 1 ∨ j = 2 := by omega
    · obtain rfl := nil_of (ej (by omega))
      obtain rfl | rfl | rfl : k = 0 ∨ k = 1 ∨ k = 2 := by omega
      · obtain rfl := nil_of (ek (by omega))
        have hh := own_nnn pages stack types data [] [] []
        simp only [lenT_eq, List.drop_zero, Nat.zero_add, Nat.sub_zero, Nat.mul_one, Int.toNat_natCast, ocd1, ocd2, ocd8, ocd9, Bool.and_self, cond_true] at hh
        exact own_any hh trivial (by omega) (by omega) (by omega)
      · obtain rfl := nil_of (ek (by omega))
        have hh := own_nne pages stack types data [] [] []
        simp only [lenT_eq, List.drop_zero, Nat.zero_add, Nat.sub_zero, Nat.mul_one, Int.toNat_natCast, ocd1, ocd2, ocd8, ocd9, Bool.and_self, cond_true] at hh
        exact own_any hh trivial (by omega) (by omega) (by omega)
      · skip
        have hh := own_nnl pages stack types data [] [] starts
        simp only [lenT_eq, List.drop_zero, Nat.zero_add, Nat.sub_zero, Nat.mul_one, Int.toNat_natCast, ocd1, ocd2, ocd8, ocd9, ocs1, ocs2, ocs3, ocs4, ocs5, ocs6, ocs7, ocs8, ocs9, Bool.and_self, cond_true] at hh
        exact own_any hh trivial (by omega) (by omega) (by omega)
    · obtain rfl := nil_of (ej (by omega))
      obtain rfl | rfl | rfl : k = 0 ∨ k = 1 ∨ k = 2 := by omega
      · obtain rfl := nil_of (ek (by omega))
        have hh := own_nen pages stack types data [] [] []
        simp only [lenT_eq, List.drop_zero, Nat.zero_add, Nat.sub_zero, Nat.mul_one, Int.toNat_natCast, ocd1, ocd2, ocd8, ocd9, Bool.and_self, cond_true] at hh
        exact own_any hh trivial (by omega) (by omega) (by omega)
      · obtain rfl := nil_of (ek (by omega))
        have hh := own_nee pages stack types data [] [] []
        simp only [lenT_eq, List.drop_zero, Nat.zero_add, Nat.sub_zero, Nat.mul_one, Int.toNat_natCast, ocd1, ocd2, ocd8, ocd9, Bool.and_self, cond_true] at hh
        exact own_any hh trivial (by omega) (by omega) (by omega)
      · skip
        have hh := own_nel pages stack types data [] [] starts
        simp only [lenT_eq, List.drop_zero, Nat.zero_add, Nat.sub_zero, Nat.mul_one, Int.toNat_natCast, ocd1, ocd2, ocd8, ocd9, ocs1, ocs2, ocs3, ocs4, ocs5, ocs6, ocs7, ocs8, ocs9, Bool.and_self, cond_true] at hh
        exact own_any hh trivial (by omega) (by omega) (by omega)
    · skip
      obtain rfl | rfl | rfl : k = 0 ∨ k = 1 ∨ k = 2 := by omega
      · obtain rfl := nil_of (ek (by omega))
        have hh := own_nln pages stack types data [] rs []
        simp only [lenT_eq, List.drop_zero, Nat.zero_add, Nat.sub_zero, Nat.mul_one, Int.toNat_natCast, ocd1, ocd2, ocd8, ocd9, ocr1, ocr2, ocr3, ocr4, ocr5, ocr6, ocr7, ocr8, ocr9, Bool.and_self, cond_true] at hh
        exact own_any hh trivial (by omega) (by omega) (by omega)
      · obtain rfl := nil_of (ek (by omega))
        have hh := own_nle pages stack types data [] rs []
        simp only [lenT_eq, List.drop_zero, Nat.zero_add, Nat.sub_zero, Nat.mul_one, Int.toNat_natCast, ocd1, ocd2, ocd8, ocd9, ocr1, ocr2, ocr3, ocr4, ocr5, ocr6, ocr7, ocr8, ocr9, Bool.and_self, cond_true] at hh
        exact own_any hh trivial (by omega) (by omega) (by omega)
      · skip
        have hh := own_nll pages stack types data [] rs starts
        simp only [lenT_eq, List.drop_zero, Nat.zero_add, Nat.sub_zero, Nat.mul_one, Int.toNat_natCast, ocd1, ocd2, ocd8, ocd9, ocr1, ocr2, ocr3, ocr4, ocr5, ocr6, ocr7, ocr8, ocr9, ocs1, ocs2, ocs3, ocs4, ocs5, ocs6, ocs7, ocs8, ocs9, Bool.and_self, cond_true] at hh
        exact own_any hh trivial (by omega) (by omega) (by omega)
  · obtain rfl := nil_of (ei (by omega))
    obtain rfl | rfl | rfl : j = 0 ∨ j = 1 ∨ j = 2 := by omega
    · obtain rfl := nil_of (ej (by omega))
      obtain rfl | rfl | rfl : k = 0 ∨ k = 1 ∨ k = 2 := by omega
      · obtain rfl := nil_of (ek (by omega))
        have hh := own_enn pages stack types data [] [] []
        simp only [lenT_eq, List.drop_zero, Nat.zero_add, Nat.sub_zero, Nat.mul_one, Int.toNat_natCast, ocd1, ocd2, ocd8, ocd9, Bool.and_self, cond_true] at hh
        exact own_any hh trivial (by omega) (by omega) (by omega)
      · obtain rfl := nil_of (ek (by omega))
        have hh := own_ene pages stack types data [] [] []
        simp only [lenT_eq, List.drop_zero, Nat.zero_add, Nat.sub_zero, Nat.mul_one, Int.toNat_natCast, ocd1, ocd2, ocd8, ocd9, Bool.and_self, cond_true] at hh
        exact own_any hh trivial (by omega) (by omega) (by omega)
      · skip
        have hh := own_enl pages stack types data [] [] starts
        simp only [lenT_eq, List.drop_zero, Nat.zero_add, Nat.sub_zero, Nat.mul_one, Int.toNat_natCast, ocd1, ocd2, ocd8, ocd9, ocs1, ocs2, ocs3, ocs4, ocs5, ocs6, ocs7, ocs8, ocs9, Bool.and_self, cond_true] at hh
        exact own_any hh trivial (by omega) (by omega) (by omega)
    · obtain rfl := nil_of (ej (by omega))
      obtain rfl | rfl | rfl : k = 0 ∨ k = 1 ∨ k = 2 := by omega
      · obtain rfl := nil_of (ek (by omega))
        have hh := own_een pages stack types data [] [] []
        simp only [lenT_eq, List.drop_zero, Nat.zero_add, Nat.sub_zero, Nat.mul_one, Int.toNat_natCast, ocd1, ocd2, ocd8, ocd9, Bool.and_self, cond_true] at hh
        exact own_any hh trivial (by omega) (by omega) (by omega)
      · obtain rfl := nil_of (ek (by omega))
        have hh := own_eee pages stack types data [] [] []
        simp only [lenT_eq, List.drop_zero, Nat.zero_add, Nat.sub_zero, Nat.mul_one, Int.toNat_natCast, ocd1, ocd2, ocd8, ocd9, Bool.and_self, cond_true] at hh
        exact own_any hh trivial (by omega) (by omega) (by omega)
      · skip
        have hh := own_eel pages stack types data [] [] starts
        simp only [lenT_eq, List.drop_zero, Nat.zero_add, Nat.sub_zero, Nat.mul_one, Int.toNat_natCast, ocd1, ocd2, ocd8, ocd9, ocs1, ocs2, ocs3, ocs4, ocs5, ocs6, ocs7, ocs8, ocs9, Bool.and_self, cond_true] at hh
        exact own_any hh trivial (by omega) (by omega) (by omega)
    · skip
      obtain rfl | rfl | rfl : k = 0 ∨ k = 1 ∨ k = 2 := by omega
      · obtain rfl := nil_of (ek (by omega))
        have hh := own_eln pages stack types data [] rs []
        simp only [lenT_eq, List.drop_zero, Nat.zero_add, Nat.sub_zero, Nat.mul_one, Int.toNat_natCast, ocd1, ocd2, ocd8, ocd9, ocr1, ocr2, ocr3, ocr4, ocr5, ocr6, ocr7, ocr8, ocr9, Bool.and_self, cond_true] at hh
        exact own_any hh trivial (by omega) (by omega) (by omega)
      · obtain rfl := nil_of (ek (by omega))
        have hh := own_ele pages stack types data [] rs []
        simp only [lenT_eq, List.drop_zero, Nat.zero_add, Nat.sub_zero, Nat.mul_one, Int.toNat_natCast, ocd1, ocd2, ocd8, ocd9, ocr1, ocr2, ocr3, ocr4, ocr5, ocr6, ocr7, ocr8, ocr9, Bool.and_self, cond_true] at hh
        exact own_any hh trivial (by omega) (by omega) (by omega)
      · skip
        have hh := own_ell pages stack types data [] rs starts
        simp only [lenT_eq, List.drop_zero, Nat.zero_add, Nat.sub_zero, Nat.mul_one, Int.toNat_natCast, ocd1, ocd2, ocd8, ocd9, ocr1, ocr2, ocr3, ocr4, ocr5, ocr6, ocr7, ocr8, ocr9, ocs1, ocs2, ocs3, ocs4, ocs5, ocs6, ocs7, ocs8, ocs9, Bool.and_self, cond_true] at hh
        exact own_any hh trivial (by omega) (by omega) (by omega)
  · skip
    obtain rfl | rfl | rfl : j = 0 ∨ j = 1 ∨ j = 2 := by omega
    · obtain rfl := nil_of (ej (by omega))
      obtain rfl | rfl | rfl : k = 0 ∨ k = 1 ∨ k = 2 := by omega
      · obtain rfl := nil_of (ek (by omega))
        have hh := own_lnn pages stack types data cs [] []
        simp only [lenT_eq, List.drop_zero, Nat.zero_add, Nat.sub_zero, Nat.mul_one, Int.toNat_natCast, ocd1, ocd2, ocd8, ocd9, occ1, occ2, occ3, occ4, occ5, occ6, occ7, occ8, occ9, Bool.and_self, cond_true] at hh
        exact own_any hh trivial (by omega) (by omega) (by omega)
      · obtain rfl := nil_of (ek (by omega))
        have hh := own_lne pages stack types data cs [] []
        simp only [lenT_eq, List.drop_zero, Nat.zero_add, Nat.sub_zero, Nat.mul_one, Int.toNat_natCast, ocd1, ocd2, ocd8, ocd9, occ1, occ2, occ3, occ4, occ5, occ6, occ7, occ8, occ9, Bool.and_self, cond_true] at hh
        exact own_any hh trivial (by omega) (by omega) (by omega)
      · skip
        have hh := own_lnl pages stack types data cs [] starts
        simp only [lenT_eq, List.drop_zero, Nat.zero_add, Nat.sub_zero, Nat.mul_one, Int.toNat_natCast, ocd1, ocd2, ocd8, ocd9, occ1, occ2, occ3, occ4, occ5, occ6, occ7, occ8, occ9, ocs1, ocs2, ocs3, ocs4, ocs5, ocs6, ocs7, ocs8, ocs9, Bool.and_self, cond_true] at hh
        exact own_any hh trivial (by omega) (by omega) (by omega)
    · obtain rfl := nil_of (ej (by omega))
      obtain rfl | rfl | rfl : k = 0 ∨ k = 1 ∨ k = 2 := by omega
      · obtain rfl := nil_of (ek (by omega))
        have hh := own_len pages stack types data cs [] []
        simp only [lenT_eq, List.drop_zero, Nat.zero_add, Nat.sub_zero, Nat.mul_one, Int.toNat_natCast, ocd1, ocd2, ocd8, ocd9, occ1, occ2, occ3, occ4, occ5, occ6, occ7, occ8, occ9, Bool.and_self, cond_true] at hh
        exact own_any hh trivial (by omega) (by omega) (by omega)
      · obtain rfl := nil_of (ek (by omega))
        have hh := own_lee pages stack types data cs [] []
        simp only [lenT_eq, List.drop_zero, Nat.zero_add, Nat.sub_zero, Nat.mul_one, Int.toNat_natCast, ocd1, ocd2, ocd8, ocd9, occ1, occ2, occ3, occ4, occ5, occ6, occ7, occ8, occ9, Bool.and_self, cond_true] at hh
        exact own_any hh trivial (by omega) (by omega) (by omega)
      · skip
        have hh := own_lel pages stack types data cs [] starts
        simp only [lenT_eq, List.drop_zero, Nat.zero_add, Nat.sub_zero, Nat.mul_one, Int.toNat_natCast, ocd1, ocd2, ocd8, ocd9, occ1, occ2, occ3, occ4, occ5, occ6, occ7, occ8, occ9, ocs1, ocs2, ocs3, ocs4, ocs5, ocs6, ocs7, ocs8, ocs9, Bool.and_self, cond_true] at hh
        exact own_any hh trivial (by omega) (by omega) (by omega)
    · skip
      obtain rfl | rfl | rfl : k = 0 ∨ k = 1 ∨ k = 2 := by omega
      · obtain rfl := nil_of (ek (by omega))
        have hh := own_lln pages stack types data cs rs []
        simp only [lenT_eq, List.drop_zero, Nat.zero_add, Nat.sub_zero, Nat.mul_one, Int.toNat_natCast, ocd1, ocd2, ocd8, ocd9, occ1, occ2, occ3, occ4, occ5, occ6, occ7, occ8, occ9, ocr1, ocr2, ocr3, ocr4, ocr5, ocr6, ocr7, ocr8, ocr9, Bool.and_self, cond_true] at hh
        exact own_any hh trivial (by omega) (by omega) (by omega)
      · obtain rfl := nil_of (ek (by omega))
        have hh := own_lle pages stack types data cs rs []
        simp only [lenT_eq, List.drop_zero, Nat.zero_add, Nat.sub_zero, Nat.mul_one, Int.toNat_natCast, ocd1, ocd2, ocd8, ocd9, occ1, occ2, occ3, occ4, occ5, occ6, occ7, occ8, occ9, ocr1, ocr2, ocr3, ocr4, ocr5, ocr6, ocr7, ocr8, ocr9, Bool.and_self, cond_true] at hh
        exact own_any hh trivial (by omega) (by omega) (by omega)
      · skip
        have hh := own_lll pages stack types data cs rs starts
        simp only [lenT_eq, List.drop_zero, Nat.zero_add, Nat.sub_zero, Nat.mul_one, Int.toNat_natCast, ocd1, ocd2, ocd8, ocd9, occ1, occ2, occ3, occ4, occ5, occ6, occ7, occ8, occ9, ocr1, ocr2, ocr3, ocr4, ocr5, ocr6, ocr7, ocr8, ocr9, ocs1, ocs2, ocs3, ocs4, ocs5, ocs6, ocs7, ocs8, ocs9, Bool.and_self, cond_true] at hh
        exact own_any hh trivial (by omega) (by omega) (by omega)
end Go.Proofs.Ytdljpnebpoaeiaa
