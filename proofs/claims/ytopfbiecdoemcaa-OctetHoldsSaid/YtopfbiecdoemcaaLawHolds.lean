/-
  OctetHolds: what was set is got back, and no byte beside it has changed. No condition.
-/
import Derived.Test.YtopfbiecdoemcaaOctWorks
import Derived.Test.YtopfbiecdoemcaaOctSetW
import Derived.Test.YtopfbiecdoemcaaFrame
namespace Go.Proofs.Ytopfbiecdoemcaa
open Go.ChangeShapes Go.WideShapes Go.ChangeAt Go.RowKit
open Go.ChangeMaps (open_string shut_string)

set_option maxRecDepth 100000 in
set_option maxHeartbeats 4000000 in
theorem holds_walk (l : List UInt8) (a k : Int) (v : Nat) (w : World) (hl : l.length ≤ 9223372036854775807) (hv : v < 4294967296) :
    Calls Try.prog 6 #[.string (bs l), .agg #[.int .i64 a, .int .i64 k, .int .u32 v]] w fun e w' => e = .returned (.bool true) ∧ Below w.heap.size w w' := by
  obtain ⟨t, ht, htl, hmin, htk⟩ := cut_one 1000 1000 rfl l
  obtain ⟨cap, w1, hcv, hc1, hc2, hb1, hs1, hcell, hfr⟩ := bytes_of (P := Try.prog) 9 28 5 Try.underlying9 Try.underlying28 Try.underlying5 (w.alloc (.cells #[.int .i64 a, .int .i64 k, .int .u32 v] 32)) t (by unfold maxLen; omega)
  have e0 : w1.cell? ⟨w.heap.size, 0, none⟩ = some (.int .i64 a) := (hb1.cell (p := ⟨w.heap.size, 0, none⟩) (by simp)).trans (cell_of_row _ _ 0 _ _ _ (heap_alloc_new w _))
  have e1 : w1.cell? ⟨w.heap.size, 1, none⟩ = some (.int .i64 k) := (hb1.cell (p := ⟨w.heap.size, 1, none⟩) (by simp)).trans (cell_of_row _ _ 1 _ _ _ (heap_alloc_new w _))
  have e2 : w1.cell? ⟨w.heap.size, 2, none⟩ = some (.int .u32 v) := (hb1.cell (p := ⟨w.heap.size, 2, none⟩) (by simp)).trans (cell_of_row _ _ 2 _ _ _ (heap_alloc_new w _))
  have hB : Bys w1 (w.heap.size + 1) 0 t := by
    intro j hj
    have := hcell j hj
    rw [Nat.zero_add]; simpa using this
  have HB := hide hB
  have HF : Hid (∀ j, j < t.length → w1.frozen? ⟨w.heap.size + 1, 0 + j, none⟩ = false) := by
    intro j hj
    have := hfr j hj
    rw [Nat.zero_add]; simpa using this
  have HB1 : Hid (Below w.heap.size w w1) := ((Below.refl _ _).alloc (Nat.le_refl _) _).trans (hb1.mono (by simp))
  have HS : Hid (w1.heap.size = w.heap.size + 2) := by
    have := hs1; simp at this; exact this
  clear hcell hb1 hs1 hfr hB
  have i2 : (t.length : Int) ≤ cap := by omega
  have i3 : cap ≤ 9223372036854775807 := by unfold maxLen at hc2; omega
  have i4 : t.length ≤ cap := hc1
  clear hc1 hc2
  go_enter Try.func6, Try.ntmps6
  go_wp2_with fail
  refine (set_any (w.heap.size + 1) 0 cap v t t.length (Nat.le_refl _) a k w1 (by omega) hv HB.out HF.out).mono ?_
  rintro e w2 ⟨rfl, hw2⟩
  have f0 := setW_far hw2 (by omega) e0
  have f1 := setW_far hw2 (by omega) e1
  have f2 := setW_far hw2 (by omega) e2
  have HB2 : Hid (Bys w2 (w.heap.size + 1) 0 (setN t a k v)) := by
    have := setW_bys (w := w1) [] a k v (by rw [List.append_nil]; exact HB.out)
    rw [hw2, List.append_nil] at this; exact this
  have HBe : Hid (Below w.heap.size w w2 ∧ w2.heap.size = w.heap.size + 2) := by
    have h1 := setW_below (B := w.heap.size) (by omega) hw2 (w0 := w) HB1.out
    exact ⟨h1.1, h1.2.trans HS.out⟩
  clear hw2 e0 e1 e2
  by_cases hk : okAt t.length a k = true
  · rw [hk]
    have h1 := okAt_true hk
    have hk4 := wd_true h1.1
    obtain ⟨a, rfl⟩ := Int.eq_ofNat_of_zero_le h1.2.1
    obtain ⟨k, rfl⟩ := Int.eq_ofNat_of_zero_le (show 0 ≤ k by omega)
    have hle : a + k ≤ t.length := by omega
    have hg := get_any w2.heap.size (some ⟨w.heap.size + 1, 0, none⟩) cap (setN t a k v) a k w2 (HB2.out.row (by have := HBe.out.2; omega)) (by rw [setN_length]; exact i4) i3
    obtain ⟨hgot, hsl⟩ := setN_got t a k v hk
    have c1 : ∀ W, Below w2.heap.size w2 W → (convert 28 9 (.slice (some ⟨w.heap.size + 1, 0, none⟩) a cap)).run Try.prog W = .ok (.string (bs (t.take a))) W := fun W hW => by
      have := Bys.conv (P := Try.prog) 28 9 5 Try.underlying28 Try.underlying5 Try.underlying9 (w := W) ((HB2.out.take a).below hW (by have := HBe.out.2; omega)) cap a (by rw [List.length_take, hsl]; omega)
      rwa [setN_take t a k v hk] at this
    have c2 : ¬ cap = a + k → ∀ W, Below w2.heap.size w2 W → (convert 28 9 (.slice (some ⟨w.heap.size + 1, a + k, none⟩) (t.length - (a + k)) (cap - (a + k)))).run Try.prog W = .ok (.string (bs (t.drop (a + k)))) W := fun _ W hW => by
      have := Bys.conv (P := Try.prog) 28 9 5 Try.underlying28 Try.underlying5 Try.underlying9 (w := W) ((HB2.out.drop (a + k)).below hW (by have := HBe.out.2; omega)) (cap - (a + k)) (t.length - (a + k)) (by rw [List.length_drop, hsl])
      rwa [setN_drop t a k v hk, Nat.zero_add] at this
    have c3 : cap = a + k → ∀ W, Below w2.heap.size w2 W → (convert 28 9 (.slice (some ⟨w.heap.size + 1, 0, none⟩) 0 0)).run Try.prog W = .ok (.string (bs [])) W := fun _ W _ => by
      exact Bys.conv (P := Try.prog) 28 9 5 Try.underlying28 Try.underlying5 Try.underlying9 (w := W) (l := []) (fun j hj => by simp at hj) 0 0 rfl
    rw [hgot, hsl, hk] at hg
    have HG := hide hg
    have hk2 := hk4
    clear hg hgot hsl hk h1 hk4
    rcases hk2 with hk2 | hk2 | hk2
    · obtain rfl : k = 1 := Int.ofNat.inj hk2
      clear hk2
      have j1 : (a : Int) ≤ (t.length : Int) := by omega
      have j2 : (a : Int) ≤ (cap : Int) := by omega
      have j3 : IntKind.i64.wrap ((a : Int) + 1) = (a : Int) + 1 := IntWalk.i64_in _ (by omega)
      have j4 : (a : Int) + 1 ≤ (t.length : Int) := by omega
      have j5 : 0 ≤ (a : Int) + 1 := by omega
      have j6 : ((a : Int) + 1).toNat = a + 1 := by omega
      go_wp2_with fail
      refine (HG.out).mono ?_
      rintro e w3 ⟨rfl, m, rfl⟩
      go_wp2_with fail
      by_cases hcap : cap = a + 1
      · have c4 := c3 hcap
        have HT : Hid (t.length = a + 1) := by show _ = _; omega
        have ht0 : t.length - (a + 1) = 0 := by omega
        have j7 : (a : Int) ≤ (a : Int) + 1 := by omega
        subst hcap
        clear c2 c3 i4
        have KK : Hid (∀ W, Below w2.heap.size w2 W → W.cell? ⟨w.heap.size, 0, none⟩ = some (.int .i64 a) ∧ W.cell? ⟨w.heap.size, 1, none⟩ = some (.int .i64 1) ∧ (convert 28 9 (.slice (some ⟨w.heap.size + 1, 0, none⟩) a (a + 1))).run Try.prog W = .ok (.string (bs (t.take a))) W ∧ (convert 28 9 (.slice (some ⟨w.heap.size + 1, 0, none⟩) 0 0)).run Try.prog W = .ok (.string (bs [])) W) := fun W hW => ⟨(hW.cell (p := ⟨w.heap.size, 0, none⟩) (by have := HBe.out.2; show w.heap.size < _; omega)).trans f0, (hW.cell (p := ⟨w.heap.size, 1, none⟩) (by have := HBe.out.2; show w.heap.size < _; omega)).trans f1, c1 W hW, c4 W hW⟩
        clear c1 c4
        go_region_held3 (fun w' => w'.cell? ⟨w.heap.size, 0, none⟩ = some (.int .i64 a) ∧ w'.cell? ⟨w.heap.size, 1, none⟩ = some (.int .i64 1) ∧ (convert 28 9 (.slice (some ⟨w.heap.size + 1, 0, none⟩) a (a + 1))).run Try.prog w' = .ok (.string (bs (t.take a))) w' ∧ (convert 28 9 (.slice (some ⟨w.heap.size + 1, 0, none⟩) 0 0)).run Try.prog w' = .ok (.string (bs [])) w') (first | exact KK.out _ ((below_drewN (Below.refl _ _) m).drew) | exact KK.out _ (below_of_drewN (below_of_drew hb4)))
          ((go_at_call 12; refine (works_any _).mono ?_; rintro e w4 ⟨rfl, hb4⟩))
        have HB4 := hide hb4; clear hb4
        go_wp2
        go_ret
        exact ⟨rfl, HBe.out.1.trans ((below_of_drewN HB4.out).mono HBe.out.1.size)⟩
      · have c4 := c2 hcap
        have e1 : List.take (t.length - (a + 1)) (t.drop (a + 1)) = t.drop (a + 1) := List.take_of_length_le (by rw [List.length_drop]; omega)
        obtain ⟨x, hx⟩ : ∃ x, t.take a = x := ⟨_, rfl⟩
        obtain ⟨y, hy⟩ : ∃ y, t.drop (a + 1) = y := ⟨_, rfl⟩
        rw [hy] at e1 c4
        rw [hx] at c1
        clear c2 c3 i4
        have KK : Hid (∀ W, Below w2.heap.size w2 W → W.cell? ⟨w.heap.size, 0, none⟩ = some (.int .i64 a) ∧ W.cell? ⟨w.heap.size, 1, none⟩ = some (.int .i64 1) ∧ (convert 28 9 (.slice (some ⟨w.heap.size + 1, 0, none⟩) a cap)).run Try.prog W = .ok (.string (bs x)) W ∧ (convert 28 9 (.slice (some ⟨w.heap.size + 1, a + 1, none⟩) (t.length - (a + 1)) (cap - (a + 1)))).run Try.prog W = .ok (.string (bs y)) W) := fun W hW => ⟨(hW.cell (p := ⟨w.heap.size, 0, none⟩) (by have := HBe.out.2; show w.heap.size < _; omega)).trans f0, (hW.cell (p := ⟨w.heap.size, 1, none⟩) (by have := HBe.out.2; show w.heap.size < _; omega)).trans f1, c1 W hW, c4 W hW⟩
        clear c1 c4
        go_region_held3 (fun w' => w'.cell? ⟨w.heap.size, 0, none⟩ = some (.int .i64 a) ∧ w'.cell? ⟨w.heap.size, 1, none⟩ = some (.int .i64 1) ∧ (convert 28 9 (.slice (some ⟨w.heap.size + 1, 0, none⟩) a cap)).run Try.prog w' = .ok (.string (bs x)) w' ∧ (convert 28 9 (.slice (some ⟨w.heap.size + 1, a + 1, none⟩) (t.length - (a + 1)) (cap - (a + 1)))).run Try.prog w' = .ok (.string (bs y)) w') (first | exact KK.out _ ((below_drewN (Below.refl _ _) m).drew) | exact KK.out _ (below_of_drewN (below_of_drew hb4)))
          ((go_at_call 12; refine (works_any _).mono ?_; rintro e w4 ⟨rfl, hb4⟩))
        have HB4 := hide hb4; clear hb4
        go_wp2
        go_ret
        exact ⟨rfl, HBe.out.1.trans ((below_of_drewN HB4.out).mono HBe.out.1.size)⟩
    · obtain rfl : k = 2 := Int.ofNat.inj hk2
      clear hk2
      have j1 : (a : Int) ≤ (t.length : Int) := by omega
      have j2 : (a : Int) ≤ (cap : Int) := by omega
      have j3 : IntKind.i64.wrap ((a : Int) + 2) = (a : Int) + 2 := IntWalk.i64_in _ (by omega)
      have j4 : (a : Int) + 2 ≤ (t.length : Int) := by omega
      have j5 : 0 ≤ (a : Int) + 2 := by omega
      have j6 : ((a : Int) + 2).toNat = a + 2 := by omega
      go_wp2_with fail
      refine (HG.out).mono ?_
      rintro e w3 ⟨rfl, m, rfl⟩
      go_wp2_with fail
      by_cases hcap : cap = a + 2
      · have c4 := c3 hcap
        have HT : Hid (t.length = a + 2) := by show _ = _; omega
        have ht0 : t.length - (a + 2) = 0 := by omega
        have j7 : (a : Int) ≤ (a : Int) + 2 := by omega
        subst hcap
        clear c2 c3 i4
        have KK : Hid (∀ W, Below w2.heap.size w2 W → W.cell? ⟨w.heap.size, 0, none⟩ = some (.int .i64 a) ∧ W.cell? ⟨w.heap.size, 1, none⟩ = some (.int .i64 2) ∧ (convert 28 9 (.slice (some ⟨w.heap.size + 1, 0, none⟩) a (a + 2))).run Try.prog W = .ok (.string (bs (t.take a))) W ∧ (convert 28 9 (.slice (some ⟨w.heap.size + 1, 0, none⟩) 0 0)).run Try.prog W = .ok (.string (bs [])) W) := fun W hW => ⟨(hW.cell (p := ⟨w.heap.size, 0, none⟩) (by have := HBe.out.2; show w.heap.size < _; omega)).trans f0, (hW.cell (p := ⟨w.heap.size, 1, none⟩) (by have := HBe.out.2; show w.heap.size < _; omega)).trans f1, c1 W hW, c4 W hW⟩
        clear c1 c4
        go_region_held3 (fun w' => w'.cell? ⟨w.heap.size, 0, none⟩ = some (.int .i64 a) ∧ w'.cell? ⟨w.heap.size, 1, none⟩ = some (.int .i64 2) ∧ (convert 28 9 (.slice (some ⟨w.heap.size + 1, 0, none⟩) a (a + 2))).run Try.prog w' = .ok (.string (bs (t.take a))) w' ∧ (convert 28 9 (.slice (some ⟨w.heap.size + 1, 0, none⟩) 0 0)).run Try.prog w' = .ok (.string (bs [])) w') (first | exact KK.out _ ((below_drewN (Below.refl _ _) m).drew) | exact KK.out _ (below_of_drewN (below_of_drew hb4)))
          ((go_at_call 12; refine (works_any _).mono ?_; rintro e w4 ⟨rfl, hb4⟩))
        have HB4 := hide hb4; clear hb4
        go_wp2
        go_ret
        exact ⟨rfl, HBe.out.1.trans ((below_of_drewN HB4.out).mono HBe.out.1.size)⟩
      · have c4 := c2 hcap
        have e1 : List.take (t.length - (a + 2)) (t.drop (a + 2)) = t.drop (a + 2) := List.take_of_length_le (by rw [List.length_drop]; omega)
        obtain ⟨x, hx⟩ : ∃ x, t.take a = x := ⟨_, rfl⟩
        obtain ⟨y, hy⟩ : ∃ y, t.drop (a + 2) = y := ⟨_, rfl⟩
        rw [hy] at e1 c4
        rw [hx] at c1
        clear c2 c3 i4
        have KK : Hid (∀ W, Below w2.heap.size w2 W → W.cell? ⟨w.heap.size, 0, none⟩ = some (.int .i64 a) ∧ W.cell? ⟨w.heap.size, 1, none⟩ = some (.int .i64 2) ∧ (convert 28 9 (.slice (some ⟨w.heap.size + 1, 0, none⟩) a cap)).run Try.prog W = .ok (.string (bs x)) W ∧ (convert 28 9 (.slice (some ⟨w.heap.size + 1, a + 2, none⟩) (t.length - (a + 2)) (cap - (a + 2)))).run Try.prog W = .ok (.string (bs y)) W) := fun W hW => ⟨(hW.cell (p := ⟨w.heap.size, 0, none⟩) (by have := HBe.out.2; show w.heap.size < _; omega)).trans f0, (hW.cell (p := ⟨w.heap.size, 1, none⟩) (by have := HBe.out.2; show w.heap.size < _; omega)).trans f1, c1 W hW, c4 W hW⟩
        clear c1 c4
        go_region_held3 (fun w' => w'.cell? ⟨w.heap.size, 0, none⟩ = some (.int .i64 a) ∧ w'.cell? ⟨w.heap.size, 1, none⟩ = some (.int .i64 2) ∧ (convert 28 9 (.slice (some ⟨w.heap.size + 1, 0, none⟩) a cap)).run Try.prog w' = .ok (.string (bs x)) w' ∧ (convert 28 9 (.slice (some ⟨w.heap.size + 1, a + 2, none⟩) (t.length - (a + 2)) (cap - (a + 2)))).run Try.prog w' = .ok (.string (bs y)) w') (first | exact KK.out _ ((below_drewN (Below.refl _ _) m).drew) | exact KK.out _ (below_of_drewN (below_of_drew hb4)))
          ((go_at_call 12; refine (works_any _).mono ?_; rintro e w4 ⟨rfl, hb4⟩))
        have HB4 := hide hb4; clear hb4
        go_wp2
        go_ret
        exact ⟨rfl, HBe.out.1.trans ((below_of_drewN HB4.out).mono HBe.out.1.size)⟩
    · obtain rfl : k = 4 := Int.ofNat.inj hk2
      clear hk2
      have j1 : (a : Int) ≤ (t.length : Int) := by omega
      have j2 : (a : Int) ≤ (cap : Int) := by omega
      have j3 : IntKind.i64.wrap ((a : Int) + 4) = (a : Int) + 4 := IntWalk.i64_in _ (by omega)
      have j4 : (a : Int) + 4 ≤ (t.length : Int) := by omega
      have j5 : 0 ≤ (a : Int) + 4 := by omega
      have j6 : ((a : Int) + 4).toNat = a + 4 := by omega
      go_wp2_with fail
      refine (HG.out).mono ?_
      rintro e w3 ⟨rfl, m, rfl⟩
      go_wp2_with fail
      by_cases hcap : cap = a + 4
      · have c4 := c3 hcap
        have HT : Hid (t.length = a + 4) := by show _ = _; omega
        have ht0 : t.length - (a + 4) = 0 := by omega
        have j7 : (a : Int) ≤ (a : Int) + 4 := by omega
        subst hcap
        clear c2 c3 i4
        have KK : Hid (∀ W, Below w2.heap.size w2 W → W.cell? ⟨w.heap.size, 0, none⟩ = some (.int .i64 a) ∧ W.cell? ⟨w.heap.size, 1, none⟩ = some (.int .i64 4) ∧ (convert 28 9 (.slice (some ⟨w.heap.size + 1, 0, none⟩) a (a + 4))).run Try.prog W = .ok (.string (bs (t.take a))) W ∧ (convert 28 9 (.slice (some ⟨w.heap.size + 1, 0, none⟩) 0 0)).run Try.prog W = .ok (.string (bs [])) W) := fun W hW => ⟨(hW.cell (p := ⟨w.heap.size, 0, none⟩) (by have := HBe.out.2; show w.heap.size < _; omega)).trans f0, (hW.cell (p := ⟨w.heap.size, 1, none⟩) (by have := HBe.out.2; show w.heap.size < _; omega)).trans f1, c1 W hW, c4 W hW⟩
        clear c1 c4
        go_region_held3 (fun w' => w'.cell? ⟨w.heap.size, 0, none⟩ = some (.int .i64 a) ∧ w'.cell? ⟨w.heap.size, 1, none⟩ = some (.int .i64 4) ∧ (convert 28 9 (.slice (some ⟨w.heap.size + 1, 0, none⟩) a (a + 4))).run Try.prog w' = .ok (.string (bs (t.take a))) w' ∧ (convert 28 9 (.slice (some ⟨w.heap.size + 1, 0, none⟩) 0 0)).run Try.prog w' = .ok (.string (bs [])) w') (first | exact KK.out _ ((below_drewN (Below.refl _ _) m).drew) | exact KK.out _ (below_of_drewN (below_of_drew hb4)))
          ((go_at_call 12; refine (works_any _).mono ?_; rintro e w4 ⟨rfl, hb4⟩))
        have HB4 := hide hb4; clear hb4
        go_wp2
        go_ret
        exact ⟨rfl, HBe.out.1.trans ((below_of_drewN HB4.out).mono HBe.out.1.size)⟩
      · have c4 := c2 hcap
        have e1 : List.take (t.length - (a + 4)) (t.drop (a + 4)) = t.drop (a + 4) := List.take_of_length_le (by rw [List.length_drop]; omega)
        obtain ⟨x, hx⟩ : ∃ x, t.take a = x := ⟨_, rfl⟩
        obtain ⟨y, hy⟩ : ∃ y, t.drop (a + 4) = y := ⟨_, rfl⟩
        rw [hy] at e1 c4
        rw [hx] at c1
        clear c2 c3 i4
        have KK : Hid (∀ W, Below w2.heap.size w2 W → W.cell? ⟨w.heap.size, 0, none⟩ = some (.int .i64 a) ∧ W.cell? ⟨w.heap.size, 1, none⟩ = some (.int .i64 4) ∧ (convert 28 9 (.slice (some ⟨w.heap.size + 1, 0, none⟩) a cap)).run Try.prog W = .ok (.string (bs x)) W ∧ (convert 28 9 (.slice (some ⟨w.heap.size + 1, a + 4, none⟩) (t.length - (a + 4)) (cap - (a + 4)))).run Try.prog W = .ok (.string (bs y)) W) := fun W hW => ⟨(hW.cell (p := ⟨w.heap.size, 0, none⟩) (by have := HBe.out.2; show w.heap.size < _; omega)).trans f0, (hW.cell (p := ⟨w.heap.size, 1, none⟩) (by have := HBe.out.2; show w.heap.size < _; omega)).trans f1, c1 W hW, c4 W hW⟩
        clear c1 c4
        go_region_held3 (fun w' => w'.cell? ⟨w.heap.size, 0, none⟩ = some (.int .i64 a) ∧ w'.cell? ⟨w.heap.size, 1, none⟩ = some (.int .i64 4) ∧ (convert 28 9 (.slice (some ⟨w.heap.size + 1, 0, none⟩) a cap)).run Try.prog w' = .ok (.string (bs x)) w' ∧ (convert 28 9 (.slice (some ⟨w.heap.size + 1, a + 4, none⟩) (t.length - (a + 4)) (cap - (a + 4)))).run Try.prog w' = .ok (.string (bs y)) w') (first | exact KK.out _ ((below_drewN (Below.refl _ _) m).drew) | exact KK.out _ (below_of_drewN (below_of_drew hb4)))
          ((go_at_call 12; refine (works_any _).mono ?_; rintro e w4 ⟨rfl, hb4⟩))
        have HB4 := hide hb4; clear hb4
        go_wp2
        go_ret
        exact ⟨rfl, HBe.out.1.trans ((below_of_drewN HB4.out).mono HBe.out.1.size)⟩
  · have hk' : okAt t.length a k = false := by simpa using hk
    rw [hk']
    have ht2 : setN t a k v = t := by unfold setN; rw [if_neg hk]
    have hcv2 := HB2.out.conv (P := Try.prog) 28 9 5 Try.underlying28 Try.underlying5 Try.underlying9 cap t.length (by rw [ht2])
    rw [ht2] at hcv2
    clear hk hk' ht2
    go_wp2_with fail
    refine (works_any _).mono ?_
    rintro e w4 ⟨rfl, hb4⟩
    have HB4 := hide hb4; clear hb4
    go_wp2
    go_ret
    exact ⟨rfl, HBe.out.1.trans (HB4.out.mono HBe.out.1.size)⟩
theorem holds_law : LawWalk 6 Try.f6 := by
  intro H enc W base args ds p hval hA
  rw [Try.params6] at hA hval
  obtain ⟨v0, vs0, d0, ds0, p0, q0, hargs, rfl, rfl, h0, r0⟩ := trodAll_cons hA
  obtain ⟨v1, vs1, d1, ds1, p1, q1, rfl, rfl, rfl, h1, r1⟩ := trodAll_cons r0
  obtain ⟨rfl, rfl, rfl⟩ := trodAll_nil r1
  obtain rfl : args = #[v0, v1] := by cases args; simp_all
  obtain ⟨a0, rfl, rfl, rfl, w0⟩ := open_string Try.underlying9 (hval 0 _ v0 rfl rfl) h0
  obtain ⟨l0, rfl⟩ := bs_of a0
  rw [bs_size] at w0
  obtain ⟨c1_0, c1_1, c1_2, y1_0, y1_1, y1_2, m1, rfl, rfl, rfl, hy1_0, hy1_1, hy1_2⟩ := Go.Joins.open_agg3 Try.underlying32 (by kernel_rfl) (by kernel_rfl) (hval 1 _ v1 rfl rfl) h1
  obtain ⟨a1_0, e1_0, _, w1_0⟩ := DataW.trod_int Try.underlying3 hy1_0
  simp at e1_0; subst e1_0
  have b1_0 := wf_i64 w1_0
  obtain ⟨a1_1, e1_1, _, w1_1⟩ := DataW.trod_int Try.underlying3 hy1_1
  simp at e1_1; subst e1_1
  have b1_1 := wf_i64 w1_1
  obtain ⟨a1_2, e1_2, _, w1_2⟩ := DataW.trod_int Try.underlying22 hy1_2
  simp at e1_2; subst e1_2
  have b1_2 := wf_u32 w1_2
  obtain ⟨v, rfl⟩ := Int.eq_ofNat_of_zero_le b1_2.1
  exact holds_walk l0 a1_0 a1_1 v W w0 (by omega)
set_option maxRecDepth 100000 in
theorem octetHolds_proved : Rows.OctetHoldsSaid :=
  OpenClaim.holds_of_wide 6 Try.f6 rfl rfl rfl rfl rfl rfl rfl ⟨rfl, rfl, rfl, rfl, rfl⟩ rfl rfl rfl rfl rfl (by kernel_rfl) Try.func6 (by kernel_rfl)
    (of_decide_eq_true (by kernel_rfl)) (by unfold Func.isWrapper; first | (rw [if_pos (by decide +kernel)]; kernel_rfl) | (rw [if_neg (by decide +kernel)]; exact ⟨rfl, rfl⟩))
    (fun os started H enc _ => law_lifted 6 Try.f6 Rows.octetHoldsSpec Rows.octetHoldsRow.domain Try.func6 (by kernel_rfl) rfl rfl
      (fun H ds hd => by match ds, hd with | [d0, d1], _ => exact ⟨rfl, rfl, rfl⟩) (by decide +kernel) holds_law os started H enc
      (ChangeSpec.witness6 (enc := enc) (C := Try.checked) false ⟨#[], #[.string ByteArray.empty, .agg #[.int .i64 0, .int .i64 0, .int .u32 0]], []⟩ 8 (by kernel_rfl) (by kernel_rfl) (by kernel_rfl) (by kernel_rfl)))
#print axioms octetHolds_proved
end Go.Proofs.Ytopfbiecdoemcaa
