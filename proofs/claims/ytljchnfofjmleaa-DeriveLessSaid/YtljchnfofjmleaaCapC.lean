/-
  Walks of layer 4: Make.
-/
import Derived.Test.YtljchnfofjmleaaCapB
namespace Go.Proofs.Ytljchnfofjmleaa
open Go.RowKit
attribute [local go_sem ↓] Go.wp_at_zero Go.wp_at_succ

theorem make_far (a s p : Nat) (w : World) (ha : a < 4294967296) (hs : s < 4294967296) (h1 : ¬ (255 : Int) < p) (h2 : (4294967296 : Int) < (a : Int) + s) :
    Calls Try.prog 37 #[.agg #[.int .u32 a, .int .u32 s], .int .u16 p] w fun e' w' => e' = .returned (.tuple #[.agg #[.int .u32 0, .int .u8 0, .int .u16 0, .int .u16 0, .int .u16 0, .int .u16 0, .int .u32 0, .bool false], .bool false]) ∧ Below w.heap.size w w' := by
  go_enter Try.func37, Try.ntmps37
  go_wp2_with fail
  refine (end_any a s _ ha hs).mono ?_
  rintro e' w1 ⟨rfl, hb1⟩
  have hz1 := hb1.size
  simp at hz1
  obtain ⟨hc1, hf1⟩ := bcell hb1
  have HB1 := hide hb1; clear hb1
  go_wp2
  refine bodyPost_ret (v := .tuple #[.agg #[.int .u32 0, .int .u8 0, .int .u16 0, .int .u16 0, .int .u16 0, .int .u16 0, .int .u32 0, .bool false], .bool false]) (by simp [results, Try.results37, go_sem, hc1]) rfl ⟨rfl, ?_⟩
  have hS : w.heap.size ≤ w1.heap.size := by omega
  repeat (refine Below.setCell ?_ (by simp <;> omega) _)
  exact (((Below.refl _ _).alloc (Nat.le_refl _) _).alloc (by simp) _).trans (HB1.out.mono (by simp; omega))
theorem make_wide (a s p : Nat) (w : World) (h1 : (255 : Int) < p) :
    Calls Try.prog 37 #[.agg #[.int .u32 a, .int .u32 s], .int .u16 p] w fun e' w' => e' = .returned (.tuple #[.agg #[.int .u32 0, .int .u8 0, .int .u16 0, .int .u16 0, .int .u16 0, .int .u16 0, .int .u32 0, .bool false], .bool false]) ∧ Below w.heap.size w w' := by
  go_enter Try.func37, Try.ntmps37
  go_wp2
  refine bodyPost_ret (v := .tuple #[.agg #[.int .u32 0, .int .u8 0, .int .u16 0, .int .u16 0, .int .u16 0, .int .u16 0, .int .u32 0, .bool false], .bool false]) (by simp [results, Try.results37, go_sem]) rfl ⟨rfl, by (repeat (first | exact Below.refl _ _ | refine Below.drew ?_ | refine below_drewN ?_ _ | refine Below.alloc ?_ (by simp <;> omega) _ | refine Below.setCell ?_ (by simp <;> omega) _))⟩

set_option maxHeartbeats 1000000 in
theorem make_yes (a s p e b t : Nat) (w : World) (ha : a < 4294967296) (hs : s < 4294967296) (h1 : ¬ (255 : Int) < p) (h2 : decide ((4294967296 : Int) < (a : Int) + s) = false)
    (HE : Hid (∀ W, Calls Try.prog 58 #[.int .u32 a, .int .u64 ((a : Int) + s)] W fun e' w' => e' = .returned (.tuple #[.int .u8 e, .int .u16 b, .int .u16 t, .bool true, .bool true]) ∧ ∃ m, w' = W.drewN m)) :
    Calls Try.prog 37 #[.agg #[.int .u32 a, .int .u32 s], .int .u16 p] w fun e' w' => e' = .returned (.tuple #[.agg #[.int .u32 a, .int .u8 e, .int .u16 b, .int .u16 t, .int .u16 p, .int .u16 0, .int .u32 0, .bool true], .bool true]) ∧ Below w.heap.size w w' := by
  go_enter Try.func37, Try.ntmps37
  go_wp2_with fail
  refine (end_any a s _ ha hs).mono ?_
  rintro e' w1 ⟨rfl, hb1⟩
  have hz1 := hb1.size
  simp at hz1
  have hk1 := (Blk.new1 w _ _ _).below hb1 (by simp; omega)
  have hk2 := (Blk.new2 w _ _ _).below hb1 (by simp)
  have f0 : w1.cell? ⟨w.heap.size, 0, none⟩ = some (.int .u32 a) := hk1.cell 0
  have f1 : w1.cell? ⟨w.heap.size, 1, none⟩ = some (.int .u32 s) := hk1.cell 1
  have HK1 := hide hk1
  have HK2 := hide hk2
  have HB1 := hide hb1; clear hb1 hk1 hk2
  go_wp2_with fail
  have KK : Hid (∀ W, Below w1.heap.size w1 W → W.cell? ⟨w.heap.size, 0, none⟩ = some (.int .u32 a) ∧ W.cell? ⟨w.heap.size, 1, none⟩ = some (.int .u32 s)) := fun W hW => ⟨(hW.cell (p := ⟨w.heap.size, 0, none⟩) (by show w.heap.size < _; omega)).trans f0, (hW.cell (p := ⟨w.heap.size, 1, none⟩) (by show w.heap.size < _; omega)).trans f1⟩
  go_region_held3 (fun w' => w'.cell? ⟨w.heap.size, 0, none⟩ = some (.int .u32 a) ∧ w'.cell? ⟨w.heap.size, 1, none⟩ = some (.int .u32 s)) ((refine KK.out _ ?_; repeat (first | exact Below.refl _ _ | exact below_of_drew hb2 | refine Below.drew ?_ | refine below_drewN ?_ _)))
    (first
      | (go_at_call 57; refine (end_any a s _ ha hs).mono ?_; rintro e' w2 ⟨rfl, hb2⟩)
      | (go_at_call 58; refine (HE.out _).mono ?_; rintro e' w3 ⟨rfl, m, rfl⟩))
  all_goals
    have hb3 : Below w1.heap.size w1 w2 := below_of_drew hb2
    have hz2 := hb3.size
    have hk1 := HK1.out.below hb3 (by omega)
    have hk2 := HK2.out.below hb3 (by omega)
    have g0 : w2.cell? ⟨w.heap.size, 0, none⟩ = some (.int .u32 a) := hk1.cell 0
    have c0 := hk2.cell 0
    have d0 := hk2.frozen 0
    have c1 := hk2.cell 1
    have d1 := hk2.frozen 1
    have c2 := hk2.cell 2
    have d2 := hk2.frozen 2
    have c3 := hk2.cell 3
    have d3 := hk2.frozen 3
    have c4 := hk2.cell 4
    have d4 := hk2.frozen 4
    have c5 := hk2.cell 5
    have d5 := hk2.frozen 5
    have c6 := hk2.cell 6
    have d6 := hk2.frozen 6
    have c7 := hk2.cell 7
    have d7 := hk2.frozen 7
    simp at c0 c1 c2 c3 c4 c5 c6 c7
    have HB2 := hide hb3; clear hb2 hb3 hk1 hk2
    go_wp2
    refine bodyPost_ret (v := .tuple #[.agg #[.int .u32 a, .int .u8 e, .int .u16 b, .int .u16 t, .int .u16 p, .int .u16 0, .int .u32 0, .bool true], .bool true]) (by simp [results, Try.results37, go_sem, c0, c1, c2, c3, c4, c5, c6, c7]) rfl ⟨rfl, ?_⟩
    repeat (first | refine Below.setCell ?_ (by simp <;> omega) _ | refine below_drewN ?_ _)
    exact ((((Below.refl _ _).alloc (Nat.le_refl _) _).alloc (by simp) _).trans (HB1.out.mono (by simp; omega))).trans (HB2.out.mono (by omega))

set_option maxHeartbeats 1000000 in
theorem make_no (a s p e b t : Nat) (w : World) (ha : a < 4294967296) (hs : s < 4294967296) (h1 : ¬ (255 : Int) < p) (h2 : decide ((4294967296 : Int) < (a : Int) + s) = false)
    (HE : Hid (∀ W, Calls Try.prog 58 #[.int .u32 a, .int .u64 ((a : Int) + s)] W fun e' w' => e' = .returned (.tuple #[.int .u8 e, .int .u16 b, .int .u16 t, .bool false, .bool true]) ∧ ∃ m, w' = W.drewN m)) :
    Calls Try.prog 37 #[.agg #[.int .u32 a, .int .u32 s], .int .u16 p] w fun e' w' => e' = .returned (.tuple #[.agg #[.int .u32 0, .int .u8 0, .int .u16 0, .int .u16 0, .int .u16 0, .int .u16 0, .int .u32 0, .bool false], .bool false]) ∧ Below w.heap.size w w' := by
  go_enter Try.func37, Try.ntmps37
  go_wp2_with fail
  refine (end_any a s _ ha hs).mono ?_
  rintro e' w1 ⟨rfl, hb1⟩
  have hz1 := hb1.size
  simp at hz1
  have hk1 := (Blk.new1 w _ _ _).below hb1 (by simp; omega)
  have hk2 := (Blk.new2 w _ _ _).below hb1 (by simp)
  have f0 : w1.cell? ⟨w.heap.size, 0, none⟩ = some (.int .u32 a) := hk1.cell 0
  have f1 : w1.cell? ⟨w.heap.size, 1, none⟩ = some (.int .u32 s) := hk1.cell 1
  have HK1 := hide hk1
  have HK2 := hide hk2
  have HB1 := hide hb1; clear hb1 hk1 hk2
  go_wp2_with fail
  have KK : Hid (∀ W, Below w1.heap.size w1 W → W.cell? ⟨w.heap.size, 0, none⟩ = some (.int .u32 a) ∧ W.cell? ⟨w.heap.size, 1, none⟩ = some (.int .u32 s)) := fun W hW => ⟨(hW.cell (p := ⟨w.heap.size, 0, none⟩) (by show w.heap.size < _; omega)).trans f0, (hW.cell (p := ⟨w.heap.size, 1, none⟩) (by show w.heap.size < _; omega)).trans f1⟩
  go_region_held3 (fun w' => w'.cell? ⟨w.heap.size, 0, none⟩ = some (.int .u32 a) ∧ w'.cell? ⟨w.heap.size, 1, none⟩ = some (.int .u32 s)) ((refine KK.out _ ?_; repeat (first | exact Below.refl _ _ | exact below_of_drew hb2 | refine Below.drew ?_ | refine below_drewN ?_ _)))
    (first
      | (go_at_call 57; refine (end_any a s _ ha hs).mono ?_; rintro e' w2 ⟨rfl, hb2⟩)
      | (go_at_call 58; refine (HE.out _).mono ?_; rintro e' w3 ⟨rfl, m, rfl⟩))
  all_goals
    have hb3 : Below w1.heap.size w1 w2 := below_of_drew hb2
    have hz2 := hb3.size
    have hk1 := HK1.out.below hb3 (by omega)
    have hk2 := HK2.out.below hb3 (by omega)
    have g0 : w2.cell? ⟨w.heap.size, 0, none⟩ = some (.int .u32 a) := hk1.cell 0
    have c0 := hk2.cell 0
    have d0 := hk2.frozen 0
    have c1 := hk2.cell 1
    have d1 := hk2.frozen 1
    have c2 := hk2.cell 2
    have d2 := hk2.frozen 2
    have c3 := hk2.cell 3
    have d3 := hk2.frozen 3
    have c4 := hk2.cell 4
    have d4 := hk2.frozen 4
    have c5 := hk2.cell 5
    have d5 := hk2.frozen 5
    have c6 := hk2.cell 6
    have d6 := hk2.frozen 6
    have c7 := hk2.cell 7
    have d7 := hk2.frozen 7
    simp at c0 c1 c2 c3 c4 c5 c6 c7
    have HB2 := hide hb3; clear hb2 hb3 hk1 hk2
    go_wp2
    refine bodyPost_ret (v := .tuple #[.agg #[.int .u32 0, .int .u8 0, .int .u16 0, .int .u16 0, .int .u16 0, .int .u16 0, .int .u32 0, .bool false], .bool false]) (by simp [results, Try.results37, go_sem, c0, c1, c2, c3, c4, c5, c6, c7]) rfl ⟨rfl, ?_⟩
    repeat (first | refine Below.setCell ?_ (by simp <;> omega) _ | refine below_drewN ?_ _)
    exact ((((Below.refl _ _).alloc (Nat.le_refl _) _).alloc (by simp) _).trans (HB1.out.mono (by simp; omega))).trans (HB2.out.mono (by omega))

theorem makeOk_true {a s p : Nat} (h : makeOk a s p = true) : p ≤ 255 ∧ a + s ≤ 4294967296 ∧ encX a (a + s) = true := by
  simp only [makeOk, Bool.and_eq_true, decide_eq_true_eq] at h; exact h
theorem make_y (a s p : Nat) (w : World) (ha : a < 4294967296) (hs : s < 4294967296) (h : makeOk a s p = true) :
    Calls Try.prog 37 #[.agg #[.int .u32 a, .int .u32 s], .int .u16 p] w fun e' w' => e' = .returned (.tuple #[.agg #[.int .u32 a, .int .u8 (encE a (a + s)), .int .u16 (encB a (a + s)), .int .u16 (encT a (a + s)), .int .u16 p, .int .u16 0, .int .u32 0, .bool true], .bool true]) ∧ Below w.heap.size w w' := by
  obtain ⟨h1, h2, h3⟩ := makeOk_true h
  refine make_yes a s p _ _ _ w ha hs (by omega) (by simp; omega) (fun W => ?_)
  have := enc_at_end a s W ha hs h2
  rwa [h3] at this
theorem make_n (a s p : Nat) (w : World) (ha : a < 4294967296) (hs : s < 4294967296) (h : makeOk a s p = false) :
    Calls Try.prog 37 #[.agg #[.int .u32 a, .int .u32 s], .int .u16 p] w fun e' w' => e' = .returned (.tuple #[.agg #[.int .u32 0, .int .u8 0, .int .u16 0, .int .u16 0, .int .u16 0, .int .u16 0, .int .u32 0, .bool false], .bool false]) ∧ Below w.heap.size w w' := by
  by_cases h1 : (255 : Int) < p
  · exact make_wide a s p w h1
  · by_cases h2 : (4294967296 : Int) < (a : Int) + s
    · exact make_far a s p w ha hs h1 h2
    · have h3 : encX a (a + s) = false := by
        simp only [makeOk, Bool.and_eq_false_iff, decide_eq_false_iff_not] at h
        rcases h with h | h | h
        · omega
        · omega
        · exact h
      refine make_no a s p (encE a (a + s)) (encB a (a + s)) (encT a (a + s)) w ha hs h1 (by simp; omega) (fun W => ?_)
      have := enc_at_end a s W ha hs (by omega)
      rwa [h3] at this
end Go.Proofs.Ytljchnfofjmleaa
