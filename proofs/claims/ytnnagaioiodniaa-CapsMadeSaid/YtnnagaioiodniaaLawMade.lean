/-
  CapsMade: what is made of a region holds it, and just it; its permissions are those that were asked for. No condition.
-/
import Derived.Test.YtnnagaioiodniaaCapWorks
import Derived.Test.YtnnagaioiodniaaCapSound
import Derived.Test.YtnnagaioiodniaaBndMath
import Derived.Test.YtnnagaioiodniaaFrame
import Derived.Test.YtnnagaioiodniaaOpen
namespace Go.Proofs.Ytnnagaioiodniaa
open Go.ChangeShapes Go.WideShapes Go.ChangeAt Go.RowKit
open Go.ChangeMaps (open_string shut_string)
attribute [local go_sem ↓] Go.wp_at_zero Go.wp_at_succ

theorem made_far (a z n ra rs : Nat) (w : World) (ha : a < 4294967296) (hz : (z : Int) % 2049 = n) (hn : n < 2049) (hf : (4294967296 : Int) < (a : Int) + n) :
    Calls Try.prog 7 #[.int .u32 a, .int .u16 z, .agg #[.int .u32 ra, .int .u32 rs]] w fun e' w' => e' = .returned (.bool true) ∧ Below w.heap.size w w' := by
  have h1 := fun W => make_n a n 3 W ha (by omega) (by unfold makeOk; rw [show decide (a + n ≤ 4294967296) = false by simp; omega]; simp)
  have H1 := hide h1
  clear h1
  have HN : Hid (n < 2049) := hn
  have hn' : (n : Int) ≤ 2048 := by omega
  clear hn
  go_enter Try.func7, Try.ntmps7
  go_wp2_with fail
  refine (cworks_any _).mono ?_
  rintro e' w1 ⟨rfl, hb1⟩
  have HB1 := hide hb1; clear hb1
  go_wp2_with fail
  refine (H1.out _).mono ?_
  rintro e' w2 ⟨rfl, hb2⟩
  have HB2 := hide hb2; clear hb2
  go_wp2
  go_ret
  have k1 := ((Below.refl _ _).alloc (Nat.le_refl _) _).trans (HB1.out.mono (by simp))
  have k2 := (k1.alloc k1.size _).trans (HB2.out.mono (by simp; have := k1.size; omega))
  exact ⟨rfl, k2.alloc k2.size _⟩

set_option maxRecDepth 100000 in
set_option maxHeartbeats 1000000 in
theorem made_11 (a z n ra rs e b t : Nat) (w : World) (ha : a < 4294967296) (hz : (z : Int) % 2049 = n) (_hn : (n : Int) ≤ 2048) (hra : ra < 4294967296) (hrs : rs < 4294967296) (hf : decide ((4294967296 : Int) < (a : Int) + n) = false) (c1 : (a : Int) < ra) (c2 : (ra : Int) + rs < (a : Int) + n)
    (H1 : Hid (∀ W, Calls Try.prog 19 #[.agg #[.int .u32 a, .int .u32 n], .int .u16 3] W fun e' w' => e' = .returned (.tuple #[.agg #[.int .u32 a, .int .u8 e, .int .u16 b, .int .u16 t, .int .u16 3, .int .u16 0, .int .u32 0, .bool true], .bool true]) ∧ Below W.heap.size W w'))
    (H2 : Hid (∀ W, Calls Try.prog 12 #[.agg #[.int .u32 a, .int .u8 e, .int .u16 b, .int .u16 t, .int .u16 3, .int .u16 0, .int .u32 0, .bool true]] W fun e' w' => e' = .returned (.tuple #[.int .u32 a, .int .u64 ((a : Int) + n)]) ∧ Below W.heap.size W w'))
    (H3 : Hid (∀ W, Calls Try.prog 14 #[.agg #[.int .u32 a, .int .u8 e, .int .u16 b, .int .u16 t, .int .u16 3, .int .u16 0, .int .u32 0, .bool true], .agg #[.int .u32 a, .int .u32 n]] W fun e' w' => e' = .returned (.bool true) ∧ Below W.heap.size W w'))
    (H4 : Hid (∀ W, Calls Try.prog 16 #[.agg #[.int .u32 a, .int .u8 e, .int .u16 b, .int .u16 t, .int .u16 3, .int .u16 0, .int .u32 0, .bool true], .agg #[.int .u32 ra, .int .u32 rs]] W fun e' w' => e' = .returned (.bool (decide ((ra : Int) < (ra : Int) + rs))) ∧ Below W.heap.size W w'))
    (H5 : Hid (∀ W, Calls Try.prog 23 #[.agg #[.int .u32 a, .int .u8 e, .int .u16 b, .int .u16 t, .int .u16 3, .int .u16 0, .int .u32 0, .bool true]] W fun e' w' => e' = .returned (.bool true) ∧ Below W.heap.size W w')) :
    Calls Try.prog 7 #[.int .u32 a, .int .u16 z, .agg #[.int .u32 ra, .int .u32 rs]] w fun e' w' => e' = .returned (.bool true) ∧ Below w.heap.size w w' := by
  go_enter Try.func7, Try.ntmps7
  go_wp2_with fail
  refine (cworks_any _).mono ?_
  rintro e' w1 ⟨rfl, hb1⟩
  have q1 := (Blk.new w _ _).below hb1 (by simp)
  have l1 : w.heap.size < w1.heap.size := by have := hb1.size; simp at this; omega
  have HB1 := hide hb1; clear hb1
  have f0 : w1.cell? ⟨w.heap.size, 0, none⟩ = some (.int .u32 ra) := q1.cell 0
  have f1 : w1.cell? ⟨w.heap.size, 1, none⟩ = some (.int .u32 rs) := q1.cell 1
  have Q1 := hide q1; clear q1
  go_wp2_with fail
  refine (H1.out _).mono ?_
  rintro e' w2 ⟨rfl, hb2⟩
  obtain ⟨hc2, hf2⟩ := bcell hb2
  have hz2 := hb2.size
  simp at hz2
  have l2 : w1.heap.size < w2.heap.size := by omega
  have l2' : w.heap.size < w2.heap.size := by omega
  have HB2 := hide hb2; clear hb2
  go_wp2_with fail
  refine (H2.out _).mono ?_
  rintro e' w3 ⟨rfl, hb3⟩
  obtain ⟨hc3, hf3⟩ := bcell hb3
  have hz3 := hb3.size
  simp at hz3
  have l3 : w1.heap.size < w3.heap.size := by omega
  have l3' : w.heap.size < w3.heap.size := by omega
  have l3'' : w2.heap.size < w3.heap.size := by omega
  have HB3 := hide hb3; clear hb3
  go_wp2_with fail
  refine (H3.out _).mono ?_
  rintro e' w4 ⟨rfl, hb4⟩
  obtain ⟨hc4, hf4⟩ := bcell hb4
  have hz4 := hb4.size
  have l4 : w1.heap.size < w4.heap.size := by omega
  have l4' : w.heap.size < w4.heap.size := by omega
  have l4'' : w2.heap.size < w4.heap.size := by omega
  have HB4 := hide hb4; clear hb4
  go_wp2_with fail
  refine (H4.out _).mono ?_
  rintro e' w5 ⟨rfl, hb5⟩
  obtain ⟨hc5, hf5⟩ := bcell hb5
  have hz5 := hb5.size
  have l5 : w1.heap.size < w5.heap.size := by omega
  have l5' : w.heap.size < w5.heap.size := by omega
  have l5'' : w2.heap.size < w5.heap.size := by omega
  have HB5 := hide hb5; clear hb5
  go_wp2_with fail
  refine (H5.out _).mono ?_
  rintro e' w6 ⟨rfl, hb6⟩
  have HB6 := hide hb6; clear hb6
  go_wp2
  go_ret
  have k1 := ((Below.refl _ _).alloc (Nat.le_refl _) _).trans (HB1.out.mono (by simp))
  have k2 := (k1.alloc k1.size _).trans (HB2.out.mono (by simp; have := k1.size; omega))
  have k3 := (k2.alloc k2.size _).trans (HB3.out.mono (by simp; have := k2.size; omega))
  have k4 := k3.trans (HB4.out.mono k3.size)
  have k5 := k4.trans (HB5.out.mono k4.size)
  exact ⟨rfl, k5.trans (HB6.out.mono k5.size)⟩

set_option maxRecDepth 100000 in
set_option maxHeartbeats 1000000 in
theorem made_10 (a z n ra rs e b t : Nat) (w : World) (ha : a < 4294967296) (hz : (z : Int) % 2049 = n) (_hn : (n : Int) ≤ 2048) (hra : ra < 4294967296) (hrs : rs < 4294967296) (hf : decide ((4294967296 : Int) < (a : Int) + n) = false) (c1 : (a : Int) < ra) (c2 : ¬ (ra : Int) + rs < (a : Int) + n)
    (H1 : Hid (∀ W, Calls Try.prog 19 #[.agg #[.int .u32 a, .int .u32 n], .int .u16 3] W fun e' w' => e' = .returned (.tuple #[.agg #[.int .u32 a, .int .u8 e, .int .u16 b, .int .u16 t, .int .u16 3, .int .u16 0, .int .u32 0, .bool true], .bool true]) ∧ Below W.heap.size W w'))
    (H2 : Hid (∀ W, Calls Try.prog 12 #[.agg #[.int .u32 a, .int .u8 e, .int .u16 b, .int .u16 t, .int .u16 3, .int .u16 0, .int .u32 0, .bool true]] W fun e' w' => e' = .returned (.tuple #[.int .u32 a, .int .u64 ((a : Int) + n)]) ∧ Below W.heap.size W w'))
    (H3 : Hid (∀ W, Calls Try.prog 14 #[.agg #[.int .u32 a, .int .u8 e, .int .u16 b, .int .u16 t, .int .u16 3, .int .u16 0, .int .u32 0, .bool true], .agg #[.int .u32 a, .int .u32 n]] W fun e' w' => e' = .returned (.bool true) ∧ Below W.heap.size W w'))
    (H4 : Hid (∀ W, Calls Try.prog 16 #[.agg #[.int .u32 a, .int .u8 e, .int .u16 b, .int .u16 t, .int .u16 3, .int .u16 0, .int .u32 0, .bool true], .agg #[.int .u32 ra, .int .u32 rs]] W fun e' w' => e' = .returned (.bool (decide ((ra : Int) < (a : Int) + n))) ∧ Below W.heap.size W w'))
    (H5 : Hid (∀ W, Calls Try.prog 23 #[.agg #[.int .u32 a, .int .u8 e, .int .u16 b, .int .u16 t, .int .u16 3, .int .u16 0, .int .u32 0, .bool true]] W fun e' w' => e' = .returned (.bool true) ∧ Below W.heap.size W w')) :
    Calls Try.prog 7 #[.int .u32 a, .int .u16 z, .agg #[.int .u32 ra, .int .u32 rs]] w fun e' w' => e' = .returned (.bool true) ∧ Below w.heap.size w w' := by
  go_enter Try.func7, Try.ntmps7
  go_wp2_with fail
  refine (cworks_any _).mono ?_
  rintro e' w1 ⟨rfl, hb1⟩
  have q1 := (Blk.new w _ _).below hb1 (by simp)
  have l1 : w.heap.size < w1.heap.size := by have := hb1.size; simp at this; omega
  have HB1 := hide hb1; clear hb1
  have f0 : w1.cell? ⟨w.heap.size, 0, none⟩ = some (.int .u32 ra) := q1.cell 0
  have f1 : w1.cell? ⟨w.heap.size, 1, none⟩ = some (.int .u32 rs) := q1.cell 1
  have Q1 := hide q1; clear q1
  go_wp2_with fail
  refine (H1.out _).mono ?_
  rintro e' w2 ⟨rfl, hb2⟩
  obtain ⟨hc2, hf2⟩ := bcell hb2
  have hz2 := hb2.size
  simp at hz2
  have l2 : w1.heap.size < w2.heap.size := by omega
  have l2' : w.heap.size < w2.heap.size := by omega
  have HB2 := hide hb2; clear hb2
  go_wp2_with fail
  refine (H2.out _).mono ?_
  rintro e' w3 ⟨rfl, hb3⟩
  obtain ⟨hc3, hf3⟩ := bcell hb3
  have hz3 := hb3.size
  simp at hz3
  have l3 : w1.heap.size < w3.heap.size := by omega
  have l3' : w.heap.size < w3.heap.size := by omega
  have l3'' : w2.heap.size < w3.heap.size := by omega
  have HB3 := hide hb3; clear hb3
  go_wp2_with fail
  refine (H3.out _).mono ?_
  rintro e' w4 ⟨rfl, hb4⟩
  obtain ⟨hc4, hf4⟩ := bcell hb4
  have hz4 := hb4.size
  have l4 : w1.heap.size < w4.heap.size := by omega
  have l4' : w.heap.size < w4.heap.size := by omega
  have l4'' : w2.heap.size < w4.heap.size := by omega
  have HB4 := hide hb4; clear hb4
  go_wp2_with fail
  refine (H4.out _).mono ?_
  rintro e' w5 ⟨rfl, hb5⟩
  obtain ⟨hc5, hf5⟩ := bcell hb5
  have hz5 := hb5.size
  have l5 : w1.heap.size < w5.heap.size := by omega
  have l5' : w.heap.size < w5.heap.size := by omega
  have l5'' : w2.heap.size < w5.heap.size := by omega
  have HB5 := hide hb5; clear hb5
  go_wp2_with fail
  refine (H5.out _).mono ?_
  rintro e' w6 ⟨rfl, hb6⟩
  have HB6 := hide hb6; clear hb6
  go_wp2
  go_ret
  have k1 := ((Below.refl _ _).alloc (Nat.le_refl _) _).trans (HB1.out.mono (by simp))
  have k2 := (k1.alloc k1.size _).trans (HB2.out.mono (by simp; have := k1.size; omega))
  have k3 := (k2.alloc k2.size _).trans (HB3.out.mono (by simp; have := k2.size; omega))
  have k4 := k3.trans (HB4.out.mono k3.size)
  have k5 := k4.trans (HB5.out.mono k4.size)
  exact ⟨rfl, k5.trans (HB6.out.mono k5.size)⟩

set_option maxRecDepth 100000 in
set_option maxHeartbeats 1000000 in
theorem made_01 (a z n ra rs e b t : Nat) (w : World) (ha : a < 4294967296) (hz : (z : Int) % 2049 = n) (_hn : (n : Int) ≤ 2048) (hra : ra < 4294967296) (hrs : rs < 4294967296) (hf : decide ((4294967296 : Int) < (a : Int) + n) = false) (c1 : ¬ (a : Int) < ra) (c2 : (ra : Int) + rs < (a : Int) + n)
    (H1 : Hid (∀ W, Calls Try.prog 19 #[.agg #[.int .u32 a, .int .u32 n], .int .u16 3] W fun e' w' => e' = .returned (.tuple #[.agg #[.int .u32 a, .int .u8 e, .int .u16 b, .int .u16 t, .int .u16 3, .int .u16 0, .int .u32 0, .bool true], .bool true]) ∧ Below W.heap.size W w'))
    (H2 : Hid (∀ W, Calls Try.prog 12 #[.agg #[.int .u32 a, .int .u8 e, .int .u16 b, .int .u16 t, .int .u16 3, .int .u16 0, .int .u32 0, .bool true]] W fun e' w' => e' = .returned (.tuple #[.int .u32 a, .int .u64 ((a : Int) + n)]) ∧ Below W.heap.size W w'))
    (H3 : Hid (∀ W, Calls Try.prog 14 #[.agg #[.int .u32 a, .int .u8 e, .int .u16 b, .int .u16 t, .int .u16 3, .int .u16 0, .int .u32 0, .bool true], .agg #[.int .u32 a, .int .u32 n]] W fun e' w' => e' = .returned (.bool true) ∧ Below W.heap.size W w'))
    (H4 : Hid (∀ W, Calls Try.prog 16 #[.agg #[.int .u32 a, .int .u8 e, .int .u16 b, .int .u16 t, .int .u16 3, .int .u16 0, .int .u32 0, .bool true], .agg #[.int .u32 ra, .int .u32 rs]] W fun e' w' => e' = .returned (.bool (decide ((a : Int) < (ra : Int) + rs))) ∧ Below W.heap.size W w'))
    (H5 : Hid (∀ W, Calls Try.prog 23 #[.agg #[.int .u32 a, .int .u8 e, .int .u16 b, .int .u16 t, .int .u16 3, .int .u16 0, .int .u32 0, .bool true]] W fun e' w' => e' = .returned (.bool true) ∧ Below W.heap.size W w')) :
    Calls Try.prog 7 #[.int .u32 a, .int .u16 z, .agg #[.int .u32 ra, .int .u32 rs]] w fun e' w' => e' = .returned (.bool true) ∧ Below w.heap.size w w' := by
  go_enter Try.func7, Try.ntmps7
  go_wp2_with fail
  refine (cworks_any _).mono ?_
  rintro e' w1 ⟨rfl, hb1⟩
  have q1 := (Blk.new w _ _).below hb1 (by simp)
  have l1 : w.heap.size < w1.heap.size := by have := hb1.size; simp at this; omega
  have HB1 := hide hb1; clear hb1
  have f0 : w1.cell? ⟨w.heap.size, 0, none⟩ = some (.int .u32 ra) := q1.cell 0
  have f1 : w1.cell? ⟨w.heap.size, 1, none⟩ = some (.int .u32 rs) := q1.cell 1
  have Q1 := hide q1; clear q1
  go_wp2_with fail
  refine (H1.out _).mono ?_
  rintro e' w2 ⟨rfl, hb2⟩
  obtain ⟨hc2, hf2⟩ := bcell hb2
  have hz2 := hb2.size
  simp at hz2
  have l2 : w1.heap.size < w2.heap.size := by omega
  have l2' : w.heap.size < w2.heap.size := by omega
  have HB2 := hide hb2; clear hb2
  go_wp2_with fail
  refine (H2.out _).mono ?_
  rintro e' w3 ⟨rfl, hb3⟩
  obtain ⟨hc3, hf3⟩ := bcell hb3
  have hz3 := hb3.size
  simp at hz3
  have l3 : w1.heap.size < w3.heap.size := by omega
  have l3' : w.heap.size < w3.heap.size := by omega
  have l3'' : w2.heap.size < w3.heap.size := by omega
  have HB3 := hide hb3; clear hb3
  go_wp2_with fail
  refine (H3.out _).mono ?_
  rintro e' w4 ⟨rfl, hb4⟩
  obtain ⟨hc4, hf4⟩ := bcell hb4
  have hz4 := hb4.size
  have l4 : w1.heap.size < w4.heap.size := by omega
  have l4' : w.heap.size < w4.heap.size := by omega
  have l4'' : w2.heap.size < w4.heap.size := by omega
  have HB4 := hide hb4; clear hb4
  go_wp2_with fail
  refine (H4.out _).mono ?_
  rintro e' w5 ⟨rfl, hb5⟩
  obtain ⟨hc5, hf5⟩ := bcell hb5
  have hz5 := hb5.size
  have l5 : w1.heap.size < w5.heap.size := by omega
  have l5' : w.heap.size < w5.heap.size := by omega
  have l5'' : w2.heap.size < w5.heap.size := by omega
  have HB5 := hide hb5; clear hb5
  go_wp2_with fail
  refine (H5.out _).mono ?_
  rintro e' w6 ⟨rfl, hb6⟩
  have HB6 := hide hb6; clear hb6
  go_wp2
  go_ret
  have k1 := ((Below.refl _ _).alloc (Nat.le_refl _) _).trans (HB1.out.mono (by simp))
  have k2 := (k1.alloc k1.size _).trans (HB2.out.mono (by simp; have := k1.size; omega))
  have k3 := (k2.alloc k2.size _).trans (HB3.out.mono (by simp; have := k2.size; omega))
  have k4 := k3.trans (HB4.out.mono k3.size)
  have k5 := k4.trans (HB5.out.mono k4.size)
  exact ⟨rfl, k5.trans (HB6.out.mono k5.size)⟩

set_option maxRecDepth 100000 in
set_option maxHeartbeats 1000000 in
theorem made_00 (a z n ra rs e b t : Nat) (w : World) (ha : a < 4294967296) (hz : (z : Int) % 2049 = n) (_hn : (n : Int) ≤ 2048) (hra : ra < 4294967296) (hrs : rs < 4294967296) (hf : decide ((4294967296 : Int) < (a : Int) + n) = false) (c1 : ¬ (a : Int) < ra) (c2 : ¬ (ra : Int) + rs < (a : Int) + n)
    (H1 : Hid (∀ W, Calls Try.prog 19 #[.agg #[.int .u32 a, .int .u32 n], .int .u16 3] W fun e' w' => e' = .returned (.tuple #[.agg #[.int .u32 a, .int .u8 e, .int .u16 b, .int .u16 t, .int .u16 3, .int .u16 0, .int .u32 0, .bool true], .bool true]) ∧ Below W.heap.size W w'))
    (H2 : Hid (∀ W, Calls Try.prog 12 #[.agg #[.int .u32 a, .int .u8 e, .int .u16 b, .int .u16 t, .int .u16 3, .int .u16 0, .int .u32 0, .bool true]] W fun e' w' => e' = .returned (.tuple #[.int .u32 a, .int .u64 ((a : Int) + n)]) ∧ Below W.heap.size W w'))
    (H3 : Hid (∀ W, Calls Try.prog 14 #[.agg #[.int .u32 a, .int .u8 e, .int .u16 b, .int .u16 t, .int .u16 3, .int .u16 0, .int .u32 0, .bool true], .agg #[.int .u32 a, .int .u32 n]] W fun e' w' => e' = .returned (.bool true) ∧ Below W.heap.size W w'))
    (H4 : Hid (∀ W, Calls Try.prog 16 #[.agg #[.int .u32 a, .int .u8 e, .int .u16 b, .int .u16 t, .int .u16 3, .int .u16 0, .int .u32 0, .bool true], .agg #[.int .u32 ra, .int .u32 rs]] W fun e' w' => e' = .returned (.bool (decide ((a : Int) < (a : Int) + n))) ∧ Below W.heap.size W w'))
    (H5 : Hid (∀ W, Calls Try.prog 23 #[.agg #[.int .u32 a, .int .u8 e, .int .u16 b, .int .u16 t, .int .u16 3, .int .u16 0, .int .u32 0, .bool true]] W fun e' w' => e' = .returned (.bool true) ∧ Below W.heap.size W w')) :
    Calls Try.prog 7 #[.int .u32 a, .int .u16 z, .agg #[.int .u32 ra, .int .u32 rs]] w fun e' w' => e' = .returned (.bool true) ∧ Below w.heap.size w w' := by
  go_enter Try.func7, Try.ntmps7
  go_wp2_with fail
  refine (cworks_any _).mono ?_
  rintro e' w1 ⟨rfl, hb1⟩
  have q1 := (Blk.new w _ _).below hb1 (by simp)
  have l1 : w.heap.size < w1.heap.size := by have := hb1.size; simp at this; omega
  have HB1 := hide hb1; clear hb1
  have f0 : w1.cell? ⟨w.heap.size, 0, none⟩ = some (.int .u32 ra) := q1.cell 0
  have f1 : w1.cell? ⟨w.heap.size, 1, none⟩ = some (.int .u32 rs) := q1.cell 1
  have Q1 := hide q1; clear q1
  go_wp2_with fail
  refine (H1.out _).mono ?_
  rintro e' w2 ⟨rfl, hb2⟩
  obtain ⟨hc2, hf2⟩ := bcell hb2
  have hz2 := hb2.size
  simp at hz2
  have l2 : w1.heap.size < w2.heap.size := by omega
  have l2' : w.heap.size < w2.heap.size := by omega
  have HB2 := hide hb2; clear hb2
  go_wp2_with fail
  refine (H2.out _).mono ?_
  rintro e' w3 ⟨rfl, hb3⟩
  obtain ⟨hc3, hf3⟩ := bcell hb3
  have hz3 := hb3.size
  simp at hz3
  have l3 : w1.heap.size < w3.heap.size := by omega
  have l3' : w.heap.size < w3.heap.size := by omega
  have l3'' : w2.heap.size < w3.heap.size := by omega
  have HB3 := hide hb3; clear hb3
  go_wp2_with fail
  refine (H3.out _).mono ?_
  rintro e' w4 ⟨rfl, hb4⟩
  obtain ⟨hc4, hf4⟩ := bcell hb4
  have hz4 := hb4.size
  have l4 : w1.heap.size < w4.heap.size := by omega
  have l4' : w.heap.size < w4.heap.size := by omega
  have l4'' : w2.heap.size < w4.heap.size := by omega
  have HB4 := hide hb4; clear hb4
  go_wp2_with fail
  refine (H4.out _).mono ?_
  rintro e' w5 ⟨rfl, hb5⟩
  obtain ⟨hc5, hf5⟩ := bcell hb5
  have hz5 := hb5.size
  have l5 : w1.heap.size < w5.heap.size := by omega
  have l5' : w.heap.size < w5.heap.size := by omega
  have l5'' : w2.heap.size < w5.heap.size := by omega
  have HB5 := hide hb5; clear hb5
  go_wp2_with fail
  refine (H5.out _).mono ?_
  rintro e' w6 ⟨rfl, hb6⟩
  have HB6 := hide hb6; clear hb6
  go_wp2
  go_ret
  have k1 := ((Below.refl _ _).alloc (Nat.le_refl _) _).trans (HB1.out.mono (by simp))
  have k2 := (k1.alloc k1.size _).trans (HB2.out.mono (by simp; have := k1.size; omega))
  have k3 := (k2.alloc k2.size _).trans (HB3.out.mono (by simp; have := k2.size; omega))
  have k4 := k3.trans (HB4.out.mono k3.size)
  have k5 := k4.trans (HB5.out.mono k4.size)
  exact ⟨rfl, k5.trans (HB6.out.mono k5.size)⟩

theorem made_walk (a z ra rs : Nat) (w : World) (ha : a < 4294967296) (_hz : z < 65536) (hra : ra < 4294967296) (hrs : rs < 4294967296) :
    Calls Try.prog 7 #[.int .u32 a, .int .u16 z, .agg #[.int .u32 ra, .int .u32 rs]] w fun e' w' => e' = .returned (.bool true) ∧ Below w.heap.size w w' := by
  obtain ⟨n, hn⟩ : ∃ n, z % 2049 = n := ⟨_, rfl⟩
  have hnl : n < 2049 := by omega
  have hz' : (z : Int) % 2049 = n := by omega
  by_cases hf : (4294967296 : Int) < (a : Int) + n
  · exact made_far a z n ra rs w ha hz' hnl hf
  · have hx0 := small_exact (b := a) (t := a + n) (by omega) (by omega) (by omega)
    have hd0 : dnN a 0 = a := by unfold dnN; simp
    have hu0 : upN (a + n) 0 = a + n := by unfold upN; simp
    have hr : rightN a (a + n) = true := by simp [rightN]; omega
    have hX : encX a (a + n) = true := by unfold encX; rw [hr, hx0, hd0, hu0]; simp
    have hok : makeOk a n 3 = true := by unfold makeOk; rw [hX]; simp; omega
    have hdec := enc_at (b := a) (t := a + n) (c := a) ha (by omega) (by omega) (by omega) (by omega)
    rw [hx0, hd0, hu0] at hdec
    have hE : encE a (a + n) = 0 := by unfold encE; rw [if_pos hr, hx0]
    have hB : encB a (a + n) < 4096 := by unfold encB; rw [if_pos hr]; omega
    have hT : encT a (a + n) < 4096 := by unfold encT; rw [if_pos hr]; omega
    have h1 := fun W => make_y a n 3 W ha (by omega) hok
    generalize encE a (a + n) = e at *
    generalize encB a (a + n) = b at *
    generalize encT a (a + n) = t at *
    have hcb : capB a e b t 3 0 0 := by unfold capB; omega
    have hdx : (decN e b t a).1 = a := by rw [hdec]
    have hdy : (decN e b t a).2 = a + n := by rw [hdec]
    have h2 := fun W => range_is a e b t 3 0 0 true a (a + n) W hcb hdx hdy
    have h3 := fun W => holds_any a e b t 3 0 0 true a n a (a + n) W hcb ha (by omega) hdx hdy
    have h4 := fun W => meets_any a e b t 3 0 0 true ra rs a (a + n) W hcb hra hrs hdx hdy
    have h5 := fun W => sound_any a e b t 3 0 0 true W hcb
    rw [show holdsN a (a + n) a n = true by simp [holdsN]] at h3
    rw [show soundN e b t 3 0 0 = true by unfold soundN; simp; omega] at h5
    rw [show ((a + n : Nat) : Int) = (a : Int) + n by omega] at h2
    have hf' : decide ((4294967296 : Int) < (a : Int) + n) = false := by simp; omega
    by_cases c1 : (a : Int) < ra
    · by_cases c2 : (ra : Int) + rs < (a : Int) + n
      · rw [← meets_eq (x := a) (y := a + n) (a := ra) (s := rs) (M := (ra : Int)) (N := (ra : Int) + rs) (by omega) (by omega)] at h4
        exact made_11 a z n ra rs e b t w ha hz' (by omega) hra hrs hf' c1 c2 h1 h2 h3 h4 h5
      · rw [← meets_eq (x := a) (y := a + n) (a := ra) (s := rs) (M := (ra : Int)) (N := (a : Int) + n) (by omega) (by omega)] at h4
        exact made_10 a z n ra rs e b t w ha hz' (by omega) hra hrs hf' c1 c2 h1 h2 h3 h4 h5
    · by_cases c2 : (ra : Int) + rs < (a : Int) + n
      · rw [← meets_eq (x := a) (y := a + n) (a := ra) (s := rs) (M := (a : Int)) (N := (ra : Int) + rs) (by omega) (by omega)] at h4
        exact made_01 a z n ra rs e b t w ha hz' (by omega) hra hrs hf' c1 c2 h1 h2 h3 h4 h5
      · rw [← meets_eq (x := a) (y := a + n) (a := ra) (s := rs) (M := (a : Int)) (N := (a : Int) + n) (by omega) (by omega)] at h4
        exact made_00 a z n ra rs e b t w ha hz' (by omega) hra hrs hf' c1 c2 h1 h2 h3 h4 h5
theorem made_law : LawWalk 7 Try.f7 := by
  intro H enc W base args ds p hval hA
  rw [Try.params7] at hA hval
  obtain ⟨v0, vs0, d0, ds0, p0, q0, hargs, rfl, rfl, h0, r0⟩ := trodAll_cons hA
  obtain ⟨v1, vs1, d1, ds1, p1, q1, rfl, rfl, rfl, h1, r1⟩ := trodAll_cons r0
  obtain ⟨v2, vs2, d2, ds2, p2, q2, rfl, rfl, rfl, h2, r2⟩ := trodAll_cons r1
  obtain ⟨rfl, rfl, rfl⟩ := trodAll_nil r2
  obtain rfl : args = #[v0, v1, v2] := by cases args; simp_all
  obtain ⟨a0, rfl, rfl, rfl, w0⟩ := open_int Try.underlying22 (hval 0 _ v0 rfl rfl) h0
  have b0 := wf_u32 w0
  obtain ⟨a1, rfl, rfl, rfl, w1⟩ := open_int Try.underlying23 (hval 1 _ v1 rfl rfl) h1
  have b1 := wf_u16 w1
  obtain ⟨c2_0, c2_1, y2_0, y2_1, m2, rfl, rfl, rfl, hy2_0, hy2_1⟩ := Go.Joins.open_agg2 Try.underlying27 (by kernel_rfl) (by kernel_rfl) (hval 2 _ v2 rfl rfl) h2
  obtain ⟨a2_0, e2_0, _, w2_0⟩ := DataW.trod_int Try.underlying22 hy2_0
  simp at e2_0; subst e2_0
  have b2_0 := wf_u32 w2_0
  obtain ⟨a2_1, e2_1, _, w2_1⟩ := DataW.trod_int Try.underlying22 hy2_1
  simp at e2_1; subst e2_1
  have b2_1 := wf_u32 w2_1
  obtain ⟨a, rfl⟩ := Int.eq_ofNat_of_zero_le b0.1
  obtain ⟨z, rfl⟩ := Int.eq_ofNat_of_zero_le b1.1
  obtain ⟨ra, rfl⟩ := Int.eq_ofNat_of_zero_le b2_0.1
  obtain ⟨rs, rfl⟩ := Int.eq_ofNat_of_zero_le b2_1.1
  exact made_walk a z ra rs W (by omega) (by omega) (by omega) (by omega)
set_option maxRecDepth 100000 in
theorem capsMade_proved : Rows.CapsMadeSaid :=
  OpenClaim.holds_of_wide 7 Try.f7 rfl rfl rfl rfl rfl rfl rfl ⟨rfl, rfl, rfl, rfl, rfl⟩ rfl rfl rfl rfl rfl (by kernel_rfl) Try.func7 (by kernel_rfl)
    (of_decide_eq_true (by kernel_rfl)) (by unfold Func.isWrapper; first | (rw [if_pos (by decide +kernel)]; kernel_rfl) | (rw [if_neg (by decide +kernel)]; exact ⟨rfl, rfl⟩))
    (fun os started H enc _ => law_lifted 7 Try.f7 Rows.capsMadeSpec Rows.capsMadeRow.domain Try.func7 (by kernel_rfl) rfl rfl
      (fun H ds hd => by match ds, hd with | [d0, d1, d2], _ => exact ⟨rfl, rfl, rfl⟩) (by decide +kernel) made_law os started H enc
      (ChangeSpec.witness6 (enc := enc) (C := Try.checked) false ⟨#[], #[.int .u32 0, .int .u16 0, .agg #[.int .u32 0, .int .u32 0]], []⟩ 8 (by kernel_rfl) (by kernel_rfl) (by kernel_rfl) (by kernel_rfl)))
#print axioms capsMade_proved
end Go.Proofs.Ytnnagaioiodniaa
