/-
  Walk of works() of layer 4.
-/
import Derived.Test.YtnnagaioiodniaaCapRef
namespace Go.Proofs.Ytnnagaioiodniaa
open Go.RowKit

theorem capB_c : capB 256 0 256 320 1 0 0 := by unfold capB; omega
set_option maxRecDepth 100000 in
set_option maxHeartbeats 2000000 in
theorem cworks_any (w : World) : Calls Try.prog 18 #[] w fun e w' => e = .returned (.bool true) ∧ Below w.heap.size w w' := by
  have hm := fun W => make_y 256 64 1 W (by omega) (by omega) (by decide)
  rw [show encE 256 (256 + 64) = 0 by decide, show encB 256 (256 + 64) = 256 by decide, show encT 256 (256 + 64) = 320 by decide] at hm
  have hr := fun W => range_is 256 0 256 320 1 0 0 true 256 320 W capB_c (by decide) (by decide)
  have h1 := fun W => holds_any 256 0 256 320 1 0 0 true 256 64 256 320 W capB_c (by omega) (by omega) (by decide) (by decide)
  have h2 := fun W => holds_any 256 0 256 320 1 0 0 true 319 2 256 320 W capB_c (by omega) (by omega) (by decide) (by decide)
  have h3 := fun W => meets_any 256 0 256 320 1 0 0 true 319 2 256 320 W capB_c (by omega) (by omega) (by decide) (by decide)
  have h4 := fun W => meets_any 256 0 256 320 1 0 0 true 320 9 256 320 W capB_c (by omega) (by omega) (by decide) (by decide)
  have h5 := fun W => number_cap 5 W (by omega)
  have h6 := fun W => isnumber_any 5 0 0 0 0 0 0 false W (by omega)
  have h7 := fun W => isnumber_any 256 0 256 320 1 0 0 true W (by omega)
  have he := fun W => eql_cap 5 0 0 0 0 0 0 false 5 0 0 0 0 0 0 false W
  rw [show holdsN 256 320 256 64 = true by decide] at h1
  rw [show holdsN 256 320 319 2 = false by decide] at h2
  rw [show meetsN 256 320 319 2 = true by decide] at h3
  rw [show meetsN 256 320 320 9 = false by decide] at h4
  rw [show capEq 5 0 0 0 0 0 0 false 5 0 0 0 0 0 0 false = true by decide] at h6 he
  rw [show capEq 256 0 256 320 1 0 0 true 256 0 0 0 0 0 0 false = false by decide] at h7
  simp only [Int.cast_ofNat_Int] at he
  have HM := hide hm
  have HR := hide hr
  have H1 := hide h1
  have H2 := hide h2
  have H3 := hide h3
  have H4 := hide h4
  have H5 := hide h5
  have H6 := hide h6
  have H7 := hide h7
  clear hm hr h1 h2 h3 h4 h5 h6 h7
  go_enter Try.func18, Try.ntmps18
  go_wp2_with fail
  refine (HM.out _).mono ?_
  rintro e w1 ⟨rfl, hb1⟩
  obtain ⟨hc1, hf1⟩ := bcell hb1
  have hz1 := hb1.size
  try simp at hz1
  have HB1 := hide hb1; clear hb1
  go_wp2_with fail
  refine (HR.out _).mono ?_
  rintro e w2 ⟨rfl, hb2⟩
  obtain ⟨hc2, hf2⟩ := bcell hb2
  have hz2 := hb2.size
  try simp at hz2
  have l2 : w1.heap.size < w2.heap.size := by omega
  have HB2 := hide hb2; clear hb2
  go_wp2_with fail
  refine (H1.out _).mono ?_
  rintro e w3 ⟨rfl, hb3⟩
  obtain ⟨hc3, hf3⟩ := bcell hb3
  have hz3 := hb3.size
  try simp at hz3
  have l3 : w1.heap.size < w3.heap.size := by omega
  have HB3 := hide hb3; clear hb3
  go_wp2_with fail
  refine (H2.out _).mono ?_
  rintro e w4 ⟨rfl, hb4⟩
  obtain ⟨hc4, hf4⟩ := bcell hb4
  have hz4 := hb4.size
  try simp at hz4
  have l4 : w1.heap.size < w4.heap.size := by omega
  have HB4 := hide hb4; clear hb4
  go_wp2_with fail
  refine (H3.out _).mono ?_
  rintro e w5 ⟨rfl, hb5⟩
  obtain ⟨hc5, hf5⟩ := bcell hb5
  have hz5 := hb5.size
  try simp at hz5
  have l5 : w1.heap.size < w5.heap.size := by omega
  have HB5 := hide hb5; clear hb5
  go_wp2_with fail
  refine (H4.out _).mono ?_
  rintro e w6 ⟨rfl, hb6⟩
  obtain ⟨hc6, hf6⟩ := bcell hb6
  have hz6 := hb6.size
  try simp at hz6
  have l6 : w1.heap.size < w6.heap.size := by omega
  have HB6 := hide hb6; clear hb6
  go_wp2_with fail
  refine (H5.out _).mono ?_
  rintro e w7 ⟨rfl, hb7⟩
  obtain ⟨hc7, hf7⟩ := bcell hb7
  have hz7 := hb7.size
  try simp at hz7
  have l7 : w1.heap.size < w7.heap.size := by omega
  have HB7 := hide hb7; clear hb7
  go_wp2_with fail
  refine (H5.out _).mono ?_
  rintro e w8 ⟨rfl, hb8⟩
  obtain ⟨hc8, hf8⟩ := bcell hb8
  have hz8 := hb8.size
  try simp at hz8
  have l8 : w1.heap.size < w8.heap.size := by omega
  have HB8 := hide hb8; clear hb8
  go_wp2_with fail
  refine (H6.out _).mono ?_
  rintro e w9 ⟨rfl, hb9⟩
  obtain ⟨hc9, hf9⟩ := bcell hb9
  have hz9 := hb9.size
  try simp at hz9
  have l9 : w1.heap.size < w9.heap.size := by omega
  have HB9 := hide hb9; clear hb9
  go_wp2_with fail
  refine (H7.out _).mono ?_
  rintro e w10 ⟨rfl, hb10⟩
  obtain ⟨hc10, hf10⟩ := bcell hb10
  have hz10 := hb10.size
  try simp at hz10
  have l10 : w1.heap.size < w10.heap.size := by omega
  have HB10 := hide hb10; clear hb10
  go_wp2
  go_ret
  have k2 := (HB1.out.alloc HB1.out.size _).trans (HB2.out.mono (by simp; have := HB1.out.size; omega))
  have k3 := k2.trans (HB3.out.mono k2.size)
  have k4 := k3.trans (HB4.out.mono k3.size)
  have k5 := k4.trans (HB5.out.mono k4.size)
  have k6 := k5.trans (HB6.out.mono k5.size)
  have k7 := k6.trans (HB7.out.mono k6.size)
  have k8 := k7.trans (HB8.out.mono k7.size)
  have k9 := k8.trans (HB9.out.mono k8.size)
  have k10 := k9.trans (HB10.out.mono k9.size)
  exact ⟨rfl, k10⟩
end Go.Proofs.Ytnnagaioiodniaa
