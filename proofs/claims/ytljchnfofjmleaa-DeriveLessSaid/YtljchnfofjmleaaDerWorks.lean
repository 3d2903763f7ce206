/-
  Walks of whole() and works() of layer 5.
-/
import Derived.Test.YtljchnfofjmleaaDerS
namespace Go.Proofs.Ytljchnfofjmleaa
open Go.RowKit
theorem cap_field7 (cC cE cB cT cP cY cR : Nat) (cV : Bool) (W : World) : (Instr.field 25 (.agg #[.int .u32 cC, .int .u8 cE, .int .u16 cB, .int .u16 cT, .int .u16 cP, .int .u16 cY, .int .u32 cR, .bool cV]) 7).run Try.prog W = .ok (.bool cV) W := by kernel_rfl
theorem capB_w : capB 4096 1 2048 0 255 0 0 := by unfold capB; omega
theorem capB_s : capB 4096 0 0 100 255 0 0 := by unfold capB; omega
theorem whole_any (w : World) : Calls Try.prog 36 #[] w fun e w' => e = .returned (.agg #[.int .u32 4096, .int .u8 1, .int .u16 2048, .int .u16 0, .int .u16 255, .int .u16 0, .int .u32 0, .bool true]) ∧ Below w.heap.size w w' := by
  have hm := fun W => make_y 4096 4096 255 W (by omega) (by omega) (by decide +kernel)
  rw [show encE 4096 (4096 + 4096) = 1 by decide +kernel, show encB 4096 (4096 + 4096) = 2048 by decide +kernel, show encT 4096 (4096 + 4096) = 0 by decide +kernel] at hm
  have HM := hide hm
  clear hm
  have hq0 : Blk (w.alloc (.cells #[.int .u32 0, .int .u8 0, .int .u16 0, .int .u16 0, .int .u16 0, .int .u16 0, .int .u32 0, .bool false] 25)) w.heap.size 25 #[.int .u32 0, .int .u8 0, .int .u16 0, .int .u16 0, .int .u16 0, .int .u16 0, .int .u32 0, .bool false] := Blk.new _ _ _
  go_enter Try.func36, Try.ntmps36
  go_wp2_with fail
  refine (HM.out _).mono ?_
  rintro e w1 ⟨rfl, hb1⟩
  have hq0 := hq0.below hb1 (by simp)
  have kb : Below w.heap.size w w1 := ((Below.refl _ _).alloc (Nat.le_refl _) _).trans (hb1.mono (by simp))
  have l1 : w.heap.size < w1.heap.size := hq0.lt
  clear hb1
  have r0 := hq0.cell 0
  have rz0 := hq0.frozen 0
  have r1 := hq0.cell 1
  have rz1 := hq0.frozen 1
  have r2 := hq0.cell 2
  have rz2 := hq0.frozen 2
  have r3 := hq0.cell 3
  have rz3 := hq0.frozen 3
  have r4 := hq0.cell 4
  have rz4 := hq0.frozen 4
  have r5 := hq0.cell 5
  have rz5 := hq0.frozen 5
  have r6 := hq0.cell 6
  have rz6 := hq0.frozen 6
  have r7 := hq0.cell 7
  have rz7 := hq0.frozen 7
  simp at r0 r1 r2 r3 r4 r5 r6 r7
  have HK := hide kb
  clear kb hq0
  go_wp2
  refine bodyPost_ret (v := .agg #[.int .u32 4096, .int .u8 1, .int .u16 2048, .int .u16 0, .int .u16 255, .int .u16 0, .int .u32 0, .bool true]) (by simp [results, Try.results36, go_sem, r0, r1, r2, r3, r4, r5, r6, r7, l1, World.cell?_alloc_lt]) rfl ⟨rfl, ?_⟩
  have lk := HK.out.size
  repeat (first | (with_reducible exact HK.out) | (with_reducible refine Below.setCell ?_ (by simp <;> omega) _) | (with_reducible refine Below.alloc ?_ (by first | omega | (simp; omega)) _))
set_option maxRecDepth 100000 in
theorem dworks_any (w : World) : Calls Try.prog 17 #[] w fun e w' => e = .returned (.bool true) ∧ Below w.heap.size w w' := by
  have hs := fun W => set_y 4096 1 2048 0 255 0 0 true 100 4096 8192 W capB_w (by omega) (by decide +kernel) (by decide +kernel) (by decide +kernel)
  rw [show encE 4096 (4096 + 100) = 0 by decide +kernel, show encB 4096 (4096 + 100) = 0 by decide +kernel, show encT 4096 (4096 + 100) = 100 by decide +kernel, show setV 4096 0 true 100 false 4096 8192 = true by decide +kernel] at hs
  have hr := fun W => range_is 4096 0 0 100 255 0 0 true 4096 4196 W capB_s (by decide +kernel) (by decide +kernel)
  have hc := fun W => clear_any 4096 0 0 100 255 0 0 true W
  have hfd := fun W => cap_field7 4096 0 0 100 255 0 0 false W
  simp only [Int.cast_ofNat_Int] at hfd
  have HS := hide hs
  have HR := hide hr
  have HC := hide hc
  clear hs hr hc
  go_enter Try.func17, Try.ntmps17
  go_wp2_with fail
  refine (whole_any _).mono ?_
  rintro e w1 ⟨rfl, hb1⟩
  have HB1 := hide hb1; clear hb1
  go_wp2_with fail
  refine (HS.out _).mono ?_
  rintro e w2 ⟨rfl, hb2⟩
  have HB2 := hide hb2; clear hb2
  go_wp2_with fail
  refine (HR.out _).mono ?_
  rintro e w3 ⟨rfl, hb3⟩
  obtain ⟨hc3, hf3⟩ := bcell hb3
  have hz3 := hb3.size
  simp at hz3
  have l3 : w2.heap.size < w3.heap.size := by omega
  have HB3 := hide hb3; clear hb3
  go_wp2_with fail
  refine (HC.out _).mono ?_
  rintro e w4 ⟨rfl, hb4⟩
  have HB4 := hide hb4; clear hb4
  go_wp2
  go_ret
  have k2 := HB1.out.trans (HB2.out.mono HB1.out.size)
  have k3 := (k2.alloc k2.size _).trans (HB3.out.mono (by simp; have := k2.size; omega))
  exact ⟨rfl, k3.trans (HB4.out.mono k3.size)⟩
end Go.Proofs.Ytljchnfofjmleaa
