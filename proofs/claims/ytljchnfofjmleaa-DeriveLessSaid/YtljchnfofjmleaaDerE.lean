/-
  Walks of layer 5: Open, Build.
-/
import Derived.Test.YtljchnfofjmleaaDerD
namespace Go.Proofs.Ytljchnfofjmleaa
open Go.RowKit
attribute [local go_sem ↓] Go.wp_at_zero Go.wp_at_succ

theorem open_v (cC cE cB cT cP cY cR : Nat) (bC bE bB bT bP bY bR : Nat) (bV : Bool) (w : World)  :
    Calls Try.prog 28 #[.agg #[.int .u32 cC, .int .u8 cE, .int .u16 cB, .int .u16 cT, .int .u16 cP, .int .u16 cY, .int .u32 cR, .bool false], .agg #[.int .u32 bC, .int .u8 bE, .int .u16 bB, .int .u16 bT, .int .u16 bP, .int .u16 bY, .int .u32 bR, .bool bV]] w fun e w' => e = .returned (.agg #[.int .u32 cC, .int .u8 cE, .int .u16 cB, .int .u16 cT, .int .u16 cP, .int .u16 cY, .int .u32 cR, .bool false]) ∧ Below w.heap.size w w' := by
  have hq0 : Blk (((w.alloc (.cells #[.int .u32 cC, .int .u8 cE, .int .u16 cB, .int .u16 cT, .int .u16 cP, .int .u16 cY, .int .u32 cR, .bool false] 25)).alloc (.cells #[.int .u32 bC, .int .u8 bE, .int .u16 bB, .int .u16 bT, .int .u16 bP, .int .u16 bY, .int .u32 bR, .bool bV] 25)).alloc (.cells #[.int .u32 0, .int .u8 0, .int .u16 0, .int .u16 0, .int .u16 0, .int .u16 0, .int .u32 0, .bool false] 25)) w.heap.size 25 #[.int .u32 cC, .int .u8 cE, .int .u16 cB, .int .u16 cT, .int .u16 cP, .int .u16 cY, .int .u32 cR, .bool false] := by (repeat (first | (with_reducible exact Blk.new _ _ _) | (with_reducible refine Blk.drewN ?_ _) | (with_reducible refine Blk.drew ?_) | exact Blk.newAt (by simp) _ _ | (with_reducible refine Blk.alloc ?_ _)))
  have hq1 : Blk (((w.alloc (.cells #[.int .u32 cC, .int .u8 cE, .int .u16 cB, .int .u16 cT, .int .u16 cP, .int .u16 cY, .int .u32 cR, .bool false] 25)).alloc (.cells #[.int .u32 bC, .int .u8 bE, .int .u16 bB, .int .u16 bT, .int .u16 bP, .int .u16 bY, .int .u32 bR, .bool bV] 25)).alloc (.cells #[.int .u32 0, .int .u8 0, .int .u16 0, .int .u16 0, .int .u16 0, .int .u16 0, .int .u32 0, .bool false] 25)) (w.heap.size + 1) 25 #[.int .u32 bC, .int .u8 bE, .int .u16 bB, .int .u16 bT, .int .u16 bP, .int .u16 bY, .int .u32 bR, .bool bV] := by (repeat (first | (with_reducible exact Blk.new _ _ _) | (with_reducible refine Blk.drewN ?_ _) | (with_reducible refine Blk.drew ?_) | exact Blk.newAt (by simp) _ _ | (with_reducible refine Blk.alloc ?_ _)))
  have hq2 : Blk (((w.alloc (.cells #[.int .u32 cC, .int .u8 cE, .int .u16 cB, .int .u16 cT, .int .u16 cP, .int .u16 cY, .int .u32 cR, .bool false] 25)).alloc (.cells #[.int .u32 bC, .int .u8 bE, .int .u16 bB, .int .u16 bT, .int .u16 bP, .int .u16 bY, .int .u32 bR, .bool bV] 25)).alloc (.cells #[.int .u32 0, .int .u8 0, .int .u16 0, .int .u16 0, .int .u16 0, .int .u16 0, .int .u32 0, .bool false] 25)) (w.heap.size + 1 + 1) 25 #[.int .u32 0, .int .u8 0, .int .u16 0, .int .u16 0, .int .u16 0, .int .u16 0, .int .u32 0, .bool false] := by (repeat (first | (with_reducible exact Blk.new _ _ _) | (with_reducible refine Blk.drewN ?_ _) | (with_reducible refine Blk.drew ?_) | exact Blk.newAt (by simp) _ _ | (with_reducible refine Blk.alloc ?_ _)))
  have kb : Below w.heap.size w (((w.alloc (.cells #[.int .u32 cC, .int .u8 cE, .int .u16 cB, .int .u16 cT, .int .u16 cP, .int .u16 cY, .int .u32 cR, .bool false] 25)).alloc (.cells #[.int .u32 bC, .int .u8 bE, .int .u16 bB, .int .u16 bT, .int .u16 bP, .int .u16 bY, .int .u32 bR, .bool bV] 25)).alloc (.cells #[.int .u32 0, .int .u8 0, .int .u16 0, .int .u16 0, .int .u16 0, .int .u16 0, .int .u32 0, .bool false] 25)) := by (repeat (first | (with_reducible exact Below.refl _ _) | (with_reducible refine Below.drew ?_) | (with_reducible refine below_drewN ?_ _) | (with_reducible refine Below.alloc ?_ (by simp <;> omega) _) | (with_reducible refine Below.setCell ?_ (by simp <;> omega) _)))
  have hsz : (((w.alloc (.cells #[.int .u32 cC, .int .u8 cE, .int .u16 cB, .int .u16 cT, .int .u16 cP, .int .u16 cY, .int .u32 cR, .bool false] 25)).alloc (.cells #[.int .u32 bC, .int .u8 bE, .int .u16 bB, .int .u16 bT, .int .u16 bP, .int .u16 bY, .int .u32 bR, .bool bV] 25)).alloc (.cells #[.int .u32 0, .int .u8 0, .int .u16 0, .int .u16 0, .int .u16 0, .int .u16 0, .int .u32 0, .bool false] 25)).heap.size = w.heap.size + 1 + 1 + 1 := by simp
  go_enter Try.func28, Try.ntmps28
  go_wp2_with fail
  refine (made_not cC cE cB cT cP cY cR false _ _ (Blk.newAt (by simp) _ _)).mono ?_
  rintro e w1 ⟨rfl, hb1⟩
  have hq2 := (hq2.alloc _).below hb1 (by first | (simp; done) | (simp; omega))
  have kb := (kb.alloc kb.size _).trans (hb1.mono (by simp; have := kb.size; omega))
  clear hb1 hq0 hq1
  have r0 := hq2.cell 0
  have rz0 := hq2.frozen 0
  have r1 := hq2.cell 1
  have rz1 := hq2.frozen 1
  have r2 := hq2.cell 2
  have rz2 := hq2.frozen 2
  have r3 := hq2.cell 3
  have rz3 := hq2.frozen 3
  have r4 := hq2.cell 4
  have rz4 := hq2.frozen 4
  have r5 := hq2.cell 5
  have rz5 := hq2.frozen 5
  have r6 := hq2.cell 6
  have rz6 := hq2.frozen 6
  have r7 := hq2.cell 7
  have rz7 := hq2.frozen 7
  simp at r0 r1 r2 r3 r4 r5 r6 r7
  have HK := hide kb
  clear kb hq2
  go_wp2
  refine bodyPost_ret (v := .agg #[.int .u32 cC, .int .u8 cE, .int .u16 cB, .int .u16 cT, .int .u16 cP, .int .u16 cY, .int .u32 cR, .bool false]) (by simp [results, Try.results28, go_sem, r0, r1, r2, r3, r4, r5, r6, r7]) rfl ⟨rfl, ?_⟩
  repeat (first | (with_reducible refine Below.setCell ?_ (by simp <;> omega) _))
  exact HK.out


theorem open_t (cC cE cB cT cP cY cR : Nat) (bC bE bB bT bP bY bR : Nat) (bV : Bool) (w : World) (hy0 : ((cY : Int) == 0) = true) :
    Calls Try.prog 28 #[.agg #[.int .u32 cC, .int .u8 cE, .int .u16 cB, .int .u16 cT, .int .u16 cP, .int .u16 cY, .int .u32 cR, .bool true], .agg #[.int .u32 bC, .int .u8 bE, .int .u16 bB, .int .u16 bT, .int .u16 bP, .int .u16 bY, .int .u32 bR, .bool bV]] w fun e w' => e = .returned (.agg #[.int .u32 cC, .int .u8 cE, .int .u16 cB, .int .u16 cT, .int .u16 cP, .int .u16 cY, .int .u32 cR, .bool false]) ∧ Below w.heap.size w w' := by
  have hq0 : Blk (((w.alloc (.cells #[.int .u32 cC, .int .u8 cE, .int .u16 cB, .int .u16 cT, .int .u16 cP, .int .u16 cY, .int .u32 cR, .bool true] 25)).alloc (.cells #[.int .u32 bC, .int .u8 bE, .int .u16 bB, .int .u16 bT, .int .u16 bP, .int .u16 bY, .int .u32 bR, .bool bV] 25)).alloc (.cells #[.int .u32 0, .int .u8 0, .int .u16 0, .int .u16 0, .int .u16 0, .int .u16 0, .int .u32 0, .bool false] 25)) w.heap.size 25 #[.int .u32 cC, .int .u8 cE, .int .u16 cB, .int .u16 cT, .int .u16 cP, .int .u16 cY, .int .u32 cR, .bool true] := by (repeat (first | (with_reducible exact Blk.new _ _ _) | (with_reducible refine Blk.drewN ?_ _) | (with_reducible refine Blk.drew ?_) | exact Blk.newAt (by simp) _ _ | (with_reducible refine Blk.alloc ?_ _)))
  have hq1 : Blk (((w.alloc (.cells #[.int .u32 cC, .int .u8 cE, .int .u16 cB, .int .u16 cT, .int .u16 cP, .int .u16 cY, .int .u32 cR, .bool true] 25)).alloc (.cells #[.int .u32 bC, .int .u8 bE, .int .u16 bB, .int .u16 bT, .int .u16 bP, .int .u16 bY, .int .u32 bR, .bool bV] 25)).alloc (.cells #[.int .u32 0, .int .u8 0, .int .u16 0, .int .u16 0, .int .u16 0, .int .u16 0, .int .u32 0, .bool false] 25)) (w.heap.size + 1) 25 #[.int .u32 bC, .int .u8 bE, .int .u16 bB, .int .u16 bT, .int .u16 bP, .int .u16 bY, .int .u32 bR, .bool bV] := by (repeat (first | (with_reducible exact Blk.new _ _ _) | (with_reducible refine Blk.drewN ?_ _) | (with_reducible refine Blk.drew ?_) | exact Blk.newAt (by simp) _ _ | (with_reducible refine Blk.alloc ?_ _)))
  have hq2 : Blk (((w.alloc (.cells #[.int .u32 cC, .int .u8 cE, .int .u16 cB, .int .u16 cT, .int .u16 cP, .int .u16 cY, .int .u32 cR, .bool true] 25)).alloc (.cells #[.int .u32 bC, .int .u8 bE, .int .u16 bB, .int .u16 bT, .int .u16 bP, .int .u16 bY, .int .u32 bR, .bool bV] 25)).alloc (.cells #[.int .u32 0, .int .u8 0, .int .u16 0, .int .u16 0, .int .u16 0, .int .u16 0, .int .u32 0, .bool false] 25)) (w.heap.size + 1 + 1) 25 #[.int .u32 0, .int .u8 0, .int .u16 0, .int .u16 0, .int .u16 0, .int .u16 0, .int .u32 0, .bool false] := by (repeat (first | (with_reducible exact Blk.new _ _ _) | (with_reducible refine Blk.drewN ?_ _) | (with_reducible refine Blk.drew ?_) | exact Blk.newAt (by simp) _ _ | (with_reducible refine Blk.alloc ?_ _)))
  have kb : Below w.heap.size w (((w.alloc (.cells #[.int .u32 cC, .int .u8 cE, .int .u16 cB, .int .u16 cT, .int .u16 cP, .int .u16 cY, .int .u32 cR, .bool true] 25)).alloc (.cells #[.int .u32 bC, .int .u8 bE, .int .u16 bB, .int .u16 bT, .int .u16 bP, .int .u16 bY, .int .u32 bR, .bool bV] 25)).alloc (.cells #[.int .u32 0, .int .u8 0, .int .u16 0, .int .u16 0, .int .u16 0, .int .u16 0, .int .u32 0, .bool false] 25)) := by (repeat (first | (with_reducible exact Below.refl _ _) | (with_reducible refine Below.drew ?_) | (with_reducible refine below_drewN ?_ _) | (with_reducible refine Below.alloc ?_ (by simp <;> omega) _) | (with_reducible refine Below.setCell ?_ (by simp <;> omega) _)))
  have hsz : (((w.alloc (.cells #[.int .u32 cC, .int .u8 cE, .int .u16 cB, .int .u16 cT, .int .u16 cP, .int .u16 cY, .int .u32 cR, .bool true] 25)).alloc (.cells #[.int .u32 bC, .int .u8 bE, .int .u16 bB, .int .u16 bT, .int .u16 bP, .int .u16 bY, .int .u32 bR, .bool bV] 25)).alloc (.cells #[.int .u32 0, .int .u8 0, .int .u16 0, .int .u16 0, .int .u16 0, .int .u16 0, .int .u32 0, .bool false] 25)).heap.size = w.heap.size + 1 + 1 + 1 := by simp
  go_enter Try.func28, Try.ntmps28
  go_wp2_with fail
  refine (made_not cC cE cB cT cP cY cR true _ _ (Blk.newAt (by simp) _ _)).mono ?_
  rintro e w1 ⟨rfl, hb1⟩
  have hq2 := (hq2.alloc _).below hb1 (by first | (simp; done) | (simp; omega))
  have kb := (kb.alloc kb.size _).trans (hb1.mono (by simp; have := kb.size; omega))
  clear hb1 hq0 hq1
  have r0 := hq2.cell 0
  have rz0 := hq2.frozen 0
  have r1 := hq2.cell 1
  have rz1 := hq2.frozen 1
  have r2 := hq2.cell 2
  have rz2 := hq2.frozen 2
  have r3 := hq2.cell 3
  have rz3 := hq2.frozen 3
  have r4 := hq2.cell 4
  have rz4 := hq2.frozen 4
  have r5 := hq2.cell 5
  have rz5 := hq2.frozen 5
  have r6 := hq2.cell 6
  have rz6 := hq2.frozen 6
  have r7 := hq2.cell 7
  have rz7 := hq2.frozen 7
  simp at r0 r1 r2 r3 r4 r5 r6 r7
  have HK := hide kb
  clear kb hq2
  go_wp2
  refine bodyPost_ret (v := .agg #[.int .u32 cC, .int .u8 cE, .int .u16 cB, .int .u16 cT, .int .u16 cP, .int .u16 cY, .int .u32 cR, .bool false]) (by simp [results, Try.results28, go_sem, r0, r1, r2, r3, r4, r5, r6, r7]) rfl ⟨rfl, ?_⟩
  repeat (first | (with_reducible refine Below.setCell ?_ (by simp <;> omega) _))
  exact HK.out


theorem open_o (cC cE cB cT cP cY cR : Nat) (bC bE bB bT bP bY bR : Nat) (bV : Bool) (x y : Nat) (w : World) (bl : capB bC bE bB bT bP bY bR) (hx : (decN bE bB bT bC).1 = x) (hy : (decN bE bB bT bC).2 = y) (hy0 : ((cY : Int) == 0) = false) (ho : overN bC bP bY bV 64 x y = false) :
    Calls Try.prog 28 #[.agg #[.int .u32 cC, .int .u8 cE, .int .u16 cB, .int .u16 cT, .int .u16 cP, .int .u16 cY, .int .u32 cR, .bool true], .agg #[.int .u32 bC, .int .u8 bE, .int .u16 bB, .int .u16 bT, .int .u16 bP, .int .u16 bY, .int .u32 bR, .bool bV]] w fun e w' => e = .returned (.agg #[.int .u32 cC, .int .u8 cE, .int .u16 cB, .int .u16 cT, .int .u16 cP, .int .u16 cY, .int .u32 cR, .bool false]) ∧ Below w.heap.size w w' := by
  have hov := fun W => over_any bC bE bB bT bP bY bR bV 64 x y W bl (by omega) hx hy
  rw [ho] at hov
  have HO := hide hov
  clear hov ho hx hy
  have hq0 : Blk (((w.alloc (.cells #[.int .u32 cC, .int .u8 cE, .int .u16 cB, .int .u16 cT, .int .u16 cP, .int .u16 cY, .int .u32 cR, .bool true] 25)).alloc (.cells #[.int .u32 bC, .int .u8 bE, .int .u16 bB, .int .u16 bT, .int .u16 bP, .int .u16 bY, .int .u32 bR, .bool bV] 25)).alloc (.cells #[.int .u32 0, .int .u8 0, .int .u16 0, .int .u16 0, .int .u16 0, .int .u16 0, .int .u32 0, .bool false] 25)) w.heap.size 25 #[.int .u32 cC, .int .u8 cE, .int .u16 cB, .int .u16 cT, .int .u16 cP, .int .u16 cY, .int .u32 cR, .bool true] := by (repeat (first | (with_reducible exact Blk.new _ _ _) | (with_reducible refine Blk.drewN ?_ _) | (with_reducible refine Blk.drew ?_) | exact Blk.newAt (by simp) _ _ | (with_reducible refine Blk.alloc ?_ _)))
  have hq1 : Blk (((w.alloc (.cells #[.int .u32 cC, .int .u8 cE, .int .u16 cB, .int .u16 cT, .int .u16 cP, .int .u16 cY, .int .u32 cR, .bool true] 25)).alloc (.cells #[.int .u32 bC, .int .u8 bE, .int .u16 bB, .int .u16 bT, .int .u16 bP, .int .u16 bY, .int .u32 bR, .bool bV] 25)).alloc (.cells #[.int .u32 0, .int .u8 0, .int .u16 0, .int .u16 0, .int .u16 0, .int .u16 0, .int .u32 0, .bool false] 25)) (w.heap.size + 1) 25 #[.int .u32 bC, .int .u8 bE, .int .u16 bB, .int .u16 bT, .int .u16 bP, .int .u16 bY, .int .u32 bR, .bool bV] := by (repeat (first | (with_reducible exact Blk.new _ _ _) | (with_reducible refine Blk.drewN ?_ _) | (with_reducible refine Blk.drew ?_) | exact Blk.newAt (by simp) _ _ | (with_reducible refine Blk.alloc ?_ _)))
  have hq2 : Blk (((w.alloc (.cells #[.int .u32 cC, .int .u8 cE, .int .u16 cB, .int .u16 cT, .int .u16 cP, .int .u16 cY, .int .u32 cR, .bool true] 25)).alloc (.cells #[.int .u32 bC, .int .u8 bE, .int .u16 bB, .int .u16 bT, .int .u16 bP, .int .u16 bY, .int .u32 bR, .bool bV] 25)).alloc (.cells #[.int .u32 0, .int .u8 0, .int .u16 0, .int .u16 0, .int .u16 0, .int .u16 0, .int .u32 0, .bool false] 25)) (w.heap.size + 1 + 1) 25 #[.int .u32 0, .int .u8 0, .int .u16 0, .int .u16 0, .int .u16 0, .int .u16 0, .int .u32 0, .bool false] := by (repeat (first | (with_reducible exact Blk.new _ _ _) | (with_reducible refine Blk.drewN ?_ _) | (with_reducible refine Blk.drew ?_) | exact Blk.newAt (by simp) _ _ | (with_reducible refine Blk.alloc ?_ _)))
  have kb : Below w.heap.size w (((w.alloc (.cells #[.int .u32 cC, .int .u8 cE, .int .u16 cB, .int .u16 cT, .int .u16 cP, .int .u16 cY, .int .u32 cR, .bool true] 25)).alloc (.cells #[.int .u32 bC, .int .u8 bE, .int .u16 bB, .int .u16 bT, .int .u16 bP, .int .u16 bY, .int .u32 bR, .bool bV] 25)).alloc (.cells #[.int .u32 0, .int .u8 0, .int .u16 0, .int .u16 0, .int .u16 0, .int .u16 0, .int .u32 0, .bool false] 25)) := by (repeat (first | (with_reducible exact Below.refl _ _) | (with_reducible refine Below.drew ?_) | (with_reducible refine below_drewN ?_ _) | (with_reducible refine Below.alloc ?_ (by simp <;> omega) _) | (with_reducible refine Below.setCell ?_ (by simp <;> omega) _)))
  have hsz : (((w.alloc (.cells #[.int .u32 cC, .int .u8 cE, .int .u16 cB, .int .u16 cT, .int .u16 cP, .int .u16 cY, .int .u32 cR, .bool true] 25)).alloc (.cells #[.int .u32 bC, .int .u8 bE, .int .u16 bB, .int .u16 bT, .int .u16 bP, .int .u16 bY, .int .u32 bR, .bool bV] 25)).alloc (.cells #[.int .u32 0, .int .u8 0, .int .u16 0, .int .u16 0, .int .u16 0, .int .u16 0, .int .u32 0, .bool false] 25)).heap.size = w.heap.size + 1 + 1 + 1 := by simp
  go_enter Try.func28, Try.ntmps28
  go_wp2_with fail
  refine (HO.out _).mono ?_
  rintro e w1 ⟨rfl, hb1⟩
  have hq0 := (hq0).below hb1 (by first | omega | (simp; omega))
  have hq1 := (hq1).below hb1 (by first | omega | (simp; omega))
  have hq2 := (hq2).below hb1 (by first | omega | (simp; omega))
  have kb := (kb).trans (hb1.mono kb.size)
  have hsz1 : w.heap.size + 1 + 1 + 1 ≤ w1.heap.size := by have := hb1.size; omega
  clear hb1
  have p0 := hq0.cell 0
  have pz0 := hq0.frozen 0
  have p1 := hq0.cell 1
  have pz1 := hq0.frozen 1
  have p2 := hq0.cell 2
  have pz2 := hq0.frozen 2
  have p3 := hq0.cell 3
  have pz3 := hq0.frozen 3
  have p4 := hq0.cell 4
  have pz4 := hq0.frozen 4
  have p5 := hq0.cell 5
  have pz5 := hq0.frozen 5
  have p6 := hq0.cell 6
  have pz6 := hq0.frozen 6
  have p7 := hq0.cell 7
  have pz7 := hq0.frozen 7
  simp at p0 p1 p2 p3 p4 p5 p6 p7
  have s0 := hq1.cell 0
  have s1 := hq1.cell 1
  have s2 := hq1.cell 2
  have s3 := hq1.cell 3
  have s4 := hq1.cell 4
  have s5 := hq1.cell 5
  have s6 := hq1.cell 6
  have s7 := hq1.cell 7
  simp at s0 s1 s2 s3 s4 s5 s6 s7
  have r0 := hq2.cell 0
  have rz0 := hq2.frozen 0
  have r1 := hq2.cell 1
  have rz1 := hq2.frozen 1
  have r2 := hq2.cell 2
  have rz2 := hq2.frozen 2
  have r3 := hq2.cell 3
  have rz3 := hq2.frozen 3
  have r4 := hq2.cell 4
  have rz4 := hq2.frozen 4
  have r5 := hq2.cell 5
  have rz5 := hq2.frozen 5
  have r6 := hq2.cell 6
  have rz6 := hq2.frozen 6
  have r7 := hq2.cell 7
  have rz7 := hq2.frozen 7
  simp at r0 r1 r2 r3 r4 r5 r6 r7
  have HK := hide kb
  have H0 := hide hq0
  have H1 := hide hq1
  have H2 := hide hq2
  clear kb hq0 hq1 hq2
  go_wp2_with fail
  have kb := HK.out
  have hq0 := H0.out
  have hq1 := H1.out
  have hq2 := H2.out
  clear HK H0 H1 H2
  refine (made_not cC cE cB cT cP cY cR true _ _ (Blk.new _ _ _)).mono ?_
  rintro e w2 ⟨rfl, hb2⟩
  have hq0 := (hq0.alloc _).below hb2 (by first | omega | (simp; omega))
  have hq1 := (hq1.alloc _).below hb2 (by first | omega | (simp; omega))
  have hq2 := (hq2.alloc _).below hb2 (by first | omega | (simp; omega))
  have kb := (kb.alloc kb.size _).trans (hb2.mono (by simp; have := kb.size; omega))
  have hsz2 : w.heap.size + 1 + 1 + 1 ≤ w2.heap.size := by have := hb2.size; simp at this; omega
  clear hb2
  clear p0 p1 p2 p3 p4 p5 p6 p7 s0 s1 s2 s3 s4 s5 s6 s7 r0 r1 r2 r3 r4 r5 r6 r7 pz0 rz0 pz1 rz1 pz2 rz2 pz3 rz3 pz4 rz4 pz5 rz5 pz6 rz6 pz7 rz7
  have r0 := hq2.cell 0
  have rz0 := hq2.frozen 0
  have r1 := hq2.cell 1
  have rz1 := hq2.frozen 1
  have r2 := hq2.cell 2
  have rz2 := hq2.frozen 2
  have r3 := hq2.cell 3
  have rz3 := hq2.frozen 3
  have r4 := hq2.cell 4
  have rz4 := hq2.frozen 4
  have r5 := hq2.cell 5
  have rz5 := hq2.frozen 5
  have r6 := hq2.cell 6
  have rz6 := hq2.frozen 6
  have r7 := hq2.cell 7
  have rz7 := hq2.frozen 7
  simp at r0 r1 r2 r3 r4 r5 r6 r7
  have HK := hide kb
  clear kb hq0 hq1 hq2
  go_wp2
  refine bodyPost_ret (v := .agg #[.int .u32 cC, .int .u8 cE, .int .u16 cB, .int .u16 cT, .int .u16 cP, .int .u16 cY, .int .u32 cR, .bool false]) (by simp [results, Try.results28, go_sem, r0, r1, r2, r3, r4, r5, r6, r7]) rfl ⟨rfl, ?_⟩
  repeat (first | (with_reducible refine Below.setCell ?_ (by simp <;> omega) _))
  exact HK.out


theorem open_n (cC cE cB cT cP cY cR : Nat) (bC bE bB bT bP bY bR : Nat) (bV : Bool) (x y : Nat) (w : World) (bl : capB bC bE bB bT bP bY bR) (hx : (decN bE bB bT bC).1 = x) (hy : (decN bE bB bT bC).2 = y) (hy0 : ((cY : Int) == 0) = false) (ho : overN bC bP bY bV 64 x y = true) (hn : ((bC : Int) != (cY : Int)) = true) (_hn2 : ((bC : Int) == (cY : Int)) = false) (_hyl : cY < 65536) :
    Calls Try.prog 28 #[.agg #[.int .u32 cC, .int .u8 cE, .int .u16 cB, .int .u16 cT, .int .u16 cP, .int .u16 cY, .int .u32 cR, .bool true], .agg #[.int .u32 bC, .int .u8 bE, .int .u16 bB, .int .u16 bT, .int .u16 bP, .int .u16 bY, .int .u32 bR, .bool bV]] w fun e w' => e = .returned (.agg #[.int .u32 cC, .int .u8 cE, .int .u16 cB, .int .u16 cT, .int .u16 cP, .int .u16 cY, .int .u32 cR, .bool false]) ∧ Below w.heap.size w w' := by
  have hov := fun W => over_any bC bE bB bT bP bY bR bV 64 x y W bl (by omega) hx hy
  rw [ho] at hov
  have HO := hide hov
  clear hov ho hx hy
  have hq0 : Blk (((w.alloc (.cells #[.int .u32 cC, .int .u8 cE, .int .u16 cB, .int .u16 cT, .int .u16 cP, .int .u16 cY, .int .u32 cR, .bool true] 25)).alloc (.cells #[.int .u32 bC, .int .u8 bE, .int .u16 bB, .int .u16 bT, .int .u16 bP, .int .u16 bY, .int .u32 bR, .bool bV] 25)).alloc (.cells #[.int .u32 0, .int .u8 0, .int .u16 0, .int .u16 0, .int .u16 0, .int .u16 0, .int .u32 0, .bool false] 25)) w.heap.size 25 #[.int .u32 cC, .int .u8 cE, .int .u16 cB, .int .u16 cT, .int .u16 cP, .int .u16 cY, .int .u32 cR, .bool true] := by (repeat (first | (with_reducible exact Blk.new _ _ _) | (with_reducible refine Blk.drewN ?_ _) | (with_reducible refine Blk.drew ?_) | exact Blk.newAt (by simp) _ _ | (with_reducible refine Blk.alloc ?_ _)))
  have hq1 : Blk (((w.alloc (.cells #[.int .u32 cC, .int .u8 cE, .int .u16 cB, .int .u16 cT, .int .u16 cP, .int .u16 cY, .int .u32 cR, .bool true] 25)).alloc (.cells #[.int .u32 bC, .int .u8 bE, .int .u16 bB, .int .u16 bT, .int .u16 bP, .int .u16 bY, .int .u32 bR, .bool bV] 25)).alloc (.cells #[.int .u32 0, .int .u8 0, .int .u16 0, .int .u16 0, .int .u16 0, .int .u16 0, .int .u32 0, .bool false] 25)) (w.heap.size + 1) 25 #[.int .u32 bC, .int .u8 bE, .int .u16 bB, .int .u16 bT, .int .u16 bP, .int .u16 bY, .int .u32 bR, .bool bV] := by (repeat (first | (with_reducible exact Blk.new _ _ _) | (with_reducible refine Blk.drewN ?_ _) | (with_reducible refine Blk.drew ?_) | exact Blk.newAt (by simp) _ _ | (with_reducible refine Blk.alloc ?_ _)))
  have hq2 : Blk (((w.alloc (.cells #[.int .u32 cC, .int .u8 cE, .int .u16 cB, .int .u16 cT, .int .u16 cP, .int .u16 cY, .int .u32 cR, .bool true] 25)).alloc (.cells #[.int .u32 bC, .int .u8 bE, .int .u16 bB, .int .u16 bT, .int .u16 bP, .int .u16 bY, .int .u32 bR, .bool bV] 25)).alloc (.cells #[.int .u32 0, .int .u8 0, .int .u16 0, .int .u16 0, .int .u16 0, .int .u16 0, .int .u32 0, .bool false] 25)) (w.heap.size + 1 + 1) 25 #[.int .u32 0, .int .u8 0, .int .u16 0, .int .u16 0, .int .u16 0, .int .u16 0, .int .u32 0, .bool false] := by (repeat (first | (with_reducible exact Blk.new _ _ _) | (with_reducible refine Blk.drewN ?_ _) | (with_reducible refine Blk.drew ?_) | exact Blk.newAt (by simp) _ _ | (with_reducible refine Blk.alloc ?_ _)))
  have kb : Below w.heap.size w (((w.alloc (.cells #[.int .u32 cC, .int .u8 cE, .int .u16 cB, .int .u16 cT, .int .u16 cP, .int .u16 cY, .int .u32 cR, .bool true] 25)).alloc (.cells #[.int .u32 bC, .int .u8 bE, .int .u16 bB, .int .u16 bT, .int .u16 bP, .int .u16 bY, .int .u32 bR, .bool bV] 25)).alloc (.cells #[.int .u32 0, .int .u8 0, .int .u16 0, .int .u16 0, .int .u16 0, .int .u16 0, .int .u32 0, .bool false] 25)) := by (repeat (first | (with_reducible exact Below.refl _ _) | (with_reducible refine Below.drew ?_) | (with_reducible refine below_drewN ?_ _) | (with_reducible refine Below.alloc ?_ (by simp <;> omega) _) | (with_reducible refine Below.setCell ?_ (by simp <;> omega) _)))
  have hsz : (((w.alloc (.cells #[.int .u32 cC, .int .u8 cE, .int .u16 cB, .int .u16 cT, .int .u16 cP, .int .u16 cY, .int .u32 cR, .bool true] 25)).alloc (.cells #[.int .u32 bC, .int .u8 bE, .int .u16 bB, .int .u16 bT, .int .u16 bP, .int .u16 bY, .int .u32 bR, .bool bV] 25)).alloc (.cells #[.int .u32 0, .int .u8 0, .int .u16 0, .int .u16 0, .int .u16 0, .int .u16 0, .int .u32 0, .bool false] 25)).heap.size = w.heap.size + 1 + 1 + 1 := by simp
  go_enter Try.func28, Try.ntmps28
  go_wp2_with fail
  refine (HO.out _).mono ?_
  rintro e w1 ⟨rfl, hb1⟩
  have hq0 := (hq0).below hb1 (by first | omega | (simp; omega))
  have hq1 := (hq1).below hb1 (by first | omega | (simp; omega))
  have hq2 := (hq2).below hb1 (by first | omega | (simp; omega))
  have kb := (kb).trans (hb1.mono kb.size)
  have hsz1 : w.heap.size + 1 + 1 + 1 ≤ w1.heap.size := by have := hb1.size; omega
  clear hb1
  have p0 := hq0.cell 0
  have pz0 := hq0.frozen 0
  have p1 := hq0.cell 1
  have pz1 := hq0.frozen 1
  have p2 := hq0.cell 2
  have pz2 := hq0.frozen 2
  have p3 := hq0.cell 3
  have pz3 := hq0.frozen 3
  have p4 := hq0.cell 4
  have pz4 := hq0.frozen 4
  have p5 := hq0.cell 5
  have pz5 := hq0.frozen 5
  have p6 := hq0.cell 6
  have pz6 := hq0.frozen 6
  have p7 := hq0.cell 7
  have pz7 := hq0.frozen 7
  simp at p0 p1 p2 p3 p4 p5 p6 p7
  have s0 := hq1.cell 0
  have s1 := hq1.cell 1
  have s2 := hq1.cell 2
  have s3 := hq1.cell 3
  have s4 := hq1.cell 4
  have s5 := hq1.cell 5
  have s6 := hq1.cell 6
  have s7 := hq1.cell 7
  simp at s0 s1 s2 s3 s4 s5 s6 s7
  have r0 := hq2.cell 0
  have rz0 := hq2.frozen 0
  have r1 := hq2.cell 1
  have rz1 := hq2.frozen 1
  have r2 := hq2.cell 2
  have rz2 := hq2.frozen 2
  have r3 := hq2.cell 3
  have rz3 := hq2.frozen 3
  have r4 := hq2.cell 4
  have rz4 := hq2.frozen 4
  have r5 := hq2.cell 5
  have rz5 := hq2.frozen 5
  have r6 := hq2.cell 6
  have rz6 := hq2.frozen 6
  have r7 := hq2.cell 7
  have rz7 := hq2.frozen 7
  simp at r0 r1 r2 r3 r4 r5 r6 r7
  have HK := hide kb
  have H0 := hide hq0
  have H1 := hide hq1
  have H2 := hide hq2
  clear kb hq0 hq1 hq2
  go_wp2_with fail
  have kb := HK.out
  have hq0 := H0.out
  have hq1 := H1.out
  have hq2 := H2.out
  clear HK H0 H1 H2
  refine (made_not cC cE cB cT cP cY cR true _ _ (Blk.new _ _ _)).mono ?_
  rintro e w2 ⟨rfl, hb2⟩
  have hq0 := (hq0.alloc _).below hb2 (by first | omega | (simp; omega))
  have hq1 := (hq1.alloc _).below hb2 (by first | omega | (simp; omega))
  have hq2 := (hq2.alloc _).below hb2 (by first | omega | (simp; omega))
  have kb := (kb.alloc kb.size _).trans (hb2.mono (by simp; have := kb.size; omega))
  have hsz2 : w.heap.size + 1 + 1 + 1 ≤ w2.heap.size := by have := hb2.size; simp at this; omega
  clear hb2
  clear p0 p1 p2 p3 p4 p5 p6 p7 s0 s1 s2 s3 s4 s5 s6 s7 r0 r1 r2 r3 r4 r5 r6 r7 pz0 rz0 pz1 rz1 pz2 rz2 pz3 rz3 pz4 rz4 pz5 rz5 pz6 rz6 pz7 rz7
  have r0 := hq2.cell 0
  have rz0 := hq2.frozen 0
  have r1 := hq2.cell 1
  have rz1 := hq2.frozen 1
  have r2 := hq2.cell 2
  have rz2 := hq2.frozen 2
  have r3 := hq2.cell 3
  have rz3 := hq2.frozen 3
  have r4 := hq2.cell 4
  have rz4 := hq2.frozen 4
  have r5 := hq2.cell 5
  have rz5 := hq2.frozen 5
  have r6 := hq2.cell 6
  have rz6 := hq2.frozen 6
  have r7 := hq2.cell 7
  have rz7 := hq2.frozen 7
  simp at r0 r1 r2 r3 r4 r5 r6 r7
  have HK := hide kb
  clear kb hq0 hq1 hq2
  go_wp2
  refine bodyPost_ret (v := .agg #[.int .u32 cC, .int .u8 cE, .int .u16 cB, .int .u16 cT, .int .u16 cP, .int .u16 cY, .int .u32 cR, .bool false]) (by simp [results, Try.results28, go_sem, r0, r1, r2, r3, r4, r5, r6, r7]) rfl ⟨rfl, ?_⟩
  repeat (first | (with_reducible refine Below.setCell ?_ (by simp <;> omega) _))
  exact HK.out


theorem open_y (cC cE cB cT cP cY cR : Nat) (bC bE bB bT bP bY bR : Nat) (bV : Bool) (x y : Nat) (w : World) (bl : capB bC bE bB bT bP bY bR) (hx : (decN bE bB bT bC).1 = x) (hy : (decN bE bB bT bC).2 = y) (hy0 : ((cY : Int) == 0) = false) (ho : overN bC bP bY bV 64 x y = true) (hn : ((bC : Int) != (cY : Int)) = false) (_hn2 : ((bC : Int) == (cY : Int)) = true) (_hyl : cY < 65536) :
    Calls Try.prog 28 #[.agg #[.int .u32 cC, .int .u8 cE, .int .u16 cB, .int .u16 cT, .int .u16 cP, .int .u16 cY, .int .u32 cR, .bool true], .agg #[.int .u32 bC, .int .u8 bE, .int .u16 bB, .int .u16 bT, .int .u16 bP, .int .u16 bY, .int .u32 bR, .bool bV]] w fun e w' => e = .returned (.agg #[.int .u32 cC, .int .u8 cE, .int .u16 cB, .int .u16 cT, .int .u16 cP, .int .u16 0, .int .u32 cR, .bool true]) ∧ Below w.heap.size w w' := by
  have hov := fun W => over_any bC bE bB bT bP bY bR bV 64 x y W bl (by omega) hx hy
  rw [ho] at hov
  have HO := hide hov
  clear hov ho hx hy
  have hq0 : Blk (((w.alloc (.cells #[.int .u32 cC, .int .u8 cE, .int .u16 cB, .int .u16 cT, .int .u16 cP, .int .u16 cY, .int .u32 cR, .bool true] 25)).alloc (.cells #[.int .u32 bC, .int .u8 bE, .int .u16 bB, .int .u16 bT, .int .u16 bP, .int .u16 bY, .int .u32 bR, .bool bV] 25)).alloc (.cells #[.int .u32 0, .int .u8 0, .int .u16 0, .int .u16 0, .int .u16 0, .int .u16 0, .int .u32 0, .bool false] 25)) w.heap.size 25 #[.int .u32 cC, .int .u8 cE, .int .u16 cB, .int .u16 cT, .int .u16 cP, .int .u16 cY, .int .u32 cR, .bool true] := by (repeat (first | (with_reducible exact Blk.new _ _ _) | (with_reducible refine Blk.drewN ?_ _) | (with_reducible refine Blk.drew ?_) | exact Blk.newAt (by simp) _ _ | (with_reducible refine Blk.alloc ?_ _)))
  have hq1 : Blk (((w.alloc (.cells #[.int .u32 cC, .int .u8 cE, .int .u16 cB, .int .u16 cT, .int .u16 cP, .int .u16 cY, .int .u32 cR, .bool true] 25)).alloc (.cells #[.int .u32 bC, .int .u8 bE, .int .u16 bB, .int .u16 bT, .int .u16 bP, .int .u16 bY, .int .u32 bR, .bool bV] 25)).alloc (.cells #[.int .u32 0, .int .u8 0, .int .u16 0, .int .u16 0, .int .u16 0, .int .u16 0, .int .u32 0, .bool false] 25)) (w.heap.size + 1) 25 #[.int .u32 bC, .int .u8 bE, .int .u16 bB, .int .u16 bT, .int .u16 bP, .int .u16 bY, .int .u32 bR, .bool bV] := by (repeat (first | (with_reducible exact Blk.new _ _ _) | (with_reducible refine Blk.drewN ?_ _) | (with_reducible refine Blk.drew ?_) | exact Blk.newAt (by simp) _ _ | (with_reducible refine Blk.alloc ?_ _)))
  have hq2 : Blk (((w.alloc (.cells #[.int .u32 cC, .int .u8 cE, .int .u16 cB, .int .u16 cT, .int .u16 cP, .int .u16 cY, .int .u32 cR, .bool true] 25)).alloc (.cells #[.int .u32 bC, .int .u8 bE, .int .u16 bB, .int .u16 bT, .int .u16 bP, .int .u16 bY, .int .u32 bR, .bool bV] 25)).alloc (.cells #[.int .u32 0, .int .u8 0, .int .u16 0, .int .u16 0, .int .u16 0, .int .u16 0, .int .u32 0, .bool false] 25)) (w.heap.size + 1 + 1) 25 #[.int .u32 0, .int .u8 0, .int .u16 0, .int .u16 0, .int .u16 0, .int .u16 0, .int .u32 0, .bool false] := by (repeat (first | (with_reducible exact Blk.new _ _ _) | (with_reducible refine Blk.drewN ?_ _) | (with_reducible refine Blk.drew ?_) | exact Blk.newAt (by simp) _ _ | (with_reducible refine Blk.alloc ?_ _)))
  have kb : Below w.heap.size w (((w.alloc (.cells #[.int .u32 cC, .int .u8 cE, .int .u16 cB, .int .u16 cT, .int .u16 cP, .int .u16 cY, .int .u32 cR, .bool true] 25)).alloc (.cells #[.int .u32 bC, .int .u8 bE, .int .u16 bB, .int .u16 bT, .int .u16 bP, .int .u16 bY, .int .u32 bR, .bool bV] 25)).alloc (.cells #[.int .u32 0, .int .u8 0, .int .u16 0, .int .u16 0, .int .u16 0, .int .u16 0, .int .u32 0, .bool false] 25)) := by (repeat (first | (with_reducible exact Below.refl _ _) | (with_reducible refine Below.drew ?_) | (with_reducible refine below_drewN ?_ _) | (with_reducible refine Below.alloc ?_ (by simp <;> omega) _) | (with_reducible refine Below.setCell ?_ (by simp <;> omega) _)))
  have hsz : (((w.alloc (.cells #[.int .u32 cC, .int .u8 cE, .int .u16 cB, .int .u16 cT, .int .u16 cP, .int .u16 cY, .int .u32 cR, .bool true] 25)).alloc (.cells #[.int .u32 bC, .int .u8 bE, .int .u16 bB, .int .u16 bT, .int .u16 bP, .int .u16 bY, .int .u32 bR, .bool bV] 25)).alloc (.cells #[.int .u32 0, .int .u8 0, .int .u16 0, .int .u16 0, .int .u16 0, .int .u16 0, .int .u32 0, .bool false] 25)).heap.size = w.heap.size + 1 + 1 + 1 := by simp
  go_enter Try.func28, Try.ntmps28
  go_wp2_with fail
  refine (HO.out _).mono ?_
  rintro e w1 ⟨rfl, hb1⟩
  have hq0 := (hq0).below hb1 (by first | omega | (simp; omega))
  have hq1 := (hq1).below hb1 (by first | omega | (simp; omega))
  have hq2 := (hq2).below hb1 (by first | omega | (simp; omega))
  have kb := (kb).trans (hb1.mono kb.size)
  have hsz1 : w.heap.size + 1 + 1 + 1 ≤ w1.heap.size := by have := hb1.size; omega
  clear hb1
  have p0 := hq0.cell 0
  have pz0 := hq0.frozen 0
  have p1 := hq0.cell 1
  have pz1 := hq0.frozen 1
  have p2 := hq0.cell 2
  have pz2 := hq0.frozen 2
  have p3 := hq0.cell 3
  have pz3 := hq0.frozen 3
  have p4 := hq0.cell 4
  have pz4 := hq0.frozen 4
  have p5 := hq0.cell 5
  have pz5 := hq0.frozen 5
  have p6 := hq0.cell 6
  have pz6 := hq0.frozen 6
  have p7 := hq0.cell 7
  have pz7 := hq0.frozen 7
  simp at p0 p1 p2 p3 p4 p5 p6 p7
  have s0 := hq1.cell 0
  have s1 := hq1.cell 1
  have s2 := hq1.cell 2
  have s3 := hq1.cell 3
  have s4 := hq1.cell 4
  have s5 := hq1.cell 5
  have s6 := hq1.cell 6
  have s7 := hq1.cell 7
  simp at s0 s1 s2 s3 s4 s5 s6 s7
  have r0 := hq2.cell 0
  have rz0 := hq2.frozen 0
  have r1 := hq2.cell 1
  have rz1 := hq2.frozen 1
  have r2 := hq2.cell 2
  have rz2 := hq2.frozen 2
  have r3 := hq2.cell 3
  have rz3 := hq2.frozen 3
  have r4 := hq2.cell 4
  have rz4 := hq2.frozen 4
  have r5 := hq2.cell 5
  have rz5 := hq2.frozen 5
  have r6 := hq2.cell 6
  have rz6 := hq2.frozen 6
  have r7 := hq2.cell 7
  have rz7 := hq2.frozen 7
  simp at r0 r1 r2 r3 r4 r5 r6 r7
  have HK := hide kb
  have H0 := hide hq0
  have H1 := hide hq1
  have H2 := hide hq2
  clear kb hq0 hq1 hq2
  go_wp2
  refine bodyPost_ret (v := .agg #[.int .u32 cC, .int .u8 cE, .int .u16 cB, .int .u16 cT, .int .u16 cP, .int .u16 0, .int .u32 cR, .bool true]) (by simp [results, Try.results28, go_sem, r0, r1, r2, r3, r4, r5, r6, r7]) rfl ⟨rfl, ?_⟩
  repeat (first | (with_reducible refine Below.setCell ?_ (by simp <;> omega) _))
  exact HK.out


/-- Do bits lie within an authority, and are they sound, and not sealed? -/
def bldB (cE cB cT cP cY cR bP x y u v : Nat) : Bool := decide (cY = 0) && (soundN cE cB cT cP cY cR && withinN cP bP x y u v)
theorem build1_any (cC cE cB cT cP cY cR : Nat) (cV : Bool) (bC bE bB bT bP bY bR : Nat) (bV : Bool) (gc gb x y u v : Nat) (w : World) (cl : capB cC cE cB cT cP cY cR) (bl : capB bC bE bB bT bP bY bR) (hx : (decN cE cB cT cC).1 = x) (hy : (decN cE cB cT cC).2 = y) (hu : (decN bE bB bT bC).1 = u) (hv : (decN bE bB bT bC).2 = v)
    (hc : Blk w gc 25 #[.int .u32 cC, .int .u8 cE, .int .u16 cB, .int .u16 cT, .int .u16 cP, .int .u16 cY, .int .u32 cR, .bool cV]) (hb : Blk w gb 25 #[.int .u32 bC, .int .u8 bE, .int .u16 bB, .int .u16 bT, .int .u16 bP, .int .u16 bY, .int .u32 bR, .bool bV]) :
    Calls Try.prog 52 #[.pointer (some ⟨gc, 0, none⟩), .pointer (some ⟨gb, 0, none⟩)] w fun e w' => e = .returned (.bool (bldB cE cB cT cP cY cR bP x y u v)) ∧ Below w.heap.size w w' := by
  have hs := fun W => sound_any cC cE cB cT cP cY cR cV W cl
  have hw := fun W => within_any cC cE cB cT cP cY cR cV bC bE bB bT bP bY bR bV x y u v W cl bl hx hy hu hv
  unfold bldB
  obtain ⟨k1, h1⟩ : ∃ k, soundN cE cB cT cP cY cR = k := ⟨_, rfl⟩
  obtain ⟨k2, h2⟩ : ∃ k, withinN cP bP x y u v = k := ⟨_, rfl⟩
  rw [h1] at hs ⊢
  rw [h2] at hw ⊢
  have HS := hide hs
  have HW := hide hw
  have lc := hc.lt
  have lb := hb.lt
  clear hs hw h1 h2 hx hy hu hv
  have p0 := hc.cell 0
  have p1 := hc.cell 1
  have p2 := hc.cell 2
  have p3 := hc.cell 3
  have p4 := hc.cell 4
  have p5 := hc.cell 5
  have p6 := hc.cell 6
  have p7 := hc.cell 7
  simp at p0 p1 p2 p3 p4 p5 p6 p7
  have HC := hide hc
  have HB := hide hb
  clear hc hb
  by_cases hy0 : cY = 0
  · rw [decide_eq_true hy0, Bool.true_and]
    have d0 : ((cY : Int) == 0) = true := by rw [hy0]; rfl
    clear hy0
    go_enter Try.func52, Try.ntmps52
    go_wp2_with fail
    refine (HS.out _).mono ?_
    rintro e w1 ⟨rfl, hb1⟩
    have hc1 := HC.out.below hb1 lc
    have hd1 := HB.out.below hb1 lb
    have q0 := hc1.cell 0
    have q1 := hc1.cell 1
    have q2 := hc1.cell 2
    have q3 := hc1.cell 3
    have q4 := hc1.cell 4
    have q5 := hc1.cell 5
    have q6 := hc1.cell 6
    have q7 := hc1.cell 7
    simp at q0 q1 q2 q3 q4 q5 q6 q7
    have s0 := hd1.cell 0
    have s1 := hd1.cell 1
    have s2 := hd1.cell 2
    have s3 := hd1.cell 3
    have s4 := hd1.cell 4
    have s5 := hd1.cell 5
    have s6 := hd1.cell 6
    have s7 := hd1.cell 7
    simp at s0 s1 s2 s3 s4 s5 s6 s7
    have HB1 := hide hb1
    clear hb1 hc1 hd1
    cases k1 with
    | false =>
      go_wp2
      go_ret
      exact ⟨rfl, HB1.out⟩
    | true =>
      go_wp2_with fail
      refine (HW.out _).mono ?_
      rintro e w2 ⟨rfl, hb2⟩
      have HB2 := hide hb2; clear hb2
      go_wp2
      go_ret
      exact ⟨ret_bool (by simp), HB1.out.trans (HB2.out.mono HB1.out.size)⟩
  · rw [decide_eq_false hy0, Bool.false_and]
    have d0 : ((cY : Int) == 0) = false := by simp; omega
    clear hy0
    go_enter Try.func52, Try.ntmps52
    go_wp2
    go_ret
    exact ⟨rfl, Below.refl _ _⟩
theorem build_any (cC cE cB cT cP cY cR : Nat) (cV : Bool) (bC bE bB bT bP bY bR : Nat) (bV : Bool) (x y u v : Nat) (w : World) (cl : capB cC cE cB cT cP cY cR) (bl : capB bC bE bB bT bP bY bR) (hx : (decN cE cB cT cC).1 = x) (hy : (decN cE cB cT cC).2 = y) (hu : (decN bE bB bT bC).1 = u) (hv : (decN bE bB bT bC).2 = v) :
    Calls Try.prog 30 #[.agg #[.int .u32 cC, .int .u8 cE, .int .u16 cB, .int .u16 cT, .int .u16 cP, .int .u16 cY, .int .u32 cR, .bool cV], .agg #[.int .u32 bC, .int .u8 bE, .int .u16 bB, .int .u16 bT, .int .u16 bP, .int .u16 bY, .int .u32 bR, .bool bV]] w fun e w' => e = .returned (.agg #[.int .u32 cC, .int .u8 cE, .int .u16 cB, .int .u16 cT, .int .u16 cP, .int .u16 cY, .int .u32 cR, .bool (freeN bY bV && bldB cE cB cT cP cY cR bP x y u v)]) ∧ Below w.heap.size w w' := by
  obtain ⟨k, hkb⟩ : ∃ k, (freeN bY bV && bldB cE cB cT cP cY cR bP x y u v) = k := ⟨_, rfl⟩
  rw [hkb]
  have HKB := hide hkb
  clear hkb
  have hq0 : Blk (((w.alloc (.cells #[.int .u32 cC, .int .u8 cE, .int .u16 cB, .int .u16 cT, .int .u16 cP, .int .u16 cY, .int .u32 cR, .bool cV] 25)).alloc (.cells #[.int .u32 bC, .int .u8 bE, .int .u16 bB, .int .u16 bT, .int .u16 bP, .int .u16 bY, .int .u32 bR, .bool bV] 25)).alloc (.cells #[.int .u32 0, .int .u8 0, .int .u16 0, .int .u16 0, .int .u16 0, .int .u16 0, .int .u32 0, .bool false] 25)) w.heap.size 25 #[.int .u32 cC, .int .u8 cE, .int .u16 cB, .int .u16 cT, .int .u16 cP, .int .u16 cY, .int .u32 cR, .bool cV] := by (repeat (first | (with_reducible exact Blk.new _ _ _) | (with_reducible refine Blk.drewN ?_ _) | (with_reducible refine Blk.drew ?_) | exact Blk.newAt (by simp) _ _ | (with_reducible refine Blk.alloc ?_ _)))
  have hq1 : Blk (((w.alloc (.cells #[.int .u32 cC, .int .u8 cE, .int .u16 cB, .int .u16 cT, .int .u16 cP, .int .u16 cY, .int .u32 cR, .bool cV] 25)).alloc (.cells #[.int .u32 bC, .int .u8 bE, .int .u16 bB, .int .u16 bT, .int .u16 bP, .int .u16 bY, .int .u32 bR, .bool bV] 25)).alloc (.cells #[.int .u32 0, .int .u8 0, .int .u16 0, .int .u16 0, .int .u16 0, .int .u16 0, .int .u32 0, .bool false] 25)) (w.heap.size + 1) 25 #[.int .u32 bC, .int .u8 bE, .int .u16 bB, .int .u16 bT, .int .u16 bP, .int .u16 bY, .int .u32 bR, .bool bV] := by (repeat (first | (with_reducible exact Blk.new _ _ _) | (with_reducible refine Blk.drewN ?_ _) | (with_reducible refine Blk.drew ?_) | exact Blk.newAt (by simp) _ _ | (with_reducible refine Blk.alloc ?_ _)))
  have hq2 : Blk (((w.alloc (.cells #[.int .u32 cC, .int .u8 cE, .int .u16 cB, .int .u16 cT, .int .u16 cP, .int .u16 cY, .int .u32 cR, .bool cV] 25)).alloc (.cells #[.int .u32 bC, .int .u8 bE, .int .u16 bB, .int .u16 bT, .int .u16 bP, .int .u16 bY, .int .u32 bR, .bool bV] 25)).alloc (.cells #[.int .u32 0, .int .u8 0, .int .u16 0, .int .u16 0, .int .u16 0, .int .u16 0, .int .u32 0, .bool false] 25)) (w.heap.size + 1 + 1) 25 #[.int .u32 0, .int .u8 0, .int .u16 0, .int .u16 0, .int .u16 0, .int .u16 0, .int .u32 0, .bool false] := by (repeat (first | (with_reducible exact Blk.new _ _ _) | (with_reducible refine Blk.drewN ?_ _) | (with_reducible refine Blk.drew ?_) | exact Blk.newAt (by simp) _ _ | (with_reducible refine Blk.alloc ?_ _)))
  have kb : Below w.heap.size w (((w.alloc (.cells #[.int .u32 cC, .int .u8 cE, .int .u16 cB, .int .u16 cT, .int .u16 cP, .int .u16 cY, .int .u32 cR, .bool cV] 25)).alloc (.cells #[.int .u32 bC, .int .u8 bE, .int .u16 bB, .int .u16 bT, .int .u16 bP, .int .u16 bY, .int .u32 bR, .bool bV] 25)).alloc (.cells #[.int .u32 0, .int .u8 0, .int .u16 0, .int .u16 0, .int .u16 0, .int .u16 0, .int .u32 0, .bool false] 25)) := by (repeat (first | (with_reducible exact Below.refl _ _) | (with_reducible refine Below.drew ?_) | (with_reducible refine below_drewN ?_ _) | (with_reducible refine Below.alloc ?_ (by simp <;> omega) _) | (with_reducible refine Below.setCell ?_ (by simp <;> omega) _)))
  have hsz : (((w.alloc (.cells #[.int .u32 cC, .int .u8 cE, .int .u16 cB, .int .u16 cT, .int .u16 cP, .int .u16 cY, .int .u32 cR, .bool cV] 25)).alloc (.cells #[.int .u32 bC, .int .u8 bE, .int .u16 bB, .int .u16 bT, .int .u16 bP, .int .u16 bY, .int .u32 bR, .bool bV] 25)).alloc (.cells #[.int .u32 0, .int .u8 0, .int .u16 0, .int .u16 0, .int .u16 0, .int .u16 0, .int .u32 0, .bool false] 25)).heap.size = w.heap.size + 1 + 1 + 1 := by simp
  go_enter Try.func30, Try.ntmps30
  go_wp2_with fail
  refine (made2 cC cE cB cT cP cY cR cV _ _ 42 52 #[.agg #[.int .u32 bC, .int .u8 bE, .int .u16 bB, .int .u16 bT, .int .u16 bP, .int .u16 bY, .int .u32 bR, .bool bV]] #[] #[] #[.pointer (some ⟨w.heap.size, 0, none⟩), .pointer (some ⟨w.heap.size + 1, 0, none⟩)] (freeN bY bV) (bldB cE cB cT cP cY cR bP x y u v) (Blk.newAt (by simp) _ _) (fun W => by kernel_rfl) (fun W => by kernel_rfl)
    (fun W hW => free_any bC bE bB bT bP bY bR bV W)
    (fun W hW => build1_any cC cE cB cT cP cY cR cV bC bE bB bT bP bY bR bV w.heap.size (w.heap.size + 1) x y u v W cl bl hx hy hu hv (Blk.below (hq0.alloc _) hW (by first | (simp; done) | (simp; omega))) (Blk.below (hq1.alloc _) hW (by first | (simp; done) | (simp; omega))))).mono ?_
  rintro e w1 ⟨he, hb1⟩
  rw [HKB.out] at he
  subst he
  have hq2 := (hq2.alloc _).below hb1 (by first | (simp; done) | (simp; omega))
  have kb := (kb.alloc kb.size _).trans (hb1.mono (by simp; have := kb.size; omega))
  clear hb1 hq0 hq1
  have r0 := hq2.cell 0
  have rz0 := hq2.frozen 0
  have r1 := hq2.cell 1
  have rz1 := hq2.frozen 1
  have r2 := hq2.cell 2
  have rz2 := hq2.frozen 2
  have r3 := hq2.cell 3
  have rz3 := hq2.frozen 3
  have r4 := hq2.cell 4
  have rz4 := hq2.frozen 4
  have r5 := hq2.cell 5
  have rz5 := hq2.frozen 5
  have r6 := hq2.cell 6
  have rz6 := hq2.frozen 6
  have r7 := hq2.cell 7
  have rz7 := hq2.frozen 7
  simp at r0 r1 r2 r3 r4 r5 r6 r7
  have HK := hide kb
  clear kb hq2
  go_wp2
  refine bodyPost_ret (v := .agg #[.int .u32 cC, .int .u8 cE, .int .u16 cB, .int .u16 cT, .int .u16 cP, .int .u16 cY, .int .u32 cR, .bool k]) (by simp [results, Try.results30, go_sem, r0, r1, r2, r3, r4, r5, r6, r7]) rfl ⟨rfl, ?_⟩
  repeat (first | (with_reducible refine Below.setCell ?_ (by simp <;> omega) _))
  exact HK.out
end Go.Proofs.Ytljchnfofjmleaa
