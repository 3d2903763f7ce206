/-
  Walks of layer 5: Seal, Open, Build.
-/
import Derived.Test.YtljchnfofjmleaaDerC
namespace Go.Proofs.Ytljchnfofjmleaa
open Go.RowKit
attribute [local go_sem ↓] Go.wp_at_zero Go.wp_at_succ

theorem overN_le {cC cP cY : Nat} {cV : Bool} {q x y : Nat} (h : overN cC cP cY cV q x y = true) : (cC : Int) ≤ 4095 ∧ 1 ≤ cC := by
  simp only [overN, Bool.and_eq_true, decide_eq_true_eq] at h; omega

theorem seal_f (cC cE cB cT cP cY cR : Nat) (cV : Bool) (bC bE bB bT bP bY bR : Nat) (bV : Bool) (w : World) (h : freeN cY cV = false) :
    Calls Try.prog 26 #[.agg #[.int .u32 cC, .int .u8 cE, .int .u16 cB, .int .u16 cT, .int .u16 cP, .int .u16 cY, .int .u32 cR, .bool cV], .agg #[.int .u32 bC, .int .u8 bE, .int .u16 bB, .int .u16 bT, .int .u16 bP, .int .u16 bY, .int .u32 bR, .bool bV]] w fun e w' => e = .returned (.agg #[.int .u32 cC, .int .u8 cE, .int .u16 cB, .int .u16 cT, .int .u16 cP, .int .u16 cY, .int .u32 cR, .bool false]) ∧ Below w.heap.size w w' := by
  have hfr := fun W => free_any cC cE cB cT cP cY cR cV W
  rw [h] at hfr
  have HF := hide hfr
  clear hfr h
  have hq0 : Blk (((w.alloc (.cells #[.int .u32 cC, .int .u8 cE, .int .u16 cB, .int .u16 cT, .int .u16 cP, .int .u16 cY, .int .u32 cR, .bool cV] 25)).alloc (.cells #[.int .u32 bC, .int .u8 bE, .int .u16 bB, .int .u16 bT, .int .u16 bP, .int .u16 bY, .int .u32 bR, .bool bV] 25)).alloc (.cells #[.int .u32 0, .int .u8 0, .int .u16 0, .int .u16 0, .int .u16 0, .int .u16 0, .int .u32 0, .bool false] 25)) w.heap.size 25 #[.int .u32 cC, .int .u8 cE, .int .u16 cB, .int .u16 cT, .int .u16 cP, .int .u16 cY, .int .u32 cR, .bool cV] := by (repeat (first | (with_reducible exact Blk.new _ _ _) | (with_reducible refine Blk.drewN ?_ _) | (with_reducible refine Blk.drew ?_) | exact Blk.newAt (by simp) _ _ | (with_reducible refine Blk.alloc ?_ _)))
  have hq1 : Blk (((w.alloc (.cells #[.int .u32 cC, .int .u8 cE, .int .u16 cB, .int .u16 cT, .int .u16 cP, .int .u16 cY, .int .u32 cR, .bool cV] 25)).alloc (.cells #[.int .u32 bC, .int .u8 bE, .int .u16 bB, .int .u16 bT, .int .u16 bP, .int .u16 bY, .int .u32 bR, .bool bV] 25)).alloc (.cells #[.int .u32 0, .int .u8 0, .int .u16 0, .int .u16 0, .int .u16 0, .int .u16 0, .int .u32 0, .bool false] 25)) (w.heap.size + 1) 25 #[.int .u32 bC, .int .u8 bE, .int .u16 bB, .int .u16 bT, .int .u16 bP, .int .u16 bY, .int .u32 bR, .bool bV] := by (repeat (first | (with_reducible exact Blk.new _ _ _) | (with_reducible refine Blk.drewN ?_ _) | (with_reducible refine Blk.drew ?_) | exact Blk.newAt (by simp) _ _ | (with_reducible refine Blk.alloc ?_ _)))
  have hq2 : Blk (((w.alloc (.cells #[.int .u32 cC, .int .u8 cE, .int .u16 cB, .int .u16 cT, .int .u16 cP, .int .u16 cY, .int .u32 cR, .bool cV] 25)).alloc (.cells #[.int .u32 bC, .int .u8 bE, .int .u16 bB, .int .u16 bT, .int .u16 bP, .int .u16 bY, .int .u32 bR, .bool bV] 25)).alloc (.cells #[.int .u32 0, .int .u8 0, .int .u16 0, .int .u16 0, .int .u16 0, .int .u16 0, .int .u32 0, .bool false] 25)) (w.heap.size + 1 + 1) 25 #[.int .u32 0, .int .u8 0, .int .u16 0, .int .u16 0, .int .u16 0, .int .u16 0, .int .u32 0, .bool false] := by (repeat (first | (with_reducible exact Blk.new _ _ _) | (with_reducible refine Blk.drewN ?_ _) | (with_reducible refine Blk.drew ?_) | exact Blk.newAt (by simp) _ _ | (with_reducible refine Blk.alloc ?_ _)))
  have kb : Below w.heap.size w (((w.alloc (.cells #[.int .u32 cC, .int .u8 cE, .int .u16 cB, .int .u16 cT, .int .u16 cP, .int .u16 cY, .int .u32 cR, .bool cV] 25)).alloc (.cells #[.int .u32 bC, .int .u8 bE, .int .u16 bB, .int .u16 bT, .int .u16 bP, .int .u16 bY, .int .u32 bR, .bool bV] 25)).alloc (.cells #[.int .u32 0, .int .u8 0, .int .u16 0, .int .u16 0, .int .u16 0, .int .u16 0, .int .u32 0, .bool false] 25)) := by (repeat (first | (with_reducible exact Below.refl _ _) | (with_reducible refine Below.drew ?_) | (with_reducible refine below_drewN ?_ _) | (with_reducible refine Below.alloc ?_ (by simp <;> omega) _) | (with_reducible refine Below.setCell ?_ (by simp <;> omega) _)))
  have hsz : (((w.alloc (.cells #[.int .u32 cC, .int .u8 cE, .int .u16 cB, .int .u16 cT, .int .u16 cP, .int .u16 cY, .int .u32 cR, .bool cV] 25)).alloc (.cells #[.int .u32 bC, .int .u8 bE, .int .u16 bB, .int .u16 bT, .int .u16 bP, .int .u16 bY, .int .u32 bR, .bool bV] 25)).alloc (.cells #[.int .u32 0, .int .u8 0, .int .u16 0, .int .u16 0, .int .u16 0, .int .u16 0, .int .u32 0, .bool false] 25)).heap.size = w.heap.size + 1 + 1 + 1 := by simp
  go_enter Try.func26, Try.ntmps26
  go_wp2_with fail
  refine (HF.out _).mono ?_
  rintro e w1 ⟨rfl, hb1⟩
  have hq0 := (hq0).below hb1 (by first | omega | (simp; omega))
  have hq1 := (hq1).below hb1 (by first | omega | (simp; omega))
  have hq2 := (hq2).below hb1 (by first | omega | (simp; omega))
  have kb := (kb).trans (hb1.mono kb.size)
  have hsz1 : w.heap.size + 1 + 1 + 1 ≤ w1.heap.size := by have := hb1.size; omega
  clear hb1
  have p0 := hq0.cell 0
  have pz0 := hq0.frozen 0
  have p1 := hq0.cell 1
  have pz1 := hq0.frozen 1
  have p2 := hq0.cell 2
  have pz2 := hq0.frozen 2
  have p3 := hq0.cell 3
  have pz3 := hq0.frozen 3
  have p4 := hq0.cell 4
  have pz4 := hq0.frozen 4
  have p5 := hq0.cell 5
  have pz5 := hq0.frozen 5
  have p6 := hq0.cell 6
  have pz6 := hq0.frozen 6
  have p7 := hq0.cell 7
  have pz7 := hq0.frozen 7
  simp at p0 p1 p2 p3 p4 p5 p6 p7
  have s0 := hq1.cell 0
  have s1 := hq1.cell 1
  have s2 := hq1.cell 2
  have s3 := hq1.cell 3
  have s4 := hq1.cell 4
  have s5 := hq1.cell 5
  have s6 := hq1.cell 6
  have s7 := hq1.cell 7
  simp at s0 s1 s2 s3 s4 s5 s6 s7
  have r0 := hq2.cell 0
  have rz0 := hq2.frozen 0
  have r1 := hq2.cell 1
  have rz1 := hq2.frozen 1
  have r2 := hq2.cell 2
  have rz2 := hq2.frozen 2
  have r3 := hq2.cell 3
  have rz3 := hq2.frozen 3
  have r4 := hq2.cell 4
  have rz4 := hq2.frozen 4
  have r5 := hq2.cell 5
  have rz5 := hq2.frozen 5
  have r6 := hq2.cell 6
  have rz6 := hq2.frozen 6
  have r7 := hq2.cell 7
  have rz7 := hq2.frozen 7
  simp at r0 r1 r2 r3 r4 r5 r6 r7
  have HK := hide kb
  have H0 := hide hq0
  have H1 := hide hq1
  have H2 := hide hq2
  clear kb hq0 hq1 hq2
  go_wp2_with fail
  have kb := HK.out
  have hq0 := H0.out
  have hq1 := H1.out
  have hq2 := H2.out
  clear HK H0 H1 H2
  refine (made_not cC cE cB cT cP cY cR cV _ _ (Blk.new _ _ _)).mono ?_
  rintro e w2 ⟨rfl, hb2⟩
  have hq0 := (hq0.alloc _).below hb2 (by first | omega | (simp; omega))
  have hq1 := (hq1.alloc _).below hb2 (by first | omega | (simp; omega))
  have hq2 := (hq2.alloc _).below hb2 (by first | omega | (simp; omega))
  have kb := (kb.alloc kb.size _).trans (hb2.mono (by simp; have := kb.size; omega))
  have hsz2 : w.heap.size + 1 + 1 + 1 ≤ w2.heap.size := by have := hb2.size; simp at this; omega
  clear hb2
  clear p0 p1 p2 p3 p4 p5 p6 p7 s0 s1 s2 s3 s4 s5 s6 s7 r0 r1 r2 r3 r4 r5 r6 r7 pz0 rz0 pz1 rz1 pz2 rz2 pz3 rz3 pz4 rz4 pz5 rz5 pz6 rz6 pz7 rz7
  have r0 := hq2.cell 0
  have rz0 := hq2.frozen 0
  have r1 := hq2.cell 1
  have rz1 := hq2.frozen 1
  have r2 := hq2.cell 2
  have rz2 := hq2.frozen 2
  have r3 := hq2.cell 3
  have rz3 := hq2.frozen 3
  have r4 := hq2.cell 4
  have rz4 := hq2.frozen 4
  have r5 := hq2.cell 5
  have rz5 := hq2.frozen 5
  have r6 := hq2.cell 6
  have rz6 := hq2.frozen 6
  have r7 := hq2.cell 7
  have rz7 := hq2.frozen 7
  simp at r0 r1 r2 r3 r4 r5 r6 r7
  have HK := hide kb
  clear kb hq0 hq1 hq2
  go_wp2
  refine bodyPost_ret (v := .agg #[.int .u32 cC, .int .u8 cE, .int .u16 cB, .int .u16 cT, .int .u16 cP, .int .u16 cY, .int .u32 cR, .bool false]) (by simp [results, Try.results26, go_sem, r0, r1, r2, r3, r4, r5, r6, r7]) rfl ⟨rfl, ?_⟩
  repeat (first | (with_reducible refine Below.setCell ?_ (by simp <;> omega) _))
  exact HK.out


theorem seal_o (cC cE cB cT cP cY cR : Nat) (cV : Bool) (bC bE bB bT bP bY bR : Nat) (bV : Bool) (x y : Nat) (w : World) (bl : capB bC bE bB bT bP bY bR) (hx : (decN bE bB bT bC).1 = x) (hy : (decN bE bB bT bC).2 = y) (h : freeN cY cV = true) (ho : overN bC bP bY bV 32 x y = false) :
    Calls Try.prog 26 #[.agg #[.int .u32 cC, .int .u8 cE, .int .u16 cB, .int .u16 cT, .int .u16 cP, .int .u16 cY, .int .u32 cR, .bool cV], .agg #[.int .u32 bC, .int .u8 bE, .int .u16 bB, .int .u16 bT, .int .u16 bP, .int .u16 bY, .int .u32 bR, .bool bV]] w fun e w' => e = .returned (.agg #[.int .u32 cC, .int .u8 cE, .int .u16 cB, .int .u16 cT, .int .u16 cP, .int .u16 cY, .int .u32 cR, .bool false]) ∧ Below w.heap.size w w' := by
  have hfr := fun W => free_any cC cE cB cT cP cY cR cV W
  rw [h] at hfr
  have HF := hide hfr
  have hov := fun W => over_any bC bE bB bT bP bY bR bV 32 x y W bl (by omega) hx hy
  rw [ho] at hov
  have HO := hide hov
  clear hfr h hov ho hx hy
  have hq0 : Blk (((w.alloc (.cells #[.int .u32 cC, .int .u8 cE, .int .u16 cB, .int .u16 cT, .int .u16 cP, .int .u16 cY, .int .u32 cR, .bool cV] 25)).alloc (.cells #[.int .u32 bC, .int .u8 bE, .int .u16 bB, .int .u16 bT, .int .u16 bP, .int .u16 bY, .int .u32 bR, .bool bV] 25)).alloc (.cells #[.int .u32 0, .int .u8 0, .int .u16 0, .int .u16 0, .int .u16 0, .int .u16 0, .int .u32 0, .bool false] 25)) w.heap.size 25 #[.int .u32 cC, .int .u8 cE, .int .u16 cB, .int .u16 cT, .int .u16 cP, .int .u16 cY, .int .u32 cR, .bool cV] := by (repeat (first | (with_reducible exact Blk.new _ _ _) | (with_reducible refine Blk.drewN ?_ _) | (with_reducible refine Blk.drew ?_) | exact Blk.newAt (by simp) _ _ | (with_reducible refine Blk.alloc ?_ _)))
  have hq1 : Blk (((w.alloc (.cells #[.int .u32 cC, .int .u8 cE, .int .u16 cB, .int .u16 cT, .int .u16 cP, .int .u16 cY, .int .u32 cR, .bool cV] 25)).alloc (.cells #[.int .u32 bC, .int .u8 bE, .int .u16 bB, .int .u16 bT, .int .u16 bP, .int .u16 bY, .int .u32 bR, .bool bV] 25)).alloc (.cells #[.int .u32 0, .int .u8 0, .int .u16 0, .int .u16 0, .int .u16 0, .int .u16 0, .int .u32 0, .bool false] 25)) (w.heap.size + 1) 25 #[.int .u32 bC, .int .u8 bE, .int .u16 bB, .int .u16 bT, .int .u16 bP, .int .u16 bY, .int .u32 bR, .bool bV] := by (repeat (first | (with_reducible exact Blk.new _ _ _) | (with_reducible refine Blk.drewN ?_ _) | (with_reducible refine Blk.drew ?_) | exact Blk.newAt (by simp) _ _ | (with_reducible refine Blk.alloc ?_ _)))
  have hq2 : Blk (((w.alloc (.cells #[.int .u32 cC, .int .u8 cE, .int .u16 cB, .int .u16 cT, .int .u16 cP, .int .u16 cY, .int .u32 cR, .bool cV] 25)).alloc (.cells #[.int .u32 bC, .int .u8 bE, .int .u16 bB, .int .u16 bT, .int .u16 bP, .int .u16 bY, .int .u32 bR, .bool bV] 25)).alloc (.cells #[.int .u32 0, .int .u8 0, .int .u16 0, .int .u16 0, .int .u16 0, .int .u16 0, .int .u32 0, .bool false] 25)) (w.heap.size + 1 + 1) 25 #[.int .u32 0, .int .u8 0, .int .u16 0, .int .u16 0, .int .u16 0, .int .u16 0, .int .u32 0, .bool false] := by (repeat (first | (with_reducible exact Blk.new _ _ _) | (with_reducible refine Blk.drewN ?_ _) | (with_reducible refine Blk.drew ?_) | exact Blk.newAt (by simp) _ _ | (with_reducible refine Blk.alloc ?_ _)))
  have kb : Below w.heap.size w (((w.alloc (.cells #[.int .u32 cC, .int .u8 cE, .int .u16 cB, .int .u16 cT, .int .u16 cP, .int .u16 cY, .int .u32 cR, .bool cV] 25)).alloc (.cells #[.int .u32 bC, .int .u8 bE, .int .u16 bB, .int .u16 bT, .int .u16 bP, .int .u16 bY, .int .u32 bR, .bool bV] 25)).alloc (.cells #[.int .u32 0, .int .u8 0, .int .u16 0, .int .u16 0, .int .u16 0, .int .u16 0, .int .u32 0, .bool false] 25)) := by (repeat (first | (with_reducible exact Below.refl _ _) | (with_reducible refine Below.drew ?_) | (with_reducible refine below_drewN ?_ _) | (with_reducible refine Below.alloc ?_ (by simp <;> omega) _) | (with_reducible refine Below.setCell ?_ (by simp <;> omega) _)))
  have hsz : (((w.alloc (.cells #[.int .u32 cC, .int .u8 cE, .int .u16 cB, .int .u16 cT, .int .u16 cP, .int .u16 cY, .int .u32 cR, .bool cV] 25)).alloc (.cells #[.int .u32 bC, .int .u8 bE, .int .u16 bB, .int .u16 bT, .int .u16 bP, .int .u16 bY, .int .u32 bR, .bool bV] 25)).alloc (.cells #[.int .u32 0, .int .u8 0, .int .u16 0, .int .u16 0, .int .u16 0, .int .u16 0, .int .u32 0, .bool false] 25)).heap.size = w.heap.size + 1 + 1 + 1 := by simp
  go_enter Try.func26, Try.ntmps26
  go_wp2_with fail
  refine (HF.out _).mono ?_
  rintro e w1 ⟨rfl, hb1⟩
  have hq0 := (hq0).below hb1 (by first | omega | (simp; omega))
  have hq1 := (hq1).below hb1 (by first | omega | (simp; omega))
  have hq2 := (hq2).below hb1 (by first | omega | (simp; omega))
  have kb := (kb).trans (hb1.mono kb.size)
  have hsz1 : w.heap.size + 1 + 1 + 1 ≤ w1.heap.size := by have := hb1.size; omega
  clear hb1
  have p0 := hq0.cell 0
  have pz0 := hq0.frozen 0
  have p1 := hq0.cell 1
  have pz1 := hq0.frozen 1
  have p2 := hq0.cell 2
  have pz2 := hq0.frozen 2
  have p3 := hq0.cell 3
  have pz3 := hq0.frozen 3
  have p4 := hq0.cell 4
  have pz4 := hq0.frozen 4
  have p5 := hq0.cell 5
  have pz5 := hq0.frozen 5
  have p6 := hq0.cell 6
  have pz6 := hq0.frozen 6
  have p7 := hq0.cell 7
  have pz7 := hq0.frozen 7
  simp at p0 p1 p2 p3 p4 p5 p6 p7
  have s0 := hq1.cell 0
  have s1 := hq1.cell 1
  have s2 := hq1.cell 2
  have s3 := hq1.cell 3
  have s4 := hq1.cell 4
  have s5 := hq1.cell 5
  have s6 := hq1.cell 6
  have s7 := hq1.cell 7
  simp at s0 s1 s2 s3 s4 s5 s6 s7
  have r0 := hq2.cell 0
  have rz0 := hq2.frozen 0
  have r1 := hq2.cell 1
  have rz1 := hq2.frozen 1
  have r2 := hq2.cell 2
  have rz2 := hq2.frozen 2
  have r3 := hq2.cell 3
  have rz3 := hq2.frozen 3
  have r4 := hq2.cell 4
  have rz4 := hq2.frozen 4
  have r5 := hq2.cell 5
  have rz5 := hq2.frozen 5
  have r6 := hq2.cell 6
  have rz6 := hq2.frozen 6
  have r7 := hq2.cell 7
  have rz7 := hq2.frozen 7
  simp at r0 r1 r2 r3 r4 r5 r6 r7
  have HK := hide kb
  have H0 := hide hq0
  have H1 := hide hq1
  have H2 := hide hq2
  clear kb hq0 hq1 hq2
  go_wp2_with fail
  have kb := HK.out
  have hq0 := H0.out
  have hq1 := H1.out
  have hq2 := H2.out
  clear HK H0 H1 H2
  refine (HO.out _).mono ?_
  rintro e w2 ⟨rfl, hb2⟩
  have hq0 := (hq0).below hb2 (by first | omega | (simp; omega))
  have hq1 := (hq1).below hb2 (by first | omega | (simp; omega))
  have hq2 := (hq2).below hb2 (by first | omega | (simp; omega))
  have kb := (kb).trans (hb2.mono kb.size)
  have hsz2 : w.heap.size + 1 + 1 + 1 ≤ w2.heap.size := by have := hb2.size; omega
  clear hb2
  clear p0 p1 p2 p3 p4 p5 p6 p7 s0 s1 s2 s3 s4 s5 s6 s7 r0 r1 r2 r3 r4 r5 r6 r7 pz0 rz0 pz1 rz1 pz2 rz2 pz3 rz3 pz4 rz4 pz5 rz5 pz6 rz6 pz7 rz7
  have p0 := hq0.cell 0
  have pz0 := hq0.frozen 0
  have p1 := hq0.cell 1
  have pz1 := hq0.frozen 1
  have p2 := hq0.cell 2
  have pz2 := hq0.frozen 2
  have p3 := hq0.cell 3
  have pz3 := hq0.frozen 3
  have p4 := hq0.cell 4
  have pz4 := hq0.frozen 4
  have p5 := hq0.cell 5
  have pz5 := hq0.frozen 5
  have p6 := hq0.cell 6
  have pz6 := hq0.frozen 6
  have p7 := hq0.cell 7
  have pz7 := hq0.frozen 7
  simp at p0 p1 p2 p3 p4 p5 p6 p7
  have s0 := hq1.cell 0
  have s1 := hq1.cell 1
  have s2 := hq1.cell 2
  have s3 := hq1.cell 3
  have s4 := hq1.cell 4
  have s5 := hq1.cell 5
  have s6 := hq1.cell 6
  have s7 := hq1.cell 7
  simp at s0 s1 s2 s3 s4 s5 s6 s7
  have r0 := hq2.cell 0
  have rz0 := hq2.frozen 0
  have r1 := hq2.cell 1
  have rz1 := hq2.frozen 1
  have r2 := hq2.cell 2
  have rz2 := hq2.frozen 2
  have r3 := hq2.cell 3
  have rz3 := hq2.frozen 3
  have r4 := hq2.cell 4
  have rz4 := hq2.frozen 4
  have r5 := hq2.cell 5
  have rz5 := hq2.frozen 5
  have r6 := hq2.cell 6
  have rz6 := hq2.frozen 6
  have r7 := hq2.cell 7
  have rz7 := hq2.frozen 7
  simp at r0 r1 r2 r3 r4 r5 r6 r7
  have HK := hide kb
  have H0 := hide hq0
  have H1 := hide hq1
  have H2 := hide hq2
  clear kb hq0 hq1 hq2
  go_wp2_with fail
  have kb := HK.out
  have hq0 := H0.out
  have hq1 := H1.out
  have hq2 := H2.out
  clear HK H0 H1 H2
  refine (made_not cC cE cB cT cP cY cR cV _ _ (Blk.new _ _ _)).mono ?_
  rintro e w3 ⟨rfl, hb3⟩
  have hq0 := (hq0.alloc _).below hb3 (by first | omega | (simp; omega))
  have hq1 := (hq1.alloc _).below hb3 (by first | omega | (simp; omega))
  have hq2 := (hq2.alloc _).below hb3 (by first | omega | (simp; omega))
  have kb := (kb.alloc kb.size _).trans (hb3.mono (by simp; have := kb.size; omega))
  have hsz3 : w.heap.size + 1 + 1 + 1 ≤ w3.heap.size := by have := hb3.size; simp at this; omega
  clear hb3
  clear p0 p1 p2 p3 p4 p5 p6 p7 s0 s1 s2 s3 s4 s5 s6 s7 r0 r1 r2 r3 r4 r5 r6 r7 pz0 rz0 pz1 rz1 pz2 rz2 pz3 rz3 pz4 rz4 pz5 rz5 pz6 rz6 pz7 rz7
  have r0 := hq2.cell 0
  have rz0 := hq2.frozen 0
  have r1 := hq2.cell 1
  have rz1 := hq2.frozen 1
  have r2 := hq2.cell 2
  have rz2 := hq2.frozen 2
  have r3 := hq2.cell 3
  have rz3 := hq2.frozen 3
  have r4 := hq2.cell 4
  have rz4 := hq2.frozen 4
  have r5 := hq2.cell 5
  have rz5 := hq2.frozen 5
  have r6 := hq2.cell 6
  have rz6 := hq2.frozen 6
  have r7 := hq2.cell 7
  have rz7 := hq2.frozen 7
  simp at r0 r1 r2 r3 r4 r5 r6 r7
  have HK := hide kb
  clear kb hq0 hq1 hq2
  go_wp2
  refine bodyPost_ret (v := .agg #[.int .u32 cC, .int .u8 cE, .int .u16 cB, .int .u16 cT, .int .u16 cP, .int .u16 cY, .int .u32 cR, .bool false]) (by simp [results, Try.results26, go_sem, r0, r1, r2, r3, r4, r5, r6, r7]) rfl ⟨rfl, ?_⟩
  repeat (first | (with_reducible refine Below.setCell ?_ (by simp <;> omega) _))
  exact HK.out


theorem seal_y (cC cE cB cT cP cY cR : Nat) (cV : Bool) (bC bE bB bT bP bY bR : Nat) (bV : Bool) (x y : Nat) (w : World) (bl : capB bC bE bB bT bP bY bR) (hx : (decN bE bB bT bC).1 = x) (hy : (decN bE bB bT bC).2 = y) (h : freeN cY cV = true) (ho : overN bC bP bY bV 32 x y = true) :
    Calls Try.prog 26 #[.agg #[.int .u32 cC, .int .u8 cE, .int .u16 cB, .int .u16 cT, .int .u16 cP, .int .u16 cY, .int .u32 cR, .bool cV], .agg #[.int .u32 bC, .int .u8 bE, .int .u16 bB, .int .u16 bT, .int .u16 bP, .int .u16 bY, .int .u32 bR, .bool bV]] w fun e w' => e = .returned (.agg #[.int .u32 cC, .int .u8 cE, .int .u16 cB, .int .u16 cT, .int .u16 cP, .int .u16 bC, .int .u32 cR, .bool cV]) ∧ Below w.heap.size w w' := by
  have hfr := fun W => free_any cC cE cB cT cP cY cR cV W
  rw [h] at hfr
  have HF := hide hfr
  have hov := fun W => over_any bC bE bB bT bP bY bR bV 32 x y W bl (by omega) hx hy
  rw [ho] at hov
  have HO := hide hov
  have hb4 := overN_le ho
  clear hfr h hov ho hx hy
  have hq0 : Blk (((w.alloc (.cells #[.int .u32 cC, .int .u8 cE, .int .u16 cB, .int .u16 cT, .int .u16 cP, .int .u16 cY, .int .u32 cR, .bool cV] 25)).alloc (.cells #[.int .u32 bC, .int .u8 bE, .int .u16 bB, .int .u16 bT, .int .u16 bP, .int .u16 bY, .int .u32 bR, .bool bV] 25)).alloc (.cells #[.int .u32 0, .int .u8 0, .int .u16 0, .int .u16 0, .int .u16 0, .int .u16 0, .int .u32 0, .bool false] 25)) w.heap.size 25 #[.int .u32 cC, .int .u8 cE, .int .u16 cB, .int .u16 cT, .int .u16 cP, .int .u16 cY, .int .u32 cR, .bool cV] := by (repeat (first | (with_reducible exact Blk.new _ _ _) | (with_reducible refine Blk.drewN ?_ _) | (with_reducible refine Blk.drew ?_) | exact Blk.newAt (by simp) _ _ | (with_reducible refine Blk.alloc ?_ _)))
  have hq1 : Blk (((w.alloc (.cells #[.int .u32 cC, .int .u8 cE, .int .u16 cB, .int .u16 cT, .int .u16 cP, .int .u16 cY, .int .u32 cR, .bool cV] 25)).alloc (.cells #[.int .u32 bC, .int .u8 bE, .int .u16 bB, .int .u16 bT, .int .u16 bP, .int .u16 bY, .int .u32 bR, .bool bV] 25)).alloc (.cells #[.int .u32 0, .int .u8 0, .int .u16 0, .int .u16 0, .int .u16 0, .int .u16 0, .int .u32 0, .bool false] 25)) (w.heap.size + 1) 25 #[.int .u32 bC, .int .u8 bE, .int .u16 bB, .int .u16 bT, .int .u16 bP, .int .u16 bY, .int .u32 bR, .bool bV] := by (repeat (first | (with_reducible exact Blk.new _ _ _) | (with_reducible refine Blk.drewN ?_ _) | (with_reducible refine Blk.drew ?_) | exact Blk.newAt (by simp) _ _ | (with_reducible refine Blk.alloc ?_ _)))
  have hq2 : Blk (((w.alloc (.cells #[.int .u32 cC, .int .u8 cE, .int .u16 cB, .int .u16 cT, .int .u16 cP, .int .u16 cY, .int .u32 cR, .bool cV] 25)).alloc (.cells #[.int .u32 bC, .int .u8 bE, .int .u16 bB, .int .u16 bT, .int .u16 bP, .int .u16 bY, .int .u32 bR, .bool bV] 25)).alloc (.cells #[.int .u32 0, .int .u8 0, .int .u16 0, .int .u16 0, .int .u16 0, .int .u16 0, .int .u32 0, .bool false] 25)) (w.heap.size + 1 + 1) 25 #[.int .u32 0, .int .u8 0, .int .u16 0, .int .u16 0, .int .u16 0, .int .u16 0, .int .u32 0, .bool false] := by (repeat (first | (with_reducible exact Blk.new _ _ _) | (with_reducible refine Blk.drewN ?_ _) | (with_reducible refine Blk.drew ?_) | exact Blk.newAt (by simp) _ _ | (with_reducible refine Blk.alloc ?_ _)))
  have kb : Below w.heap.size w (((w.alloc (.cells #[.int .u32 cC, .int .u8 cE, .int .u16 cB, .int .u16 cT, .int .u16 cP, .int .u16 cY, .int .u32 cR, .bool cV] 25)).alloc (.cells #[.int .u32 bC, .int .u8 bE, .int .u16 bB, .int .u16 bT, .int .u16 bP, .int .u16 bY, .int .u32 bR, .bool bV] 25)).alloc (.cells #[.int .u32 0, .int .u8 0, .int .u16 0, .int .u16 0, .int .u16 0, .int .u16 0, .int .u32 0, .bool false] 25)) := by (repeat (first | (with_reducible exact Below.refl _ _) | (with_reducible refine Below.drew ?_) | (with_reducible refine below_drewN ?_ _) | (with_reducible refine Below.alloc ?_ (by simp <;> omega) _) | (with_reducible refine Below.setCell ?_ (by simp <;> omega) _)))
  have hsz : (((w.alloc (.cells #[.int .u32 cC, .int .u8 cE, .int .u16 cB, .int .u16 cT, .int .u16 cP, .int .u16 cY, .int .u32 cR, .bool cV] 25)).alloc (.cells #[.int .u32 bC, .int .u8 bE, .int .u16 bB, .int .u16 bT, .int .u16 bP, .int .u16 bY, .int .u32 bR, .bool bV] 25)).alloc (.cells #[.int .u32 0, .int .u8 0, .int .u16 0, .int .u16 0, .int .u16 0, .int .u16 0, .int .u32 0, .bool false] 25)).heap.size = w.heap.size + 1 + 1 + 1 := by simp
  go_enter Try.func26, Try.ntmps26
  go_wp2_with fail
  refine (HF.out _).mono ?_
  rintro e w1 ⟨rfl, hb1⟩
  have hq0 := (hq0).below hb1 (by first | omega | (simp; omega))
  have hq1 := (hq1).below hb1 (by first | omega | (simp; omega))
  have hq2 := (hq2).below hb1 (by first | omega | (simp; omega))
  have kb := (kb).trans (hb1.mono kb.size)
  have hsz1 : w.heap.size + 1 + 1 + 1 ≤ w1.heap.size := by have := hb1.size; omega
  clear hb1
  have p0 := hq0.cell 0
  have pz0 := hq0.frozen 0
  have p1 := hq0.cell 1
  have pz1 := hq0.frozen 1
  have p2 := hq0.cell 2
  have pz2 := hq0.frozen 2
  have p3 := hq0.cell 3
  have pz3 := hq0.frozen 3
  have p4 := hq0.cell 4
  have pz4 := hq0.frozen 4
  have p5 := hq0.cell 5
  have pz5 := hq0.frozen 5
  have p6 := hq0.cell 6
  have pz6 := hq0.frozen 6
  have p7 := hq0.cell 7
  have pz7 := hq0.frozen 7
  simp at p0 p1 p2 p3 p4 p5 p6 p7
  have s0 := hq1.cell 0
  have s1 := hq1.cell 1
  have s2 := hq1.cell 2
  have s3 := hq1.cell 3
  have s4 := hq1.cell 4
  have s5 := hq1.cell 5
  have s6 := hq1.cell 6
  have s7 := hq1.cell 7
  simp at s0 s1 s2 s3 s4 s5 s6 s7
  have r0 := hq2.cell 0
  have rz0 := hq2.frozen 0
  have r1 := hq2.cell 1
  have rz1 := hq2.frozen 1
  have r2 := hq2.cell 2
  have rz2 := hq2.frozen 2
  have r3 := hq2.cell 3
  have rz3 := hq2.frozen 3
  have r4 := hq2.cell 4
  have rz4 := hq2.frozen 4
  have r5 := hq2.cell 5
  have rz5 := hq2.frozen 5
  have r6 := hq2.cell 6
  have rz6 := hq2.frozen 6
  have r7 := hq2.cell 7
  have rz7 := hq2.frozen 7
  simp at r0 r1 r2 r3 r4 r5 r6 r7
  have HK := hide kb
  have H0 := hide hq0
  have H1 := hide hq1
  have H2 := hide hq2
  clear kb hq0 hq1 hq2
  go_wp2_with fail
  have kb := HK.out
  have hq0 := H0.out
  have hq1 := H1.out
  have hq2 := H2.out
  clear HK H0 H1 H2
  refine (HO.out _).mono ?_
  rintro e w2 ⟨rfl, hb2⟩
  have hq0 := (hq0).below hb2 (by first | omega | (simp; omega))
  have hq1 := (hq1).below hb2 (by first | omega | (simp; omega))
  have hq2 := (hq2).below hb2 (by first | omega | (simp; omega))
  have kb := (kb).trans (hb2.mono kb.size)
  have hsz2 : w.heap.size + 1 + 1 + 1 ≤ w2.heap.size := by have := hb2.size; omega
  clear hb2
  clear p0 p1 p2 p3 p4 p5 p6 p7 s0 s1 s2 s3 s4 s5 s6 s7 r0 r1 r2 r3 r4 r5 r6 r7 pz0 rz0 pz1 rz1 pz2 rz2 pz3 rz3 pz4 rz4 pz5 rz5 pz6 rz6 pz7 rz7
  have p0 := hq0.cell 0
  have pz0 := hq0.frozen 0
  have p1 := hq0.cell 1
  have pz1 := hq0.frozen 1
  have p2 := hq0.cell 2
  have pz2 := hq0.frozen 2
  have p3 := hq0.cell 3
  have pz3 := hq0.frozen 3
  have p4 := hq0.cell 4
  have pz4 := hq0.frozen 4
  have p5 := hq0.cell 5
  have pz5 := hq0.frozen 5
  have p6 := hq0.cell 6
  have pz6 := hq0.frozen 6
  have p7 := hq0.cell 7
  have pz7 := hq0.frozen 7
  simp at p0 p1 p2 p3 p4 p5 p6 p7
  have s0 := hq1.cell 0
  have s1 := hq1.cell 1
  have s2 := hq1.cell 2
  have s3 := hq1.cell 3
  have s4 := hq1.cell 4
  have s5 := hq1.cell 5
  have s6 := hq1.cell 6
  have s7 := hq1.cell 7
  simp at s0 s1 s2 s3 s4 s5 s6 s7
  have r0 := hq2.cell 0
  have rz0 := hq2.frozen 0
  have r1 := hq2.cell 1
  have rz1 := hq2.frozen 1
  have r2 := hq2.cell 2
  have rz2 := hq2.frozen 2
  have r3 := hq2.cell 3
  have rz3 := hq2.frozen 3
  have r4 := hq2.cell 4
  have rz4 := hq2.frozen 4
  have r5 := hq2.cell 5
  have rz5 := hq2.frozen 5
  have r6 := hq2.cell 6
  have rz6 := hq2.frozen 6
  have r7 := hq2.cell 7
  have rz7 := hq2.frozen 7
  simp at r0 r1 r2 r3 r4 r5 r6 r7
  have HK := hide kb
  have H0 := hide hq0
  have H1 := hide hq1
  have H2 := hide hq2
  clear kb hq0 hq1 hq2
  go_wp2
  refine bodyPost_ret (v := .agg #[.int .u32 cC, .int .u8 cE, .int .u16 cB, .int .u16 cT, .int .u16 cP, .int .u16 bC, .int .u32 cR, .bool cV]) (by simp [results, Try.results26, go_sem, r0, r1, r2, r3, r4, r5, r6, r7]) rfl ⟨rfl, ?_⟩
  repeat (first | (with_reducible refine Below.setCell ?_ (by simp <;> omega) _))
  exact HK.out

end Go.Proofs.Ytljchnfofjmleaa
