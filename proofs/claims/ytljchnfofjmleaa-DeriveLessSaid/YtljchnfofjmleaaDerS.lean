/-
  Walks of the document's answer for layer 5: set, Set, Exact.
-/
import Derived.Test.YtljchnfofjmleaaDerR
namespace Go.Proofs.Ytljchnfofjmleaa
open Go.RowKit
attribute [local go_sem ↓] Go.wp_at_zero Go.wp_at_succ

set_option maxHeartbeats 1000000 in
theorem rset_a (cC cE cB cT cP cY cR : Nat) (cV : Bool) (s : Nat) (ex : Bool) (e b t lo hi x y : Nat) (X : Bool) (w : World) (hcl : cC < 4294967296) (hs : s < 4294967296) (h : freeN cY cV = false) 
    (HG : Hid (∀ W, Calls Try.prog 64 #[.agg #[.int .u32 cC, .int .u8 cE, .int .u16 cB, .int .u16 cT, .int .u16 cP, .int .u16 cY, .int .u32 cR, .bool cV]] W fun e' w' => e' = .returned (.tuple #[.int .u32 x, .int .u64 y]) ∧ Below W.heap.size W w'))
    (HR : Hid (∀ W, Calls Try.prog 63 #[.int .u32 cC, .int .u64 ((cC : Int) + s)] W fun e' w' => e' = .returned (.tuple #[.int .u32 lo, .int .u64 hi, .bool true]) ∧ ∃ m, w' = W.drewN m))
    (HE : Hid (∀ W, Calls Try.prog 62 #[.int .u32 cC, .int .u64 ((cC : Int) + s)] W fun e' w' => e' = .returned (.tuple #[.int .u8 e, .int .u16 b, .int .u16 t, .bool X, .bool true]) ∧ ∃ m, w' = W.drewN m)) :
    Calls Try.prog 40 #[.agg #[.int .u32 cC, .int .u8 cE, .int .u16 cB, .int .u16 cT, .int .u16 cP, .int .u16 cY, .int .u32 cR, .bool cV], .int .u32 s, .bool ex] w fun e' w' => e' = .returned (.agg #[.int .u32 cC, .int .u8 e, .int .u16 b, .int .u16 t, .int .u16 cP, .int .u16 cY, .int .u32 cR, .bool false]) ∧ Below w.heap.size w w' := by
  have hfr := fun W => rfree_any cC cE cB cT cP cY cR cV W
  rw [h] at hfr
  have HF := hide hfr
  clear hfr h
  have hq0 : Blk ((w.alloc (.cells #[.int .u32 cC, .int .u8 cE, .int .u16 cB, .int .u16 cT, .int .u16 cP, .int .u16 cY, .int .u32 cR, .bool cV] 25)).alloc (.cells #[.int .u32 0, .int .u8 0, .int .u16 0, .int .u16 0, .int .u16 0, .int .u16 0, .int .u32 0, .bool false] 25)) (w.heap.size) 25 #[.int .u32 cC, .int .u8 cE, .int .u16 cB, .int .u16 cT, .int .u16 cP, .int .u16 cY, .int .u32 cR, .bool cV] := by (repeat (first | (with_reducible exact Blk.new _ _ _) | (with_reducible refine Blk.drewN ?_ _) | (with_reducible refine Blk.drew ?_) | ((with_reducible refine Blk.newAt ?_ _ _); (simp; done)) | (with_reducible refine Blk.far ?_ (by first | (simp; done) | (simp; omega)) _) | (with_reducible refine Blk.alloc ?_ _)))
  have hq1 : Blk ((w.alloc (.cells #[.int .u32 cC, .int .u8 cE, .int .u16 cB, .int .u16 cT, .int .u16 cP, .int .u16 cY, .int .u32 cR, .bool cV] 25)).alloc (.cells #[.int .u32 0, .int .u8 0, .int .u16 0, .int .u16 0, .int .u16 0, .int .u16 0, .int .u32 0, .bool false] 25)) (w.heap.size + 1) 25 #[.int .u32 0, .int .u8 0, .int .u16 0, .int .u16 0, .int .u16 0, .int .u16 0, .int .u32 0, .bool false] := by (repeat (first | (with_reducible exact Blk.new _ _ _) | (with_reducible refine Blk.drewN ?_ _) | (with_reducible refine Blk.drew ?_) | ((with_reducible refine Blk.newAt ?_ _ _); (simp; done)) | (with_reducible refine Blk.far ?_ (by first | (simp; done) | (simp; omega)) _) | (with_reducible refine Blk.alloc ?_ _)))
  have kb : Below w.heap.size w ((w.alloc (.cells #[.int .u32 cC, .int .u8 cE, .int .u16 cB, .int .u16 cT, .int .u16 cP, .int .u16 cY, .int .u32 cR, .bool cV] 25)).alloc (.cells #[.int .u32 0, .int .u8 0, .int .u16 0, .int .u16 0, .int .u16 0, .int .u16 0, .int .u32 0, .bool false] 25)) := by (repeat (first | (with_reducible exact Below.refl _ _) | (with_reducible refine Below.drew ?_) | (with_reducible refine below_drewN ?_ _) | (with_reducible refine Below.alloc ?_ (by simp <;> omega) _) | (with_reducible refine Below.setCell ?_ (by simp <;> omega) _)))
  have hsz : ((w.alloc (.cells #[.int .u32 cC, .int .u8 cE, .int .u16 cB, .int .u16 cT, .int .u16 cP, .int .u16 cY, .int .u32 cR, .bool cV] 25)).alloc (.cells #[.int .u32 0, .int .u8 0, .int .u16 0, .int .u16 0, .int .u16 0, .int .u16 0, .int .u32 0, .bool false] 25)).heap.size = w.heap.size + 1 + 1 := by simp
  go_enter Try.func40, Try.ntmps40
  go_wp2_with fail
  refine (HE.out _).mono ?_
  rintro e' w1 ⟨rfl, m1, rfl⟩
  go_wp2_with fail
  refine (HR.out _).mono ?_
  rintro e' w2 ⟨rfl, m2, rfl⟩
  go_wp2_with fail
  refine (HG.out _).mono ?_
  rintro e' w3 ⟨rfl, hb3⟩
  have hq0 := (hq0.drewN _).below hb3 (by show w.heap.size < (World.alloc _ _).heap.size; simp; omega)
  have hq1 := (hq1.drewN _).below hb3 (by show w.heap.size + 1 < (World.alloc _ _).heap.size; simp)
  have kb := (below_drewN kb _).trans (hb3.mono kb.size)
  have hsz3 : w.heap.size + 1 + 1 ≤ w3.heap.size := by have := hb3.size; simp at this; omega
  clear hb3
  have p0 := hq0.cell 0
  have pz0 := hq0.frozen 0
  have p1 := hq0.cell 1
  have pz1 := hq0.frozen 1
  have p2 := hq0.cell 2
  have pz2 := hq0.frozen 2
  have p3 := hq0.cell 3
  have pz3 := hq0.frozen 3
  have p4 := hq0.cell 4
  have pz4 := hq0.frozen 4
  have p5 := hq0.cell 5
  have pz5 := hq0.frozen 5
  have p6 := hq0.cell 6
  have pz6 := hq0.frozen 6
  have p7 := hq0.cell 7
  have pz7 := hq0.frozen 7
  simp at p0 p1 p2 p3 p4 p5 p6 p7
  have s0 := hq1.cell 0
  have sz0 := hq1.frozen 0
  have s1 := hq1.cell 1
  have sz1 := hq1.frozen 1
  have s2 := hq1.cell 2
  have sz2 := hq1.frozen 2
  have s3 := hq1.cell 3
  have sz3 := hq1.frozen 3
  have s4 := hq1.cell 4
  have sz4 := hq1.frozen 4
  have s5 := hq1.cell 5
  have sz5 := hq1.frozen 5
  have s6 := hq1.cell 6
  have sz6 := hq1.frozen 6
  have s7 := hq1.cell 7
  have sz7 := hq1.frozen 7
  simp at s0 s1 s2 s3 s4 s5 s6 s7
  have HK := hide kb
  have H0 := hide hq0
  have H1 := hide hq1
  clear kb hq0 hq1
  go_wp2_with fail
  have kb := HK.out
  have hq0 := H0.out
  have hq1 := H1.out
  clear HK H0 H1
  refine (HF.out _).mono ?_
  rintro e w4 ⟨rfl, hb4⟩
  have hq0 := hq0.below hb4 (by first | omega | (simp; done) | (simp; omega))
  have hq1 := hq1.below hb4 (by first | omega | (simp; done) | (simp; omega))
  have kb := kb.trans (hb4.mono kb.size)
  have hsz4 : w.heap.size + 1 + 1 ≤ w4.heap.size := by have := hb4.size; omega
  clear hb4
  clear p0 pz0 p1 pz1 p2 pz2 p3 pz3 p4 pz4 p5 pz5 p6 pz6 p7 pz7 s0 sz0 s1 sz1 s2 sz2 s3 sz3 s4 sz4 s5 sz5 s6 sz6 s7 sz7
  have p0 := hq0.cell 0
  have pz0 := hq0.frozen 0
  have p1 := hq0.cell 1
  have pz1 := hq0.frozen 1
  have p2 := hq0.cell 2
  have pz2 := hq0.frozen 2
  have p3 := hq0.cell 3
  have pz3 := hq0.frozen 3
  have p4 := hq0.cell 4
  have pz4 := hq0.frozen 4
  have p5 := hq0.cell 5
  have pz5 := hq0.frozen 5
  have p6 := hq0.cell 6
  have pz6 := hq0.frozen 6
  have p7 := hq0.cell 7
  have pz7 := hq0.frozen 7
  simp at p0 p1 p2 p3 p4 p5 p6 p7
  have s0 := hq1.cell 0
  have sz0 := hq1.frozen 0
  have s1 := hq1.cell 1
  have sz1 := hq1.frozen 1
  have s2 := hq1.cell 2
  have sz2 := hq1.frozen 2
  have s3 := hq1.cell 3
  have sz3 := hq1.frozen 3
  have s4 := hq1.cell 4
  have sz4 := hq1.frozen 4
  have s5 := hq1.cell 5
  have sz5 := hq1.frozen 5
  have s6 := hq1.cell 6
  have sz6 := hq1.frozen 6
  have s7 := hq1.cell 7
  have sz7 := hq1.frozen 7
  simp at s0 s1 s2 s3 s4 s5 s6 s7
  have HK := hide kb
  have H0 := hide hq0
  have H1 := hide hq1
  clear kb hq0 hq1
  go_wp2_with fail
  refine (with_any cC e b t cP cY cR cV false _).mono ?_
  rintro e w5 ⟨rfl, hb5⟩
  have hq1 : Blk w5 (w.heap.size + 1) 25 #[.int .u32 0, .int .u8 0, .int .u16 0, .int .u16 0, .int .u16 0, .int .u16 0, .int .u32 0, .bool false] := Blk.below (by repeat (first | exact H1.out | (with_reducible refine Blk.far ?_ (by first | (simp; done) | (simp; omega)) _))) hb5 (by first | omega | (simp; omega))
  have kb : Below w.heap.size w w5 := Below.trans (by repeat (first | exact HK.out | (with_reducible refine Below.setCell ?_ (by simp <;> omega) _))) (hb5.mono (by simp; have := HK.out.size; omega))
  clear hb5 HK
  clear p0 pz0 p1 pz1 p2 pz2 p3 pz3 p4 pz4 p5 pz5 p6 pz6 p7 pz7 s0 sz0 s1 sz1 s2 sz2 s3 sz3 s4 sz4 s5 sz5 s6 sz6 s7 sz7
  have s0 := hq1.cell 0
  have sz0 := hq1.frozen 0
  have s1 := hq1.cell 1
  have sz1 := hq1.frozen 1
  have s2 := hq1.cell 2
  have sz2 := hq1.frozen 2
  have s3 := hq1.cell 3
  have sz3 := hq1.frozen 3
  have s4 := hq1.cell 4
  have sz4 := hq1.frozen 4
  have s5 := hq1.cell 5
  have sz5 := hq1.frozen 5
  have s6 := hq1.cell 6
  have sz6 := hq1.frozen 6
  have s7 := hq1.cell 7
  have sz7 := hq1.frozen 7
  simp at s0 s1 s2 s3 s4 s5 s6 s7
  have HK := hide kb
  clear kb hq1
  go_wp2
  refine bodyPost_ret (v := .agg #[.int .u32 cC, .int .u8 e, .int .u16 b, .int .u16 t, .int .u16 cP, .int .u16 cY, .int .u32 cR, .bool false]) (by simp [results, Try.results40, go_sem, s0, s1, s2, s3, s4, s5, s6, s7]) rfl ⟨rfl, ?_⟩
  repeat (first | (with_reducible refine Below.setCell ?_ (by simp <;> omega) _))
  exact HK.out

set_option maxHeartbeats 1000000 in
theorem rset_b (cC cE cB cT cP cY cR : Nat) (cV : Bool) (s : Nat) (ex : Bool) (e b t lo hi x y : Nat) (X : Bool) (w : World) (hcl : cC < 4294967296) (hs : s < 4294967296) (h : freeN cY cV = true) (d1 : decide (x ≤ lo) = false)
    (HG : Hid (∀ W, Calls Try.prog 64 #[.agg #[.int .u32 cC, .int .u8 cE, .int .u16 cB, .int .u16 cT, .int .u16 cP, .int .u16 cY, .int .u32 cR, .bool cV]] W fun e' w' => e' = .returned (.tuple #[.int .u32 x, .int .u64 y]) ∧ Below W.heap.size W w'))
    (HR : Hid (∀ W, Calls Try.prog 63 #[.int .u32 cC, .int .u64 ((cC : Int) + s)] W fun e' w' => e' = .returned (.tuple #[.int .u32 lo, .int .u64 hi, .bool true]) ∧ ∃ m, w' = W.drewN m))
    (HE : Hid (∀ W, Calls Try.prog 62 #[.int .u32 cC, .int .u64 ((cC : Int) + s)] W fun e' w' => e' = .returned (.tuple #[.int .u8 e, .int .u16 b, .int .u16 t, .bool X, .bool true]) ∧ ∃ m, w' = W.drewN m)) :
    Calls Try.prog 40 #[.agg #[.int .u32 cC, .int .u8 cE, .int .u16 cB, .int .u16 cT, .int .u16 cP, .int .u16 cY, .int .u32 cR, .bool cV], .int .u32 s, .bool ex] w fun e' w' => e' = .returned (.agg #[.int .u32 cC, .int .u8 e, .int .u16 b, .int .u16 t, .int .u16 cP, .int .u16 cY, .int .u32 cR, .bool false]) ∧ Below w.heap.size w w' := by
  have hfr := fun W => rfree_any cC cE cB cT cP cY cR cV W
  rw [h] at hfr
  have HF := hide hfr
  clear hfr h
  have hq0 : Blk ((w.alloc (.cells #[.int .u32 cC, .int .u8 cE, .int .u16 cB, .int .u16 cT, .int .u16 cP, .int .u16 cY, .int .u32 cR, .bool cV] 25)).alloc (.cells #[.int .u32 0, .int .u8 0, .int .u16 0, .int .u16 0, .int .u16 0, .int .u16 0, .int .u32 0, .bool false] 25)) (w.heap.size) 25 #[.int .u32 cC, .int .u8 cE, .int .u16 cB, .int .u16 cT, .int .u16 cP, .int .u16 cY, .int .u32 cR, .bool cV] := by (repeat (first | (with_reducible exact Blk.new _ _ _) | (with_reducible refine Blk.drewN ?_ _) | (with_reducible refine Blk.drew ?_) | ((with_reducible refine Blk.newAt ?_ _ _); (simp; done)) | (with_reducible refine Blk.far ?_ (by first | (simp; done) | (simp; omega)) _) | (with_reducible refine Blk.alloc ?_ _)))
  have hq1 : Blk ((w.alloc (.cells #[.int .u32 cC, .int .u8 cE, .int .u16 cB, .int .u16 cT, .int .u16 cP, .int .u16 cY, .int .u32 cR, .bool cV] 25)).alloc (.cells #[.int .u32 0, .int .u8 0, .int .u16 0, .int .u16 0, .int .u16 0, .int .u16 0, .int .u32 0, .bool false] 25)) (w.heap.size + 1) 25 #[.int .u32 0, .int .u8 0, .int .u16 0, .int .u16 0, .int .u16 0, .int .u16 0, .int .u32 0, .bool false] := by (repeat (first | (with_reducible exact Blk.new _ _ _) | (with_reducible refine Blk.drewN ?_ _) | (with_reducible refine Blk.drew ?_) | ((with_reducible refine Blk.newAt ?_ _ _); (simp; done)) | (with_reducible refine Blk.far ?_ (by first | (simp; done) | (simp; omega)) _) | (with_reducible refine Blk.alloc ?_ _)))
  have kb : Below w.heap.size w ((w.alloc (.cells #[.int .u32 cC, .int .u8 cE, .int .u16 cB, .int .u16 cT, .int .u16 cP, .int .u16 cY, .int .u32 cR, .bool cV] 25)).alloc (.cells #[.int .u32 0, .int .u8 0, .int .u16 0, .int .u16 0, .int .u16 0, .int .u16 0, .int .u32 0, .bool false] 25)) := by (repeat (first | (with_reducible exact Below.refl _ _) | (with_reducible refine Below.drew ?_) | (with_reducible refine below_drewN ?_ _) | (with_reducible refine Below.alloc ?_ (by simp <;> omega) _) | (with_reducible refine Below.setCell ?_ (by simp <;> omega) _)))
  have hsz : ((w.alloc (.cells #[.int .u32 cC, .int .u8 cE, .int .u16 cB, .int .u16 cT, .int .u16 cP, .int .u16 cY, .int .u32 cR, .bool cV] 25)).alloc (.cells #[.int .u32 0, .int .u8 0, .int .u16 0, .int .u16 0, .int .u16 0, .int .u16 0, .int .u32 0, .bool false] 25)).heap.size = w.heap.size + 1 + 1 := by simp
  go_enter Try.func40, Try.ntmps40
  go_wp2_with fail
  refine (HE.out _).mono ?_
  rintro e' w1 ⟨rfl, m1, rfl⟩
  go_wp2_with fail
  refine (HR.out _).mono ?_
  rintro e' w2 ⟨rfl, m2, rfl⟩
  go_wp2_with fail
  refine (HG.out _).mono ?_
  rintro e' w3 ⟨rfl, hb3⟩
  have hq0 := (hq0.drewN _).below hb3 (by show w.heap.size < (World.alloc _ _).heap.size; simp; omega)
  have hq1 := (hq1.drewN _).below hb3 (by show w.heap.size + 1 < (World.alloc _ _).heap.size; simp)
  have kb := (below_drewN kb _).trans (hb3.mono kb.size)
  have hsz3 : w.heap.size + 1 + 1 ≤ w3.heap.size := by have := hb3.size; simp at this; omega
  clear hb3
  have p0 := hq0.cell 0
  have pz0 := hq0.frozen 0
  have p1 := hq0.cell 1
  have pz1 := hq0.frozen 1
  have p2 := hq0.cell 2
  have pz2 := hq0.frozen 2
  have p3 := hq0.cell 3
  have pz3 := hq0.frozen 3
  have p4 := hq0.cell 4
  have pz4 := hq0.frozen 4
  have p5 := hq0.cell 5
  have pz5 := hq0.frozen 5
  have p6 := hq0.cell 6
  have pz6 := hq0.frozen 6
  have p7 := hq0.cell 7
  have pz7 := hq0.frozen 7
  simp at p0 p1 p2 p3 p4 p5 p6 p7
  have s0 := hq1.cell 0
  have sz0 := hq1.frozen 0
  have s1 := hq1.cell 1
  have sz1 := hq1.frozen 1
  have s2 := hq1.cell 2
  have sz2 := hq1.frozen 2
  have s3 := hq1.cell 3
  have sz3 := hq1.frozen 3
  have s4 := hq1.cell 4
  have sz4 := hq1.frozen 4
  have s5 := hq1.cell 5
  have sz5 := hq1.frozen 5
  have s6 := hq1.cell 6
  have sz6 := hq1.frozen 6
  have s7 := hq1.cell 7
  have sz7 := hq1.frozen 7
  simp at s0 s1 s2 s3 s4 s5 s6 s7
  have HK := hide kb
  have H0 := hide hq0
  have H1 := hide hq1
  clear kb hq0 hq1
  go_wp2_with fail
  have kb := HK.out
  have hq0 := H0.out
  have hq1 := H1.out
  clear HK H0 H1
  refine (HF.out _).mono ?_
  rintro e w4 ⟨rfl, hb4⟩
  have hq0 := hq0.below hb4 (by first | omega | (simp; done) | (simp; omega))
  have hq1 := hq1.below hb4 (by first | omega | (simp; done) | (simp; omega))
  have kb := kb.trans (hb4.mono kb.size)
  have hsz4 : w.heap.size + 1 + 1 ≤ w4.heap.size := by have := hb4.size; omega
  clear hb4
  clear p0 pz0 p1 pz1 p2 pz2 p3 pz3 p4 pz4 p5 pz5 p6 pz6 p7 pz7 s0 sz0 s1 sz1 s2 sz2 s3 sz3 s4 sz4 s5 sz5 s6 sz6 s7 sz7
  have p0 := hq0.cell 0
  have pz0 := hq0.frozen 0
  have p1 := hq0.cell 1
  have pz1 := hq0.frozen 1
  have p2 := hq0.cell 2
  have pz2 := hq0.frozen 2
  have p3 := hq0.cell 3
  have pz3 := hq0.frozen 3
  have p4 := hq0.cell 4
  have pz4 := hq0.frozen 4
  have p5 := hq0.cell 5
  have pz5 := hq0.frozen 5
  have p6 := hq0.cell 6
  have pz6 := hq0.frozen 6
  have p7 := hq0.cell 7
  have pz7 := hq0.frozen 7
  simp at p0 p1 p2 p3 p4 p5 p6 p7
  have s0 := hq1.cell 0
  have sz0 := hq1.frozen 0
  have s1 := hq1.cell 1
  have sz1 := hq1.frozen 1
  have s2 := hq1.cell 2
  have sz2 := hq1.frozen 2
  have s3 := hq1.cell 3
  have sz3 := hq1.frozen 3
  have s4 := hq1.cell 4
  have sz4 := hq1.frozen 4
  have s5 := hq1.cell 5
  have sz5 := hq1.frozen 5
  have s6 := hq1.cell 6
  have sz6 := hq1.frozen 6
  have s7 := hq1.cell 7
  have sz7 := hq1.frozen 7
  simp at s0 s1 s2 s3 s4 s5 s6 s7
  have HK := hide kb
  have H0 := hide hq0
  have H1 := hide hq1
  clear kb hq0 hq1
  go_wp2_with fail
  refine (with_any cC e b t cP cY cR cV false _).mono ?_
  rintro e w5 ⟨rfl, hb5⟩
  have hq1 : Blk w5 (w.heap.size + 1) 25 #[.int .u32 0, .int .u8 0, .int .u16 0, .int .u16 0, .int .u16 0, .int .u16 0, .int .u32 0, .bool false] := Blk.below (by repeat (first | exact H1.out | (with_reducible refine Blk.far ?_ (by first | (simp; done) | (simp; omega)) _))) hb5 (by first | omega | (simp; omega))
  have kb : Below w.heap.size w w5 := Below.trans (by repeat (first | exact HK.out | (with_reducible refine Below.setCell ?_ (by simp <;> omega) _))) (hb5.mono (by simp; have := HK.out.size; omega))
  clear hb5 HK
  clear p0 pz0 p1 pz1 p2 pz2 p3 pz3 p4 pz4 p5 pz5 p6 pz6 p7 pz7 s0 sz0 s1 sz1 s2 sz2 s3 sz3 s4 sz4 s5 sz5 s6 sz6 s7 sz7
  have s0 := hq1.cell 0
  have sz0 := hq1.frozen 0
  have s1 := hq1.cell 1
  have sz1 := hq1.frozen 1
  have s2 := hq1.cell 2
  have sz2 := hq1.frozen 2
  have s3 := hq1.cell 3
  have sz3 := hq1.frozen 3
  have s4 := hq1.cell 4
  have sz4 := hq1.frozen 4
  have s5 := hq1.cell 5
  have sz5 := hq1.frozen 5
  have s6 := hq1.cell 6
  have sz6 := hq1.frozen 6
  have s7 := hq1.cell 7
  have sz7 := hq1.frozen 7
  simp at s0 s1 s2 s3 s4 s5 s6 s7
  have HK := hide kb
  clear kb hq1
  go_wp2
  refine bodyPost_ret (v := .agg #[.int .u32 cC, .int .u8 e, .int .u16 b, .int .u16 t, .int .u16 cP, .int .u16 cY, .int .u32 cR, .bool false]) (by simp [results, Try.results40, go_sem, s0, s1, s2, s3, s4, s5, s6, s7]) rfl ⟨rfl, ?_⟩
  repeat (first | (with_reducible refine Below.setCell ?_ (by simp <;> omega) _))
  exact HK.out

set_option maxHeartbeats 1000000 in
theorem rset_c (cC cE cB cT cP cY cR : Nat) (cV : Bool) (s : Nat) (ex : Bool) (e b t lo hi x y : Nat) (X : Bool) (w : World) (hcl : cC < 4294967296) (hs : s < 4294967296) (h : freeN cY cV = true) (c1 : x ≤ lo) (d2 : decide (hi ≤ y) = false)
    (HG : Hid (∀ W, Calls Try.prog 64 #[.agg #[.int .u32 cC, .int .u8 cE, .int .u16 cB, .int .u16 cT, .int .u16 cP, .int .u16 cY, .int .u32 cR, .bool cV]] W fun e' w' => e' = .returned (.tuple #[.int .u32 x, .int .u64 y]) ∧ Below W.heap.size W w'))
    (HR : Hid (∀ W, Calls Try.prog 63 #[.int .u32 cC, .int .u64 ((cC : Int) + s)] W fun e' w' => e' = .returned (.tuple #[.int .u32 lo, .int .u64 hi, .bool true]) ∧ ∃ m, w' = W.drewN m))
    (HE : Hid (∀ W, Calls Try.prog 62 #[.int .u32 cC, .int .u64 ((cC : Int) + s)] W fun e' w' => e' = .returned (.tuple #[.int .u8 e, .int .u16 b, .int .u16 t, .bool X, .bool true]) ∧ ∃ m, w' = W.drewN m)) :
    Calls Try.prog 40 #[.agg #[.int .u32 cC, .int .u8 cE, .int .u16 cB, .int .u16 cT, .int .u16 cP, .int .u16 cY, .int .u32 cR, .bool cV], .int .u32 s, .bool ex] w fun e' w' => e' = .returned (.agg #[.int .u32 cC, .int .u8 e, .int .u16 b, .int .u16 t, .int .u16 cP, .int .u16 cY, .int .u32 cR, .bool false]) ∧ Below w.heap.size w w' := by
  have hfr := fun W => rfree_any cC cE cB cT cP cY cR cV W
  rw [h] at hfr
  have HF := hide hfr
  clear hfr h
  have hq0 : Blk ((w.alloc (.cells #[.int .u32 cC, .int .u8 cE, .int .u16 cB, .int .u16 cT, .int .u16 cP, .int .u16 cY, .int .u32 cR, .bool cV] 25)).alloc (.cells #[.int .u32 0, .int .u8 0, .int .u16 0, .int .u16 0, .int .u16 0, .int .u16 0, .int .u32 0, .bool false] 25)) (w.heap.size) 25 #[.int .u32 cC, .int .u8 cE, .int .u16 cB, .int .u16 cT, .int .u16 cP, .int .u16 cY, .int .u32 cR, .bool cV] := by (repeat (first | (with_reducible exact Blk.new _ _ _) | (with_reducible refine Blk.drewN ?_ _) | (with_reducible refine Blk.drew ?_) | ((with_reducible refine Blk.newAt ?_ _ _); (simp; done)) | (with_reducible refine Blk.far ?_ (by first | (simp; done) | (simp; omega)) _) | (with_reducible refine Blk.alloc ?_ _)))
  have hq1 : Blk ((w.alloc (.cells #[.int .u32 cC, .int .u8 cE, .int .u16 cB, .int .u16 cT, .int .u16 cP, .int .u16 cY, .int .u32 cR, .bool cV] 25)).alloc (.cells #[.int .u32 0, .int .u8 0, .int .u16 0, .int .u16 0, .int .u16 0, .int .u16 0, .int .u32 0, .bool false] 25)) (w.heap.size + 1) 25 #[.int .u32 0, .int .u8 0, .int .u16 0, .int .u16 0, .int .u16 0, .int .u16 0, .int .u32 0, .bool false] := by (repeat (first | (with_reducible exact Blk.new _ _ _) | (with_reducible refine Blk.drewN ?_ _) | (with_reducible refine Blk.drew ?_) | ((with_reducible refine Blk.newAt ?_ _ _); (simp; done)) | (with_reducible refine Blk.far ?_ (by first | (simp; done) | (simp; omega)) _) | (with_reducible refine Blk.alloc ?_ _)))
  have kb : Below w.heap.size w ((w.alloc (.cells #[.int .u32 cC, .int .u8 cE, .int .u16 cB, .int .u16 cT, .int .u16 cP, .int .u16 cY, .int .u32 cR, .bool cV] 25)).alloc (.cells #[.int .u32 0, .int .u8 0, .int .u16 0, .int .u16 0, .int .u16 0, .int .u16 0, .int .u32 0, .bool false] 25)) := by (repeat (first | (with_reducible exact Below.refl _ _) | (with_reducible refine Below.drew ?_) | (with_reducible refine below_drewN ?_ _) | (with_reducible refine Below.alloc ?_ (by simp <;> omega) _) | (with_reducible refine Below.setCell ?_ (by simp <;> omega) _)))
  have hsz : ((w.alloc (.cells #[.int .u32 cC, .int .u8 cE, .int .u16 cB, .int .u16 cT, .int .u16 cP, .int .u16 cY, .int .u32 cR, .bool cV] 25)).alloc (.cells #[.int .u32 0, .int .u8 0, .int .u16 0, .int .u16 0, .int .u16 0, .int .u16 0, .int .u32 0, .bool false] 25)).heap.size = w.heap.size + 1 + 1 := by simp
  go_enter Try.func40, Try.ntmps40
  go_wp2_with fail
  refine (HE.out _).mono ?_
  rintro e' w1 ⟨rfl, m1, rfl⟩
  go_wp2_with fail
  refine (HR.out _).mono ?_
  rintro e' w2 ⟨rfl, m2, rfl⟩
  go_wp2_with fail
  refine (HG.out _).mono ?_
  rintro e' w3 ⟨rfl, hb3⟩
  have hq0 := (hq0.drewN _).below hb3 (by show w.heap.size < (World.alloc _ _).heap.size; simp; omega)
  have hq1 := (hq1.drewN _).below hb3 (by show w.heap.size + 1 < (World.alloc _ _).heap.size; simp)
  have kb := (below_drewN kb _).trans (hb3.mono kb.size)
  have hsz3 : w.heap.size + 1 + 1 ≤ w3.heap.size := by have := hb3.size; simp at this; omega
  clear hb3
  have p0 := hq0.cell 0
  have pz0 := hq0.frozen 0
  have p1 := hq0.cell 1
  have pz1 := hq0.frozen 1
  have p2 := hq0.cell 2
  have pz2 := hq0.frozen 2
  have p3 := hq0.cell 3
  have pz3 := hq0.frozen 3
  have p4 := hq0.cell 4
  have pz4 := hq0.frozen 4
  have p5 := hq0.cell 5
  have pz5 := hq0.frozen 5
  have p6 := hq0.cell 6
  have pz6 := hq0.frozen 6
  have p7 := hq0.cell 7
  have pz7 := hq0.frozen 7
  simp at p0 p1 p2 p3 p4 p5 p6 p7
  have s0 := hq1.cell 0
  have sz0 := hq1.frozen 0
  have s1 := hq1.cell 1
  have sz1 := hq1.frozen 1
  have s2 := hq1.cell 2
  have sz2 := hq1.frozen 2
  have s3 := hq1.cell 3
  have sz3 := hq1.frozen 3
  have s4 := hq1.cell 4
  have sz4 := hq1.frozen 4
  have s5 := hq1.cell 5
  have sz5 := hq1.frozen 5
  have s6 := hq1.cell 6
  have sz6 := hq1.frozen 6
  have s7 := hq1.cell 7
  have sz7 := hq1.frozen 7
  simp at s0 s1 s2 s3 s4 s5 s6 s7
  have HK := hide kb
  have H0 := hide hq0
  have H1 := hide hq1
  clear kb hq0 hq1
  go_wp2_with fail
  have kb := HK.out
  have hq0 := H0.out
  have hq1 := H1.out
  clear HK H0 H1
  refine (HF.out _).mono ?_
  rintro e w4 ⟨rfl, hb4⟩
  have hq0 := hq0.below hb4 (by first | omega | (simp; done) | (simp; omega))
  have hq1 := hq1.below hb4 (by first | omega | (simp; done) | (simp; omega))
  have kb := kb.trans (hb4.mono kb.size)
  have hsz4 : w.heap.size + 1 + 1 ≤ w4.heap.size := by have := hb4.size; omega
  clear hb4
  clear p0 pz0 p1 pz1 p2 pz2 p3 pz3 p4 pz4 p5 pz5 p6 pz6 p7 pz7 s0 sz0 s1 sz1 s2 sz2 s3 sz3 s4 sz4 s5 sz5 s6 sz6 s7 sz7
  have p0 := hq0.cell 0
  have pz0 := hq0.frozen 0
  have p1 := hq0.cell 1
  have pz1 := hq0.frozen 1
  have p2 := hq0.cell 2
  have pz2 := hq0.frozen 2
  have p3 := hq0.cell 3
  have pz3 := hq0.frozen 3
  have p4 := hq0.cell 4
  have pz4 := hq0.frozen 4
  have p5 := hq0.cell 5
  have pz5 := hq0.frozen 5
  have p6 := hq0.cell 6
  have pz6 := hq0.frozen 6
  have p7 := hq0.cell 7
  have pz7 := hq0.frozen 7
  simp at p0 p1 p2 p3 p4 p5 p6 p7
  have s0 := hq1.cell 0
  have sz0 := hq1.frozen 0
  have s1 := hq1.cell 1
  have sz1 := hq1.frozen 1
  have s2 := hq1.cell 2
  have sz2 := hq1.frozen 2
  have s3 := hq1.cell 3
  have sz3 := hq1.frozen 3
  have s4 := hq1.cell 4
  have sz4 := hq1.frozen 4
  have s5 := hq1.cell 5
  have sz5 := hq1.frozen 5
  have s6 := hq1.cell 6
  have sz6 := hq1.frozen 6
  have s7 := hq1.cell 7
  have sz7 := hq1.frozen 7
  simp at s0 s1 s2 s3 s4 s5 s6 s7
  have HK := hide kb
  have H0 := hide hq0
  have H1 := hide hq1
  clear kb hq0 hq1
  go_wp2_with fail
  refine (with_any cC e b t cP cY cR cV false _).mono ?_
  rintro e w5 ⟨rfl, hb5⟩
  have hq1 : Blk w5 (w.heap.size + 1) 25 #[.int .u32 0, .int .u8 0, .int .u16 0, .int .u16 0, .int .u16 0, .int .u16 0, .int .u32 0, .bool false] := Blk.below (by repeat (first | exact H1.out | (with_reducible refine Blk.far ?_ (by first | (simp; done) | (simp; omega)) _))) hb5 (by first | omega | (simp; omega))
  have kb : Below w.heap.size w w5 := Below.trans (by repeat (first | exact HK.out | (with_reducible refine Below.setCell ?_ (by simp <;> omega) _))) (hb5.mono (by simp; have := HK.out.size; omega))
  clear hb5 HK
  clear p0 pz0 p1 pz1 p2 pz2 p3 pz3 p4 pz4 p5 pz5 p6 pz6 p7 pz7 s0 sz0 s1 sz1 s2 sz2 s3 sz3 s4 sz4 s5 sz5 s6 sz6 s7 sz7
  have s0 := hq1.cell 0
  have sz0 := hq1.frozen 0
  have s1 := hq1.cell 1
  have sz1 := hq1.frozen 1
  have s2 := hq1.cell 2
  have sz2 := hq1.frozen 2
  have s3 := hq1.cell 3
  have sz3 := hq1.frozen 3
  have s4 := hq1.cell 4
  have sz4 := hq1.frozen 4
  have s5 := hq1.cell 5
  have sz5 := hq1.frozen 5
  have s6 := hq1.cell 6
  have sz6 := hq1.frozen 6
  have s7 := hq1.cell 7
  have sz7 := hq1.frozen 7
  simp at s0 s1 s2 s3 s4 s5 s6 s7
  have HK := hide kb
  clear kb hq1
  go_wp2
  refine bodyPost_ret (v := .agg #[.int .u32 cC, .int .u8 e, .int .u16 b, .int .u16 t, .int .u16 cP, .int .u16 cY, .int .u32 cR, .bool false]) (by simp [results, Try.results40, go_sem, s0, s1, s2, s3, s4, s5, s6, s7]) rfl ⟨rfl, ?_⟩
  repeat (first | (with_reducible refine Below.setCell ?_ (by simp <;> omega) _))
  exact HK.out

set_option maxHeartbeats 1000000 in
theorem rset_d (cC cE cB cT cP cY cR : Nat) (cV : Bool) (s : Nat) (ex : Bool) (e b t lo hi x y : Nat) (w : World) (hcl : cC < 4294967296) (hs : s < 4294967296) (h : freeN cY cV = true) (c1 : x ≤ lo) (c2 : hi ≤ y)
    (HG : Hid (∀ W, Calls Try.prog 64 #[.agg #[.int .u32 cC, .int .u8 cE, .int .u16 cB, .int .u16 cT, .int .u16 cP, .int .u16 cY, .int .u32 cR, .bool cV]] W fun e' w' => e' = .returned (.tuple #[.int .u32 x, .int .u64 y]) ∧ Below W.heap.size W w'))
    (HR : Hid (∀ W, Calls Try.prog 63 #[.int .u32 cC, .int .u64 ((cC : Int) + s)] W fun e' w' => e' = .returned (.tuple #[.int .u32 lo, .int .u64 hi, .bool true]) ∧ ∃ m, w' = W.drewN m))
    (HE : Hid (∀ W, Calls Try.prog 62 #[.int .u32 cC, .int .u64 ((cC : Int) + s)] W fun e' w' => e' = .returned (.tuple #[.int .u8 e, .int .u16 b, .int .u16 t, .bool true, .bool true]) ∧ ∃ m, w' = W.drewN m)) :
    Calls Try.prog 40 #[.agg #[.int .u32 cC, .int .u8 cE, .int .u16 cB, .int .u16 cT, .int .u16 cP, .int .u16 cY, .int .u32 cR, .bool cV], .int .u32 s, .bool ex] w fun e' w' => e' = .returned (.agg #[.int .u32 cC, .int .u8 e, .int .u16 b, .int .u16 t, .int .u16 cP, .int .u16 cY, .int .u32 cR, .bool true]) ∧ Below w.heap.size w w' := by
  have hfr := fun W => rfree_any cC cE cB cT cP cY cR cV W
  rw [h] at hfr
  have HF := hide hfr
  clear hfr h
  have hq0 : Blk ((w.alloc (.cells #[.int .u32 cC, .int .u8 cE, .int .u16 cB, .int .u16 cT, .int .u16 cP, .int .u16 cY, .int .u32 cR, .bool cV] 25)).alloc (.cells #[.int .u32 0, .int .u8 0, .int .u16 0, .int .u16 0, .int .u16 0, .int .u16 0, .int .u32 0, .bool false] 25)) (w.heap.size) 25 #[.int .u32 cC, .int .u8 cE, .int .u16 cB, .int .u16 cT, .int .u16 cP, .int .u16 cY, .int .u32 cR, .bool cV] := by (repeat (first | (with_reducible exact Blk.new _ _ _) | (with_reducible refine Blk.drewN ?_ _) | (with_reducible refine Blk.drew ?_) | ((with_reducible refine Blk.newAt ?_ _ _); (simp; done)) | (with_reducible refine Blk.far ?_ (by first | (simp; done) | (simp; omega)) _) | (with_reducible refine Blk.alloc ?_ _)))
  have hq1 : Blk ((w.alloc (.cells #[.int .u32 cC, .int .u8 cE, .int .u16 cB, .int .u16 cT, .int .u16 cP, .int .u16 cY, .int .u32 cR, .bool cV] 25)).alloc (.cells #[.int .u32 0, .int .u8 0, .int .u16 0, .int .u16 0, .int .u16 0, .int .u16 0, .int .u32 0, .bool false] 25)) (w.heap.size + 1) 25 #[.int .u32 0, .int .u8 0, .int .u16 0, .int .u16 0, .int .u16 0, .int .u16 0, .int .u32 0, .bool false] := by (repeat (first | (with_reducible exact Blk.new _ _ _) | (with_reducible refine Blk.drewN ?_ _) | (with_reducible refine Blk.drew ?_) | ((with_reducible refine Blk.newAt ?_ _ _); (simp; done)) | (with_reducible refine Blk.far ?_ (by first | (simp; done) | (simp; omega)) _) | (with_reducible refine Blk.alloc ?_ _)))
  have kb : Below w.heap.size w ((w.alloc (.cells #[.int .u32 cC, .int .u8 cE, .int .u16 cB, .int .u16 cT, .int .u16 cP, .int .u16 cY, .int .u32 cR, .bool cV] 25)).alloc (.cells #[.int .u32 0, .int .u8 0, .int .u16 0, .int .u16 0, .int .u16 0, .int .u16 0, .int .u32 0, .bool false] 25)) := by (repeat (first | (with_reducible exact Below.refl _ _) | (with_reducible refine Below.drew ?_) | (with_reducible refine below_drewN ?_ _) | (with_reducible refine Below.alloc ?_ (by simp <;> omega) _) | (with_reducible refine Below.setCell ?_ (by simp <;> omega) _)))
  have hsz : ((w.alloc (.cells #[.int .u32 cC, .int .u8 cE, .int .u16 cB, .int .u16 cT, .int .u16 cP, .int .u16 cY, .int .u32 cR, .bool cV] 25)).alloc (.cells #[.int .u32 0, .int .u8 0, .int .u16 0, .int .u16 0, .int .u16 0, .int .u16 0, .int .u32 0, .bool false] 25)).heap.size = w.heap.size + 1 + 1 := by simp
  go_enter Try.func40, Try.ntmps40
  go_wp2_with fail
  refine (HE.out _).mono ?_
  rintro e' w1 ⟨rfl, m1, rfl⟩
  go_wp2_with fail
  refine (HR.out _).mono ?_
  rintro e' w2 ⟨rfl, m2, rfl⟩
  go_wp2_with fail
  refine (HG.out _).mono ?_
  rintro e' w3 ⟨rfl, hb3⟩
  have hq0 := (hq0.drewN _).below hb3 (by show w.heap.size < (World.alloc _ _).heap.size; simp; omega)
  have hq1 := (hq1.drewN _).below hb3 (by show w.heap.size + 1 < (World.alloc _ _).heap.size; simp)
  have kb := (below_drewN kb _).trans (hb3.mono kb.size)
  have hsz3 : w.heap.size + 1 + 1 ≤ w3.heap.size := by have := hb3.size; simp at this; omega
  clear hb3
  have p0 := hq0.cell 0
  have pz0 := hq0.frozen 0
  have p1 := hq0.cell 1
  have pz1 := hq0.frozen 1
  have p2 := hq0.cell 2
  have pz2 := hq0.frozen 2
  have p3 := hq0.cell 3
  have pz3 := hq0.frozen 3
  have p4 := hq0.cell 4
  have pz4 := hq0.frozen 4
  have p5 := hq0.cell 5
  have pz5 := hq0.frozen 5
  have p6 := hq0.cell 6
  have pz6 := hq0.frozen 6
  have p7 := hq0.cell 7
  have pz7 := hq0.frozen 7
  simp at p0 p1 p2 p3 p4 p5 p6 p7
  have s0 := hq1.cell 0
  have sz0 := hq1.frozen 0
  have s1 := hq1.cell 1
  have sz1 := hq1.frozen 1
  have s2 := hq1.cell 2
  have sz2 := hq1.frozen 2
  have s3 := hq1.cell 3
  have sz3 := hq1.frozen 3
  have s4 := hq1.cell 4
  have sz4 := hq1.frozen 4
  have s5 := hq1.cell 5
  have sz5 := hq1.frozen 5
  have s6 := hq1.cell 6
  have sz6 := hq1.frozen 6
  have s7 := hq1.cell 7
  have sz7 := hq1.frozen 7
  simp at s0 s1 s2 s3 s4 s5 s6 s7
  have HK := hide kb
  have H0 := hide hq0
  have H1 := hide hq1
  clear kb hq0 hq1
  go_wp2_with fail
  have kb := HK.out
  have hq0 := H0.out
  have hq1 := H1.out
  clear HK H0 H1
  refine (HF.out _).mono ?_
  rintro e w4 ⟨rfl, hb4⟩
  have hq0 := hq0.below hb4 (by first | omega | (simp; done) | (simp; omega))
  have hq1 := hq1.below hb4 (by first | omega | (simp; done) | (simp; omega))
  have kb := kb.trans (hb4.mono kb.size)
  have hsz4 : w.heap.size + 1 + 1 ≤ w4.heap.size := by have := hb4.size; omega
  clear hb4
  clear p0 pz0 p1 pz1 p2 pz2 p3 pz3 p4 pz4 p5 pz5 p6 pz6 p7 pz7 s0 sz0 s1 sz1 s2 sz2 s3 sz3 s4 sz4 s5 sz5 s6 sz6 s7 sz7
  have p0 := hq0.cell 0
  have pz0 := hq0.frozen 0
  have p1 := hq0.cell 1
  have pz1 := hq0.frozen 1
  have p2 := hq0.cell 2
  have pz2 := hq0.frozen 2
  have p3 := hq0.cell 3
  have pz3 := hq0.frozen 3
  have p4 := hq0.cell 4
  have pz4 := hq0.frozen 4
  have p5 := hq0.cell 5
  have pz5 := hq0.frozen 5
  have p6 := hq0.cell 6
  have pz6 := hq0.frozen 6
  have p7 := hq0.cell 7
  have pz7 := hq0.frozen 7
  simp at p0 p1 p2 p3 p4 p5 p6 p7
  have s0 := hq1.cell 0
  have sz0 := hq1.frozen 0
  have s1 := hq1.cell 1
  have sz1 := hq1.frozen 1
  have s2 := hq1.cell 2
  have sz2 := hq1.frozen 2
  have s3 := hq1.cell 3
  have sz3 := hq1.frozen 3
  have s4 := hq1.cell 4
  have sz4 := hq1.frozen 4
  have s5 := hq1.cell 5
  have sz5 := hq1.frozen 5
  have s6 := hq1.cell 6
  have sz6 := hq1.frozen 6
  have s7 := hq1.cell 7
  have sz7 := hq1.frozen 7
  simp at s0 s1 s2 s3 s4 s5 s6 s7
  have HK := hide kb
  have H0 := hide hq0
  have H1 := hide hq1
  clear kb hq0 hq1
  go_wp2_with fail
  refine (with_any cC e b t cP cY cR cV true _).mono ?_
  rintro e w5 ⟨rfl, hb5⟩
  have hq1 : Blk w5 (w.heap.size + 1) 25 #[.int .u32 0, .int .u8 0, .int .u16 0, .int .u16 0, .int .u16 0, .int .u16 0, .int .u32 0, .bool false] := Blk.below (by repeat (first | exact H1.out | (with_reducible refine Blk.far ?_ (by first | (simp; done) | (simp; omega)) _))) hb5 (by first | omega | (simp; omega))
  have kb : Below w.heap.size w w5 := Below.trans (by repeat (first | exact HK.out | (with_reducible refine Below.setCell ?_ (by simp <;> omega) _))) (hb5.mono (by simp; have := HK.out.size; omega))
  clear hb5 HK
  clear p0 pz0 p1 pz1 p2 pz2 p3 pz3 p4 pz4 p5 pz5 p6 pz6 p7 pz7 s0 sz0 s1 sz1 s2 sz2 s3 sz3 s4 sz4 s5 sz5 s6 sz6 s7 sz7
  have s0 := hq1.cell 0
  have sz0 := hq1.frozen 0
  have s1 := hq1.cell 1
  have sz1 := hq1.frozen 1
  have s2 := hq1.cell 2
  have sz2 := hq1.frozen 2
  have s3 := hq1.cell 3
  have sz3 := hq1.frozen 3
  have s4 := hq1.cell 4
  have sz4 := hq1.frozen 4
  have s5 := hq1.cell 5
  have sz5 := hq1.frozen 5
  have s6 := hq1.cell 6
  have sz6 := hq1.frozen 6
  have s7 := hq1.cell 7
  have sz7 := hq1.frozen 7
  simp at s0 s1 s2 s3 s4 s5 s6 s7
  have HK := hide kb
  clear kb hq1
  go_wp2
  refine bodyPost_ret (v := .agg #[.int .u32 cC, .int .u8 e, .int .u16 b, .int .u16 t, .int .u16 cP, .int .u16 cY, .int .u32 cR, .bool true]) (by simp [results, Try.results40, go_sem, s0, s1, s2, s3, s4, s5, s6, s7]) rfl ⟨rfl, ?_⟩
  repeat (first | (with_reducible refine Below.setCell ?_ (by simp <;> omega) _))
  exact HK.out

set_option maxHeartbeats 1000000 in
theorem rset_e (cC cE cB cT cP cY cR : Nat) (cV : Bool) (s : Nat) (ex : Bool) (e b t lo hi x y : Nat) (w : World) (hcl : cC < 4294967296) (hs : s < 4294967296) (h : freeN cY cV = true) (c1 : x ≤ lo) (c2 : hi ≤ y)
    (HG : Hid (∀ W, Calls Try.prog 64 #[.agg #[.int .u32 cC, .int .u8 cE, .int .u16 cB, .int .u16 cT, .int .u16 cP, .int .u16 cY, .int .u32 cR, .bool cV]] W fun e' w' => e' = .returned (.tuple #[.int .u32 x, .int .u64 y]) ∧ Below W.heap.size W w'))
    (HR : Hid (∀ W, Calls Try.prog 63 #[.int .u32 cC, .int .u64 ((cC : Int) + s)] W fun e' w' => e' = .returned (.tuple #[.int .u32 lo, .int .u64 hi, .bool true]) ∧ ∃ m, w' = W.drewN m))
    (HE : Hid (∀ W, Calls Try.prog 62 #[.int .u32 cC, .int .u64 ((cC : Int) + s)] W fun e' w' => e' = .returned (.tuple #[.int .u8 e, .int .u16 b, .int .u16 t, .bool false, .bool true]) ∧ ∃ m, w' = W.drewN m)) :
    Calls Try.prog 40 #[.agg #[.int .u32 cC, .int .u8 cE, .int .u16 cB, .int .u16 cT, .int .u16 cP, .int .u16 cY, .int .u32 cR, .bool cV], .int .u32 s, .bool ex] w fun e' w' => e' = .returned (.agg #[.int .u32 cC, .int .u8 e, .int .u16 b, .int .u16 t, .int .u16 cP, .int .u16 cY, .int .u32 cR, .bool (!ex)]) ∧ Below w.heap.size w w' := by
  have hfr := fun W => rfree_any cC cE cB cT cP cY cR cV W
  rw [h] at hfr
  have HF := hide hfr
  clear hfr h
  have hq0 : Blk ((w.alloc (.cells #[.int .u32 cC, .int .u8 cE, .int .u16 cB, .int .u16 cT, .int .u16 cP, .int .u16 cY, .int .u32 cR, .bool cV] 25)).alloc (.cells #[.int .u32 0, .int .u8 0, .int .u16 0, .int .u16 0, .int .u16 0, .int .u16 0, .int .u32 0, .bool false] 25)) (w.heap.size) 25 #[.int .u32 cC, .int .u8 cE, .int .u16 cB, .int .u16 cT, .int .u16 cP, .int .u16 cY, .int .u32 cR, .bool cV] := by (repeat (first | (with_reducible exact Blk.new _ _ _) | (with_reducible refine Blk.drewN ?_ _) | (with_reducible refine Blk.drew ?_) | ((with_reducible refine Blk.newAt ?_ _ _); (simp; done)) | (with_reducible refine Blk.far ?_ (by first | (simp; done) | (simp; omega)) _) | (with_reducible refine Blk.alloc ?_ _)))
  have hq1 : Blk ((w.alloc (.cells #[.int .u32 cC, .int .u8 cE, .int .u16 cB, .int .u16 cT, .int .u16 cP, .int .u16 cY, .int .u32 cR, .bool cV] 25)).alloc (.cells #[.int .u32 0, .int .u8 0, .int .u16 0, .int .u16 0, .int .u16 0, .int .u16 0, .int .u32 0, .bool false] 25)) (w.heap.size + 1) 25 #[.int .u32 0, .int .u8 0, .int .u16 0, .int .u16 0, .int .u16 0, .int .u16 0, .int .u32 0, .bool false] := by (repeat (first | (with_reducible exact Blk.new _ _ _) | (with_reducible refine Blk.drewN ?_ _) | (with_reducible refine Blk.drew ?_) | ((with_reducible refine Blk.newAt ?_ _ _); (simp; done)) | (with_reducible refine Blk.far ?_ (by first | (simp; done) | (simp; omega)) _) | (with_reducible refine Blk.alloc ?_ _)))
  have kb : Below w.heap.size w ((w.alloc (.cells #[.int .u32 cC, .int .u8 cE, .int .u16 cB, .int .u16 cT, .int .u16 cP, .int .u16 cY, .int .u32 cR, .bool cV] 25)).alloc (.cells #[.int .u32 0, .int .u8 0, .int .u16 0, .int .u16 0, .int .u16 0, .int .u16 0, .int .u32 0, .bool false] 25)) := by (repeat (first | (with_reducible exact Below.refl _ _) | (with_reducible refine Below.drew ?_) | (with_reducible refine below_drewN ?_ _) | (with_reducible refine Below.alloc ?_ (by simp <;> omega) _) | (with_reducible refine Below.setCell ?_ (by simp <;> omega) _)))
  have hsz : ((w.alloc (.cells #[.int .u32 cC, .int .u8 cE, .int .u16 cB, .int .u16 cT, .int .u16 cP, .int .u16 cY, .int .u32 cR, .bool cV] 25)).alloc (.cells #[.int .u32 0, .int .u8 0, .int .u16 0, .int .u16 0, .int .u16 0, .int .u16 0, .int .u32 0, .bool false] 25)).heap.size = w.heap.size + 1 + 1 := by simp
  go_enter Try.func40, Try.ntmps40
  go_wp2_with fail
  refine (HE.out _).mono ?_
  rintro e' w1 ⟨rfl, m1, rfl⟩
  go_wp2_with fail
  refine (HR.out _).mono ?_
  rintro e' w2 ⟨rfl, m2, rfl⟩
  go_wp2_with fail
  refine (HG.out _).mono ?_
  rintro e' w3 ⟨rfl, hb3⟩
  have hq0 := (hq0.drewN _).below hb3 (by show w.heap.size < (World.alloc _ _).heap.size; simp; omega)
  have hq1 := (hq1.drewN _).below hb3 (by show w.heap.size + 1 < (World.alloc _ _).heap.size; simp)
  have kb := (below_drewN kb _).trans (hb3.mono kb.size)
  have hsz3 : w.heap.size + 1 + 1 ≤ w3.heap.size := by have := hb3.size; simp at this; omega
  clear hb3
  have p0 := hq0.cell 0
  have pz0 := hq0.frozen 0
  have p1 := hq0.cell 1
  have pz1 := hq0.frozen 1
  have p2 := hq0.cell 2
  have pz2 := hq0.frozen 2
  have p3 := hq0.cell 3
  have pz3 := hq0.frozen 3
  have p4 := hq0.cell 4
  have pz4 := hq0.frozen 4
  have p5 := hq0.cell 5
  have pz5 := hq0.frozen 5
  have p6 := hq0.cell 6
  have pz6 := hq0.frozen 6
  have p7 := hq0.cell 7
  have pz7 := hq0.frozen 7
  simp at p0 p1 p2 p3 p4 p5 p6 p7
  have s0 := hq1.cell 0
  have sz0 := hq1.frozen 0
  have s1 := hq1.cell 1
  have sz1 := hq1.frozen 1
  have s2 := hq1.cell 2
  have sz2 := hq1.frozen 2
  have s3 := hq1.cell 3
  have sz3 := hq1.frozen 3
  have s4 := hq1.cell 4
  have sz4 := hq1.frozen 4
  have s5 := hq1.cell 5
  have sz5 := hq1.frozen 5
  have s6 := hq1.cell 6
  have sz6 := hq1.frozen 6
  have s7 := hq1.cell 7
  have sz7 := hq1.frozen 7
  simp at s0 s1 s2 s3 s4 s5 s6 s7
  have HK := hide kb
  have H0 := hide hq0
  have H1 := hide hq1
  clear kb hq0 hq1
  go_wp2_with fail
  have kb := HK.out
  have hq0 := H0.out
  have hq1 := H1.out
  clear HK H0 H1
  refine (HF.out _).mono ?_
  rintro e w4 ⟨rfl, hb4⟩
  have hq0 := hq0.below hb4 (by first | omega | (simp; done) | (simp; omega))
  have hq1 := hq1.below hb4 (by first | omega | (simp; done) | (simp; omega))
  have kb := kb.trans (hb4.mono kb.size)
  have hsz4 : w.heap.size + 1 + 1 ≤ w4.heap.size := by have := hb4.size; omega
  clear hb4
  clear p0 pz0 p1 pz1 p2 pz2 p3 pz3 p4 pz4 p5 pz5 p6 pz6 p7 pz7 s0 sz0 s1 sz1 s2 sz2 s3 sz3 s4 sz4 s5 sz5 s6 sz6 s7 sz7
  have p0 := hq0.cell 0
  have pz0 := hq0.frozen 0
  have p1 := hq0.cell 1
  have pz1 := hq0.frozen 1
  have p2 := hq0.cell 2
  have pz2 := hq0.frozen 2
  have p3 := hq0.cell 3
  have pz3 := hq0.frozen 3
  have p4 := hq0.cell 4
  have pz4 := hq0.frozen 4
  have p5 := hq0.cell 5
  have pz5 := hq0.frozen 5
  have p6 := hq0.cell 6
  have pz6 := hq0.frozen 6
  have p7 := hq0.cell 7
  have pz7 := hq0.frozen 7
  simp at p0 p1 p2 p3 p4 p5 p6 p7
  have s0 := hq1.cell 0
  have sz0 := hq1.frozen 0
  have s1 := hq1.cell 1
  have sz1 := hq1.frozen 1
  have s2 := hq1.cell 2
  have sz2 := hq1.frozen 2
  have s3 := hq1.cell 3
  have sz3 := hq1.frozen 3
  have s4 := hq1.cell 4
  have sz4 := hq1.frozen 4
  have s5 := hq1.cell 5
  have sz5 := hq1.frozen 5
  have s6 := hq1.cell 6
  have sz6 := hq1.frozen 6
  have s7 := hq1.cell 7
  have sz7 := hq1.frozen 7
  simp at s0 s1 s2 s3 s4 s5 s6 s7
  have HK := hide kb
  have H0 := hide hq0
  have H1 := hide hq1
  clear kb hq0 hq1
  go_wp2_with fail
  refine (with_any cC e b t cP cY cR cV (!ex) _).mono ?_
  rintro e w5 ⟨rfl, hb5⟩
  have hq1 : Blk w5 (w.heap.size + 1) 25 #[.int .u32 0, .int .u8 0, .int .u16 0, .int .u16 0, .int .u16 0, .int .u16 0, .int .u32 0, .bool false] := Blk.below (by repeat (first | exact H1.out | (with_reducible refine Blk.far ?_ (by first | (simp; done) | (simp; omega)) _))) hb5 (by first | omega | (simp; omega))
  have kb : Below w.heap.size w w5 := Below.trans (by repeat (first | exact HK.out | (with_reducible refine Below.setCell ?_ (by simp <;> omega) _))) (hb5.mono (by simp; have := HK.out.size; omega))
  clear hb5 HK
  clear p0 pz0 p1 pz1 p2 pz2 p3 pz3 p4 pz4 p5 pz5 p6 pz6 p7 pz7 s0 sz0 s1 sz1 s2 sz2 s3 sz3 s4 sz4 s5 sz5 s6 sz6 s7 sz7
  have s0 := hq1.cell 0
  have sz0 := hq1.frozen 0
  have s1 := hq1.cell 1
  have sz1 := hq1.frozen 1
  have s2 := hq1.cell 2
  have sz2 := hq1.frozen 2
  have s3 := hq1.cell 3
  have sz3 := hq1.frozen 3
  have s4 := hq1.cell 4
  have sz4 := hq1.frozen 4
  have s5 := hq1.cell 5
  have sz5 := hq1.frozen 5
  have s6 := hq1.cell 6
  have sz6 := hq1.frozen 6
  have s7 := hq1.cell 7
  have sz7 := hq1.frozen 7
  simp at s0 s1 s2 s3 s4 s5 s6 s7
  have HK := hide kb
  clear kb hq1
  go_wp2
  refine bodyPost_ret (v := .agg #[.int .u32 cC, .int .u8 e, .int .u16 b, .int .u16 t, .int .u16 cP, .int .u16 cY, .int .u32 cR, .bool (!ex)]) (by simp [results, Try.results40, go_sem, s0, s1, s2, s3, s4, s5, s6, s7]) rfl ⟨rfl, ?_⟩
  repeat (first | (with_reducible refine Below.setCell ?_ (by simp <;> omega) _))
  exact HK.out

theorem rset_not (cC cE cB cT cP cY cR : Nat) (cV : Bool) (s : Nat) (ex : Bool) (e b t : Nat) (X : Bool) (w : World) (hcl : cC < 4294967296) (hs : s < 4294967296)
    (HE : Hid (∀ W, Calls Try.prog 62 #[.int .u32 cC, .int .u64 ((cC : Int) + s)] W fun e' w' => e' = .returned (.tuple #[.int .u8 e, .int .u16 b, .int .u16 t, .bool X, .bool false]) ∧ ∃ m, w' = W.drewN m)) :
    Calls Try.prog 40 #[.agg #[.int .u32 cC, .int .u8 cE, .int .u16 cB, .int .u16 cT, .int .u16 cP, .int .u16 cY, .int .u32 cR, .bool cV], .int .u32 s, .bool ex] w fun e' w' => e' = .returned (.agg #[.int .u32 cC, .int .u8 cE, .int .u16 cB, .int .u16 cT, .int .u16 cP, .int .u16 cY, .int .u32 cR, .bool false]) ∧ Below w.heap.size w w' := by
  have hq0 : Blk ((w.alloc (.cells #[.int .u32 cC, .int .u8 cE, .int .u16 cB, .int .u16 cT, .int .u16 cP, .int .u16 cY, .int .u32 cR, .bool cV] 25)).alloc (.cells #[.int .u32 0, .int .u8 0, .int .u16 0, .int .u16 0, .int .u16 0, .int .u16 0, .int .u32 0, .bool false] 25)) (w.heap.size) 25 #[.int .u32 cC, .int .u8 cE, .int .u16 cB, .int .u16 cT, .int .u16 cP, .int .u16 cY, .int .u32 cR, .bool cV] := by (repeat (first | (with_reducible exact Blk.new _ _ _) | (with_reducible refine Blk.drewN ?_ _) | (with_reducible refine Blk.drew ?_) | ((with_reducible refine Blk.newAt ?_ _ _); (simp; done)) | (with_reducible refine Blk.far ?_ (by first | (simp; done) | (simp; omega)) _) | (with_reducible refine Blk.alloc ?_ _)))
  have hq1 : Blk ((w.alloc (.cells #[.int .u32 cC, .int .u8 cE, .int .u16 cB, .int .u16 cT, .int .u16 cP, .int .u16 cY, .int .u32 cR, .bool cV] 25)).alloc (.cells #[.int .u32 0, .int .u8 0, .int .u16 0, .int .u16 0, .int .u16 0, .int .u16 0, .int .u32 0, .bool false] 25)) (w.heap.size + 1) 25 #[.int .u32 0, .int .u8 0, .int .u16 0, .int .u16 0, .int .u16 0, .int .u16 0, .int .u32 0, .bool false] := by (repeat (first | (with_reducible exact Blk.new _ _ _) | (with_reducible refine Blk.drewN ?_ _) | (with_reducible refine Blk.drew ?_) | ((with_reducible refine Blk.newAt ?_ _ _); (simp; done)) | (with_reducible refine Blk.far ?_ (by first | (simp; done) | (simp; omega)) _) | (with_reducible refine Blk.alloc ?_ _)))
  have kb : Below w.heap.size w ((w.alloc (.cells #[.int .u32 cC, .int .u8 cE, .int .u16 cB, .int .u16 cT, .int .u16 cP, .int .u16 cY, .int .u32 cR, .bool cV] 25)).alloc (.cells #[.int .u32 0, .int .u8 0, .int .u16 0, .int .u16 0, .int .u16 0, .int .u16 0, .int .u32 0, .bool false] 25)) := by (repeat (first | (with_reducible exact Below.refl _ _) | (with_reducible refine Below.drew ?_) | (with_reducible refine below_drewN ?_ _) | (with_reducible refine Below.alloc ?_ (by simp <;> omega) _) | (with_reducible refine Below.setCell ?_ (by simp <;> omega) _)))
  have hsz : ((w.alloc (.cells #[.int .u32 cC, .int .u8 cE, .int .u16 cB, .int .u16 cT, .int .u16 cP, .int .u16 cY, .int .u32 cR, .bool cV] 25)).alloc (.cells #[.int .u32 0, .int .u8 0, .int .u16 0, .int .u16 0, .int .u16 0, .int .u16 0, .int .u32 0, .bool false] 25)).heap.size = w.heap.size + 1 + 1 := by simp
  go_enter Try.func40, Try.ntmps40
  go_wp2_with fail
  refine (HE.out _).mono ?_
  rintro e' w1 ⟨rfl, m1, rfl⟩
  go_wp2_with fail
  refine (with_z cC cE cB cT cP cY cR cV _).mono ?_
  rintro e w2 ⟨rfl, hb2⟩
  have hq1 := (hq1.drewN _).below hb2 (by show w.heap.size + 1 < (World.alloc _ _).heap.size; simp)
  have kb := (below_drewN kb _).trans (hb2.mono kb.size)
  clear hb2 hq0
  have s0 := hq1.cell 0
  have sz0 := hq1.frozen 0
  have s1 := hq1.cell 1
  have sz1 := hq1.frozen 1
  have s2 := hq1.cell 2
  have sz2 := hq1.frozen 2
  have s3 := hq1.cell 3
  have sz3 := hq1.frozen 3
  have s4 := hq1.cell 4
  have sz4 := hq1.frozen 4
  have s5 := hq1.cell 5
  have sz5 := hq1.frozen 5
  have s6 := hq1.cell 6
  have sz6 := hq1.frozen 6
  have s7 := hq1.cell 7
  have sz7 := hq1.frozen 7
  simp at s0 s1 s2 s3 s4 s5 s6 s7
  have HK := hide kb
  clear kb hq1
  go_wp2
  refine bodyPost_ret (v := .agg #[.int .u32 cC, .int .u8 cE, .int .u16 cB, .int .u16 cT, .int .u16 cP, .int .u16 cY, .int .u32 cR, .bool false]) (by simp [results, Try.results40, go_sem, s0, s1, s2, s3, s4, s5, s6, s7]) rfl ⟨rfl, ?_⟩
  repeat (first | (with_reducible refine Below.setCell ?_ (by simp <;> omega) _))
  exact HK.out

theorem rsetin_y (cC cE cB cT cP cY cR : Nat) (cV : Bool) (s : Nat) (ex : Bool) (x y : Nat) (w : World) (cl : capB cC cE cB cT cP cY cR) (hs : s < 4294967296) (hx : (decN cE cB cT cC).1 = x) (hy : (decN cE cB cT cC).2 = y) (hr : rightN cC (cC + s) = true) :
    Calls Try.prog 40 #[.agg #[.int .u32 cC, .int .u8 cE, .int .u16 cB, .int .u16 cT, .int .u16 cP, .int .u16 cY, .int .u32 cR, .bool cV], .int .u32 s, .bool ex] w fun e' w' => e' = .returned (.agg #[.int .u32 cC, .int .u8 (encE cC (cC + s)), .int .u16 (encB cC (cC + s)), .int .u16 (encT cC (cC + s)), .int .u16 cP, .int .u16 cY, .int .u32 cR, .bool (setV cC cY cV s ex x y)]) ∧ Below w.heap.size w w' := by
  have hr2 := (rightN_true hr).2
  have hG := fun W => rrange_is cC cE cB cT cP cY cR cV x y W cl hx hy
  have hE := fun W => rencode_any cC (cC + s) W cl.1 (by omega)
  have hR := fun W => rround_any cC (cC + s) W cl.1 (by omega)
  rw [hr, show ((cC + s : Nat) : Int) = (cC : Int) + s by omega] at hE
  rw [hr, if_pos rfl, if_pos rfl, show ((cC + s : Nat) : Int) = (cC : Int) + s by omega] at hR
  unfold setV inR
  generalize encE cC (cC + s) = e at *
  generalize encB cC (cC + s) = b at *
  generalize encT cC (cC + s) = t at *
  generalize dnN cC (expoN cC (cC + s)) = lo at *
  generalize upN (cC + s) (expoN cC (cC + s)) = hi at *
  generalize encX cC (cC + s) = X at *
  by_cases h : freeN cY cV = true
  · rw [h]
    by_cases c1 : x ≤ lo
    · by_cases c2 : hi ≤ y
      · rw [decide_eq_true c1, decide_eq_true c2]
        cases X with
        | true => simpa using rset_d cC cE cB cT cP cY cR cV s ex e b t lo hi x y w cl.1 hs h c1 c2 hG hR hE
        | false => simpa using rset_e cC cE cB cT cP cY cR cV s ex e b t lo hi x y w cl.1 hs h c1 c2 hG hR hE
      · have d2 : decide (hi ≤ y) = false := by simpa using c2
        rw [d2, Bool.and_false, Bool.and_false]
        exact rset_c cC cE cB cT cP cY cR cV s ex e b t lo hi x y X w cl.1 hs h c1 d2 hG hR hE
    · have d1 : decide (x ≤ lo) = false := by simpa using c1
      rw [d1, Bool.false_and, Bool.and_false]
      exact rset_b cC cE cB cT cP cY cR cV s ex e b t lo hi x y X w cl.1 hs h d1 hG hR hE
  · have h' : freeN cY cV = false := by simpa using h
    rw [h', Bool.false_and, Bool.false_and]
    exact rset_a cC cE cB cT cP cY cR cV s ex e b t lo hi x y X w cl.1 hs h' hG hR hE
theorem rsetin_n (cC cE cB cT cP cY cR : Nat) (cV : Bool) (s : Nat) (ex : Bool) (w : World) (cl : capB cC cE cB cT cP cY cR) (hs : s < 4294967296) (hr : rightN cC (cC + s) = false) :
    Calls Try.prog 40 #[.agg #[.int .u32 cC, .int .u8 cE, .int .u16 cB, .int .u16 cT, .int .u16 cP, .int .u16 cY, .int .u32 cR, .bool cV], .int .u32 s, .bool ex] w fun e' w' => e' = .returned (.agg #[.int .u32 cC, .int .u8 cE, .int .u16 cB, .int .u16 cT, .int .u16 cP, .int .u16 cY, .int .u32 cR, .bool false]) ∧ Below w.heap.size w w' := by
  refine rset_not cC cE cB cT cP cY cR cV s ex (encE cC (cC + s)) (encB cC (cC + s)) (encT cC (cC + s)) (encX cC (cC + s)) w cl.1 hs (fun W => ?_)
  have := rencode_any cC (cC + s) W cl.1 (by have := cl.1; omega)
  rw [hr, show ((cC + s : Nat) : Int) = (cC : Int) + s by omega] at this
  exact this

theorem rset_vw (cC cE cB cT cP cY cR : Nat) (cV : Bool) (s : Nat) (e b t cP' cY' cR' z : Nat) (k : Bool) (w : World)
    (HS : Hid (∀ W, Calls Try.prog 40 #[.agg #[.int .u32 cC, .int .u8 cE, .int .u16 cB, .int .u16 cT, .int .u16 cP, .int .u16 cY, .int .u32 cR, .bool cV], .int .u32 s, .bool false] W fun e' w' => e' = .returned (.agg #[.int .u32 z, .int .u8 e, .int .u16 b, .int .u16 t, .int .u16 cP', .int .u16 cY', .int .u32 cR', .bool k]) ∧ Below W.heap.size W w')) :
    Calls Try.prog 16 #[.agg #[.int .u32 cC, .int .u8 cE, .int .u16 cB, .int .u16 cT, .int .u16 cP, .int .u16 cY, .int .u32 cR, .bool cV], .int .u32 s] w fun e' w' => e' = .returned (.agg #[.int .u32 z, .int .u8 e, .int .u16 b, .int .u16 t, .int .u16 cP', .int .u16 cY', .int .u32 cR', .bool k]) ∧ Below w.heap.size w w' := by
  go_enter Try.func16, Try.ntmps16
  go_wp2_with fail
  refine (HS.out _).mono ?_
  rintro e' w2 ⟨rfl, hb2⟩
  have hq2 : Blk w2 (w.heap.size + 1) 25 #[.int .u32 0, .int .u8 0, .int .u16 0, .int .u16 0, .int .u16 0, .int .u16 0, .int .u32 0, .bool false] := Blk.below (by (repeat (first | (with_reducible exact Blk.new _ _ _) | (with_reducible refine Blk.drewN ?_ _) | (with_reducible refine Blk.drew ?_) | ((with_reducible refine Blk.newAt ?_ _ _); (simp; done)) | (with_reducible refine Blk.far ?_ (by first | (simp; done) | (simp; omega)) _) | (with_reducible refine Blk.alloc ?_ _)))) hb2 (by first | (simp; done) | (simp; omega))
  have kb : Below w.heap.size w w2 := Below.trans (by (repeat (first | (with_reducible exact Below.refl _ _) | (with_reducible refine Below.drew ?_) | (with_reducible refine below_drewN ?_ _) | (with_reducible refine Below.alloc ?_ (by simp <;> omega) _) | (with_reducible refine Below.setCell ?_ (by simp <;> omega) _)))) (hb2.mono (by first | (simp; done) | (simp; omega)))
  clear hb2
  have r0 := hq2.cell 0
  have rz0 := hq2.frozen 0
  have r1 := hq2.cell 1
  have rz1 := hq2.frozen 1
  have r2 := hq2.cell 2
  have rz2 := hq2.frozen 2
  have r3 := hq2.cell 3
  have rz3 := hq2.frozen 3
  have r4 := hq2.cell 4
  have rz4 := hq2.frozen 4
  have r5 := hq2.cell 5
  have rz5 := hq2.frozen 5
  have r6 := hq2.cell 6
  have rz6 := hq2.frozen 6
  have r7 := hq2.cell 7
  have rz7 := hq2.frozen 7
  simp at r0 r1 r2 r3 r4 r5 r6 r7
  have HK := hide kb
  clear kb hq2
  go_wp2
  refine bodyPost_ret (v := .agg #[.int .u32 z, .int .u8 e, .int .u16 b, .int .u16 t, .int .u16 cP', .int .u16 cY', .int .u32 cR', .bool k]) (by simp [results, Try.results16, go_sem, r0, r1, r2, r3, r4, r5, r6, r7]) rfl ⟨rfl, ?_⟩
  repeat (first | (with_reducible refine Below.setCell ?_ (by simp <;> omega) _))
  exact HK.out
theorem rset_vy (cC cE cB cT cP cY cR : Nat) (cV : Bool) (s x y : Nat) (w : World) (cl : capB cC cE cB cT cP cY cR) (hs : s < 4294967296) (hx : (decN cE cB cT cC).1 = x) (hy : (decN cE cB cT cC).2 = y) (hr : rightN cC (cC + s) = true) :
    Calls Try.prog 16 #[.agg #[.int .u32 cC, .int .u8 cE, .int .u16 cB, .int .u16 cT, .int .u16 cP, .int .u16 cY, .int .u32 cR, .bool cV], .int .u32 s] w fun e' w' => e' = .returned (.agg #[.int .u32 cC, .int .u8 (encE cC (cC + s)), .int .u16 (encB cC (cC + s)), .int .u16 (encT cC (cC + s)), .int .u16 cP, .int .u16 cY, .int .u32 cR, .bool (setV cC cY cV s false x y)]) ∧ Below w.heap.size w w' :=
  rset_vw cC cE cB cT cP cY cR cV s _ _ _ _ _ _ _ _ w (fun W => rsetin_y cC cE cB cT cP cY cR cV s false x y W cl hs hx hy hr)
theorem rset_vn (cC cE cB cT cP cY cR : Nat) (cV : Bool) (s : Nat) (w : World) (cl : capB cC cE cB cT cP cY cR) (hs : s < 4294967296) (hr : rightN cC (cC + s) = false) :
    Calls Try.prog 16 #[.agg #[.int .u32 cC, .int .u8 cE, .int .u16 cB, .int .u16 cT, .int .u16 cP, .int .u16 cY, .int .u32 cR, .bool cV], .int .u32 s] w fun e' w' => e' = .returned (.agg #[.int .u32 cC, .int .u8 cE, .int .u16 cB, .int .u16 cT, .int .u16 cP, .int .u16 cY, .int .u32 cR, .bool false]) ∧ Below w.heap.size w w' :=
  rset_vw cC cE cB cT cP cY cR cV s _ _ _ _ _ _ _ _ w (fun W => rsetin_n cC cE cB cT cP cY cR cV s false W cl hs hr)

theorem rexact_w (cC cE cB cT cP cY cR : Nat) (cV : Bool) (s : Nat) (e b t cP' cY' cR' z : Nat) (k : Bool) (w : World)
    (HS : Hid (∀ W, Calls Try.prog 40 #[.agg #[.int .u32 cC, .int .u8 cE, .int .u16 cB, .int .u16 cT, .int .u16 cP, .int .u16 cY, .int .u32 cR, .bool cV], .int .u32 s, .bool true] W fun e' w' => e' = .returned (.agg #[.int .u32 z, .int .u8 e, .int .u16 b, .int .u16 t, .int .u16 cP', .int .u16 cY', .int .u32 cR', .bool k]) ∧ Below W.heap.size W w')) :
    Calls Try.prog 19 #[.agg #[.int .u32 cC, .int .u8 cE, .int .u16 cB, .int .u16 cT, .int .u16 cP, .int .u16 cY, .int .u32 cR, .bool cV], .int .u32 s] w fun e' w' => e' = .returned (.agg #[.int .u32 z, .int .u8 e, .int .u16 b, .int .u16 t, .int .u16 cP', .int .u16 cY', .int .u32 cR', .bool k]) ∧ Below w.heap.size w w' := by
  go_enter Try.func19, Try.ntmps19
  go_wp2_with fail
  refine (HS.out _).mono ?_
  rintro e' w2 ⟨rfl, hb2⟩
  have hq2 : Blk w2 (w.heap.size + 1) 25 #[.int .u32 0, .int .u8 0, .int .u16 0, .int .u16 0, .int .u16 0, .int .u16 0, .int .u32 0, .bool false] := Blk.below (by (repeat (first | (with_reducible exact Blk.new _ _ _) | (with_reducible refine Blk.drewN ?_ _) | (with_reducible refine Blk.drew ?_) | ((with_reducible refine Blk.newAt ?_ _ _); (simp; done)) | (with_reducible refine Blk.far ?_ (by first | (simp; done) | (simp; omega)) _) | (with_reducible refine Blk.alloc ?_ _)))) hb2 (by first | (simp; done) | (simp; omega))
  have kb : Below w.heap.size w w2 := Below.trans (by (repeat (first | (with_reducible exact Below.refl _ _) | (with_reducible refine Below.drew ?_) | (with_reducible refine below_drewN ?_ _) | (with_reducible refine Below.alloc ?_ (by simp <;> omega) _) | (with_reducible refine Below.setCell ?_ (by simp <;> omega) _)))) (hb2.mono (by first | (simp; done) | (simp; omega)))
  clear hb2
  have r0 := hq2.cell 0
  have rz0 := hq2.frozen 0
  have r1 := hq2.cell 1
  have rz1 := hq2.frozen 1
  have r2 := hq2.cell 2
  have rz2 := hq2.frozen 2
  have r3 := hq2.cell 3
  have rz3 := hq2.frozen 3
  have r4 := hq2.cell 4
  have rz4 := hq2.frozen 4
  have r5 := hq2.cell 5
  have rz5 := hq2.frozen 5
  have r6 := hq2.cell 6
  have rz6 := hq2.frozen 6
  have r7 := hq2.cell 7
  have rz7 := hq2.frozen 7
  simp at r0 r1 r2 r3 r4 r5 r6 r7
  have HK := hide kb
  clear kb hq2
  go_wp2
  refine bodyPost_ret (v := .agg #[.int .u32 z, .int .u8 e, .int .u16 b, .int .u16 t, .int .u16 cP', .int .u16 cY', .int .u32 cR', .bool k]) (by simp [results, Try.results19, go_sem, r0, r1, r2, r3, r4, r5, r6, r7]) rfl ⟨rfl, ?_⟩
  repeat (first | (with_reducible refine Below.setCell ?_ (by simp <;> omega) _))
  exact HK.out
theorem rexact_y (cC cE cB cT cP cY cR : Nat) (cV : Bool) (s x y : Nat) (w : World) (cl : capB cC cE cB cT cP cY cR) (hs : s < 4294967296) (hx : (decN cE cB cT cC).1 = x) (hy : (decN cE cB cT cC).2 = y) (hr : rightN cC (cC + s) = true) :
    Calls Try.prog 19 #[.agg #[.int .u32 cC, .int .u8 cE, .int .u16 cB, .int .u16 cT, .int .u16 cP, .int .u16 cY, .int .u32 cR, .bool cV], .int .u32 s] w fun e' w' => e' = .returned (.agg #[.int .u32 cC, .int .u8 (encE cC (cC + s)), .int .u16 (encB cC (cC + s)), .int .u16 (encT cC (cC + s)), .int .u16 cP, .int .u16 cY, .int .u32 cR, .bool (setV cC cY cV s true x y)]) ∧ Below w.heap.size w w' :=
  rexact_w cC cE cB cT cP cY cR cV s _ _ _ _ _ _ _ _ w (fun W => rsetin_y cC cE cB cT cP cY cR cV s true x y W cl hs hx hy hr)
theorem rexact_n (cC cE cB cT cP cY cR : Nat) (cV : Bool) (s : Nat) (w : World) (cl : capB cC cE cB cT cP cY cR) (hs : s < 4294967296) (hr : rightN cC (cC + s) = false) :
    Calls Try.prog 19 #[.agg #[.int .u32 cC, .int .u8 cE, .int .u16 cB, .int .u16 cT, .int .u16 cP, .int .u16 cY, .int .u32 cR, .bool cV], .int .u32 s] w fun e' w' => e' = .returned (.agg #[.int .u32 cC, .int .u8 cE, .int .u16 cB, .int .u16 cT, .int .u16 cP, .int .u16 cY, .int .u32 cR, .bool false]) ∧ Below w.heap.size w w' :=
  rexact_w cC cE cB cT cP cY cR cV s _ _ _ _ _ _ _ _ w (fun W => rsetin_n cC cE cB cT cP cY cR cV s true W cl hs hr)
end Go.Proofs.Ytljchnfofjmleaa
