/-
  Walks of the document's answer for layer 5.
-/
import Derived.Test.YtljchnfofjmleaaDerF
namespace Go.Proofs.Ytljchnfofjmleaa
open Go.RowKit
attribute [local go_sem ↓] Go.wp_at_zero Go.wp_at_succ

theorem rfree_any (cC cE cB cT cP cY cR : Nat) (cV : Bool) (w : World) :
    Calls Try.prog 43 #[.agg #[.int .u32 cC, .int .u8 cE, .int .u16 cB, .int .u16 cT, .int .u16 cP, .int .u16 cY, .int .u32 cR, .bool cV]] w fun e w' => e = .returned (.bool (freeN cY cV)) ∧ Below w.heap.size w w' := by
  have hf : freeN cY cV = (cV && ((cY : Int) == 0)) := by
    unfold freeN
    rw [show decide (cY = 0) = ((cY : Int) == 0) by rw [Bool.eq_iff_iff]; simp]
  rw [hf]
  clear hf
  cases cV with
  | false =>
    rw [Bool.false_and]
    go_enter Try.func43, Try.ntmps43
    go_wp2
    go_ret
    exact ⟨rfl, by (repeat (first | (with_reducible exact Below.refl _ _) | (with_reducible refine Below.drew ?_) | (with_reducible refine below_drewN ?_ _) | (with_reducible refine Below.alloc ?_ (by simp <;> omega) _) | (with_reducible refine Below.setCell ?_ (by simp <;> omega) _)))⟩
  | true =>
    rw [Bool.true_and]
    go_enter Try.func43, Try.ntmps43
    go_wp2
    go_ret
    exact ⟨rfl, by (repeat (first | (with_reducible exact Below.refl _ _) | (with_reducible refine Below.drew ?_) | (with_reducible refine below_drewN ?_ _) | (with_reducible refine Below.alloc ?_ (by simp <;> omega) _) | (with_reducible refine Below.setCell ?_ (by simp <;> omega) _)))⟩
theorem with_any (cC cE cB cT cP cY cR : Nat) (cV k : Bool) (w : World) :
    Calls Try.prog 44 #[.agg #[.int .u32 cC, .int .u8 cE, .int .u16 cB, .int .u16 cT, .int .u16 cP, .int .u16 cY, .int .u32 cR, .bool cV], .bool k] w fun e w' => e = .returned (.agg #[.int .u32 cC, .int .u8 cE, .int .u16 cB, .int .u16 cT, .int .u16 cP, .int .u16 cY, .int .u32 cR, .bool k]) ∧ Below w.heap.size w w' := by
  go_enter Try.func44, Try.ntmps44
  go_wp2
  refine bodyPost_ret (v := .agg #[.int .u32 cC, .int .u8 cE, .int .u16 cB, .int .u16 cT, .int .u16 cP, .int .u16 cY, .int .u32 cR, .bool k]) (by simp [results, Try.results44, go_sem]) rfl ⟨rfl, ?_⟩
  (repeat (first | (with_reducible exact Below.refl _ _) | (with_reducible refine Below.drew ?_) | (with_reducible refine below_drewN ?_ _) | (with_reducible refine Below.alloc ?_ (by simp <;> omega) _) | (with_reducible refine Below.setCell ?_ (by simp <;> omega) _)))
theorem with_z (cC cE cB cT cP cY cR : Nat) (cV : Bool) (w : World) :
    Calls Try.prog 44 #[.agg #[.int .u32 cC, .int .u8 cE, .int .u16 cB, .int .u16 cT, .int .u16 cP, .int .u16 cY, .int .u32 cR, .bool cV], .bool false] w fun e w' => e = .returned (.agg #[.int .u32 cC, .int .u8 cE, .int .u16 cB, .int .u16 cT, .int .u16 cP, .int .u16 cY, .int .u32 cR, .bool false]) ∧ Below w.heap.size w w' := with_any cC cE cB cT cP cY cR cV false w

theorem rclear_any (cC cE cB cT cP cY cR : Nat) (cV : Bool) (w : World) :
    Calls Try.prog 23 #[.agg #[.int .u32 cC, .int .u8 cE, .int .u16 cB, .int .u16 cT, .int .u16 cP, .int .u16 cY, .int .u32 cR, .bool cV]] w fun e w' => e = .returned (.agg #[.int .u32 cC, .int .u8 cE, .int .u16 cB, .int .u16 cT, .int .u16 cP, .int .u16 cY, .int .u32 cR, .bool false]) ∧ Below w.heap.size w w' := by
  have hq0 : Blk ((w.alloc (.cells #[.int .u32 cC, .int .u8 cE, .int .u16 cB, .int .u16 cT, .int .u16 cP, .int .u16 cY, .int .u32 cR, .bool cV] 25)).alloc (.cells #[.int .u32 0, .int .u8 0, .int .u16 0, .int .u16 0, .int .u16 0, .int .u16 0, .int .u32 0, .bool false] 25)) (w.heap.size) 25 #[.int .u32 cC, .int .u8 cE, .int .u16 cB, .int .u16 cT, .int .u16 cP, .int .u16 cY, .int .u32 cR, .bool cV] := by (repeat (first | (with_reducible exact Blk.new _ _ _) | (with_reducible refine Blk.drewN ?_ _) | (with_reducible refine Blk.drew ?_) | ((with_reducible refine Blk.newAt ?_ _ _); (simp; done)) | (with_reducible refine Blk.far ?_ (by first | (simp; done) | (simp; omega)) _) | (with_reducible refine Blk.alloc ?_ _)))
  have hq1 : Blk ((w.alloc (.cells #[.int .u32 cC, .int .u8 cE, .int .u16 cB, .int .u16 cT, .int .u16 cP, .int .u16 cY, .int .u32 cR, .bool cV] 25)).alloc (.cells #[.int .u32 0, .int .u8 0, .int .u16 0, .int .u16 0, .int .u16 0, .int .u16 0, .int .u32 0, .bool false] 25)) (w.heap.size + 1) 25 #[.int .u32 0, .int .u8 0, .int .u16 0, .int .u16 0, .int .u16 0, .int .u16 0, .int .u32 0, .bool false] := by (repeat (first | (with_reducible exact Blk.new _ _ _) | (with_reducible refine Blk.drewN ?_ _) | (with_reducible refine Blk.drew ?_) | ((with_reducible refine Blk.newAt ?_ _ _); (simp; done)) | (with_reducible refine Blk.far ?_ (by first | (simp; done) | (simp; omega)) _) | (with_reducible refine Blk.alloc ?_ _)))
  have kb : Below w.heap.size w ((w.alloc (.cells #[.int .u32 cC, .int .u8 cE, .int .u16 cB, .int .u16 cT, .int .u16 cP, .int .u16 cY, .int .u32 cR, .bool cV] 25)).alloc (.cells #[.int .u32 0, .int .u8 0, .int .u16 0, .int .u16 0, .int .u16 0, .int .u16 0, .int .u32 0, .bool false] 25)) := by (repeat (first | (with_reducible exact Below.refl _ _) | (with_reducible refine Below.drew ?_) | (with_reducible refine below_drewN ?_ _) | (with_reducible refine Below.alloc ?_ (by simp <;> omega) _) | (with_reducible refine Below.setCell ?_ (by simp <;> omega) _)))
  have hsz : ((w.alloc (.cells #[.int .u32 cC, .int .u8 cE, .int .u16 cB, .int .u16 cT, .int .u16 cP, .int .u16 cY, .int .u32 cR, .bool cV] 25)).alloc (.cells #[.int .u32 0, .int .u8 0, .int .u16 0, .int .u16 0, .int .u16 0, .int .u16 0, .int .u32 0, .bool false] 25)).heap.size = w.heap.size + 1 + 1 := by simp
  go_enter Try.func23, Try.ntmps23
  go_wp2_with fail
  refine (with_z cC cE cB cT cP cY cR cV _).mono ?_
  rintro e w1 ⟨rfl, hb1⟩
  have hq0 := hq0.below hb1 (by first | omega | (simp; done) | (simp; omega))
  have hq1 := hq1.below hb1 (by first | omega | (simp; done) | (simp; omega))
  have kb := kb.trans (hb1.mono kb.size)
  have hsz1 : w.heap.size + 1 + 1 ≤ w1.heap.size := by have := hb1.size; omega
  clear hb1
  have p0 := hq0.cell 0
  have pz0 := hq0.frozen 0
  have p1 := hq0.cell 1
  have pz1 := hq0.frozen 1
  have p2 := hq0.cell 2
  have pz2 := hq0.frozen 2
  have p3 := hq0.cell 3
  have pz3 := hq0.frozen 3
  have p4 := hq0.cell 4
  have pz4 := hq0.frozen 4
  have p5 := hq0.cell 5
  have pz5 := hq0.frozen 5
  have p6 := hq0.cell 6
  have pz6 := hq0.frozen 6
  have p7 := hq0.cell 7
  have pz7 := hq0.frozen 7
  simp at p0 p1 p2 p3 p4 p5 p6 p7
  have s0 := hq1.cell 0
  have sz0 := hq1.frozen 0
  have s1 := hq1.cell 1
  have sz1 := hq1.frozen 1
  have s2 := hq1.cell 2
  have sz2 := hq1.frozen 2
  have s3 := hq1.cell 3
  have sz3 := hq1.frozen 3
  have s4 := hq1.cell 4
  have sz4 := hq1.frozen 4
  have s5 := hq1.cell 5
  have sz5 := hq1.frozen 5
  have s6 := hq1.cell 6
  have sz6 := hq1.frozen 6
  have s7 := hq1.cell 7
  have sz7 := hq1.frozen 7
  simp at s0 s1 s2 s3 s4 s5 s6 s7
  have HK := hide kb
  have H0 := hide hq0
  have H1 := hide hq1
  clear kb hq0 hq1
  go_wp2
  refine bodyPost_ret (v := .agg #[.int .u32 cC, .int .u8 cE, .int .u16 cB, .int .u16 cT, .int .u16 cP, .int .u16 cY, .int .u32 cR, .bool false]) (by simp [results, Try.results23, go_sem, s0, s1, s2, s3, s4, s5, s6, s7]) rfl ⟨rfl, ?_⟩
  repeat (first | (with_reducible refine Below.setCell ?_ (by simp <;> omega) _))
  exact HK.out

theorem rand_any (cC cE cB cT cP cY cR : Nat) (cV : Bool) (p : Nat) (w : World) (cl : capB cC cE cB cT cP cY cR) (hp : p < 4294967296) :
    Calls Try.prog 21 #[.agg #[.int .u32 cC, .int .u8 cE, .int .u16 cB, .int .u16 cT, .int .u16 cP, .int .u16 cY, .int .u32 cR, .bool cV], .int .u32 p] w fun e w' => e = .returned (.agg #[.int .u32 cC, .int .u8 cE, .int .u16 cB, .int .u16 cT, .int .u16 (cP &&& (p % 65536) : Nat), .int .u16 cY, .int .u32 cR, .bool (freeN cY cV)]) ∧ Below w.heap.size w w' := by
  have hx := u16_and_nat cP (p % 65536) cl.2.2.2.2.1 (by omega)
  obtain ⟨x, hxe⟩ : ∃ x, p % 65536 = x := ⟨_, rfl⟩
  have hx2 : (p : Int) % 65536 = x := by omega
  have hx3 : x < 65536 := by omega
  rw [hxe] at hx ⊢
  obtain ⟨y, hy⟩ : ∃ y, cP &&& x = y := ⟨_, rfl⟩
  rw [hy] at hx ⊢
  have hfr := fun W => rfree_any cC cE cB cT cP cY cR cV W
  obtain ⟨k, hk⟩ : ∃ k, freeN cY cV = k := ⟨_, rfl⟩
  rw [hk] at hfr ⊢
  have HF := hide hfr
  clear hxe hy hfr hk
  have hq0 : Blk ((w.alloc (.cells #[.int .u32 cC, .int .u8 cE, .int .u16 cB, .int .u16 cT, .int .u16 cP, .int .u16 cY, .int .u32 cR, .bool cV] 25)).alloc (.cells #[.int .u32 0, .int .u8 0, .int .u16 0, .int .u16 0, .int .u16 0, .int .u16 0, .int .u32 0, .bool false] 25)) (w.heap.size) 25 #[.int .u32 cC, .int .u8 cE, .int .u16 cB, .int .u16 cT, .int .u16 cP, .int .u16 cY, .int .u32 cR, .bool cV] := by (repeat (first | (with_reducible exact Blk.new _ _ _) | (with_reducible refine Blk.drewN ?_ _) | (with_reducible refine Blk.drew ?_) | ((with_reducible refine Blk.newAt ?_ _ _); (simp; done)) | (with_reducible refine Blk.far ?_ (by first | (simp; done) | (simp; omega)) _) | (with_reducible refine Blk.alloc ?_ _)))
  have hq1 : Blk ((w.alloc (.cells #[.int .u32 cC, .int .u8 cE, .int .u16 cB, .int .u16 cT, .int .u16 cP, .int .u16 cY, .int .u32 cR, .bool cV] 25)).alloc (.cells #[.int .u32 0, .int .u8 0, .int .u16 0, .int .u16 0, .int .u16 0, .int .u16 0, .int .u32 0, .bool false] 25)) (w.heap.size + 1) 25 #[.int .u32 0, .int .u8 0, .int .u16 0, .int .u16 0, .int .u16 0, .int .u16 0, .int .u32 0, .bool false] := by (repeat (first | (with_reducible exact Blk.new _ _ _) | (with_reducible refine Blk.drewN ?_ _) | (with_reducible refine Blk.drew ?_) | ((with_reducible refine Blk.newAt ?_ _ _); (simp; done)) | (with_reducible refine Blk.far ?_ (by first | (simp; done) | (simp; omega)) _) | (with_reducible refine Blk.alloc ?_ _)))
  have kb : Below w.heap.size w ((w.alloc (.cells #[.int .u32 cC, .int .u8 cE, .int .u16 cB, .int .u16 cT, .int .u16 cP, .int .u16 cY, .int .u32 cR, .bool cV] 25)).alloc (.cells #[.int .u32 0, .int .u8 0, .int .u16 0, .int .u16 0, .int .u16 0, .int .u16 0, .int .u32 0, .bool false] 25)) := by (repeat (first | (with_reducible exact Below.refl _ _) | (with_reducible refine Below.drew ?_) | (with_reducible refine below_drewN ?_ _) | (with_reducible refine Below.alloc ?_ (by simp <;> omega) _) | (with_reducible refine Below.setCell ?_ (by simp <;> omega) _)))
  have hsz : ((w.alloc (.cells #[.int .u32 cC, .int .u8 cE, .int .u16 cB, .int .u16 cT, .int .u16 cP, .int .u16 cY, .int .u32 cR, .bool cV] 25)).alloc (.cells #[.int .u32 0, .int .u8 0, .int .u16 0, .int .u16 0, .int .u16 0, .int .u16 0, .int .u32 0, .bool false] 25)).heap.size = w.heap.size + 1 + 1 := by simp
  go_enter Try.func21, Try.ntmps21
  go_wp2_with fail
  refine (HF.out _).mono ?_
  rintro e w1 ⟨rfl, hb1⟩
  have hq0 := hq0.below hb1 (by first | omega | (simp; done) | (simp; omega))
  have hq1 := hq1.below hb1 (by first | omega | (simp; done) | (simp; omega))
  have kb := kb.trans (hb1.mono kb.size)
  have hsz1 : w.heap.size + 1 + 1 ≤ w1.heap.size := by have := hb1.size; omega
  clear hb1
  have p0 := hq0.cell 0
  have pz0 := hq0.frozen 0
  have p1 := hq0.cell 1
  have pz1 := hq0.frozen 1
  have p2 := hq0.cell 2
  have pz2 := hq0.frozen 2
  have p3 := hq0.cell 3
  have pz3 := hq0.frozen 3
  have p4 := hq0.cell 4
  have pz4 := hq0.frozen 4
  have p5 := hq0.cell 5
  have pz5 := hq0.frozen 5
  have p6 := hq0.cell 6
  have pz6 := hq0.frozen 6
  have p7 := hq0.cell 7
  have pz7 := hq0.frozen 7
  simp at p0 p1 p2 p3 p4 p5 p6 p7
  have s0 := hq1.cell 0
  have sz0 := hq1.frozen 0
  have s1 := hq1.cell 1
  have sz1 := hq1.frozen 1
  have s2 := hq1.cell 2
  have sz2 := hq1.frozen 2
  have s3 := hq1.cell 3
  have sz3 := hq1.frozen 3
  have s4 := hq1.cell 4
  have sz4 := hq1.frozen 4
  have s5 := hq1.cell 5
  have sz5 := hq1.frozen 5
  have s6 := hq1.cell 6
  have sz6 := hq1.frozen 6
  have s7 := hq1.cell 7
  have sz7 := hq1.frozen 7
  simp at s0 s1 s2 s3 s4 s5 s6 s7
  have HK := hide kb
  have H0 := hide hq0
  have H1 := hide hq1
  clear kb hq0 hq1
  go_wp2_with fail
  refine (with_any cC cE cB cT y cY cR cV k _).mono ?_
  rintro e w2 ⟨rfl, hb2⟩
  have hq1 : Blk w2 (w.heap.size + 1) 25 #[.int .u32 0, .int .u8 0, .int .u16 0, .int .u16 0, .int .u16 0, .int .u16 0, .int .u32 0, .bool false] := Blk.below (by repeat (first | exact H1.out | (with_reducible refine Blk.far ?_ (by first | (simp; done) | (simp; omega)) _))) hb2 (by first | omega | (simp; omega))
  have kb : Below w.heap.size w w2 := Below.trans (by repeat (first | exact HK.out | (with_reducible refine Below.setCell ?_ (by simp <;> omega) _))) (hb2.mono (by simp; have := HK.out.size; omega))
  clear hb2 HK
  clear p0 pz0 p1 pz1 p2 pz2 p3 pz3 p4 pz4 p5 pz5 p6 pz6 p7 pz7 s0 sz0 s1 sz1 s2 sz2 s3 sz3 s4 sz4 s5 sz5 s6 sz6 s7 sz7
  have s0 := hq1.cell 0
  have sz0 := hq1.frozen 0
  have s1 := hq1.cell 1
  have sz1 := hq1.frozen 1
  have s2 := hq1.cell 2
  have sz2 := hq1.frozen 2
  have s3 := hq1.cell 3
  have sz3 := hq1.frozen 3
  have s4 := hq1.cell 4
  have sz4 := hq1.frozen 4
  have s5 := hq1.cell 5
  have sz5 := hq1.frozen 5
  have s6 := hq1.cell 6
  have sz6 := hq1.frozen 6
  have s7 := hq1.cell 7
  have sz7 := hq1.frozen 7
  simp at s0 s1 s2 s3 s4 s5 s6 s7
  have HK := hide kb
  clear kb hq1
  go_wp2
  refine bodyPost_ret (v := .agg #[.int .u32 cC, .int .u8 cE, .int .u16 cB, .int .u16 cT, .int .u16 y, .int .u16 cY, .int .u32 cR, .bool k]) (by simp [results, Try.results21, go_sem, s0, s1, s2, s3, s4, s5, s6, s7]) rfl ⟨rfl, ?_⟩
  repeat (first | (with_reducible refine Below.setCell ?_ (by simp <;> omega) _))
  exact HK.out

theorem raddr_f (cC cE cB cT cP cY cR : Nat) (cV : Bool) (to : Nat) (w : World) (h : freeN cY cV = false) :
    Calls Try.prog 25 #[.agg #[.int .u32 cC, .int .u8 cE, .int .u16 cB, .int .u16 cT, .int .u16 cP, .int .u16 cY, .int .u32 cR, .bool cV], .int .u32 to] w fun e w' => e = .returned (.agg #[.int .u32 to, .int .u8 cE, .int .u16 cB, .int .u16 cT, .int .u16 cP, .int .u16 cY, .int .u32 cR, .bool false]) ∧ Below w.heap.size w w' := by
  have hfr := fun W => rfree_any cC cE cB cT cP cY cR cV W
  rw [h] at hfr
  have HF := hide hfr
  clear hfr h
  have hq0 : Blk ((w.alloc (.cells #[.int .u32 cC, .int .u8 cE, .int .u16 cB, .int .u16 cT, .int .u16 cP, .int .u16 cY, .int .u32 cR, .bool cV] 25)).alloc (.cells #[.int .u32 0, .int .u8 0, .int .u16 0, .int .u16 0, .int .u16 0, .int .u16 0, .int .u32 0, .bool false] 25)) (w.heap.size) 25 #[.int .u32 cC, .int .u8 cE, .int .u16 cB, .int .u16 cT, .int .u16 cP, .int .u16 cY, .int .u32 cR, .bool cV] := by (repeat (first | (with_reducible exact Blk.new _ _ _) | (with_reducible refine Blk.drewN ?_ _) | (with_reducible refine Blk.drew ?_) | ((with_reducible refine Blk.newAt ?_ _ _); (simp; done)) | (with_reducible refine Blk.far ?_ (by first | (simp; done) | (simp; omega)) _) | (with_reducible refine Blk.alloc ?_ _)))
  have hq1 : Blk ((w.alloc (.cells #[.int .u32 cC, .int .u8 cE, .int .u16 cB, .int .u16 cT, .int .u16 cP, .int .u16 cY, .int .u32 cR, .bool cV] 25)).alloc (.cells #[.int .u32 0, .int .u8 0, .int .u16 0, .int .u16 0, .int .u16 0, .int .u16 0, .int .u32 0, .bool false] 25)) (w.heap.size + 1) 25 #[.int .u32 0, .int .u8 0, .int .u16 0, .int .u16 0, .int .u16 0, .int .u16 0, .int .u32 0, .bool false] := by (repeat (first | (with_reducible exact Blk.new _ _ _) | (with_reducible refine Blk.drewN ?_ _) | (with_reducible refine Blk.drew ?_) | ((with_reducible refine Blk.newAt ?_ _ _); (simp; done)) | (with_reducible refine Blk.far ?_ (by first | (simp; done) | (simp; omega)) _) | (with_reducible refine Blk.alloc ?_ _)))
  have kb : Below w.heap.size w ((w.alloc (.cells #[.int .u32 cC, .int .u8 cE, .int .u16 cB, .int .u16 cT, .int .u16 cP, .int .u16 cY, .int .u32 cR, .bool cV] 25)).alloc (.cells #[.int .u32 0, .int .u8 0, .int .u16 0, .int .u16 0, .int .u16 0, .int .u16 0, .int .u32 0, .bool false] 25)) := by (repeat (first | (with_reducible exact Below.refl _ _) | (with_reducible refine Below.drew ?_) | (with_reducible refine below_drewN ?_ _) | (with_reducible refine Below.alloc ?_ (by simp <;> omega) _) | (with_reducible refine Below.setCell ?_ (by simp <;> omega) _)))
  have hsz : ((w.alloc (.cells #[.int .u32 cC, .int .u8 cE, .int .u16 cB, .int .u16 cT, .int .u16 cP, .int .u16 cY, .int .u32 cR, .bool cV] 25)).alloc (.cells #[.int .u32 0, .int .u8 0, .int .u16 0, .int .u16 0, .int .u16 0, .int .u16 0, .int .u32 0, .bool false] 25)).heap.size = w.heap.size + 1 + 1 := by simp
  go_enter Try.func25, Try.ntmps25
  go_wp2_with fail
  refine (HF.out _).mono ?_
  rintro e w1 ⟨rfl, hb1⟩
  have hq0 := hq0.below hb1 (by first | omega | (simp; done) | (simp; omega))
  have hq1 := hq1.below hb1 (by first | omega | (simp; done) | (simp; omega))
  have kb := kb.trans (hb1.mono kb.size)
  have hsz1 : w.heap.size + 1 + 1 ≤ w1.heap.size := by have := hb1.size; omega
  clear hb1
  have p0 := hq0.cell 0
  have pz0 := hq0.frozen 0
  have p1 := hq0.cell 1
  have pz1 := hq0.frozen 1
  have p2 := hq0.cell 2
  have pz2 := hq0.frozen 2
  have p3 := hq0.cell 3
  have pz3 := hq0.frozen 3
  have p4 := hq0.cell 4
  have pz4 := hq0.frozen 4
  have p5 := hq0.cell 5
  have pz5 := hq0.frozen 5
  have p6 := hq0.cell 6
  have pz6 := hq0.frozen 6
  have p7 := hq0.cell 7
  have pz7 := hq0.frozen 7
  simp at p0 p1 p2 p3 p4 p5 p6 p7
  have s0 := hq1.cell 0
  have sz0 := hq1.frozen 0
  have s1 := hq1.cell 1
  have sz1 := hq1.frozen 1
  have s2 := hq1.cell 2
  have sz2 := hq1.frozen 2
  have s3 := hq1.cell 3
  have sz3 := hq1.frozen 3
  have s4 := hq1.cell 4
  have sz4 := hq1.frozen 4
  have s5 := hq1.cell 5
  have sz5 := hq1.frozen 5
  have s6 := hq1.cell 6
  have sz6 := hq1.frozen 6
  have s7 := hq1.cell 7
  have sz7 := hq1.frozen 7
  simp at s0 s1 s2 s3 s4 s5 s6 s7
  have HK := hide kb
  have H0 := hide hq0
  have H1 := hide hq1
  clear kb hq0 hq1
  go_wp2_with fail
  refine (with_any to cE cB cT cP cY cR cV false _).mono ?_
  rintro e w2 ⟨rfl, hb2⟩
  have hq1 : Blk w2 (w.heap.size + 1) 25 #[.int .u32 0, .int .u8 0, .int .u16 0, .int .u16 0, .int .u16 0, .int .u16 0, .int .u32 0, .bool false] := Blk.below (by repeat (first | exact H1.out | (with_reducible refine Blk.far ?_ (by first | (simp; done) | (simp; omega)) _))) hb2 (by first | omega | (simp; omega))
  have kb : Below w.heap.size w w2 := Below.trans (by repeat (first | exact HK.out | (with_reducible refine Below.setCell ?_ (by simp <;> omega) _))) (hb2.mono (by simp; have := HK.out.size; omega))
  clear hb2 HK
  clear p0 pz0 p1 pz1 p2 pz2 p3 pz3 p4 pz4 p5 pz5 p6 pz6 p7 pz7 s0 sz0 s1 sz1 s2 sz2 s3 sz3 s4 sz4 s5 sz5 s6 sz6 s7 sz7
  have s0 := hq1.cell 0
  have sz0 := hq1.frozen 0
  have s1 := hq1.cell 1
  have sz1 := hq1.frozen 1
  have s2 := hq1.cell 2
  have sz2 := hq1.frozen 2
  have s3 := hq1.cell 3
  have sz3 := hq1.frozen 3
  have s4 := hq1.cell 4
  have sz4 := hq1.frozen 4
  have s5 := hq1.cell 5
  have sz5 := hq1.frozen 5
  have s6 := hq1.cell 6
  have sz6 := hq1.frozen 6
  have s7 := hq1.cell 7
  have sz7 := hq1.frozen 7
  simp at s0 s1 s2 s3 s4 s5 s6 s7
  have HK := hide kb
  clear kb hq1
  go_wp2
  refine bodyPost_ret (v := .agg #[.int .u32 to, .int .u8 cE, .int .u16 cB, .int .u16 cT, .int .u16 cP, .int .u16 cY, .int .u32 cR, .bool false]) (by simp [results, Try.results25, go_sem, s0, s1, s2, s3, s4, s5, s6, s7]) rfl ⟨rfl, ?_⟩
  repeat (first | (with_reducible refine Below.setCell ?_ (by simp <;> omega) _))
  exact HK.out

theorem raddr_t (cC cE cB cT cP cY cR : Nat) (cV : Bool) (to : Nat) (k : Bool) (w : World) (h : freeN cY cV = true)
    (HKP : Hid (∀ W, Calls Try.prog 49 #[.int .u8 cE, .int .u16 cB, .int .u16 cT, .int .u32 cC, .int .u32 to] W fun e' w' => e' = .returned (.bool k) ∧ W = w')) :
    Calls Try.prog 25 #[.agg #[.int .u32 cC, .int .u8 cE, .int .u16 cB, .int .u16 cT, .int .u16 cP, .int .u16 cY, .int .u32 cR, .bool cV], .int .u32 to] w fun e w' => e = .returned (.agg #[.int .u32 to, .int .u8 cE, .int .u16 cB, .int .u16 cT, .int .u16 cP, .int .u16 cY, .int .u32 cR, .bool k]) ∧ Below w.heap.size w w' := by
  have hfr := fun W => rfree_any cC cE cB cT cP cY cR cV W
  rw [h] at hfr
  have HF := hide hfr
  clear hfr h
  have hq0 : Blk ((w.alloc (.cells #[.int .u32 cC, .int .u8 cE, .int .u16 cB, .int .u16 cT, .int .u16 cP, .int .u16 cY, .int .u32 cR, .bool cV] 25)).alloc (.cells #[.int .u32 0, .int .u8 0, .int .u16 0, .int .u16 0, .int .u16 0, .int .u16 0, .int .u32 0, .bool false] 25)) (w.heap.size) 25 #[.int .u32 cC, .int .u8 cE, .int .u16 cB, .int .u16 cT, .int .u16 cP, .int .u16 cY, .int .u32 cR, .bool cV] := by (repeat (first | (with_reducible exact Blk.new _ _ _) | (with_reducible refine Blk.drewN ?_ _) | (with_reducible refine Blk.drew ?_) | ((with_reducible refine Blk.newAt ?_ _ _); (simp; done)) | (with_reducible refine Blk.far ?_ (by first | (simp; done) | (simp; omega)) _) | (with_reducible refine Blk.alloc ?_ _)))
  have hq1 : Blk ((w.alloc (.cells #[.int .u32 cC, .int .u8 cE, .int .u16 cB, .int .u16 cT, .int .u16 cP, .int .u16 cY, .int .u32 cR, .bool cV] 25)).alloc (.cells #[.int .u32 0, .int .u8 0, .int .u16 0, .int .u16 0, .int .u16 0, .int .u16 0, .int .u32 0, .bool false] 25)) (w.heap.size + 1) 25 #[.int .u32 0, .int .u8 0, .int .u16 0, .int .u16 0, .int .u16 0, .int .u16 0, .int .u32 0, .bool false] := by (repeat (first | (with_reducible exact Blk.new _ _ _) | (with_reducible refine Blk.drewN ?_ _) | (with_reducible refine Blk.drew ?_) | ((with_reducible refine Blk.newAt ?_ _ _); (simp; done)) | (with_reducible refine Blk.far ?_ (by first | (simp; done) | (simp; omega)) _) | (with_reducible refine Blk.alloc ?_ _)))
  have kb : Below w.heap.size w ((w.alloc (.cells #[.int .u32 cC, .int .u8 cE, .int .u16 cB, .int .u16 cT, .int .u16 cP, .int .u16 cY, .int .u32 cR, .bool cV] 25)).alloc (.cells #[.int .u32 0, .int .u8 0, .int .u16 0, .int .u16 0, .int .u16 0, .int .u16 0, .int .u32 0, .bool false] 25)) := by (repeat (first | (with_reducible exact Below.refl _ _) | (with_reducible refine Below.drew ?_) | (with_reducible refine below_drewN ?_ _) | (with_reducible refine Below.alloc ?_ (by simp <;> omega) _) | (with_reducible refine Below.setCell ?_ (by simp <;> omega) _)))
  have hsz : ((w.alloc (.cells #[.int .u32 cC, .int .u8 cE, .int .u16 cB, .int .u16 cT, .int .u16 cP, .int .u16 cY, .int .u32 cR, .bool cV] 25)).alloc (.cells #[.int .u32 0, .int .u8 0, .int .u16 0, .int .u16 0, .int .u16 0, .int .u16 0, .int .u32 0, .bool false] 25)).heap.size = w.heap.size + 1 + 1 := by simp
  go_enter Try.func25, Try.ntmps25
  go_wp2_with fail
  refine (HF.out _).mono ?_
  rintro e w1 ⟨rfl, hb1⟩
  have hq0 := hq0.below hb1 (by first | omega | (simp; done) | (simp; omega))
  have hq1 := hq1.below hb1 (by first | omega | (simp; done) | (simp; omega))
  have kb := kb.trans (hb1.mono kb.size)
  have hsz1 : w.heap.size + 1 + 1 ≤ w1.heap.size := by have := hb1.size; omega
  clear hb1
  have p0 := hq0.cell 0
  have pz0 := hq0.frozen 0
  have p1 := hq0.cell 1
  have pz1 := hq0.frozen 1
  have p2 := hq0.cell 2
  have pz2 := hq0.frozen 2
  have p3 := hq0.cell 3
  have pz3 := hq0.frozen 3
  have p4 := hq0.cell 4
  have pz4 := hq0.frozen 4
  have p5 := hq0.cell 5
  have pz5 := hq0.frozen 5
  have p6 := hq0.cell 6
  have pz6 := hq0.frozen 6
  have p7 := hq0.cell 7
  have pz7 := hq0.frozen 7
  simp at p0 p1 p2 p3 p4 p5 p6 p7
  have s0 := hq1.cell 0
  have sz0 := hq1.frozen 0
  have s1 := hq1.cell 1
  have sz1 := hq1.frozen 1
  have s2 := hq1.cell 2
  have sz2 := hq1.frozen 2
  have s3 := hq1.cell 3
  have sz3 := hq1.frozen 3
  have s4 := hq1.cell 4
  have sz4 := hq1.frozen 4
  have s5 := hq1.cell 5
  have sz5 := hq1.frozen 5
  have s6 := hq1.cell 6
  have sz6 := hq1.frozen 6
  have s7 := hq1.cell 7
  have sz7 := hq1.frozen 7
  simp at s0 s1 s2 s3 s4 s5 s6 s7
  have HK := hide kb
  have H0 := hide hq0
  have H1 := hide hq1
  clear kb hq0 hq1
  go_wp2_with fail
  refine (HKP.out _).mono ?_
  rintro e w2 ⟨rfl, rfl⟩
  go_wp2_with fail
  refine (with_any to cE cB cT cP cY cR cV k _).mono ?_
  rintro e w3 ⟨rfl, hb3⟩
  have hq1 : Blk w3 (w.heap.size + 1) 25 #[.int .u32 0, .int .u8 0, .int .u16 0, .int .u16 0, .int .u16 0, .int .u16 0, .int .u32 0, .bool false] := Blk.below (by repeat (first | exact H1.out | (with_reducible refine Blk.far ?_ (by first | (simp; done) | (simp; omega)) _))) hb3 (by first | omega | (simp; omega))
  have kb : Below w.heap.size w w3 := Below.trans (by repeat (first | exact HK.out | (with_reducible refine Below.setCell ?_ (by simp <;> omega) _))) (hb3.mono (by simp; have := HK.out.size; omega))
  clear hb3 HK
  clear p0 pz0 p1 pz1 p2 pz2 p3 pz3 p4 pz4 p5 pz5 p6 pz6 p7 pz7 s0 sz0 s1 sz1 s2 sz2 s3 sz3 s4 sz4 s5 sz5 s6 sz6 s7 sz7
  have s0 := hq1.cell 0
  have sz0 := hq1.frozen 0
  have s1 := hq1.cell 1
  have sz1 := hq1.frozen 1
  have s2 := hq1.cell 2
  have sz2 := hq1.frozen 2
  have s3 := hq1.cell 3
  have sz3 := hq1.frozen 3
  have s4 := hq1.cell 4
  have sz4 := hq1.frozen 4
  have s5 := hq1.cell 5
  have sz5 := hq1.frozen 5
  have s6 := hq1.cell 6
  have sz6 := hq1.frozen 6
  have s7 := hq1.cell 7
  have sz7 := hq1.frozen 7
  simp at s0 s1 s2 s3 s4 s5 s6 s7
  have HK := hide kb
  clear kb hq1
  go_wp2
  refine bodyPost_ret (v := .agg #[.int .u32 to, .int .u8 cE, .int .u16 cB, .int .u16 cT, .int .u16 cP, .int .u16 cY, .int .u32 cR, .bool k]) (by simp [results, Try.results25, go_sem, s0, s1, s2, s3, s4, s5, s6, s7]) rfl ⟨rfl, ?_⟩
  repeat (first | (with_reducible refine Below.setCell ?_ (by simp <;> omega) _))
  exact HK.out

theorem raddr_any (cC cE cB cT cP cY cR : Nat) (cV : Bool) (to : Nat) (w : World) (cl : capB cC cE cB cT cP cY cR) (hto : to < 4294967296) :
    Calls Try.prog 25 #[.agg #[.int .u32 cC, .int .u8 cE, .int .u16 cB, .int .u16 cT, .int .u16 cP, .int .u16 cY, .int .u32 cR, .bool cV], .int .u32 to] w fun e w' => e = .returned (.agg #[.int .u32 to, .int .u8 cE, .int .u16 cB, .int .u16 cT, .int .u16 cP, .int .u16 cY, .int .u32 cR, .bool (freeN cY cV && keepsN cE cB cT cC to)]) ∧ Below w.heap.size w w' := by
  by_cases h : freeN cY cV = true
  · rw [h, Bool.true_and]
    exact raddr_t cC cE cB cT cP cY cR cV to _ w h (fun W => rkeeps_any cE cB cT cC to W cl.2.1 cl.2.2.1 cl.2.2.2.1 cl.1 hto)
  · have h' : freeN cY cV = false := by simpa using h
    rw [h', Bool.false_and]
    exact raddr_f cC cE cB cT cP cY cR cV to w h'

theorem rover_any (cC cE cB cT cP cY cR : Nat) (cV : Bool) (q x y : Nat) (w : World) (cl : capB cC cE cB cT cP cY cR) (hq : q < 65536) (hx : (decN cE cB cT cC).1 = x) (hy : (decN cE cB cT cC).2 = y) :
    Calls Try.prog 51 #[.agg #[.int .u32 cC, .int .u8 cE, .int .u16 cB, .int .u16 cT, .int .u16 cP, .int .u16 cY, .int .u32 cR, .bool cV], .int .u16 q] w fun e w' => e = .returned (.bool (overN cC cP cY cV q x y)) ∧ Below w.heap.size w w' := by
  have HR : Hid (∀ W, Calls Try.prog 64 #[.agg #[.int .u32 cC, .int .u8 cE, .int .u16 cB, .int .u16 cT, .int .u16 cP, .int .u16 cY, .int .u32 cR, .bool cV]] W fun e' w' => e' = .returned (.tuple #[.int .u32 x, .int .u64 y]) ∧ Below W.heap.size W w') := fun W => rrange_is cC cE cB cT cP cY cR cV x y W cl hx hy
  have hxl : x < 4294967296 := by rw [← hx]; exact (dec_lt _ _ _ _).1
  have hcl : cC < 4294967296 := cl.1
  have hn := bits_ne cl.2.2.2.2.1 hq
  have hfr := fun W => rfree_any cC cE cB cT cP cY cR cV W
  clear hx hy
  obtain ⟨kf, hkf⟩ : ∃ k, freeN cY cV = k := ⟨_, rfl⟩
  obtain ⟨kp, hkp⟩ : ∃ k, decide (cP &&& q ≠ 0) = k := ⟨_, rfl⟩
  rw [hkp] at hn
  rw [hkf] at hfr
  have HF := hide hfr
  clear hfr
  have hov : overN cC cP cY cV q x y = (kf && (kp && (decide (1 ≤ cC) && (decide (cC ≤ 4095) && (decide (x ≤ cC) && decide (cC < y)))))) := by
    unfold overN; rw [hkf, hkp]
  rw [hov]
  clear hov hkf hkp
  cases kf with
  | false =>
    have HV : Hid ((false && (kp && (decide (1 ≤ cC) && (decide (cC ≤ 4095) && (decide (x ≤ cC) && decide (cC < y)))))) = false) := rfl
    go_enter Try.func51, Try.ntmps51
    go_wp2_with fail
    refine (HR.out _).mono ?_
    rintro e w1 ⟨rfl, hb1⟩
    obtain ⟨hc1, hf1⟩ := bcell hb1
    have hz1 := hb1.size
    simp at hz1
    have l1 : w.heap.size < w1.heap.size := by omega
    have HB1 := hide hb1; clear hb1
    go_wp2_with fail
    refine (HF.out _).mono ?_
    rintro e w2 ⟨rfl, hb2⟩
    obtain ⟨hc2, hf2⟩ := bcell hb2
    have HB2 := hide hb2; clear hb2
    go_wp2
    go_ret
    exact ⟨ret_bool HV.out.symm, (((Below.refl _ _).alloc (Nat.le_refl _) _).trans (HB1.out.mono (by simp))).trans (HB2.out.mono (by omega))⟩
  | true =>
    cases kp with
    | false =>
      have HV : Hid ((true && (false && (decide (1 ≤ cC) && (decide (cC ≤ 4095) && (decide (x ≤ cC) && decide (cC < y)))))) = false) := rfl
      go_enter Try.func51, Try.ntmps51
      go_wp2_with fail
      refine (HR.out _).mono ?_
      rintro e w1 ⟨rfl, hb1⟩
      obtain ⟨hc1, hf1⟩ := bcell hb1
      have hz1 := hb1.size
      simp at hz1
      have l1 : w.heap.size < w1.heap.size := by omega
      have HB1 := hide hb1; clear hb1
      go_wp2_with fail
      refine (HF.out _).mono ?_
      rintro e w2 ⟨rfl, hb2⟩
      obtain ⟨hc2, hf2⟩ := bcell hb2
      have HB2 := hide hb2; clear hb2
      go_wp2
      go_ret
      exact ⟨ret_bool HV.out.symm, (((Below.refl _ _).alloc (Nat.le_refl _) _).trans (HB1.out.mono (by simp))).trans (HB2.out.mono (by omega))⟩
    | true =>
      by_cases c1 : (1 : Int) ≤ cC
      · by_cases c2 : (cC : Int) ≤ 4095
        · by_cases c3 : x ≤ cC
          · have HV : Hid ((true && (true && (decide (1 ≤ cC) && (decide (cC ≤ 4095) && (decide (x ≤ cC) && decide (cC < y)))))) = decide (cC < y)) := by
              show _ = _
              rw [decide_eq_true (show 1 ≤ cC by omega), decide_eq_true (show cC ≤ 4095 by omega), decide_eq_true c3]; rfl
            go_enter Try.func51, Try.ntmps51
            go_wp2_with fail
            refine (HR.out _).mono ?_
            rintro e w1 ⟨rfl, hb1⟩
            obtain ⟨hc1, hf1⟩ := bcell hb1
            have hz1 := hb1.size
            simp at hz1
            have l1 : w.heap.size < w1.heap.size := by omega
            have HB1 := hide hb1; clear hb1
            go_wp2_with fail
            refine (HF.out _).mono ?_
            rintro e w2 ⟨rfl, hb2⟩
            obtain ⟨hc2, hf2⟩ := bcell hb2
            have HB2 := hide hb2; clear hb2
            go_wp2
            go_ret
            exact ⟨ret_bool HV.out.symm, (((Below.refl _ _).alloc (Nat.le_refl _) _).trans (HB1.out.mono (by simp))).trans (HB2.out.mono (by omega))⟩
          · have d3 : decide (x ≤ cC) = false := by simpa using c3
            have HV : Hid ((true && (true && (decide (1 ≤ cC) && (decide (cC ≤ 4095) && (decide (x ≤ cC) && decide (cC < y)))))) = false) := by
              show _ = _
              rw [d3]; simp
            go_enter Try.func51, Try.ntmps51
            go_wp2_with fail
            refine (HR.out _).mono ?_
            rintro e w1 ⟨rfl, hb1⟩
            obtain ⟨hc1, hf1⟩ := bcell hb1
            have hz1 := hb1.size
            simp at hz1
            have l1 : w.heap.size < w1.heap.size := by omega
            have HB1 := hide hb1; clear hb1
            go_wp2_with fail
            refine (HF.out _).mono ?_
            rintro e w2 ⟨rfl, hb2⟩
            obtain ⟨hc2, hf2⟩ := bcell hb2
            have HB2 := hide hb2; clear hb2
            go_wp2
            go_ret
            exact ⟨ret_bool HV.out.symm, (((Below.refl _ _).alloc (Nat.le_refl _) _).trans (HB1.out.mono (by simp))).trans (HB2.out.mono (by omega))⟩
        · have d2 : decide ((cC : Int) ≤ 4095) = false := by simpa using c2
          have HV : Hid ((true && (true && (decide (1 ≤ cC) && (decide (cC ≤ 4095) && (decide (x ≤ cC) && decide (cC < y)))))) = false) := by
            show _ = _
            rw [decide_eq_false (show ¬ cC ≤ 4095 by omega)]; simp
          go_enter Try.func51, Try.ntmps51
          go_wp2_with fail
          refine (HR.out _).mono ?_
          rintro e w1 ⟨rfl, hb1⟩
          obtain ⟨hc1, hf1⟩ := bcell hb1
          have hz1 := hb1.size
          simp at hz1
          have l1 : w.heap.size < w1.heap.size := by omega
          have HB1 := hide hb1; clear hb1
          go_wp2_with fail
          refine (HF.out _).mono ?_
          rintro e w2 ⟨rfl, hb2⟩
          obtain ⟨hc2, hf2⟩ := bcell hb2
          have HB2 := hide hb2; clear hb2
          go_wp2
          go_ret
          exact ⟨ret_bool HV.out.symm, (((Below.refl _ _).alloc (Nat.le_refl _) _).trans (HB1.out.mono (by simp))).trans (HB2.out.mono (by omega))⟩
      · have d1 : decide ((1 : Int) ≤ cC) = false := by simpa using c1
        have HV : Hid ((true && (true && (decide (1 ≤ cC) && (decide (cC ≤ 4095) && (decide (x ≤ cC) && decide (cC < y)))))) = false) := by
          show _ = _
          rw [decide_eq_false (show ¬ 1 ≤ cC by omega)]; simp
        go_enter Try.func51, Try.ntmps51
        go_wp2_with fail
        refine (HR.out _).mono ?_
        rintro e w1 ⟨rfl, hb1⟩
        obtain ⟨hc1, hf1⟩ := bcell hb1
        have hz1 := hb1.size
        simp at hz1
        have l1 : w.heap.size < w1.heap.size := by omega
        have HB1 := hide hb1; clear hb1
        go_wp2_with fail
        refine (HF.out _).mono ?_
        rintro e w2 ⟨rfl, hb2⟩
        obtain ⟨hc2, hf2⟩ := bcell hb2
        have HB2 := hide hb2; clear hb2
        go_wp2
        go_ret
        exact ⟨ret_bool HV.out.symm, (((Below.refl _ _).alloc (Nat.le_refl _) _).trans (HB1.out.mono (by simp))).trans (HB2.out.mono (by omega))⟩

theorem rseal_f (cC cE cB cT cP cY cR : Nat) (cV : Bool) (bC bE bB bT bP bY bR : Nat) (bV : Bool) (w : World) (h : freeN cY cV = false) :
    Calls Try.prog 27 #[.agg #[.int .u32 cC, .int .u8 cE, .int .u16 cB, .int .u16 cT, .int .u16 cP, .int .u16 cY, .int .u32 cR, .bool cV], .agg #[.int .u32 bC, .int .u8 bE, .int .u16 bB, .int .u16 bT, .int .u16 bP, .int .u16 bY, .int .u32 bR, .bool bV]] w fun e w' => e = .returned (.agg #[.int .u32 cC, .int .u8 cE, .int .u16 cB, .int .u16 cT, .int .u16 cP, .int .u16 cY, .int .u32 cR, .bool false]) ∧ Below w.heap.size w w' := by
  have hfr := fun W => rfree_any cC cE cB cT cP cY cR cV W
  rw [h] at hfr
  have HF := hide hfr
  clear hfr h
  have hq0 : Blk (((w.alloc (.cells #[.int .u32 cC, .int .u8 cE, .int .u16 cB, .int .u16 cT, .int .u16 cP, .int .u16 cY, .int .u32 cR, .bool cV] 25)).alloc (.cells #[.int .u32 bC, .int .u8 bE, .int .u16 bB, .int .u16 bT, .int .u16 bP, .int .u16 bY, .int .u32 bR, .bool bV] 25)).alloc (.cells #[.int .u32 0, .int .u8 0, .int .u16 0, .int .u16 0, .int .u16 0, .int .u16 0, .int .u32 0, .bool false] 25)) w.heap.size 25 #[.int .u32 cC, .int .u8 cE, .int .u16 cB, .int .u16 cT, .int .u16 cP, .int .u16 cY, .int .u32 cR, .bool cV] := by (repeat (first | (with_reducible exact Blk.new _ _ _) | (with_reducible refine Blk.drewN ?_ _) | (with_reducible refine Blk.drew ?_) | exact Blk.newAt (by simp) _ _ | (with_reducible refine Blk.alloc ?_ _)))
  have hq1 : Blk (((w.alloc (.cells #[.int .u32 cC, .int .u8 cE, .int .u16 cB, .int .u16 cT, .int .u16 cP, .int .u16 cY, .int .u32 cR, .bool cV] 25)).alloc (.cells #[.int .u32 bC, .int .u8 bE, .int .u16 bB, .int .u16 bT, .int .u16 bP, .int .u16 bY, .int .u32 bR, .bool bV] 25)).alloc (.cells #[.int .u32 0, .int .u8 0, .int .u16 0, .int .u16 0, .int .u16 0, .int .u16 0, .int .u32 0, .bool false] 25)) (w.heap.size + 1) 25 #[.int .u32 bC, .int .u8 bE, .int .u16 bB, .int .u16 bT, .int .u16 bP, .int .u16 bY, .int .u32 bR, .bool bV] := by (repeat (first | (with_reducible exact Blk.new _ _ _) | (with_reducible refine Blk.drewN ?_ _) | (with_reducible refine Blk.drew ?_) | exact Blk.newAt (by simp) _ _ | (with_reducible refine Blk.alloc ?_ _)))
  have hq2 : Blk (((w.alloc (.cells #[.int .u32 cC, .int .u8 cE, .int .u16 cB, .int .u16 cT, .int .u16 cP, .int .u16 cY, .int .u32 cR, .bool cV] 25)).alloc (.cells #[.int .u32 bC, .int .u8 bE, .int .u16 bB, .int .u16 bT, .int .u16 bP, .int .u16 bY, .int .u32 bR, .bool bV] 25)).alloc (.cells #[.int .u32 0, .int .u8 0, .int .u16 0, .int .u16 0, .int .u16 0, .int .u16 0, .int .u32 0, .bool false] 25)) (w.heap.size + 1 + 1) 25 #[.int .u32 0, .int .u8 0, .int .u16 0, .int .u16 0, .int .u16 0, .int .u16 0, .int .u32 0, .bool false] := by (repeat (first | (with_reducible exact Blk.new _ _ _) | (with_reducible refine Blk.drewN ?_ _) | (with_reducible refine Blk.drew ?_) | exact Blk.newAt (by simp) _ _ | (with_reducible refine Blk.alloc ?_ _)))
  have kb : Below w.heap.size w (((w.alloc (.cells #[.int .u32 cC, .int .u8 cE, .int .u16 cB, .int .u16 cT, .int .u16 cP, .int .u16 cY, .int .u32 cR, .bool cV] 25)).alloc (.cells #[.int .u32 bC, .int .u8 bE, .int .u16 bB, .int .u16 bT, .int .u16 bP, .int .u16 bY, .int .u32 bR, .bool bV] 25)).alloc (.cells #[.int .u32 0, .int .u8 0, .int .u16 0, .int .u16 0, .int .u16 0, .int .u16 0, .int .u32 0, .bool false] 25)) := by (repeat (first | (with_reducible exact Below.refl _ _) | (with_reducible refine Below.drew ?_) | (with_reducible refine below_drewN ?_ _) | (with_reducible refine Below.alloc ?_ (by simp <;> omega) _) | (with_reducible refine Below.setCell ?_ (by simp <;> omega) _)))
  have hsz : (((w.alloc (.cells #[.int .u32 cC, .int .u8 cE, .int .u16 cB, .int .u16 cT, .int .u16 cP, .int .u16 cY, .int .u32 cR, .bool cV] 25)).alloc (.cells #[.int .u32 bC, .int .u8 bE, .int .u16 bB, .int .u16 bT, .int .u16 bP, .int .u16 bY, .int .u32 bR, .bool bV] 25)).alloc (.cells #[.int .u32 0, .int .u8 0, .int .u16 0, .int .u16 0, .int .u16 0, .int .u16 0, .int .u32 0, .bool false] 25)).heap.size = w.heap.size + 1 + 1 + 1 := by simp
  go_enter Try.func27, Try.ntmps27
  go_wp2_with fail
  refine (HF.out _).mono ?_
  rintro e w1 ⟨rfl, hb1⟩
  have hq0 := (hq0).below hb1 (by first | omega | (simp; omega))
  have hq1 := (hq1).below hb1 (by first | omega | (simp; omega))
  have hq2 := (hq2).below hb1 (by first | omega | (simp; omega))
  have kb := (kb).trans (hb1.mono kb.size)
  have hsz1 : w.heap.size + 1 + 1 + 1 ≤ w1.heap.size := by have := hb1.size; omega
  clear hb1
  have p0 := hq0.cell 0
  have pz0 := hq0.frozen 0
  have p1 := hq0.cell 1
  have pz1 := hq0.frozen 1
  have p2 := hq0.cell 2
  have pz2 := hq0.frozen 2
  have p3 := hq0.cell 3
  have pz3 := hq0.frozen 3
  have p4 := hq0.cell 4
  have pz4 := hq0.frozen 4
  have p5 := hq0.cell 5
  have pz5 := hq0.frozen 5
  have p6 := hq0.cell 6
  have pz6 := hq0.frozen 6
  have p7 := hq0.cell 7
  have pz7 := hq0.frozen 7
  simp at p0 p1 p2 p3 p4 p5 p6 p7
  have s0 := hq1.cell 0
  have s1 := hq1.cell 1
  have s2 := hq1.cell 2
  have s3 := hq1.cell 3
  have s4 := hq1.cell 4
  have s5 := hq1.cell 5
  have s6 := hq1.cell 6
  have s7 := hq1.cell 7
  simp at s0 s1 s2 s3 s4 s5 s6 s7
  have r0 := hq2.cell 0
  have rz0 := hq2.frozen 0
  have r1 := hq2.cell 1
  have rz1 := hq2.frozen 1
  have r2 := hq2.cell 2
  have rz2 := hq2.frozen 2
  have r3 := hq2.cell 3
  have rz3 := hq2.frozen 3
  have r4 := hq2.cell 4
  have rz4 := hq2.frozen 4
  have r5 := hq2.cell 5
  have rz5 := hq2.frozen 5
  have r6 := hq2.cell 6
  have rz6 := hq2.frozen 6
  have r7 := hq2.cell 7
  have rz7 := hq2.frozen 7
  simp at r0 r1 r2 r3 r4 r5 r6 r7
  have HK := hide kb
  have H0 := hide hq0
  have H1 := hide hq1
  have H2 := hide hq2
  clear kb hq0 hq1 hq2
  go_wp2_with fail
  have kb := HK.out
  have hq0 := H0.out
  have hq1 := H1.out
  have hq2 := H2.out
  clear HK H0 H1 H2
  refine (with_z cC cE cB cT cP cY cR cV _).mono ?_
  rintro e w2 ⟨rfl, hb2⟩
  have hq0 := (hq0).below hb2 (by first | omega | (simp; omega))
  have hq1 := (hq1).below hb2 (by first | omega | (simp; omega))
  have hq2 := (hq2).below hb2 (by first | omega | (simp; omega))
  have kb := (kb).trans (hb2.mono kb.size)
  have hsz2 : w.heap.size + 1 + 1 + 1 ≤ w2.heap.size := by have := hb2.size; omega
  clear hb2
  clear p0 p1 p2 p3 p4 p5 p6 p7 s0 s1 s2 s3 s4 s5 s6 s7 r0 r1 r2 r3 r4 r5 r6 r7 pz0 rz0 pz1 rz1 pz2 rz2 pz3 rz3 pz4 rz4 pz5 rz5 pz6 rz6 pz7 rz7
  have r0 := hq2.cell 0
  have rz0 := hq2.frozen 0
  have r1 := hq2.cell 1
  have rz1 := hq2.frozen 1
  have r2 := hq2.cell 2
  have rz2 := hq2.frozen 2
  have r3 := hq2.cell 3
  have rz3 := hq2.frozen 3
  have r4 := hq2.cell 4
  have rz4 := hq2.frozen 4
  have r5 := hq2.cell 5
  have rz5 := hq2.frozen 5
  have r6 := hq2.cell 6
  have rz6 := hq2.frozen 6
  have r7 := hq2.cell 7
  have rz7 := hq2.frozen 7
  simp at r0 r1 r2 r3 r4 r5 r6 r7
  have HK := hide kb
  clear kb hq0 hq1 hq2
  go_wp2
  refine bodyPost_ret (v := .agg #[.int .u32 cC, .int .u8 cE, .int .u16 cB, .int .u16 cT, .int .u16 cP, .int .u16 cY, .int .u32 cR, .bool false]) (by simp [results, Try.results27, go_sem, r0, r1, r2, r3, r4, r5, r6, r7]) rfl ⟨rfl, ?_⟩
  repeat (first | (with_reducible refine Below.setCell ?_ (by simp <;> omega) _))
  exact HK.out


theorem rseal_o (cC cE cB cT cP cY cR : Nat) (cV : Bool) (bC bE bB bT bP bY bR : Nat) (bV : Bool) (x y : Nat) (w : World) (bl : capB bC bE bB bT bP bY bR) (hx : (decN bE bB bT bC).1 = x) (hy : (decN bE bB bT bC).2 = y) (h : freeN cY cV = true) (ho : overN bC bP bY bV 32 x y = false) :
    Calls Try.prog 27 #[.agg #[.int .u32 cC, .int .u8 cE, .int .u16 cB, .int .u16 cT, .int .u16 cP, .int .u16 cY, .int .u32 cR, .bool cV], .agg #[.int .u32 bC, .int .u8 bE, .int .u16 bB, .int .u16 bT, .int .u16 bP, .int .u16 bY, .int .u32 bR, .bool bV]] w fun e w' => e = .returned (.agg #[.int .u32 cC, .int .u8 cE, .int .u16 cB, .int .u16 cT, .int .u16 cP, .int .u16 cY, .int .u32 cR, .bool false]) ∧ Below w.heap.size w w' := by
  have hfr := fun W => rfree_any cC cE cB cT cP cY cR cV W
  rw [h] at hfr
  have HF := hide hfr
  have hov := fun W => rover_any bC bE bB bT bP bY bR bV 32 x y W bl (by omega) hx hy
  rw [ho] at hov
  have HO := hide hov
  clear hfr h hov ho hx hy
  have hq0 : Blk (((w.alloc (.cells #[.int .u32 cC, .int .u8 cE, .int .u16 cB, .int .u16 cT, .int .u16 cP, .int .u16 cY, .int .u32 cR, .bool cV] 25)).alloc (.cells #[.int .u32 bC, .int .u8 bE, .int .u16 bB, .int .u16 bT, .int .u16 bP, .int .u16 bY, .int .u32 bR, .bool bV] 25)).alloc (.cells #[.int .u32 0, .int .u8 0, .int .u16 0, .int .u16 0, .int .u16 0, .int .u16 0, .int .u32 0, .bool false] 25)) w.heap.size 25 #[.int .u32 cC, .int .u8 cE, .int .u16 cB, .int .u16 cT, .int .u16 cP, .int .u16 cY, .int .u32 cR, .bool cV] := by (repeat (first | (with_reducible exact Blk.new _ _ _) | (with_reducible refine Blk.drewN ?_ _) | (with_reducible refine Blk.drew ?_) | exact Blk.newAt (by simp) _ _ | (with_reducible refine Blk.alloc ?_ _)))
  have hq1 : Blk (((w.alloc (.cells #[.int .u32 cC, .int .u8 cE, .int .u16 cB, .int .u16 cT, .int .u16 cP, .int .u16 cY, .int .u32 cR, .bool cV] 25)).alloc (.cells #[.int .u32 bC, .int .u8 bE, .int .u16 bB, .int .u16 bT, .int .u16 bP, .int .u16 bY, .int .u32 bR, .bool bV] 25)).alloc (.cells #[.int .u32 0, .int .u8 0, .int .u16 0, .int .u16 0, .int .u16 0, .int .u16 0, .int .u32 0, .bool false] 25)) (w.heap.size + 1) 25 #[.int .u32 bC, .int .u8 bE, .int .u16 bB, .int .u16 bT, .int .u16 bP, .int .u16 bY, .int .u32 bR, .bool bV] := by (repeat (first | (with_reducible exact Blk.new _ _ _) | (with_reducible refine Blk.drewN ?_ _) | (with_reducible refine Blk.drew ?_) | exact Blk.newAt (by simp) _ _ | (with_reducible refine Blk.alloc ?_ _)))
  have hq2 : Blk (((w.alloc (.cells #[.int .u32 cC, .int .u8 cE, .int .u16 cB, .int .u16 cT, .int .u16 cP, .int .u16 cY, .int .u32 cR, .bool cV] 25)).alloc (.cells #[.int .u32 bC, .int .u8 bE, .int .u16 bB, .int .u16 bT, .int .u16 bP, .int .u16 bY, .int .u32 bR, .bool bV] 25)).alloc (.cells #[.int .u32 0, .int .u8 0, .int .u16 0, .int .u16 0, .int .u16 0, .int .u16 0, .int .u32 0, .bool false] 25)) (w.heap.size + 1 + 1) 25 #[.int .u32 0, .int .u8 0, .int .u16 0, .int .u16 0, .int .u16 0, .int .u16 0, .int .u32 0, .bool false] := by (repeat (first | (with_reducible exact Blk.new _ _ _) | (with_reducible refine Blk.drewN ?_ _) | (with_reducible refine Blk.drew ?_) | exact Blk.newAt (by simp) _ _ | (with_reducible refine Blk.alloc ?_ _)))
  have kb : Below w.heap.size w (((w.alloc (.cells #[.int .u32 cC, .int .u8 cE, .int .u16 cB, .int .u16 cT, .int .u16 cP, .int .u16 cY, .int .u32 cR, .bool cV] 25)).alloc (.cells #[.int .u32 bC, .int .u8 bE, .int .u16 bB, .int .u16 bT, .int .u16 bP, .int .u16 bY, .int .u32 bR, .bool bV] 25)).alloc (.cells #[.int .u32 0, .int .u8 0, .int .u16 0, .int .u16 0, .int .u16 0, .int .u16 0, .int .u32 0, .bool false] 25)) := by (repeat (first | (with_reducible exact Below.refl _ _) | (with_reducible refine Below.drew ?_) | (with_reducible refine below_drewN ?_ _) | (with_reducible refine Below.alloc ?_ (by simp <;> omega) _) | (with_reducible refine Below.setCell ?_ (by simp <;> omega) _)))
  have hsz : (((w.alloc (.cells #[.int .u32 cC, .int .u8 cE, .int .u16 cB, .int .u16 cT, .int .u16 cP, .int .u16 cY, .int .u32 cR, .bool cV] 25)).alloc (.cells #[.int .u32 bC, .int .u8 bE, .int .u16 bB, .int .u16 bT, .int .u16 bP, .int .u16 bY, .int .u32 bR, .bool bV] 25)).alloc (.cells #[.int .u32 0, .int .u8 0, .int .u16 0, .int .u16 0, .int .u16 0, .int .u16 0, .int .u32 0, .bool false] 25)).heap.size = w.heap.size + 1 + 1 + 1 := by simp
  go_enter Try.func27, Try.ntmps27
  go_wp2_with fail
  refine (HF.out _).mono ?_
  rintro e w1 ⟨rfl, hb1⟩
  have hq0 := (hq0).below hb1 (by first | omega | (simp; omega))
  have hq1 := (hq1).below hb1 (by first | omega | (simp; omega))
  have hq2 := (hq2).below hb1 (by first | omega | (simp; omega))
  have kb := (kb).trans (hb1.mono kb.size)
  have hsz1 : w.heap.size + 1 + 1 + 1 ≤ w1.heap.size := by have := hb1.size; omega
  clear hb1
  have p0 := hq0.cell 0
  have pz0 := hq0.frozen 0
  have p1 := hq0.cell 1
  have pz1 := hq0.frozen 1
  have p2 := hq0.cell 2
  have pz2 := hq0.frozen 2
  have p3 := hq0.cell 3
  have pz3 := hq0.frozen 3
  have p4 := hq0.cell 4
  have pz4 := hq0.frozen 4
  have p5 := hq0.cell 5
  have pz5 := hq0.frozen 5
  have p6 := hq0.cell 6
  have pz6 := hq0.frozen 6
  have p7 := hq0.cell 7
  have pz7 := hq0.frozen 7
  simp at p0 p1 p2 p3 p4 p5 p6 p7
  have s0 := hq1.cell 0
  have s1 := hq1.cell 1
  have s2 := hq1.cell 2
  have s3 := hq1.cell 3
  have s4 := hq1.cell 4
  have s5 := hq1.cell 5
  have s6 := hq1.cell 6
  have s7 := hq1.cell 7
  simp at s0 s1 s2 s3 s4 s5 s6 s7
  have r0 := hq2.cell 0
  have rz0 := hq2.frozen 0
  have r1 := hq2.cell 1
  have rz1 := hq2.frozen 1
  have r2 := hq2.cell 2
  have rz2 := hq2.frozen 2
  have r3 := hq2.cell 3
  have rz3 := hq2.frozen 3
  have r4 := hq2.cell 4
  have rz4 := hq2.frozen 4
  have r5 := hq2.cell 5
  have rz5 := hq2.frozen 5
  have r6 := hq2.cell 6
  have rz6 := hq2.frozen 6
  have r7 := hq2.cell 7
  have rz7 := hq2.frozen 7
  simp at r0 r1 r2 r3 r4 r5 r6 r7
  have HK := hide kb
  have H0 := hide hq0
  have H1 := hide hq1
  have H2 := hide hq2
  clear kb hq0 hq1 hq2
  go_wp2_with fail
  have kb := HK.out
  have hq0 := H0.out
  have hq1 := H1.out
  have hq2 := H2.out
  clear HK H0 H1 H2
  refine (HO.out _).mono ?_
  rintro e w2 ⟨rfl, hb2⟩
  have hq0 := (hq0).below hb2 (by first | omega | (simp; omega))
  have hq1 := (hq1).below hb2 (by first | omega | (simp; omega))
  have hq2 := (hq2).below hb2 (by first | omega | (simp; omega))
  have kb := (kb).trans (hb2.mono kb.size)
  have hsz2 : w.heap.size + 1 + 1 + 1 ≤ w2.heap.size := by have := hb2.size; omega
  clear hb2
  clear p0 p1 p2 p3 p4 p5 p6 p7 s0 s1 s2 s3 s4 s5 s6 s7 r0 r1 r2 r3 r4 r5 r6 r7 pz0 rz0 pz1 rz1 pz2 rz2 pz3 rz3 pz4 rz4 pz5 rz5 pz6 rz6 pz7 rz7
  have p0 := hq0.cell 0
  have pz0 := hq0.frozen 0
  have p1 := hq0.cell 1
  have pz1 := hq0.frozen 1
  have p2 := hq0.cell 2
  have pz2 := hq0.frozen 2
  have p3 := hq0.cell 3
  have pz3 := hq0.frozen 3
  have p4 := hq0.cell 4
  have pz4 := hq0.frozen 4
  have p5 := hq0.cell 5
  have pz5 := hq0.frozen 5
  have p6 := hq0.cell 6
  have pz6 := hq0.frozen 6
  have p7 := hq0.cell 7
  have pz7 := hq0.frozen 7
  simp at p0 p1 p2 p3 p4 p5 p6 p7
  have s0 := hq1.cell 0
  have s1 := hq1.cell 1
  have s2 := hq1.cell 2
  have s3 := hq1.cell 3
  have s4 := hq1.cell 4
  have s5 := hq1.cell 5
  have s6 := hq1.cell 6
  have s7 := hq1.cell 7
  simp at s0 s1 s2 s3 s4 s5 s6 s7
  have r0 := hq2.cell 0
  have rz0 := hq2.frozen 0
  have r1 := hq2.cell 1
  have rz1 := hq2.frozen 1
  have r2 := hq2.cell 2
  have rz2 := hq2.frozen 2
  have r3 := hq2.cell 3
  have rz3 := hq2.frozen 3
  have r4 := hq2.cell 4
  have rz4 := hq2.frozen 4
  have r5 := hq2.cell 5
  have rz5 := hq2.frozen 5
  have r6 := hq2.cell 6
  have rz6 := hq2.frozen 6
  have r7 := hq2.cell 7
  have rz7 := hq2.frozen 7
  simp at r0 r1 r2 r3 r4 r5 r6 r7
  have HK := hide kb
  have H0 := hide hq0
  have H1 := hide hq1
  have H2 := hide hq2
  clear kb hq0 hq1 hq2
  go_wp2_with fail
  have kb := HK.out
  have hq0 := H0.out
  have hq1 := H1.out
  have hq2 := H2.out
  clear HK H0 H1 H2
  refine (with_z cC cE cB cT cP cY cR cV _).mono ?_
  rintro e w3 ⟨rfl, hb3⟩
  have hq0 := (hq0).below hb3 (by first | omega | (simp; omega))
  have hq1 := (hq1).below hb3 (by first | omega | (simp; omega))
  have hq2 := (hq2).below hb3 (by first | omega | (simp; omega))
  have kb := (kb).trans (hb3.mono kb.size)
  have hsz3 : w.heap.size + 1 + 1 + 1 ≤ w3.heap.size := by have := hb3.size; omega
  clear hb3
  clear p0 p1 p2 p3 p4 p5 p6 p7 s0 s1 s2 s3 s4 s5 s6 s7 r0 r1 r2 r3 r4 r5 r6 r7 pz0 rz0 pz1 rz1 pz2 rz2 pz3 rz3 pz4 rz4 pz5 rz5 pz6 rz6 pz7 rz7
  have r0 := hq2.cell 0
  have rz0 := hq2.frozen 0
  have r1 := hq2.cell 1
  have rz1 := hq2.frozen 1
  have r2 := hq2.cell 2
  have rz2 := hq2.frozen 2
  have r3 := hq2.cell 3
  have rz3 := hq2.frozen 3
  have r4 := hq2.cell 4
  have rz4 := hq2.frozen 4
  have r5 := hq2.cell 5
  have rz5 := hq2.frozen 5
  have r6 := hq2.cell 6
  have rz6 := hq2.frozen 6
  have r7 := hq2.cell 7
  have rz7 := hq2.frozen 7
  simp at r0 r1 r2 r3 r4 r5 r6 r7
  have HK := hide kb
  clear kb hq0 hq1 hq2
  go_wp2
  refine bodyPost_ret (v := .agg #[.int .u32 cC, .int .u8 cE, .int .u16 cB, .int .u16 cT, .int .u16 cP, .int .u16 cY, .int .u32 cR, .bool false]) (by simp [results, Try.results27, go_sem, r0, r1, r2, r3, r4, r5, r6, r7]) rfl ⟨rfl, ?_⟩
  repeat (first | (with_reducible refine Below.setCell ?_ (by simp <;> omega) _))
  exact HK.out


theorem rseal_y (cC cE cB cT cP cY cR : Nat) (cV : Bool) (bC bE bB bT bP bY bR : Nat) (bV : Bool) (x y : Nat) (w : World) (bl : capB bC bE bB bT bP bY bR) (hx : (decN bE bB bT bC).1 = x) (hy : (decN bE bB bT bC).2 = y) (h : freeN cY cV = true) (ho : overN bC bP bY bV 32 x y = true) :
    Calls Try.prog 27 #[.agg #[.int .u32 cC, .int .u8 cE, .int .u16 cB, .int .u16 cT, .int .u16 cP, .int .u16 cY, .int .u32 cR, .bool cV], .agg #[.int .u32 bC, .int .u8 bE, .int .u16 bB, .int .u16 bT, .int .u16 bP, .int .u16 bY, .int .u32 bR, .bool bV]] w fun e w' => e = .returned (.agg #[.int .u32 cC, .int .u8 cE, .int .u16 cB, .int .u16 cT, .int .u16 cP, .int .u16 bC, .int .u32 cR, .bool cV]) ∧ Below w.heap.size w w' := by
  have hfr := fun W => rfree_any cC cE cB cT cP cY cR cV W
  rw [h] at hfr
  have HF := hide hfr
  have hov := fun W => rover_any bC bE bB bT bP bY bR bV 32 x y W bl (by omega) hx hy
  rw [ho] at hov
  have HO := hide hov
  have hb4 := overN_le ho
  clear hfr h hov ho hx hy
  have hq0 : Blk (((w.alloc (.cells #[.int .u32 cC, .int .u8 cE, .int .u16 cB, .int .u16 cT, .int .u16 cP, .int .u16 cY, .int .u32 cR, .bool cV] 25)).alloc (.cells #[.int .u32 bC, .int .u8 bE, .int .u16 bB, .int .u16 bT, .int .u16 bP, .int .u16 bY, .int .u32 bR, .bool bV] 25)).alloc (.cells #[.int .u32 0, .int .u8 0, .int .u16 0, .int .u16 0, .int .u16 0, .int .u16 0, .int .u32 0, .bool false] 25)) w.heap.size 25 #[.int .u32 cC, .int .u8 cE, .int .u16 cB, .int .u16 cT, .int .u16 cP, .int .u16 cY, .int .u32 cR, .bool cV] := by (repeat (first | (with_reducible exact Blk.new _ _ _) | (with_reducible refine Blk.drewN ?_ _) | (with_reducible refine Blk.drew ?_) | exact Blk.newAt (by simp) _ _ | (with_reducible refine Blk.alloc ?_ _)))
  have hq1 : Blk (((w.alloc (.cells #[.int .u32 cC, .int .u8 cE, .int .u16 cB, .int .u16 cT, .int .u16 cP, .int .u16 cY, .int .u32 cR, .bool cV] 25)).alloc (.cells #[.int .u32 bC, .int .u8 bE, .int .u16 bB, .int .u16 bT, .int .u16 bP, .int .u16 bY, .int .u32 bR, .bool bV] 25)).alloc (.cells #[.int .u32 0, .int .u8 0, .int .u16 0, .int .u16 0, .int .u16 0, .int .u16 0, .int .u32 0, .bool false] 25)) (w.heap.size + 1) 25 #[.int .u32 bC, .int .u8 bE, .int .u16 bB, .int .u16 bT, .int .u16 bP, .int .u16 bY, .int .u32 bR, .bool bV] := by (repeat (first | (with_reducible exact Blk.new _ _ _) | (with_reducible refine Blk.drewN ?_ _) | (with_reducible refine Blk.drew ?_) | exact Blk.newAt (by simp) _ _ | (with_reducible refine Blk.alloc ?_ _)))
  have hq2 : Blk (((w.alloc (.cells #[.int .u32 cC, .int .u8 cE, .int .u16 cB, .int .u16 cT, .int .u16 cP, .int .u16 cY, .int .u32 cR, .bool cV] 25)).alloc (.cells #[.int .u32 bC, .int .u8 bE, .int .u16 bB, .int .u16 bT, .int .u16 bP, .int .u16 bY, .int .u32 bR, .bool bV] 25)).alloc (.cells #[.int .u32 0, .int .u8 0, .int .u16 0, .int .u16 0, .int .u16 0, .int .u16 0, .int .u32 0, .bool false] 25)) (w.heap.size + 1 + 1) 25 #[.int .u32 0, .int .u8 0, .int .u16 0, .int .u16 0, .int .u16 0, .int .u16 0, .int .u32 0, .bool false] := by (repeat (first | (with_reducible exact Blk.new _ _ _) | (with_reducible refine Blk.drewN ?_ _) | (with_reducible refine Blk.drew ?_) | exact Blk.newAt (by simp) _ _ | (with_reducible refine Blk.alloc ?_ _)))
  have kb : Below w.heap.size w (((w.alloc (.cells #[.int .u32 cC, .int .u8 cE, .int .u16 cB, .int .u16 cT, .int .u16 cP, .int .u16 cY, .int .u32 cR, .bool cV] 25)).alloc (.cells #[.int .u32 bC, .int .u8 bE, .int .u16 bB, .int .u16 bT, .int .u16 bP, .int .u16 bY, .int .u32 bR, .bool bV] 25)).alloc (.cells #[.int .u32 0, .int .u8 0, .int .u16 0, .int .u16 0, .int .u16 0, .int .u16 0, .int .u32 0, .bool false] 25)) := by (repeat (first | (with_reducible exact Below.refl _ _) | (with_reducible refine Below.drew ?_) | (with_reducible refine below_drewN ?_ _) | (with_reducible refine Below.alloc ?_ (by simp <;> omega) _) | (with_reducible refine Below.setCell ?_ (by simp <;> omega) _)))
  have hsz : (((w.alloc (.cells #[.int .u32 cC, .int .u8 cE, .int .u16 cB, .int .u16 cT, .int .u16 cP, .int .u16 cY, .int .u32 cR, .bool cV] 25)).alloc (.cells #[.int .u32 bC, .int .u8 bE, .int .u16 bB, .int .u16 bT, .int .u16 bP, .int .u16 bY, .int .u32 bR, .bool bV] 25)).alloc (.cells #[.int .u32 0, .int .u8 0, .int .u16 0, .int .u16 0, .int .u16 0, .int .u16 0, .int .u32 0, .bool false] 25)).heap.size = w.heap.size + 1 + 1 + 1 := by simp
  go_enter Try.func27, Try.ntmps27
  go_wp2_with fail
  refine (HF.out _).mono ?_
  rintro e w1 ⟨rfl, hb1⟩
  have hq0 := (hq0).below hb1 (by first | omega | (simp; omega))
  have hq1 := (hq1).below hb1 (by first | omega | (simp; omega))
  have hq2 := (hq2).below hb1 (by first | omega | (simp; omega))
  have kb := (kb).trans (hb1.mono kb.size)
  have hsz1 : w.heap.size + 1 + 1 + 1 ≤ w1.heap.size := by have := hb1.size; omega
  clear hb1
  have p0 := hq0.cell 0
  have pz0 := hq0.frozen 0
  have p1 := hq0.cell 1
  have pz1 := hq0.frozen 1
  have p2 := hq0.cell 2
  have pz2 := hq0.frozen 2
  have p3 := hq0.cell 3
  have pz3 := hq0.frozen 3
  have p4 := hq0.cell 4
  have pz4 := hq0.frozen 4
  have p5 := hq0.cell 5
  have pz5 := hq0.frozen 5
  have p6 := hq0.cell 6
  have pz6 := hq0.frozen 6
  have p7 := hq0.cell 7
  have pz7 := hq0.frozen 7
  simp at p0 p1 p2 p3 p4 p5 p6 p7
  have s0 := hq1.cell 0
  have s1 := hq1.cell 1
  have s2 := hq1.cell 2
  have s3 := hq1.cell 3
  have s4 := hq1.cell 4
  have s5 := hq1.cell 5
  have s6 := hq1.cell 6
  have s7 := hq1.cell 7
  simp at s0 s1 s2 s3 s4 s5 s6 s7
  have r0 := hq2.cell 0
  have rz0 := hq2.frozen 0
  have r1 := hq2.cell 1
  have rz1 := hq2.frozen 1
  have r2 := hq2.cell 2
  have rz2 := hq2.frozen 2
  have r3 := hq2.cell 3
  have rz3 := hq2.frozen 3
  have r4 := hq2.cell 4
  have rz4 := hq2.frozen 4
  have r5 := hq2.cell 5
  have rz5 := hq2.frozen 5
  have r6 := hq2.cell 6
  have rz6 := hq2.frozen 6
  have r7 := hq2.cell 7
  have rz7 := hq2.frozen 7
  simp at r0 r1 r2 r3 r4 r5 r6 r7
  have HK := hide kb
  have H0 := hide hq0
  have H1 := hide hq1
  have H2 := hide hq2
  clear kb hq0 hq1 hq2
  go_wp2_with fail
  have kb := HK.out
  have hq0 := H0.out
  have hq1 := H1.out
  have hq2 := H2.out
  clear HK H0 H1 H2
  refine (HO.out _).mono ?_
  rintro e w2 ⟨rfl, hb2⟩
  have hq0 := (hq0).below hb2 (by first | omega | (simp; omega))
  have hq1 := (hq1).below hb2 (by first | omega | (simp; omega))
  have hq2 := (hq2).below hb2 (by first | omega | (simp; omega))
  have kb := (kb).trans (hb2.mono kb.size)
  have hsz2 : w.heap.size + 1 + 1 + 1 ≤ w2.heap.size := by have := hb2.size; omega
  clear hb2
  clear p0 p1 p2 p3 p4 p5 p6 p7 s0 s1 s2 s3 s4 s5 s6 s7 r0 r1 r2 r3 r4 r5 r6 r7 pz0 rz0 pz1 rz1 pz2 rz2 pz3 rz3 pz4 rz4 pz5 rz5 pz6 rz6 pz7 rz7
  have p0 := hq0.cell 0
  have pz0 := hq0.frozen 0
  have p1 := hq0.cell 1
  have pz1 := hq0.frozen 1
  have p2 := hq0.cell 2
  have pz2 := hq0.frozen 2
  have p3 := hq0.cell 3
  have pz3 := hq0.frozen 3
  have p4 := hq0.cell 4
  have pz4 := hq0.frozen 4
  have p5 := hq0.cell 5
  have pz5 := hq0.frozen 5
  have p6 := hq0.cell 6
  have pz6 := hq0.frozen 6
  have p7 := hq0.cell 7
  have pz7 := hq0.frozen 7
  simp at p0 p1 p2 p3 p4 p5 p6 p7
  have s0 := hq1.cell 0
  have s1 := hq1.cell 1
  have s2 := hq1.cell 2
  have s3 := hq1.cell 3
  have s4 := hq1.cell 4
  have s5 := hq1.cell 5
  have s6 := hq1.cell 6
  have s7 := hq1.cell 7
  simp at s0 s1 s2 s3 s4 s5 s6 s7
  have r0 := hq2.cell 0
  have rz0 := hq2.frozen 0
  have r1 := hq2.cell 1
  have rz1 := hq2.frozen 1
  have r2 := hq2.cell 2
  have rz2 := hq2.frozen 2
  have r3 := hq2.cell 3
  have rz3 := hq2.frozen 3
  have r4 := hq2.cell 4
  have rz4 := hq2.frozen 4
  have r5 := hq2.cell 5
  have rz5 := hq2.frozen 5
  have r6 := hq2.cell 6
  have rz6 := hq2.frozen 6
  have r7 := hq2.cell 7
  have rz7 := hq2.frozen 7
  simp at r0 r1 r2 r3 r4 r5 r6 r7
  have HK := hide kb
  have H0 := hide hq0
  have H1 := hide hq1
  have H2 := hide hq2
  clear kb hq0 hq1 hq2
  go_wp2
  refine bodyPost_ret (v := .agg #[.int .u32 cC, .int .u8 cE, .int .u16 cB, .int .u16 cT, .int .u16 cP, .int .u16 bC, .int .u32 cR, .bool cV]) (by simp [results, Try.results27, go_sem, r0, r1, r2, r3, r4, r5, r6, r7]) rfl ⟨rfl, ?_⟩
  repeat (first | (with_reducible refine Below.setCell ?_ (by simp <;> omega) _))
  exact HK.out


theorem ropen_v (cC cE cB cT cP cY cR : Nat) (bC bE bB bT bP bY bR : Nat) (bV : Bool) (w : World)  :
    Calls Try.prog 29 #[.agg #[.int .u32 cC, .int .u8 cE, .int .u16 cB, .int .u16 cT, .int .u16 cP, .int .u16 cY, .int .u32 cR, .bool false], .agg #[.int .u32 bC, .int .u8 bE, .int .u16 bB, .int .u16 bT, .int .u16 bP, .int .u16 bY, .int .u32 bR, .bool bV]] w fun e w' => e = .returned (.agg #[.int .u32 cC, .int .u8 cE, .int .u16 cB, .int .u16 cT, .int .u16 cP, .int .u16 cY, .int .u32 cR, .bool false]) ∧ Below w.heap.size w w' := by
  have hq0 : Blk (((w.alloc (.cells #[.int .u32 cC, .int .u8 cE, .int .u16 cB, .int .u16 cT, .int .u16 cP, .int .u16 cY, .int .u32 cR, .bool false] 25)).alloc (.cells #[.int .u32 bC, .int .u8 bE, .int .u16 bB, .int .u16 bT, .int .u16 bP, .int .u16 bY, .int .u32 bR, .bool bV] 25)).alloc (.cells #[.int .u32 0, .int .u8 0, .int .u16 0, .int .u16 0, .int .u16 0, .int .u16 0, .int .u32 0, .bool false] 25)) w.heap.size 25 #[.int .u32 cC, .int .u8 cE, .int .u16 cB, .int .u16 cT, .int .u16 cP, .int .u16 cY, .int .u32 cR, .bool false] := by (repeat (first | (with_reducible exact Blk.new _ _ _) | (with_reducible refine Blk.drewN ?_ _) | (with_reducible refine Blk.drew ?_) | exact Blk.newAt (by simp) _ _ | (with_reducible refine Blk.alloc ?_ _)))
  have hq1 : Blk (((w.alloc (.cells #[.int .u32 cC, .int .u8 cE, .int .u16 cB, .int .u16 cT, .int .u16 cP, .int .u16 cY, .int .u32 cR, .bool false] 25)).alloc (.cells #[.int .u32 bC, .int .u8 bE, .int .u16 bB, .int .u16 bT, .int .u16 bP, .int .u16 bY, .int .u32 bR, .bool bV] 25)).alloc (.cells #[.int .u32 0, .int .u8 0, .int .u16 0, .int .u16 0, .int .u16 0, .int .u16 0, .int .u32 0, .bool false] 25)) (w.heap.size + 1) 25 #[.int .u32 bC, .int .u8 bE, .int .u16 bB, .int .u16 bT, .int .u16 bP, .int .u16 bY, .int .u32 bR, .bool bV] := by (repeat (first | (with_reducible exact Blk.new _ _ _) | (with_reducible refine Blk.drewN ?_ _) | (with_reducible refine Blk.drew ?_) | exact Blk.newAt (by simp) _ _ | (with_reducible refine Blk.alloc ?_ _)))
  have hq2 : Blk (((w.alloc (.cells #[.int .u32 cC, .int .u8 cE, .int .u16 cB, .int .u16 cT, .int .u16 cP, .int .u16 cY, .int .u32 cR, .bool false] 25)).alloc (.cells #[.int .u32 bC, .int .u8 bE, .int .u16 bB, .int .u16 bT, .int .u16 bP, .int .u16 bY, .int .u32 bR, .bool bV] 25)).alloc (.cells #[.int .u32 0, .int .u8 0, .int .u16 0, .int .u16 0, .int .u16 0, .int .u16 0, .int .u32 0, .bool false] 25)) (w.heap.size + 1 + 1) 25 #[.int .u32 0, .int .u8 0, .int .u16 0, .int .u16 0, .int .u16 0, .int .u16 0, .int .u32 0, .bool false] := by (repeat (first | (with_reducible exact Blk.new _ _ _) | (with_reducible refine Blk.drewN ?_ _) | (with_reducible refine Blk.drew ?_) | exact Blk.newAt (by simp) _ _ | (with_reducible refine Blk.alloc ?_ _)))
  have kb : Below w.heap.size w (((w.alloc (.cells #[.int .u32 cC, .int .u8 cE, .int .u16 cB, .int .u16 cT, .int .u16 cP, .int .u16 cY, .int .u32 cR, .bool false] 25)).alloc (.cells #[.int .u32 bC, .int .u8 bE, .int .u16 bB, .int .u16 bT, .int .u16 bP, .int .u16 bY, .int .u32 bR, .bool bV] 25)).alloc (.cells #[.int .u32 0, .int .u8 0, .int .u16 0, .int .u16 0, .int .u16 0, .int .u16 0, .int .u32 0, .bool false] 25)) := by (repeat (first | (with_reducible exact Below.refl _ _) | (with_reducible refine Below.drew ?_) | (with_reducible refine below_drewN ?_ _) | (with_reducible refine Below.alloc ?_ (by simp <;> omega) _) | (with_reducible refine Below.setCell ?_ (by simp <;> omega) _)))
  have hsz : (((w.alloc (.cells #[.int .u32 cC, .int .u8 cE, .int .u16 cB, .int .u16 cT, .int .u16 cP, .int .u16 cY, .int .u32 cR, .bool false] 25)).alloc (.cells #[.int .u32 bC, .int .u8 bE, .int .u16 bB, .int .u16 bT, .int .u16 bP, .int .u16 bY, .int .u32 bR, .bool bV] 25)).alloc (.cells #[.int .u32 0, .int .u8 0, .int .u16 0, .int .u16 0, .int .u16 0, .int .u16 0, .int .u32 0, .bool false] 25)).heap.size = w.heap.size + 1 + 1 + 1 := by simp
  go_enter Try.func29, Try.ntmps29
  go_wp2_with fail
  refine (with_z cC cE cB cT cP cY cR false _).mono ?_
  rintro e w1 ⟨rfl, hb1⟩
  have hq2 := hq2.below hb1 (by first | (simp; done) | (simp; omega))
  have kb := kb.trans (hb1.mono kb.size)
  clear hb1 hq0 hq1
  have r0 := hq2.cell 0
  have rz0 := hq2.frozen 0
  have r1 := hq2.cell 1
  have rz1 := hq2.frozen 1
  have r2 := hq2.cell 2
  have rz2 := hq2.frozen 2
  have r3 := hq2.cell 3
  have rz3 := hq2.frozen 3
  have r4 := hq2.cell 4
  have rz4 := hq2.frozen 4
  have r5 := hq2.cell 5
  have rz5 := hq2.frozen 5
  have r6 := hq2.cell 6
  have rz6 := hq2.frozen 6
  have r7 := hq2.cell 7
  have rz7 := hq2.frozen 7
  simp at r0 r1 r2 r3 r4 r5 r6 r7
  have HK := hide kb
  clear kb hq2
  go_wp2
  refine bodyPost_ret (v := .agg #[.int .u32 cC, .int .u8 cE, .int .u16 cB, .int .u16 cT, .int .u16 cP, .int .u16 cY, .int .u32 cR, .bool false]) (by simp [results, Try.results29, go_sem, r0, r1, r2, r3, r4, r5, r6, r7]) rfl ⟨rfl, ?_⟩
  repeat (first | (with_reducible refine Below.setCell ?_ (by simp <;> omega) _))
  exact HK.out


theorem ropen_t (cC cE cB cT cP cY cR : Nat) (bC bE bB bT bP bY bR : Nat) (bV : Bool) (w : World) (hy0 : ((cY : Int) == 0) = true) :
    Calls Try.prog 29 #[.agg #[.int .u32 cC, .int .u8 cE, .int .u16 cB, .int .u16 cT, .int .u16 cP, .int .u16 cY, .int .u32 cR, .bool true], .agg #[.int .u32 bC, .int .u8 bE, .int .u16 bB, .int .u16 bT, .int .u16 bP, .int .u16 bY, .int .u32 bR, .bool bV]] w fun e w' => e = .returned (.agg #[.int .u32 cC, .int .u8 cE, .int .u16 cB, .int .u16 cT, .int .u16 cP, .int .u16 cY, .int .u32 cR, .bool false]) ∧ Below w.heap.size w w' := by
  have hq0 : Blk (((w.alloc (.cells #[.int .u32 cC, .int .u8 cE, .int .u16 cB, .int .u16 cT, .int .u16 cP, .int .u16 cY, .int .u32 cR, .bool true] 25)).alloc (.cells #[.int .u32 bC, .int .u8 bE, .int .u16 bB, .int .u16 bT, .int .u16 bP, .int .u16 bY, .int .u32 bR, .bool bV] 25)).alloc (.cells #[.int .u32 0, .int .u8 0, .int .u16 0, .int .u16 0, .int .u16 0, .int .u16 0, .int .u32 0, .bool false] 25)) w.heap.size 25 #[.int .u32 cC, .int .u8 cE, .int .u16 cB, .int .u16 cT, .int .u16 cP, .int .u16 cY, .int .u32 cR, .bool true] := by (repeat (first | (with_reducible exact Blk.new _ _ _) | (with_reducible refine Blk.drewN ?_ _) | (with_reducible refine Blk.drew ?_) | exact Blk.newAt (by simp) _ _ | (with_reducible refine Blk.alloc ?_ _)))
  have hq1 : Blk (((w.alloc (.cells #[.int .u32 cC, .int .u8 cE, .int .u16 cB, .int .u16 cT, .int .u16 cP, .int .u16 cY, .int .u32 cR, .bool true] 25)).alloc (.cells #[.int .u32 bC, .int .u8 bE, .int .u16 bB, .int .u16 bT, .int .u16 bP, .int .u16 bY, .int .u32 bR, .bool bV] 25)).alloc (.cells #[.int .u32 0, .int .u8 0, .int .u16 0, .int .u16 0, .int .u16 0, .int .u16 0, .int .u32 0, .bool false] 25)) (w.heap.size + 1) 25 #[.int .u32 bC, .int .u8 bE, .int .u16 bB, .int .u16 bT, .int .u16 bP, .int .u16 bY, .int .u32 bR, .bool bV] := by (repeat (first | (with_reducible exact Blk.new _ _ _) | (with_reducible refine Blk.drewN ?_ _) | (with_reducible refine Blk.drew ?_) | exact Blk.newAt (by simp) _ _ | (with_reducible refine Blk.alloc ?_ _)))
  have hq2 : Blk (((w.alloc (.cells #[.int .u32 cC, .int .u8 cE, .int .u16 cB, .int .u16 cT, .int .u16 cP, .int .u16 cY, .int .u32 cR, .bool true] 25)).alloc (.cells #[.int .u32 bC, .int .u8 bE, .int .u16 bB, .int .u16 bT, .int .u16 bP, .int .u16 bY, .int .u32 bR, .bool bV] 25)).alloc (.cells #[.int .u32 0, .int .u8 0, .int .u16 0, .int .u16 0, .int .u16 0, .int .u16 0, .int .u32 0, .bool false] 25)) (w.heap.size + 1 + 1) 25 #[.int .u32 0, .int .u8 0, .int .u16 0, .int .u16 0, .int .u16 0, .int .u16 0, .int .u32 0, .bool false] := by (repeat (first | (with_reducible exact Blk.new _ _ _) | (with_reducible refine Blk.drewN ?_ _) | (with_reducible refine Blk.drew ?_) | exact Blk.newAt (by simp) _ _ | (with_reducible refine Blk.alloc ?_ _)))
  have kb : Below w.heap.size w (((w.alloc (.cells #[.int .u32 cC, .int .u8 cE, .int .u16 cB, .int .u16 cT, .int .u16 cP, .int .u16 cY, .int .u32 cR, .bool true] 25)).alloc (.cells #[.int .u32 bC, .int .u8 bE, .int .u16 bB, .int .u16 bT, .int .u16 bP, .int .u16 bY, .int .u32 bR, .bool bV] 25)).alloc (.cells #[.int .u32 0, .int .u8 0, .int .u16 0, .int .u16 0, .int .u16 0, .int .u16 0, .int .u32 0, .bool false] 25)) := by (repeat (first | (with_reducible exact Below.refl _ _) | (with_reducible refine Below.drew ?_) | (with_reducible refine below_drewN ?_ _) | (with_reducible refine Below.alloc ?_ (by simp <;> omega) _) | (with_reducible refine Below.setCell ?_ (by simp <;> omega) _)))
  have hsz : (((w.alloc (.cells #[.int .u32 cC, .int .u8 cE, .int .u16 cB, .int .u16 cT, .int .u16 cP, .int .u16 cY, .int .u32 cR, .bool true] 25)).alloc (.cells #[.int .u32 bC, .int .u8 bE, .int .u16 bB, .int .u16 bT, .int .u16 bP, .int .u16 bY, .int .u32 bR, .bool bV] 25)).alloc (.cells #[.int .u32 0, .int .u8 0, .int .u16 0, .int .u16 0, .int .u16 0, .int .u16 0, .int .u32 0, .bool false] 25)).heap.size = w.heap.size + 1 + 1 + 1 := by simp
  go_enter Try.func29, Try.ntmps29
  go_wp2_with fail
  refine (with_z cC cE cB cT cP cY cR true _).mono ?_
  rintro e w1 ⟨rfl, hb1⟩
  have hq2 := hq2.below hb1 (by first | (simp; done) | (simp; omega))
  have kb := kb.trans (hb1.mono kb.size)
  clear hb1 hq0 hq1
  have r0 := hq2.cell 0
  have rz0 := hq2.frozen 0
  have r1 := hq2.cell 1
  have rz1 := hq2.frozen 1
  have r2 := hq2.cell 2
  have rz2 := hq2.frozen 2
  have r3 := hq2.cell 3
  have rz3 := hq2.frozen 3
  have r4 := hq2.cell 4
  have rz4 := hq2.frozen 4
  have r5 := hq2.cell 5
  have rz5 := hq2.frozen 5
  have r6 := hq2.cell 6
  have rz6 := hq2.frozen 6
  have r7 := hq2.cell 7
  have rz7 := hq2.frozen 7
  simp at r0 r1 r2 r3 r4 r5 r6 r7
  have HK := hide kb
  clear kb hq2
  go_wp2
  refine bodyPost_ret (v := .agg #[.int .u32 cC, .int .u8 cE, .int .u16 cB, .int .u16 cT, .int .u16 cP, .int .u16 cY, .int .u32 cR, .bool false]) (by simp [results, Try.results29, go_sem, r0, r1, r2, r3, r4, r5, r6, r7]) rfl ⟨rfl, ?_⟩
  repeat (first | (with_reducible refine Below.setCell ?_ (by simp <;> omega) _))
  exact HK.out


theorem ropen_o (cC cE cB cT cP cY cR : Nat) (bC bE bB bT bP bY bR : Nat) (bV : Bool) (x y : Nat) (w : World) (bl : capB bC bE bB bT bP bY bR) (hx : (decN bE bB bT bC).1 = x) (hy : (decN bE bB bT bC).2 = y) (hy0 : ((cY : Int) == 0) = false) (ho : overN bC bP bY bV 64 x y = false) :
    Calls Try.prog 29 #[.agg #[.int .u32 cC, .int .u8 cE, .int .u16 cB, .int .u16 cT, .int .u16 cP, .int .u16 cY, .int .u32 cR, .bool true], .agg #[.int .u32 bC, .int .u8 bE, .int .u16 bB, .int .u16 bT, .int .u16 bP, .int .u16 bY, .int .u32 bR, .bool bV]] w fun e w' => e = .returned (.agg #[.int .u32 cC, .int .u8 cE, .int .u16 cB, .int .u16 cT, .int .u16 cP, .int .u16 cY, .int .u32 cR, .bool false]) ∧ Below w.heap.size w w' := by
  have hov := fun W => rover_any bC bE bB bT bP bY bR bV 64 x y W bl (by omega) hx hy
  rw [ho] at hov
  have HO := hide hov
  clear hov ho hx hy
  have hq0 : Blk (((w.alloc (.cells #[.int .u32 cC, .int .u8 cE, .int .u16 cB, .int .u16 cT, .int .u16 cP, .int .u16 cY, .int .u32 cR, .bool true] 25)).alloc (.cells #[.int .u32 bC, .int .u8 bE, .int .u16 bB, .int .u16 bT, .int .u16 bP, .int .u16 bY, .int .u32 bR, .bool bV] 25)).alloc (.cells #[.int .u32 0, .int .u8 0, .int .u16 0, .int .u16 0, .int .u16 0, .int .u16 0, .int .u32 0, .bool false] 25)) w.heap.size 25 #[.int .u32 cC, .int .u8 cE, .int .u16 cB, .int .u16 cT, .int .u16 cP, .int .u16 cY, .int .u32 cR, .bool true] := by (repeat (first | (with_reducible exact Blk.new _ _ _) | (with_reducible refine Blk.drewN ?_ _) | (with_reducible refine Blk.drew ?_) | exact Blk.newAt (by simp) _ _ | (with_reducible refine Blk.alloc ?_ _)))
  have hq1 : Blk (((w.alloc (.cells #[.int .u32 cC, .int .u8 cE, .int .u16 cB, .int .u16 cT, .int .u16 cP, .int .u16 cY, .int .u32 cR, .bool true] 25)).alloc (.cells #[.int .u32 bC, .int .u8 bE, .int .u16 bB, .int .u16 bT, .int .u16 bP, .int .u16 bY, .int .u32 bR, .bool bV] 25)).alloc (.cells #[.int .u32 0, .int .u8 0, .int .u16 0, .int .u16 0, .int .u16 0, .int .u16 0, .int .u32 0, .bool false] 25)) (w.heap.size + 1) 25 #[.int .u32 bC, .int .u8 bE, .int .u16 bB, .int .u16 bT, .int .u16 bP, .int .u16 bY, .int .u32 bR, .bool bV] := by (repeat (first | (with_reducible exact Blk.new _ _ _) | (with_reducible refine Blk.drewN ?_ _) | (with_reducible refine Blk.drew ?_) | exact Blk.newAt (by simp) _ _ | (with_reducible refine Blk.alloc ?_ _)))
  have hq2 : Blk (((w.alloc (.cells #[.int .u32 cC, .int .u8 cE, .int .u16 cB, .int .u16 cT, .int .u16 cP, .int .u16 cY, .int .u32 cR, .bool true] 25)).alloc (.cells #[.int .u32 bC, .int .u8 bE, .int .u16 bB, .int .u16 bT, .int .u16 bP, .int .u16 bY, .int .u32 bR, .bool bV] 25)).alloc (.cells #[.int .u32 0, .int .u8 0, .int .u16 0, .int .u16 0, .int .u16 0, .int .u16 0, .int .u32 0, .bool false] 25)) (w.heap.size + 1 + 1) 25 #[.int .u32 0, .int .u8 0, .int .u16 0, .int .u16 0, .int .u16 0, .int .u16 0, .int .u32 0, .bool false] := by (repeat (first | (with_reducible exact Blk.new _ _ _) | (with_reducible refine Blk.drewN ?_ _) | (with_reducible refine Blk.drew ?_) | exact Blk.newAt (by simp) _ _ | (with_reducible refine Blk.alloc ?_ _)))
  have kb : Below w.heap.size w (((w.alloc (.cells #[.int .u32 cC, .int .u8 cE, .int .u16 cB, .int .u16 cT, .int .u16 cP, .int .u16 cY, .int .u32 cR, .bool true] 25)).alloc (.cells #[.int .u32 bC, .int .u8 bE, .int .u16 bB, .int .u16 bT, .int .u16 bP, .int .u16 bY, .int .u32 bR, .bool bV] 25)).alloc (.cells #[.int .u32 0, .int .u8 0, .int .u16 0, .int .u16 0, .int .u16 0, .int .u16 0, .int .u32 0, .bool false] 25)) := by (repeat (first | (with_reducible exact Below.refl _ _) | (with_reducible refine Below.drew ?_) | (with_reducible refine below_drewN ?_ _) | (with_reducible refine Below.alloc ?_ (by simp <;> omega) _) | (with_reducible refine Below.setCell ?_ (by simp <;> omega) _)))
  have hsz : (((w.alloc (.cells #[.int .u32 cC, .int .u8 cE, .int .u16 cB, .int .u16 cT, .int .u16 cP, .int .u16 cY, .int .u32 cR, .bool true] 25)).alloc (.cells #[.int .u32 bC, .int .u8 bE, .int .u16 bB, .int .u16 bT, .int .u16 bP, .int .u16 bY, .int .u32 bR, .bool bV] 25)).alloc (.cells #[.int .u32 0, .int .u8 0, .int .u16 0, .int .u16 0, .int .u16 0, .int .u16 0, .int .u32 0, .bool false] 25)).heap.size = w.heap.size + 1 + 1 + 1 := by simp
  go_enter Try.func29, Try.ntmps29
  go_wp2_with fail
  refine (HO.out _).mono ?_
  rintro e w1 ⟨rfl, hb1⟩
  have hq0 := (hq0).below hb1 (by first | omega | (simp; omega))
  have hq1 := (hq1).below hb1 (by first | omega | (simp; omega))
  have hq2 := (hq2).below hb1 (by first | omega | (simp; omega))
  have kb := (kb).trans (hb1.mono kb.size)
  have hsz1 : w.heap.size + 1 + 1 + 1 ≤ w1.heap.size := by have := hb1.size; omega
  clear hb1
  have p0 := hq0.cell 0
  have pz0 := hq0.frozen 0
  have p1 := hq0.cell 1
  have pz1 := hq0.frozen 1
  have p2 := hq0.cell 2
  have pz2 := hq0.frozen 2
  have p3 := hq0.cell 3
  have pz3 := hq0.frozen 3
  have p4 := hq0.cell 4
  have pz4 := hq0.frozen 4
  have p5 := hq0.cell 5
  have pz5 := hq0.frozen 5
  have p6 := hq0.cell 6
  have pz6 := hq0.frozen 6
  have p7 := hq0.cell 7
  have pz7 := hq0.frozen 7
  simp at p0 p1 p2 p3 p4 p5 p6 p7
  have s0 := hq1.cell 0
  have s1 := hq1.cell 1
  have s2 := hq1.cell 2
  have s3 := hq1.cell 3
  have s4 := hq1.cell 4
  have s5 := hq1.cell 5
  have s6 := hq1.cell 6
  have s7 := hq1.cell 7
  simp at s0 s1 s2 s3 s4 s5 s6 s7
  have r0 := hq2.cell 0
  have rz0 := hq2.frozen 0
  have r1 := hq2.cell 1
  have rz1 := hq2.frozen 1
  have r2 := hq2.cell 2
  have rz2 := hq2.frozen 2
  have r3 := hq2.cell 3
  have rz3 := hq2.frozen 3
  have r4 := hq2.cell 4
  have rz4 := hq2.frozen 4
  have r5 := hq2.cell 5
  have rz5 := hq2.frozen 5
  have r6 := hq2.cell 6
  have rz6 := hq2.frozen 6
  have r7 := hq2.cell 7
  have rz7 := hq2.frozen 7
  simp at r0 r1 r2 r3 r4 r5 r6 r7
  have HK := hide kb
  have H0 := hide hq0
  have H1 := hide hq1
  have H2 := hide hq2
  clear kb hq0 hq1 hq2
  go_wp2_with fail
  have kb := HK.out
  have hq0 := H0.out
  have hq1 := H1.out
  have hq2 := H2.out
  clear HK H0 H1 H2
  refine (with_z cC cE cB cT cP cY cR true _).mono ?_
  rintro e w2 ⟨rfl, hb2⟩
  have hq0 := (hq0).below hb2 (by first | omega | (simp; omega))
  have hq1 := (hq1).below hb2 (by first | omega | (simp; omega))
  have hq2 := (hq2).below hb2 (by first | omega | (simp; omega))
  have kb := (kb).trans (hb2.mono kb.size)
  have hsz2 : w.heap.size + 1 + 1 + 1 ≤ w2.heap.size := by have := hb2.size; omega
  clear hb2
  clear p0 p1 p2 p3 p4 p5 p6 p7 s0 s1 s2 s3 s4 s5 s6 s7 r0 r1 r2 r3 r4 r5 r6 r7 pz0 rz0 pz1 rz1 pz2 rz2 pz3 rz3 pz4 rz4 pz5 rz5 pz6 rz6 pz7 rz7
  have r0 := hq2.cell 0
  have rz0 := hq2.frozen 0
  have r1 := hq2.cell 1
  have rz1 := hq2.frozen 1
  have r2 := hq2.cell 2
  have rz2 := hq2.frozen 2
  have r3 := hq2.cell 3
  have rz3 := hq2.frozen 3
  have r4 := hq2.cell 4
  have rz4 := hq2.frozen 4
  have r5 := hq2.cell 5
  have rz5 := hq2.frozen 5
  have r6 := hq2.cell 6
  have rz6 := hq2.frozen 6
  have r7 := hq2.cell 7
  have rz7 := hq2.frozen 7
  simp at r0 r1 r2 r3 r4 r5 r6 r7
  have HK := hide kb
  clear kb hq0 hq1 hq2
  go_wp2
  refine bodyPost_ret (v := .agg #[.int .u32 cC, .int .u8 cE, .int .u16 cB, .int .u16 cT, .int .u16 cP, .int .u16 cY, .int .u32 cR, .bool false]) (by simp [results, Try.results29, go_sem, r0, r1, r2, r3, r4, r5, r6, r7]) rfl ⟨rfl, ?_⟩
  repeat (first | (with_reducible refine Below.setCell ?_ (by simp <;> omega) _))
  exact HK.out


theorem ropen_n (cC cE cB cT cP cY cR : Nat) (bC bE bB bT bP bY bR : Nat) (bV : Bool) (x y : Nat) (w : World) (bl : capB bC bE bB bT bP bY bR) (hx : (decN bE bB bT bC).1 = x) (hy : (decN bE bB bT bC).2 = y) (hy0 : ((cY : Int) == 0) = false) (ho : overN bC bP bY bV 64 x y = true) (hn : ((cY : Int) != (bC : Int)) = true) (_hn2 : ((cY : Int) == (bC : Int)) = false) (_hyl : cY < 65536) :
    Calls Try.prog 29 #[.agg #[.int .u32 cC, .int .u8 cE, .int .u16 cB, .int .u16 cT, .int .u16 cP, .int .u16 cY, .int .u32 cR, .bool true], .agg #[.int .u32 bC, .int .u8 bE, .int .u16 bB, .int .u16 bT, .int .u16 bP, .int .u16 bY, .int .u32 bR, .bool bV]] w fun e w' => e = .returned (.agg #[.int .u32 cC, .int .u8 cE, .int .u16 cB, .int .u16 cT, .int .u16 cP, .int .u16 cY, .int .u32 cR, .bool false]) ∧ Below w.heap.size w w' := by
  have hov := fun W => rover_any bC bE bB bT bP bY bR bV 64 x y W bl (by omega) hx hy
  rw [ho] at hov
  have HO := hide hov
  clear hov ho hx hy
  have hq0 : Blk (((w.alloc (.cells #[.int .u32 cC, .int .u8 cE, .int .u16 cB, .int .u16 cT, .int .u16 cP, .int .u16 cY, .int .u32 cR, .bool true] 25)).alloc (.cells #[.int .u32 bC, .int .u8 bE, .int .u16 bB, .int .u16 bT, .int .u16 bP, .int .u16 bY, .int .u32 bR, .bool bV] 25)).alloc (.cells #[.int .u32 0, .int .u8 0, .int .u16 0, .int .u16 0, .int .u16 0, .int .u16 0, .int .u32 0, .bool false] 25)) w.heap.size 25 #[.int .u32 cC, .int .u8 cE, .int .u16 cB, .int .u16 cT, .int .u16 cP, .int .u16 cY, .int .u32 cR, .bool true] := by (repeat (first | (with_reducible exact Blk.new _ _ _) | (with_reducible refine Blk.drewN ?_ _) | (with_reducible refine Blk.drew ?_) | exact Blk.newAt (by simp) _ _ | (with_reducible refine Blk.alloc ?_ _)))
  have hq1 : Blk (((w.alloc (.cells #[.int .u32 cC, .int .u8 cE, .int .u16 cB, .int .u16 cT, .int .u16 cP, .int .u16 cY, .int .u32 cR, .bool true] 25)).alloc (.cells #[.int .u32 bC, .int .u8 bE, .int .u16 bB, .int .u16 bT, .int .u16 bP, .int .u16 bY, .int .u32 bR, .bool bV] 25)).alloc (.cells #[.int .u32 0, .int .u8 0, .int .u16 0, .int .u16 0, .int .u16 0, .int .u16 0, .int .u32 0, .bool false] 25)) (w.heap.size + 1) 25 #[.int .u32 bC, .int .u8 bE, .int .u16 bB, .int .u16 bT, .int .u16 bP, .int .u16 bY, .int .u32 bR, .bool bV] := by (repeat (first | (with_reducible exact Blk.new _ _ _) | (with_reducible refine Blk.drewN ?_ _) | (with_reducible refine Blk.drew ?_) | exact Blk.newAt (by simp) _ _ | (with_reducible refine Blk.alloc ?_ _)))
  have hq2 : Blk (((w.alloc (.cells #[.int .u32 cC, .int .u8 cE, .int .u16 cB, .int .u16 cT, .int .u16 cP, .int .u16 cY, .int .u32 cR, .bool true] 25)).alloc (.cells #[.int .u32 bC, .int .u8 bE, .int .u16 bB, .int .u16 bT, .int .u16 bP, .int .u16 bY, .int .u32 bR, .bool bV] 25)).alloc (.cells #[.int .u32 0, .int .u8 0, .int .u16 0, .int .u16 0, .int .u16 0, .int .u16 0, .int .u32 0, .bool false] 25)) (w.heap.size + 1 + 1) 25 #[.int .u32 0, .int .u8 0, .int .u16 0, .int .u16 0, .int .u16 0, .int .u16 0, .int .u32 0, .bool false] := by (repeat (first | (with_reducible exact Blk.new _ _ _) | (with_reducible refine Blk.drewN ?_ _) | (with_reducible refine Blk.drew ?_) | exact Blk.newAt (by simp) _ _ | (with_reducible refine Blk.alloc ?_ _)))
  have kb : Below w.heap.size w (((w.alloc (.cells #[.int .u32 cC, .int .u8 cE, .int .u16 cB, .int .u16 cT, .int .u16 cP, .int .u16 cY, .int .u32 cR, .bool true] 25)).alloc (.cells #[.int .u32 bC, .int .u8 bE, .int .u16 bB, .int .u16 bT, .int .u16 bP, .int .u16 bY, .int .u32 bR, .bool bV] 25)).alloc (.cells #[.int .u32 0, .int .u8 0, .int .u16 0, .int .u16 0, .int .u16 0, .int .u16 0, .int .u32 0, .bool false] 25)) := by (repeat (first | (with_reducible exact Below.refl _ _) | (with_reducible refine Below.drew ?_) | (with_reducible refine below_drewN ?_ _) | (with_reducible refine Below.alloc ?_ (by simp <;> omega) _) | (with_reducible refine Below.setCell ?_ (by simp <;> omega) _)))
  have hsz : (((w.alloc (.cells #[.int .u32 cC, .int .u8 cE, .int .u16 cB, .int .u16 cT, .int .u16 cP, .int .u16 cY, .int .u32 cR, .bool true] 25)).alloc (.cells #[.int .u32 bC, .int .u8 bE, .int .u16 bB, .int .u16 bT, .int .u16 bP, .int .u16 bY, .int .u32 bR, .bool bV] 25)).alloc (.cells #[.int .u32 0, .int .u8 0, .int .u16 0, .int .u16 0, .int .u16 0, .int .u16 0, .int .u32 0, .bool false] 25)).heap.size = w.heap.size + 1 + 1 + 1 := by simp
  go_enter Try.func29, Try.ntmps29
  go_wp2_with fail
  refine (HO.out _).mono ?_
  rintro e w1 ⟨rfl, hb1⟩
  have hq0 := (hq0).below hb1 (by first | omega | (simp; omega))
  have hq1 := (hq1).below hb1 (by first | omega | (simp; omega))
  have hq2 := (hq2).below hb1 (by first | omega | (simp; omega))
  have kb := (kb).trans (hb1.mono kb.size)
  have hsz1 : w.heap.size + 1 + 1 + 1 ≤ w1.heap.size := by have := hb1.size; omega
  clear hb1
  have p0 := hq0.cell 0
  have pz0 := hq0.frozen 0
  have p1 := hq0.cell 1
  have pz1 := hq0.frozen 1
  have p2 := hq0.cell 2
  have pz2 := hq0.frozen 2
  have p3 := hq0.cell 3
  have pz3 := hq0.frozen 3
  have p4 := hq0.cell 4
  have pz4 := hq0.frozen 4
  have p5 := hq0.cell 5
  have pz5 := hq0.frozen 5
  have p6 := hq0.cell 6
  have pz6 := hq0.frozen 6
  have p7 := hq0.cell 7
  have pz7 := hq0.frozen 7
  simp at p0 p1 p2 p3 p4 p5 p6 p7
  have s0 := hq1.cell 0
  have s1 := hq1.cell 1
  have s2 := hq1.cell 2
  have s3 := hq1.cell 3
  have s4 := hq1.cell 4
  have s5 := hq1.cell 5
  have s6 := hq1.cell 6
  have s7 := hq1.cell 7
  simp at s0 s1 s2 s3 s4 s5 s6 s7
  have r0 := hq2.cell 0
  have rz0 := hq2.frozen 0
  have r1 := hq2.cell 1
  have rz1 := hq2.frozen 1
  have r2 := hq2.cell 2
  have rz2 := hq2.frozen 2
  have r3 := hq2.cell 3
  have rz3 := hq2.frozen 3
  have r4 := hq2.cell 4
  have rz4 := hq2.frozen 4
  have r5 := hq2.cell 5
  have rz5 := hq2.frozen 5
  have r6 := hq2.cell 6
  have rz6 := hq2.frozen 6
  have r7 := hq2.cell 7
  have rz7 := hq2.frozen 7
  simp at r0 r1 r2 r3 r4 r5 r6 r7
  have HK := hide kb
  have H0 := hide hq0
  have H1 := hide hq1
  have H2 := hide hq2
  clear kb hq0 hq1 hq2
  go_wp2_with fail
  have kb := HK.out
  have hq0 := H0.out
  have hq1 := H1.out
  have hq2 := H2.out
  clear HK H0 H1 H2
  refine (with_z cC cE cB cT cP cY cR true _).mono ?_
  rintro e w2 ⟨rfl, hb2⟩
  have hq0 := (hq0).below hb2 (by first | omega | (simp; omega))
  have hq1 := (hq1).below hb2 (by first | omega | (simp; omega))
  have hq2 := (hq2).below hb2 (by first | omega | (simp; omega))
  have kb := (kb).trans (hb2.mono kb.size)
  have hsz2 : w.heap.size + 1 + 1 + 1 ≤ w2.heap.size := by have := hb2.size; omega
  clear hb2
  clear p0 p1 p2 p3 p4 p5 p6 p7 s0 s1 s2 s3 s4 s5 s6 s7 r0 r1 r2 r3 r4 r5 r6 r7 pz0 rz0 pz1 rz1 pz2 rz2 pz3 rz3 pz4 rz4 pz5 rz5 pz6 rz6 pz7 rz7
  have r0 := hq2.cell 0
  have rz0 := hq2.frozen 0
  have r1 := hq2.cell 1
  have rz1 := hq2.frozen 1
  have r2 := hq2.cell 2
  have rz2 := hq2.frozen 2
  have r3 := hq2.cell 3
  have rz3 := hq2.frozen 3
  have r4 := hq2.cell 4
  have rz4 := hq2.frozen 4
  have r5 := hq2.cell 5
  have rz5 := hq2.frozen 5
  have r6 := hq2.cell 6
  have rz6 := hq2.frozen 6
  have r7 := hq2.cell 7
  have rz7 := hq2.frozen 7
  simp at r0 r1 r2 r3 r4 r5 r6 r7
  have HK := hide kb
  clear kb hq0 hq1 hq2
  go_wp2
  refine bodyPost_ret (v := .agg #[.int .u32 cC, .int .u8 cE, .int .u16 cB, .int .u16 cT, .int .u16 cP, .int .u16 cY, .int .u32 cR, .bool false]) (by simp [results, Try.results29, go_sem, r0, r1, r2, r3, r4, r5, r6, r7]) rfl ⟨rfl, ?_⟩
  repeat (first | (with_reducible refine Below.setCell ?_ (by simp <;> omega) _))
  exact HK.out


theorem ropen_y (cC cE cB cT cP cY cR : Nat) (bC bE bB bT bP bY bR : Nat) (bV : Bool) (x y : Nat) (w : World) (bl : capB bC bE bB bT bP bY bR) (hx : (decN bE bB bT bC).1 = x) (hy : (decN bE bB bT bC).2 = y) (hy0 : ((cY : Int) == 0) = false) (ho : overN bC bP bY bV 64 x y = true) (hn : ((cY : Int) != (bC : Int)) = false) (_hn2 : ((cY : Int) == (bC : Int)) = true) (_hyl : cY < 65536) :
    Calls Try.prog 29 #[.agg #[.int .u32 cC, .int .u8 cE, .int .u16 cB, .int .u16 cT, .int .u16 cP, .int .u16 cY, .int .u32 cR, .bool true], .agg #[.int .u32 bC, .int .u8 bE, .int .u16 bB, .int .u16 bT, .int .u16 bP, .int .u16 bY, .int .u32 bR, .bool bV]] w fun e w' => e = .returned (.agg #[.int .u32 cC, .int .u8 cE, .int .u16 cB, .int .u16 cT, .int .u16 cP, .int .u16 0, .int .u32 cR, .bool true]) ∧ Below w.heap.size w w' := by
  have hov := fun W => rover_any bC bE bB bT bP bY bR bV 64 x y W bl (by omega) hx hy
  rw [ho] at hov
  have HO := hide hov
  clear hov ho hx hy
  have hq0 : Blk (((w.alloc (.cells #[.int .u32 cC, .int .u8 cE, .int .u16 cB, .int .u16 cT, .int .u16 cP, .int .u16 cY, .int .u32 cR, .bool true] 25)).alloc (.cells #[.int .u32 bC, .int .u8 bE, .int .u16 bB, .int .u16 bT, .int .u16 bP, .int .u16 bY, .int .u32 bR, .bool bV] 25)).alloc (.cells #[.int .u32 0, .int .u8 0, .int .u16 0, .int .u16 0, .int .u16 0, .int .u16 0, .int .u32 0, .bool false] 25)) w.heap.size 25 #[.int .u32 cC, .int .u8 cE, .int .u16 cB, .int .u16 cT, .int .u16 cP, .int .u16 cY, .int .u32 cR, .bool true] := by (repeat (first | (with_reducible exact Blk.new _ _ _) | (with_reducible refine Blk.drewN ?_ _) | (with_reducible refine Blk.drew ?_) | exact Blk.newAt (by simp) _ _ | (with_reducible refine Blk.alloc ?_ _)))
  have hq1 : Blk (((w.alloc (.cells #[.int .u32 cC, .int .u8 cE, .int .u16 cB, .int .u16 cT, .int .u16 cP, .int .u16 cY, .int .u32 cR, .bool true] 25)).alloc (.cells #[.int .u32 bC, .int .u8 bE, .int .u16 bB, .int .u16 bT, .int .u16 bP, .int .u16 bY, .int .u32 bR, .bool bV] 25)).alloc (.cells #[.int .u32 0, .int .u8 0, .int .u16 0, .int .u16 0, .int .u16 0, .int .u16 0, .int .u32 0, .bool false] 25)) (w.heap.size + 1) 25 #[.int .u32 bC, .int .u8 bE, .int .u16 bB, .int .u16 bT, .int .u16 bP, .int .u16 bY, .int .u32 bR, .bool bV] := by (repeat (first | (with_reducible exact Blk.new _ _ _) | (with_reducible refine Blk.drewN ?_ _) | (with_reducible refine Blk.drew ?_) | exact Blk.newAt (by simp) _ _ | (with_reducible refine Blk.alloc ?_ _)))
  have hq2 : Blk (((w.alloc (.cells #[.int .u32 cC, .int .u8 cE, .int .u16 cB, .int .u16 cT, .int .u16 cP, .int .u16 cY, .int .u32 cR, .bool true] 25)).alloc (.cells #[.int .u32 bC, .int .u8 bE, .int .u16 bB, .int .u16 bT, .int .u16 bP, .int .u16 bY, .int .u32 bR, .bool bV] 25)).alloc (.cells #[.int .u32 0, .int .u8 0, .int .u16 0, .int .u16 0, .int .u16 0, .int .u16 0, .int .u32 0, .bool false] 25)) (w.heap.size + 1 + 1) 25 #[.int .u32 0, .int .u8 0, .int .u16 0, .int .u16 0, .int .u16 0, .int .u16 0, .int .u32 0, .bool false] := by (repeat (first | (with_reducible exact Blk.new _ _ _) | (with_reducible refine Blk.drewN ?_ _) | (with_reducible refine Blk.drew ?_) | exact Blk.newAt (by simp) _ _ | (with_reducible refine Blk.alloc ?_ _)))
  have kb : Below w.heap.size w (((w.alloc (.cells #[.int .u32 cC, .int .u8 cE, .int .u16 cB, .int .u16 cT, .int .u16 cP, .int .u16 cY, .int .u32 cR, .bool true] 25)).alloc (.cells #[.int .u32 bC, .int .u8 bE, .int .u16 bB, .int .u16 bT, .int .u16 bP, .int .u16 bY, .int .u32 bR, .bool bV] 25)).alloc (.cells #[.int .u32 0, .int .u8 0, .int .u16 0, .int .u16 0, .int .u16 0, .int .u16 0, .int .u32 0, .bool false] 25)) := by (repeat (first | (with_reducible exact Below.refl _ _) | (with_reducible refine Below.drew ?_) | (with_reducible refine below_drewN ?_ _) | (with_reducible refine Below.alloc ?_ (by simp <;> omega) _) | (with_reducible refine Below.setCell ?_ (by simp <;> omega) _)))
  have hsz : (((w.alloc (.cells #[.int .u32 cC, .int .u8 cE, .int .u16 cB, .int .u16 cT, .int .u16 cP, .int .u16 cY, .int .u32 cR, .bool true] 25)).alloc (.cells #[.int .u32 bC, .int .u8 bE, .int .u16 bB, .int .u16 bT, .int .u16 bP, .int .u16 bY, .int .u32 bR, .bool bV] 25)).alloc (.cells #[.int .u32 0, .int .u8 0, .int .u16 0, .int .u16 0, .int .u16 0, .int .u16 0, .int .u32 0, .bool false] 25)).heap.size = w.heap.size + 1 + 1 + 1 := by simp
  go_enter Try.func29, Try.ntmps29
  go_wp2_with fail
  refine (HO.out _).mono ?_
  rintro e w1 ⟨rfl, hb1⟩
  have hq0 := (hq0).below hb1 (by first | omega | (simp; omega))
  have hq1 := (hq1).below hb1 (by first | omega | (simp; omega))
  have hq2 := (hq2).below hb1 (by first | omega | (simp; omega))
  have kb := (kb).trans (hb1.mono kb.size)
  have hsz1 : w.heap.size + 1 + 1 + 1 ≤ w1.heap.size := by have := hb1.size; omega
  clear hb1
  have p0 := hq0.cell 0
  have pz0 := hq0.frozen 0
  have p1 := hq0.cell 1
  have pz1 := hq0.frozen 1
  have p2 := hq0.cell 2
  have pz2 := hq0.frozen 2
  have p3 := hq0.cell 3
  have pz3 := hq0.frozen 3
  have p4 := hq0.cell 4
  have pz4 := hq0.frozen 4
  have p5 := hq0.cell 5
  have pz5 := hq0.frozen 5
  have p6 := hq0.cell 6
  have pz6 := hq0.frozen 6
  have p7 := hq0.cell 7
  have pz7 := hq0.frozen 7
  simp at p0 p1 p2 p3 p4 p5 p6 p7
  have s0 := hq1.cell 0
  have s1 := hq1.cell 1
  have s2 := hq1.cell 2
  have s3 := hq1.cell 3
  have s4 := hq1.cell 4
  have s5 := hq1.cell 5
  have s6 := hq1.cell 6
  have s7 := hq1.cell 7
  simp at s0 s1 s2 s3 s4 s5 s6 s7
  have r0 := hq2.cell 0
  have rz0 := hq2.frozen 0
  have r1 := hq2.cell 1
  have rz1 := hq2.frozen 1
  have r2 := hq2.cell 2
  have rz2 := hq2.frozen 2
  have r3 := hq2.cell 3
  have rz3 := hq2.frozen 3
  have r4 := hq2.cell 4
  have rz4 := hq2.frozen 4
  have r5 := hq2.cell 5
  have rz5 := hq2.frozen 5
  have r6 := hq2.cell 6
  have rz6 := hq2.frozen 6
  have r7 := hq2.cell 7
  have rz7 := hq2.frozen 7
  simp at r0 r1 r2 r3 r4 r5 r6 r7
  have HK := hide kb
  have H0 := hide hq0
  have H1 := hide hq1
  have H2 := hide hq2
  clear kb hq0 hq1 hq2
  go_wp2
  refine bodyPost_ret (v := .agg #[.int .u32 cC, .int .u8 cE, .int .u16 cB, .int .u16 cT, .int .u16 cP, .int .u16 0, .int .u32 cR, .bool true]) (by simp [results, Try.results29, go_sem, r0, r1, r2, r3, r4, r5, r6, r7]) rfl ⟨rfl, ?_⟩
  repeat (first | (with_reducible refine Below.setCell ?_ (by simp <;> omega) _))
  exact HK.out

end Go.Proofs.Ytljchnfofjmleaa
