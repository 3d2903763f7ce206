/-
  Walks of layer 5: Addr, over, Seal, Open.
-/
import Derived.Test.YtljchnfofjmleaaDerA
namespace Go.Proofs.Ytljchnfofjmleaa
open Go.RowKit
attribute [local go_sem ↓] Go.wp_at_zero Go.wp_at_succ

theorem made2 (cC cE cB cT cP cY cR : Nat) (cV : Bool) (w : World) (g : Nat) (f1 f2 : FuncId) (i1 a1 i2 a2 : Array Value) (b1 b2 : Bool) (h : Blk w g 27 #[.func (.func f1) i1 a1, .func (.func f2) i2 a2])
    (r1 : ∀ W, (callFunc f1 (i1 ++ a1)).run Try.prog W = .ok (.enter f1 (i1 ++ a1)) W) (r2 : ∀ W, (callFunc f2 (i2 ++ a2)).run Try.prog W = .ok (.enter f2 (i2 ++ a2)) W)
    (c1 : ∀ W, Below w.heap.size w W → Calls Try.prog f1 (i1 ++ a1) W fun e W' => e = .returned (.bool b1) ∧ Below W.heap.size W W')
    (c2 : ∀ W, Below w.heap.size w W → Calls Try.prog f2 (i2 ++ a2) W fun e W' => e = .returned (.bool b2) ∧ Below W.heap.size W W') :
    Calls Try.prog 41 #[.agg #[.int .u32 cC, .int .u8 cE, .int .u16 cB, .int .u16 cT, .int .u16 cP, .int .u16 cY, .int .u32 cR, .bool cV], .slice (some ⟨g, 0, none⟩) 2 2] w fun e w' => e = .returned (.agg #[.int .u32 cC, .int .u8 cE, .int .u16 cB, .int .u16 cT, .int .u16 cP, .int .u16 cY, .int .u32 cR, .bool (b1 && b2)]) ∧ Below w.heap.size w w' := by
  have := made_any cC cE cB cT cP cY cR cV g 2 (fun j => if j = 0 then f1 else f2) (fun j => if j = 0 then i1 else i2) (fun j => if j = 0 then a1 else a2) (fun j => if j = 0 then b1 else b2) w (by omega)
    ⟨fun j hj => by
      have hj' : j = 0 ∨ j = 1 := by omega
      rcases hj' with rfl | rfl
      · exact h.cell 0
      · exact h.cell 1,
     fun j hj W hW => by
      have hj' : j = 0 ∨ j = 1 := by omega
      rcases hj' with rfl | rfl
      · exact c1 W hW
      · exact c2 W hW,
     fun j hj W => by
      have hj' : j = 0 ∨ j = 1 := by omega
      rcases hj' with rfl | rfl
      · exact r1 W
      · exact r2 W, h.lt⟩
  exact this
theorem made3 (cC cE cB cT cP cY cR : Nat) (cV : Bool) (w : World) (g : Nat) (f1 f2 f3 : FuncId) (i1 a1 i2 a2 i3 a3 : Array Value) (b1 b2 b3 : Bool) (h : Blk w g 27 #[.func (.func f1) i1 a1, .func (.func f2) i2 a2, .func (.func f3) i3 a3])
    (r1 : ∀ W, (callFunc f1 (i1 ++ a1)).run Try.prog W = .ok (.enter f1 (i1 ++ a1)) W) (r2 : ∀ W, (callFunc f2 (i2 ++ a2)).run Try.prog W = .ok (.enter f2 (i2 ++ a2)) W) (r3 : ∀ W, (callFunc f3 (i3 ++ a3)).run Try.prog W = .ok (.enter f3 (i3 ++ a3)) W)
    (c1 : ∀ W, Below w.heap.size w W → Calls Try.prog f1 (i1 ++ a1) W fun e W' => e = .returned (.bool b1) ∧ Below W.heap.size W W')
    (c2 : ∀ W, Below w.heap.size w W → Calls Try.prog f2 (i2 ++ a2) W fun e W' => e = .returned (.bool b2) ∧ Below W.heap.size W W')
    (c3 : ∀ W, Below w.heap.size w W → Calls Try.prog f3 (i3 ++ a3) W fun e W' => e = .returned (.bool b3) ∧ Below W.heap.size W W') :
    Calls Try.prog 41 #[.agg #[.int .u32 cC, .int .u8 cE, .int .u16 cB, .int .u16 cT, .int .u16 cP, .int .u16 cY, .int .u32 cR, .bool cV], .slice (some ⟨g, 0, none⟩) 3 3] w fun e w' => e = .returned (.agg #[.int .u32 cC, .int .u8 cE, .int .u16 cB, .int .u16 cT, .int .u16 cP, .int .u16 cY, .int .u32 cR, .bool (b1 && b2 && b3)]) ∧ Below w.heap.size w w' := by
  have := made_any cC cE cB cT cP cY cR cV g 3 (fun j => if j = 0 then f1 else if j = 1 then f2 else f3) (fun j => if j = 0 then i1 else if j = 1 then i2 else i3) (fun j => if j = 0 then a1 else if j = 1 then a2 else a3) (fun j => if j = 0 then b1 else if j = 1 then b2 else b3) w (by omega)
    ⟨fun j hj => by
      have hj' : j = 0 ∨ j = 1 ∨ j = 2 := by omega
      rcases hj' with rfl | rfl | rfl
      · exact h.cell 0
      · exact h.cell 1
      · exact h.cell 2,
     fun j hj W hW => by
      have hj' : j = 0 ∨ j = 1 ∨ j = 2 := by omega
      rcases hj' with rfl | rfl | rfl
      · exact c1 W hW
      · exact c2 W hW
      · exact c3 W hW,
     fun j hj W => by
      have hj' : j = 0 ∨ j = 1 ∨ j = 2 := by omega
      rcases hj' with rfl | rfl | rfl
      · exact r1 W
      · exact r2 W
      · exact r3 W, h.lt⟩
  exact this

theorem addr1_any (cC cE cB cT cP cY cR : Nat) (cV : Bool) (gf gc : Nat) (w : World) (hf : Blk w gf 56 #[.func (.func 42) #[] #[]]) (hc : Blk w gc 25 #[.int .u32 cC, .int .u8 cE, .int .u16 cB, .int .u16 cT, .int .u16 cP, .int .u16 cY, .int .u32 cR, .bool cV]) :
    Calls Try.prog 46 #[.pointer (some ⟨gf, 0, none⟩), .pointer (some ⟨gc, 0, none⟩)] w fun e w' => e = .returned (.bool (freeN cY cV)) ∧ Below w.heap.size w w' := by
  have c0 := hf.cell 0
  simp at c0
  have d0 := hc.cell 0
  have d1 := hc.cell 1
  have d2 := hc.cell 2
  have d3 := hc.cell 3
  have d4 := hc.cell 4
  have d5 := hc.cell 5
  have d6 := hc.cell 6
  have d7 := hc.cell 7
  simp at d0 d1 d2 d3 d4 d5 d6 d7
  clear hf hc
  go_enter Try.func46, Try.ntmps46
  go_wp2_with fail
  refine (free_any cC cE cB cT cP cY cR cV _).mono ?_
  rintro e w1 ⟨rfl, hb1⟩
  have HB1 := hide hb1; clear hb1
  go_wp2
  go_ret
  exact ⟨rfl, HB1.out⟩
theorem addr2_any (cC cE cB cT cP cY cR : Nat) (cV : Bool) (to gc gt : Nat) (w : World) (cl : capB cC cE cB cT cP cY cR) (hto : to < 4294967296) (hc : Blk w gc 25 #[.int .u32 cC, .int .u8 cE, .int .u16 cB, .int .u16 cT, .int .u16 cP, .int .u16 cY, .int .u32 cR, .bool cV]) (ht : Blk w gt 22 #[.int .u32 to]) :
    Calls Try.prog 47 #[.pointer (some ⟨gc, 0, none⟩), .pointer (some ⟨gt, 0, none⟩)] w fun e w' => e = .returned (.bool (keepsN cE cB cT cC to)) ∧ Below w.heap.size w w' := by
  have hk := fun W => keeps_any cE cB cT cC to W cl.2.1 cl.2.2.1 cl.2.2.2.1 cl.1 hto
  generalize keepsN cE cB cT cC to = k at *
  have HK := hide hk
  have c0 := ht.cell 0
  simp at c0
  have d0 := hc.cell 0
  have d1 := hc.cell 1
  have d2 := hc.cell 2
  have d3 := hc.cell 3
  simp at d0 d1 d2 d3
  clear hk ht hc
  go_enter Try.func47, Try.ntmps47
  go_wp2_with fail
  refine (HK.out _).mono ?_
  rintro e w1 ⟨rfl, hb1⟩
  have HB1 := hide hb1; clear hb1
  go_wp2
  go_ret
  exact ⟨rfl, HB1.out⟩
theorem addr_any (cC cE cB cT cP cY cR : Nat) (cV : Bool) (to : Nat) (w : World) (cl : capB cC cE cB cT cP cY cR) (hto : to < 4294967296) :
    Calls Try.prog 24 #[.agg #[.int .u32 cC, .int .u8 cE, .int .u16 cB, .int .u16 cT, .int .u16 cP, .int .u16 cY, .int .u32 cR, .bool cV], .int .u32 to] w fun e w' => e = .returned (.agg #[.int .u32 to, .int .u8 cE, .int .u16 cB, .int .u16 cT, .int .u16 cP, .int .u16 cY, .int .u32 cR, .bool (freeN cY cV && keepsN cE cB cT cC to)]) ∧ Below w.heap.size w w' := by
  go_enter Try.func24, Try.ntmps24
  go_wp2_with fail
  refine (made2 to cE cB cT cP cY cR cV _ _ 46 47 #[] #[.pointer (some ⟨w.heap.size + 1 + 1 + 1 + 1, 0, none⟩), .pointer (some ⟨w.heap.size, 0, none⟩)] #[] #[.pointer (some ⟨w.heap.size, 0, none⟩), .pointer (some ⟨w.heap.size + 1, 0, none⟩)] (freeN cY cV) (keepsN cE cB cT cC to) (Blk.newAt (by simp) _ _) (fun W => by kernel_rfl) (fun W => by kernel_rfl)
    (fun W hW => addr1_any cC cE cB cT cP cY cR cV (w.heap.size + 1 + 1 + 1 + 1) w.heap.size W (Blk.below (by (repeat (first | (with_reducible exact Blk.new _ _ _) | (with_reducible refine Blk.drewN ?_ _) | (with_reducible refine Blk.drew ?_) | exact Blk.newAt (by simp) _ _ | (with_reducible refine Blk.alloc ?_ _)))) hW (by first | (simp; done) | (simp; omega))) (Blk.below (by (repeat (first | (with_reducible exact Blk.new _ _ _) | (with_reducible refine Blk.drewN ?_ _) | (with_reducible refine Blk.drew ?_) | exact Blk.newAt (by simp) _ _ | (with_reducible refine Blk.alloc ?_ _)))) hW (by first | (simp; done) | (simp; omega))))
    (fun W hW => addr2_any cC cE cB cT cP cY cR cV to w.heap.size (w.heap.size + 1) W cl hto (Blk.below (by (repeat (first | (with_reducible exact Blk.new _ _ _) | (with_reducible refine Blk.drewN ?_ _) | (with_reducible refine Blk.drew ?_) | exact Blk.newAt (by simp) _ _ | (with_reducible refine Blk.alloc ?_ _)))) hW (by first | (simp; done) | (simp; omega))) (Blk.below (by (repeat (first | (with_reducible exact Blk.new _ _ _) | (with_reducible refine Blk.drewN ?_ _) | (with_reducible refine Blk.drew ?_) | exact Blk.newAt (by simp) _ _ | (with_reducible refine Blk.alloc ?_ _)))) hW (by first | (simp; done) | (simp; omega))))).mono ?_
  rintro e w2 ⟨rfl, hb2⟩
  obtain ⟨hc2, hf2⟩ := bcell hb2
  have hz2 := hb2.size
  simp at hz2
  have HB2 := hide hb2; clear hb2
  go_wp2
  refine bodyPost_ret (v := .agg #[.int .u32 to, .int .u8 cE, .int .u16 cB, .int .u16 cT, .int .u16 cP, .int .u16 cY, .int .u32 cR, .bool (freeN cY cV && keepsN cE cB cT cC to)]) (by simp [results, Try.results24, go_sem, hc2]) rfl ⟨rfl, ?_⟩
  repeat (refine Below.setCell ?_ (by simp <;> omega) _)
  exact (Below.trans (by (repeat (first | (with_reducible exact Below.refl _ _) | (with_reducible refine Below.drew ?_) | (with_reducible refine below_drewN ?_ _) | (with_reducible refine Below.alloc ?_ (by simp <;> omega) _) | (with_reducible refine Below.setCell ?_ (by simp <;> omega) _)))) (HB2.out.mono (by simp; omega)))

end Go.Proofs.Ytljchnfofjmleaa
