/-
  DeriveBack: what was sealed is opened by the same authority, if that may do both, as it was; by one over another type never. No condition.
-/
import Derived.Test.YtljchnfofjmleaaDerWorks
import Derived.Test.YtljchnfofjmleaaFrame
import Derived.Test.YtljchnfofjmleaaOpen
namespace Go.Proofs.Ytljchnfofjmleaa
open Go.ChangeShapes Go.WideShapes Go.ChangeAt Go.RowKit
open Go.ChangeMaps (open_string shut_string)
attribute [local go_sem ↓] Go.wp_at_zero Go.wp_at_succ

/-- Where nothing valid is sealed. -/
theorem back_no (cC cE cB cT cP cY cR : Nat) (cV : Bool) (bC bE bB bT bP bY bR : Nat) (bV : Bool) (n : Nat) (zC zE zB zT zP zY zR : Nat) (w : World) (HS : Hid (∀ W, Calls Try.prog 26 #[.agg #[.int .u32 cC, .int .u8 cE, .int .u16 cB, .int .u16 cT, .int .u16 cP, .int .u16 cY, .int .u32 cR, .bool cV], .agg #[.int .u32 bC, .int .u8 bE, .int .u16 bB, .int .u16 bT, .int .u16 bP, .int .u16 bY, .int .u32 bR, .bool bV]] W fun e w' => e = .returned (.agg #[.int .u32 zC, .int .u8 zE, .int .u16 zB, .int .u16 zT, .int .u16 zP, .int .u16 zY, .int .u32 zR, .bool false]) ∧ Below W.heap.size W w')) :
    Calls Try.prog 11 #[.agg #[.int .u32 cC, .int .u8 cE, .int .u16 cB, .int .u16 cT, .int .u16 cP, .int .u16 cY, .int .u32 cR, .bool cV], .agg #[.int .u32 bC, .int .u8 bE, .int .u16 bB, .int .u16 bT, .int .u16 bP, .int .u16 bY, .int .u32 bR, .bool bV], .int .u32 n] w fun e w' => e = .returned (.bool true) ∧ Below w.heap.size w w' := by
  have kb : Below w.heap.size w ((w.alloc (.cells #[.int .u32 cC, .int .u8 cE, .int .u16 cB, .int .u16 cT, .int .u16 cP, .int .u16 cY, .int .u32 cR, .bool cV] 25)).alloc (.cells #[.int .u32 bC, .int .u8 bE, .int .u16 bB, .int .u16 bT, .int .u16 bP, .int .u16 bY, .int .u32 bR, .bool bV] 25)) := by (repeat (first | (with_reducible exact Below.refl _ _) | (with_reducible refine Below.drew ?_) | (with_reducible refine below_drewN ?_ _) | (with_reducible refine Below.alloc ?_ (by simp <;> omega) _) | (with_reducible refine Below.setCell ?_ (by simp <;> omega) _)))
  have HK := hide kb
  clear kb
  go_enter Try.func11, Try.ntmps11
  go_wp2_with fail
  refine (HS.out _).mono ?_
  rintro e w1 ⟨rfl, hb1⟩
  have k1 := HK.out.trans (hb1.mono HK.out.size)
  have K1 := hide k1
  clear hb1 k1
  go_wp2_with fail
  refine (dworks_any _).mono ?_
  rintro e w2 ⟨rfl, hb2⟩
  have HB2 := hide hb2; clear hb2
  go_wp2
  go_ret
  have k2 := K1.out.alloc K1.out.size (Obj.cells #[.int .u32 zC, .int .u8 zE, .int .u16 zB, .int .u16 zT, .int .u16 zP, .int .u16 zY, .int .u32 zR, .bool false] 25)
  exact ⟨rfl, k2.trans (HB2.out.mono k2.size)⟩

theorem neq_cap (aC aE aB aT aP aY aR : Nat) (aV : Bool) (bC bE bB bT bP bY bR : Nat) (bV : Bool) (W : World) : (binOp .neq 25 (.agg #[.int .u32 aC, .int .u8 aE, .int .u16 aB, .int .u16 aT, .int .u16 aP, .int .u16 aY, .int .u32 aR, .bool aV]) (.agg #[.int .u32 bC, .int .u8 bE, .int .u16 bB, .int .u16 bT, .int .u16 bP, .int .u16 bY, .int .u32 bR, .bool bV])).run Try.prog W = .ok (.bool (!capEq aC aE aB aT aP aY aR aV bC bE bB bT bP bY bR bV)) W := by
  rw [run_neq_struct, run_equalIn_agg W 9999 _ _ _ capU capS]
  simp [go_sem, Program.fieldsOf, Try.underlying25, Op.eqFields, Int.natCast_inj]
  repeat' split
  all_goals simp_all [capEq]

set_option maxRecDepth 100000 in
set_option maxHeartbeats 4000000 in
theorem back_11 (cC cE cB cT cP cR : Nat) (bC bE bB bT bP bY bR : Nat) (bV : Bool) (n : Nat) (k' : Bool) (xC xE xB xT xP xY xR : Nat) (w : World) (hnx : ((n : Int) == (bC : Int)) = true)
    (hn : (bits .and .u16 (bP : Int) 64 != 0) = true)
    (HS : Hid (∀ W, Calls Try.prog 26 #[.agg #[.int .u32 cC, .int .u8 cE, .int .u16 cB, .int .u16 cT, .int .u16 cP, .int .u16 0, .int .u32 cR, .bool true], .agg #[.int .u32 bC, .int .u8 bE, .int .u16 bB, .int .u16 bT, .int .u16 bP, .int .u16 bY, .int .u32 bR, .bool bV]] W fun e w' => e = .returned (.agg #[.int .u32 cC, .int .u8 cE, .int .u16 cB, .int .u16 cT, .int .u16 cP, .int .u16 bC, .int .u32 cR, .bool true]) ∧ Below W.heap.size W w'))
    (HO : Hid (∀ W, Calls Try.prog 28 #[.agg #[.int .u32 cC, .int .u8 cE, .int .u16 cB, .int .u16 cT, .int .u16 cP, .int .u16 bC, .int .u32 cR, .bool true], .agg #[.int .u32 bC, .int .u8 bE, .int .u16 bB, .int .u16 bT, .int .u16 bP, .int .u16 bY, .int .u32 bR, .bool bV]] W fun e w' => e = .returned (.agg #[.int .u32 cC, .int .u8 cE, .int .u16 cB, .int .u16 cT, .int .u16 cP, .int .u16 0, .int .u32 cR, .bool true]) ∧ Below W.heap.size W w'))
    (HA : Hid (∀ W, Calls Try.prog 24 #[.agg #[.int .u32 bC, .int .u8 bE, .int .u16 bB, .int .u16 bT, .int .u16 bP, .int .u16 bY, .int .u32 bR, .bool bV], .int .u32 n] W fun e w' => e = .returned (.agg #[.int .u32 n, .int .u8 bE, .int .u16 bB, .int .u16 bT, .int .u16 bP, .int .u16 bY, .int .u32 bR, .bool k']) ∧ Below W.heap.size W w'))
    (HX : Hid (∀ W, Calls Try.prog 28 #[.agg #[.int .u32 cC, .int .u8 cE, .int .u16 cB, .int .u16 cT, .int .u16 cP, .int .u16 bC, .int .u32 cR, .bool true], .agg #[.int .u32 n, .int .u8 bE, .int .u16 bB, .int .u16 bT, .int .u16 bP, .int .u16 bY, .int .u32 bR, .bool k']] W fun e w' => e = .returned (.agg #[.int .u32 xC, .int .u8 xE, .int .u16 xB, .int .u16 xT, .int .u16 xP, .int .u16 xY, .int .u32 xR, .bool true]) ∧ Below W.heap.size W w')) :
    Calls Try.prog 11 #[.agg #[.int .u32 cC, .int .u8 cE, .int .u16 cB, .int .u16 cT, .int .u16 cP, .int .u16 0, .int .u32 cR, .bool true], .agg #[.int .u32 bC, .int .u8 bE, .int .u16 bB, .int .u16 bT, .int .u16 bP, .int .u16 bY, .int .u32 bR, .bool bV], .int .u32 n] w fun e w' => e = .returned (.bool true) ∧ Below w.heap.size w w' := by
  have hne := fun W => neq_cap cC cE cB cT cP 0 cR true cC cE cB cT cP 0 cR true W
  rw [capEq_self] at hne
  simp only [Int.cast_ofNat_Int, Bool.not_true] at hne
  have hq0 : Blk ((w.alloc (.cells #[.int .u32 cC, .int .u8 cE, .int .u16 cB, .int .u16 cT, .int .u16 cP, .int .u16 0, .int .u32 cR, .bool true] 25)).alloc (.cells #[.int .u32 bC, .int .u8 bE, .int .u16 bB, .int .u16 bT, .int .u16 bP, .int .u16 bY, .int .u32 bR, .bool bV] 25)) w.heap.size 25 #[.int .u32 cC, .int .u8 cE, .int .u16 cB, .int .u16 cT, .int .u16 cP, .int .u16 0, .int .u32 cR, .bool true] := Blk.new1 w _ _ _
  have hq1 : Blk ((w.alloc (.cells #[.int .u32 cC, .int .u8 cE, .int .u16 cB, .int .u16 cT, .int .u16 cP, .int .u16 0, .int .u32 cR, .bool true] 25)).alloc (.cells #[.int .u32 bC, .int .u8 bE, .int .u16 bB, .int .u16 bT, .int .u16 bP, .int .u16 bY, .int .u32 bR, .bool bV] 25)) (w.heap.size + 1) 25 #[.int .u32 bC, .int .u8 bE, .int .u16 bB, .int .u16 bT, .int .u16 bP, .int .u16 bY, .int .u32 bR, .bool bV] := Blk.new2 w _ _ _
  have kb : Below w.heap.size w ((w.alloc (.cells #[.int .u32 cC, .int .u8 cE, .int .u16 cB, .int .u16 cT, .int .u16 cP, .int .u16 0, .int .u32 cR, .bool true] 25)).alloc (.cells #[.int .u32 bC, .int .u8 bE, .int .u16 bB, .int .u16 bT, .int .u16 bP, .int .u16 bY, .int .u32 bR, .bool bV] 25)) := by (repeat (first | (with_reducible exact Below.refl _ _) | (with_reducible refine Below.drew ?_) | (with_reducible refine below_drewN ?_ _) | (with_reducible refine Below.alloc ?_ (by simp <;> omega) _) | (with_reducible refine Below.setCell ?_ (by simp <;> omega) _)))
  have H0 := hide hq0
  have H1 := hide hq1
  have HK := hide kb
  clear hq0 hq1 kb
  go_enter Try.func11, Try.ntmps11
  go_wp2_with fail
  refine (HS.out _).mono ?_
  rintro e w1 ⟨rfl, hb1⟩
  have q0 := (H0.out.below hb1 (by first | omega | (simp; done) | (simp; omega))).alloc (.cells #[.int .u32 cC, .int .u8 cE, .int .u16 cB, .int .u16 cT, .int .u16 cP, .int .u16 bC, .int .u32 cR, .bool true] 25)
  have q1 := (H1.out.below hb1 (by first | omega | (simp; done) | (simp; omega))).alloc (.cells #[.int .u32 cC, .int .u8 cE, .int .u16 cB, .int .u16 cT, .int .u16 cP, .int .u16 bC, .int .u32 cR, .bool true] 25)
  have q7 := Blk.new w1 25 #[.int .u32 cC, .int .u8 cE, .int .u16 cB, .int .u16 cT, .int .u16 cP, .int .u16 bC, .int .u32 cR, .bool true]
  have k1 := (HK.out.trans (hb1.mono HK.out.size)).alloc (Nat.le_trans HK.out.size hb1.size) (.cells #[.int .u32 cC, .int .u8 cE, .int .u16 cB, .int .u16 cT, .int .u16 cP, .int .u16 bC, .int .u32 cR, .bool true] 25)
  clear hb1
  have p0 := q0.cell 0
  have p1 := q0.cell 1
  have p2 := q0.cell 2
  have p3 := q0.cell 3
  have p4 := q0.cell 4
  have p5 := q0.cell 5
  have p6 := q0.cell 6
  have p7 := q0.cell 7
  simp at p0 p1 p2 p3 p4 p5 p6 p7
  have s0 := q1.cell 0
  have s1 := q1.cell 1
  have s2 := q1.cell 2
  have s3 := q1.cell 3
  have s4 := q1.cell 4
  have s5 := q1.cell 5
  have s6 := q1.cell 6
  have s7 := q1.cell 7
  simp at s0 s1 s2 s3 s4 s5 s6 s7
  have r0 := q7.cell 0
  have r1 := q7.cell 1
  have r2 := q7.cell 2
  have r3 := q7.cell 3
  have r4 := q7.cell 4
  have r5 := q7.cell 5
  have r6 := q7.cell 6
  have r7 := q7.cell 7
  simp at r0 r1 r2 r3 r4 r5 r6 r7
  have Q0 := hide q0
  have Q1 := hide q1
  have Q7 := hide q7
  have K1 := hide k1
  clear q0 q1 q7 k1
  go_wp2_with fail
  refine (HO.out _).mono ?_
  rintro e w2 ⟨rfl, hb2⟩
  have q0 := Q0.out.below hb2 Q0.out.lt
  have q1 := Q1.out.below hb2 Q1.out.lt
  have q7 := Q7.out.below hb2 Q7.out.lt
  have k2 := (K1.out.trans (hb2.mono K1.out.size)).alloc (Nat.le_trans K1.out.size hb2.size) (.cells #[.int .u32 cC, .int .u8 cE, .int .u16 cB, .int .u16 cT, .int .u16 cP, .int .u16 0, .int .u32 cR, .bool true] 25)
  have l0 := q0.lt
  have l1 := q1.lt
  have l7 := q7.lt
  clear hb2 p0 p1 p2 p3 p4 p5 p6 p7 s0 s1 s2 s3 s4 s5 s6 s7 r0 r1 r2 r3 r4 r5 r6 r7
  have p0 := q0.cell 0
  have p1 := q0.cell 1
  have p2 := q0.cell 2
  have p3 := q0.cell 3
  have p4 := q0.cell 4
  have p5 := q0.cell 5
  have p6 := q0.cell 6
  have p7 := q0.cell 7
  simp at p0 p1 p2 p3 p4 p5 p6 p7
  have s0 := q1.cell 0
  have s1 := q1.cell 1
  have s2 := q1.cell 2
  have s3 := q1.cell 3
  have s4 := q1.cell 4
  have s5 := q1.cell 5
  have s6 := q1.cell 6
  have s7 := q1.cell 7
  simp at s0 s1 s2 s3 s4 s5 s6 s7
  have r0 := q7.cell 0
  have r1 := q7.cell 1
  have r2 := q7.cell 2
  have r3 := q7.cell 3
  have r4 := q7.cell 4
  have r5 := q7.cell 5
  have r6 := q7.cell 6
  have r7 := q7.cell 7
  simp at r0 r1 r2 r3 r4 r5 r6 r7
  have K2 := hide k2
  have KK : Hid (∀ W, Below (w2.alloc (.cells #[.int .u32 cC, .int .u8 cE, .int .u16 cB, .int .u16 cT, .int .u16 cP, .int .u16 0, .int .u32 cR, .bool true] 25)).heap.size (w2.alloc (.cells #[.int .u32 cC, .int .u8 cE, .int .u16 cB, .int .u16 cT, .int .u16 cP, .int .u16 0, .int .u32 cR, .bool true] 25)) W → W.cell? ⟨w1.heap.size, 0, none⟩ = some (.int .u32 cC) ∧ W.cell? ⟨w1.heap.size, 1, none⟩ = some (.int .u8 cE) ∧ W.cell? ⟨w1.heap.size, 2, none⟩ = some (.int .u16 cB) ∧ W.cell? ⟨w1.heap.size, 3, none⟩ = some (.int .u16 cT) ∧ W.cell? ⟨w1.heap.size, 4, none⟩ = some (.int .u16 cP) ∧ W.cell? ⟨w1.heap.size, 5, none⟩ = some (.int .u16 bC) ∧ W.cell? ⟨w1.heap.size, 6, none⟩ = some (.int .u32 cR) ∧ W.cell? ⟨w1.heap.size, 7, none⟩ = some (.bool true) ∧ W.cell? ⟨w.heap.size + 1, 0, none⟩ = some (.int .u32 bC) ∧ W.cell? ⟨w.heap.size + 1, 1, none⟩ = some (.int .u8 bE) ∧ W.cell? ⟨w.heap.size + 1, 2, none⟩ = some (.int .u16 bB) ∧ W.cell? ⟨w.heap.size + 1, 3, none⟩ = some (.int .u16 bT) ∧ W.cell? ⟨w.heap.size + 1, 4, none⟩ = some (.int .u16 bP) ∧ W.cell? ⟨w.heap.size + 1, 5, none⟩ = some (.int .u16 bY) ∧ W.cell? ⟨w.heap.size + 1, 6, none⟩ = some (.int .u32 bR) ∧ W.cell? ⟨w.heap.size + 1, 7, none⟩ = some (.bool bV)) := fun W hW => ⟨((q7.alloc _).below hW (by first | omega | (simp; done) | (simp; omega))).cell 0, ((q7.alloc _).below hW (by first | omega | (simp; done) | (simp; omega))).cell 1, ((q7.alloc _).below hW (by first | omega | (simp; done) | (simp; omega))).cell 2, ((q7.alloc _).below hW (by first | omega | (simp; done) | (simp; omega))).cell 3, ((q7.alloc _).below hW (by first | omega | (simp; done) | (simp; omega))).cell 4, ((q7.alloc _).below hW (by first | omega | (simp; done) | (simp; omega))).cell 5, ((q7.alloc _).below hW (by first | omega | (simp; done) | (simp; omega))).cell 6, ((q7.alloc _).below hW (by first | omega | (simp; done) | (simp; omega))).cell 7, ((q1.alloc _).below hW (by first | omega | (simp; done) | (simp; omega))).cell 0, ((q1.alloc _).below hW (by first | omega | (simp; done) | (simp; omega))).cell 1, ((q1.alloc _).below hW (by first | omega | (simp; done) | (simp; omega))).cell 2, ((q1.alloc _).below hW (by first | omega | (simp; done) | (simp; omega))).cell 3, ((q1.alloc _).below hW (by first | omega | (simp; done) | (simp; omega))).cell 4, ((q1.alloc _).below hW (by first | omega | (simp; done) | (simp; omega))).cell 5, ((q1.alloc _).below hW (by first | omega | (simp; done) | (simp; omega))).cell 6, ((q1.alloc _).below hW (by first | omega | (simp; done) | (simp; omega))).cell 7⟩
  have hK : Below (w2.alloc (.cells #[.int .u32 cC, .int .u8 cE, .int .u16 cB, .int .u16 cT, .int .u16 cP, .int .u16 0, .int .u32 cR, .bool true] 25)).heap.size (w2.alloc (.cells #[.int .u32 cC, .int .u8 cE, .int .u16 cB, .int .u16 cT, .int .u16 cP, .int .u16 0, .int .u32 cR, .bool true] 25)) (w2.alloc (.cells #[.int .u32 cC, .int .u8 cE, .int .u16 cB, .int .u16 cT, .int .u16 cP, .int .u16 0, .int .u32 cR, .bool true] 25)) := Below.refl _ _
  have YQ1 := hide (q1.alloc (.cells #[.int .u32 cC, .int .u8 cE, .int .u16 cB, .int .u16 cT, .int .u16 cP, .int .u16 0, .int .u32 cR, .bool true] 25))
  clear q0 q1 q7 k2
  go_wp2_with fail
  go_region_held3 (fun w' => w'.cell? ⟨w1.heap.size, 0, none⟩ = some (.int .u32 cC) ∧ w'.cell? ⟨w1.heap.size, 1, none⟩ = some (.int .u8 cE) ∧ w'.cell? ⟨w1.heap.size, 2, none⟩ = some (.int .u16 cB) ∧ w'.cell? ⟨w1.heap.size, 3, none⟩ = some (.int .u16 cT) ∧ w'.cell? ⟨w1.heap.size, 4, none⟩ = some (.int .u16 cP) ∧ w'.cell? ⟨w1.heap.size, 5, none⟩ = some (.int .u16 bC) ∧ w'.cell? ⟨w1.heap.size, 6, none⟩ = some (.int .u32 cR) ∧ w'.cell? ⟨w1.heap.size, 7, none⟩ = some (.bool true) ∧ w'.cell? ⟨w.heap.size + 1, 0, none⟩ = some (.int .u32 bC) ∧ w'.cell? ⟨w.heap.size + 1, 1, none⟩ = some (.int .u8 bE) ∧ w'.cell? ⟨w.heap.size + 1, 2, none⟩ = some (.int .u16 bB) ∧ w'.cell? ⟨w.heap.size + 1, 3, none⟩ = some (.int .u16 bT) ∧ w'.cell? ⟨w.heap.size + 1, 4, none⟩ = some (.int .u16 bP) ∧ w'.cell? ⟨w.heap.size + 1, 5, none⟩ = some (.int .u16 bY) ∧ w'.cell? ⟨w.heap.size + 1, 6, none⟩ = some (.int .u32 bR) ∧ w'.cell? ⟨w.heap.size + 1, 7, none⟩ = some (.bool bV)) ((refine KK.out _ ?_; repeat (first | (with_reducible exact hK) | (with_reducible refine Below.drew ?_) | (with_reducible refine below_drewN ?_ _) | (with_reducible refine Below.alloc ?_ (by first | (simp; done) | exact hK.size | (have := hK.size; simp at this ⊢; omega)) _) | (with_reducible refine Below.setCell ?_ (by first | (simp; done) | exact hK.size | (have := hK.size; simp at this ⊢; omega)) _))))
    (first
      | (go_at_call 24; refine (HA.out _).mono ?_; rintro e' w9 ⟨rfl, hb⟩; obtain ⟨hc9, hf9⟩ := bcell hb; have hz9 := hb.size; (try simp at hz9); (try have l9 := Nat.lt_of_succ_le hz9); have hK' : Below (w2.alloc (.cells #[.int .u32 cC, .int .u8 cE, .int .u16 cB, .int .u16 cT, .int .u16 cP, .int .u16 0, .int .u32 cR, .bool true] 25)).heap.size (w2.alloc (.cells #[.int .u32 cC, .int .u8 cE, .int .u16 cB, .int .u16 cT, .int .u16 cP, .int .u16 0, .int .u32 cR, .bool true] 25)) w9 := (by refine Below.trans ?_ (hb.mono ?_); (first | (with_reducible exact hK) | (with_reducible exact hK.drew) | (with_reducible exact below_drewN hK _) | (with_reducible exact Below.alloc hK hK.size _) | (with_reducible exact Below.alloc hK.drew hK.size _) | (with_reducible exact (Below.alloc hK hK.size _).drew) | (with_reducible exact (Below.alloc (below_drewN hK _) hK.size _))); (first | (with_reducible exact hK.size) | (simp; done) | (have := hK.size; simp at this ⊢; omega) | (have := hK.size; simp at this ⊢; done) | exact hK.size)); clear hb hK; have hK := hK'; clear hK')
      | (go_at_call 28; refine (HX.out _).mono ?_; rintro e' w9 ⟨rfl, hb⟩; obtain ⟨hc9, hf9⟩ := bcell hb; have hz9 := hb.size; (try simp at hz9); (try have l9 := Nat.lt_of_succ_le hz9); have hK' : Below (w2.alloc (.cells #[.int .u32 cC, .int .u8 cE, .int .u16 cB, .int .u16 cT, .int .u16 cP, .int .u16 0, .int .u32 cR, .bool true] 25)).heap.size (w2.alloc (.cells #[.int .u32 cC, .int .u8 cE, .int .u16 cB, .int .u16 cT, .int .u16 cP, .int .u16 0, .int .u32 cR, .bool true] 25)) w9 := (by refine Below.trans ?_ (hb.mono ?_); (first | (with_reducible exact hK) | (with_reducible exact hK.drew) | (with_reducible exact below_drewN hK _) | (with_reducible exact Below.alloc hK hK.size _) | (with_reducible exact Below.alloc hK.drew hK.size _) | (with_reducible exact (Below.alloc hK hK.size _).drew) | (with_reducible exact (Below.alloc (below_drewN hK _) hK.size _))); (first | (with_reducible exact hK.size) | (simp; done) | (have := hK.size; simp at this ⊢; omega) | (have := hK.size; simp at this ⊢; done) | exact hK.size)); clear hb hK; have hK := hK'; clear hK'))
  all_goals
    have kz := K2.out.trans (hK.mono K2.out.size)
    have HKZ := hide kz
    have s2 := K2.out.size
    have s9 := kz.size
    simp at s2
    clear hK kz
    go_wp2_with fail
    refine (dworks_any _).mono ?_
    rintro e' w5 ⟨rfl, hb5⟩
    have HB5 := hide hb5; clear hb5
    go_wp2
    go_ret
    exact ⟨rfl, Below.trans (by repeat (first | (with_reducible exact HKZ.out) | (with_reducible refine Below.drew ?_) | (with_reducible refine below_drewN ?_ _) | (with_reducible refine Below.alloc ?_ (by first | omega | (simp; done) | (simp; omega)) _) | (with_reducible refine Below.setCell ?_ (by first | omega | (simp; done) | (simp; omega)) _))) (HB5.out.mono (by first | omega | (simp; done) | (simp; omega)))⟩

set_option maxRecDepth 100000 in
set_option maxHeartbeats 4000000 in
theorem back_10 (cC cE cB cT cP cR : Nat) (bC bE bB bT bP bY bR : Nat) (bV : Bool) (n : Nat) (k' : Bool) (xC xE xB xT xP xY xR : Nat) (w : World)
    (hn : (bits .and .u16 (bP : Int) 64 != 0) = true)
    (HS : Hid (∀ W, Calls Try.prog 26 #[.agg #[.int .u32 cC, .int .u8 cE, .int .u16 cB, .int .u16 cT, .int .u16 cP, .int .u16 0, .int .u32 cR, .bool true], .agg #[.int .u32 bC, .int .u8 bE, .int .u16 bB, .int .u16 bT, .int .u16 bP, .int .u16 bY, .int .u32 bR, .bool bV]] W fun e w' => e = .returned (.agg #[.int .u32 cC, .int .u8 cE, .int .u16 cB, .int .u16 cT, .int .u16 cP, .int .u16 bC, .int .u32 cR, .bool true]) ∧ Below W.heap.size W w'))
    (HO : Hid (∀ W, Calls Try.prog 28 #[.agg #[.int .u32 cC, .int .u8 cE, .int .u16 cB, .int .u16 cT, .int .u16 cP, .int .u16 bC, .int .u32 cR, .bool true], .agg #[.int .u32 bC, .int .u8 bE, .int .u16 bB, .int .u16 bT, .int .u16 bP, .int .u16 bY, .int .u32 bR, .bool bV]] W fun e w' => e = .returned (.agg #[.int .u32 cC, .int .u8 cE, .int .u16 cB, .int .u16 cT, .int .u16 cP, .int .u16 0, .int .u32 cR, .bool true]) ∧ Below W.heap.size W w'))
    (HA : Hid (∀ W, Calls Try.prog 24 #[.agg #[.int .u32 bC, .int .u8 bE, .int .u16 bB, .int .u16 bT, .int .u16 bP, .int .u16 bY, .int .u32 bR, .bool bV], .int .u32 n] W fun e w' => e = .returned (.agg #[.int .u32 n, .int .u8 bE, .int .u16 bB, .int .u16 bT, .int .u16 bP, .int .u16 bY, .int .u32 bR, .bool k']) ∧ Below W.heap.size W w'))
    (HX : Hid (∀ W, Calls Try.prog 28 #[.agg #[.int .u32 cC, .int .u8 cE, .int .u16 cB, .int .u16 cT, .int .u16 cP, .int .u16 bC, .int .u32 cR, .bool true], .agg #[.int .u32 n, .int .u8 bE, .int .u16 bB, .int .u16 bT, .int .u16 bP, .int .u16 bY, .int .u32 bR, .bool k']] W fun e w' => e = .returned (.agg #[.int .u32 xC, .int .u8 xE, .int .u16 xB, .int .u16 xT, .int .u16 xP, .int .u16 xY, .int .u32 xR, .bool false]) ∧ Below W.heap.size W w')) :
    Calls Try.prog 11 #[.agg #[.int .u32 cC, .int .u8 cE, .int .u16 cB, .int .u16 cT, .int .u16 cP, .int .u16 0, .int .u32 cR, .bool true], .agg #[.int .u32 bC, .int .u8 bE, .int .u16 bB, .int .u16 bT, .int .u16 bP, .int .u16 bY, .int .u32 bR, .bool bV], .int .u32 n] w fun e w' => e = .returned (.bool true) ∧ Below w.heap.size w w' := by
  have hne := fun W => neq_cap cC cE cB cT cP 0 cR true cC cE cB cT cP 0 cR true W
  rw [capEq_self] at hne
  simp only [Int.cast_ofNat_Int, Bool.not_true] at hne
  have hq0 : Blk ((w.alloc (.cells #[.int .u32 cC, .int .u8 cE, .int .u16 cB, .int .u16 cT, .int .u16 cP, .int .u16 0, .int .u32 cR, .bool true] 25)).alloc (.cells #[.int .u32 bC, .int .u8 bE, .int .u16 bB, .int .u16 bT, .int .u16 bP, .int .u16 bY, .int .u32 bR, .bool bV] 25)) w.heap.size 25 #[.int .u32 cC, .int .u8 cE, .int .u16 cB, .int .u16 cT, .int .u16 cP, .int .u16 0, .int .u32 cR, .bool true] := Blk.new1 w _ _ _
  have hq1 : Blk ((w.alloc (.cells #[.int .u32 cC, .int .u8 cE, .int .u16 cB, .int .u16 cT, .int .u16 cP, .int .u16 0, .int .u32 cR, .bool true] 25)).alloc (.cells #[.int .u32 bC, .int .u8 bE, .int .u16 bB, .int .u16 bT, .int .u16 bP, .int .u16 bY, .int .u32 bR, .bool bV] 25)) (w.heap.size + 1) 25 #[.int .u32 bC, .int .u8 bE, .int .u16 bB, .int .u16 bT, .int .u16 bP, .int .u16 bY, .int .u32 bR, .bool bV] := Blk.new2 w _ _ _
  have kb : Below w.heap.size w ((w.alloc (.cells #[.int .u32 cC, .int .u8 cE, .int .u16 cB, .int .u16 cT, .int .u16 cP, .int .u16 0, .int .u32 cR, .bool true] 25)).alloc (.cells #[.int .u32 bC, .int .u8 bE, .int .u16 bB, .int .u16 bT, .int .u16 bP, .int .u16 bY, .int .u32 bR, .bool bV] 25)) := by (repeat (first | (with_reducible exact Below.refl _ _) | (with_reducible refine Below.drew ?_) | (with_reducible refine below_drewN ?_ _) | (with_reducible refine Below.alloc ?_ (by simp <;> omega) _) | (with_reducible refine Below.setCell ?_ (by simp <;> omega) _)))
  have H0 := hide hq0
  have H1 := hide hq1
  have HK := hide kb
  clear hq0 hq1 kb
  go_enter Try.func11, Try.ntmps11
  go_wp2_with fail
  refine (HS.out _).mono ?_
  rintro e w1 ⟨rfl, hb1⟩
  have q0 := (H0.out.below hb1 (by first | omega | (simp; done) | (simp; omega))).alloc (.cells #[.int .u32 cC, .int .u8 cE, .int .u16 cB, .int .u16 cT, .int .u16 cP, .int .u16 bC, .int .u32 cR, .bool true] 25)
  have q1 := (H1.out.below hb1 (by first | omega | (simp; done) | (simp; omega))).alloc (.cells #[.int .u32 cC, .int .u8 cE, .int .u16 cB, .int .u16 cT, .int .u16 cP, .int .u16 bC, .int .u32 cR, .bool true] 25)
  have q7 := Blk.new w1 25 #[.int .u32 cC, .int .u8 cE, .int .u16 cB, .int .u16 cT, .int .u16 cP, .int .u16 bC, .int .u32 cR, .bool true]
  have k1 := (HK.out.trans (hb1.mono HK.out.size)).alloc (Nat.le_trans HK.out.size hb1.size) (.cells #[.int .u32 cC, .int .u8 cE, .int .u16 cB, .int .u16 cT, .int .u16 cP, .int .u16 bC, .int .u32 cR, .bool true] 25)
  clear hb1
  have p0 := q0.cell 0
  have p1 := q0.cell 1
  have p2 := q0.cell 2
  have p3 := q0.cell 3
  have p4 := q0.cell 4
  have p5 := q0.cell 5
  have p6 := q0.cell 6
  have p7 := q0.cell 7
  simp at p0 p1 p2 p3 p4 p5 p6 p7
  have s0 := q1.cell 0
  have s1 := q1.cell 1
  have s2 := q1.cell 2
  have s3 := q1.cell 3
  have s4 := q1.cell 4
  have s5 := q1.cell 5
  have s6 := q1.cell 6
  have s7 := q1.cell 7
  simp at s0 s1 s2 s3 s4 s5 s6 s7
  have r0 := q7.cell 0
  have r1 := q7.cell 1
  have r2 := q7.cell 2
  have r3 := q7.cell 3
  have r4 := q7.cell 4
  have r5 := q7.cell 5
  have r6 := q7.cell 6
  have r7 := q7.cell 7
  simp at r0 r1 r2 r3 r4 r5 r6 r7
  have Q0 := hide q0
  have Q1 := hide q1
  have Q7 := hide q7
  have K1 := hide k1
  clear q0 q1 q7 k1
  go_wp2_with fail
  refine (HO.out _).mono ?_
  rintro e w2 ⟨rfl, hb2⟩
  have q0 := Q0.out.below hb2 Q0.out.lt
  have q1 := Q1.out.below hb2 Q1.out.lt
  have q7 := Q7.out.below hb2 Q7.out.lt
  have k2 := (K1.out.trans (hb2.mono K1.out.size)).alloc (Nat.le_trans K1.out.size hb2.size) (.cells #[.int .u32 cC, .int .u8 cE, .int .u16 cB, .int .u16 cT, .int .u16 cP, .int .u16 0, .int .u32 cR, .bool true] 25)
  have l0 := q0.lt
  have l1 := q1.lt
  have l7 := q7.lt
  clear hb2 p0 p1 p2 p3 p4 p5 p6 p7 s0 s1 s2 s3 s4 s5 s6 s7 r0 r1 r2 r3 r4 r5 r6 r7
  have p0 := q0.cell 0
  have p1 := q0.cell 1
  have p2 := q0.cell 2
  have p3 := q0.cell 3
  have p4 := q0.cell 4
  have p5 := q0.cell 5
  have p6 := q0.cell 6
  have p7 := q0.cell 7
  simp at p0 p1 p2 p3 p4 p5 p6 p7
  have s0 := q1.cell 0
  have s1 := q1.cell 1
  have s2 := q1.cell 2
  have s3 := q1.cell 3
  have s4 := q1.cell 4
  have s5 := q1.cell 5
  have s6 := q1.cell 6
  have s7 := q1.cell 7
  simp at s0 s1 s2 s3 s4 s5 s6 s7
  have r0 := q7.cell 0
  have r1 := q7.cell 1
  have r2 := q7.cell 2
  have r3 := q7.cell 3
  have r4 := q7.cell 4
  have r5 := q7.cell 5
  have r6 := q7.cell 6
  have r7 := q7.cell 7
  simp at r0 r1 r2 r3 r4 r5 r6 r7
  have K2 := hide k2
  have KK : Hid (∀ W, Below (w2.alloc (.cells #[.int .u32 cC, .int .u8 cE, .int .u16 cB, .int .u16 cT, .int .u16 cP, .int .u16 0, .int .u32 cR, .bool true] 25)).heap.size (w2.alloc (.cells #[.int .u32 cC, .int .u8 cE, .int .u16 cB, .int .u16 cT, .int .u16 cP, .int .u16 0, .int .u32 cR, .bool true] 25)) W → W.cell? ⟨w1.heap.size, 0, none⟩ = some (.int .u32 cC) ∧ W.cell? ⟨w1.heap.size, 1, none⟩ = some (.int .u8 cE) ∧ W.cell? ⟨w1.heap.size, 2, none⟩ = some (.int .u16 cB) ∧ W.cell? ⟨w1.heap.size, 3, none⟩ = some (.int .u16 cT) ∧ W.cell? ⟨w1.heap.size, 4, none⟩ = some (.int .u16 cP) ∧ W.cell? ⟨w1.heap.size, 5, none⟩ = some (.int .u16 bC) ∧ W.cell? ⟨w1.heap.size, 6, none⟩ = some (.int .u32 cR) ∧ W.cell? ⟨w1.heap.size, 7, none⟩ = some (.bool true) ∧ W.cell? ⟨w.heap.size + 1, 0, none⟩ = some (.int .u32 bC) ∧ W.cell? ⟨w.heap.size + 1, 1, none⟩ = some (.int .u8 bE) ∧ W.cell? ⟨w.heap.size + 1, 2, none⟩ = some (.int .u16 bB) ∧ W.cell? ⟨w.heap.size + 1, 3, none⟩ = some (.int .u16 bT) ∧ W.cell? ⟨w.heap.size + 1, 4, none⟩ = some (.int .u16 bP) ∧ W.cell? ⟨w.heap.size + 1, 5, none⟩ = some (.int .u16 bY) ∧ W.cell? ⟨w.heap.size + 1, 6, none⟩ = some (.int .u32 bR) ∧ W.cell? ⟨w.heap.size + 1, 7, none⟩ = some (.bool bV)) := fun W hW => ⟨((q7.alloc _).below hW (by first | omega | (simp; done) | (simp; omega))).cell 0, ((q7.alloc _).below hW (by first | omega | (simp; done) | (simp; omega))).cell 1, ((q7.alloc _).below hW (by first | omega | (simp; done) | (simp; omega))).cell 2, ((q7.alloc _).below hW (by first | omega | (simp; done) | (simp; omega))).cell 3, ((q7.alloc _).below hW (by first | omega | (simp; done) | (simp; omega))).cell 4, ((q7.alloc _).below hW (by first | omega | (simp; done) | (simp; omega))).cell 5, ((q7.alloc _).below hW (by first | omega | (simp; done) | (simp; omega))).cell 6, ((q7.alloc _).below hW (by first | omega | (simp; done) | (simp; omega))).cell 7, ((q1.alloc _).below hW (by first | omega | (simp; done) | (simp; omega))).cell 0, ((q1.alloc _).below hW (by first | omega | (simp; done) | (simp; omega))).cell 1, ((q1.alloc _).below hW (by first | omega | (simp; done) | (simp; omega))).cell 2, ((q1.alloc _).below hW (by first | omega | (simp; done) | (simp; omega))).cell 3, ((q1.alloc _).below hW (by first | omega | (simp; done) | (simp; omega))).cell 4, ((q1.alloc _).below hW (by first | omega | (simp; done) | (simp; omega))).cell 5, ((q1.alloc _).below hW (by first | omega | (simp; done) | (simp; omega))).cell 6, ((q1.alloc _).below hW (by first | omega | (simp; done) | (simp; omega))).cell 7⟩
  have hK : Below (w2.alloc (.cells #[.int .u32 cC, .int .u8 cE, .int .u16 cB, .int .u16 cT, .int .u16 cP, .int .u16 0, .int .u32 cR, .bool true] 25)).heap.size (w2.alloc (.cells #[.int .u32 cC, .int .u8 cE, .int .u16 cB, .int .u16 cT, .int .u16 cP, .int .u16 0, .int .u32 cR, .bool true] 25)) (w2.alloc (.cells #[.int .u32 cC, .int .u8 cE, .int .u16 cB, .int .u16 cT, .int .u16 cP, .int .u16 0, .int .u32 cR, .bool true] 25)) := Below.refl _ _
  have YQ1 := hide (q1.alloc (.cells #[.int .u32 cC, .int .u8 cE, .int .u16 cB, .int .u16 cT, .int .u16 cP, .int .u16 0, .int .u32 cR, .bool true] 25))
  clear q0 q1 q7 k2
  go_wp2_with fail
  go_region_held3 (fun w' => w'.cell? ⟨w1.heap.size, 0, none⟩ = some (.int .u32 cC) ∧ w'.cell? ⟨w1.heap.size, 1, none⟩ = some (.int .u8 cE) ∧ w'.cell? ⟨w1.heap.size, 2, none⟩ = some (.int .u16 cB) ∧ w'.cell? ⟨w1.heap.size, 3, none⟩ = some (.int .u16 cT) ∧ w'.cell? ⟨w1.heap.size, 4, none⟩ = some (.int .u16 cP) ∧ w'.cell? ⟨w1.heap.size, 5, none⟩ = some (.int .u16 bC) ∧ w'.cell? ⟨w1.heap.size, 6, none⟩ = some (.int .u32 cR) ∧ w'.cell? ⟨w1.heap.size, 7, none⟩ = some (.bool true) ∧ w'.cell? ⟨w.heap.size + 1, 0, none⟩ = some (.int .u32 bC) ∧ w'.cell? ⟨w.heap.size + 1, 1, none⟩ = some (.int .u8 bE) ∧ w'.cell? ⟨w.heap.size + 1, 2, none⟩ = some (.int .u16 bB) ∧ w'.cell? ⟨w.heap.size + 1, 3, none⟩ = some (.int .u16 bT) ∧ w'.cell? ⟨w.heap.size + 1, 4, none⟩ = some (.int .u16 bP) ∧ w'.cell? ⟨w.heap.size + 1, 5, none⟩ = some (.int .u16 bY) ∧ w'.cell? ⟨w.heap.size + 1, 6, none⟩ = some (.int .u32 bR) ∧ w'.cell? ⟨w.heap.size + 1, 7, none⟩ = some (.bool bV)) ((refine KK.out _ ?_; repeat (first | (with_reducible exact hK) | (with_reducible refine Below.drew ?_) | (with_reducible refine below_drewN ?_ _) | (with_reducible refine Below.alloc ?_ (by first | (simp; done) | exact hK.size | (have := hK.size; simp at this ⊢; omega)) _) | (with_reducible refine Below.setCell ?_ (by first | (simp; done) | exact hK.size | (have := hK.size; simp at this ⊢; omega)) _))))
    (first
      | (go_at_call 24; refine (HA.out _).mono ?_; rintro e' w9 ⟨rfl, hb⟩; obtain ⟨hc9, hf9⟩ := bcell hb; have hz9 := hb.size; (try simp at hz9); (try have l9 := Nat.lt_of_succ_le hz9); have hK' : Below (w2.alloc (.cells #[.int .u32 cC, .int .u8 cE, .int .u16 cB, .int .u16 cT, .int .u16 cP, .int .u16 0, .int .u32 cR, .bool true] 25)).heap.size (w2.alloc (.cells #[.int .u32 cC, .int .u8 cE, .int .u16 cB, .int .u16 cT, .int .u16 cP, .int .u16 0, .int .u32 cR, .bool true] 25)) w9 := (by refine Below.trans ?_ (hb.mono ?_); (first | (with_reducible exact hK) | (with_reducible exact hK.drew) | (with_reducible exact below_drewN hK _) | (with_reducible exact Below.alloc hK hK.size _) | (with_reducible exact Below.alloc hK.drew hK.size _) | (with_reducible exact (Below.alloc hK hK.size _).drew) | (with_reducible exact (Below.alloc (below_drewN hK _) hK.size _))); (first | (with_reducible exact hK.size) | (simp; done) | (have := hK.size; simp at this ⊢; omega) | (have := hK.size; simp at this ⊢; done) | exact hK.size)); clear hb hK; have hK := hK'; clear hK')
      | (go_at_call 28; refine (HX.out _).mono ?_; rintro e' w9 ⟨rfl, hb⟩; obtain ⟨hc9, hf9⟩ := bcell hb; have hz9 := hb.size; (try simp at hz9); (try have l9 := Nat.lt_of_succ_le hz9); have hK' : Below (w2.alloc (.cells #[.int .u32 cC, .int .u8 cE, .int .u16 cB, .int .u16 cT, .int .u16 cP, .int .u16 0, .int .u32 cR, .bool true] 25)).heap.size (w2.alloc (.cells #[.int .u32 cC, .int .u8 cE, .int .u16 cB, .int .u16 cT, .int .u16 cP, .int .u16 0, .int .u32 cR, .bool true] 25)) w9 := (by refine Below.trans ?_ (hb.mono ?_); (first | (with_reducible exact hK) | (with_reducible exact hK.drew) | (with_reducible exact below_drewN hK _) | (with_reducible exact Below.alloc hK hK.size _) | (with_reducible exact Below.alloc hK.drew hK.size _) | (with_reducible exact (Below.alloc hK hK.size _).drew) | (with_reducible exact (Below.alloc (below_drewN hK _) hK.size _))); (first | (with_reducible exact hK.size) | (simp; done) | (have := hK.size; simp at this ⊢; omega) | (have := hK.size; simp at this ⊢; done) | exact hK.size)); clear hb hK; have hK := hK'; clear hK'))
  all_goals
    have kz := K2.out.trans (hK.mono K2.out.size)
    have HKZ := hide kz
    have s2 := K2.out.size
    have s9 := kz.size
    simp at s2
    clear hK kz
    go_wp2_with fail
    refine (dworks_any _).mono ?_
    rintro e' w5 ⟨rfl, hb5⟩
    have HB5 := hide hb5; clear hb5
    go_wp2
    go_ret
    exact ⟨rfl, Below.trans (by repeat (first | (with_reducible exact HKZ.out) | (with_reducible refine Below.drew ?_) | (with_reducible refine below_drewN ?_ _) | (with_reducible refine Below.alloc ?_ (by first | omega | (simp; done) | (simp; omega)) _) | (with_reducible refine Below.setCell ?_ (by first | omega | (simp; done) | (simp; omega)) _))) (HB5.out.mono (by first | omega | (simp; done) | (simp; omega)))⟩

set_option maxRecDepth 100000 in
set_option maxHeartbeats 4000000 in
theorem back_01 (cC cE cB cT cP cR : Nat) (bC bE bB bT bP bY bR : Nat) (bV : Bool) (n : Nat) (k' : Bool) (zC zE zB zT zP zY zR : Nat) (xC xE xB xT xP xY xR : Nat) (w : World) (hnx : ((n : Int) == (bC : Int)) = true)
    (hn : (bits .and .u16 (bP : Int) 64 != 0) = false)
    (HS : Hid (∀ W, Calls Try.prog 26 #[.agg #[.int .u32 cC, .int .u8 cE, .int .u16 cB, .int .u16 cT, .int .u16 cP, .int .u16 0, .int .u32 cR, .bool true], .agg #[.int .u32 bC, .int .u8 bE, .int .u16 bB, .int .u16 bT, .int .u16 bP, .int .u16 bY, .int .u32 bR, .bool bV]] W fun e w' => e = .returned (.agg #[.int .u32 cC, .int .u8 cE, .int .u16 cB, .int .u16 cT, .int .u16 cP, .int .u16 bC, .int .u32 cR, .bool true]) ∧ Below W.heap.size W w'))
    (HO : Hid (∀ W, Calls Try.prog 28 #[.agg #[.int .u32 cC, .int .u8 cE, .int .u16 cB, .int .u16 cT, .int .u16 cP, .int .u16 bC, .int .u32 cR, .bool true], .agg #[.int .u32 bC, .int .u8 bE, .int .u16 bB, .int .u16 bT, .int .u16 bP, .int .u16 bY, .int .u32 bR, .bool bV]] W fun e w' => e = .returned (.agg #[.int .u32 zC, .int .u8 zE, .int .u16 zB, .int .u16 zT, .int .u16 zP, .int .u16 zY, .int .u32 zR, .bool false]) ∧ Below W.heap.size W w'))
    (HA : Hid (∀ W, Calls Try.prog 24 #[.agg #[.int .u32 bC, .int .u8 bE, .int .u16 bB, .int .u16 bT, .int .u16 bP, .int .u16 bY, .int .u32 bR, .bool bV], .int .u32 n] W fun e w' => e = .returned (.agg #[.int .u32 n, .int .u8 bE, .int .u16 bB, .int .u16 bT, .int .u16 bP, .int .u16 bY, .int .u32 bR, .bool k']) ∧ Below W.heap.size W w'))
    (HX : Hid (∀ W, Calls Try.prog 28 #[.agg #[.int .u32 cC, .int .u8 cE, .int .u16 cB, .int .u16 cT, .int .u16 cP, .int .u16 bC, .int .u32 cR, .bool true], .agg #[.int .u32 n, .int .u8 bE, .int .u16 bB, .int .u16 bT, .int .u16 bP, .int .u16 bY, .int .u32 bR, .bool k']] W fun e w' => e = .returned (.agg #[.int .u32 xC, .int .u8 xE, .int .u16 xB, .int .u16 xT, .int .u16 xP, .int .u16 xY, .int .u32 xR, .bool true]) ∧ Below W.heap.size W w')) :
    Calls Try.prog 11 #[.agg #[.int .u32 cC, .int .u8 cE, .int .u16 cB, .int .u16 cT, .int .u16 cP, .int .u16 0, .int .u32 cR, .bool true], .agg #[.int .u32 bC, .int .u8 bE, .int .u16 bB, .int .u16 bT, .int .u16 bP, .int .u16 bY, .int .u32 bR, .bool bV], .int .u32 n] w fun e w' => e = .returned (.bool true) ∧ Below w.heap.size w w' := by
  have hne := fun W => neq_cap cC cE cB cT cP 0 cR true cC cE cB cT cP 0 cR true W
  rw [capEq_self] at hne
  simp only [Int.cast_ofNat_Int, Bool.not_true] at hne
  have hq0 : Blk ((w.alloc (.cells #[.int .u32 cC, .int .u8 cE, .int .u16 cB, .int .u16 cT, .int .u16 cP, .int .u16 0, .int .u32 cR, .bool true] 25)).alloc (.cells #[.int .u32 bC, .int .u8 bE, .int .u16 bB, .int .u16 bT, .int .u16 bP, .int .u16 bY, .int .u32 bR, .bool bV] 25)) w.heap.size 25 #[.int .u32 cC, .int .u8 cE, .int .u16 cB, .int .u16 cT, .int .u16 cP, .int .u16 0, .int .u32 cR, .bool true] := Blk.new1 w _ _ _
  have hq1 : Blk ((w.alloc (.cells #[.int .u32 cC, .int .u8 cE, .int .u16 cB, .int .u16 cT, .int .u16 cP, .int .u16 0, .int .u32 cR, .bool true] 25)).alloc (.cells #[.int .u32 bC, .int .u8 bE, .int .u16 bB, .int .u16 bT, .int .u16 bP, .int .u16 bY, .int .u32 bR, .bool bV] 25)) (w.heap.size + 1) 25 #[.int .u32 bC, .int .u8 bE, .int .u16 bB, .int .u16 bT, .int .u16 bP, .int .u16 bY, .int .u32 bR, .bool bV] := Blk.new2 w _ _ _
  have kb : Below w.heap.size w ((w.alloc (.cells #[.int .u32 cC, .int .u8 cE, .int .u16 cB, .int .u16 cT, .int .u16 cP, .int .u16 0, .int .u32 cR, .bool true] 25)).alloc (.cells #[.int .u32 bC, .int .u8 bE, .int .u16 bB, .int .u16 bT, .int .u16 bP, .int .u16 bY, .int .u32 bR, .bool bV] 25)) := by (repeat (first | (with_reducible exact Below.refl _ _) | (with_reducible refine Below.drew ?_) | (with_reducible refine below_drewN ?_ _) | (with_reducible refine Below.alloc ?_ (by simp <;> omega) _) | (with_reducible refine Below.setCell ?_ (by simp <;> omega) _)))
  have H0 := hide hq0
  have H1 := hide hq1
  have HK := hide kb
  clear hq0 hq1 kb
  go_enter Try.func11, Try.ntmps11
  go_wp2_with fail
  refine (HS.out _).mono ?_
  rintro e w1 ⟨rfl, hb1⟩
  have q0 := (H0.out.below hb1 (by first | omega | (simp; done) | (simp; omega))).alloc (.cells #[.int .u32 cC, .int .u8 cE, .int .u16 cB, .int .u16 cT, .int .u16 cP, .int .u16 bC, .int .u32 cR, .bool true] 25)
  have q1 := (H1.out.below hb1 (by first | omega | (simp; done) | (simp; omega))).alloc (.cells #[.int .u32 cC, .int .u8 cE, .int .u16 cB, .int .u16 cT, .int .u16 cP, .int .u16 bC, .int .u32 cR, .bool true] 25)
  have q7 := Blk.new w1 25 #[.int .u32 cC, .int .u8 cE, .int .u16 cB, .int .u16 cT, .int .u16 cP, .int .u16 bC, .int .u32 cR, .bool true]
  have k1 := (HK.out.trans (hb1.mono HK.out.size)).alloc (Nat.le_trans HK.out.size hb1.size) (.cells #[.int .u32 cC, .int .u8 cE, .int .u16 cB, .int .u16 cT, .int .u16 cP, .int .u16 bC, .int .u32 cR, .bool true] 25)
  clear hb1
  have p0 := q0.cell 0
  have p1 := q0.cell 1
  have p2 := q0.cell 2
  have p3 := q0.cell 3
  have p4 := q0.cell 4
  have p5 := q0.cell 5
  have p6 := q0.cell 6
  have p7 := q0.cell 7
  simp at p0 p1 p2 p3 p4 p5 p6 p7
  have s0 := q1.cell 0
  have s1 := q1.cell 1
  have s2 := q1.cell 2
  have s3 := q1.cell 3
  have s4 := q1.cell 4
  have s5 := q1.cell 5
  have s6 := q1.cell 6
  have s7 := q1.cell 7
  simp at s0 s1 s2 s3 s4 s5 s6 s7
  have r0 := q7.cell 0
  have r1 := q7.cell 1
  have r2 := q7.cell 2
  have r3 := q7.cell 3
  have r4 := q7.cell 4
  have r5 := q7.cell 5
  have r6 := q7.cell 6
  have r7 := q7.cell 7
  simp at r0 r1 r2 r3 r4 r5 r6 r7
  have Q0 := hide q0
  have Q1 := hide q1
  have Q7 := hide q7
  have K1 := hide k1
  clear q0 q1 q7 k1
  go_wp2_with fail
  refine (HO.out _).mono ?_
  rintro e w2 ⟨rfl, hb2⟩
  have q0 := Q0.out.below hb2 Q0.out.lt
  have q1 := Q1.out.below hb2 Q1.out.lt
  have q7 := Q7.out.below hb2 Q7.out.lt
  have k2 := (K1.out.trans (hb2.mono K1.out.size)).alloc (Nat.le_trans K1.out.size hb2.size) (.cells #[.int .u32 zC, .int .u8 zE, .int .u16 zB, .int .u16 zT, .int .u16 zP, .int .u16 zY, .int .u32 zR, .bool false] 25)
  have l0 := q0.lt
  have l1 := q1.lt
  have l7 := q7.lt
  clear hb2 p0 p1 p2 p3 p4 p5 p6 p7 s0 s1 s2 s3 s4 s5 s6 s7 r0 r1 r2 r3 r4 r5 r6 r7
  have p0 := q0.cell 0
  have p1 := q0.cell 1
  have p2 := q0.cell 2
  have p3 := q0.cell 3
  have p4 := q0.cell 4
  have p5 := q0.cell 5
  have p6 := q0.cell 6
  have p7 := q0.cell 7
  simp at p0 p1 p2 p3 p4 p5 p6 p7
  have s0 := q1.cell 0
  have s1 := q1.cell 1
  have s2 := q1.cell 2
  have s3 := q1.cell 3
  have s4 := q1.cell 4
  have s5 := q1.cell 5
  have s6 := q1.cell 6
  have s7 := q1.cell 7
  simp at s0 s1 s2 s3 s4 s5 s6 s7
  have r0 := q7.cell 0
  have r1 := q7.cell 1
  have r2 := q7.cell 2
  have r3 := q7.cell 3
  have r4 := q7.cell 4
  have r5 := q7.cell 5
  have r6 := q7.cell 6
  have r7 := q7.cell 7
  simp at r0 r1 r2 r3 r4 r5 r6 r7
  have K2 := hide k2
  have KK : Hid (∀ W, Below (w2.alloc (.cells #[.int .u32 zC, .int .u8 zE, .int .u16 zB, .int .u16 zT, .int .u16 zP, .int .u16 zY, .int .u32 zR, .bool false] 25)).heap.size (w2.alloc (.cells #[.int .u32 zC, .int .u8 zE, .int .u16 zB, .int .u16 zT, .int .u16 zP, .int .u16 zY, .int .u32 zR, .bool false] 25)) W → W.cell? ⟨w1.heap.size, 0, none⟩ = some (.int .u32 cC) ∧ W.cell? ⟨w1.heap.size, 1, none⟩ = some (.int .u8 cE) ∧ W.cell? ⟨w1.heap.size, 2, none⟩ = some (.int .u16 cB) ∧ W.cell? ⟨w1.heap.size, 3, none⟩ = some (.int .u16 cT) ∧ W.cell? ⟨w1.heap.size, 4, none⟩ = some (.int .u16 cP) ∧ W.cell? ⟨w1.heap.size, 5, none⟩ = some (.int .u16 bC) ∧ W.cell? ⟨w1.heap.size, 6, none⟩ = some (.int .u32 cR) ∧ W.cell? ⟨w1.heap.size, 7, none⟩ = some (.bool true) ∧ W.cell? ⟨w.heap.size + 1, 0, none⟩ = some (.int .u32 bC) ∧ W.cell? ⟨w.heap.size + 1, 1, none⟩ = some (.int .u8 bE) ∧ W.cell? ⟨w.heap.size + 1, 2, none⟩ = some (.int .u16 bB) ∧ W.cell? ⟨w.heap.size + 1, 3, none⟩ = some (.int .u16 bT) ∧ W.cell? ⟨w.heap.size + 1, 4, none⟩ = some (.int .u16 bP) ∧ W.cell? ⟨w.heap.size + 1, 5, none⟩ = some (.int .u16 bY) ∧ W.cell? ⟨w.heap.size + 1, 6, none⟩ = some (.int .u32 bR) ∧ W.cell? ⟨w.heap.size + 1, 7, none⟩ = some (.bool bV)) := fun W hW => ⟨((q7.alloc _).below hW (by first | omega | (simp; done) | (simp; omega))).cell 0, ((q7.alloc _).below hW (by first | omega | (simp; done) | (simp; omega))).cell 1, ((q7.alloc _).below hW (by first | omega | (simp; done) | (simp; omega))).cell 2, ((q7.alloc _).below hW (by first | omega | (simp; done) | (simp; omega))).cell 3, ((q7.alloc _).below hW (by first | omega | (simp; done) | (simp; omega))).cell 4, ((q7.alloc _).below hW (by first | omega | (simp; done) | (simp; omega))).cell 5, ((q7.alloc _).below hW (by first | omega | (simp; done) | (simp; omega))).cell 6, ((q7.alloc _).below hW (by first | omega | (simp; done) | (simp; omega))).cell 7, ((q1.alloc _).below hW (by first | omega | (simp; done) | (simp; omega))).cell 0, ((q1.alloc _).below hW (by first | omega | (simp; done) | (simp; omega))).cell 1, ((q1.alloc _).below hW (by first | omega | (simp; done) | (simp; omega))).cell 2, ((q1.alloc _).below hW (by first | omega | (simp; done) | (simp; omega))).cell 3, ((q1.alloc _).below hW (by first | omega | (simp; done) | (simp; omega))).cell 4, ((q1.alloc _).below hW (by first | omega | (simp; done) | (simp; omega))).cell 5, ((q1.alloc _).below hW (by first | omega | (simp; done) | (simp; omega))).cell 6, ((q1.alloc _).below hW (by first | omega | (simp; done) | (simp; omega))).cell 7⟩
  have hK : Below (w2.alloc (.cells #[.int .u32 zC, .int .u8 zE, .int .u16 zB, .int .u16 zT, .int .u16 zP, .int .u16 zY, .int .u32 zR, .bool false] 25)).heap.size (w2.alloc (.cells #[.int .u32 zC, .int .u8 zE, .int .u16 zB, .int .u16 zT, .int .u16 zP, .int .u16 zY, .int .u32 zR, .bool false] 25)) (w2.alloc (.cells #[.int .u32 zC, .int .u8 zE, .int .u16 zB, .int .u16 zT, .int .u16 zP, .int .u16 zY, .int .u32 zR, .bool false] 25)) := Below.refl _ _
  have YQ1 := hide (q1.alloc (.cells #[.int .u32 zC, .int .u8 zE, .int .u16 zB, .int .u16 zT, .int .u16 zP, .int .u16 zY, .int .u32 zR, .bool false] 25))
  clear q0 q1 q7 k2
  go_wp2_with fail
  go_region_held3 (fun w' => w'.cell? ⟨w1.heap.size, 0, none⟩ = some (.int .u32 cC) ∧ w'.cell? ⟨w1.heap.size, 1, none⟩ = some (.int .u8 cE) ∧ w'.cell? ⟨w1.heap.size, 2, none⟩ = some (.int .u16 cB) ∧ w'.cell? ⟨w1.heap.size, 3, none⟩ = some (.int .u16 cT) ∧ w'.cell? ⟨w1.heap.size, 4, none⟩ = some (.int .u16 cP) ∧ w'.cell? ⟨w1.heap.size, 5, none⟩ = some (.int .u16 bC) ∧ w'.cell? ⟨w1.heap.size, 6, none⟩ = some (.int .u32 cR) ∧ w'.cell? ⟨w1.heap.size, 7, none⟩ = some (.bool true) ∧ w'.cell? ⟨w.heap.size + 1, 0, none⟩ = some (.int .u32 bC) ∧ w'.cell? ⟨w.heap.size + 1, 1, none⟩ = some (.int .u8 bE) ∧ w'.cell? ⟨w.heap.size + 1, 2, none⟩ = some (.int .u16 bB) ∧ w'.cell? ⟨w.heap.size + 1, 3, none⟩ = some (.int .u16 bT) ∧ w'.cell? ⟨w.heap.size + 1, 4, none⟩ = some (.int .u16 bP) ∧ w'.cell? ⟨w.heap.size + 1, 5, none⟩ = some (.int .u16 bY) ∧ w'.cell? ⟨w.heap.size + 1, 6, none⟩ = some (.int .u32 bR) ∧ w'.cell? ⟨w.heap.size + 1, 7, none⟩ = some (.bool bV)) ((refine KK.out _ ?_; repeat (first | (with_reducible exact hK) | (with_reducible refine Below.drew ?_) | (with_reducible refine below_drewN ?_ _) | (with_reducible refine Below.alloc ?_ (by first | (simp; done) | exact hK.size | (have := hK.size; simp at this ⊢; omega)) _) | (with_reducible refine Below.setCell ?_ (by first | (simp; done) | exact hK.size | (have := hK.size; simp at this ⊢; omega)) _))))
    (first
      | (go_at_call 24; refine (HA.out _).mono ?_; rintro e' w9 ⟨rfl, hb⟩; obtain ⟨hc9, hf9⟩ := bcell hb; have hz9 := hb.size; (try simp at hz9); (try have l9 := Nat.lt_of_succ_le hz9); have hK' : Below (w2.alloc (.cells #[.int .u32 zC, .int .u8 zE, .int .u16 zB, .int .u16 zT, .int .u16 zP, .int .u16 zY, .int .u32 zR, .bool false] 25)).heap.size (w2.alloc (.cells #[.int .u32 zC, .int .u8 zE, .int .u16 zB, .int .u16 zT, .int .u16 zP, .int .u16 zY, .int .u32 zR, .bool false] 25)) w9 := (by refine Below.trans ?_ (hb.mono ?_); (first | (with_reducible exact hK) | (with_reducible exact hK.drew) | (with_reducible exact below_drewN hK _) | (with_reducible exact Below.alloc hK hK.size _) | (with_reducible exact Below.alloc hK.drew hK.size _) | (with_reducible exact (Below.alloc hK hK.size _).drew) | (with_reducible exact (Below.alloc (below_drewN hK _) hK.size _))); (first | (with_reducible exact hK.size) | (simp; done) | (have := hK.size; simp at this ⊢; omega) | (have := hK.size; simp at this ⊢; done) | exact hK.size)); clear hb hK; have hK := hK'; clear hK')
      | (go_at_call 28; refine (HX.out _).mono ?_; rintro e' w9 ⟨rfl, hb⟩; obtain ⟨hc9, hf9⟩ := bcell hb; have hz9 := hb.size; (try simp at hz9); (try have l9 := Nat.lt_of_succ_le hz9); have hK' : Below (w2.alloc (.cells #[.int .u32 zC, .int .u8 zE, .int .u16 zB, .int .u16 zT, .int .u16 zP, .int .u16 zY, .int .u32 zR, .bool false] 25)).heap.size (w2.alloc (.cells #[.int .u32 zC, .int .u8 zE, .int .u16 zB, .int .u16 zT, .int .u16 zP, .int .u16 zY, .int .u32 zR, .bool false] 25)) w9 := (by refine Below.trans ?_ (hb.mono ?_); (first | (with_reducible exact hK) | (with_reducible exact hK.drew) | (with_reducible exact below_drewN hK _) | (with_reducible exact Below.alloc hK hK.size _) | (with_reducible exact Below.alloc hK.drew hK.size _) | (with_reducible exact (Below.alloc hK hK.size _).drew) | (with_reducible exact (Below.alloc (below_drewN hK _) hK.size _))); (first | (with_reducible exact hK.size) | (simp; done) | (have := hK.size; simp at this ⊢; omega) | (have := hK.size; simp at this ⊢; done) | exact hK.size)); clear hb hK; have hK := hK'; clear hK'))
  all_goals
    have kz := K2.out.trans (hK.mono K2.out.size)
    have HKZ := hide kz
    have s2 := K2.out.size
    have s9 := kz.size
    simp at s2
    clear hK kz
    go_wp2_with fail
    refine (dworks_any _).mono ?_
    rintro e' w5 ⟨rfl, hb5⟩
    have HB5 := hide hb5; clear hb5
    go_wp2
    go_ret
    exact ⟨rfl, Below.trans (by repeat (first | (with_reducible exact HKZ.out) | (with_reducible refine Below.drew ?_) | (with_reducible refine below_drewN ?_ _) | (with_reducible refine Below.alloc ?_ (by first | omega | (simp; done) | (simp; omega)) _) | (with_reducible refine Below.setCell ?_ (by first | omega | (simp; done) | (simp; omega)) _))) (HB5.out.mono (by first | omega | (simp; done) | (simp; omega)))⟩

set_option maxRecDepth 100000 in
set_option maxHeartbeats 4000000 in
theorem back_00 (cC cE cB cT cP cR : Nat) (bC bE bB bT bP bY bR : Nat) (bV : Bool) (n : Nat) (k' : Bool) (zC zE zB zT zP zY zR : Nat) (xC xE xB xT xP xY xR : Nat) (w : World)
    (hn : (bits .and .u16 (bP : Int) 64 != 0) = false)
    (HS : Hid (∀ W, Calls Try.prog 26 #[.agg #[.int .u32 cC, .int .u8 cE, .int .u16 cB, .int .u16 cT, .int .u16 cP, .int .u16 0, .int .u32 cR, .bool true], .agg #[.int .u32 bC, .int .u8 bE, .int .u16 bB, .int .u16 bT, .int .u16 bP, .int .u16 bY, .int .u32 bR, .bool bV]] W fun e w' => e = .returned (.agg #[.int .u32 cC, .int .u8 cE, .int .u16 cB, .int .u16 cT, .int .u16 cP, .int .u16 bC, .int .u32 cR, .bool true]) ∧ Below W.heap.size W w'))
    (HO : Hid (∀ W, Calls Try.prog 28 #[.agg #[.int .u32 cC, .int .u8 cE, .int .u16 cB, .int .u16 cT, .int .u16 cP, .int .u16 bC, .int .u32 cR, .bool true], .agg #[.int .u32 bC, .int .u8 bE, .int .u16 bB, .int .u16 bT, .int .u16 bP, .int .u16 bY, .int .u32 bR, .bool bV]] W fun e w' => e = .returned (.agg #[.int .u32 zC, .int .u8 zE, .int .u16 zB, .int .u16 zT, .int .u16 zP, .int .u16 zY, .int .u32 zR, .bool false]) ∧ Below W.heap.size W w'))
    (HA : Hid (∀ W, Calls Try.prog 24 #[.agg #[.int .u32 bC, .int .u8 bE, .int .u16 bB, .int .u16 bT, .int .u16 bP, .int .u16 bY, .int .u32 bR, .bool bV], .int .u32 n] W fun e w' => e = .returned (.agg #[.int .u32 n, .int .u8 bE, .int .u16 bB, .int .u16 bT, .int .u16 bP, .int .u16 bY, .int .u32 bR, .bool k']) ∧ Below W.heap.size W w'))
    (HX : Hid (∀ W, Calls Try.prog 28 #[.agg #[.int .u32 cC, .int .u8 cE, .int .u16 cB, .int .u16 cT, .int .u16 cP, .int .u16 bC, .int .u32 cR, .bool true], .agg #[.int .u32 n, .int .u8 bE, .int .u16 bB, .int .u16 bT, .int .u16 bP, .int .u16 bY, .int .u32 bR, .bool k']] W fun e w' => e = .returned (.agg #[.int .u32 xC, .int .u8 xE, .int .u16 xB, .int .u16 xT, .int .u16 xP, .int .u16 xY, .int .u32 xR, .bool false]) ∧ Below W.heap.size W w')) :
    Calls Try.prog 11 #[.agg #[.int .u32 cC, .int .u8 cE, .int .u16 cB, .int .u16 cT, .int .u16 cP, .int .u16 0, .int .u32 cR, .bool true], .agg #[.int .u32 bC, .int .u8 bE, .int .u16 bB, .int .u16 bT, .int .u16 bP, .int .u16 bY, .int .u32 bR, .bool bV], .int .u32 n] w fun e w' => e = .returned (.bool true) ∧ Below w.heap.size w w' := by
  have hne := fun W => neq_cap cC cE cB cT cP 0 cR true cC cE cB cT cP 0 cR true W
  rw [capEq_self] at hne
  simp only [Int.cast_ofNat_Int, Bool.not_true] at hne
  have hq0 : Blk ((w.alloc (.cells #[.int .u32 cC, .int .u8 cE, .int .u16 cB, .int .u16 cT, .int .u16 cP, .int .u16 0, .int .u32 cR, .bool true] 25)).alloc (.cells #[.int .u32 bC, .int .u8 bE, .int .u16 bB, .int .u16 bT, .int .u16 bP, .int .u16 bY, .int .u32 bR, .bool bV] 25)) w.heap.size 25 #[.int .u32 cC, .int .u8 cE, .int .u16 cB, .int .u16 cT, .int .u16 cP, .int .u16 0, .int .u32 cR, .bool true] := Blk.new1 w _ _ _
  have hq1 : Blk ((w.alloc (.cells #[.int .u32 cC, .int .u8 cE, .int .u16 cB, .int .u16 cT, .int .u16 cP, .int .u16 0, .int .u32 cR, .bool true] 25)).alloc (.cells #[.int .u32 bC, .int .u8 bE, .int .u16 bB, .int .u16 bT, .int .u16 bP, .int .u16 bY, .int .u32 bR, .bool bV] 25)) (w.heap.size + 1) 25 #[.int .u32 bC, .int .u8 bE, .int .u16 bB, .int .u16 bT, .int .u16 bP, .int .u16 bY, .int .u32 bR, .bool bV] := Blk.new2 w _ _ _
  have kb : Below w.heap.size w ((w.alloc (.cells #[.int .u32 cC, .int .u8 cE, .int .u16 cB, .int .u16 cT, .int .u16 cP, .int .u16 0, .int .u32 cR, .bool true] 25)).alloc (.cells #[.int .u32 bC, .int .u8 bE, .int .u16 bB, .int .u16 bT, .int .u16 bP, .int .u16 bY, .int .u32 bR, .bool bV] 25)) := by (repeat (first | (with_reducible exact Below.refl _ _) | (with_reducible refine Below.drew ?_) | (with_reducible refine below_drewN ?_ _) | (with_reducible refine Below.alloc ?_ (by simp <;> omega) _) | (with_reducible refine Below.setCell ?_ (by simp <;> omega) _)))
  have H0 := hide hq0
  have H1 := hide hq1
  have HK := hide kb
  clear hq0 hq1 kb
  go_enter Try.func11, Try.ntmps11
  go_wp2_with fail
  refine (HS.out _).mono ?_
  rintro e w1 ⟨rfl, hb1⟩
  have q0 := (H0.out.below hb1 (by first | omega | (simp; done) | (simp; omega))).alloc (.cells #[.int .u32 cC, .int .u8 cE, .int .u16 cB, .int .u16 cT, .int .u16 cP, .int .u16 bC, .int .u32 cR, .bool true] 25)
  have q1 := (H1.out.below hb1 (by first | omega | (simp; done) | (simp; omega))).alloc (.cells #[.int .u32 cC, .int .u8 cE, .int .u16 cB, .int .u16 cT, .int .u16 cP, .int .u16 bC, .int .u32 cR, .bool true] 25)
  have q7 := Blk.new w1 25 #[.int .u32 cC, .int .u8 cE, .int .u16 cB, .int .u16 cT, .int .u16 cP, .int .u16 bC, .int .u32 cR, .bool true]
  have k1 := (HK.out.trans (hb1.mono HK.out.size)).alloc (Nat.le_trans HK.out.size hb1.size) (.cells #[.int .u32 cC, .int .u8 cE, .int .u16 cB, .int .u16 cT, .int .u16 cP, .int .u16 bC, .int .u32 cR, .bool true] 25)
  clear hb1
  have p0 := q0.cell 0
  have p1 := q0.cell 1
  have p2 := q0.cell 2
  have p3 := q0.cell 3
  have p4 := q0.cell 4
  have p5 := q0.cell 5
  have p6 := q0.cell 6
  have p7 := q0.cell 7
  simp at p0 p1 p2 p3 p4 p5 p6 p7
  have s0 := q1.cell 0
  have s1 := q1.cell 1
  have s2 := q1.cell 2
  have s3 := q1.cell 3
  have s4 := q1.cell 4
  have s5 := q1.cell 5
  have s6 := q1.cell 6
  have s7 := q1.cell 7
  simp at s0 s1 s2 s3 s4 s5 s6 s7
  have r0 := q7.cell 0
  have r1 := q7.cell 1
  have r2 := q7.cell 2
  have r3 := q7.cell 3
  have r4 := q7.cell 4
  have r5 := q7.cell 5
  have r6 := q7.cell 6
  have r7 := q7.cell 7
  simp at r0 r1 r2 r3 r4 r5 r6 r7
  have Q0 := hide q0
  have Q1 := hide q1
  have Q7 := hide q7
  have K1 := hide k1
  clear q0 q1 q7 k1
  go_wp2_with fail
  refine (HO.out _).mono ?_
  rintro e w2 ⟨rfl, hb2⟩
  have q0 := Q0.out.below hb2 Q0.out.lt
  have q1 := Q1.out.below hb2 Q1.out.lt
  have q7 := Q7.out.below hb2 Q7.out.lt
  have k2 := (K1.out.trans (hb2.mono K1.out.size)).alloc (Nat.le_trans K1.out.size hb2.size) (.cells #[.int .u32 zC, .int .u8 zE, .int .u16 zB, .int .u16 zT, .int .u16 zP, .int .u16 zY, .int .u32 zR, .bool false] 25)
  have l0 := q0.lt
  have l1 := q1.lt
  have l7 := q7.lt
  clear hb2 p0 p1 p2 p3 p4 p5 p6 p7 s0 s1 s2 s3 s4 s5 s6 s7 r0 r1 r2 r3 r4 r5 r6 r7
  have p0 := q0.cell 0
  have p1 := q0.cell 1
  have p2 := q0.cell 2
  have p3 := q0.cell 3
  have p4 := q0.cell 4
  have p5 := q0.cell 5
  have p6 := q0.cell 6
  have p7 := q0.cell 7
  simp at p0 p1 p2 p3 p4 p5 p6 p7
  have s0 := q1.cell 0
  have s1 := q1.cell 1
  have s2 := q1.cell 2
  have s3 := q1.cell 3
  have s4 := q1.cell 4
  have s5 := q1.cell 5
  have s6 := q1.cell 6
  have s7 := q1.cell 7
  simp at s0 s1 s2 s3 s4 s5 s6 s7
  have r0 := q7.cell 0
  have r1 := q7.cell 1
  have r2 := q7.cell 2
  have r3 := q7.cell 3
  have r4 := q7.cell 4
  have r5 := q7.cell 5
  have r6 := q7.cell 6
  have r7 := q7.cell 7
  simp at r0 r1 r2 r3 r4 r5 r6 r7
  have K2 := hide k2
  have KK : Hid (∀ W, Below (w2.alloc (.cells #[.int .u32 zC, .int .u8 zE, .int .u16 zB, .int .u16 zT, .int .u16 zP, .int .u16 zY, .int .u32 zR, .bool false] 25)).heap.size (w2.alloc (.cells #[.int .u32 zC, .int .u8 zE, .int .u16 zB, .int .u16 zT, .int .u16 zP, .int .u16 zY, .int .u32 zR, .bool false] 25)) W → W.cell? ⟨w1.heap.size, 0, none⟩ = some (.int .u32 cC) ∧ W.cell? ⟨w1.heap.size, 1, none⟩ = some (.int .u8 cE) ∧ W.cell? ⟨w1.heap.size, 2, none⟩ = some (.int .u16 cB) ∧ W.cell? ⟨w1.heap.size, 3, none⟩ = some (.int .u16 cT) ∧ W.cell? ⟨w1.heap.size, 4, none⟩ = some (.int .u16 cP) ∧ W.cell? ⟨w1.heap.size, 5, none⟩ = some (.int .u16 bC) ∧ W.cell? ⟨w1.heap.size, 6, none⟩ = some (.int .u32 cR) ∧ W.cell? ⟨w1.heap.size, 7, none⟩ = some (.bool true) ∧ W.cell? ⟨w.heap.size + 1, 0, none⟩ = some (.int .u32 bC) ∧ W.cell? ⟨w.heap.size + 1, 1, none⟩ = some (.int .u8 bE) ∧ W.cell? ⟨w.heap.size + 1, 2, none⟩ = some (.int .u16 bB) ∧ W.cell? ⟨w.heap.size + 1, 3, none⟩ = some (.int .u16 bT) ∧ W.cell? ⟨w.heap.size + 1, 4, none⟩ = some (.int .u16 bP) ∧ W.cell? ⟨w.heap.size + 1, 5, none⟩ = some (.int .u16 bY) ∧ W.cell? ⟨w.heap.size + 1, 6, none⟩ = some (.int .u32 bR) ∧ W.cell? ⟨w.heap.size + 1, 7, none⟩ = some (.bool bV)) := fun W hW => ⟨((q7.alloc _).below hW (by first | omega | (simp; done) | (simp; omega))).cell 0, ((q7.alloc _).below hW (by first | omega | (simp; done) | (simp; omega))).cell 1, ((q7.alloc _).below hW (by first | omega | (simp; done) | (simp; omega))).cell 2, ((q7.alloc _).below hW (by first | omega | (simp; done) | (simp; omega))).cell 3, ((q7.alloc _).below hW (by first | omega | (simp; done) | (simp; omega))).cell 4, ((q7.alloc _).below hW (by first | omega | (simp; done) | (simp; omega))).cell 5, ((q7.alloc _).below hW (by first | omega | (simp; done) | (simp; omega))).cell 6, ((q7.alloc _).below hW (by first | omega | (simp; done) | (simp; omega))).cell 7, ((q1.alloc _).below hW (by first | omega | (simp; done) | (simp; omega))).cell 0, ((q1.alloc _).below hW (by first | omega | (simp; done) | (simp; omega))).cell 1, ((q1.alloc _).below hW (by first | omega | (simp; done) | (simp; omega))).cell 2, ((q1.alloc _).below hW (by first | omega | (simp; done) | (simp; omega))).cell 3, ((q1.alloc _).below hW (by first | omega | (simp; done) | (simp; omega))).cell 4, ((q1.alloc _).below hW (by first | omega | (simp; done) | (simp; omega))).cell 5, ((q1.alloc _).below hW (by first | omega | (simp; done) | (simp; omega))).cell 6, ((q1.alloc _).below hW (by first | omega | (simp; done) | (simp; omega))).cell 7⟩
  have hK : Below (w2.alloc (.cells #[.int .u32 zC, .int .u8 zE, .int .u16 zB, .int .u16 zT, .int .u16 zP, .int .u16 zY, .int .u32 zR, .bool false] 25)).heap.size (w2.alloc (.cells #[.int .u32 zC, .int .u8 zE, .int .u16 zB, .int .u16 zT, .int .u16 zP, .int .u16 zY, .int .u32 zR, .bool false] 25)) (w2.alloc (.cells #[.int .u32 zC, .int .u8 zE, .int .u16 zB, .int .u16 zT, .int .u16 zP, .int .u16 zY, .int .u32 zR, .bool false] 25)) := Below.refl _ _
  have YQ1 := hide (q1.alloc (.cells #[.int .u32 zC, .int .u8 zE, .int .u16 zB, .int .u16 zT, .int .u16 zP, .int .u16 zY, .int .u32 zR, .bool false] 25))
  clear q0 q1 q7 k2
  go_wp2_with fail
  go_region_held3 (fun w' => w'.cell? ⟨w1.heap.size, 0, none⟩ = some (.int .u32 cC) ∧ w'.cell? ⟨w1.heap.size, 1, none⟩ = some (.int .u8 cE) ∧ w'.cell? ⟨w1.heap.size, 2, none⟩ = some (.int .u16 cB) ∧ w'.cell? ⟨w1.heap.size, 3, none⟩ = some (.int .u16 cT) ∧ w'.cell? ⟨w1.heap.size, 4, none⟩ = some (.int .u16 cP) ∧ w'.cell? ⟨w1.heap.size, 5, none⟩ = some (.int .u16 bC) ∧ w'.cell? ⟨w1.heap.size, 6, none⟩ = some (.int .u32 cR) ∧ w'.cell? ⟨w1.heap.size, 7, none⟩ = some (.bool true) ∧ w'.cell? ⟨w.heap.size + 1, 0, none⟩ = some (.int .u32 bC) ∧ w'.cell? ⟨w.heap.size + 1, 1, none⟩ = some (.int .u8 bE) ∧ w'.cell? ⟨w.heap.size + 1, 2, none⟩ = some (.int .u16 bB) ∧ w'.cell? ⟨w.heap.size + 1, 3, none⟩ = some (.int .u16 bT) ∧ w'.cell? ⟨w.heap.size + 1, 4, none⟩ = some (.int .u16 bP) ∧ w'.cell? ⟨w.heap.size + 1, 5, none⟩ = some (.int .u16 bY) ∧ w'.cell? ⟨w.heap.size + 1, 6, none⟩ = some (.int .u32 bR) ∧ w'.cell? ⟨w.heap.size + 1, 7, none⟩ = some (.bool bV)) ((refine KK.out _ ?_; repeat (first | (with_reducible exact hK) | (with_reducible refine Below.drew ?_) | (with_reducible refine below_drewN ?_ _) | (with_reducible refine Below.alloc ?_ (by first | (simp; done) | exact hK.size | (have := hK.size; simp at this ⊢; omega)) _) | (with_reducible refine Below.setCell ?_ (by first | (simp; done) | exact hK.size | (have := hK.size; simp at this ⊢; omega)) _))))
    (first
      | (go_at_call 24; refine (HA.out _).mono ?_; rintro e' w9 ⟨rfl, hb⟩; obtain ⟨hc9, hf9⟩ := bcell hb; have hz9 := hb.size; (try simp at hz9); (try have l9 := Nat.lt_of_succ_le hz9); have hK' : Below (w2.alloc (.cells #[.int .u32 zC, .int .u8 zE, .int .u16 zB, .int .u16 zT, .int .u16 zP, .int .u16 zY, .int .u32 zR, .bool false] 25)).heap.size (w2.alloc (.cells #[.int .u32 zC, .int .u8 zE, .int .u16 zB, .int .u16 zT, .int .u16 zP, .int .u16 zY, .int .u32 zR, .bool false] 25)) w9 := (by refine Below.trans ?_ (hb.mono ?_); (first | (with_reducible exact hK) | (with_reducible exact hK.drew) | (with_reducible exact below_drewN hK _) | (with_reducible exact Below.alloc hK hK.size _) | (with_reducible exact Below.alloc hK.drew hK.size _) | (with_reducible exact (Below.alloc hK hK.size _).drew) | (with_reducible exact (Below.alloc (below_drewN hK _) hK.size _))); (first | (with_reducible exact hK.size) | (simp; done) | (have := hK.size; simp at this ⊢; omega) | (have := hK.size; simp at this ⊢; done) | exact hK.size)); clear hb hK; have hK := hK'; clear hK')
      | (go_at_call 28; refine (HX.out _).mono ?_; rintro e' w9 ⟨rfl, hb⟩; obtain ⟨hc9, hf9⟩ := bcell hb; have hz9 := hb.size; (try simp at hz9); (try have l9 := Nat.lt_of_succ_le hz9); have hK' : Below (w2.alloc (.cells #[.int .u32 zC, .int .u8 zE, .int .u16 zB, .int .u16 zT, .int .u16 zP, .int .u16 zY, .int .u32 zR, .bool false] 25)).heap.size (w2.alloc (.cells #[.int .u32 zC, .int .u8 zE, .int .u16 zB, .int .u16 zT, .int .u16 zP, .int .u16 zY, .int .u32 zR, .bool false] 25)) w9 := (by refine Below.trans ?_ (hb.mono ?_); (first | (with_reducible exact hK) | (with_reducible exact hK.drew) | (with_reducible exact below_drewN hK _) | (with_reducible exact Below.alloc hK hK.size _) | (with_reducible exact Below.alloc hK.drew hK.size _) | (with_reducible exact (Below.alloc hK hK.size _).drew) | (with_reducible exact (Below.alloc (below_drewN hK _) hK.size _))); (first | (with_reducible exact hK.size) | (simp; done) | (have := hK.size; simp at this ⊢; omega) | (have := hK.size; simp at this ⊢; done) | exact hK.size)); clear hb hK; have hK := hK'; clear hK'))
  all_goals
    have kz := K2.out.trans (hK.mono K2.out.size)
    have HKZ := hide kz
    have s2 := K2.out.size
    have s9 := kz.size
    simp at s2
    clear hK kz
    go_wp2_with fail
    refine (dworks_any _).mono ?_
    rintro e' w5 ⟨rfl, hb5⟩
    have HB5 := hide hb5; clear hb5
    go_wp2
    go_ret
    exact ⟨rfl, Below.trans (by repeat (first | (with_reducible exact HKZ.out) | (with_reducible refine Below.drew ?_) | (with_reducible refine below_drewN ?_ _) | (with_reducible refine Below.alloc ?_ (by first | omega | (simp; done) | (simp; omega)) _) | (with_reducible refine Below.setCell ?_ (by first | omega | (simp; done) | (simp; omega)) _))) (HB5.out.mono (by first | omega | (simp; done) | (simp; omega)))⟩

theorem freeN_true {cY : Nat} {cV : Bool} (h : freeN cY cV = true) : cV = true ∧ cY = 0 := by
  simp only [freeN, Bool.and_eq_true, decide_eq_true_eq] at h; exact h
theorem over_64 {cC cP cY : Nat} {cV : Bool} {x y : Nat} (h : overN cC cP cY cV 32 x y = true) : overN cC cP cY cV 64 x y = decide (cP &&& 64 ≠ 0) := by
  simp only [overN, Bool.and_eq_true, decide_eq_true_eq] at h
  unfold overN
  rw [h.1, decide_eq_true h.2.2.1, decide_eq_true h.2.2.2.1, decide_eq_true h.2.2.2.2.1, decide_eq_true h.2.2.2.2.2]
  simp
/-- What is opened by an authority over another type. -/
theorem back_open (cC cE cB cT cP cR tY : Nat) (bC bE bB bT bP bY bR : Nat) (bV : Bool) (_w : World) (bl : capB bC bE bB bT bP bY bR) (ht : tY < 65536) (h0 : tY ≠ 0) :
    ∃ (xC xE xB xT xP xY xR : Nat) (k : Bool), (k = true → bC = tY) ∧ ∀ W, Calls Try.prog 28 #[.agg #[.int .u32 cC, .int .u8 cE, .int .u16 cB, .int .u16 cT, .int .u16 cP, .int .u16 tY, .int .u32 cR, .bool true], .agg #[.int .u32 bC, .int .u8 bE, .int .u16 bB, .int .u16 bT, .int .u16 bP, .int .u16 bY, .int .u32 bR, .bool bV]] W fun e w' => e = .returned (.agg #[.int .u32 xC, .int .u8 xE, .int .u16 xB, .int .u16 xT, .int .u16 xP, .int .u16 xY, .int .u32 xR, .bool k]) ∧ Below W.heap.size W w' := by
  have d : ((tY : Int) == 0) = false := by simp; omega
  by_cases ho : overN bC bP bY bV 64 (decN bE bB bT bC).1 (decN bE bB bT bC).2 = true
  · by_cases hn : bC = tY
    · exact ⟨_, _, _, _, _, 0, _, true, fun _ => hn, fun W => open_y cC cE cB cT cP tY cR bC bE bB bT bP bY bR bV _ _ W bl rfl rfl d ho (by simp; omega) (by simp; omega) ht⟩
    · exact ⟨_, _, _, _, _, _, _, false, fun h => (Bool.noConfusion h), fun W => open_n cC cE cB cT cP tY cR bC bE bB bT bP bY bR bV _ _ W bl rfl rfl d ho (by simp; omega) (by simp; omega) ht⟩
  · exact ⟨_, _, _, _, _, _, _, false, fun h => (Bool.noConfusion h), fun W => open_o cC cE cB cT cP tY cR bC bE bB bT bP bY bR bV _ _ W bl rfl rfl d (by simpa using ho)⟩
theorem back_walk (cC cE cB cT cP cY cR : Nat) (cV : Bool) (bC bE bB bT bP bY bR : Nat) (bV : Bool) (n : Nat) (w : World) (cl : capB cC cE cB cT cP cY cR) (bl : capB bC bE bB bT bP bY bR) (hn : n < 4294967296) :
    Calls Try.prog 11 #[.agg #[.int .u32 cC, .int .u8 cE, .int .u16 cB, .int .u16 cT, .int .u16 cP, .int .u16 cY, .int .u32 cR, .bool cV], .agg #[.int .u32 bC, .int .u8 bE, .int .u16 bB, .int .u16 bT, .int .u16 bP, .int .u16 bY, .int .u32 bR, .bool bV], .int .u32 n] w fun e w' => e = .returned (.bool true) ∧ Below w.heap.size w w' := by
  by_cases hf : freeN cY cV = true
  · obtain ⟨rfl, rfl⟩ := freeN_true hf
    by_cases ho : overN bC bP bY bV 32 (decN bE bB bT bC).1 (decN bE bB bT bC).2 = true
    · have hle := overN_le ho
      have h64 := over_64 ho
      have hb64 := bits_ne (p := bP) (q := 64) bl.2.2.2.2.1 (by omega)
      have d : ((bC : Int) == 0) = false := by simp; omega
      have bl' : capB n bE bB bT bP bY bR := ⟨hn, bl.2.1, bl.2.2.1, bl.2.2.2.1, bl.2.2.2.2.1, bl.2.2.2.2.2.1, bl.2.2.2.2.2.2⟩
      obtain ⟨xC, xE, xB, xT, xP, xY, xR, k, hk, hx⟩ := back_open cC cE cB cT cP cR bC n bE bB bT bP bY bR (freeN bY bV && keepsN bE bB bT bC n) w bl' (by omega) (by omega)
      have hs := fun W => seal_y cC cE cB cT cP 0 cR true bC bE bB bT bP bY bR bV _ _ W bl rfl rfl hf ho
      have ha := fun W => addr_any bC bE bB bT bP bY bR bV n W bl hn
      by_cases hp : bP &&& 64 ≠ 0
      · rw [decide_eq_true hp] at h64 hb64
        have hop := fun W => open_y cC cE cB cT cP bC cR bC bE bB bT bP bY bR bV _ _ W bl rfl rfl d h64 (by simp) (by simp) (by omega)
        cases k with
        | true => exact back_11 cC cE cB cT cP cR bC bE bB bT bP bY bR bV n _ xC xE xB xT xP xY xR w (by rw [hk rfl]; simp) hb64 hs hop ha hx
        | false => exact back_10 cC cE cB cT cP cR bC bE bB bT bP bY bR bV n _ xC xE xB xT xP xY xR w hb64 hs hop ha hx
      · rw [decide_eq_false hp] at h64 hb64
        have hop := fun W => open_o cC cE cB cT cP bC cR bC bE bB bT bP bY bR bV _ _ W bl rfl rfl d h64
        cases k with
        | true => exact back_01 cC cE cB cT cP cR bC bE bB bT bP bY bR bV n _ cC cE cB cT cP bC cR xC xE xB xT xP xY xR w (by rw [hk rfl]; simp) hb64 hs hop ha hx
        | false => exact back_00 cC cE cB cT cP cR bC bE bB bT bP bY bR bV n _ cC cE cB cT cP bC cR xC xE xB xT xP xY xR w hb64 hs hop ha hx
    · exact back_no cC cE cB cT cP 0 cR true bC bE bB bT bP bY bR bV n cC cE cB cT cP 0 cR w (fun W => seal_o cC cE cB cT cP 0 cR true bC bE bB bT bP bY bR bV _ _ W bl rfl rfl hf (by simpa using ho))
  · exact back_no cC cE cB cT cP cY cR cV bC bE bB bT bP bY bR bV n cC cE cB cT cP cY cR w (fun W => seal_f cC cE cB cT cP cY cR cV bC bE bB bT bP bY bR bV W (by simpa using hf))
theorem back_law : LawWalk 11 Try.f11 := by
  intro H enc W base args ds p hval hA
  rw [Try.params11] at hA hval
  obtain ⟨v0, vs0, d0, ds0, p0, q0, hargs, rfl, rfl, h0, r0⟩ := trodAll_cons hA
  obtain ⟨v1, vs1, d1, ds1, p1, q1, rfl, rfl, rfl, h1, r1⟩ := trodAll_cons r0
  obtain ⟨v2, vs2, d2, ds2, p2, q2, rfl, rfl, rfl, h2, r2⟩ := trodAll_cons r1
  obtain ⟨rfl, rfl, rfl⟩ := trodAll_nil r2
  obtain rfl : args = #[v0, v1, v2] := by cases args; simp_all
  obtain ⟨cs0, rfl, hcl0, hcf0⟩ := open_agg_all Try.underlying25 (by kernel_rfl) (by kernel_rfl) (hval 0 _ v0 rfl rfl) h0
  obtain ⟨u0_0, y0_0, n0_0, hu0_0, hy0_0⟩ := hcf0 0 _ rfl
  obtain ⟨a0_0, e0_0, _, w0_0⟩ := DataW.trod_int Try.underlying22 hy0_0
  simp at e0_0; subst e0_0
  have b0_0 := wf_u32 w0_0
  obtain ⟨a0_0, rfl⟩ := Int.eq_ofNat_of_zero_le b0_0.1
  obtain ⟨u0_1, y0_1, n0_1, hu0_1, hy0_1⟩ := hcf0 1 _ rfl
  obtain ⟨a0_1, e0_1, _, w0_1⟩ := DataW.trod_int Try.underlying5 hy0_1
  simp at e0_1; subst e0_1
  have b0_1 := wf_u8 w0_1
  obtain ⟨a0_1, rfl⟩ := Int.eq_ofNat_of_zero_le b0_1.1
  obtain ⟨u0_2, y0_2, n0_2, hu0_2, hy0_2⟩ := hcf0 2 _ rfl
  obtain ⟨a0_2, e0_2, _, w0_2⟩ := DataW.trod_int Try.underlying23 hy0_2
  simp at e0_2; subst e0_2
  have b0_2 := wf_u16 w0_2
  obtain ⟨a0_2, rfl⟩ := Int.eq_ofNat_of_zero_le b0_2.1
  obtain ⟨u0_3, y0_3, n0_3, hu0_3, hy0_3⟩ := hcf0 3 _ rfl
  obtain ⟨a0_3, e0_3, _, w0_3⟩ := DataW.trod_int Try.underlying23 hy0_3
  simp at e0_3; subst e0_3
  have b0_3 := wf_u16 w0_3
  obtain ⟨a0_3, rfl⟩ := Int.eq_ofNat_of_zero_le b0_3.1
  obtain ⟨u0_4, y0_4, n0_4, hu0_4, hy0_4⟩ := hcf0 4 _ rfl
  obtain ⟨a0_4, e0_4, _, w0_4⟩ := DataW.trod_int Try.underlying23 hy0_4
  simp at e0_4; subst e0_4
  have b0_4 := wf_u16 w0_4
  obtain ⟨a0_4, rfl⟩ := Int.eq_ofNat_of_zero_le b0_4.1
  obtain ⟨u0_5, y0_5, n0_5, hu0_5, hy0_5⟩ := hcf0 5 _ rfl
  obtain ⟨a0_5, e0_5, _, w0_5⟩ := DataW.trod_int Try.underlying23 hy0_5
  simp at e0_5; subst e0_5
  have b0_5 := wf_u16 w0_5
  obtain ⟨a0_5, rfl⟩ := Int.eq_ofNat_of_zero_le b0_5.1
  obtain ⟨u0_6, y0_6, n0_6, hu0_6, hy0_6⟩ := hcf0 6 _ rfl
  obtain ⟨a0_6, e0_6, _, w0_6⟩ := DataW.trod_int Try.underlying22 hy0_6
  simp at e0_6; subst e0_6
  have b0_6 := wf_u32 w0_6
  obtain ⟨a0_6, rfl⟩ := Int.eq_ofNat_of_zero_le b0_6.1
  obtain ⟨u0_7, y0_7, n0_7, hu0_7, hy0_7⟩ := hcf0 7 _ rfl
  obtain ⟨a0_7, e0_7, _⟩ := DataW.trod_bool Try.underlying4 hy0_7
  simp at e0_7; subst e0_7
  obtain rfl := eq8 hcl0 hu0_0 hu0_1 hu0_2 hu0_3 hu0_4 hu0_5 hu0_6 hu0_7
  clear hcf0
  obtain ⟨cs1, rfl, hcl1, hcf1⟩ := open_agg_all Try.underlying25 (by kernel_rfl) (by kernel_rfl) (hval 1 _ v1 rfl rfl) h1
  obtain ⟨u1_0, y1_0, n1_0, hu1_0, hy1_0⟩ := hcf1 0 _ rfl
  obtain ⟨a1_0, e1_0, _, w1_0⟩ := DataW.trod_int Try.underlying22 hy1_0
  simp at e1_0; subst e1_0
  have b1_0 := wf_u32 w1_0
  obtain ⟨a1_0, rfl⟩ := Int.eq_ofNat_of_zero_le b1_0.1
  obtain ⟨u1_1, y1_1, n1_1, hu1_1, hy1_1⟩ := hcf1 1 _ rfl
  obtain ⟨a1_1, e1_1, _, w1_1⟩ := DataW.trod_int Try.underlying5 hy1_1
  simp at e1_1; subst e1_1
  have b1_1 := wf_u8 w1_1
  obtain ⟨a1_1, rfl⟩ := Int.eq_ofNat_of_zero_le b1_1.1
  obtain ⟨u1_2, y1_2, n1_2, hu1_2, hy1_2⟩ := hcf1 2 _ rfl
  obtain ⟨a1_2, e1_2, _, w1_2⟩ := DataW.trod_int Try.underlying23 hy1_2
  simp at e1_2; subst e1_2
  have b1_2 := wf_u16 w1_2
  obtain ⟨a1_2, rfl⟩ := Int.eq_ofNat_of_zero_le b1_2.1
  obtain ⟨u1_3, y1_3, n1_3, hu1_3, hy1_3⟩ := hcf1 3 _ rfl
  obtain ⟨a1_3, e1_3, _, w1_3⟩ := DataW.trod_int Try.underlying23 hy1_3
  simp at e1_3; subst e1_3
  have b1_3 := wf_u16 w1_3
  obtain ⟨a1_3, rfl⟩ := Int.eq_ofNat_of_zero_le b1_3.1
  obtain ⟨u1_4, y1_4, n1_4, hu1_4, hy1_4⟩ := hcf1 4 _ rfl
  obtain ⟨a1_4, e1_4, _, w1_4⟩ := DataW.trod_int Try.underlying23 hy1_4
  simp at e1_4; subst e1_4
  have b1_4 := wf_u16 w1_4
  obtain ⟨a1_4, rfl⟩ := Int.eq_ofNat_of_zero_le b1_4.1
  obtain ⟨u1_5, y1_5, n1_5, hu1_5, hy1_5⟩ := hcf1 5 _ rfl
  obtain ⟨a1_5, e1_5, _, w1_5⟩ := DataW.trod_int Try.underlying23 hy1_5
  simp at e1_5; subst e1_5
  have b1_5 := wf_u16 w1_5
  obtain ⟨a1_5, rfl⟩ := Int.eq_ofNat_of_zero_le b1_5.1
  obtain ⟨u1_6, y1_6, n1_6, hu1_6, hy1_6⟩ := hcf1 6 _ rfl
  obtain ⟨a1_6, e1_6, _, w1_6⟩ := DataW.trod_int Try.underlying22 hy1_6
  simp at e1_6; subst e1_6
  have b1_6 := wf_u32 w1_6
  obtain ⟨a1_6, rfl⟩ := Int.eq_ofNat_of_zero_le b1_6.1
  obtain ⟨u1_7, y1_7, n1_7, hu1_7, hy1_7⟩ := hcf1 7 _ rfl
  obtain ⟨a1_7, e1_7, _⟩ := DataW.trod_bool Try.underlying4 hy1_7
  simp at e1_7; subst e1_7
  obtain rfl := eq8 hcl1 hu1_0 hu1_1 hu1_2 hu1_3 hu1_4 hu1_5 hu1_6 hu1_7
  clear hcf1
  obtain ⟨a2, rfl, rfl, rfl, w2⟩ := open_int Try.underlying22 (hval 2 _ v2 rfl rfl) h2
  have b2 := wf_u32 w2
  have h0 : capB a0_0 a0_1 a0_2 a0_3 a0_4 a0_5 a0_6 := ⟨by omega, by omega, by omega, by omega, by omega, by omega, by omega⟩
  have h1 : capB a1_0 a1_1 a1_2 a1_3 a1_4 a1_5 a1_6 := ⟨by omega, by omega, by omega, by omega, by omega, by omega, by omega⟩
  obtain ⟨n, rfl⟩ := Int.eq_ofNat_of_zero_le b2.1
  exact back_walk a0_0 a0_1 a0_2 a0_3 a0_4 a0_5 a0_6 a0_7 a1_0 a1_1 a1_2 a1_3 a1_4 a1_5 a1_6 a1_7 n W h0 h1 (by omega)
set_option maxRecDepth 100000 in
theorem deriveBack_proved : Rows.DeriveBackSaid :=
  OpenClaim.holds_of_wide 11 Try.f11 rfl rfl rfl rfl rfl rfl rfl ⟨rfl, rfl, rfl, rfl, rfl⟩ rfl rfl rfl rfl rfl (by kernel_rfl) Try.func11 (by kernel_rfl)
    (of_decide_eq_true (by kernel_rfl)) (by unfold Func.isWrapper; first | (rw [if_pos (by decide +kernel)]; kernel_rfl) | (rw [if_neg (by decide +kernel)]; exact ⟨rfl, rfl⟩))
    (fun os started H enc _ => law_lifted 11 Try.f11 Rows.deriveBackSpec Rows.deriveBackRow.domain Try.func11 (by kernel_rfl) rfl rfl
      (fun H ds hd => by match ds, hd with | [d0, d1, d2], _ => exact ⟨rfl, rfl, rfl⟩) (by decide +kernel) back_law os started H enc
      (ChangeSpec.witness6 (enc := enc) (C := Try.checked) false ⟨#[], #[.agg #[.int .u32 0, .int .u8 0, .int .u16 0, .int .u16 0, .int .u16 0, .int .u16 0, .int .u32 0, .bool false], .agg #[.int .u32 0, .int .u8 0, .int .u16 0, .int .u16 0, .int .u16 0, .int .u16 0, .int .u32 0, .bool false], .int .u32 0], []⟩ 8 (by kernel_rfl) (by kernel_rfl) (by kernel_rfl) (by kernel_rfl)))
#print axioms deriveBack_proved
end Go.Proofs.Ytljchnfofjmleaa
