/-
  DeriveSealed: of a sealed capability nothing that is valid comes but by opening it with an authority over its type, and that has all else as it was. No condition.
-/
import Derived.Test.YtljchnfofjmleaaDerChg
namespace Go.Proofs.Ytljchnfofjmleaa
open Go.ChangeShapes Go.WideShapes Go.ChangeAt Go.RowKit
open Go.ChangeMaps (open_string shut_string)
attribute [local go_sem ↓] Go.wp_at_zero Go.wp_at_succ

/-- Where it is not sealed. -/
theorem sealed_free (cC cE cB cT cP cY cR : Nat) (cV : Bool) (bC bE bB bT bP bY bR : Nat) (bV : Bool) (k : Int) (n : Nat) (w : World) (d : ((cY : Int) == 0) = true) :
    Calls Try.prog 13 #[.agg #[.int .u32 cC, .int .u8 cE, .int .u16 cB, .int .u16 cT, .int .u16 cP, .int .u16 cY, .int .u32 cR, .bool cV], .agg #[.int .i64 k, .int .u32 n, .int .u32 bC, .int .u8 bE, .int .u16 bB, .int .u16 bT, .int .u16 bP, .int .u16 bY, .int .u32 bR, .bool bV]] w fun e w' => e = .returned (.bool true) ∧ Below w.heap.size w w' := by
  have hw : Holds w [(w.heap.size, 25, #[.int .u32 cC, .int .u8 cE, .int .u16 cB, .int .u16 cT, .int .u16 cP, .int .u16 cY, .int .u32 cR, .bool cV]), (w.heap.size + 1, 38, #[.int .i64 k, .int .u32 n, .int .u32 bC, .int .u8 bE, .int .u16 bB, .int .u16 bT, .int .u16 bP, .int .u16 bY, .int .u32 bR, .bool bV])] ((w.alloc (.cells #[.int .u32 cC, .int .u8 cE, .int .u16 cB, .int .u16 cT, .int .u16 cP, .int .u16 cY, .int .u32 cR, .bool cV] 25)).alloc (.cells #[.int .i64 k, .int .u32 n, .int .u32 bC, .int .u8 bE, .int .u16 bB, .int .u16 bT, .int .u16 bP, .int .u16 bY, .int .u32 bR, .bool bV] 38)) := ((Holds.nil w).alloc rfl _ _).alloc (by simp) _ _
  have HW := hide hw
  clear hw
  go_enter Try.func13, Try.ntmps13
  go_wp2_with fail
  refine (dworks_any _).mono ?_
  rintro e w1 ⟨rfl, hb⟩
  have h1 := HW.out.grow hb
  have HT := hide h1
  clear hb h1
  go_wp2
  go_ret
  exact ⟨rfl, HT.out.below⟩
set_option maxRecDepth 100000 in
/-- Where what comes is not valid. -/
theorem sealed_dead (cC cE cB cT cP cY cR : Nat) (cV : Bool) (bC bE bB bT bP bY bR : Nat) (bV : Bool) (k : Int) (n rC rE rB rT rP rY rR : Nat) (w : World) (d : ((cY : Int) == 0) = false)
    (HC : Hid (∀ W, Calls Try.prog 33 #[.agg #[.int .u32 cC, .int .u8 cE, .int .u16 cB, .int .u16 cT, .int .u16 cP, .int .u16 cY, .int .u32 cR, .bool cV], .agg #[.int .i64 k, .int .u32 n, .int .u32 bC, .int .u8 bE, .int .u16 bB, .int .u16 bT, .int .u16 bP, .int .u16 bY, .int .u32 bR, .bool bV]] W fun e w' => e = .returned (.tuple #[.agg #[.int .u32 rC, .int .u8 rE, .int .u16 rB, .int .u16 rT, .int .u16 rP, .int .u16 rY, .int .u32 rR, .bool false], .agg #[.int .u32 cC, .int .u8 cE, .int .u16 cB, .int .u16 cT, .int .u16 cP, .int .u16 cY, .int .u32 cR, .bool cV]]) ∧ Below W.heap.size W w')) :
    Calls Try.prog 13 #[.agg #[.int .u32 cC, .int .u8 cE, .int .u16 cB, .int .u16 cT, .int .u16 cP, .int .u16 cY, .int .u32 cR, .bool cV], .agg #[.int .i64 k, .int .u32 n, .int .u32 bC, .int .u8 bE, .int .u16 bB, .int .u16 bT, .int .u16 bP, .int .u16 bY, .int .u32 bR, .bool bV]] w fun e w' => e = .returned (.bool true) ∧ Below w.heap.size w w' := by
  have hw : Holds w [(w.heap.size, 25, #[.int .u32 cC, .int .u8 cE, .int .u16 cB, .int .u16 cT, .int .u16 cP, .int .u16 cY, .int .u32 cR, .bool cV]), (w.heap.size + 1, 38, #[.int .i64 k, .int .u32 n, .int .u32 bC, .int .u8 bE, .int .u16 bB, .int .u16 bT, .int .u16 bP, .int .u16 bY, .int .u32 bR, .bool bV])] ((w.alloc (.cells #[.int .u32 cC, .int .u8 cE, .int .u16 cB, .int .u16 cT, .int .u16 cP, .int .u16 cY, .int .u32 cR, .bool cV] 25)).alloc (.cells #[.int .i64 k, .int .u32 n, .int .u32 bC, .int .u8 bE, .int .u16 bB, .int .u16 bT, .int .u16 bP, .int .u16 bY, .int .u32 bR, .bool bV] 38)) := ((Holds.nil w).alloc rfl _ _).alloc (by simp) _ _
  have HW := hide hw
  clear hw
  go_enter Try.func13, Try.ntmps13
  go_wp2_with fail
  refine (HC.out _).mono ?_
  rintro e w1 ⟨rfl, hb⟩
  have h1 := HW.out.grow hb
  have HT := hide h1
  clear hb h1
  go_wp2_with fail
  refine (dworks_any _).mono ?_
  rintro e w2 ⟨rfl, hb⟩
  have h1 := ((HT.out.more _).more _).grow hb
  have HT2 := hide h1
  clear hb h1
  go_wp2
  go_ret
  exact ⟨rfl, HT2.out.below⟩
set_option maxRecDepth 100000 in
set_option maxHeartbeats 4000000 in
/-- Where it is opened. -/
theorem sealed_open (cC cE cB cT cP cY cR bE bB bT bP bR n x y : Nat) (w : World) (d : ((cY : Int) == 0) = false) (hcy : cY < 65536)
    (hn : (bits .and .u16 (bP : Int) 64 != 0) = true) (hx : decide (x ≤ cY) = true) (hy : decide (cY < y) = true)
    (HC : Hid (∀ W, Calls Try.prog 33 #[.agg #[.int .u32 cC, .int .u8 cE, .int .u16 cB, .int .u16 cT, .int .u16 cP, .int .u16 cY, .int .u32 cR, .bool true], .agg #[.int .i64 5, .int .u32 n, .int .u32 cY, .int .u8 bE, .int .u16 bB, .int .u16 bT, .int .u16 bP, .int .u16 0, .int .u32 bR, .bool true]] W fun e w' => e = .returned (.tuple #[.agg #[.int .u32 cC, .int .u8 cE, .int .u16 cB, .int .u16 cT, .int .u16 cP, .int .u16 0, .int .u32 cR, .bool true], .agg #[.int .u32 cC, .int .u8 cE, .int .u16 cB, .int .u16 cT, .int .u16 cP, .int .u16 cY, .int .u32 cR, .bool true]]) ∧ Below W.heap.size W w'))
    (HR : Hid (∀ W, Calls Try.prog 35 #[.agg #[.int .u32 cY, .int .u8 bE, .int .u16 bB, .int .u16 bT, .int .u16 bP, .int .u16 0, .int .u32 bR, .bool true]] W fun e w' => e = .returned (.tuple #[.int .u32 x, .int .u64 y]) ∧ Below W.heap.size W w')) :
    Calls Try.prog 13 #[.agg #[.int .u32 cC, .int .u8 cE, .int .u16 cB, .int .u16 cT, .int .u16 cP, .int .u16 cY, .int .u32 cR, .bool true], .agg #[.int .i64 5, .int .u32 n, .int .u32 cY, .int .u8 bE, .int .u16 bB, .int .u16 bT, .int .u16 bP, .int .u16 0, .int .u32 bR, .bool true]] w fun e w' => e = .returned (.bool true) ∧ Below w.heap.size w w' := by
  have heq := fun W => eql_cap cC cE cB cT cP 0 cR true cC cE cB cT cP 0 cR true W
  rw [capEq_self] at heq
  simp only [Int.cast_ofNat_Int] at heq
  have hw : Holds w [(w.heap.size, 25, #[.int .u32 cC, .int .u8 cE, .int .u16 cB, .int .u16 cT, .int .u16 cP, .int .u16 cY, .int .u32 cR, .bool true]), (w.heap.size + 1, 38, #[.int .i64 5, .int .u32 n, .int .u32 cY, .int .u8 bE, .int .u16 bB, .int .u16 bT, .int .u16 bP, .int .u16 0, .int .u32 bR, .bool true])] ((w.alloc (.cells #[.int .u32 cC, .int .u8 cE, .int .u16 cB, .int .u16 cT, .int .u16 cP, .int .u16 cY, .int .u32 cR, .bool true] 25)).alloc (.cells #[.int .i64 5, .int .u32 n, .int .u32 cY, .int .u8 bE, .int .u16 bB, .int .u16 bT, .int .u16 bP, .int .u16 0, .int .u32 bR, .bool true] 38)) := ((Holds.nil w).alloc rfl _ _).alloc (by simp) _ _
  have HW := hide hw
  clear hw
  go_enter Try.func13, Try.ntmps13
  go_wp2_with fail
  refine (HC.out _).mono ?_
  rintro e w1 ⟨rfl, hb⟩
  have h1 := HW.out.grow hb
  have h2 := (h1.alloc rfl 25 #[.int .u32 cC, .int .u8 cE, .int .u16 cB, .int .u16 cT, .int .u16 cP, .int .u16 0, .int .u32 cR, .bool true]).alloc (by simp; rfl) 25 #[.int .u32 cC, .int .u8 cE, .int .u16 cB, .int .u16 cT, .int .u16 cP, .int .u16 cY, .int .u32 cR, .bool true]
  have c0 := h1.cell 0 rfl
  have c1 := h1.cell 1 rfl
  have l0 := h1.lt 0 rfl
  have l1 := h1.lt 1 rfl
  have HT := hide h2
  clear hb h1 h2
  go_wp2_with fail
  refine (HR.out _).mono ?_
  rintro e w2 ⟨rfl, hb⟩
  have h1 := HT.out.grow hb
  clear c0 c1
  have c0 := h1.cell 0 rfl
  have f0 := h1.frozen 0 rfl
  have c1 := h1.cell 1 rfl
  have c2 := h1.cell 2 rfl
  have c3 := h1.cell 3 rfl
  have HT2 := hide h1
  clear hb h1
  go_wp2_with fail
  refine (dworks_any _).mono ?_
  rintro e w3 ⟨rfl, hb⟩
  have h1 := (HT2.out.set 0 rfl 5 (.int .u16 0)).grow hb
  have HT3 := hide h1
  clear hb h1
  go_wp2
  go_ret
  exact ⟨rfl, HT3.out.below⟩
end Go.Proofs.Ytljchnfofjmleaa
