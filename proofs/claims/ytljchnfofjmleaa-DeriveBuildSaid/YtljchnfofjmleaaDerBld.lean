/-
  Walk of the document's Build.
-/
import Derived.Test.YtljchnfofjmleaaDerWorks
import Derived.Test.YtljchnfofjmleaaTail
import Derived.Test.YtljchnfofjmleaaFrame
import Derived.Test.YtljchnfofjmleaaOpen
namespace Go.Proofs.Ytljchnfofjmleaa
open Go.ChangeShapes Go.WideShapes Go.ChangeAt Go.RowKit
open Go.ChangeMaps (open_string shut_string)
attribute [local go_sem ↓] Go.wp_at_zero Go.wp_at_succ

set_option maxRecDepth 100000 in
set_option maxHeartbeats 4000000 in
theorem rbuild_f (cC cE cB cT cP cY cR : Nat) (cV : Bool) (bC bE bB bT bP bY bR : Nat) (bV : Bool) (w : World)
    (HF : Hid (∀ W, Calls Try.prog 43 #[.agg #[.int .u32 bC, .int .u8 bE, .int .u16 bB, .int .u16 bT, .int .u16 bP, .int .u16 bY, .int .u32 bR, .bool bV]] W fun e w' => e = .returned (.bool false) ∧ Below W.heap.size W w')) :
    Calls Try.prog 31 #[.agg #[.int .u32 cC, .int .u8 cE, .int .u16 cB, .int .u16 cT, .int .u16 cP, .int .u16 cY, .int .u32 cR, .bool cV], .agg #[.int .u32 bC, .int .u8 bE, .int .u16 bB, .int .u16 bT, .int .u16 bP, .int .u16 bY, .int .u32 bR, .bool bV]] w fun e w' => e = .returned (.agg #[.int .u32 cC, .int .u8 cE, .int .u16 cB, .int .u16 cT, .int .u16 cP, .int .u16 cY, .int .u32 cR, .bool false]) ∧ Below w.heap.size w w' := by
  have hw : Holds w [(w.heap.size, 25, #[.int .u32 cC, .int .u8 cE, .int .u16 cB, .int .u16 cT, .int .u16 cP, .int .u16 cY, .int .u32 cR, .bool cV]), (w.heap.size + 1, 25, #[.int .u32 bC, .int .u8 bE, .int .u16 bB, .int .u16 bT, .int .u16 bP, .int .u16 bY, .int .u32 bR, .bool bV]), (w.heap.size + 1 + 1, 25, #[.int .u32 0, .int .u8 0, .int .u16 0, .int .u16 0, .int .u16 0, .int .u16 0, .int .u32 0, .bool false])] (((w.alloc (.cells #[.int .u32 cC, .int .u8 cE, .int .u16 cB, .int .u16 cT, .int .u16 cP, .int .u16 cY, .int .u32 cR, .bool cV] 25)).alloc (.cells #[.int .u32 bC, .int .u8 bE, .int .u16 bB, .int .u16 bT, .int .u16 bP, .int .u16 bY, .int .u32 bR, .bool bV] 25)).alloc (.cells #[.int .u32 0, .int .u8 0, .int .u16 0, .int .u16 0, .int .u16 0, .int .u16 0, .int .u32 0, .bool false] 25)) := (((Holds.nil w).alloc rfl _ _).alloc (by simp) _ _).alloc (by simp) _ _
  go_enter Try.func31, Try.ntmps31
  go_wp2_with fail
  refine wp_region_holds_tail 18 (by kernel_rfl) (by kernel_rfl) hw ?_
  simp only [List.take_succ_cons, List.take_zero, List.drop_succ_cons, List.drop_zero]
  have hne : Nonempty (Later (Holds w [(w.heap.size, 25, #[.int .u32 cC, .int .u8 cE, .int .u16 cB, .int .u16 cT, .int .u16 cP, .int .u16 cY, .int .u32 cR, .bool cV]), (w.heap.size + 1, 25, #[.int .u32 bC, .int .u8 bE, .int .u16 bB, .int .u16 bT, .int .u16 bP, .int .u16 bY, .int .u32 bR, .bool bV]), (w.heap.size + 1 + 1, 25, #[.int .u32 0, .int .u8 0, .int .u16 0, .int .u16 0, .int .u16 0, .int .u16 0, .int .u32 0, .bool false])])) := ⟨⟨_, hw⟩⟩
  have c0 := fun x j => later_c (w0 := w) (st := [(w.heap.size, 25, #[.int .u32 cC, .int .u8 cE, .int .u16 cB, .int .u16 cT, .int .u16 cP, .int .u16 cY, .int .u32 cR, .bool cV]), (w.heap.size + 1, 25, #[.int .u32 bC, .int .u8 bE, .int .u16 bB, .int .u16 bT, .int .u16 bP, .int .u16 bY, .int .u32 bR, .bool bV]), (w.heap.size + 1 + 1, 25, #[.int .u32 0, .int .u8 0, .int .u16 0, .int .u16 0, .int .u16 0, .int .u16 0, .int .u32 0, .bool false])]) (i := 0) rfl x j
  have c1 := fun x j => later_c (w0 := w) (st := [(w.heap.size, 25, #[.int .u32 cC, .int .u8 cE, .int .u16 cB, .int .u16 cT, .int .u16 cP, .int .u16 cY, .int .u32 cR, .bool cV]), (w.heap.size + 1, 25, #[.int .u32 bC, .int .u8 bE, .int .u16 bB, .int .u16 bT, .int .u16 bP, .int .u16 bY, .int .u32 bR, .bool bV]), (w.heap.size + 1 + 1, 25, #[.int .u32 0, .int .u8 0, .int .u16 0, .int .u16 0, .int .u16 0, .int .u16 0, .int .u32 0, .bool false])]) (i := 1) rfl x j
  repeat (go_big_quiet_step (first
    | (go_at_call 43; exact calls_holds (HF.out _))
    | (go_at_call 44; exact calls_holds (with_any cC cE cB cT cP cY cR cV false _))))
  refine wpQuiet_nil ?_
  intro W hW
  have c2 := hW.cell 2 rfl
  have f2 := hW.frozen 2 rfl
  have HT := hide hW
  clear hW hw c0 c1
  go_wp2
  refine bodyPost_ret (v := .agg #[.int .u32 cC, .int .u8 cE, .int .u16 cB, .int .u16 cT, .int .u16 cP, .int .u16 cY, .int .u32 cR, .bool false]) (by simp [results, Try.results31, go_sem, c2]) rfl ⟨rfl, ?_⟩
  repeat (first | (with_reducible refine Below.drew ?_) | (with_reducible refine below_drewN ?_ _) | (with_reducible refine Below.setCell ?_ (by first | (simp; done) | (simp; omega)) _))
  exact HT.out.below

set_option maxRecDepth 100000 in
set_option maxHeartbeats 4000000 in
theorem rbuild_s (cC cE cB cT cP cY cR : Nat) (cV : Bool) (bC bE bB bT bP bY bR : Nat) (bV : Bool) (w : World)
    (HF : Hid (∀ W, Calls Try.prog 43 #[.agg #[.int .u32 bC, .int .u8 bE, .int .u16 bB, .int .u16 bT, .int .u16 bP, .int .u16 bY, .int .u32 bR, .bool bV]] W fun e w' => e = .returned (.bool true) ∧ Below W.heap.size W w'))
    (HS : Hid (∀ W, Calls Try.prog 53 #[.agg #[.int .u32 cC, .int .u8 cE, .int .u16 cB, .int .u16 cT, .int .u16 cP, .int .u16 cY, .int .u32 cR, .bool cV]] W fun e w' => e = .returned (.bool false) ∧ Below W.heap.size W w')) :
    Calls Try.prog 31 #[.agg #[.int .u32 cC, .int .u8 cE, .int .u16 cB, .int .u16 cT, .int .u16 cP, .int .u16 cY, .int .u32 cR, .bool cV], .agg #[.int .u32 bC, .int .u8 bE, .int .u16 bB, .int .u16 bT, .int .u16 bP, .int .u16 bY, .int .u32 bR, .bool bV]] w fun e w' => e = .returned (.agg #[.int .u32 cC, .int .u8 cE, .int .u16 cB, .int .u16 cT, .int .u16 cP, .int .u16 cY, .int .u32 cR, .bool false]) ∧ Below w.heap.size w w' := by
  have hw : Holds w [(w.heap.size, 25, #[.int .u32 cC, .int .u8 cE, .int .u16 cB, .int .u16 cT, .int .u16 cP, .int .u16 cY, .int .u32 cR, .bool cV]), (w.heap.size + 1, 25, #[.int .u32 bC, .int .u8 bE, .int .u16 bB, .int .u16 bT, .int .u16 bP, .int .u16 bY, .int .u32 bR, .bool bV]), (w.heap.size + 1 + 1, 25, #[.int .u32 0, .int .u8 0, .int .u16 0, .int .u16 0, .int .u16 0, .int .u16 0, .int .u32 0, .bool false])] (((w.alloc (.cells #[.int .u32 cC, .int .u8 cE, .int .u16 cB, .int .u16 cT, .int .u16 cP, .int .u16 cY, .int .u32 cR, .bool cV] 25)).alloc (.cells #[.int .u32 bC, .int .u8 bE, .int .u16 bB, .int .u16 bT, .int .u16 bP, .int .u16 bY, .int .u32 bR, .bool bV] 25)).alloc (.cells #[.int .u32 0, .int .u8 0, .int .u16 0, .int .u16 0, .int .u16 0, .int .u16 0, .int .u32 0, .bool false] 25)) := (((Holds.nil w).alloc rfl _ _).alloc (by simp) _ _).alloc (by simp) _ _
  go_enter Try.func31, Try.ntmps31
  go_wp2_with fail
  refine wp_region_holds_tail 18 (by kernel_rfl) (by kernel_rfl) hw ?_
  simp only [List.take_succ_cons, List.take_zero, List.drop_succ_cons, List.drop_zero]
  have hne : Nonempty (Later (Holds w [(w.heap.size, 25, #[.int .u32 cC, .int .u8 cE, .int .u16 cB, .int .u16 cT, .int .u16 cP, .int .u16 cY, .int .u32 cR, .bool cV]), (w.heap.size + 1, 25, #[.int .u32 bC, .int .u8 bE, .int .u16 bB, .int .u16 bT, .int .u16 bP, .int .u16 bY, .int .u32 bR, .bool bV]), (w.heap.size + 1 + 1, 25, #[.int .u32 0, .int .u8 0, .int .u16 0, .int .u16 0, .int .u16 0, .int .u16 0, .int .u32 0, .bool false])])) := ⟨⟨_, hw⟩⟩
  have c0 := fun x j => later_c (w0 := w) (st := [(w.heap.size, 25, #[.int .u32 cC, .int .u8 cE, .int .u16 cB, .int .u16 cT, .int .u16 cP, .int .u16 cY, .int .u32 cR, .bool cV]), (w.heap.size + 1, 25, #[.int .u32 bC, .int .u8 bE, .int .u16 bB, .int .u16 bT, .int .u16 bP, .int .u16 bY, .int .u32 bR, .bool bV]), (w.heap.size + 1 + 1, 25, #[.int .u32 0, .int .u8 0, .int .u16 0, .int .u16 0, .int .u16 0, .int .u16 0, .int .u32 0, .bool false])]) (i := 0) rfl x j
  have c1 := fun x j => later_c (w0 := w) (st := [(w.heap.size, 25, #[.int .u32 cC, .int .u8 cE, .int .u16 cB, .int .u16 cT, .int .u16 cP, .int .u16 cY, .int .u32 cR, .bool cV]), (w.heap.size + 1, 25, #[.int .u32 bC, .int .u8 bE, .int .u16 bB, .int .u16 bT, .int .u16 bP, .int .u16 bY, .int .u32 bR, .bool bV]), (w.heap.size + 1 + 1, 25, #[.int .u32 0, .int .u8 0, .int .u16 0, .int .u16 0, .int .u16 0, .int .u16 0, .int .u32 0, .bool false])]) (i := 1) rfl x j
  repeat (go_big_quiet_step (first
    | (go_at_call 43; exact calls_holds (HF.out _))
    | (go_at_call 53; exact calls_holds (HS.out _))
    | (go_at_call 44; exact calls_holds (with_any cC cE cB cT cP cY cR cV false _))))
  refine wpQuiet_nil ?_
  intro W hW
  have c2 := hW.cell 2 rfl
  have f2 := hW.frozen 2 rfl
  have HT := hide hW
  clear hW hw c0 c1
  go_wp2
  refine bodyPost_ret (v := .agg #[.int .u32 cC, .int .u8 cE, .int .u16 cB, .int .u16 cT, .int .u16 cP, .int .u16 cY, .int .u32 cR, .bool false]) (by simp [results, Try.results31, go_sem, c2]) rfl ⟨rfl, ?_⟩
  repeat (first | (with_reducible refine Below.drew ?_) | (with_reducible refine below_drewN ?_ _) | (with_reducible refine Below.setCell ?_ (by first | (simp; done) | (simp; omega)) _))
  exact HT.out.below

set_option maxRecDepth 100000 in
set_option maxHeartbeats 4000000 in
theorem rbuild_y (cC cE cB cT cP cY cR : Nat) (cV : Bool) (bC bE bB bT bP bY bR : Nat) (bV : Bool) (w : World)
    (HF : Hid (∀ W, Calls Try.prog 43 #[.agg #[.int .u32 bC, .int .u8 bE, .int .u16 bB, .int .u16 bT, .int .u16 bP, .int .u16 bY, .int .u32 bR, .bool bV]] W fun e w' => e = .returned (.bool true) ∧ Below W.heap.size W w'))
    (HS : Hid (∀ W, Calls Try.prog 53 #[.agg #[.int .u32 cC, .int .u8 cE, .int .u16 cB, .int .u16 cT, .int .u16 cP, .int .u16 cY, .int .u32 cR, .bool cV]] W fun e w' => e = .returned (.bool true) ∧ Below W.heap.size W w'))
    (d : ((cY : Int) == 0) = false) :
    Calls Try.prog 31 #[.agg #[.int .u32 cC, .int .u8 cE, .int .u16 cB, .int .u16 cT, .int .u16 cP, .int .u16 cY, .int .u32 cR, .bool cV], .agg #[.int .u32 bC, .int .u8 bE, .int .u16 bB, .int .u16 bT, .int .u16 bP, .int .u16 bY, .int .u32 bR, .bool bV]] w fun e w' => e = .returned (.agg #[.int .u32 cC, .int .u8 cE, .int .u16 cB, .int .u16 cT, .int .u16 cP, .int .u16 cY, .int .u32 cR, .bool false]) ∧ Below w.heap.size w w' := by
  have hw : Holds w [(w.heap.size, 25, #[.int .u32 cC, .int .u8 cE, .int .u16 cB, .int .u16 cT, .int .u16 cP, .int .u16 cY, .int .u32 cR, .bool cV]), (w.heap.size + 1, 25, #[.int .u32 bC, .int .u8 bE, .int .u16 bB, .int .u16 bT, .int .u16 bP, .int .u16 bY, .int .u32 bR, .bool bV]), (w.heap.size + 1 + 1, 25, #[.int .u32 0, .int .u8 0, .int .u16 0, .int .u16 0, .int .u16 0, .int .u16 0, .int .u32 0, .bool false])] (((w.alloc (.cells #[.int .u32 cC, .int .u8 cE, .int .u16 cB, .int .u16 cT, .int .u16 cP, .int .u16 cY, .int .u32 cR, .bool cV] 25)).alloc (.cells #[.int .u32 bC, .int .u8 bE, .int .u16 bB, .int .u16 bT, .int .u16 bP, .int .u16 bY, .int .u32 bR, .bool bV] 25)).alloc (.cells #[.int .u32 0, .int .u8 0, .int .u16 0, .int .u16 0, .int .u16 0, .int .u16 0, .int .u32 0, .bool false] 25)) := (((Holds.nil w).alloc rfl _ _).alloc (by simp) _ _).alloc (by simp) _ _
  go_enter Try.func31, Try.ntmps31
  go_wp2_with fail
  refine wp_region_holds_tail 18 (by kernel_rfl) (by kernel_rfl) hw ?_
  simp only [List.take_succ_cons, List.take_zero, List.drop_succ_cons, List.drop_zero]
  have hne : Nonempty (Later (Holds w [(w.heap.size, 25, #[.int .u32 cC, .int .u8 cE, .int .u16 cB, .int .u16 cT, .int .u16 cP, .int .u16 cY, .int .u32 cR, .bool cV]), (w.heap.size + 1, 25, #[.int .u32 bC, .int .u8 bE, .int .u16 bB, .int .u16 bT, .int .u16 bP, .int .u16 bY, .int .u32 bR, .bool bV]), (w.heap.size + 1 + 1, 25, #[.int .u32 0, .int .u8 0, .int .u16 0, .int .u16 0, .int .u16 0, .int .u16 0, .int .u32 0, .bool false])])) := ⟨⟨_, hw⟩⟩
  have c0 := fun x j => later_c (w0 := w) (st := [(w.heap.size, 25, #[.int .u32 cC, .int .u8 cE, .int .u16 cB, .int .u16 cT, .int .u16 cP, .int .u16 cY, .int .u32 cR, .bool cV]), (w.heap.size + 1, 25, #[.int .u32 bC, .int .u8 bE, .int .u16 bB, .int .u16 bT, .int .u16 bP, .int .u16 bY, .int .u32 bR, .bool bV]), (w.heap.size + 1 + 1, 25, #[.int .u32 0, .int .u8 0, .int .u16 0, .int .u16 0, .int .u16 0, .int .u16 0, .int .u32 0, .bool false])]) (i := 0) rfl x j
  have c1 := fun x j => later_c (w0 := w) (st := [(w.heap.size, 25, #[.int .u32 cC, .int .u8 cE, .int .u16 cB, .int .u16 cT, .int .u16 cP, .int .u16 cY, .int .u32 cR, .bool cV]), (w.heap.size + 1, 25, #[.int .u32 bC, .int .u8 bE, .int .u16 bB, .int .u16 bT, .int .u16 bP, .int .u16 bY, .int .u32 bR, .bool bV]), (w.heap.size + 1 + 1, 25, #[.int .u32 0, .int .u8 0, .int .u16 0, .int .u16 0, .int .u16 0, .int .u16 0, .int .u32 0, .bool false])]) (i := 1) rfl x j
  repeat (go_big_quiet_step (first
    | (go_at_call 43; exact calls_holds (HF.out _))
    | (go_at_call 53; exact calls_holds (HS.out _))
    | (go_at_call 44; exact calls_holds (with_any cC cE cB cT cP cY cR cV false _))))
  refine wpQuiet_nil ?_
  intro W hW
  have c2 := hW.cell 2 rfl
  have f2 := hW.frozen 2 rfl
  have HT := hide hW
  clear hW hw c0 c1
  go_wp2
  refine bodyPost_ret (v := .agg #[.int .u32 cC, .int .u8 cE, .int .u16 cB, .int .u16 cT, .int .u16 cP, .int .u16 cY, .int .u32 cR, .bool false]) (by simp [results, Try.results31, go_sem, c2]) rfl ⟨rfl, ?_⟩
  repeat (first | (with_reducible refine Below.drew ?_) | (with_reducible refine below_drewN ?_ _) | (with_reducible refine Below.setCell ?_ (by first | (simp; done) | (simp; omega)) _))
  exact HT.out.below

set_option maxRecDepth 100000 in
set_option maxHeartbeats 4000000 in
theorem rbuild_t (cC cE cB cT cP cY cR : Nat) (cV : Bool) (bC bE bB bT bP bY bR : Nat) (bV : Bool) (k : Bool) (w : World)
    (HF : Hid (∀ W, Calls Try.prog 43 #[.agg #[.int .u32 bC, .int .u8 bE, .int .u16 bB, .int .u16 bT, .int .u16 bP, .int .u16 bY, .int .u32 bR, .bool bV]] W fun e w' => e = .returned (.bool true) ∧ Below W.heap.size W w'))
    (HS : Hid (∀ W, Calls Try.prog 53 #[.agg #[.int .u32 cC, .int .u8 cE, .int .u16 cB, .int .u16 cT, .int .u16 cP, .int .u16 cY, .int .u32 cR, .bool cV]] W fun e w' => e = .returned (.bool true) ∧ Below W.heap.size W w'))
    (d : ((cY : Int) == 0) = true)
    (HW : Hid (∀ W, Calls Try.prog 54 #[.agg #[.int .u32 cC, .int .u8 cE, .int .u16 cB, .int .u16 cT, .int .u16 cP, .int .u16 cY, .int .u32 cR, .bool cV], .agg #[.int .u32 bC, .int .u8 bE, .int .u16 bB, .int .u16 bT, .int .u16 bP, .int .u16 bY, .int .u32 bR, .bool bV]] W fun e w' => e = .returned (.bool k) ∧ Below W.heap.size W w')) :
    Calls Try.prog 31 #[.agg #[.int .u32 cC, .int .u8 cE, .int .u16 cB, .int .u16 cT, .int .u16 cP, .int .u16 cY, .int .u32 cR, .bool cV], .agg #[.int .u32 bC, .int .u8 bE, .int .u16 bB, .int .u16 bT, .int .u16 bP, .int .u16 bY, .int .u32 bR, .bool bV]] w fun e w' => e = .returned (.agg #[.int .u32 cC, .int .u8 cE, .int .u16 cB, .int .u16 cT, .int .u16 cP, .int .u16 cY, .int .u32 cR, .bool k]) ∧ Below w.heap.size w w' := by
  have hw : Holds w [(w.heap.size, 25, #[.int .u32 cC, .int .u8 cE, .int .u16 cB, .int .u16 cT, .int .u16 cP, .int .u16 cY, .int .u32 cR, .bool cV]), (w.heap.size + 1, 25, #[.int .u32 bC, .int .u8 bE, .int .u16 bB, .int .u16 bT, .int .u16 bP, .int .u16 bY, .int .u32 bR, .bool bV]), (w.heap.size + 1 + 1, 25, #[.int .u32 0, .int .u8 0, .int .u16 0, .int .u16 0, .int .u16 0, .int .u16 0, .int .u32 0, .bool false])] (((w.alloc (.cells #[.int .u32 cC, .int .u8 cE, .int .u16 cB, .int .u16 cT, .int .u16 cP, .int .u16 cY, .int .u32 cR, .bool cV] 25)).alloc (.cells #[.int .u32 bC, .int .u8 bE, .int .u16 bB, .int .u16 bT, .int .u16 bP, .int .u16 bY, .int .u32 bR, .bool bV] 25)).alloc (.cells #[.int .u32 0, .int .u8 0, .int .u16 0, .int .u16 0, .int .u16 0, .int .u16 0, .int .u32 0, .bool false] 25)) := (((Holds.nil w).alloc rfl _ _).alloc (by simp) _ _).alloc (by simp) _ _
  go_enter Try.func31, Try.ntmps31
  go_wp2_with fail
  refine wp_region_holds_tail 18 (by kernel_rfl) (by kernel_rfl) hw ?_
  simp only [List.take_succ_cons, List.take_zero, List.drop_succ_cons, List.drop_zero]
  have hne : Nonempty (Later (Holds w [(w.heap.size, 25, #[.int .u32 cC, .int .u8 cE, .int .u16 cB, .int .u16 cT, .int .u16 cP, .int .u16 cY, .int .u32 cR, .bool cV]), (w.heap.size + 1, 25, #[.int .u32 bC, .int .u8 bE, .int .u16 bB, .int .u16 bT, .int .u16 bP, .int .u16 bY, .int .u32 bR, .bool bV]), (w.heap.size + 1 + 1, 25, #[.int .u32 0, .int .u8 0, .int .u16 0, .int .u16 0, .int .u16 0, .int .u16 0, .int .u32 0, .bool false])])) := ⟨⟨_, hw⟩⟩
  have c0 := fun x j => later_c (w0 := w) (st := [(w.heap.size, 25, #[.int .u32 cC, .int .u8 cE, .int .u16 cB, .int .u16 cT, .int .u16 cP, .int .u16 cY, .int .u32 cR, .bool cV]), (w.heap.size + 1, 25, #[.int .u32 bC, .int .u8 bE, .int .u16 bB, .int .u16 bT, .int .u16 bP, .int .u16 bY, .int .u32 bR, .bool bV]), (w.heap.size + 1 + 1, 25, #[.int .u32 0, .int .u8 0, .int .u16 0, .int .u16 0, .int .u16 0, .int .u16 0, .int .u32 0, .bool false])]) (i := 0) rfl x j
  have c1 := fun x j => later_c (w0 := w) (st := [(w.heap.size, 25, #[.int .u32 cC, .int .u8 cE, .int .u16 cB, .int .u16 cT, .int .u16 cP, .int .u16 cY, .int .u32 cR, .bool cV]), (w.heap.size + 1, 25, #[.int .u32 bC, .int .u8 bE, .int .u16 bB, .int .u16 bT, .int .u16 bP, .int .u16 bY, .int .u32 bR, .bool bV]), (w.heap.size + 1 + 1, 25, #[.int .u32 0, .int .u8 0, .int .u16 0, .int .u16 0, .int .u16 0, .int .u16 0, .int .u32 0, .bool false])]) (i := 1) rfl x j
  repeat (go_big_quiet_step (first
    | (go_at_call 43; exact calls_holds (HF.out _))
    | (go_at_call 53; exact calls_holds (HS.out _))
    | (go_at_call 54; exact calls_holds (HW.out _))
    | (go_at_call 44; exact calls_holds (with_any cC cE cB cT cP cY cR cV k _))))
  refine wpQuiet_nil ?_
  intro W hW
  have c2 := hW.cell 2 rfl
  have f2 := hW.frozen 2 rfl
  have HT := hide hW
  clear hW hw c0 c1
  go_wp2
  refine bodyPost_ret (v := .agg #[.int .u32 cC, .int .u8 cE, .int .u16 cB, .int .u16 cT, .int .u16 cP, .int .u16 cY, .int .u32 cR, .bool k]) (by simp [results, Try.results31, go_sem, c2]) rfl ⟨rfl, ?_⟩
  repeat (first | (with_reducible refine Below.drew ?_) | (with_reducible refine below_drewN ?_ _) | (with_reducible refine Below.setCell ?_ (by first | (simp; done) | (simp; omega)) _))
  exact HT.out.below
end Go.Proofs.Ytljchnfofjmleaa
