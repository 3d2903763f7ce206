/-
  BoundsHold: what is made of a base and a top tells, at each cursor from the base to the top, both, and less than 2^e more at each side, just as Round says. No condition.
-/
import Derived.Test.YtmfoilobogbpcaaBndBring
import Derived.Test.YtmfoilobogbpcaaBndMath
import Derived.Test.YtmfoilobogbpcaaFrame
import Derived.Deep.Cut
namespace Go.Proofs.Ytmfoilobogbpcaa
open Go.ChangeShapes Go.WideShapes Go.ChangeAt Go.RowKit
open Go.ChangeMaps (open_string shut_string)

set_option maxRecDepth 100000 in
set_option maxHeartbeats 2000000 in
theorem bhold_tty (a b at_ x y k m n D u U R : Nat) (w : World)
    (HBR : Hid (∀ W, Calls Try.prog 22 #[.int .u32 a, .int .u32 b] W fun e' w' => e' = .returned (.tuple #[.int .u32 x, .int .u64 y]) ∧ W = w'))
    (HD : Hid (∀ W, Calls Try.prog 16 #[.int .u32 x, .int .u64 y] W fun e' w' => e' = .returned (.tuple #[.int .u8 k, .int .u16 m, .int .u16 n, .bool true, .bool true]) ∧ ∃ m1, w' = W.drewN m1))
    (HRD : Hid (∀ W, Calls Try.prog 20 #[.int .u32 x, .int .u64 y] W fun e' w' => e' = .returned (.tuple #[.int .u32 D, .int .u64 u, .bool true]) ∧ W = w'))
    (HA : Hid (∀ W, Calls Try.prog 13 #[.int .u8 k, .int .u16 m, .int .u16 n, .int .u32 ((x : Int) + R)] W fun e' w' => e' = .returned (.tuple #[.int .u32 D, .int .u64 u]) ∧ Below W.heap.size W w'))
    (_HY : Hid (y < 4294967296 → ∀ W, Calls Try.prog 13 #[.int .u8 k, .int .u16 m, .int .u16 n, .int .u32 y] W fun e' w' => e' = .returned (.tuple #[.int .u32 D, .int .u64 u]) ∧ Below W.heap.size W w'))
    (hxl : x < 4294967296) (hxy : x < y) (hy5 : (y : Int) ≤ 5000000000) (hk : k ≤ 21) (_hRl : (R : Int) < (y : Int) - x) (hat0 : at_ < 4294967296)
    (hRi : (at_ : Int) % ((y : Int) - x) = (R : Int)) (hxr : (x : Int) + R ≤ 4294967295)
    (hD1 : (D : Int) ≤ x) (hu1 : (y : Int) ≤ u) (hul : (u : Int) ≤ 5000000000)
    (w1 : IntKind.u32.wrap ((2 : Int) ^ k) = (U : Int)) (w2 : IntKind.u64.wrap ((2 : Int) ^ k) = (U : Int))
    (_g1 : decide ((x : Int) < D) = false) (_g2 : decide ((u : Int) < y) = false) (g3 : decide ((U : Int) ≤ (x : Int) - D) = false) (g4 : decide ((U : Int) ≤ (u : Int) - y) = false)
    (d1 : ((D : Int) == x) = true) (d2 : ((u : Int) == y) = true)  (HLT : Box (decide ((y : Int) < 4294967296) = true)) (hyl : (y : Int) ≤ 4294967295) :
    Calls Try.prog 7 #[.int .u32 a, .int .u32 b, .int .u32 at_] w fun e' w' => e' = .returned (.bool true) ∧ Below w.heap.size w w' := by
  have HY2 := hide (_HY.out (by omega))
  clear _HY
  go_enter Try.func7, Try.ntmps7
  go_wp2_with fail
  refine (HBR.out _).mono ?_
  rintro e' w1 ⟨rfl, rfl⟩
  go_wp2_with fail
  refine (HD.out _).mono ?_
  rintro e' w2 ⟨rfl, m1, rfl⟩
  go_wp2_with fail
  refine (HA.out _).mono ?_
  rintro e' w3 ⟨rfl, hb3⟩
  have HB3 := hide hb3; clear hb3
  go_wp2_with fail
  refine (HRD.out _).mono ?_
  rintro e' w4 ⟨rfl, rfl⟩
  clear HBR HD HRD HA
  go_upto_region 12 with (fail)
  have hlt := HLT.out
  clear HLT hxl hat0 hxy _hRl hRi hxr hD1 w1 w2 _g1 _g2 g3 g4 d1 d2
  go_wp2_with fail
  refine (HY2.out _).mono ?_
  rintro e' w5 ⟨rfl, hb5⟩
  have HB5 := hide hb5; clear hb5
  go_wp2_with fail
  refine (bworks_any _).mono ?_
  rintro e' w6 ⟨rfl, hb6⟩
  have HB6 := hide hb6; clear hb6
  go_wp2
  go_ret
  have k3 := below_of_drewN HB3.out
  exact ⟨rfl, (k3.trans (HB5.out.mono k3.size)).trans (HB6.out.mono (Nat.le_trans k3.size HB5.out.size))⟩
set_option maxRecDepth 100000 in
set_option maxHeartbeats 2000000 in
theorem bhold_ttn (a b at_ x y k m n D u U R : Nat) (w : World)
    (HBR : Hid (∀ W, Calls Try.prog 22 #[.int .u32 a, .int .u32 b] W fun e' w' => e' = .returned (.tuple #[.int .u32 x, .int .u64 y]) ∧ W = w'))
    (HD : Hid (∀ W, Calls Try.prog 16 #[.int .u32 x, .int .u64 y] W fun e' w' => e' = .returned (.tuple #[.int .u8 k, .int .u16 m, .int .u16 n, .bool true, .bool true]) ∧ ∃ m1, w' = W.drewN m1))
    (HRD : Hid (∀ W, Calls Try.prog 20 #[.int .u32 x, .int .u64 y] W fun e' w' => e' = .returned (.tuple #[.int .u32 D, .int .u64 u, .bool true]) ∧ W = w'))
    (HA : Hid (∀ W, Calls Try.prog 13 #[.int .u8 k, .int .u16 m, .int .u16 n, .int .u32 ((x : Int) + R)] W fun e' w' => e' = .returned (.tuple #[.int .u32 D, .int .u64 u]) ∧ Below W.heap.size W w'))
    (_HY : Hid (y < 4294967296 → ∀ W, Calls Try.prog 13 #[.int .u8 k, .int .u16 m, .int .u16 n, .int .u32 y] W fun e' w' => e' = .returned (.tuple #[.int .u32 D, .int .u64 u]) ∧ Below W.heap.size W w'))
    (hxl : x < 4294967296) (hxy : x < y) (hy5 : (y : Int) ≤ 5000000000) (hk : k ≤ 21) (_hRl : (R : Int) < (y : Int) - x) (hat0 : at_ < 4294967296)
    (hRi : (at_ : Int) % ((y : Int) - x) = (R : Int)) (hxr : (x : Int) + R ≤ 4294967295)
    (hD1 : (D : Int) ≤ x) (hu1 : (y : Int) ≤ u) (hul : (u : Int) ≤ 5000000000)
    (w1 : IntKind.u32.wrap ((2 : Int) ^ k) = (U : Int)) (w2 : IntKind.u64.wrap ((2 : Int) ^ k) = (U : Int))
    (_g1 : decide ((x : Int) < D) = false) (_g2 : decide ((u : Int) < y) = false) (g3 : decide ((U : Int) ≤ (x : Int) - D) = false) (g4 : decide ((U : Int) ≤ (u : Int) - y) = false)
    (d1 : ((D : Int) == x) = true) (d2 : ((u : Int) == y) = true)  (HLT : Box (decide ((y : Int) < 4294967296) = false)) :
    Calls Try.prog 7 #[.int .u32 a, .int .u32 b, .int .u32 at_] w fun e' w' => e' = .returned (.bool true) ∧ Below w.heap.size w w' := by
  clear _HY
  go_enter Try.func7, Try.ntmps7
  go_wp2_with fail
  refine (HBR.out _).mono ?_
  rintro e' w1 ⟨rfl, rfl⟩
  go_wp2_with fail
  refine (HD.out _).mono ?_
  rintro e' w2 ⟨rfl, m1, rfl⟩
  go_wp2_with fail
  refine (HA.out _).mono ?_
  rintro e' w3 ⟨rfl, hb3⟩
  have HB3 := hide hb3; clear hb3
  go_wp2_with fail
  refine (HRD.out _).mono ?_
  rintro e' w4 ⟨rfl, rfl⟩
  clear HBR HD HRD HA
  go_upto_region 12 with (fail)
  have hlt := HLT.out
  clear HLT hxl hat0 hxy _hRl hRi hxr hD1 w1 w2 _g1 _g2 g3 g4 d1 d2
  go_wp2_with fail
  refine (bworks_any _).mono ?_
  rintro e' w6 ⟨rfl, hb6⟩
  have HB6 := hide hb6; clear hb6
  go_wp2
  go_ret
  have k3 := below_of_drewN HB3.out
  exact ⟨rfl, k3.trans (HB6.out.mono k3.size)⟩
set_option maxRecDepth 100000 in
set_option maxHeartbeats 2000000 in
theorem bhold_tfy (a b at_ x y k m n D u U R : Nat) (w : World)
    (HBR : Hid (∀ W, Calls Try.prog 22 #[.int .u32 a, .int .u32 b] W fun e' w' => e' = .returned (.tuple #[.int .u32 x, .int .u64 y]) ∧ W = w'))
    (HD : Hid (∀ W, Calls Try.prog 16 #[.int .u32 x, .int .u64 y] W fun e' w' => e' = .returned (.tuple #[.int .u8 k, .int .u16 m, .int .u16 n, .bool false, .bool true]) ∧ ∃ m1, w' = W.drewN m1))
    (HRD : Hid (∀ W, Calls Try.prog 20 #[.int .u32 x, .int .u64 y] W fun e' w' => e' = .returned (.tuple #[.int .u32 D, .int .u64 u, .bool true]) ∧ W = w'))
    (HA : Hid (∀ W, Calls Try.prog 13 #[.int .u8 k, .int .u16 m, .int .u16 n, .int .u32 ((x : Int) + R)] W fun e' w' => e' = .returned (.tuple #[.int .u32 D, .int .u64 u]) ∧ Below W.heap.size W w'))
    (_HY : Hid (y < 4294967296 → ∀ W, Calls Try.prog 13 #[.int .u8 k, .int .u16 m, .int .u16 n, .int .u32 y] W fun e' w' => e' = .returned (.tuple #[.int .u32 D, .int .u64 u]) ∧ Below W.heap.size W w'))
    (hxl : x < 4294967296) (hxy : x < y) (hy5 : (y : Int) ≤ 5000000000) (hk : k ≤ 21) (_hRl : (R : Int) < (y : Int) - x) (hat0 : at_ < 4294967296)
    (hRi : (at_ : Int) % ((y : Int) - x) = (R : Int)) (hxr : (x : Int) + R ≤ 4294967295)
    (hD1 : (D : Int) ≤ x) (hu1 : (y : Int) ≤ u) (hul : (u : Int) ≤ 5000000000)
    (w1 : IntKind.u32.wrap ((2 : Int) ^ k) = (U : Int)) (w2 : IntKind.u64.wrap ((2 : Int) ^ k) = (U : Int))
    (_g1 : decide ((x : Int) < D) = false) (_g2 : decide ((u : Int) < y) = false) (g3 : decide ((U : Int) ≤ (x : Int) - D) = false) (g4 : decide ((U : Int) ≤ (u : Int) - y) = false)
    (d1 : ((D : Int) == x) = true) (d2 : ((u : Int) == y) = false)  (HLT : Box (decide ((y : Int) < 4294967296) = true)) (hyl : (y : Int) ≤ 4294967295) :
    Calls Try.prog 7 #[.int .u32 a, .int .u32 b, .int .u32 at_] w fun e' w' => e' = .returned (.bool true) ∧ Below w.heap.size w w' := by
  have HY2 := hide (_HY.out (by omega))
  clear _HY
  go_enter Try.func7, Try.ntmps7
  go_wp2_with fail
  refine (HBR.out _).mono ?_
  rintro e' w1 ⟨rfl, rfl⟩
  go_wp2_with fail
  refine (HD.out _).mono ?_
  rintro e' w2 ⟨rfl, m1, rfl⟩
  go_wp2_with fail
  refine (HA.out _).mono ?_
  rintro e' w3 ⟨rfl, hb3⟩
  have HB3 := hide hb3; clear hb3
  go_wp2_with fail
  refine (HRD.out _).mono ?_
  rintro e' w4 ⟨rfl, rfl⟩
  clear HBR HD HRD HA
  go_upto_region 12 with (fail)
  have hlt := HLT.out
  clear HLT hxl hat0 hxy _hRl hRi hxr hD1 w1 w2 _g1 _g2 g3 g4 d1 d2
  go_wp2_with fail
  refine (HY2.out _).mono ?_
  rintro e' w5 ⟨rfl, hb5⟩
  have HB5 := hide hb5; clear hb5
  go_wp2_with fail
  refine (bworks_any _).mono ?_
  rintro e' w6 ⟨rfl, hb6⟩
  have HB6 := hide hb6; clear hb6
  go_wp2
  go_ret
  have k3 := below_of_drewN HB3.out
  exact ⟨rfl, (k3.trans (HB5.out.mono k3.size)).trans (HB6.out.mono (Nat.le_trans k3.size HB5.out.size))⟩
set_option maxRecDepth 100000 in
set_option maxHeartbeats 2000000 in
theorem bhold_tfn (a b at_ x y k m n D u U R : Nat) (w : World)
    (HBR : Hid (∀ W, Calls Try.prog 22 #[.int .u32 a, .int .u32 b] W fun e' w' => e' = .returned (.tuple #[.int .u32 x, .int .u64 y]) ∧ W = w'))
    (HD : Hid (∀ W, Calls Try.prog 16 #[.int .u32 x, .int .u64 y] W fun e' w' => e' = .returned (.tuple #[.int .u8 k, .int .u16 m, .int .u16 n, .bool false, .bool true]) ∧ ∃ m1, w' = W.drewN m1))
    (HRD : Hid (∀ W, Calls Try.prog 20 #[.int .u32 x, .int .u64 y] W fun e' w' => e' = .returned (.tuple #[.int .u32 D, .int .u64 u, .bool true]) ∧ W = w'))
    (HA : Hid (∀ W, Calls Try.prog 13 #[.int .u8 k, .int .u16 m, .int .u16 n, .int .u32 ((x : Int) + R)] W fun e' w' => e' = .returned (.tuple #[.int .u32 D, .int .u64 u]) ∧ Below W.heap.size W w'))
    (_HY : Hid (y < 4294967296 → ∀ W, Calls Try.prog 13 #[.int .u8 k, .int .u16 m, .int .u16 n, .int .u32 y] W fun e' w' => e' = .returned (.tuple #[.int .u32 D, .int .u64 u]) ∧ Below W.heap.size W w'))
    (hxl : x < 4294967296) (hxy : x < y) (hy5 : (y : Int) ≤ 5000000000) (hk : k ≤ 21) (_hRl : (R : Int) < (y : Int) - x) (hat0 : at_ < 4294967296)
    (hRi : (at_ : Int) % ((y : Int) - x) = (R : Int)) (hxr : (x : Int) + R ≤ 4294967295)
    (hD1 : (D : Int) ≤ x) (hu1 : (y : Int) ≤ u) (hul : (u : Int) ≤ 5000000000)
    (w1 : IntKind.u32.wrap ((2 : Int) ^ k) = (U : Int)) (w2 : IntKind.u64.wrap ((2 : Int) ^ k) = (U : Int))
    (_g1 : decide ((x : Int) < D) = false) (_g2 : decide ((u : Int) < y) = false) (g3 : decide ((U : Int) ≤ (x : Int) - D) = false) (g4 : decide ((U : Int) ≤ (u : Int) - y) = false)
    (d1 : ((D : Int) == x) = true) (d2 : ((u : Int) == y) = false)  (HLT : Box (decide ((y : Int) < 4294967296) = false)) :
    Calls Try.prog 7 #[.int .u32 a, .int .u32 b, .int .u32 at_] w fun e' w' => e' = .returned (.bool true) ∧ Below w.heap.size w w' := by
  clear _HY
  go_enter Try.func7, Try.ntmps7
  go_wp2_with fail
  refine (HBR.out _).mono ?_
  rintro e' w1 ⟨rfl, rfl⟩
  go_wp2_with fail
  refine (HD.out _).mono ?_
  rintro e' w2 ⟨rfl, m1, rfl⟩
  go_wp2_with fail
  refine (HA.out _).mono ?_
  rintro e' w3 ⟨rfl, hb3⟩
  have HB3 := hide hb3; clear hb3
  go_wp2_with fail
  refine (HRD.out _).mono ?_
  rintro e' w4 ⟨rfl, rfl⟩
  clear HBR HD HRD HA
  go_upto_region 12 with (fail)
  have hlt := HLT.out
  clear HLT hxl hat0 hxy _hRl hRi hxr hD1 w1 w2 _g1 _g2 g3 g4 d1 d2
  go_wp2_with fail
  refine (bworks_any _).mono ?_
  rintro e' w6 ⟨rfl, hb6⟩
  have HB6 := hide hb6; clear hb6
  go_wp2
  go_ret
  have k3 := below_of_drewN HB3.out
  exact ⟨rfl, k3.trans (HB6.out.mono k3.size)⟩
set_option maxRecDepth 100000 in
set_option maxHeartbeats 2000000 in
theorem bhold_fy (a b at_ x y k m n D u U R : Nat) (w : World)
    (HBR : Hid (∀ W, Calls Try.prog 22 #[.int .u32 a, .int .u32 b] W fun e' w' => e' = .returned (.tuple #[.int .u32 x, .int .u64 y]) ∧ W = w'))
    (HD : Hid (∀ W, Calls Try.prog 16 #[.int .u32 x, .int .u64 y] W fun e' w' => e' = .returned (.tuple #[.int .u8 k, .int .u16 m, .int .u16 n, .bool false, .bool true]) ∧ ∃ m1, w' = W.drewN m1))
    (HRD : Hid (∀ W, Calls Try.prog 20 #[.int .u32 x, .int .u64 y] W fun e' w' => e' = .returned (.tuple #[.int .u32 D, .int .u64 u, .bool true]) ∧ W = w'))
    (HA : Hid (∀ W, Calls Try.prog 13 #[.int .u8 k, .int .u16 m, .int .u16 n, .int .u32 ((x : Int) + R)] W fun e' w' => e' = .returned (.tuple #[.int .u32 D, .int .u64 u]) ∧ Below W.heap.size W w'))
    (_HY : Hid (y < 4294967296 → ∀ W, Calls Try.prog 13 #[.int .u8 k, .int .u16 m, .int .u16 n, .int .u32 y] W fun e' w' => e' = .returned (.tuple #[.int .u32 D, .int .u64 u]) ∧ Below W.heap.size W w'))
    (hxl : x < 4294967296) (hxy : x < y) (hy5 : (y : Int) ≤ 5000000000) (hk : k ≤ 21) (_hRl : (R : Int) < (y : Int) - x) (hat0 : at_ < 4294967296)
    (hRi : (at_ : Int) % ((y : Int) - x) = (R : Int)) (hxr : (x : Int) + R ≤ 4294967295)
    (hD1 : (D : Int) ≤ x) (hu1 : (y : Int) ≤ u) (hul : (u : Int) ≤ 5000000000)
    (w1 : IntKind.u32.wrap ((2 : Int) ^ k) = (U : Int)) (w2 : IntKind.u64.wrap ((2 : Int) ^ k) = (U : Int))
    (_g1 : decide ((x : Int) < D) = false) (_g2 : decide ((u : Int) < y) = false) (g3 : decide ((U : Int) ≤ (x : Int) - D) = false) (g4 : decide ((U : Int) ≤ (u : Int) - y) = false)
    (d1 : ((D : Int) == x) = false)  (HLT : Box (decide ((y : Int) < 4294967296) = true)) (hyl : (y : Int) ≤ 4294967295) :
    Calls Try.prog 7 #[.int .u32 a, .int .u32 b, .int .u32 at_] w fun e' w' => e' = .returned (.bool true) ∧ Below w.heap.size w w' := by
  have HY2 := hide (_HY.out (by omega))
  clear _HY
  go_enter Try.func7, Try.ntmps7
  go_wp2_with fail
  refine (HBR.out _).mono ?_
  rintro e' w1 ⟨rfl, rfl⟩
  go_wp2_with fail
  refine (HD.out _).mono ?_
  rintro e' w2 ⟨rfl, m1, rfl⟩
  go_wp2_with fail
  refine (HA.out _).mono ?_
  rintro e' w3 ⟨rfl, hb3⟩
  have HB3 := hide hb3; clear hb3
  go_wp2_with fail
  refine (HRD.out _).mono ?_
  rintro e' w4 ⟨rfl, rfl⟩
  clear HBR HD HRD HA
  go_upto_region 12 with (fail)
  have hlt := HLT.out
  clear HLT hxl hat0 hxy _hRl hRi hxr hD1 w1 w2 _g1 _g2 g3 g4 d1
  go_wp2_with fail
  refine (HY2.out _).mono ?_
  rintro e' w5 ⟨rfl, hb5⟩
  have HB5 := hide hb5; clear hb5
  go_wp2_with fail
  refine (bworks_any _).mono ?_
  rintro e' w6 ⟨rfl, hb6⟩
  have HB6 := hide hb6; clear hb6
  go_wp2
  go_ret
  have k3 := below_of_drewN HB3.out
  exact ⟨rfl, (k3.trans (HB5.out.mono k3.size)).trans (HB6.out.mono (Nat.le_trans k3.size HB5.out.size))⟩
set_option maxRecDepth 100000 in
set_option maxHeartbeats 2000000 in
theorem bhold_fn (a b at_ x y k m n D u U R : Nat) (w : World)
    (HBR : Hid (∀ W, Calls Try.prog 22 #[.int .u32 a, .int .u32 b] W fun e' w' => e' = .returned (.tuple #[.int .u32 x, .int .u64 y]) ∧ W = w'))
    (HD : Hid (∀ W, Calls Try.prog 16 #[.int .u32 x, .int .u64 y] W fun e' w' => e' = .returned (.tuple #[.int .u8 k, .int .u16 m, .int .u16 n, .bool false, .bool true]) ∧ ∃ m1, w' = W.drewN m1))
    (HRD : Hid (∀ W, Calls Try.prog 20 #[.int .u32 x, .int .u64 y] W fun e' w' => e' = .returned (.tuple #[.int .u32 D, .int .u64 u, .bool true]) ∧ W = w'))
    (HA : Hid (∀ W, Calls Try.prog 13 #[.int .u8 k, .int .u16 m, .int .u16 n, .int .u32 ((x : Int) + R)] W fun e' w' => e' = .returned (.tuple #[.int .u32 D, .int .u64 u]) ∧ Below W.heap.size W w'))
    (_HY : Hid (y < 4294967296 → ∀ W, Calls Try.prog 13 #[.int .u8 k, .int .u16 m, .int .u16 n, .int .u32 y] W fun e' w' => e' = .returned (.tuple #[.int .u32 D, .int .u64 u]) ∧ Below W.heap.size W w'))
    (hxl : x < 4294967296) (hxy : x < y) (hy5 : (y : Int) ≤ 5000000000) (hk : k ≤ 21) (_hRl : (R : Int) < (y : Int) - x) (hat0 : at_ < 4294967296)
    (hRi : (at_ : Int) % ((y : Int) - x) = (R : Int)) (hxr : (x : Int) + R ≤ 4294967295)
    (hD1 : (D : Int) ≤ x) (hu1 : (y : Int) ≤ u) (hul : (u : Int) ≤ 5000000000)
    (w1 : IntKind.u32.wrap ((2 : Int) ^ k) = (U : Int)) (w2 : IntKind.u64.wrap ((2 : Int) ^ k) = (U : Int))
    (_g1 : decide ((x : Int) < D) = false) (_g2 : decide ((u : Int) < y) = false) (g3 : decide ((U : Int) ≤ (x : Int) - D) = false) (g4 : decide ((U : Int) ≤ (u : Int) - y) = false)
    (d1 : ((D : Int) == x) = false)  (HLT : Box (decide ((y : Int) < 4294967296) = false)) :
    Calls Try.prog 7 #[.int .u32 a, .int .u32 b, .int .u32 at_] w fun e' w' => e' = .returned (.bool true) ∧ Below w.heap.size w w' := by
  clear _HY
  go_enter Try.func7, Try.ntmps7
  go_wp2_with fail
  refine (HBR.out _).mono ?_
  rintro e' w1 ⟨rfl, rfl⟩
  go_wp2_with fail
  refine (HD.out _).mono ?_
  rintro e' w2 ⟨rfl, m1, rfl⟩
  go_wp2_with fail
  refine (HA.out _).mono ?_
  rintro e' w3 ⟨rfl, hb3⟩
  have HB3 := hide hb3; clear hb3
  go_wp2_with fail
  refine (HRD.out _).mono ?_
  rintro e' w4 ⟨rfl, rfl⟩
  clear HBR HD HRD HA
  go_upto_region 12 with (fail)
  have hlt := HLT.out
  clear HLT hxl hat0 hxy _hRl hRi hxr hD1 w1 w2 _g1 _g2 g3 g4 d1
  go_wp2_with fail
  refine (bworks_any _).mono ?_
  rintro e' w6 ⟨rfl, hb6⟩
  have HB6 := hide hb6; clear hb6
  go_wp2
  go_ret
  have k3 := below_of_drewN HB3.out
  exact ⟨rfl, k3.trans (HB6.out.mono k3.size)⟩
set_option maxHeartbeats 2000000 in
theorem bhold_walk (a b at_ : Nat) (w : World) (ha : a < 4294967296) (hb : b < 4294967296) (hat0 : at_ < 4294967296) :
    Calls Try.prog 7 #[.int .u32 a, .int .u32 b, .int .u32 at_] w fun e' w' => e' = .returned (.bool true) ∧ Below w.heap.size w w' := by
  obtain ⟨x, hx⟩ : ∃ x, min a b = x := ⟨_, rfl⟩
  obtain ⟨y, hy⟩ : ∃ y, max a b + 1 = y := ⟨_, rfl⟩
  have hbr := fun W => bring_is a b x y W ha hb hx hy
  have hxl : x < 4294967296 := by omega
  have hxy : x < y := by omega
  have hyl : y ≤ 4294967296 := by omega
  have hr : rightN x y = true := by simp [rightN, hyl]; omega
  have hk := expo_le x y
  have hd1 := dn_le x (expoN x y)
  have hdl := dn_lt x (expoN x y)
  have hu1 := up_ge y (expoN x y)
  have hul := up_lt y (expoN x y)
  have huw := up_whole (t := y) hk hyl
  have hp := pow_le_21 hk
  have h0 := pow_pos2 (expoN x y)
  have hd := fun W => encode_any x y W hxl (by omega)
  have hrd := fun W => round_any x y W hxl (by omega)
  have hat := fun c => enc_at (b := x) (t := y) (c := c) hxl (by omega) hyl
  rw [hr, if_pos rfl, if_pos rfl] at hrd
  have hkE : encE x y = expoN x y := by unfold encE; rw [if_pos hr]
  have hkb : encE x y < 256 := by rw [hkE]; omega
  have hbb : encB x y < 65536 := by unfold encB; rw [if_pos hr]; omega
  have hbt : encT x y < 65536 := by unfold encT; rw [if_pos hr]; omega
  have hX : encX x y = (decide (dnN x (expoN x y) = x) && decide (upN y (expoN x y) = y)) := by unfold encX; rw [hr]; rfl
  rw [hr, hX] at hd
  have hdc : ∀ c : Nat, x ≤ c → c ≤ y → c < 4294967296 → ∀ W, Calls Try.prog 13 #[.int .u8 (encE x y), .int .u16 (encB x y), .int .u16 (encT x y), .int .u32 c] W fun e' w' => e' = .returned (.tuple #[.int .u32 (dnN x (expoN x y)), .int .u64 (upN y (expoN x y))]) ∧ Below W.heap.size W w' := by
    intro c h1 h2 h3 W
    have := decode_any (encE x y) (encB x y) (encT x y) c W hkb hbb hbt h3
    rwa [hat c h1 h2] at this
  rw [← hkE] at hdc hrd hd1 hdl hu1 huw hul hp h0 hk hd
  obtain ⟨k, hkn⟩ : ∃ k, encE x y = k := ⟨_, rfl⟩
  obtain ⟨m, hmn⟩ : ∃ k, encB x y = k := ⟨_, rfl⟩
  obtain ⟨n, hnn⟩ : ∃ k, encT x y = k := ⟨_, rfl⟩
  rw [hkn, hmn, hnn] at hdc hd
  rw [hkn] at hrd hd1 hdl hu1 huw hul hp h0 hk
  obtain ⟨D, hD⟩ : ∃ d, dnN x k = d := ⟨_, rfl⟩
  obtain ⟨u, hu⟩ : ∃ d, upN y k = d := ⟨_, rfl⟩
  rw [hD, hu] at hdc hrd hd
  rw [hD] at hd1 hdl
  rw [hu] at hu1 huw hul
  have w1 : IntKind.u32.wrap ((2 : Int) ^ k) = ((2 ^ k : Nat) : Int) := by
    rw [IntKind.wrap_u32, show ((2 : Int) ^ k) = ((2 ^ k : Nat) : Int) by simp]
    generalize 2 ^ k = z at *
    omega
  have w2 : IntKind.u64.wrap ((2 : Int) ^ k) = ((2 ^ k : Nat) : Int) := by
    rw [IntKind.wrap_u64, show ((2 : Int) ^ k) = ((2 ^ k : Nat) : Int) by simp]
    generalize 2 ^ k = z at *
    omega
  obtain ⟨U, hU⟩ : ∃ z, 2 ^ k = z := ⟨_, rfl⟩
  rw [hU] at w1 w2 hdl hul hp h0
  obtain ⟨R, hR⟩ : ∃ R : Nat, at_ % (y - x) = R := ⟨_, rfl⟩
  have hRl : R < y - x := by rw [← hR]; exact Nat.mod_lt _ (by omega)
  have hRi : (at_ : Int) % ((y : Int) - x) = (R : Int) := by rw [← hR, show (y : Int) - x = ((y - x : Nat) : Int) by omega]; simp
  have hA := fun W => hdc (x + R) (by omega) (by omega) (by omega) W
  rw [show ((x + R : Nat) : Int) = (x : Int) + R by omega] at hA
  have HY : Hid (y < 4294967296 → ∀ W, Calls Try.prog 13 #[.int .u8 k, .int .u16 m, .int .u16 n, .int .u32 y] W fun e' w' => e' = .returned (.tuple #[.int .u32 D, .int .u64 u]) ∧ Below W.heap.size W w') := fun h => hdc y (by omega) (Nat.le_refl _) h
  have hy5 : (y : Int) ≤ 5000000000 := by omega
  have g1 : decide ((x : Int) < D) = false := by simp; omega
  have g2 : decide ((u : Int) < y) = false := by simp; omega
  have g3 : decide ((U : Int) ≤ (x : Int) - D) = false := by simp; omega
  have g4 : decide ((U : Int) ≤ (u : Int) - y) = false := by simp; omega
  have hulim : (u : Int) ≤ 5000000000 := by omega
  by_cases c1 : D = x
  · have d1 : ((D : Int) == x) = true := by rw [c1]; simp
    by_cases c2 : u = y
    · have d2 : ((u : Int) == y) = true := by rw [c2]; simp
      rw [decide_eq_true c1, decide_eq_true c2, Bool.and_self] at hd
      by_cases hlt : (y : Int) < 4294967296
      · exact bhold_tty a b at_ x y k m n D u U R w hbr hd hrd hA HY hxl hxy hy5 hk (by omega) hat0 hRi (by omega) (by omega) (by omega) hulim w1 w2 g1 g2 g3 g4 d1 d2 ⟨by simp; omega⟩ (by omega)
      · exact bhold_ttn a b at_ x y k m n D u U R w hbr hd hrd hA HY hxl hxy hy5 hk (by omega) hat0 hRi (by omega) (by omega) (by omega) hulim w1 w2 g1 g2 g3 g4 d1 d2 ⟨by simp; omega⟩
    · have d2 : ((u : Int) == y) = false := by simp; omega
      rw [decide_eq_true c1, decide_eq_false c2, Bool.and_false] at hd
      by_cases hlt : (y : Int) < 4294967296
      · exact bhold_tfy a b at_ x y k m n D u U R w hbr hd hrd hA HY hxl hxy hy5 hk (by omega) hat0 hRi (by omega) (by omega) (by omega) hulim w1 w2 g1 g2 g3 g4 d1 d2 ⟨by simp; omega⟩ (by omega)
      · exact bhold_tfn a b at_ x y k m n D u U R w hbr hd hrd hA HY hxl hxy hy5 hk (by omega) hat0 hRi (by omega) (by omega) (by omega) hulim w1 w2 g1 g2 g3 g4 d1 d2 ⟨by simp; omega⟩
  · have d1 : ((D : Int) == x) = false := by simp; omega
    rw [decide_eq_false c1, Bool.false_and] at hd
    by_cases hlt : (y : Int) < 4294967296
    · exact bhold_fy a b at_ x y k m n D u U R w hbr hd hrd hA HY hxl hxy hy5 hk (by omega) hat0 hRi (by omega) (by omega) (by omega) hulim w1 w2 g1 g2 g3 g4 d1 ⟨by simp; omega⟩ (by omega)
    · exact bhold_fn a b at_ x y k m n D u U R w hbr hd hrd hA HY hxl hxy hy5 hk (by omega) hat0 hRi (by omega) (by omega) (by omega) hulim w1 w2 g1 g2 g3 g4 d1 ⟨by simp; omega⟩
theorem bhold_law : LawWalk 7 Try.f7 := by
  intro H enc W base args ds p hval hA
  rw [Try.params7] at hA hval
  obtain ⟨v0, vs0, d0, ds0, p0, q0, hargs, rfl, rfl, h0, r0⟩ := trodAll_cons hA
  obtain ⟨v1, vs1, d1, ds1, p1, q1, rfl, rfl, rfl, h1, r1⟩ := trodAll_cons r0
  obtain ⟨v2, vs2, d2, ds2, p2, q2, rfl, rfl, rfl, h2, r2⟩ := trodAll_cons r1
  obtain ⟨rfl, rfl, rfl⟩ := trodAll_nil r2
  obtain rfl : args = #[v0, v1, v2] := by cases args; simp_all
  obtain ⟨a0, rfl, rfl, rfl, w0⟩ := open_int Try.underlying25 (hval 0 _ v0 rfl rfl) h0
  have b0 := wf_u32 w0
  obtain ⟨a1, rfl, rfl, rfl, w1⟩ := open_int Try.underlying25 (hval 1 _ v1 rfl rfl) h1
  have b1 := wf_u32 w1
  obtain ⟨a2, rfl, rfl, rfl, w2⟩ := open_int Try.underlying25 (hval 2 _ v2 rfl rfl) h2
  have b2 := wf_u32 w2
  obtain ⟨a, rfl⟩ := Int.eq_ofNat_of_zero_le b0.1
  obtain ⟨b, rfl⟩ := Int.eq_ofNat_of_zero_le b1.1
  obtain ⟨c, rfl⟩ := Int.eq_ofNat_of_zero_le b2.1
  exact bhold_walk a b c W (by omega) (by omega) (by omega)
set_option maxRecDepth 100000 in
theorem boundsHold_proved : Rows.BoundsHoldSaid :=
  OpenClaim.holds_of_wide 7 Try.f7 rfl rfl rfl rfl rfl rfl rfl ⟨rfl, rfl, rfl, rfl, rfl⟩ rfl rfl rfl rfl rfl (by kernel_rfl) Try.func7 (by kernel_rfl)
    (of_decide_eq_true (by kernel_rfl)) (by unfold Func.isWrapper; first | (rw [if_pos (by decide +kernel)]; kernel_rfl) | (rw [if_neg (by decide +kernel)]; exact ⟨rfl, rfl⟩))
    (fun os started H enc _ => law_lifted 7 Try.f7 Rows.boundsHoldSpec Rows.boundsHoldRow.domain Try.func7 (by kernel_rfl) rfl rfl
      (fun H ds hd => by match ds, hd with | [d0, d1, d2], _ => exact ⟨rfl, rfl, rfl⟩) (by decide +kernel) bhold_law os started H enc
      (ChangeSpec.witness6 (enc := enc) (C := Try.checked) false ⟨#[], #[.int .u32 0, .int .u32 0, .int .u32 0], []⟩ 8 (by kernel_rfl) (by kernel_rfl) (by kernel_rfl) (by kernel_rfl)))
#print axioms boundsHold_proved
end Go.Proofs.Ytmfoilobogbpcaa
