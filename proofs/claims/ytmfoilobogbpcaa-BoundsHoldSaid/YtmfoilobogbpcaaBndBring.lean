/-
  Walk of bring().
-/
import Derived.Test.YtmfoilobogbpcaaBndWorks
namespace Go.Proofs.Ytmfoilobogbpcaa
open Go.RowKit
theorem bring_any (a b : Nat) (w : World) (ha : a < 4294967296) (hb : b < 4294967296) :
    Calls Try.prog 22 #[.int .u32 a, .int .u32 b] w fun e' w' => e' = .returned (.tuple #[.int .u32 (min a b : Nat), .int .u64 (max a b + 1 : Nat)]) ∧ w = w' := by
  by_cases h : (b : Int) < a
  · rw [Nat.min_eq_right (by omega), Nat.max_eq_left (by omega)]
    go_enter Try.func22, Try.ntmps22
    go_wp2
    go_ret2
    exact ⟨rfl, rfl⟩
  · rw [Nat.min_eq_left (by omega), Nat.max_eq_right (by omega)]
    go_enter Try.func22, Try.ntmps22
    go_wp2
    go_ret2
    exact ⟨rfl, rfl⟩
theorem bring_is (a b x y : Nat) (w : World) (ha : a < 4294967296) (hb : b < 4294967296) (hx : min a b = x) (hy : max a b + 1 = y) :
    Calls Try.prog 22 #[.int .u32 a, .int .u32 b] w fun e' w' => e' = .returned (.tuple #[.int .u32 x, .int .u64 y]) ∧ w = w' := by
  rw [← hx, ← hy]; exact bring_any a b w ha hb
end Go.Proofs.Ytmfoilobogbpcaa
