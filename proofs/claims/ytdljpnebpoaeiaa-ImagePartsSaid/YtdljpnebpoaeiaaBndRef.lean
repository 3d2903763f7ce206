/-
  Walks of the document's answer for layer 3.
-/
import Derived.Test.YtdljpnebpoaeiaaBndB
import Derived.Test.YtdljpnebpoaeiaaBndC
import Derived.Deep.RegionWith
namespace Go.Proofs.Ytdljpnebpoaeiaa
open Go.RowKit

theorem ret3_bool {a b : Value} {x y : Bool} (h : x = y) : Ending.returned (.tuple #[a, b, .bool x]) = .returned (.tuple #[a, b, .bool y]) := by rw [h]
theorem prod_bd {U : Nat} (hp : U ≤ 2097152) (z : Int) (h1 : -2 ≤ z) (h2 : z ≤ 2097152) : -4398046511104 ≤ z * U ∧ z * U ≤ 4398046511104 := by
  have a1 : z * (U : Int) ≤ 2097152 * (U : Int) := Int.mul_le_mul_of_nonneg_right h2 (by omega)
  have a2 : -2 * (U : Int) ≤ z * (U : Int) := Int.mul_le_mul_of_nonneg_right h1 (by omega)
  omega
theorem of_eq (h tm tx x U : Int) : ((h - tm + tx) * 4096 + x) * U = (h + tx - tm) * U * 4096 + x * U := by
  rw [Int.add_mul, show h - tm + tx = h + tx - tm by omega, Int.mul_right_comm]

end Go.Proofs.Ytdljpnebpoaeiaa
