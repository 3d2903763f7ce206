/-
  Walks of layer 3 (bounds): Decode, Keeps.
-/
import Derived.Test.YtdljpnebpoaeiaaBndA
import Derived.Laws.StructEq
import Derived.OwnWalk
namespace Go.Proofs.Ytdljpnebpoaeiaa
open Go.RowKit

/-- Two arrays of two integers, held against each other. -/
theorem run_equalIn_arr2 {P : Program} (d : Nat) (t e : TypeId) (i : TypeInfo) (k k' : IntKind) (ht : P.underlying t = some (.array 2 e)) (he : P.underlying e = some (.int k')) (hi : P.info? e = some i) (hsz : i.size = 1) (a b c f : Int) (w : World) :
    (Op.equalIn (d + 2) t (.agg #[.int k a, .int k b]) (.agg #[.int k c, .int k f])).run P w = .ok (a == c && b == f) w := by
  have hp1 : ∀ (x y : Value) W, (part e #[x, y] 0).run P W = .ok x W := fun x y W => by simp [part, isAgg, run_underlying he]
  have hp2 : ∀ (x y : Value) W, (part e #[x, y] 1).run P W = .ok y W := fun x y W => by simp [part, isAgg, run_underlying he]
  have he2 : ∀ (x y : Int) W, (Op.equalIn (d + 1) e (.int k x) (.int k y)).run P W = .ok (x == y) W := fun x y W => run_equalIn_int W d e k k' x y he
  unfold Op.equalIn
  simp only [Sem.run_bind, run_underlying ht, Result.andThen_ok, sizeOf, typeInfo, Std.Legacy.Range.forIn_eq_forIn_range', Std.Legacy.Range.size]
  simp [hi, hsz, List.range', hp1, hp2, he2]
  by_cases h1 : a = c <;> by_cases h2 : b = f <;> simp [h1, h2]
theorem i64_info : (Try.prog.info? 2).map (fun i => (i.zero, i.size, i.bytes)) = some (some (.int .i64 0), 1, 8) := by kernel_rfl

/-- What Decode answers. -/
def decN (e b t c : Nat) : Nat × Nat := if tellOk e b t c = true ∧ tellB e b t c ≠ 4294967296 then ((tellB e b t c).toNat, (tellT e b t c).toNat) else (0, 0)
def keepsN (e b t c n : Nat) : Bool := tellOk e b t c && decide (tellB e b t c = tellB e b t n) && decide (tellT e b t c = tellT e b t n)

theorem tellOk_true {e b t c : Nat} (h : tellOk e b t c = true) : 0 ≤ tellB e b t c ∧ tellB e b t c ≤ tellT e b t c ∧ tellT e b t c ≤ 4294967296 := by
  simp only [tellOk, Bool.and_eq_true, decide_eq_true_eq] at h
  exact ⟨h.1.1.2, h.1.2, h.2⟩

end Go.Proofs.Ytdljpnebpoaeiaa
