/-
  Walks of layer 4 (capabilities): Range, end, Holds, Meets, Within, Number, IsNumber.
-/
import Derived.Test.YtljchnfofjmleaaCapNum
import Derived.Deep.RegionHeld3
import Derived.Deep.DrawnRows
import Derived.BigQuiet
namespace Go.Proofs.Ytljchnfofjmleaa
open Go.RowKit
attribute [local go_sem ↓] Go.wp_at_zero Go.wp_at_succ

theorem eql_cap (aC aE aB aT aP aY aR : Nat) (aV : Bool) (bC bE bB bT bP bY bR : Nat) (bV : Bool) (W : World) : (binOp .eql 25 (.agg #[.int .u32 aC, .int .u8 aE, .int .u16 aB, .int .u16 aT, .int .u16 aP, .int .u16 aY, .int .u32 aR, .bool aV]) (.agg #[.int .u32 bC, .int .u8 bE, .int .u16 bB, .int .u16 bT, .int .u16 bP, .int .u16 bY, .int .u32 bR, .bool bV])).run Try.prog W = .ok (.bool (capEq aC aE aB aT aP aY aR aV bC bE bB bT bP bY bR bV)) W := by
  rw [run_eql_struct, run_equalIn_agg W 9999 _ _ _ capU capS]
  simp [go_sem, Program.fieldsOf, Try.underlying25, Op.eqFields, Int.natCast_inj]
  repeat' split
  all_goals simp_all [capEq]

theorem range_any (cC cE cB cT cP cY cR : Nat) (cV : Bool) (w : World) (cl : capB cC cE cB cT cP cY cR) :
    Calls Try.prog 35 #[.agg #[.int .u32 cC, .int .u8 cE, .int .u16 cB, .int .u16 cT, .int .u16 cP, .int .u16 cY, .int .u32 cR, .bool cV]] w fun e' w' => e' = .returned (.tuple #[.int .u32 (decN cE cB cT cC).1, .int .u64 (decN cE cB cT cC).2]) ∧ Below w.heap.size w w' := by
  have HD : Hid (∀ W, Calls Try.prog 56 #[.int .u8 cE, .int .u16 cB, .int .u16 cT, .int .u32 cC] W fun e' w' => e' = .returned (.tuple #[.int .u32 (decN cE cB cT cC).1, .int .u64 (decN cE cB cT cC).2]) ∧ Below W.heap.size W w') := fun W => decode_any cE cB cT cC W cl.2.1 cl.2.2.1 cl.2.2.2.1 cl.1
  obtain ⟨x, hx⟩ : ∃ x, (decN cE cB cT cC).1 = x := ⟨_, rfl⟩
  obtain ⟨y, hy⟩ : ∃ y, (decN cE cB cT cC).2 = y := ⟨_, rfl⟩
  rw [hx, hy] at HD ⊢
  clear hx hy
  go_enter Try.func35, Try.ntmps35
  go_wp2_with fail
  refine (HD.out _).mono ?_
  rintro e' w1 ⟨rfl, hb1⟩
  have HB1 := hide hb1; clear hb1
  go_wp2
  go_ret2
  exact ⟨rfl, ((Below.refl _ _).alloc (Nat.le_refl _) _).trans (HB1.out.mono (by simp))⟩

theorem end_any (a s : Nat) (w : World) (ha : a < 4294967296) (hs : s < 4294967296) :
    Calls Try.prog 57 #[.agg #[.int .u32 a, .int .u32 s]] w fun e' w' => e' = .returned (.int .u64 ((a : Int) + s)) ∧ Below w.heap.size w w' := by
  go_enter Try.func57, Try.ntmps57
  go_wp2
  go_ret
  exact ⟨rfl, by (repeat (first | exact Below.refl _ _ | refine Below.drew ?_ | refine below_drewN ?_ _ | refine Below.alloc ?_ (by simp <;> omega) _ | refine Below.setCell ?_ (by simp <;> omega) _))⟩

/-- Range, its two answers under two names. -/
theorem range_is (cC cE cB cT cP cY cR : Nat) (cV : Bool) (x y : Nat) (w : World) (cl : capB cC cE cB cT cP cY cR) (hx : (decN cE cB cT cC).1 = x) (hy : (decN cE cB cT cC).2 = y) :
    Calls Try.prog 35 #[.agg #[.int .u32 cC, .int .u8 cE, .int .u16 cB, .int .u16 cT, .int .u16 cP, .int .u16 cY, .int .u32 cR, .bool cV]] w fun e' w' => e' = .returned (.tuple #[.int .u32 x, .int .u64 y]) ∧ Below w.heap.size w w' := by
  rw [← hx, ← hy]; exact range_any cC cE cB cT cP cY cR cV w cl

theorem w64 (a : Nat) (h : a < 4294967296) : IntKind.u64.wrap (a : Int) = a := by rw [IntKind.wrap_u64]; omega
theorem meets_eq {x y a s : Nat} {M N : Int} (hM : ((max x a : Nat) : Int) = M) (hN : ((min y (a + s) : Nat) : Int) = N) : decide (M < N) = meetsN x y a s := by
  subst hM hN
  unfold meetsN; rw [decide_eq_decide]; omega
end Go.Proofs.Ytljchnfofjmleaa
