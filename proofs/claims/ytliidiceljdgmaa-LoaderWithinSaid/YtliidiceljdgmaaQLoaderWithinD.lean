/-
  LoaderWithin: part 4 of the proof.
-/
import Derived.Laws.BitsAllLaws
import Derived.Test.YtliidiceljdgmaaQLoaderWithinC
import Derived.Test.YtliidiceljdgmaaRows
set_option linter.unusedSimpArgs false
set_option linter.unusedVariables false
set_option linter.unusedSectionVars false
namespace Go.Proofs.Ytliidiceljdgmaa
open Go.RowKit
open Sy
set_option maxRecDepth 100000
def plQ (p s t : Int) (nc ns : Nat) (d : List UInt8) (a2 : Option Addr) (n2 c2 : Nat) (c da ds sa ss ha hs : Int) : List Value :=
 [.int .i64 p,.int .i64 s,.int .i64 t,.slice (some ⟨64,0,none⟩) nc (big + 64),.string ⟨⟨d⟩⟩,.slice a2 n2 c2,.slice (some ⟨66,0,none⟩) ns (big + 66),.int .u32 0,.int .u32 c,.int .u32 da,.int .u32 ds,.int .u32 sa,.int .u32 ss,.int .u32 ha,.int .u32 hs]
theorem fq_11 (p s t : Int) (nc ns : Nat) (d : List UInt8) (a2 : Option Addr) (n2 c2 : Nat) (c da ds sa ss ha hs : Int) (so : List Nat) (k : Int) : obs (evF Try.prog (baseC 3 selMk) noLoop 100 20 40 [Value.agg { toList:=plQ p s t nc ns d a2 n2 c2 c da ds sa ss ha hs },.int .i64 k] ⟨67,soH so,[],0,[(0,true),(1,true),(2,false),(3,true),(4,true),(5,true),(6,true),(7,true),(8,false),(9,true),(10,true),(11,true),(12,false),(13,true),(14,true),(15,true),(16,true),(17,false)],0,True⟩) = some (Value.agg ⟨[.int .u32 0,.int .u8 0,.int .u16 0,.int .u16 0,.int .u16 0,.int .u16 0,.int .u32 0,.bool false,.int .u32 (↑(mA da.toNat ds.toNat 27)),.int .u8 (↑(mE da.toNat ds.toNat 27)),.int .u16 (↑(mB da.toNat ds.toNat 27)),.int .u16 (↑(mT da.toNat ds.toNat 27)),.int .u16 (↑(mP da.toNat ds.toNat 27)),.int .u16 0,.int .u32 0,.bool (mV da.toNat ds.toNat 27),.int .u32 (↑(mA 1 (IntKind.u32.wrap t).toNat 96):Int),.int .u8 (↑(mE 1 (IntKind.u32.wrap t).toNat 96):Int),.int .u16 (↑(mB 1 (IntKind.u32.wrap t).toNat 96):Int),.int .u16 (↑(mT 1 (IntKind.u32.wrap t).toNat 96):Int),.int .u16 (↑(mP 1 (IntKind.u32.wrap t).toNat 96):Int),.int .u16 0,.int .u32 0,.bool (mV 1 (IntKind.u32.wrap t).toNat 96),.int .u32 0,.int .u8 0,.int .u16 0,.int .u16 0,.int .u16 0,.int .u16 0,.int .u32 0,.bool false,.int .u32 0,.int .u8 0,.int .u16 0,.int .u16 0,.int .u16 0,.int .u16 0,.int .u32 0,.bool false,.int .u32 0,.int .u8 0,.int .u16 0,.int .u16 0,.int .u16 0,.int .u16 0,.int .u32 0,.bool false,.int .u32 0,.int .u8 0,.int .u16 0,.int .u16 0,.int .u16 0,.int .u16 0,.int .u32 0,.bool false,.int .u32 0,.int .u8 0,.int .u16 0,.int .u16 0,.int .u16 0,.int .u16 0,.int .u32 0,.bool false,.int .u32 0,.int .u8 0,.int .u16 0,.int .u16 0,.int .u16 0,.int .u16 0,.int .u32 0,.bool false,.int .u32 0,.int .u8 0,.int .u16 0,.int .u16 0,.int .u16 0,.int .u16 0,.int .u32 0,.bool false,.int .u32 0,.int .u8 0,.int .u16 0,.int .u16 0,.int .u16 0,.int .u16 0,.int .u32 0,.bool false,.int .u32 0,.int .u8 0,.int .u16 0,.int .u16 0,.int .u16 0,.int .u16 0,.int .u32 0,.bool false,.int .u32 0,.int .u8 0,.int .u16 0,.int .u16 0,.int .u16 0,.int .u16 0,.int .u32 0,.bool false,.int .u32 0,.int .u8 0,.int .u16 0,.int .u16 0,.int .u16 0,.int .u16 0,.int .u32 0,.bool false,.int .u32 (↑(mA (IntKind.u32.wrap (sa+IntKind.u32.wrap (IntKind.u32.wrap k * IntKind.u32.wrap s))).toNat (IntKind.u32.wrap s).toNat 27):Int),.int .u8 (↑(mE (IntKind.u32.wrap (sa+IntKind.u32.wrap (IntKind.u32.wrap k * IntKind.u32.wrap s))).toNat (IntKind.u32.wrap s).toNat 27):Int),.int .u16 (↑(mB (IntKind.u32.wrap (sa+IntKind.u32.wrap (IntKind.u32.wrap k * IntKind.u32.wrap s))).toNat (IntKind.u32.wrap s).toNat 27):Int),.int .u16 (↑(mT (IntKind.u32.wrap (sa+IntKind.u32.wrap (IntKind.u32.wrap k * IntKind.u32.wrap s))).toNat (IntKind.u32.wrap s).toNat 27):Int),.int .u16 (↑(mP (IntKind.u32.wrap (sa+IntKind.u32.wrap (IntKind.u32.wrap k * IntKind.u32.wrap s))).toNat (IntKind.u32.wrap s).toNat 27):Int),.int .u16 0,.int .u32 0,.bool (mV (IntKind.u32.wrap (sa+IntKind.u32.wrap (IntKind.u32.wrap k * IntKind.u32.wrap s))).toNat (IntKind.u32.wrap s).toNat 27),.int .u32 0,.int .u8 0,.int .u16 0,.int .u16 0,.int .u16 0,.int .u16 0,.int .u32 0,.bool false,.int .u32 (IntKind.u32.wrap ((4:Int) * intOf' (getD' undef (u32s so) (0+k.toNat * 1)))),.int .u8 (↑(mE 0 c.toNat 5)),.int .u16 (↑(mB 0 c.toNat 5)),.int .u16 (↑(mT 0 c.toNat 5)),.int .u16 (↑(mP 0 c.toNat 5)),.int .u16 0,.int .u32 0,.bool (adV (↑(mA 0 c.toNat 5):Int).toNat (↑(mE 0 c.toNat 5):Int).toNat (↑(mB 0 c.toNat 5):Int).toNat (↑(mT 0 c.toNat 5):Int).toNat 0 (mV 0 c.toNat 5) (IntKind.u32.wrap ((4:Int) * intOf' (getD' undef (u32s so) (0+k.toNat * 1)))).toNat)]⟩,(((((((((((((((((((((((bif hasN (0+k.toNat * 1+1) (u32s so) && isLikeL [Value.int .u32 0] (u32s so) (0+k.toNat * 1) then bif decide ((0:Int) ≤ k) && decide (k < (↑ns:Int)) then True else False else False)∧tt)∧tt)∧rr false)∧((0:Int) ≤ (0:Int)∧(0:Int) < (4294967296:Int)∧(0:Int) ≤ c∧c < (4294967296:Int)∧(0:Int) ≤ (5:Int))∧(rr (Value.agg ⟨[.int .u32 0,.int .u32 c]⟩)∧rr (Value.int .u16 5)∧True)∧True∧True)∧((0:Int) ≤ (↑(mA 0 c.toNat 5):Int)∧(↑(mA 0 c.toNat 5):Int) < (4294967296:Int)∧(0:Int) ≤ (↑(mE 0 c.toNat 5):Int)∧(↑(mE 0 c.toNat 5):Int) < (256:Int)∧(0:Int) ≤ (↑(mB 0 c.toNat 5):Int)∧(↑(mB 0 c.toNat 5):Int) < (65536:Int)∧(0:Int) ≤ (↑(mT 0 c.toNat 5):Int)∧(↑(mT 0 c.toNat 5):Int) < (65536:Int)∧(0:Int) ≤ (↑(mP 0 c.toNat 5):Int)∧(↑(mP 0 c.toNat 5):Int) < (65536:Int)∧(0:Int) ≤ (0:Int)∧(0:Int) < (65536:Int)∧(0:Int) ≤ (0:Int)∧(0:Int) < (4294967296:Int)∧(0:Int) ≤ IntKind.u32.wrap ((4:Int) * intOf' (getD' undef (u32s so) (0+k.toNat * 1)))∧IntKind.u32.wrap ((4:Int) * intOf' (getD' undef (u32s so) (0+k.toNat * 1))) < (4294967296:Int))∧(rr (Value.agg ⟨[.int .u32 (↑(mA 0 c.toNat 5)),.int .u8 (↑(mE 0 c.toNat 5)),.int .u16 (↑(mB 0 c.toNat 5)),.int .u16 (↑(mT 0 c.toNat 5)),.int .u16 (↑(mP 0 c.toNat 5)),.int .u16 0,.int .u32 0,.bool (mV 0 c.toNat 5)]⟩)∧rr (Value.int .u32 (IntKind.u32.wrap ((4:Int) * intOf' (getD' undef (u32s so) (0+k.toNat * 1)))))∧True)∧True∧True)∧decide (ds > (0:Int)) = true)∧tt)∧tt)∧tt)∧tt)∧rr false)∧((0:Int) ≤ da∧da < (4294967296:Int)∧(0:Int) ≤ ds∧ds < (4294967296:Int)∧(0:Int) ≤ (27:Int))∧(rr (Value.agg ⟨[.int .u32 da,.int .u32 ds]⟩)∧rr (Value.int .u16 27)∧True)∧True∧True)∧decide (t > (0:Int)) = true)∧tt)∧tt)∧rr false)∧((0:Int) ≤ (1:Int)∧(1:Int) < (4294967296:Int)∧(0:Int) ≤ IntKind.u32.wrap t∧IntKind.u32.wrap t < (4294967296:Int)∧(0:Int) ≤ (96:Int))∧(rr (Value.agg ⟨[.int .u32 1,.int .u32 (IntKind.u32.wrap t)]⟩)∧rr (Value.int .u16 96)∧True)∧True∧True)∧tt)∧tt)∧tt)∧tt)∧rr false)∧((0:Int) ≤ IntKind.u32.wrap (sa+IntKind.u32.wrap (IntKind.u32.wrap k * IntKind.u32.wrap s))∧IntKind.u32.wrap (sa+IntKind.u32.wrap (IntKind.u32.wrap k * IntKind.u32.wrap s)) < (4294967296:Int)∧(0:Int) ≤ IntKind.u32.wrap s∧IntKind.u32.wrap s < (4294967296:Int)∧(0:Int) ≤ (27:Int))∧(rr (Value.agg ⟨[.int .u32 (IntKind.u32.wrap (sa+IntKind.u32.wrap (IntKind.u32.wrap k * IntKind.u32.wrap s))),.int .u32 (IntKind.u32.wrap s)]⟩)∧rr (Value.int .u16 27)∧True)∧True∧True):=by kernel_rfl
theorem fq_10 (p s t : Int) (nc ns : Nat) (d : List UInt8) (a2 : Option Addr) (n2 c2 : Nat) (c da ds sa ss ha hs : Int) (so : List Nat) (k : Int) : obs (evF Try.prog (baseC 3 selMk) noLoop 100 20 40 [Value.agg { toList:=plQ p s t nc ns d a2 n2 c2 c da ds sa ss ha hs },.int .i64 k] ⟨67,soH so,[],0,[(0,true),(1,true),(2,false),(3,true),(4,true),(5,true),(6,true),(7,true),(8,false),(9,false),(10,true),(11,true),(12,true),(13,true),(14,false)],0,True⟩) = some (Value.agg ⟨[.int .u32 0,.int .u8 0,.int .u16 0,.int .u16 0,.int .u16 0,.int .u16 0,.int .u32 0,.bool false,.int .u32 (↑(mA da.toNat ds.toNat 27)),.int .u8 (↑(mE da.toNat ds.toNat 27)),.int .u16 (↑(mB da.toNat ds.toNat 27)),.int .u16 (↑(mT da.toNat ds.toNat 27)),.int .u16 (↑(mP da.toNat ds.toNat 27)),.int .u16 0,.int .u32 0,.bool (mV da.toNat ds.toNat 27),.int .u32 0,.int .u8 0,.int .u16 0,.int .u16 0,.int .u16 0,.int .u16 0,.int .u32 0,.bool false,.int .u32 0,.int .u8 0,.int .u16 0,.int .u16 0,.int .u16 0,.int .u16 0,.int .u32 0,.bool false,.int .u32 0,.int .u8 0,.int .u16 0,.int .u16 0,.int .u16 0,.int .u16 0,.int .u32 0,.bool false,.int .u32 0,.int .u8 0,.int .u16 0,.int .u16 0,.int .u16 0,.int .u16 0,.int .u32 0,.bool false,.int .u32 0,.int .u8 0,.int .u16 0,.int .u16 0,.int .u16 0,.int .u16 0,.int .u32 0,.bool false,.int .u32 0,.int .u8 0,.int .u16 0,.int .u16 0,.int .u16 0,.int .u16 0,.int .u32 0,.bool false,.int .u32 0,.int .u8 0,.int .u16 0,.int .u16 0,.int .u16 0,.int .u16 0,.int .u32 0,.bool false,.int .u32 0,.int .u8 0,.int .u16 0,.int .u16 0,.int .u16 0,.int .u16 0,.int .u32 0,.bool false,.int .u32 0,.int .u8 0,.int .u16 0,.int .u16 0,.int .u16 0,.int .u16 0,.int .u32 0,.bool false,.int .u32 0,.int .u8 0,.int .u16 0,.int .u16 0,.int .u16 0,.int .u16 0,.int .u32 0,.bool false,.int .u32 0,.int .u8 0,.int .u16 0,.int .u16 0,.int .u16 0,.int .u16 0,.int .u32 0,.bool false,.int .u32 0,.int .u8 0,.int .u16 0,.int .u16 0,.int .u16 0,.int .u16 0,.int .u32 0,.bool false,.int .u32 (↑(mA (IntKind.u32.wrap (sa+IntKind.u32.wrap (IntKind.u32.wrap k * IntKind.u32.wrap s))).toNat (IntKind.u32.wrap s).toNat 27):Int),.int .u8 (↑(mE (IntKind.u32.wrap (sa+IntKind.u32.wrap (IntKind.u32.wrap k * IntKind.u32.wrap s))).toNat (IntKind.u32.wrap s).toNat 27):Int),.int .u16 (↑(mB (IntKind.u32.wrap (sa+IntKind.u32.wrap (IntKind.u32.wrap k * IntKind.u32.wrap s))).toNat (IntKind.u32.wrap s).toNat 27):Int),.int .u16 (↑(mT (IntKind.u32.wrap (sa+IntKind.u32.wrap (IntKind.u32.wrap k * IntKind.u32.wrap s))).toNat (IntKind.u32.wrap s).toNat 27):Int),.int .u16 (↑(mP (IntKind.u32.wrap (sa+IntKind.u32.wrap (IntKind.u32.wrap k * IntKind.u32.wrap s))).toNat (IntKind.u32.wrap s).toNat 27):Int),.int .u16 0,.int .u32 0,.bool (mV (IntKind.u32.wrap (sa+IntKind.u32.wrap (IntKind.u32.wrap k * IntKind.u32.wrap s))).toNat (IntKind.u32.wrap s).toNat 27),.int .u32 0,.int .u8 0,.int .u16 0,.int .u16 0,.int .u16 0,.int .u16 0,.int .u32 0,.bool false,.int .u32 (IntKind.u32.wrap ((4:Int) * intOf' (getD' undef (u32s so) (0+k.toNat * 1)))),.int .u8 (↑(mE 0 c.toNat 5)),.int .u16 (↑(mB 0 c.toNat 5)),.int .u16 (↑(mT 0 c.toNat 5)),.int .u16 (↑(mP 0 c.toNat 5)),.int .u16 0,.int .u32 0,.bool (adV (↑(mA 0 c.toNat 5):Int).toNat (↑(mE 0 c.toNat 5):Int).toNat (↑(mB 0 c.toNat 5):Int).toNat (↑(mT 0 c.toNat 5):Int).toNat 0 (mV 0 c.toNat 5) (IntKind.u32.wrap ((4:Int) * intOf' (getD' undef (u32s so) (0+k.toNat * 1)))).toNat)]⟩,(((((((((((((((((((bif hasN (0+k.toNat * 1+1) (u32s so) && isLikeL [Value.int .u32 0] (u32s so) (0+k.toNat * 1) then bif decide ((0:Int) ≤ k) && decide (k < (↑ns:Int)) then True else False else False)∧tt)∧tt)∧rr false)∧((0:Int) ≤ (0:Int)∧(0:Int) < (4294967296:Int)∧(0:Int) ≤ c∧c < (4294967296:Int)∧(0:Int) ≤ (5:Int))∧(rr (Value.agg ⟨[.int .u32 0,.int .u32 c]⟩)∧rr (Value.int .u16 5)∧True)∧True∧True)∧((0:Int) ≤ (↑(mA 0 c.toNat 5):Int)∧(↑(mA 0 c.toNat 5):Int) < (4294967296:Int)∧(0:Int) ≤ (↑(mE 0 c.toNat 5):Int)∧(↑(mE 0 c.toNat 5):Int) < (256:Int)∧(0:Int) ≤ (↑(mB 0 c.toNat 5):Int)∧(↑(mB 0 c.toNat 5):Int) < (65536:Int)∧(0:Int) ≤ (↑(mT 0 c.toNat 5):Int)∧(↑(mT 0 c.toNat 5):Int) < (65536:Int)∧(0:Int) ≤ (↑(mP 0 c.toNat 5):Int)∧(↑(mP 0 c.toNat 5):Int) < (65536:Int)∧(0:Int) ≤ (0:Int)∧(0:Int) < (65536:Int)∧(0:Int) ≤ (0:Int)∧(0:Int) < (4294967296:Int)∧(0:Int) ≤ IntKind.u32.wrap ((4:Int) * intOf' (getD' undef (u32s so) (0+k.toNat * 1)))∧IntKind.u32.wrap ((4:Int) * intOf' (getD' undef (u32s so) (0+k.toNat * 1))) < (4294967296:Int))∧(rr (Value.agg ⟨[.int .u32 (↑(mA 0 c.toNat 5)),.int .u8 (↑(mE 0 c.toNat 5)),.int .u16 (↑(mB 0 c.toNat 5)),.int .u16 (↑(mT 0 c.toNat 5)),.int .u16 (↑(mP 0 c.toNat 5)),.int .u16 0,.int .u32 0,.bool (mV 0 c.toNat 5)]⟩)∧rr (Value.int .u32 (IntKind.u32.wrap ((4:Int) * intOf' (getD' undef (u32s so) (0+k.toNat * 1)))))∧True)∧True∧True)∧decide (ds > (0:Int)) = true)∧tt)∧tt)∧tt)∧tt)∧rr false)∧((0:Int) ≤ da∧da < (4294967296:Int)∧(0:Int) ≤ ds∧ds < (4294967296:Int)∧(0:Int) ≤ (27:Int))∧(rr (Value.agg ⟨[.int .u32 da,.int .u32 ds]⟩)∧rr (Value.int .u16 27)∧True)∧True∧True)∧decide (t > (0:Int)) = false)∧tt)∧tt)∧tt)∧tt)∧rr false)∧((0:Int) ≤ IntKind.u32.wrap (sa+IntKind.u32.wrap (IntKind.u32.wrap k * IntKind.u32.wrap s))∧IntKind.u32.wrap (sa+IntKind.u32.wrap (IntKind.u32.wrap k * IntKind.u32.wrap s)) < (4294967296:Int)∧(0:Int) ≤ IntKind.u32.wrap s∧IntKind.u32.wrap s < (4294967296:Int)∧(0:Int) ≤ (27:Int))∧(rr (Value.agg ⟨[.int .u32 (IntKind.u32.wrap (sa+IntKind.u32.wrap (IntKind.u32.wrap k * IntKind.u32.wrap s))),.int .u32 (IntKind.u32.wrap s)]⟩)∧rr (Value.int .u16 27)∧True)∧True∧True):=by kernel_rfl
theorem fq_01 (p s t : Int) (nc ns : Nat) (d : List UInt8) (a2 : Option Addr) (n2 c2 : Nat) (c da ds sa ss ha hs : Int) (so : List Nat) (k : Int) : obs (evF Try.prog (baseC 3 selMk) noLoop 100 20 40 [Value.agg { toList:=plQ p s t nc ns d a2 n2 c2 c da ds sa ss ha hs },.int .i64 k] ⟨67,soH so,[],0,[(0,true),(1,true),(2,false),(3,false),(4,true),(5,true),(6,true),(7,false),(8,true),(9,true),(10,true),(11,true),(12,false)],0,True⟩) = some (Value.agg ⟨[.int .u32 0,.int .u8 0,.int .u16 0,.int .u16 0,.int .u16 0,.int .u16 0,.int .u32 0,.bool false,.int .u32 0,.int .u8 0,.int .u16 0,.int .u16 0,.int .u16 0,.int .u16 0,.int .u32 0,.bool false,.int .u32 (↑(mA 1 (IntKind.u32.wrap t).toNat 96):Int),.int .u8 (↑(mE 1 (IntKind.u32.wrap t).toNat 96):Int),.int .u16 (↑(mB 1 (IntKind.u32.wrap t).toNat 96):Int),.int .u16 (↑(mT 1 (IntKind.u32.wrap t).toNat 96):Int),.int .u16 (↑(mP 1 (IntKind.u32.wrap t).toNat 96):Int),.int .u16 0,.int .u32 0,.bool (mV 1 (IntKind.u32.wrap t).toNat 96),.int .u32 0,.int .u8 0,.int .u16 0,.int .u16 0,.int .u16 0,.int .u16 0,.int .u32 0,.bool false,.int .u32 0,.int .u8 0,.int .u16 0,.int .u16 0,.int .u16 0,.int .u16 0,.int .u32 0,.bool false,.int .u32 0,.int .u8 0,.int .u16 0,.int .u16 0,.int .u16 0,.int .u16 0,.int .u32 0,.bool false,.int .u32 0,.int .u8 0,.int .u16 0,.int .u16 0,.int .u16 0,.int .u16 0,.int .u32 0,.bool false,.int .u32 0,.int .u8 0,.int .u16 0,.int .u16 0,.int .u16 0,.int .u16 0,.int .u32 0,.bool false,.int .u32 0,.int .u8 0,.int .u16 0,.int .u16 0,.int .u16 0,.int .u16 0,.int .u32 0,.bool false,.int .u32 0,.int .u8 0,.int .u16 0,.int .u16 0,.int .u16 0,.int .u16 0,.int .u32 0,.bool false,.int .u32 0,.int .u8 0,.int .u16 0,.int .u16 0,.int .u16 0,.int .u16 0,.int .u32 0,.bool false,.int .u32 0,.int .u8 0,.int .u16 0,.int .u16 0,.int .u16 0,.int .u16 0,.int .u32 0,.bool false,.int .u32 0,.int .u8 0,.int .u16 0,.int .u16 0,.int .u16 0,.int .u16 0,.int .u32 0,.bool false,.int .u32 0,.int .u8 0,.int .u16 0,.int .u16 0,.int .u16 0,.int .u16 0,.int .u32 0,.bool false,.int .u32 (↑(mA (IntKind.u32.wrap (sa+IntKind.u32.wrap (IntKind.u32.wrap k * IntKind.u32.wrap s))).toNat (IntKind.u32.wrap s).toNat 27):Int),.int .u8 (↑(mE (IntKind.u32.wrap (sa+IntKind.u32.wrap (IntKind.u32.wrap k * IntKind.u32.wrap s))).toNat (IntKind.u32.wrap s).toNat 27):Int),.int .u16 (↑(mB (IntKind.u32.wrap (sa+IntKind.u32.wrap (IntKind.u32.wrap k * IntKind.u32.wrap s))).toNat (IntKind.u32.wrap s).toNat 27):Int),.int .u16 (↑(mT (IntKind.u32.wrap (sa+IntKind.u32.wrap (IntKind.u32.wrap k * IntKind.u32.wrap s))).toNat (IntKind.u32.wrap s).toNat 27):Int),.int .u16 (↑(mP (IntKind.u32.wrap (sa+IntKind.u32.wrap (IntKind.u32.wrap k * IntKind.u32.wrap s))).toNat (IntKind.u32.wrap s).toNat 27):Int),.int .u16 0,.int .u32 0,.bool (mV (IntKind.u32.wrap (sa+IntKind.u32.wrap (IntKind.u32.wrap k * IntKind.u32.wrap s))).toNat (IntKind.u32.wrap s).toNat 27),.int .u32 0,.int .u8 0,.int .u16 0,.int .u16 0,.int .u16 0,.int .u16 0,.int .u32 0,.bool false,.int .u32 (IntKind.u32.wrap ((4:Int) * intOf' (getD' undef (u32s so) (0+k.toNat * 1)))),.int .u8 (↑(mE 0 c.toNat 5)),.int .u16 (↑(mB 0 c.toNat 5)),.int .u16 (↑(mT 0 c.toNat 5)),.int .u16 (↑(mP 0 c.toNat 5)),.int .u16 0,.int .u32 0,.bool (adV (↑(mA 0 c.toNat 5):Int).toNat (↑(mE 0 c.toNat 5):Int).toNat (↑(mB 0 c.toNat 5):Int).toNat (↑(mT 0 c.toNat 5):Int).toNat 0 (mV 0 c.toNat 5) (IntKind.u32.wrap ((4:Int) * intOf' (getD' undef (u32s so) (0+k.toNat * 1)))).toNat)]⟩,(((((((((((((((((bif hasN (0+k.toNat * 1+1) (u32s so) && isLikeL [Value.int .u32 0] (u32s so) (0+k.toNat * 1) then bif decide ((0:Int) ≤ k) && decide (k < (↑ns:Int)) then True else False else False)∧tt)∧tt)∧rr false)∧((0:Int) ≤ (0:Int)∧(0:Int) < (4294967296:Int)∧(0:Int) ≤ c∧c < (4294967296:Int)∧(0:Int) ≤ (5:Int))∧(rr (Value.agg ⟨[.int .u32 0,.int .u32 c]⟩)∧rr (Value.int .u16 5)∧True)∧True∧True)∧((0:Int) ≤ (↑(mA 0 c.toNat 5):Int)∧(↑(mA 0 c.toNat 5):Int) < (4294967296:Int)∧(0:Int) ≤ (↑(mE 0 c.toNat 5):Int)∧(↑(mE 0 c.toNat 5):Int) < (256:Int)∧(0:Int) ≤ (↑(mB 0 c.toNat 5):Int)∧(↑(mB 0 c.toNat 5):Int) < (65536:Int)∧(0:Int) ≤ (↑(mT 0 c.toNat 5):Int)∧(↑(mT 0 c.toNat 5):Int) < (65536:Int)∧(0:Int) ≤ (↑(mP 0 c.toNat 5):Int)∧(↑(mP 0 c.toNat 5):Int) < (65536:Int)∧(0:Int) ≤ (0:Int)∧(0:Int) < (65536:Int)∧(0:Int) ≤ (0:Int)∧(0:Int) < (4294967296:Int)∧(0:Int) ≤ IntKind.u32.wrap ((4:Int) * intOf' (getD' undef (u32s so) (0+k.toNat * 1)))∧IntKind.u32.wrap ((4:Int) * intOf' (getD' undef (u32s so) (0+k.toNat * 1))) < (4294967296:Int))∧(rr (Value.agg ⟨[.int .u32 (↑(mA 0 c.toNat 5)),.int .u8 (↑(mE 0 c.toNat 5)),.int .u16 (↑(mB 0 c.toNat 5)),.int .u16 (↑(mT 0 c.toNat 5)),.int .u16 (↑(mP 0 c.toNat 5)),.int .u16 0,.int .u32 0,.bool (mV 0 c.toNat 5)]⟩)∧rr (Value.int .u32 (IntKind.u32.wrap ((4:Int) * intOf' (getD' undef (u32s so) (0+k.toNat * 1)))))∧True)∧True∧True)∧decide (ds > (0:Int)) = false)∧decide (t > (0:Int)) = true)∧tt)∧tt)∧rr false)∧((0:Int) ≤ (1:Int)∧(1:Int) < (4294967296:Int)∧(0:Int) ≤ IntKind.u32.wrap t∧IntKind.u32.wrap t < (4294967296:Int)∧(0:Int) ≤ (96:Int))∧(rr (Value.agg ⟨[.int .u32 1,.int .u32 (IntKind.u32.wrap t)]⟩)∧rr (Value.int .u16 96)∧True)∧True∧True)∧tt)∧tt)∧tt)∧tt)∧rr false)∧((0:Int) ≤ IntKind.u32.wrap (sa+IntKind.u32.wrap (IntKind.u32.wrap k * IntKind.u32.wrap s))∧IntKind.u32.wrap (sa+IntKind.u32.wrap (IntKind.u32.wrap k * IntKind.u32.wrap s)) < (4294967296:Int)∧(0:Int) ≤ IntKind.u32.wrap s∧IntKind.u32.wrap s < (4294967296:Int)∧(0:Int) ≤ (27:Int))∧(rr (Value.agg ⟨[.int .u32 (IntKind.u32.wrap (sa+IntKind.u32.wrap (IntKind.u32.wrap k * IntKind.u32.wrap s))),.int .u32 (IntKind.u32.wrap s)]⟩)∧rr (Value.int .u16 27)∧True)∧True∧True):=by kernel_rfl
theorem fq_00 (p s t : Int) (nc ns : Nat) (d : List UInt8) (a2 : Option Addr) (n2 c2 : Nat) (c da ds sa ss ha hs : Int) (so : List Nat) (k : Int) : obs (evF Try.prog (baseC 3 selMk) noLoop 100 20 40 [Value.agg { toList:=plQ p s t nc ns d a2 n2 c2 c da ds sa ss ha hs },.int .i64 k] ⟨67,soH so,[],0,[(0,true),(1,true),(2,false),(3,false),(4,false),(5,true),(6,true),(7,true),(8,true),(9,false)],0,True⟩) = some (Value.agg ⟨[.int .u32 0,.int .u8 0,.int .u16 0,.int .u16 0,.int .u16 0,.int .u16 0,.int .u32 0,.bool false,.int .u32 0,.int .u8 0,.int .u16 0,.int .u16 0,.int .u16 0,.int .u16 0,.int .u32 0,.bool false,.int .u32 0,.int .u8 0,.int .u16 0,.int .u16 0,.int .u16 0,.int .u16 0,.int .u32 0,.bool false,.int .u32 0,.int .u8 0,.int .u16 0,.int .u16 0,.int .u16 0,.int .u16 0,.int .u32 0,.bool false,.int .u32 0,.int .u8 0,.int .u16 0,.int .u16 0,.int .u16 0,.int .u16 0,.int .u32 0,.bool false,.int .u32 0,.int .u8 0,.int .u16 0,.int .u16 0,.int .u16 0,.int .u16 0,.int .u32 0,.bool false,.int .u32 0,.int .u8 0,.int .u16 0,.int .u16 0,.int .u16 0,.int .u16 0,.int .u32 0,.bool false,.int .u32 0,.int .u8 0,.int .u16 0,.int .u16 0,.int .u16 0,.int .u16 0,.int .u32 0,.bool false,.int .u32 0,.int .u8 0,.int .u16 0,.int .u16 0,.int .u16 0,.int .u16 0,.int .u32 0,.bool false,.int .u32 0,.int .u8 0,.int .u16 0,.int .u16 0,.int .u16 0,.int .u16 0,.int .u32 0,.bool false,.int .u32 0,.int .u8 0,.int .u16 0,.int .u16 0,.int .u16 0,.int .u16 0,.int .u32 0,.bool false,.int .u32 0,.int .u8 0,.int .u16 0,.int .u16 0,.int .u16 0,.int .u16 0,.int .u32 0,.bool false,.int .u32 0,.int .u8 0,.int .u16 0,.int .u16 0,.int .u16 0,.int .u16 0,.int .u32 0,.bool false,.int .u32 0,.int .u8 0,.int .u16 0,.int .u16 0,.int .u16 0,.int .u16 0,.int .u32 0,.bool false,.int .u32 (↑(mA (IntKind.u32.wrap (sa+IntKind.u32.wrap (IntKind.u32.wrap k * IntKind.u32.wrap s))).toNat (IntKind.u32.wrap s).toNat 27):Int),.int .u8 (↑(mE (IntKind.u32.wrap (sa+IntKind.u32.wrap (IntKind.u32.wrap k * IntKind.u32.wrap s))).toNat (IntKind.u32.wrap s).toNat 27):Int),.int .u16 (↑(mB (IntKind.u32.wrap (sa+IntKind.u32.wrap (IntKind.u32.wrap k * IntKind.u32.wrap s))).toNat (IntKind.u32.wrap s).toNat 27):Int),.int .u16 (↑(mT (IntKind.u32.wrap (sa+IntKind.u32.wrap (IntKind.u32.wrap k * IntKind.u32.wrap s))).toNat (IntKind.u32.wrap s).toNat 27):Int),.int .u16 (↑(mP (IntKind.u32.wrap (sa+IntKind.u32.wrap (IntKind.u32.wrap k * IntKind.u32.wrap s))).toNat (IntKind.u32.wrap s).toNat 27):Int),.int .u16 0,.int .u32 0,.bool (mV (IntKind.u32.wrap (sa+IntKind.u32.wrap (IntKind.u32.wrap k * IntKind.u32.wrap s))).toNat (IntKind.u32.wrap s).toNat 27),.int .u32 0,.int .u8 0,.int .u16 0,.int .u16 0,.int .u16 0,.int .u16 0,.int .u32 0,.bool false,.int .u32 (IntKind.u32.wrap ((4:Int) * intOf' (getD' undef (u32s so) (0+k.toNat * 1)))),.int .u8 (↑(mE 0 c.toNat 5)),.int .u16 (↑(mB 0 c.toNat 5)),.int .u16 (↑(mT 0 c.toNat 5)),.int .u16 (↑(mP 0 c.toNat 5)),.int .u16 0,.int .u32 0,.bool (adV (↑(mA 0 c.toNat 5):Int).toNat (↑(mE 0 c.toNat 5):Int).toNat (↑(mB 0 c.toNat 5):Int).toNat (↑(mT 0 c.toNat 5):Int).toNat 0 (mV 0 c.toNat 5) (IntKind.u32.wrap ((4:Int) * intOf' (getD' undef (u32s so) (0+k.toNat * 1)))).toNat)]⟩,(((((((((((((bif hasN (0+k.toNat * 1+1) (u32s so) && isLikeL [Value.int .u32 0] (u32s so) (0+k.toNat * 1) then bif decide ((0:Int) ≤ k) && decide (k < (↑ns:Int)) then True else False else False)∧tt)∧tt)∧rr false)∧((0:Int) ≤ (0:Int)∧(0:Int) < (4294967296:Int)∧(0:Int) ≤ c∧c < (4294967296:Int)∧(0:Int) ≤ (5:Int))∧(rr (Value.agg ⟨[.int .u32 0,.int .u32 c]⟩)∧rr (Value.int .u16 5)∧True)∧True∧True)∧((0:Int) ≤ (↑(mA 0 c.toNat 5):Int)∧(↑(mA 0 c.toNat 5):Int) < (4294967296:Int)∧(0:Int) ≤ (↑(mE 0 c.toNat 5):Int)∧(↑(mE 0 c.toNat 5):Int) < (256:Int)∧(0:Int) ≤ (↑(mB 0 c.toNat 5):Int)∧(↑(mB 0 c.toNat 5):Int) < (65536:Int)∧(0:Int) ≤ (↑(mT 0 c.toNat 5):Int)∧(↑(mT 0 c.toNat 5):Int) < (65536:Int)∧(0:Int) ≤ (↑(mP 0 c.toNat 5):Int)∧(↑(mP 0 c.toNat 5):Int) < (65536:Int)∧(0:Int) ≤ (0:Int)∧(0:Int) < (65536:Int)∧(0:Int) ≤ (0:Int)∧(0:Int) < (4294967296:Int)∧(0:Int) ≤ IntKind.u32.wrap ((4:Int) * intOf' (getD' undef (u32s so) (0+k.toNat * 1)))∧IntKind.u32.wrap ((4:Int) * intOf' (getD' undef (u32s so) (0+k.toNat * 1))) < (4294967296:Int))∧(rr (Value.agg ⟨[.int .u32 (↑(mA 0 c.toNat 5)),.int .u8 (↑(mE 0 c.toNat 5)),.int .u16 (↑(mB 0 c.toNat 5)),.int .u16 (↑(mT 0 c.toNat 5)),.int .u16 (↑(mP 0 c.toNat 5)),.int .u16 0,.int .u32 0,.bool (mV 0 c.toNat 5)]⟩)∧rr (Value.int .u32 (IntKind.u32.wrap ((4:Int) * intOf' (getD' undef (u32s so) (0+k.toNat * 1)))))∧True)∧True∧True)∧decide (ds > (0:Int)) = false)∧decide (t > (0:Int)) = false)∧tt)∧tt)∧tt)∧tt)∧rr false)∧((0:Int) ≤ IntKind.u32.wrap (sa+IntKind.u32.wrap (IntKind.u32.wrap k * IntKind.u32.wrap s))∧IntKind.u32.wrap (sa+IntKind.u32.wrap (IntKind.u32.wrap k * IntKind.u32.wrap s)) < (4294967296:Int)∧(0:Int) ≤ IntKind.u32.wrap s∧IntKind.u32.wrap s < (4294967296:Int)∧(0:Int) ≤ (27:Int))∧(rr (Value.agg ⟨[.int .u32 (IntKind.u32.wrap (sa+IntKind.u32.wrap (IntKind.u32.wrap k * IntKind.u32.wrap s))),.int .u32 (IntKind.u32.wrap s)]⟩)∧rr (Value.int .u16 27)∧True)∧True∧True):=by kernel_rfl
end Go.Proofs.Ytliidiceljdgmaa
namespace Go.Proofs.Ytliidiceljdgmaa
open Go.RowKit
open Sy
def codeZ (cs : List Nat) : Nat → List UInt8 → List UInt8
 | 0,zs => zs
 | k + 1,zs => patA (4 * k) (leW 4 (cs.getD k 0)) (codeZ cs k zs)
theorem codeZ_len (cs : List Nat) (zs : List UInt8) : ∀ k,4 * k ≤ zs.length → (codeZ cs k zs).length = zs.length
 | 0,_ => rfl
 | k + 1,h => by
  have ih:=codeZ_len cs zs k (by omega)
  unfold codeZ
  rw [patA_len _ _ _ (by rw [leW_len,ih]; omega),ih]
theorem read_pat (i : Nat) (bs zs : List UInt8) (h : i + bs.length ≤ zs.length) : ((patA i bs zs).drop i).take bs.length = bs:=by
 unfold patA
 rw [List.append_assoc,List.drop_append_of_le_length (by simp; omega)]
 have : (zs.take i).length = i:=by simp; omega
 rw [show List.drop i (zs.take i) = [] from by rw [List.drop_eq_nil_of_le (by omega)],List.nil_append,List.take_append_of_le_length (Nat.le_refl _),List.take_of_length_le (Nat.le_refl _)]
end Go.Proofs.Ytliidiceljdgmaa
namespace Go.Proofs.Ytliidiceljdgmaa
open Go.RowKit
open Sy
set_option maxRecDepth 100000
def z8 : List Value:=[.int .u32 0,.int .u8 0,.int .u16 0,.int .u16 0,.int .u16 0,.int .u16 0,.int .u32 0,.bool false]
def c8 (a s p : Nat) : List Value:=[.int .u32 (mA a s p : Nat),.int .u8 (mE a s p : Nat),.int .u16 (mB a s p : Nat),.int .u16 (mT a s p : Nat),.int .u16 (mP a s p : Nat),.int .u16 0,.int .u32 0,.bool (mV a s p)]
def pc8 (c to : Nat) : List Value:=[.int .u32 (to : Nat),.int .u8 (mE 0 c 5 : Nat),.int .u16 (mB 0 c 5 : Nat),.int .u16 (mT 0 c 5 : Nat),.int .u16 (mP 0 c 5 : Nat),.int .u16 0,.int .u32 0,.bool (adV (mA 0 c 5) (mE 0 c 5) (mB 0 c 5) (mT 0 c 5) 0 (mV 0 c 5) to)]
def gA (b a s p : Nat) : Nat:=if 0 < b then mA a s p else 0
def gE (b a s p : Nat) : Nat:=if 0 < b then mE a s p else 0
def gB (b a s p : Nat) : Nat:=if 0 < b then mB a s p else 0
def gT (b a s p : Nat) : Nat:=if 0 < b then mT a s p else 0
def gP (b a s p : Nat) : Nat:=if 0 < b then mP a s p else 0
def gV (b a s p : Nat) : Bool:=if 0 < b then mV a s p else false
def g8 (b a s p : Nat) : List Value:=[.int .u32 (gA b a s p : Nat),.int .u8 (gE b a s p : Nat),.int .u16 (gB b a s p : Nat),.int .u16 (gT b a s p : Nat),.int .u16 (gP b a s p : Nat),.int .u16 0,.int .u32 0,.bool (gV b a s p)]
def frC (c da ds sa s t : Nat) (so : List Nat) (k : Nat) : List Value :=
 z8 ++ (g8 ds da ds 27) ++ (g8 t 1 t 96) ++ z8 ++ z8 ++ z8 ++ z8 ++ z8 ++ z8 ++ z8 ++ z8 ++ z8 ++ z8 ++ z8 ++ c8 (sa + k * s) s 27 ++ z8 ++ pc8 c (4 * so.getD k 0)
theorem z8_flat : z8.all flat0 = true:=rfl
theorem c8_flat (a s p : Nat) : (c8 a s p).all flat0 = true:=by simp only [rr, tt, c8,List.all_cons,List.all_nil,flat0,Bool.and_self]
theorem pc8_flat (c to : Nat) : (pc8 c to).all flat0 = true:=by simp only [rr, tt, pc8,List.all_cons,List.all_nil,flat0,Bool.and_self]
theorem g8_flat (b a s p : Nat) : (g8 b a s p).all flat0 = true:=by simp only [rr, tt, g8,List.all_cons,List.all_nil,flat0,Bool.and_self]
theorem g8_pos {b : Nat} (h : 0 < b) (a s p : Nat) : g8 b a s p = c8 a s p:=by
 simp only [rr, tt, g8,c8,gA,gE,gB,gT,gP,gV,if_pos h]
theorem g8_neg {b : Nat} (h : ¬ 0 < b) (a s p : Nat) : g8 b a s p = z8:=by
 simp only [rr, tt, g8,z8,gA,gE,gB,gT,gP,gV,if_neg h]; rfl
theorem frC_flat (c da ds sa s t : Nat) (so : List Nat) (k : Nat) : (frC c da ds sa s t so k).all flat0 = true:=by
 unfold frC
 simp only [rr, tt, List.all_append,z8_flat,c8_flat,g8_flat,pc8_flat,Bool.and_self]
theorem u32s_hasL (xs : List Nat) (n : Nat) : hasN n (u32s xs) = decide (n ≤ xs.length):=u32s_has xs n
theorem soH_ok {q : Nat → Bool} (h : q 66 = true) (so : List Nat) (h0 : q 0 = true) : OkH q (soH so):=⟨⟨h,h0,flat_bnd (u32s_flat so)⟩,trivial⟩
end Go.Proofs.Ytliidiceljdgmaa
namespace Go.Proofs.Ytliidiceljdgmaa
open Go.RowKit
open Sy
set_option maxRecDepth 100000
theorem plQ_ok {q : Nat → Bool} {a2 : Option Addr} {n2 c2 : Nat} (h : okV q 2 (.slice a2 n2 c2) = true) (h4 : q 64 = true) (h6 : q 66 = true) (p s t : Int) (nc ns : Nat) (d : List UInt8) (c da ds sa ss ha hs k : Int) : ([.agg ⟨plQ p s t nc ns d a2 n2 c2 c da ds sa ss ha hs⟩,.int .i64 k] : List Value).all (okV q 3) = true:=by
 show (List.all (plQ p s t nc ns d a2 n2 c2 c da ds sa ss ha hs) (okV q 2) && (okV q 3 (.int .i64 k) && true)) = true
 simp only [rr, tt, plQ,List.all_cons,List.all_nil,h,Bool.and_true,Bool.true_and]
 simp [okV,bndA,h4,h6,flat0,big]
def fqK (p s t nc ns : Nat) (d : List UInt8) (a2 : Option Addr) (n2 c2 : Nat) (c da ds sa ss ha hs : Nat) (so : List Nat) (k : Nat) : Con:=⟨[.agg ⟨plQ (p : Nat) (s : Nat) (t : Nat) nc ns d a2 n2 c2 (c : Nat) (da : Nat) (ds : Nat) (sa : Nat) (ss : Nat) (ha : Nat) (hs : Nat)⟩,.int .i64 (k : Nat)],67,soH so,[],.agg ⟨frC c da ds sa s t so k⟩,67,[],[]⟩
theorem fq_run {p s t nc ns : Nat} {d : List UInt8} {a2 : Option Addr} {n2 c2 : Nat} {c da ds sa ss ha hs : Nat} {so : List Nat} {k : Nat} {T : List (Nat × Bool)} {q : Prop} {v : Value} (hs2 : okV (fun l => Nat.blt l 67) 2 (.slice a2 n2 c2) = true) (hv : v = .agg ⟨frC c da ds sa s t so k⟩)
  (h : obs (evF Try.prog (baseC 3 selMk) noLoop 100 20 40 [.agg ⟨plQ (p : Nat) (s : Nat) (t : Nat) nc ns d a2 n2 c2 (c : Nat) (da : Nat) (ds : Nat) (sa : Nat) (ss : Nat) (ha : Nat) (hs : Nat)⟩,.int .i64 (k : Nat)] ⟨67,soH so,[],0,T,0,True⟩) = some (v,q)) (hq : q) :
  ConOk Try.prog 40 3 (fqK p s t nc ns d a2 n2 c2 c da ds sa ss ha hs so k) ∧ FlatC (fqK p s t nc ns d a2 n2 c2 c da ds sa ss ha hs so k):=by
 subst hv
 unfold obs at h
 obtain ⟨⟨v',s'⟩,h1,h2⟩:=oM h
 simp only [rr, tt, Prod.mk.injEq] at h2
 obtain ⟨rfl,rfl⟩:=h2
 have hr : ∀ p,okV p 3 (.agg ⟨frC c da ds sa s t so k⟩) = true:=fun p => List.all_eq_true.2 fun v hv => okV_flat0 (List.all_eq_true.1 (frC_flat c da ds sa s t so k) v hv) 2
 refine ⟨conOk_run (run_ok (L:=100) ar_names (baseC_ok selMk_ok) (noLoop_ok _) 20) ⟨by show 64 ≤ 67; omega,Nat.le_refl _,soH_ok rfl so rfl,rfl,rfl,rfl,plQ_ok hs2 rfl rfl _ _ _ _ _ _ _ _ _ _ _ _ _ _,hr _,fun x hx => by cases hx⟩ h1 hq (p:=fun l => Nat.blt l 67) (σ:=id) ?_,⟨fun x hx => by cases hx⟩⟩
 exact ⟨fun _ _ => rfl,trivial,rfl,trivial,⟨hr _,by rw [rnV_id]; rfl⟩,rfl,trivial,rfl,okV_bnd 3 _ (hr _),fun x hx => by cases hx⟩
theorem fq_con (p s t nc ns : Nat) (d : List UInt8) (a2 : Option Addr) (n2 c2 : Nat) (c da ds sa ss ha hs : Nat) (so : List Nat) (k : Nat) (hs2 : okV (fun l => Nat.blt l 67) 2 (.slice a2 n2 c2) = true) (hk : k < so.length) (hns : ns = so.length) (hs4 : ns ≤ 4) (hso : so.getD k 0 ≤ 4096) (hc : c < 500000) (hda : da < 500000) (hds : ds < 500000) (hsa : sa < 500000) (hs' : s ≤ 4096) (ht : t ≤ 2048) :
  ConOk Try.prog 40 3 (fqK p s t nc ns d a2 n2 c2 c da ds sa ss ha hs so k) ∧ FlatC (fqK p s t nc ns d a2 n2 c2 c da ds sa ss ha hs so k):=by
 have e1 : intOf' (getD' undef (u32s so) k) = ((so.getD k 0 : Nat) : Int):=u32s_at so k
 have e2 : IntKind.u32.wrap ((4 : Int) * ((so.getD k 0 : Nat) : Int)) = ((4 * so.getD k 0 : Nat) : Int):=by rw [show (4 : Int) * ((so.getD k 0 : Nat) : Int) = ((4 * so.getD k 0 : Nat) : Int) by omega,w32A _ (by omega)]
 have e3 : IntKind.u32.wrap (k : Int) = (k : Int):=w32A k (by omega)
 have e4 : IntKind.u32.wrap (s : Int) = (s : Int):=w32A s (by omega)
 have hks : k * s ≤ 4 * 4096:=Nat.mul_le_mul (by omega) hs'
 have e5 : IntKind.u32.wrap ((k : Int) * (s : Int)) = ((k * s : Nat) : Int):=by rw [show (k : Int) * (s : Int) = ((k * s : Nat) : Int) from (Int.natCast_mul k s).symm,w32A _ (by omega)]
 have e6 : IntKind.u32.wrap ((sa : Int) + ((k * s : Nat) : Int)) = ((sa + k * s : Nat) : Int):=by rw [show (sa : Int) + ((k * s : Nat) : Int) = ((sa + k * s : Nat) : Int) by omega,w32A _ (by omega)]
 have e7 : IntKind.u32.wrap (t : Int) = (t : Int):=w32A t (by omega)
 have b1:=mE_lt 0 c 5
 have b2:=mB_lt 0 c 5
 have b3:=mT_lt 0 c 5
 have b4:=mP_le 0 c 5
 have b5:=mA_le 0 c 5
 have hso' : so.getD k 0 < 4294967296:=by omega
 have hcast : ∀ n : Nat,((n : Nat) : Int).toNat = n:=fun n => Int.toNat_natCast n
 by_cases h1 : 0 < ds <;> by_cases h2 : 0 < t
 ·have hr:=fq_11 (p : Int) (s : Int) (t : Int) nc ns d a2 n2 c2 (c : Int) (da : Int) (ds : Int) (sa : Int) (ss : Int) (ha : Int) (hs : Int) so (k : Int)
  simp only [rr, tt, hcast,Nat.zero_add,Nat.mul_one,e1,e2,e3,e4,e5,e6,e7] at hr
  refine fq_run hs2 ?_ hr ?_
  ·unfold frC; rw [g8_pos h1,g8_pos h2]; simp only [rr, tt, z8,c8,pc8,List.cons_append,List.nil_append]
  ·simp (disch:=omega) only [rr, tt, u32s_hasL,u32s_like,decide_eq_true,decide_eq_false,Bool.and_self,Bool.true_and,Bool.and_true,Bool.not_true,Bool.not_false,cond_true,and_true,true_and,and_self]
   repeat' (with_reducible apply And.intro)
   all_goals omega
 ·have hr:=fq_10 (p : Int) (s : Int) (t : Int) nc ns d a2 n2 c2 (c : Int) (da : Int) (ds : Int) (sa : Int) (ss : Int) (ha : Int) (hs : Int) so (k : Int)
  simp only [rr, tt, hcast,Nat.zero_add,Nat.mul_one,e1,e2,e3,e4,e5,e6,e7] at hr
  refine fq_run hs2 ?_ hr ?_
  ·unfold frC; rw [g8_pos h1,g8_neg h2]; simp only [rr, tt, z8,c8,pc8,List.cons_append,List.nil_append]
  ·simp (disch:=omega) only [rr, tt, u32s_hasL,u32s_like,decide_eq_true,decide_eq_false,Bool.and_self,Bool.true_and,Bool.and_true,Bool.not_true,Bool.not_false,cond_true,and_true,true_and,and_self]
   repeat' (with_reducible apply And.intro)
   all_goals omega
 ·have hr:=fq_01 (p : Int) (s : Int) (t : Int) nc ns d a2 n2 c2 (c : Int) (da : Int) (ds : Int) (sa : Int) (ss : Int) (ha : Int) (hs : Int) so (k : Int)
  simp only [rr, tt, hcast,Nat.zero_add,Nat.mul_one,e1,e2,e3,e4,e5,e6,e7] at hr
  refine fq_run hs2 ?_ hr ?_
  ·unfold frC; rw [g8_neg h1,g8_pos h2]; simp only [rr, tt, z8,c8,pc8,List.cons_append,List.nil_append]
  ·simp (disch:=omega) only [rr, tt, u32s_hasL,u32s_like,decide_eq_true,decide_eq_false,Bool.and_self,Bool.true_and,Bool.and_true,Bool.not_true,Bool.not_false,cond_true,and_true,true_and,and_self]
   repeat' (with_reducible apply And.intro)
   all_goals omega
 ·have hr:=fq_00 (p : Int) (s : Int) (t : Int) nc ns d a2 n2 c2 (c : Int) (da : Int) (ds : Int) (sa : Int) (ss : Int) (ha : Int) (hs : Int) so (k : Int)
  simp only [rr, tt, hcast,Nat.zero_add,Nat.mul_one,e1,e2,e3,e4,e5,e6,e7] at hr
  refine fq_run hs2 ?_ hr ?_
  ·unfold frC; rw [g8_neg h1,g8_neg h2]; simp only [rr, tt, z8,c8,pc8,List.cons_append,List.nil_append]
  ·simp (disch:=omega) only [rr, tt, u32s_hasL,u32s_like,decide_eq_true,decide_eq_false,Bool.and_self,Bool.true_and,Bool.and_true,Bool.not_true,Bool.not_false,cond_true,and_true,true_and,and_self]
   repeat' (with_reducible apply And.intro)
   all_goals omega
end Go.Proofs.Ytliidiceljdgmaa
namespace Go.Proofs.Ytliidiceljdgmaa
open Go.RowKit Sy
def idxI (bs : List Bool) (v : Bool) (cap k : Nat) : Sf:=⟨65,[(0,.slice (some ⟨64,0,none⟩) bs.length cap),(1,.bool v),(7,.int .i64 (bs.length : Nat)),(8,.int .i64 (k : Nat))],[(64,⟨false,none,bools bs,none⟩)],[]⟩
structure Rl where
 at_ : Nat
 code : Bool
 off : Nat
 size : Nat
 perms : Nat
 typ : Nat
def relC (x : Rl) : List Value:=[.int .u32 (x.at_ : Int),.bool x.code,.int .u32 (x.off : Int),.int .u32 (x.size : Int),.int .u16 (x.perms : Int),.int .u16 (x.typ : Int)]
def rels (xs : List Rl) : List Value:=xs.flatMap relC
def imgV (pages stack types : Int) (nc nr ns : Nat) (data : List UInt8) : Value :=
 .agg ⟨[.int .i64 pages,.int .i64 stack,.int .i64 types,.slice (some ⟨64,0,none⟩) nc (big + 64),.string ⟨⟨data⟩⟩,.slice (some ⟨65,0,none⟩) nr (big + 65),.slice (some ⟨66,0,none⟩) ns (big + 66)]⟩
def layS (rs : List Rl) (starts : List Nat) (T : List (Nat × Bool)) : St:=⟨67,[(65,⟨false,some (0,0),rels rs,none⟩),(66,⟨false,some (0,0),u32s starts,none⟩)],[],0,T,0,True⟩
def imgL (pages stack types : Int) (nc nr ns : Nat) (data : List UInt8) : List Value :=
 [.int .i64 pages,.int .i64 stack,.int .i64 types,.slice (some ⟨64,0,none⟩) nc (big + 64),.string ⟨⟨data⟩⟩,.slice (some ⟨65,0,none⟩) nr (big + 65),.slice (some ⟨66,0,none⟩) ns (big + 66)]
def stI (pages stack types : Int) (nc nr : Nat) (data : List UInt8) (starts : List Nat) (k : Nat) : Sf :=
 ⟨71,[(0,.slice (some ⟨66,0,none⟩) starts.length (big + 66)),(1,.func (.func 46) ⟨[]⟩ ⟨[.pointer (some ⟨67,0,none⟩)]⟩),(7,.int .i64 (starts.length : Nat)),(8,.int .i64 (k : Nat))],
  [(66,⟨false,some (0,0),u32s starts,none⟩),(67,⟨false,none,imgL pages stack types nc nr starts.length data,none⟩)],[]⟩
def stF (j : Nat) : Sf:=⟨71,[(4,.int .i64 (j : Nat))],[],[]⟩
def stN : Sf:=⟨71,[],[],[]⟩
end Go.Proofs.Ytliidiceljdgmaa
namespace Go.Proofs.Ytliidiceljdgmaa
open Go.RowKit
open Sy
theorem idx_a (bs : List Bool) (v : Bool) (cap : Nat) (k : Nat) : evC Try.prog noBase (noLoop 91) 19 100 (loopOf Try.prog 91 0) (Sf.frT 19 (idxI bs v cap k) [(0,true),(1,true)]) = some (Exit.ret,{ e:=[[Value.slice (some ⟨64,0,none⟩) bs.length cap,.bool v,unk,unk,.int .i64 (↑k),.int .i64 (↑k),unk,.int .i64 (↑bs.length),.int .i64 (↑k),.bool (decide ((↑k : Int) < (↑bs.length : Int))),.int .i64 (↑k),.bool v,.slice (some ⟨64,0,none⟩) bs.length cap,.int .i64 (↑k),.pointer (some { block:=64,off:=0 + (↑k : Int).toNat * 1 }),.bool (boolOf' (getD' undef (bools bs) (0 + (↑k : Int).toNat * 1)))],[Value.bool (v == boolOf' (getD' undef (bools bs) (0 + (↑k : Int).toNat * 1))),.int .i64 (↑k),unk,unk,unk,unk,unk,unk,unk,unk,unk,unk,unk,unk,unk,unk]],s:={ n:=65,h:=[(64,{ rw:=false,op:=none,cells:=bools bs,it:=none })],lo:=[],esc:=0,T:=[],k:=2,O:=(bif hasN (0 + (↑k : Int).toNat * 1 + 1) (bools bs) && isLikeL [Value.bool false] (bools bs) (0 + (↑k : Int).toNat * 1) then bif decide ((0 : Int) ≤ (↑k : Int)) && decide ((↑k : Int) < (↑bs.length : Int)) then True ∧ decide ((↑k : Int) < (↑bs.length : Int)) = true else False else False) ∧ (v == boolOf' (getD' undef (bools bs) (0 + (↑k : Int).toNat * 1))) = true } }):=by kernel_rfl
theorem idx_b (bs : List Bool) (v : Bool) (cap : Nat) (k : Nat) : evC Try.prog noBase (noLoop 91) 19 100 (loopOf Try.prog 91 0) (Sf.frT 19 (idxI bs v cap k) [(0,true),(1,false)]) = some (Exit.normal,{ e:=[[Value.slice (some ⟨64,0,none⟩) bs.length cap,.bool v,unk,unk,unk,.int .i64 (↑k),unk,.int .i64 (↑bs.length),.int .i64 (IntKind.i64.wrap ((↑k : Int) + (1 : Int))),.bool (decide ((↑k : Int) < (↑bs.length : Int))),.int .i64 (↑k),.bool v,.slice (some ⟨64,0,none⟩) bs.length cap,.int .i64 (↑k),.pointer (some { block:=64,off:=0 + (↑k : Int).toNat * 1 }),.bool (boolOf' (getD' undef (bools bs) (0 + (↑k : Int).toNat * 1)))],[Value.bool (v == boolOf' (getD' undef (bools bs) (0 + (↑k : Int).toNat * 1))),unk,.int .i64 (IntKind.i64.wrap ((↑k : Int) + (1 : Int))),unk,unk,unk,unk,unk,unk,unk,unk,unk,unk,unk,unk,unk]],s:={ n:=65,h:=[(64,{ rw:=false,op:=none,cells:=bools bs,it:=none })],lo:=[],esc:=0,T:=[],k:=2,O:=(bif hasN (0 + (↑k : Int).toNat * 1 + 1) (bools bs) && isLikeL [Value.bool false] (bools bs) (0 + (↑k : Int).toNat * 1) then bif decide ((0 : Int) ≤ (↑k : Int)) && decide ((↑k : Int) < (↑bs.length : Int)) then True ∧ decide ((↑k : Int) < (↑bs.length : Int)) = true else False else False) ∧ (v == boolOf' (getD' undef (bools bs) (0 + (↑k : Int).toNat * 1))) = false } }):=by kernel_rfl
theorem idx_c (bs : List Bool) (v : Bool) (cap : Nat) (k : Nat) : evC Try.prog noBase (noLoop 91) 19 100 (loopOf Try.prog 91 0) (Sf.frT 19 (idxI bs v cap k) [(0,false)]) = some (Exit.exit 0,{ e:=[[Value.slice (some ⟨64,0,none⟩) bs.length cap,.bool v,unk,unk,unk,unk,unk,.int .i64 (↑bs.length),.int .i64 (↑k),.bool (decide ((↑k : Int) < (↑bs.length : Int))),unk,unk,unk,unk,unk,unk],[unk,unk,unk,unk,unk,unk,unk,unk,unk,unk,unk,unk,unk,unk,unk,unk]],s:={ n:=65,h:=[(64,{ rw:=false,op:=none,cells:=bools bs,it:=none })],lo:=[],esc:=0,T:=[],k:=1,O:=True ∧ decide ((↑k : Int) < (↑bs.length : Int)) = false } }):=by kernel_rfl
theorem ng65 : NG ≤ 65:=by decide
def idxF (j : Nat) : Sf:=⟨65,[(4,.int .i64 (j : Nat))],[],[]⟩
def idxN : Sf:=⟨65,[],[],[]⟩
theorem idxI_wf (bs : List Bool) (v : Bool) (cap k : Nat) (hc : Nat.blt cap big = true) : (idxI bs v cap k).Wf :=
 ⟨ng65,Sf.Ok.mk' 3 ⟨⟨rfl,rfl,flat_bnd (bools_flat bs)⟩,trivial⟩ rfl (by simp [idxI,okV,bndA,hc,flat0])⟩
theorem idx_next (bs : List Bool) (v : Bool) (cap k : Nat) (e : Sf) (hc : Nat.blt cap big = true) (hl : bs.length < 9000000000000000000) (hk : k < bs.length) (hv : bs.getD k false ≠ v) (hn : e.n = 65) (he : e.Ok (keeps 65 65 id (fun l => Nat.blt l 65))) :
  ∃ g,evC Try.prog noBase (noLoop 91) 19 100 (loopOf Try.prog 91 0) ((idxI bs v cap k).frT 19 [(0,true),(1,false)]) = some (.normal,g) ∧ g.s.O ∧
   Sf.Leads 3 (fun l => Nat.blt l 65) id (idxI bs v cap k) g (idxI bs v cap (k + 1)) e:=by
 refine ⟨_,idx_b bs v cap k,?_,?_⟩
 ·simp only [rr, tt, bools_has,bools_like,bools_at,Int.toNat_natCast,Nat.zero_add,Nat.mul_one]
  exact ⟨bif_true (by simp; omega) (bif_true (by simp; omega) ⟨trivial,by simp; omega⟩),by simpa using fun e : v = _ => hv e.symm⟩
 ·refine ⟨fun _ _ => rfl,⟨⟨rfl,flat_all (bools_flat bs),rfl,rfl,rfl,trivial,(flat_map (bools_flat bs)).symm⟩,trivial⟩,rfl,trivial,⟨⟨?_,by rw [rnV_id]; kernel_rfl⟩,⟨rfl,by kernel_rfl⟩,⟨rfl,by kernel_rfl⟩,⟨rfl,?_⟩,trivial⟩,Nat.le_refl _,fun l hl => blt_no hl,?_,?_⟩
  ·simp [okV,bndA,hc]
  ·refine Eq.trans (b:=Value.int .i64 (IntKind.i64.wrap ((k : Int) + 1))) (by kernel_rfl) ?_
   rw [cast_succ_i64 k (by omega)]; rfl
  ·rw [hn]; exact he
  ·intro x _ _; exact .inl rfl
theorem idx_found (bs : List Bool) (v : Bool) (cap j : Nat) (hc : Nat.blt cap big = true) (hl : bs.length < 9000000000000000000) (hj : j < bs.length) (hv : bs.getD j false = v) (hn : ∀ i,i < j → bs.getD i false ≠ v) :
  ∀ x : { k : Nat // k ≤ j },LoopOk Try.prog 19 (loopOf Try.prog 91 0) ((idxI bs v cap x.1).fr 19) .ret ((idxF j).fr 19):=by
 refine loop_ok (L:=100) (noBase_ok _) (noLoop_any _ _ 91) (fun _ h => h) (X:={ k : Nat // k ≤ j }) (fun x => idxI bs v cap x.1) (fun _ => idxF j) (fun _ => .ret) (fun x => j - x.1) (fun x => idxI_wf bs v cap x.1 hc) ?_
 rintro ⟨k,hk⟩
 by_cases h : k = j
 ·subst h
  refine ⟨[(0,true),(1,true)],.ret,_,3,fun l => Nat.blt l 65,id,idx_a bs v cap k,?_,.inr ⟨by simp,rfl,?_⟩⟩
  ·simp only [rr, tt, bools_has,bools_like,bools_at,Int.toNat_natCast,Nat.zero_add,Nat.mul_one,hv]
   exact ⟨bif_true (by simp; omega) (bif_true (by simp; omega) ⟨trivial,by simp; omega⟩),by simp⟩
  ·exact ⟨fun _ _ => rfl,trivial,rfl,trivial,⟨⟨rfl,by kernel_rfl⟩,trivial⟩,Nat.le_refl _,fun l hl => blt_no hl,Sf.Ok.mk' 3 trivial rfl (by simp [idxF,okV,flat0]),fun x hx => by cases hx⟩
 ·obtain ⟨g,h1,h2,h3⟩:=idx_next bs v cap k (idxF j) hc hl (by omega) (hn k (by omega)) rfl (Sf.Ok.mk' 3 trivial rfl (by simp [idxF,okV,flat0]))
  exact ⟨_,.normal,g,3,_,_,h1,h2,.inl ⟨rfl,⟨k + 1,by omega⟩,by show j - (k + 1) < j - k; omega,rfl,rfl,h3⟩⟩
theorem idx_none (bs : List Bool) (v : Bool) (cap : Nat) (hc : Nat.blt cap big = true) (hl : bs.length < 9000000000000000000) (hn : ∀ i,i < bs.length → bs.getD i false ≠ v) :
  ∀ x : { k : Nat // k ≤ bs.length },LoopOk Try.prog 19 (loopOf Try.prog 91 0) ((idxI bs v cap x.1).fr 19) (.exit 0) (idxN.fr 19):=by
 refine loop_ok (L:=100) (noBase_ok _) (noLoop_any _ _ 91) (fun _ h => h) (X:={ k : Nat // k ≤ bs.length }) (fun x => idxI bs v cap x.1) (fun _ => idxN) (fun _ => .exit 0) (fun x => bs.length - x.1) (fun x => idxI_wf bs v cap x.1 hc) ?_
 rintro ⟨k,hk⟩
 by_cases h : k < bs.length
 ·obtain ⟨g,h1,h2,h3⟩:=idx_next bs v cap k idxN hc hl h (hn k h) rfl (Sf.Ok.mk' 3 trivial rfl (by simp [idxN]))
  exact ⟨_,.normal,g,3,_,_,h1,h2,.inl ⟨rfl,⟨k + 1,by omega⟩,by show bs.length - (k + 1) < bs.length - k; omega,rfl,rfl,h3⟩⟩
 ·refine ⟨[(0,false)],.exit 0,_,3,fun l => Nat.blt l 65,id,idx_c bs v cap k,?_,.inr ⟨by simp,rfl,?_⟩⟩
  ·simp; omega
  ·exact ⟨fun _ _ => rfl,trivial,rfl,trivial,trivial,Nat.le_refl _,fun l hl => blt_no hl,Sf.Ok.mk' 3 trivial rfl (by simp [idxN]),fun x hx => by cases hx⟩
end Go.Proofs.Ytliidiceljdgmaa
namespace Go.Proofs.Ytliidiceljdgmaa
open Go.RowKit
open Sy
def idxEntF (bs : List Bool) (v : Bool) (cap j : Nat) (hc : Nat.blt cap big = true) (hl : bs.length < 9000000000000000000) (hj : j < bs.length) (hv : bs.getD j false = v) (hn : ∀ i,i < j → bs.getD i false ≠ v) : Ent Try.prog :=
 entC Try.prog 91 0 19 (idxI bs v cap 0) .ret (idxF j) (by kernel_rfl) (by kernel_rfl) (idx_found bs v cap j hc hl hj hv hn ⟨0,Nat.zero_le _⟩)
def idxEntN (bs : List Bool) (v : Bool) (cap : Nat) (hc : Nat.blt cap big = true) (hl : bs.length < 9000000000000000000) (hn : ∀ i,i < bs.length → bs.getD i false ≠ v) : Ent Try.prog :=
 entC Try.prog 91 0 19 (idxI bs v cap 0) (.exit 0) idxN (by kernel_rfl) (by kernel_rfl) (idx_none bs v cap hc hl hn ⟨0,Nat.zero_le _⟩)
def noneC (bs : List Bool) (cap : Nat) : Con:=⟨[.slice (some ⟨64,0,none⟩) bs.length cap],65,[(64,⟨false,none,bools bs,none⟩)],[],.bool (!bs.any id),65,[],[]⟩
def noneK (bs : List Bool) (cap : Nat) (T : List (Nat × Bool)) : St:={ (noneC bs cap).s0 with T:=T }
end Go.Proofs.Ytliidiceljdgmaa
namespace Go.Proofs.Ytliidiceljdgmaa
open Go.RowKit
open Sy
theorem none_f (bs : List Bool) (cap j : Nat) (hc : cap.blt big = true) (hl : bs.length < 9000000000000000000) (hj : j < bs.length) (hv : bs.getD j false = true) (hn : ∀ (i : Nat),i < j → bs.getD i false ≠ true) : evF Try.prog noBase (lpOf [idxEntF bs true cap j hc hl hj hv hn]) 100 5 44 [Value.slice (some ⟨64,0,none⟩) bs.length cap] (noneK bs cap [(10 ^ 9,true)]) = some (Value.bool !decide ((↑j:Int) ≥ (0:Int)),{ n:=65,h:=[(64,⟨false,none,bools bs,none⟩)],lo:=[],esc:=0,T:=[(1000000000,true)],k:=0,O:=True∧(rr (Value.slice (some ⟨64,0,none⟩) bs.length cap)∧rr (Value.bool true)∧rr (Value.int .i64 (↑bs.length))∧rr (Value.int .i64 0)∧True)∧((tt∧tt∧True∧rr (bools bs))∧True)∧True∧True : St }):=by kernel_rfl
theorem none_n (bs : List Bool) (cap : Nat) (hc : cap.blt big = true) (hl : bs.length < 9000000000000000000) (hn : ∀ (i : Nat),i < bs.length → bs.getD i false ≠ true) : evF Try.prog noBase (lpOf [idxEntN bs true cap hc hl hn]) 100 5 44 [Value.slice (some ⟨64,0,none⟩) bs.length cap] (noneK bs cap [(10 ^ 9,true)]) = some (Value.bool true,{ n:=65,h:=[(64,⟨false,none,bools bs,none⟩)],lo:=[],esc:=0,T:=[(1000000000,true)],k:=0,O:=True∧(rr (Value.slice (some ⟨64,0,none⟩) bs.length cap)∧rr (Value.bool true)∧rr (Value.int .i64 (↑bs.length))∧rr (Value.int .i64 0)∧True)∧((tt∧tt∧True∧rr (bools bs))∧True)∧True∧True : St }):=by kernel_rfl
theorem i_names : namesOk Try.prog = true:=by kernel_rfl
theorem least_of (bs : List Bool) (v : Bool) (h : ∃ i,i < bs.length ∧ bs.getD i false = v) : ∃ j,j < bs.length ∧ bs.getD j false = v ∧ ∀ i,i < j → bs.getD i false ≠ v:=by
 obtain ⟨i,hi,hv⟩:=h
 induction i using Nat.strongRecOn with
 | _ i ih =>
  by_cases h : ∃ k,k < i ∧ bs.getD k false = v
  ·obtain ⟨k,hk,hkv⟩:=h
   exact ih k hk (by omega) hkv
  ·exact ⟨i,hi,hv,fun k hk e => h ⟨k,hk,e⟩⟩
theorem any_getD (bs : List Bool) : bs.any id = true ↔ ∃ i,i < bs.length ∧ bs.getD i false = true:=by
 rw [List.any_eq_true]
 constructor
 ·rintro ⟨b,hb,h⟩
  obtain ⟨i,hi,rfl⟩:=List.getElem_of_mem hb
  exact ⟨i,hi,by rw [List.getD_eq_getElem?_getD,List.getElem?_eq_getElem hi]; exact h⟩
 ·rintro ⟨i,hi,h⟩
  rw [List.getD_eq_getElem?_getD,List.getElem?_eq_getElem hi] at h
  exact ⟨bs[i],List.getElem_mem hi,h⟩
theorem noneC_wf (bs : List Bool) (cap : Nat) (hc : Nat.blt cap big = true) : (noneC bs cap).Wf 3 :=
 ⟨ng65,Nat.le_refl _,⟨⟨rfl,rfl,flat_bnd (bools_flat bs)⟩,trivial⟩,rfl,rfl,rfl,by simp [noneC,okV,bndA,hc],rfl,fun x hx => by cases hx⟩
theorem none_ok (bs : List Bool) (cap : Nat) (hc : Nat.blt cap big = true) (hl : bs.length < 9000000000000000000) : ConOk Try.prog 44 3 (noneC bs cap):=by
 by_cases h : ∃ i,i < bs.length ∧ bs.getD i false = true
 ·obtain ⟨j,hj,hv,hn⟩:=least_of bs true h
  refine conOk_run (run_ok i_names (noBase_ok _) (lpOf_ok _) 5) (noneC_wf bs cap hc) (none_f bs cap j hc hl hj hv hn) ?_ (p:=fun l => Nat.blt l 65) (σ:=id) ?_
  ·exact ⟨trivial,⟨rfl,rfl,rfl,rfl,trivial⟩,⟨⟨rfl,rfl,trivial,rfl⟩,trivial⟩,trivial,trivial⟩
  ·have : bs.any id = true:=(any_getD bs).2 h
   refine ⟨fun _ _ => rfl,trivial,rfl,trivial,⟨rfl,?_⟩,rfl,trivial,rfl,bnd_bool _ _,fun x hx => by cases hx⟩
   rw [rnV_id]; simp [noneC,this]
 ·have hn : ∀ i,i < bs.length → bs.getD i false ≠ true:=fun i hi e => h ⟨i,hi,e⟩
  refine conOk_run (run_ok i_names (noBase_ok _) (lpOf_ok _) 5) (noneC_wf bs cap hc) (none_n bs cap hc hl hn) ?_ (p:=fun l => Nat.blt l 65) (σ:=id) ?_
  ·exact ⟨trivial,⟨rfl,rfl,rfl,rfl,trivial⟩,⟨⟨rfl,rfl,trivial,rfl⟩,trivial⟩,trivial,trivial⟩
  ·have : bs.any id = false:=by
    cases hb : bs.any id
    ·rfl
    ·exact absurd ((any_getD bs).1 hb) h
   refine ⟨fun _ _ => rfl,trivial,rfl,trivial,⟨rfl,?_⟩,rfl,trivial,rfl,bnd_bool _ _,fun x hx => by cases hx⟩
   rw [rnV_id]; simp [noneC,this]
end Go.Proofs.Ytliidiceljdgmaa
namespace Go.Proofs.Ytliidiceljdgmaa
open Go.RowKit
open Sy
def boolsOf (l : List Value) : List Bool:=l.map boolOf'
def selNone : SelC:=fun f args s => bif Nat.beq f 44 then
 match args with
 | [.slice (some a) _ cap] => (Sy.look s.h a.block).map fun k => (noneC (boolsOf k.cells) cap,[a.block],Nat.blt cap big = true ∧ (boolsOf k.cells).length < 9000000000000000000)
 | _ => none
 else none
theorem selNone_ok : SelOk Try.prog 3 selNone:=by
 intro f args s c ρ q h hq
 unfold selNone at h
 obtain ⟨h1,h⟩:=bif_some h
 have h1:=eB h1
 subst h1
 split at h
 ·obtain ⟨k,_,h⟩:=oM h
  simp only [rr, tt, Prod.mk.injEq] at h
  obtain ⟨rfl,rfl,rfl⟩:=h
  exact none_ok _ _ hq.1 hq.2
 ·cases h
def inU32 (x : Int) : Prop:=0 ≤ x ∧ x < 4294967296
def inU64 (x : Int) : Prop:=0 ≤ x ∧ x < 18446744073709551616
def padC (x : Int) : Con:=Con.pure [.int .u32 x] (.tuple ⟨[.int .u32 (padN x.toNat : Nat),.int .u32 (padA x.toNat : Nat)]⟩)
def encC (b t : Int) : Con:=Con.pure [.int .u32 b,.int .u64 t] (.tuple ⟨[.int .u8 (encE b.toNat t.toNat : Nat),.int .u16 (encB b.toNat t.toNat : Nat),.int .u16 (encT b.toNat t.toNat : Nat),.bool (encX b.toNat t.toNat),.bool (rightN b.toNat t.toNat)]⟩)
def selBnd : SelC:=fun f args _ =>
 match args with
 | [.int _ x] => bif Nat.beq f 92 then some (padC x,[],inU32 x) else bif Nat.beq f 99 then some (padC x,[],inU32 x) else none
 | [.int _ b,.int _ t] => bif Nat.beq f 74 then some (encC b t,[],inU32 b ∧ inU64 t) else bif Nat.beq f 98 then some (encC b t,[],inU32 b ∧ inU64 t) else none
 | _ => none
theorem below_n {w w' : World} (h : ∃ m,w' = w.drewN m) : Below w.heap.size w w':=by
 obtain ⟨m,rfl⟩:=h
 exact below_drewN (Below.refl _ _) m
theorem padC_ok {f : FuncId} (he : Enters Try.prog f) (h : ∀ (s : Nat) (w : World),s < 4294967296 → Calls Try.prog f #[.int .u32 s] w fun e' w' => e' = .returned (.tuple #[.int .u32 (padN s),.int .u32 (padA s)]) ∧ ∃ m,w' = w.drewN m) (x : Int) (hx : inU32 x) : ConOk Try.prog f 3 (padC x):=by
 refine conOk_pure he (fun u hu => ?_) rfl fun w => ?_
 ·obtain rfl:=List.mem_singleton.1 hu; rfl
 ·have:=h x.toNat w (by have:=hx.1; have:=hx.2; omega)
  rw [show ((x.toNat : Nat) : Int) = x from Int.toNat_of_nonneg hx.1] at this
  exact this.mono fun _ _ ⟨a,b⟩ => ⟨a,below_n b⟩
theorem encC_ok {f : FuncId} (he : Enters Try.prog f) (h : ∀ (b t : Nat) (w : World),b < 4294967296 → t < 18446744073709551616 → Calls Try.prog f #[.int .u32 b,.int .u64 t] w fun e' w' => e' = .returned (.tuple #[.int .u8 (encE b t),.int .u16 (encB b t),.int .u16 (encT b t),.bool (encX b t),.bool (rightN b t)]) ∧ ∃ m,w' = w.drewN m)
  (b t : Int) (hb : inU32 b) (ht : inU64 t) : ConOk Try.prog f 3 (encC b t):=by
 refine conOk_pure he (fun u hu => ?_) rfl fun w => ?_
 ·rcases List.mem_cons.1 hu with rfl | hu
  ·rfl
  ·obtain rfl:=List.mem_singleton.1 hu; rfl
 ·have:=h b.toNat t.toNat w (by have:=hb.1; have:=hb.2; omega) (by have:=ht.1; have:=ht.2; omega)
  rw [show ((b.toNat : Nat) : Int) = b from Int.toNat_of_nonneg hb.1,show ((t.toNat : Nat) : Int) = t from Int.toNat_of_nonneg ht.1] at this
  exact this.mono fun _ _ ⟨a,b⟩ => ⟨a,below_n b⟩
theorem selBnd_ok : SelOk Try.prog 3 selBnd:=by
 intro f args s c ρ q h hq
 unfold selBnd at h
 split at h
 ·rename_i k x
  cases h1 : Nat.beq f 92 <;> rw [h1] at h
  ·simp only [rr, tt, cond_false] at h
   obtain ⟨h2,h⟩:=bif_some h
   have h2:=eB h2
   subst h2
   cases h
   exact padC_ok (enters_b i_names (by kernel_rfl)) (fun s w hs => rpad_any s w hs) x hq
  ·cases h
   have h1:=eB h1
   subst h1
   exact padC_ok (enters_b i_names (by kernel_rfl)) (fun s w hs => pad_any s w hs) x hq
 ·rename_i k b k' t
  cases h1 : Nat.beq f 74 <;> rw [h1] at h
  ·simp only [rr, tt, cond_false] at h
   obtain ⟨h2,h⟩:=bif_some h
   have h2:=eB h2
   subst h2
   cases h
   exact encC_ok (enters_b i_names (by kernel_rfl)) (fun b t w hb ht => rencode_any b t w hb ht) b t hq.1 hq.2
  ·cases h
   have h1:=eB h1
   subst h1
   exact encC_ok (enters_b i_names (by kernel_rfl)) (fun b t w hb ht => encode_any b t w hb ht) b t hq.1 hq.2
 ·cases h
def selI : SelC:=selOr selNone selBnd
theorem selI_ok : SelOk Try.prog 3 selI:=selOr_ok selNone_ok selBnd_ok
end Go.Proofs.Ytliidiceljdgmaa
namespace Go.Proofs.Ytliidiceljdgmaa
open Go.RowKit
open Sy
theorem sized_r (n : Int) : obs (evF Try.prog (baseC 3 selI) noLoop 100 10 73 [Value.int .i64 n] (stT [])) = some (Value.tuple { toList:=[Value.int .u32 (↑(padN (bits BinOp.andNot IntKind.u32 (IntKind.u32.wrap (IntKind.i64.wrap (IntKind.i64.wrap (n+(256:Int)) - (1:Int)))) (255:Int)).toNat):Int),.int .u32 (if (256:Int) > (↑(padA (bits BinOp.andNot IntKind.u32 (IntKind.u32.wrap (IntKind.i64.wrap (IntKind.i64.wrap (n+(256:Int)) - (1:Int)))) (255:Int)).toNat):Int) then (256:Int) else (↑(padA (bits BinOp.andNot IntKind.u32 (IntKind.u32.wrap (IntKind.i64.wrap (IntKind.i64.wrap (n+(256:Int)) - (1:Int)))) (255:Int)).toNat):Int))] },True∧((0:Int) ≤ bits BinOp.andNot IntKind.u32 (IntKind.u32.wrap (IntKind.i64.wrap (IntKind.i64.wrap (n+(256:Int)) - (1:Int)))) (255:Int)∧bits BinOp.andNot IntKind.u32 (IntKind.u32.wrap (IntKind.i64.wrap (IntKind.i64.wrap (n+(256:Int)) - (1:Int)))) (255:Int) < (4294967296:Int))∧(rr (Value.int .u32 (bits BinOp.andNot IntKind.u32 (IntKind.u32.wrap (IntKind.i64.wrap (IntKind.i64.wrap (n+(256:Int)) - (1:Int)))) (255:Int)))∧True)∧True∧True):=by kernel_rfl
theorem rsized_r (n : Int) : obs (evF Try.prog (baseC 3 selI) noLoop 100 10 79 [Value.int .u32 n] (stT [])) = some (Value.tuple { toList:=[Value.int .u32 (↑(padN (IntKind.u32.wrap (IntKind.u32.wrap ((IntKind.u32.wrap (IntKind.u32.wrap (n+(256:Int)) - (1:Int))).tdiv (256:Int)) * (256:Int))).toNat):Int),.int .u32 (if (256:Int) > (↑(padA (IntKind.u32.wrap (IntKind.u32.wrap ((IntKind.u32.wrap (IntKind.u32.wrap (n+(256:Int)) - (1:Int))).tdiv (256:Int)) * (256:Int))).toNat):Int) then (256:Int) else (↑(padA (IntKind.u32.wrap (IntKind.u32.wrap ((IntKind.u32.wrap (IntKind.u32.wrap (n+(256:Int)) - (1:Int))).tdiv (256:Int)) * (256:Int))).toNat):Int))] },True∧((0:Int) ≤ IntKind.u32.wrap (IntKind.u32.wrap ((IntKind.u32.wrap (IntKind.u32.wrap (n+(256:Int)) - (1:Int))).tdiv (256:Int)) * (256:Int))∧IntKind.u32.wrap (IntKind.u32.wrap ((IntKind.u32.wrap (IntKind.u32.wrap (n+(256:Int)) - (1:Int))).tdiv (256:Int)) * (256:Int)) < (4294967296:Int))∧(rr (Value.int .u32 (IntKind.u32.wrap (IntKind.u32.wrap ((IntKind.u32.wrap (IntKind.u32.wrap (n+(256:Int)) - (1:Int))).tdiv (256:Int)) * (256:Int))))∧True)∧True∧True):=by kernel_rfl
theorem and_high32 (a e : Nat) (ha : a < 4294967296) (he : e ≤ 32) : a &&& (4294967295 - (2 ^ e - 1)) = a / 2 ^ e * 2 ^ e:=by
 have h0:=pow_pos2 e
 have h2 : 2 ^ e ≤ 2 ^ 32:=Nat.pow_le_pow_right (by omega) he
 have h1 : 4294967295 - (2 ^ e - 1) = 2 ^ 32 - ((2 ^ e - 1) + 1):=by omega
 rw [h1]
 apply Nat.eq_of_testBit_eq
 intro i
 rw [Nat.testBit_and,Nat.testBit_two_pow_sub_succ (by omega),Nat.testBit_two_pow_sub_one,Nat.testBit_mul_two_pow,Nat.testBit_div_two_pow]
 by_cases hi : e ≤ i
 ·rw [Nat.sub_add_cancel hi]
  have e1 : decide (i < e) = false:=by simp; omega
  have e2 : decide (e ≤ i) = true:=by simpa using hi
  rw [e1,e2]
  by_cases h64 : i < 32
  ·have e3 : decide (i < 32) = true:=by simpa using h64
   rw [e3]; simp
  ·have : a.testBit i = false:=Nat.testBit_lt_two_pow (Nat.lt_of_lt_of_le ha (Nat.pow_le_pow_right (n:=2) (by omega) (show 32 ≤ i by omega)))
   rw [this]; simp
 ·have e1 : decide (i < e) = true:=by simp; omega
  have e2 : decide (e ≤ i) = false:=by simpa using hi
  rw [e1,e2]; simp
theorem struck (a e : Nat) (ha : a < 4294967296) (he : e ≤ 31) : bits .andNot .u32 (a : Int) (((2 ^ e - 1 : Nat)) : Int) = ((a / 2 ^ e * 2 ^ e : Nat) : Int):=by
 have h2 : 2 ^ e ≤ 2 ^ 31:=Nat.pow_le_pow_right (by omega) he
 rw [u32_andNot_nat a (2 ^ e - 1) ha (by omega),and_high32 a e ha (by omega)]
def r256 (n : Nat) : Nat:=(n + 255) / 256 * 256
theorem sized_in (n : Nat) (h : n ≤ 1000000) : bits .andNot .u32 (IntKind.u32.wrap (IntKind.i64.wrap (IntKind.i64.wrap ((n : Int) + 256) - 1))) 255 = ((r256 n : Nat) : Int):=by
 have e1 : IntKind.u32.wrap (IntKind.i64.wrap (IntKind.i64.wrap ((n : Int) + 256) - 1)) = ((n + 255 : Nat) : Int):=by
  rw [wrap_i64 (x:=(n : Int) + 256) (by omega) (by omega),wrap_i64 (by omega) (by omega),IntKind.wrap_u32]; omega
 rw [e1]
 exact struck (n + 255) 8 (by omega) (by omega)
theorem rsized_in (n : Nat) (h : n ≤ 1000000) : IntKind.u32.wrap (IntKind.u32.wrap ((IntKind.u32.wrap (IntKind.u32.wrap ((n : Int) + 256) - 1)).tdiv 256) * 256) = ((r256 n : Nat) : Int):=by
 have e1 : IntKind.u32.wrap (IntKind.u32.wrap ((n : Int) + 256) - 1) = ((n + 255 : Nat) : Int):=by
  rw [IntKind.wrap_u32,IntKind.wrap_u32]; omega
 rw [e1,show ((256 : Int)) = ((256 : Nat) : Int) from rfl,← Int.ofNat_tdiv,IntKind.wrap_u32,IntKind.wrap_u32]
 unfold r256; omega
theorem max_in (a : Nat) : (if (256 : Int) > (a : Int) then (256 : Int) else (a : Int)) = ((max a 256 : Nat) : Int):=by split <;> omega
theorem pad_256 (n : Nat) (h : n ≤ 100000) : padN (r256 n) = r256 n ∧ max (padA (r256 n)) 256 = 256:=by
 have hs : r256 n ≤ 100352:=by unfold r256; omega
 have he : expoN 0 (r256 n) ≤ 6:=by
  rcases Nat.lt_or_ge 6 (expoN 0 (r256 n)) with hlt | hge
  ·have:=expo_least hlt
   unfold fitsN at this
   have h1:=up_lt (r256 n) 6
   have h2:=dn_le 0 6
   simp only [rr, tt, decide_eq_false_iff_not] at this
   omega
  ·exact hge
 have hu : upN (r256 n) (expoN 0 (r256 n)) = r256 n:=by
  have:=up_mul ((n + 255) / 256) 8 (expoN 0 (r256 n)) (by omega)
  exact this
 have hp : 2 ^ expoN 0 (r256 n) ≤ 2 ^ 6:=Nat.pow_le_pow_right (by omega) he
 unfold padN padA
 rw [hu,if_neg (by omega),if_neg (by omega)]
 exact ⟨rfl,by omega⟩
def sizedV (x : Int) : Value:=.tuple ⟨[.int .u32 (r256 x.toNat : Nat),.int .u32 256]⟩
def sizedC (x : Int) : Con:=Con.pure [.int .i64 x] (sizedV x)
def rsizedC (x : Int) : Con:=Con.pure [.int .u32 x] (sizedV x)
def szOk (x : Int) : Prop:=0 ≤ x ∧ x ≤ 100000
theorem sizedC_ok (x : Int) (h : szOk x) : ConOk Try.prog 73 3 (sizedC x):=by
 obtain ⟨n,rfl⟩:=Int.eq_ofNat_of_zero_le h.1
 have hn : n ≤ 100000:=by have:=h.2; omega
 have hr:=sized_r (n : Int)
 rw [sized_in n (by omega),Int.toNat_natCast,max_in,(pad_256 n hn).1,(pad_256 n hn).2] at hr
 refine pure_run (run_ok i_names (baseC_ok selI_ok) (noLoop_ok _) 10) hr ?_ rfl rfl
 exact ⟨trivial,⟨by omega,by unfold r256; omega⟩,⟨rfl,trivial⟩,trivial,trivial⟩
theorem rsizedC_ok (x : Int) (h : szOk x) : ConOk Try.prog 79 3 (rsizedC x):=by
 obtain ⟨n,rfl⟩:=Int.eq_ofNat_of_zero_le h.1
 have hn : n ≤ 100000:=by have:=h.2; omega
 have hr:=rsized_r (n : Int)
 rw [rsized_in n (by omega),Int.toNat_natCast,max_in,(pad_256 n hn).1,(pad_256 n hn).2] at hr
 refine pure_run (run_ok i_names (baseC_ok selI_ok) (noLoop_ok _) 10) hr ?_ rfl rfl
 exact ⟨trivial,⟨by omega,by unfold r256; omega⟩,⟨rfl,trivial⟩,trivial,trivial⟩
def selSz : SelC:=fun f args _ =>
 match args with
 | [.int _ x] => bif Nat.beq f 73 then some (sizedC x,[],szOk x) else bif Nat.beq f 79 then some (rsizedC x,[],szOk x) else none
 | _ => none
theorem selSz_ok : SelOk Try.prog 3 selSz:=by
 intro f args s c ρ q h hq
 unfold selSz at h
 split at h
 ·rename_i k x
  cases h1 : Nat.beq f 73 <;> rw [h1] at h
  ·simp only [rr, tt, cond_false] at h
   obtain ⟨h2,h⟩:=bif_some h
   have h2:=eB h2
   subst h2
   cases h
   exact rsizedC_ok x hq
  ·cases h
   have h1:=eB h1
   subst h1
   exact sizedC_ok x hq
 ·cases h
def selJ : SelC:=selOr selSz selI
theorem selJ_ok : SelOk Try.prog 3 selJ:=selOr_ok selSz_ok selI_ok
end Go.Proofs.Ytliidiceljdgmaa
namespace Go.Proofs.Ytliidiceljdgmaa
open Go.RowKit
open Sy
theorem layout_big (pages stack types : Int) (nc nr ns : Nat) (data : List UInt8) : evF Try.prog (baseC 3 selJ) noLoop 100 10 47 [imgV pages stack types nc nr ns data] ⟨67,[],[],0,[(0,true)],0,True⟩ = some (Value.tuple { toList:=[Value.agg ⟨[.int .u32 0,.int .u32 0,.int .u32 0,.int .u32 0,.int .u32 0,.int .u32 0,.int .u32 0,.int .u32 0]⟩,.bool false] },{ n:=77,h:=[],lo:=[],esc:=0,T:=[],k:=1,O:=((True∧((0:Int) ≤ IntKind.i64.wrap ((4:Int) * (↑nc:Int))∧IntKind.i64.wrap ((4:Int) * (↑nc:Int)) ≤ (100000:Int))∧(rr (Value.int .i64 (IntKind.i64.wrap ((4:Int) * (↑nc:Int))))∧True)∧True∧True)∧((0:Int) ≤ (↑(lenT data):Int)∧(↑(lenT data):Int) ≤ (100000:Int))∧(rr (Value.int .i64 (↑(lenT data)))∧True)∧True∧True)∧decide (IntKind.u32.wrap (IntKind.u32.wrap (bits BinOp.andNot IntKind.u32 (IntKind.u32.wrap (IntKind.u32.wrap (IntKind.u32.wrap (bits BinOp.andNot IntKind.u32 (IntKind.u32.wrap (IntKind.u32.wrap (IntKind.u32.wrap ((0:Int)+(↑(r256 (IntKind.i64.wrap ((4:Int) * (↑nc:Int))).toNat):Int))+(256:Int)) - (1:Int))) (255:Int)+(↑(r256 (↑(lenT data):Int).toNat):Int))+(256:Int)) - (1:Int))) (255:Int)+IntKind.u32.wrap (IntKind.i64.wrap (stack * (↑ns:Int))))+(256:Int)) > IntKind.u32.wrap (IntKind.u32.wrap pages * (256:Int))) = true : St }):=by kernel_rfl
theorem layout_ok (pages stack types : Int) (nc nr ns : Nat) (data : List UInt8) : evF Try.prog (baseC 3 selJ) noLoop 100 10 47 [imgV pages stack types nc nr ns data] ⟨67,[],[],0,[(0,false)],0,True⟩ = some (Value.tuple { toList:=[Value.agg ⟨[.int .u32 0,.int .u32 (↑(r256 (IntKind.i64.wrap ((4:Int) * (↑nc:Int))).toNat):Int),.int .u32 (bits BinOp.andNot IntKind.u32 (IntKind.u32.wrap (IntKind.u32.wrap (IntKind.u32.wrap ((0:Int)+(↑(r256 (IntKind.i64.wrap ((4:Int) * (↑nc:Int))).toNat):Int))+(256:Int)) - (1:Int))) (255:Int)),.int .u32 (↑(r256 (↑(lenT data):Int).toNat):Int),.int .u32 (bits BinOp.andNot IntKind.u32 (IntKind.u32.wrap (IntKind.u32.wrap (IntKind.u32.wrap (bits BinOp.andNot IntKind.u32 (IntKind.u32.wrap (IntKind.u32.wrap (IntKind.u32.wrap ((0:Int)+(↑(r256 (IntKind.i64.wrap ((4:Int) * (↑nc:Int))).toNat):Int))+(256:Int)) - (1:Int))) (255:Int)+(↑(r256 (↑(lenT data):Int).toNat):Int))+(256:Int)) - (1:Int))) (255:Int)),.int .u32 (IntKind.u32.wrap (IntKind.i64.wrap (stack * (↑ns:Int)))),.int .u32 (bits BinOp.andNot IntKind.u32 (IntKind.u32.wrap (IntKind.u32.wrap (IntKind.u32.wrap (bits BinOp.andNot IntKind.u32 (IntKind.u32.wrap (IntKind.u32.wrap (IntKind.u32.wrap (bits BinOp.andNot IntKind.u32 (IntKind.u32.wrap (IntKind.u32.wrap (IntKind.u32.wrap ((0:Int)+(↑(r256 (IntKind.i64.wrap ((4:Int) * (↑nc:Int))).toNat):Int))+(256:Int)) - (1:Int))) (255:Int)+(↑(r256 (↑(lenT data):Int).toNat):Int))+(256:Int)) - (1:Int))) (255:Int)+IntKind.u32.wrap (IntKind.i64.wrap (stack * (↑ns:Int))))+(256:Int)) - (1:Int))) (255:Int)),.int .u32 (IntKind.u32.wrap (IntKind.u32.wrap (IntKind.u32.wrap pages * (256:Int)) - IntKind.u32.wrap (bits BinOp.andNot IntKind.u32 (IntKind.u32.wrap (IntKind.u32.wrap (IntKind.u32.wrap (bits BinOp.andNot IntKind.u32 (IntKind.u32.wrap (IntKind.u32.wrap (IntKind.u32.wrap ((0:Int)+(↑(r256 (IntKind.i64.wrap ((4:Int) * (↑nc:Int))).toNat):Int))+(256:Int)) - (1:Int))) (255:Int)+(↑(r256 (↑(lenT data):Int).toNat):Int))+(256:Int)) - (1:Int))) (255:Int)+IntKind.u32.wrap (IntKind.i64.wrap (stack * (↑ns:Int))))))]⟩,.bool true] },{ n:=79,h:=[],lo:=[],esc:=0,T:=[],k:=1,O:=((True∧((0:Int) ≤ IntKind.i64.wrap ((4:Int) * (↑nc:Int))∧IntKind.i64.wrap ((4:Int) * (↑nc:Int)) ≤ (100000:Int))∧(rr (Value.int .i64 (IntKind.i64.wrap ((4:Int) * (↑nc:Int))))∧True)∧True∧True)∧((0:Int) ≤ (↑(lenT data):Int)∧(↑(lenT data):Int) ≤ (100000:Int))∧(rr (Value.int .i64 (↑(lenT data)))∧True)∧True∧True)∧decide (IntKind.u32.wrap (IntKind.u32.wrap (bits BinOp.andNot IntKind.u32 (IntKind.u32.wrap (IntKind.u32.wrap (IntKind.u32.wrap (bits BinOp.andNot IntKind.u32 (IntKind.u32.wrap (IntKind.u32.wrap (IntKind.u32.wrap ((0:Int)+(↑(r256 (IntKind.i64.wrap ((4:Int) * (↑nc:Int))).toNat):Int))+(256:Int)) - (1:Int))) (255:Int)+(↑(r256 (↑(lenT data):Int).toNat):Int))+(256:Int)) - (1:Int))) (255:Int)+IntKind.u32.wrap (IntKind.i64.wrap (stack * (↑ns:Int))))+(256:Int)) > IntKind.u32.wrap (IntKind.u32.wrap pages * (256:Int))) = false : St }):=by kernel_rfl
theorem rlayout_big (pages stack types : Int) (nc nr ns : Nat) (data : List UInt8) : evF Try.prog (baseC 3 selJ) noLoop 100 10 57 [imgV pages stack types nc nr ns data] ⟨67,[],[],0,[(0,true)],0,True⟩ = some (Value.tuple { toList:=[Value.agg ⟨[.int .u32 0,.int .u32 0,.int .u32 0,.int .u32 0,.int .u32 0,.int .u32 0,.int .u32 0,.int .u32 0]⟩,.bool false] },{ n:=70,h:=[],lo:=[],esc:=0,T:=[],k:=1,O:=((True∧((0:Int) ≤ IntKind.u32.wrap ((4:Int) * IntKind.u32.wrap (↑nc))∧IntKind.u32.wrap ((4:Int) * IntKind.u32.wrap (↑nc)) ≤ (100000:Int))∧(rr (Value.int .u32 (IntKind.u32.wrap ((4:Int) * IntKind.u32.wrap (↑nc))))∧True)∧True∧True)∧((0:Int) ≤ IntKind.u32.wrap (↑(lenT data))∧IntKind.u32.wrap (↑(lenT data)) ≤ (100000:Int))∧(rr (Value.int .u32 (IntKind.u32.wrap (↑(lenT data))))∧True)∧True∧True)∧decide (IntKind.u32.wrap (IntKind.u32.wrap (IntKind.u32.wrap (IntKind.u32.wrap (IntKind.u32.wrap ((IntKind.u32.wrap (IntKind.u32.wrap ((↑(r256 (IntKind.u32.wrap ((4:Int) * IntKind.u32.wrap (↑nc))).toNat):Int)+(256:Int)) - (1:Int))).tdiv (256:Int)) * (256:Int))+(↑(r256 (IntKind.u32.wrap (↑(lenT data))).toNat):Int))+IntKind.u32.wrap (IntKind.i64.wrap (stack * (↑ns:Int))))+(256:Int)) > IntKind.u32.wrap (IntKind.i64.wrap (pages * (256:Int)))) = true : St }):=by kernel_rfl
theorem rlayout_ok (pages stack types : Int) (nc nr ns : Nat) (data : List UInt8) : evF Try.prog (baseC 3 selJ) noLoop 100 10 57 [imgV pages stack types nc nr ns data] ⟨67,[],[],0,[(0,false)],0,True⟩ = some (Value.tuple { toList:=[Value.agg ⟨[.int .u32 0,.int .u32 (↑(r256 (IntKind.u32.wrap ((4:Int) * IntKind.u32.wrap (↑nc))).toNat):Int),.int .u32 (IntKind.u32.wrap (IntKind.u32.wrap ((IntKind.u32.wrap (IntKind.u32.wrap ((↑(r256 (IntKind.u32.wrap ((4:Int) * IntKind.u32.wrap (↑nc))).toNat):Int)+(256:Int)) - (1:Int))).tdiv (256:Int)) * (256:Int))),.int .u32 (↑(r256 (IntKind.u32.wrap (↑(lenT data))).toNat):Int),.int .u32 (IntKind.u32.wrap (IntKind.u32.wrap (IntKind.u32.wrap ((IntKind.u32.wrap (IntKind.u32.wrap ((↑(r256 (IntKind.u32.wrap ((4:Int) * IntKind.u32.wrap (↑nc))).toNat):Int)+(256:Int)) - (1:Int))).tdiv (256:Int)) * (256:Int))+(↑(r256 (IntKind.u32.wrap (↑(lenT data))).toNat):Int))),.int .u32 (IntKind.u32.wrap (IntKind.i64.wrap (stack * (↑ns:Int)))),.int .u32 (IntKind.u32.wrap (IntKind.u32.wrap (IntKind.u32.wrap (IntKind.u32.wrap ((IntKind.u32.wrap (IntKind.u32.wrap ((↑(r256 (IntKind.u32.wrap ((4:Int) * IntKind.u32.wrap (↑nc))).toNat):Int)+(256:Int)) - (1:Int))).tdiv (256:Int)) * (256:Int))+(↑(r256 (IntKind.u32.wrap (↑(lenT data))).toNat):Int))+IntKind.u32.wrap (IntKind.i64.wrap (stack * (↑ns:Int))))),.int .u32 (IntKind.u32.wrap (IntKind.u32.wrap (IntKind.i64.wrap (pages * (256:Int))) - IntKind.u32.wrap (IntKind.u32.wrap (IntKind.u32.wrap (IntKind.u32.wrap ((IntKind.u32.wrap (IntKind.u32.wrap ((↑(r256 (IntKind.u32.wrap ((4:Int) * IntKind.u32.wrap (↑nc))).toNat):Int)+(256:Int)) - (1:Int))).tdiv (256:Int)) * (256:Int))+(↑(r256 (IntKind.u32.wrap (↑(lenT data))).toNat):Int))+IntKind.u32.wrap (IntKind.i64.wrap (stack * (↑ns:Int))))))]⟩,.bool true] },{ n:=70,h:=[],lo:=[],esc:=0,T:=[],k:=1,O:=((True∧((0:Int) ≤ IntKind.u32.wrap ((4:Int) * IntKind.u32.wrap (↑nc))∧IntKind.u32.wrap ((4:Int) * IntKind.u32.wrap (↑nc)) ≤ (100000:Int))∧(rr (Value.int .u32 (IntKind.u32.wrap ((4:Int) * IntKind.u32.wrap (↑nc))))∧True)∧True∧True)∧((0:Int) ≤ IntKind.u32.wrap (↑(lenT data))∧IntKind.u32.wrap (↑(lenT data)) ≤ (100000:Int))∧(rr (Value.int .u32 (IntKind.u32.wrap (↑(lenT data))))∧True)∧True∧True)∧decide (IntKind.u32.wrap (IntKind.u32.wrap (IntKind.u32.wrap (IntKind.u32.wrap (IntKind.u32.wrap ((IntKind.u32.wrap (IntKind.u32.wrap ((↑(r256 (IntKind.u32.wrap ((4:Int) * IntKind.u32.wrap (↑nc))).toNat):Int)+(256:Int)) - (1:Int))).tdiv (256:Int)) * (256:Int))+(↑(r256 (IntKind.u32.wrap (↑(lenT data))).toNat):Int))+IntKind.u32.wrap (IntKind.i64.wrap (stack * (↑ns:Int))))+(256:Int)) > IntKind.u32.wrap (IntKind.i64.wrap (pages * (256:Int)))) = false : St }):=by kernel_rfl
section
variable {P : Program} {call : CallK} {f : FuncId}
theorem conOk_flat (hcall : SoundCall P call) {args : List Value} {n : Nat} {T : List (Nat × Bool)} {v : Value} {s' : St} (hng : NG ≤ n) (ha : args.all (okV (fun l => Nat.blt l n) 3) = true) (h : call f args ⟨n,[],[],0,T,0,True⟩ = some (v,s')) (hO : s'.O) (hv : flat2 v = true) (hu : isU v = false) : ConOk P f 3 ⟨args,n,[],[],v,n,[],[]⟩:=by
 refine conOk_run hcall (T:=T) (v:=v) (s':=s') (p:=fun _ => false) (σ:=id) ⟨hng,Nat.le_refl _,trivial,rfl,rfl,rfl,ha,okV_flat2 hv 1,fun x hx => by cases hx⟩ h hO ?_
 exact ⟨fun _ _ => rfl,trivial,rfl,trivial,⟨okV_flat2 hv 1,(rnV_id 3 v).symm⟩,hu,trivial,rfl,bnd_flat2 _ hv,fun x hx => by cases hx⟩
end
def layFrom (stack : Int) (nc ns len : Nat) : Nat:=r256 (4 * nc) + r256 len + stack.toNat * ns
def layBig (pages stack : Int) (nc ns len : Nat) : Bool:=decide (layFrom stack nc ns len + 256 > pages.toNat * 256)
def pk (b : Bool) (x : Nat) : Int:=bif b then 0 else (x : Int)
def layA (pages stack : Int) (nc ns len : Nat) : Value :=
 .agg ⟨[.int .u32 0,.int .u32 (pk (layBig pages stack nc ns len) (r256 (4 * nc))),.int .u32 (pk (layBig pages stack nc ns len) (r256 (4 * nc))),.int .u32 (pk (layBig pages stack nc ns len) (r256 len)),.int .u32 (pk (layBig pages stack nc ns len) (r256 (4 * nc) + r256 len)),.int .u32 (pk (layBig pages stack nc ns len) (stack.toNat * ns)),.int .u32 (pk (layBig pages stack nc ns len) (layFrom stack nc ns len)),.int .u32 (pk (layBig pages stack nc ns len) (pages.toNat * 256 - layFrom stack nc ns len))]⟩
def layR (pages stack : Int) (nc ns len : Nat) : Value:=.tuple ⟨[layA pages stack nc ns len,.bool (!layBig pages stack nc ns len)]⟩
def layOk (pages stack : Int) (nc ns len : Nat) : Prop:=0 ≤ pages ∧ pages ≤ 1024 ∧ 0 ≤ stack ∧ stack ≤ 4096 ∧ stack % 256 = 0 ∧ nc ≤ 4096 ∧ ns ≤ 4 ∧ len ≤ 16384
def layC (pages stack types : Int) (nc nr ns : Nat) (data : List UInt8) : Con:=⟨[imgV pages stack types nc nr ns data],67,[],[],layR pages stack nc ns data.length,67,[],[]⟩
theorem alg256 (x : Nat) (h : x % 256 = 0) (hx : x ≤ 10000000) : bits .andNot .u32 (IntKind.u32.wrap (IntKind.u32.wrap ((x : Int) + 256) - 1)) 255 = (x : Int):=by
 have e1 : IntKind.u32.wrap (IntKind.u32.wrap ((x : Int) + 256) - 1) = ((x + 255 : Nat) : Int):=by
  rw [IntKind.wrap_u32,IntKind.wrap_u32]; omega
 have e2:=struck (x + 255) 8 (by omega) (by omega)
 rw [show (((2 ^ 8 - 1 : Nat)) : Int) = 255 from rfl] at e2
 rw [e1,e2]
 omega
theorem ralg256' (x : Nat) (h : x % 256 = 0) (hx : x ≤ 10000000) : IntKind.u32.wrap (IntKind.u32.wrap ((IntKind.u32.wrap (IntKind.u32.wrap ((x : Int) + 256) - 1)).tdiv 256) * 256) = (x : Int):=by
 have e1 : IntKind.u32.wrap (IntKind.u32.wrap ((x : Int) + 256) - 1) = ((x + 255 : Nat) : Int):=by
  rw [IntKind.wrap_u32,IntKind.wrap_u32]; omega
 rw [e1,show ((256 : Int)) = ((256 : Nat) : Int) from rfl,← Int.ofNat_tdiv,IntKind.wrap_u32,IntKind.wrap_u32]
 omega
theorem r256_mod (n : Nat) : r256 n % 256 = 0:=by unfold r256; omega
theorem r256_le (n : Nat) : r256 n ≤ n + 255:=by unfold r256; omega
theorem u32_nat (x : Nat) (h : x < 4294967296) : IntKind.u32.wrap (x : Int) = (x : Int):=by rw [IntKind.wrap_u32]; omega
theorem u32_add (x y : Nat) (h : x + y < 4294967296) : IntKind.u32.wrap ((x : Int) + (y : Int)) = ((x + y : Nat) : Int):=by rw [IntKind.wrap_u32]; omega
theorem layC_any {f : FuncId} {pages stack types : Int} {nc nr ns : Nat} {data : List UInt8} {T : List (Nat × Bool)} {s' : St} {v : Value} (h : evF Try.prog (baseC 3 selJ) noLoop 100 10 f [imgV pages stack types nc nr ns data] ⟨67,[],[],0,T,0,True⟩ = some (v,s')) (hv : v = layR pages stack nc ns data.length) (hO : s'.O) : ConOk Try.prog f 3 (layC pages stack types nc nr ns data):=by
 subst hv
 refine conOk_flat (run_ok i_names (baseC_ok selJ_ok) (noLoop_ok _) 10) (by decide) ?_ h hO rfl rfl
 kernel_rfl
theorem stack_ns {s ns : Nat} (h1 : s ≤ 4096) (h2 : ns ≤ 4) : s * ns ≤ 16384:=Nat.mul_le_mul h1 h2
theorem lay_prog (pages stack types : Int) (nc nr ns : Nat) (data : List UInt8) (h : layOk pages stack nc ns data.length) : ConOk Try.prog 47 3 (layC pages stack types nc nr ns data):=by
 obtain ⟨h1,h2,h3,h4,h5,h6,h7,h8⟩:=h
 obtain ⟨p,rfl⟩:=Int.eq_ofNat_of_zero_le h1
 obtain ⟨s,rfl⟩:=Int.eq_ofNat_of_zero_le h3
 have hs:=stack_ns (s:=s) (ns:=ns) (by omega) h7
 have q1:=r256_le (4 * nc)
 have q2:=r256_le data.length
 have m1:=r256_mod (4 * nc)
 have m2:=r256_mod data.length
 have m3 : s * ns % 256 = 0:=by rw [Nat.mul_mod,show s % 256 = 0 by omega]; simp
 have e1 : IntKind.i64.wrap ((4 : Int) * (nc : Int)) = ((4 * nc : Nat) : Int):=by rw [wrap_i64 (by omega) (by omega)]; omega
 have e2 : IntKind.u32.wrap ((0 : Int) + ((r256 (4 * nc) : Nat) : Int)) = ((r256 (4 * nc) : Nat) : Int):=by rw [IntKind.wrap_u32]; omega
 have e3 : IntKind.i64.wrap ((s : Int) * (ns : Int)) = ((s * ns : Nat) : Int):=by rw [Int.ofNat_mul_ofNat,wrap_i64 (by omega) (by omega)]
 have e4 : IntKind.u32.wrap (IntKind.u32.wrap (p : Int) * (256 : Int)) = ((p * 256 : Nat) : Int):=by rw [IntKind.wrap_u32,IntKind.wrap_u32]; omega
 have hd:=layout_big (p : Int) (s : Int) types nc nr ns data
 have hk:=layout_ok (p : Int) (s : Int) types nc nr ns data
 simp only [rr, tt, e1,Int.toNat_natCast,lenT_eq,e2,alg256 _ m1 (by omega),u32_add (r256 (4 * nc)) (r256 data.length) (by omega),alg256 (r256 (4 * nc) + r256 data.length) (by omega) (by omega),e3,u32_nat (s * ns) (by omega),u32_add (r256 (4 * nc) + r256 data.length) (s * ns) (by omega),alg256 (r256 (4 * nc) + r256 data.length + s * ns) (by omega) (by omega),e4] at hd hk
 cases hb : layBig (p : Int) (s : Int) nc ns data.length
 ·have hb' : r256 (4 * nc) + r256 data.length + s * ns + 256 ≤ p * 256:=by
   unfold layBig layFrom at hb; simp only [rr, tt, Int.toNat_natCast,decide_eq_false_iff_not] at hb; omega
  have e5 : IntKind.u32.wrap (((p * 256 : Nat) : Int) - ((r256 (4 * nc) + r256 data.length + s * ns : Nat) : Int)) = ((p * 256 - (r256 (4 * nc) + r256 data.length + s * ns) : Nat) : Int):=by rw [IntKind.wrap_u32]; omega
  rw [e5] at hk
  refine layC_any (T:=[(0,false)]) hk ?_ ?_
  ·unfold layR layA
   rw [hb]
   rfl
  ·refine ⟨⟨⟨trivial,⟨by omega,by omega⟩,⟨trivial,trivial⟩,trivial,trivial⟩,⟨by omega,by omega⟩,⟨trivial,trivial⟩,trivial,trivial⟩,?_⟩
   rw [IntKind.wrap_u32]
   simp only [rr, tt, decide_eq_false_iff_not]; omega
 ·have hb' : ¬ (r256 (4 * nc) + r256 data.length + s * ns + 256 ≤ p * 256):=by
   unfold layBig layFrom at hb; simp only [rr, tt, Int.toNat_natCast,decide_eq_true_eq] at hb; omega
  refine layC_any (T:=[(0,true)]) hd ?_ ?_
  ·unfold layR layA
   rw [hb]
   rfl
  ·refine ⟨⟨⟨trivial,⟨by omega,by omega⟩,⟨trivial,trivial⟩,trivial,trivial⟩,⟨by omega,by omega⟩,⟨trivial,trivial⟩,trivial,trivial⟩,?_⟩
   rw [IntKind.wrap_u32]
   simp only [rr, tt, decide_eq_true_eq]; omega
theorem lay_ref (pages stack types : Int) (nc nr ns : Nat) (data : List UInt8) (h : layOk pages stack nc ns data.length) : ConOk Try.prog 57 3 (layC pages stack types nc nr ns data):=by
 obtain ⟨h1,h2,h3,h4,h5,h6,h7,h8⟩:=h
 obtain ⟨p,rfl⟩:=Int.eq_ofNat_of_zero_le h1
 obtain ⟨s,rfl⟩:=Int.eq_ofNat_of_zero_le h3
 have hs:=stack_ns (s:=s) (ns:=ns) (by omega) h7
 have q1:=r256_le (4 * nc)
 have q2:=r256_le data.length
 have m1:=r256_mod (4 * nc)
 have m2:=r256_mod data.length
 have m3 : s * ns % 256 = 0:=by rw [Nat.mul_mod,show s % 256 = 0 by omega]; simp
 have e1 : IntKind.u32.wrap ((4 : Int) * IntKind.u32.wrap (nc : Int)) = ((4 * nc : Nat) : Int):=by rw [IntKind.wrap_u32,IntKind.wrap_u32]; omega
 have e2:=u32_nat data.length (by omega)
 have e3 : IntKind.i64.wrap ((s : Int) * (ns : Int)) = ((s * ns : Nat) : Int):=by rw [Int.ofNat_mul_ofNat,wrap_i64 (by omega) (by omega)]
 have e4 : IntKind.u32.wrap (IntKind.i64.wrap ((p : Int) * (256 : Int))) = ((p * 256 : Nat) : Int):=by rw [wrap_i64 (by omega) (by omega),IntKind.wrap_u32]; omega
 have hd:=rlayout_big (p : Int) (s : Int) types nc nr ns data
 have hk:=rlayout_ok (p : Int) (s : Int) types nc nr ns data
 simp only [rr, tt, e1,Int.toNat_natCast,lenT_eq,e2,ralg256' _ m1 (by omega),u32_add (r256 (4 * nc)) (r256 data.length) (by omega),e3,u32_nat (s * ns) (by omega),u32_add (r256 (4 * nc) + r256 data.length) (s * ns) (by omega),e4] at hd hk
 cases hb : layBig (p : Int) (s : Int) nc ns data.length
 ·have hb' : r256 (4 * nc) + r256 data.length + s * ns + 256 ≤ p * 256:=by
   unfold layBig layFrom at hb; simp only [rr, tt, Int.toNat_natCast,decide_eq_false_iff_not] at hb; omega
  have e5 : IntKind.u32.wrap (((p * 256 : Nat) : Int) - ((r256 (4 * nc) + r256 data.length + s * ns : Nat) : Int)) = ((p * 256 - (r256 (4 * nc) + r256 data.length + s * ns) : Nat) : Int):=by rw [IntKind.wrap_u32]; omega
  rw [e5] at hk
  refine layC_any (T:=[(0,false)]) hk ?_ ?_
  ·unfold layR layA
   rw [hb]
   rfl
  ·refine ⟨⟨⟨trivial,⟨by omega,by omega⟩,⟨trivial,trivial⟩,trivial,trivial⟩,⟨by omega,by omega⟩,⟨trivial,trivial⟩,trivial,trivial⟩,?_⟩
   rw [IntKind.wrap_u32]
   simp only [rr, tt, decide_eq_false_iff_not]; omega
 ·have hb' : ¬ (r256 (4 * nc) + r256 data.length + s * ns + 256 ≤ p * 256):=by
   unfold layBig layFrom at hb; simp only [rr, tt, Int.toNat_natCast,decide_eq_true_eq] at hb; omega
  refine layC_any (T:=[(0,true)]) hd ?_ ?_
  ·unfold layR layA
   rw [hb]
   rfl
  ·refine ⟨⟨⟨trivial,⟨by omega,by omega⟩,⟨trivial,trivial⟩,trivial,trivial⟩,⟨by omega,by omega⟩,⟨trivial,trivial⟩,trivial,trivial⟩,?_⟩
   rw [IntKind.wrap_u32]
   simp only [rr, tt, decide_eq_true_eq]; omega
def selLay : SelC:=fun f args _ =>
 match args with
 | [.agg ⟨[.int _ pages,.int _ stack,.int _ types,.slice (some a) nc _,.string ⟨⟨data⟩⟩,.slice (some b) nr _,.slice (some c) ns _]⟩] =>
  bif Nat.beq f 47 || Nat.beq f 57 then some (layC pages stack types nc nr ns data,[a.block,b.block,c.block],layOk pages stack nc ns data.length) else none
 | _ => none
theorem selLay_ok : SelOk Try.prog 3 selLay:=by
 intro f args s c ρ q h hq
 unfold selLay at h
 split at h
 ·obtain ⟨h2,h⟩:=bif_some h
  cases h
  simp only [rr, tt, Bool.or_eq_true] at h2
  rcases h2 with h2 | h2
  ·have h2:=eB h2
   subst h2
   exact lay_prog _ _ _ _ _ _ _ hq
  ·have h2:=eB h2
   subst h2
   exact lay_ref _ _ _ _ _ _ _ hq
 ·cases h
def selK : SelC:=selOr selLay selJ
theorem selK_ok : SelOk Try.prog 3 selK:=selOr_ok selLay_ok selJ_ok
end Go.Proofs.Ytliidiceljdgmaa
namespace Go.Proofs.Ytliidiceljdgmaa
open Go.RowKit
open Sy
def layW (a b c d e f g h : Int) : Value:=.agg ⟨[.int .u32 a,.int .u32 b,.int .u32 c,.int .u32 d,.int .u32 e,.int .u32 f,.int .u32 g,.int .u32 h]⟩
def relW (at_ : Int) (code : Bool) (off size perms typ : Int) : Value:=.agg ⟨[.int .u32 at_,.bool code,.int .u32 off,.int .u32 size,.int .u16 perms,.int .u16 typ]⟩
theorem right_dn (pages stack types : Int) (nc nr ns : Nat) (data : List UInt8) (a b c d e f g h x off size perms typ behind : Int) : evF Try.prog (baseC 3 selK) noLoop 100 10 48 [imgV pages stack types nc nr ns data,layW a b c d e f g h,relW x false off size perms typ,.int .u32 behind] ⟨67,[],[],0,[(1,true)],0,True⟩ = some (Value.bool false,{ n:=72,h:=[],lo:=[],esc:=0,T:=[],k:=2,O:=(True∧(tt∧6 < 9000000000000000000)∧(rr (Value.slice (some ⟨71,0,none⟩) 6 6)∧True)∧((tt∧tt∧tt∧tt∧tt∧True∧rr [Value.bool (x.tmod (16:Int) != (0:Int)),.bool (decide (x < behind)),.bool (decide (IntKind.u64.wrap (IntKind.u64.wrap x+(16:Int)) > IntKind.u64.wrap (↑(lenT data)))),.bool (decide (IntKind.u64.wrap (IntKind.u64.wrap off+IntKind.u64.wrap size) > IntKind.u64.wrap (↑(lenT data)))),.bool (bits BinOp.andNot IntKind.u16 perms (155:Int) != (0:Int)),.bool (decide (IntKind.i64.wrap typ > types))])∧True)∧True)∧(!!(x.tmod (16:Int) != (0:Int) || (decide (x < behind) || (decide (IntKind.u64.wrap (IntKind.u64.wrap x+(16:Int)) > IntKind.u64.wrap (↑(lenT data))) || (decide (IntKind.u64.wrap (IntKind.u64.wrap off+IntKind.u64.wrap size) > IntKind.u64.wrap (↑(lenT data))) || (bits BinOp.andNot IntKind.u16 perms (155:Int) != (0:Int) || (decide (IntKind.i64.wrap typ > types) || false))))))) = true : St }):=by kernel_rfl
theorem right_dy (pages stack types : Int) (nc nr ns : Nat) (data : List UInt8) (a b c d e f g h x off size perms typ behind : Int) : evF Try.prog (baseC 3 selK) noLoop 100 10 48 [imgV pages stack types nc nr ns data,layW a b c d e f g h,relW x false off size perms typ,.int .u32 behind] ⟨67,[],[],0,[(1,false)],0,True⟩ = some (Value.bool (encX (IntKind.u32.wrap (c+off)).toNat (IntKind.u64.wrap (IntKind.u64.wrap (IntKind.u32.wrap (c+off))+IntKind.u64.wrap size)).toNat),{ n:=72,h:=[],lo:=[],esc:=0,T:=[],k:=2,O:=((True∧(tt∧6 < 9000000000000000000)∧(rr (Value.slice (some ⟨71,0,none⟩) 6 6)∧True)∧((tt∧tt∧tt∧tt∧tt∧True∧rr [Value.bool (x.tmod (16:Int) != (0:Int)),.bool (decide (x < behind)),.bool (decide (IntKind.u64.wrap (IntKind.u64.wrap x+(16:Int)) > IntKind.u64.wrap (↑(lenT data)))),.bool (decide (IntKind.u64.wrap (IntKind.u64.wrap off+IntKind.u64.wrap size) > IntKind.u64.wrap (↑(lenT data)))),.bool (bits BinOp.andNot IntKind.u16 perms (155:Int) != (0:Int)),.bool (decide (IntKind.i64.wrap typ > types))])∧True)∧True)∧(!!(x.tmod (16:Int) != (0:Int) || (decide (x < behind) || (decide (IntKind.u64.wrap (IntKind.u64.wrap x+(16:Int)) > IntKind.u64.wrap (↑(lenT data))) || (decide (IntKind.u64.wrap (IntKind.u64.wrap off+IntKind.u64.wrap size) > IntKind.u64.wrap (↑(lenT data))) || (bits BinOp.andNot IntKind.u16 perms (155:Int) != (0:Int) || (decide (IntKind.i64.wrap typ > types) || false))))))) = false)∧(((0:Int) ≤ IntKind.u32.wrap (c+off)∧IntKind.u32.wrap (c+off) < (4294967296:Int))∧(0:Int) ≤ IntKind.u64.wrap (IntKind.u64.wrap (IntKind.u32.wrap (c+off))+IntKind.u64.wrap size)∧IntKind.u64.wrap (IntKind.u64.wrap (IntKind.u32.wrap (c+off))+IntKind.u64.wrap size) < (18446744073709551616:Int))∧(rr (Value.int .u32 (IntKind.u32.wrap (c+off)))∧rr (Value.int .u64 (IntKind.u64.wrap (IntKind.u64.wrap (IntKind.u32.wrap (c+off))+IntKind.u64.wrap size)))∧True)∧True∧True : St }):=by kernel_rfl
theorem right_cn (pages stack types : Int) (nc nr ns : Nat) (data : List UInt8) (a b c d e f g h x off size perms typ behind : Int) : evF Try.prog (baseC 3 selK) noLoop 100 10 48 [imgV pages stack types nc nr ns data,layW a b c d e f g h,relW x true off size perms typ,.int .u32 behind] ⟨67,[],[],0,[(1,true)],0,True⟩ = some (Value.bool false,{ n:=72,h:=[],lo:=[],esc:=0,T:=[],k:=2,O:=(True∧(tt∧6 < 9000000000000000000)∧(rr (Value.slice (some ⟨71,0,none⟩) 6 6)∧True)∧((tt∧tt∧tt∧tt∧tt∧True∧rr [Value.bool (x.tmod (16:Int) != (0:Int)),.bool (decide (x < behind)),.bool (decide (IntKind.u64.wrap (IntKind.u64.wrap x+(16:Int)) > IntKind.u64.wrap (↑(lenT data)))),.bool (decide (IntKind.u64.wrap (IntKind.u64.wrap off+IntKind.u64.wrap size) > IntKind.u64.wrap ((4:Int) * IntKind.u64.wrap (↑nc)))),.bool (bits BinOp.andNot IntKind.u16 perms (133:Int) != (0:Int)),.bool (decide (IntKind.i64.wrap typ > types))])∧True)∧True)∧(!!(x.tmod (16:Int) != (0:Int) || (decide (x < behind) || (decide (IntKind.u64.wrap (IntKind.u64.wrap x+(16:Int)) > IntKind.u64.wrap (↑(lenT data))) || (decide (IntKind.u64.wrap (IntKind.u64.wrap off+IntKind.u64.wrap size) > IntKind.u64.wrap ((4:Int) * IntKind.u64.wrap (↑nc))) || (bits BinOp.andNot IntKind.u16 perms (133:Int) != (0:Int) || (decide (IntKind.i64.wrap typ > types) || false))))))) = true : St }):=by kernel_rfl
theorem right_cy (pages stack types : Int) (nc nr ns : Nat) (data : List UInt8) (a b c d e f g h x off size perms typ behind : Int) : evF Try.prog (baseC 3 selK) noLoop 100 10 48 [imgV pages stack types nc nr ns data,layW a b c d e f g h,relW x true off size perms typ,.int .u32 behind] ⟨67,[],[],0,[(1,false)],0,True⟩ = some (Value.bool (encX (IntKind.u32.wrap (a+off)).toNat (IntKind.u64.wrap (IntKind.u64.wrap (IntKind.u32.wrap (a+off))+IntKind.u64.wrap size)).toNat),{ n:=72,h:=[],lo:=[],esc:=0,T:=[],k:=2,O:=((True∧(tt∧6 < 9000000000000000000)∧(rr (Value.slice (some ⟨71,0,none⟩) 6 6)∧True)∧((tt∧tt∧tt∧tt∧tt∧True∧rr [Value.bool (x.tmod (16:Int) != (0:Int)),.bool (decide (x < behind)),.bool (decide (IntKind.u64.wrap (IntKind.u64.wrap x+(16:Int)) > IntKind.u64.wrap (↑(lenT data)))),.bool (decide (IntKind.u64.wrap (IntKind.u64.wrap off+IntKind.u64.wrap size) > IntKind.u64.wrap ((4:Int) * IntKind.u64.wrap (↑nc)))),.bool (bits BinOp.andNot IntKind.u16 perms (133:Int) != (0:Int)),.bool (decide (IntKind.i64.wrap typ > types))])∧True)∧True)∧(!!(x.tmod (16:Int) != (0:Int) || (decide (x < behind) || (decide (IntKind.u64.wrap (IntKind.u64.wrap x+(16:Int)) > IntKind.u64.wrap (↑(lenT data))) || (decide (IntKind.u64.wrap (IntKind.u64.wrap off+IntKind.u64.wrap size) > IntKind.u64.wrap ((4:Int) * IntKind.u64.wrap (↑nc))) || (bits BinOp.andNot IntKind.u16 perms (133:Int) != (0:Int) || (decide (IntKind.i64.wrap typ > types) || false))))))) = false)∧(((0:Int) ≤ IntKind.u32.wrap (a+off)∧IntKind.u32.wrap (a+off) < (4294967296:Int))∧(0:Int) ≤ IntKind.u64.wrap (IntKind.u64.wrap (IntKind.u32.wrap (a+off))+IntKind.u64.wrap size)∧IntKind.u64.wrap (IntKind.u64.wrap (IntKind.u32.wrap (a+off))+IntKind.u64.wrap size) < (18446744073709551616:Int))∧(rr (Value.int .u32 (IntKind.u32.wrap (a+off)))∧rr (Value.int .u64 (IntKind.u64.wrap (IntKind.u64.wrap (IntKind.u32.wrap (a+off))+IntKind.u64.wrap size)))∧True)∧True∧True : St }):=by kernel_rfl
def whole (nc len : Nat) (code : Bool) : Nat:=bif code then 4 * nc else len
def allowed (code : Bool) : Int:=bif code then 133 else 155
def relBad (types : Int) (nc len : Nat) (r : Rl) (behind : Nat) : Bool :=
 decide (r.at_ % 16 ≠ 0) || (decide (r.at_ < behind) || (decide (r.at_ + 16 > len) || (decide (r.off + r.size > whole nc len r.code) || (bits .andNot .u16 (r.perms : Int) (allowed r.code) != 0 || decide ((r.typ : Int) > types)))))
def relRight (types : Int) (nc len a c : Nat) (r : Rl) (behind : Nat) : Bool:=!relBad types nc len r behind && encX ((bif r.code then a else c) + r.off) ((bif r.code then a else c) + r.off + r.size)
structure RlOk (r : Rl) : Prop where
 at_ : r.at_ < 4294967296
 off : r.off < 4294967296
 size : r.size < 4294967296
 perms : r.perms < 65536
 typ : r.typ < 65536
def relV (r : Rl) : Value:=relW r.at_ r.code r.off r.size r.perms r.typ
def rightC (pages stack types : Int) (nc nr ns : Nat) (data : List UInt8) (a : Nat) (b : Int) (c : Nat) (d e f g h : Int) (r : Rl) (behind : Nat) : Con :=
 ⟨[imgV pages stack types nc nr ns data,layW a b c d e f g h,relV r,.int .u32 (behind : Int)],67,[],[],.bool (relRight types nc data.length a c r behind),67,[],[]⟩
theorem right_or (types : Int) (nc len : Nat) (code : Bool) (at_ off size perms typ w : Nat) (pm : Int) (behind : Nat) (hr : RlOk ⟨at_,code,off,size,perms,typ⟩) (hn : nc ≤ 4096) (hl : len ≤ 16384) (hw : w = whole nc len code) (hp : pm = allowed code) :
  ((at_ : Int).tmod 16 != 0 || (decide ((at_ : Int) < (behind : Int)) || (decide (IntKind.u64.wrap (IntKind.u64.wrap (at_ : Int) + 16) > IntKind.u64.wrap (len : Int)) || (decide (IntKind.u64.wrap (IntKind.u64.wrap (off : Int) + IntKind.u64.wrap (size : Int)) > IntKind.u64.wrap (w : Int)) || (bits BinOp.andNot IntKind.u16 (perms : Int) pm != 0 || (decide (IntKind.i64.wrap (typ : Int) > types) || false)))))) = relBad types nc len ⟨at_,code,off,size,perms,typ⟩ behind:=by
 subst hw hp
 obtain ⟨h1,h2,h3,h4,h5⟩:=hr
 simp only [] at h1 h2 h3 h4 h5
 have hw : whole nc len code ≤ 16384:=by unfold whole; cases code <;> simp <;> omega
 unfold relBad
 rw [Bool.or_false]
 congr 1
 ·rw [show (16 : Int) = ((16 : Nat) : Int) from rfl,← Int.ofNat_tmod]
  rw [Bool.eq_iff_iff]; simp only [rr, tt, bne_iff_ne,ne_eq,decide_eq_true_eq]; omega
 congr 1
 ·rw [Bool.eq_iff_iff]; simp only [rr, tt, decide_eq_true_eq]; omega
 congr 1
 ·rw [Bool.eq_iff_iff,IntKind.wrap_u64,IntKind.wrap_u64,IntKind.wrap_u64]; simp only [rr, tt, decide_eq_true_eq]; omega
 congr 1
 ·rw [Bool.eq_iff_iff,IntKind.wrap_u64,IntKind.wrap_u64,IntKind.wrap_u64,IntKind.wrap_u64]; simp only [rr, tt, decide_eq_true_eq]; omega
 congr 1
 ·rw [wrap_i64 (by omega) (by omega)]
theorem exact_in (a : Nat) (r : Rl) (ha : a ≤ 100000) (ho : r.off + r.size ≤ 16384) : encX (IntKind.u32.wrap ((a : Int) + (r.off : Int))).toNat (IntKind.u64.wrap (IntKind.u64.wrap (IntKind.u32.wrap ((a : Int) + (r.off : Int))) + IntKind.u64.wrap (r.size : Int))).toNat = encX (a + r.off) (a + r.off + r.size):=by
 have e1 : IntKind.u32.wrap ((a : Int) + (r.off : Int)) = ((a + r.off : Nat) : Int):=by rw [IntKind.wrap_u32]; omega
 have e2 : IntKind.u64.wrap (IntKind.u64.wrap ((a + r.off : Nat) : Int) + IntKind.u64.wrap (r.size : Int)) = ((a + r.off + r.size : Nat) : Int):=by rw [IntKind.wrap_u64,IntKind.wrap_u64,IntKind.wrap_u64]; omega
 rw [e1,e2]; rfl
def rightOk (nc len : Nat) (a c : Nat) (r : Rl) : Prop:=RlOk r ∧ nc ≤ 4096 ∧ len ≤ 16384 ∧ a ≤ 100000 ∧ c ≤ 100000
theorem flat_any {f : FuncId} {args : List Value} {T : List (Nat × Bool)} {s' : St} {v v' : Value} (h : evF Try.prog (baseC 3 selK) noLoop 100 10 f args ⟨67,[],[],0,T,0,True⟩ = some (v,s')) (ha : args.all (okV (fun l => Nat.blt l 67) 3) = true) (hv : v = v') (hO : s'.O) (hf : flat2 v' = true) (hu : isU v' = false) : ConOk Try.prog f 3 ⟨args,67,[],[],v',67,[],[]⟩:=by
 subst hv
 exact conOk_flat (run_ok i_names (baseC_ok selK_ok) (noLoop_ok _) 10) (by decide) ha h hO hf hu
theorem right_prog (pages stack types : Int) (nc nr ns : Nat) (data : List UInt8) (a : Nat) (b : Int) (c : Nat) (d e f g h : Int) (r : Rl) (behind : Nat) (hq : rightOk nc data.length a c r) : ConOk Try.prog 48 3 (rightC pages stack types nc nr ns data a b c d e f g h r behind):=by
 obtain ⟨hr,hn,hl,ha,hc⟩:=hq
 have hb4 : IntKind.u64.wrap ((4 : Int) * IntKind.u64.wrap (nc : Int)) = IntKind.u64.wrap ((4 * nc : Nat) : Int):=by
  rw [IntKind.wrap_u64,IntKind.wrap_u64,IntKind.wrap_u64]; omega
 obtain ⟨at_,code,off,size,perms,typ⟩:=r
 have hall : ∀ x : Bool,(rightC pages stack types nc nr ns data a b c d e f g h ⟨at_,x,off,size,perms,typ⟩ behind).args.all (okV (fun l => Nat.blt l 67) 3) = true:=fun x => by kernel_rfl
 have hw : ∀ x,relBad types nc data.length ⟨at_,x,off,size,perms,typ⟩ behind = false → off + size ≤ 16384:=fun x hx => by
  unfold relBad at hx
  simp only [rr, tt, Bool.or_eq_false_iff,decide_eq_false_iff_not] at hx
  have h1:=hx.2.2.2.1
  have h2 : whole nc data.length x ≤ 16384:=by unfold whole; cases x <;> simp <;> omega
  omega
 have hO6 : (6 : Nat) < 9000000000000000000:=by omega
 cases code
 ·have hd:=right_dn pages stack types nc nr ns data a b c d e f g h at_ off size perms typ behind
  have hk:=right_dy pages stack types nc nr ns data a b c d e f g h at_ off size perms typ behind
  have ho:=right_or types nc data.length false at_ off size perms typ data.length 155 behind hr hn hl rfl rfl
  rw [lenT_eq,ho] at hd hk
  cases hb : relBad types nc data.length ⟨at_,false,off,size,perms,typ⟩ behind <;> rw [hb] at hd hk
  ·refine flat_any hk (hall false) ?_ ?_ rfl rfl
   ·have:=exact_in c ⟨at_,false,off,size,perms,typ⟩ hc (hw _ hb)
    simp only [] at this
    rw [this]; simp only [rr, tt, relRight,hb,Bool.not_false,Bool.true_and,cond_false]
   ·refine ⟨?_,?_⟩
    ·simp [hO6]
    ·simp only [rr, tt, IntKind.wrap_u64,IntKind.wrap_u32]
     refine ⟨⟨by omega,by omega⟩,?_,trivial,trivial⟩
     simp
  ·refine flat_any hd (hall false) ?_ ?_ rfl rfl
   ·simp only [rr, tt, relRight,hb,Bool.not_true,Bool.false_and]
   ·simp [hO6]
 ·have hd:=right_cn pages stack types nc nr ns data a b c d e f g h at_ off size perms typ behind
  have hk:=right_cy pages stack types nc nr ns data a b c d e f g h at_ off size perms typ behind
  have ho:=right_or types nc data.length true at_ off size perms typ (4 * nc) 133 behind hr hn hl rfl rfl
  rw [lenT_eq,hb4,ho] at hd hk
  cases hb : relBad types nc data.length ⟨at_,true,off,size,perms,typ⟩ behind <;> rw [hb] at hd hk
  ·refine flat_any hk (hall true) ?_ ?_ rfl rfl
   ·have:=exact_in a ⟨at_,true,off,size,perms,typ⟩ ha (hw _ hb)
    simp only [] at this
    rw [this]; simp only [rr, tt, relRight,hb,Bool.not_false,Bool.true_and,cond_true]
   ·refine ⟨?_,?_⟩
    ·simp [hO6]
    ·simp only [rr, tt, IntKind.wrap_u64,IntKind.wrap_u32]
     refine ⟨⟨by omega,by omega⟩,?_,trivial,trivial⟩
     simp
  ·refine flat_any hd (hall true) ?_ ?_ rfl rfl
   ·simp only [rr, tt, relRight,hb,Bool.not_true,Bool.false_and]
   ·simp [hO6]
end Go.Proofs.Ytliidiceljdgmaa
namespace Go.Proofs.Ytliidiceljdgmaa
open Go.RowKit
open Sy
def rl0 (rs : List Rl) (k : Nat) : Rl:=rs.getD k ⟨0,false,0,0,0,0⟩
theorem getD'_append (d : Value) : ∀ (a b : List Value) (i : Nat),getD' d (a ++ b) (a.length + i) = getD' d b i
 | [],b,i => by simp
 | x :: a,b,i => by
  have:=getD'_append d a b i
  rw [show (x :: a).length + i = (a.length + i) + 1 by simp; omega]
  exact this
theorem rels_cons (x : Rl) (rs : List Rl) : rels (x :: rs) = relC x ++ rels rs:=by simp [rels]
theorem rels_len (rs : List Rl) : (rels rs).length = rs.length * 6:=by
 induction rs with
 | nil => rfl
 | cons x rs ih => rw [rels_cons,List.length_append,ih]; simp [relC]; omega
theorem rels_get : ∀ (rs : List Rl) (k j : Nat),k < rs.length → j < 6 → getD' undef (rels rs) (k * 6 + j) = getD' undef (relC (rl0 rs k)) j
 | [],k,j,h,_ => by simp at h
 | x :: rs,0,j,_,hj => by
  rw [rels_cons]
  obtain rfl | rfl | rfl | rfl | rfl | rfl : j = 0 ∨ j = 1 ∨ j = 2 ∨ j = 3 ∨ j = 4 ∨ j = 5:=by omega
  all_goals rfl
 | x :: rs,k + 1,j,h,hj => by
  rw [rels_cons,show (k + 1) * 6 + j = (relC x).length + (k * 6 + j) by simp [relC]; omega,getD'_append]
  exact rels_get rs k j (by simp at h; omega) hj
theorem rels_0 {rs : List Rl} {k : Nat} (h : k < rs.length) : intOf' (getD' undef (rels rs) (k * 6)) = ((rl0 rs k).at_ : Int):=by
 have:=rels_get rs k 0 h (by omega); rw [Nat.add_zero] at this; rw [this]; rfl
theorem rels_1 {rs : List Rl} {k : Nat} (h : k < rs.length) : boolOf' (getD' undef (rels rs) (k * 6 + 1)) = (rl0 rs k).code:=by rw [rels_get rs k 1 h (by omega)]; rfl
theorem rels_2 {rs : List Rl} {k : Nat} (h : k < rs.length) : intOf' (getD' undef (rels rs) (k * 6 + 2)) = ((rl0 rs k).off : Int):=by rw [rels_get rs k 2 h (by omega)]; rfl
theorem rels_3 {rs : List Rl} {k : Nat} (h : k < rs.length) : intOf' (getD' undef (rels rs) (k * 6 + 3)) = ((rl0 rs k).size : Int):=by rw [rels_get rs k 3 h (by omega)]; rfl
theorem rels_4 {rs : List Rl} {k : Nat} (h : k < rs.length) : intOf' (getD' undef (rels rs) (k * 6 + 4)) = ((rl0 rs k).perms : Int):=by rw [rels_get rs k 4 h (by omega)]; rfl
theorem rels_5 {rs : List Rl} {k : Nat} (h : k < rs.length) : intOf' (getD' undef (rels rs) (k * 6 + 5)) = ((rl0 rs k).typ : Int):=by rw [rels_get rs k 5 h (by omega)]; rfl
theorem rels_has {rs : List Rl} (n : Nat) : hasN n (rels rs) = decide (n ≤ rs.length * 6):=by
 rw [Bool.eq_iff_iff,hasN_iff,rels_len]; simp
theorem rels_like {rs : List Rl} {k : Nat} (h : k < rs.length) (a c d e f : Int) (b : Bool) : isLikeL [.int .u32 a,.bool b,.int .u32 c,.int .u32 d,.int .u16 e,.int .u16 f] (rels rs) (k * 6) = true:=by
 have h0:=rels_get rs k 0 h (by omega)
 rw [Nat.add_zero] at h0
 simp only [rr, tt, isLikeL,Nat.add_assoc,Nat.reduceAdd,h0,rels_get rs k 1 h (by omega),rels_get rs k 2 h (by omega),rels_get rs k 3 h (by omega),rels_get rs k 4 h (by omega),rels_get rs k 5 h (by omega)]
 rfl
theorem rels_flat (rs : List Rl) : ∀ v ∈ rels rs,flat0 v = true:=by
 intro v hv
 unfold rels at hv
 obtain ⟨x,_,hx⟩:=List.mem_flatMap.1 hv
 simp only [rr, tt, relC,List.mem_cons,List.not_mem_nil,or_false] at hx
 rcases hx with rfl | rfl | rfl | rfl | rfl | rfl <;> rfl
end Go.Proofs.Ytliidiceljdgmaa
namespace Go.Proofs.Ytliidiceljdgmaa
open Go.RowKit
open Sy
def behindN (rs : List Rl) (k : Nat) : Nat:=match k with | 0 => 0 | k + 1 => (rl0 rs k).at_ + 16
end Go.Proofs.Ytliidiceljdgmaa
namespace Go.Proofs.Ytliidiceljdgmaa
open Go.RowKit
open Sy
def selRight : SelC:=fun f args _ =>
 match args with
 | [.agg ⟨[.int _ pages,.int _ stack,.int _ types,.slice (some i) nc _,.string ⟨⟨data⟩⟩,.slice (some j) nr _,.slice (some k) ns _]⟩,.agg ⟨[.int _ a,.int _ b,.int _ c,.int _ d,.int _ e,.int _ g,.int _ h,.int _ m]⟩,.agg ⟨[.int _ x,.bool code,.int _ off,.int _ size,.int _ perms,.int _ typ]⟩,.int _ behind] =>
  bif Nat.beq f 48 then some (rightC pages stack types nc nr ns data a.toNat b c.toNat d e g h m ⟨x.toNat,code,off.toNat,size.toNat,perms.toNat,typ.toNat⟩ behind.toNat,[i.block,j.block,k.block],rightOk nc data.length a.toNat c.toNat ⟨x.toNat,code,off.toNat,size.toNat,perms.toNat,typ.toNat⟩) else none
 | _ => none
theorem selRight_ok : SelOk Try.prog 3 selRight:=by
 intro f args s c ρ q h hq
 unfold selRight at h
 split at h
 ·obtain ⟨h2,h⟩:=bif_some h
  have h2:=eB h2
  subst h2
  cases h
  exact right_prog _ _ _ _ _ _ _ _ _ _ _ _ _ _ _ _ _ hq
 ·cases h
def selL : SelC:=selOr selRight selK
theorem selL_ok : SelOk Try.prog 3 selL:=selOr_ok selRight_ok selK_ok
end Go.Proofs.Ytliidiceljdgmaa
namespace Go.Proofs.Ytliidiceljdgmaa
open Go.RowKit
open Sy
theorem st_a (pages : Int) (stack : Int) (types : Int) (nc : Nat) (nr : Nat) (data : List UInt8) (starts : List Nat) (k : Nat) : evC Try.prog (evF Try.prog noBase noLoop 100 3) (noLoop 71) 19 100 (loopOf Try.prog 71 0) (Sf.frT 19 (stI pages stack types nc nr data starts k) [(0,true),(1,true)]) = some (Exit.ret,{ e:=[[Value.slice (some ⟨66,0,none⟩) starts.length 9223372036854775874,.func (Fn.func 46) { toList:=[] } { toList:=[Value.pointer (some ⟨67,0,none⟩)] },unk,unk,.int .i64 (↑k),.int .i64 (↑k),unk,.int .i64 (↑starts.length),.int .i64 (↑k),.bool (decide ((↑k : Int) < (↑starts.length : Int))),.int .i64 (↑k),.func (Fn.func 46) { toList:=[] } { toList:=[Value.pointer (some ⟨67,0,none⟩)] },.slice (some ⟨66,0,none⟩) starts.length 9223372036854775874,.int .i64 (↑k),.pointer (some { block:=66,off:=0 + (↑k : Int).toNat * 1 }),.int .u32 (intOf' (getD' undef (u32s starts) (0 + (↑k : Int).toNat * 1)))],[Value.bool (decide (IntKind.i64.wrap (intOf' (getD' undef (u32s starts) (0 + (↑k : Int).toNat * 1))) ≥ (↑nc : Int))),.int .i64 (↑k),unk,unk,unk,unk,unk,unk,unk,unk,unk,unk,unk,unk,unk,unk]],s:={ n:=71,h:=[(66,⟨false,some (0,0),u32s starts,none⟩),(67,⟨false,none,[Value.int .i64 pages,.int .i64 stack,.int .i64 types,.slice (some ⟨64,0,none⟩) nc 9223372036854775872,.string ⟨⟨data⟩⟩,.slice (some ⟨65,0,none⟩) nr 9223372036854775873,.slice (some ⟨66,0,none⟩) starts.length 9223372036854775874],none⟩)],lo:=[],esc:=0,T:=[],k:=2,O:=(bif hasN (0 + (↑k : Int).toNat * 1 + 1) (u32s starts) && isLikeL [Value.int .u32 0] (u32s starts) (0 + (↑k : Int).toNat * 1) then bif decide ((0 : Int) ≤ (↑k : Int)) && decide ((↑k : Int) < (↑starts.length : Int)) then True ∧ decide ((↑k : Int) < (↑starts.length : Int)) = true else False else False) ∧ decide (IntKind.i64.wrap (intOf' (getD' undef (u32s starts) (0 + (↑k : Int).toNat * 1))) ≥ (↑nc : Int)) = true : St } : Fr }):=by kernel_rfl
theorem st_b (pages : Int) (stack : Int) (types : Int) (nc : Nat) (nr : Nat) (data : List UInt8) (starts : List Nat) (k : Nat) : evC Try.prog (evF Try.prog noBase noLoop 100 3) (noLoop 71) 19 100 (loopOf Try.prog 71 0) (Sf.frT 19 (stI pages stack types nc nr data starts k) [(0,true),(1,false)]) = some (Exit.normal,{ e:=[[Value.slice (some ⟨66,0,none⟩) starts.length 9223372036854775874,.func (Fn.func 46) { toList:=[] } { toList:=[Value.pointer (some ⟨67,0,none⟩)] },unk,unk,unk,.int .i64 (↑k),unk,.int .i64 (↑starts.length),.int .i64 (IntKind.i64.wrap ((↑k : Int) + (1 : Int))),.bool (decide ((↑k : Int) < (↑starts.length : Int))),.int .i64 (↑k),.func (Fn.func 46) { toList:=[] } { toList:=[Value.pointer (some ⟨67,0,none⟩)] },.slice (some ⟨66,0,none⟩) starts.length 9223372036854775874,.int .i64 (↑k),.pointer (some { block:=66,off:=0 + (↑k : Int).toNat * 1 }),.int .u32 (intOf' (getD' undef (u32s starts) (0 + (↑k : Int).toNat * 1)))],[Value.bool (decide (IntKind.i64.wrap (intOf' (getD' undef (u32s starts) (0 + (↑k : Int).toNat * 1))) ≥ (↑nc : Int))),unk,.int .i64 (IntKind.i64.wrap ((↑k : Int) + (1 : Int))),unk,unk,unk,unk,unk,unk,unk,unk,unk,unk,unk,unk,unk]],s:={ n:=71,h:=[(66,⟨false,some (0,0),u32s starts,none⟩),(67,⟨false,none,[Value.int .i64 pages,.int .i64 stack,.int .i64 types,.slice (some ⟨64,0,none⟩) nc 9223372036854775872,.string ⟨⟨data⟩⟩,.slice (some ⟨65,0,none⟩) nr 9223372036854775873,.slice (some ⟨66,0,none⟩) starts.length 9223372036854775874],none⟩)],lo:=[],esc:=0,T:=[],k:=2,O:=(bif hasN (0 + (↑k : Int).toNat * 1 + 1) (u32s starts) && isLikeL [Value.int .u32 0] (u32s starts) (0 + (↑k : Int).toNat * 1) then bif decide ((0 : Int) ≤ (↑k : Int)) && decide ((↑k : Int) < (↑starts.length : Int)) then True ∧ decide ((↑k : Int) < (↑starts.length : Int)) = true else False else False) ∧ decide (IntKind.i64.wrap (intOf' (getD' undef (u32s starts) (0 + (↑k : Int).toNat * 1))) ≥ (↑nc : Int)) = false : St } : Fr }):=by kernel_rfl
theorem st_c (pages : Int) (stack : Int) (types : Int) (nc : Nat) (nr : Nat) (data : List UInt8) (starts : List Nat) (k : Nat) : evC Try.prog (evF Try.prog noBase noLoop 100 3) (noLoop 71) 19 100 (loopOf Try.prog 71 0) (Sf.frT 19 (stI pages stack types nc nr data starts k) [(0,false)]) = some (Exit.exit 0,{ e:=[[Value.slice (some ⟨66,0,none⟩) starts.length 9223372036854775874,.func (Fn.func 46) { toList:=[] } { toList:=[Value.pointer (some ⟨67,0,none⟩)] },unk,unk,unk,unk,unk,.int .i64 (↑starts.length),.int .i64 (↑k),.bool (decide ((↑k : Int) < (↑starts.length : Int))),unk,unk,unk,unk,unk,unk],[unk,unk,unk,unk,unk,unk,unk,unk,unk,unk,unk,unk,unk,unk,unk,unk]],s:={ n:=71,h:=[(66,⟨false,some (0,0),u32s starts,none⟩),(67,⟨false,none,[Value.int .i64 pages,.int .i64 stack,.int .i64 types,.slice (some ⟨64,0,none⟩) nc 9223372036854775872,.string ⟨⟨data⟩⟩,.slice (some ⟨65,0,none⟩) nr 9223372036854775873,.slice (some ⟨66,0,none⟩) starts.length 9223372036854775874],none⟩)],lo:=[],esc:=0,T:=[],k:=1,O:=True ∧ decide ((↑k : Int) < (↑starts.length : Int)) = false : St } : Fr }):=by kernel_rfl
theorem ng71 : NG ≤ 71:=by decide
theorem u32_i64 {x : Nat} (h : x < 4294967296) : IntKind.i64.wrap (x : Int) = x:=wrap_i64 (by omega) (by omega)
theorem stI_wf (pages stack types : Int) (nc nr : Nat) (data : List UInt8) (starts : List Nat) (k : Nat) : (stI pages stack types nc nr data starts k).Wf :=
 ⟨ng71,Sf.Ok.mk' 3 ⟨⟨rfl,rfl,flat_bnd (u32s_flat starts)⟩,⟨rfl,rfl,fun v hv => okV_bnd 3 v (List.all_eq_true.1 (show (imgL pages stack types nc nr starts.length data).all (okV (fun l => Nat.blt l 71) 3) = true from by kernel_rfl) v hv)⟩,trivial⟩ rfl (fun x hx => by
  have : (stI pages stack types nc nr data starts k).e.all (fun x => okV (fun l => Nat.blt l 71) 3 x.2) = true:=by kernel_rfl
  exact List.all_eq_true.1 this x hx)⟩
theorem st_next (pages stack types : Int) (nc nr : Nat) (data : List UInt8) (starts : List Nat) (k : Nat) (e : Sf) (hl : starts.length < 9000000000000000000) (hx : starts.getD k 0 < 4294967296) (hk : k < starts.length) (hv : starts.getD k 0 < nc) (hn : e.n = 71) (he : e.Ok (keeps 71 71 id (fun l => Nat.blt l 71))) :
  ∃ g,evC Try.prog (evF Try.prog noBase noLoop 100 3) (noLoop 71) 19 100 (loopOf Try.prog 71 0) ((stI pages stack types nc nr data starts k).frT 19 [(0,true),(1,false)]) = some (.normal,g) ∧ g.s.O ∧
   Sf.Leads 3 (fun l => Nat.blt l 71) id (stI pages stack types nc nr data starts k) g (stI pages stack types nc nr data starts (k + 1)) e:=by
 refine ⟨_,st_b pages stack types nc nr data starts k,?_,?_⟩
 ·simp only [rr, tt, u32s_has,u32s_like,u32s_at,Int.toNat_natCast,Nat.zero_add,Nat.mul_one]
  rw [u32_i64 hx]
  exact ⟨bif_true (by simp; omega) (bif_true (by simp; omega) ⟨trivial,by simp; omega⟩),by simp only [rr, tt, decide_eq_false_iff_not]; omega⟩
 ·refine ⟨fun _ _ => rfl,⟨⟨rfl,flat_all (u32s_flat starts),rfl,rfl,rfl,trivial,(flat_map (u32s_flat starts)).symm⟩,⟨rfl,by kernel_rfl,rfl,rfl,rfl,trivial,by kernel_rfl⟩,trivial⟩,rfl,trivial,⟨⟨by kernel_rfl,by kernel_rfl⟩,⟨rfl,by kernel_rfl⟩,⟨rfl,by kernel_rfl⟩,⟨rfl,?_⟩,trivial⟩,Nat.le_refl _,fun l hl => blt_no hl,?_,?_⟩
  ·refine Eq.trans (b:=Value.int .i64 (IntKind.i64.wrap ((k : Int) + 1))) (by kernel_rfl) ?_
   rw [cast_succ_i64 k (by omega)]; rfl
  ·rw [hn]; exact he
  ·intro x _ _; exact .inl rfl
theorem stF_ok (j : Nat) : (stF j).Ok (keeps 71 71 id (fun l => Nat.blt l 71)):=Sf.Ok.mk' 3 trivial rfl (by simp [stF,okV,flat0])
theorem stN_ok : stN.Ok (keeps 71 71 id (fun l => Nat.blt l 71)):=Sf.Ok.mk' 3 trivial rfl (by simp [stN])
theorem st_found (pages stack types : Int) (nc nr : Nat) (data : List UInt8) (starts : List Nat) (j : Nat) (hl : starts.length < 9000000000000000000) (hx : ∀ x ∈ starts,x < 4294967296) (hj : j < starts.length) (hv : nc ≤ starts.getD j 0) (hn : ∀ i,i < j → starts.getD i 0 < nc) :
  ∀ x : { k : Nat // k ≤ j },LoopOk Try.prog 19 (loopOf Try.prog 71 0) ((stI pages stack types nc nr data starts x.1).fr 19) .ret ((stF j).fr 19):=by
 have hx' : ∀ i,i < starts.length → starts.getD i 0 < 4294967296:=fun i hi => by
  rw [List.getD_eq_getElem?_getD,List.getElem?_eq_getElem hi]; exact hx _ (List.getElem_mem hi)
 refine loop_ok (L:=100) (run_ok (L:=100) i_names (noBase_ok _) (noLoop_ok _) 3) (noLoop_any _ _ 71) (fun _ h => h) (X:={ k : Nat // k ≤ j }) (fun x => stI pages stack types nc nr data starts x.1) (fun _ => stF j) (fun _ => .ret) (fun x => j - x.1) (fun x => stI_wf pages stack types nc nr data starts x.1) ?_
 rintro ⟨k,hk⟩
 by_cases h : k = j
 ·subst h
  refine ⟨[(0,true),(1,true)],.ret,_,3,fun l => Nat.blt l 71,id,st_a pages stack types nc nr data starts k,?_,.inr ⟨by simp,rfl,?_⟩⟩
  ·simp only [rr, tt, u32s_has,u32s_like,u32s_at,Int.toNat_natCast,Nat.zero_add,Nat.mul_one]
   rw [u32_i64 (hx' k hj)]
   exact ⟨bif_true (by simp; omega) (bif_true (by simp; omega) ⟨trivial,by simp; omega⟩),by simp only [rr, tt, decide_eq_true_eq]; omega⟩
  ·exact ⟨fun _ _ => rfl,trivial,rfl,trivial,⟨⟨rfl,by kernel_rfl⟩,trivial⟩,Nat.le_refl _,fun l hl => blt_no hl,stF_ok k,fun x hx => by cases hx⟩
 ·obtain ⟨g,h1,h2,h3⟩:=st_next pages stack types nc nr data starts k (stF j) hl (hx' k (by omega)) (by omega) (hn k (by omega)) rfl (stF_ok j)
  exact ⟨_,.normal,g,3,_,_,h1,h2,.inl ⟨rfl,⟨k + 1,by omega⟩,by show j - (k + 1) < j - k; omega,rfl,rfl,h3⟩⟩
theorem st_none (pages stack types : Int) (nc nr : Nat) (data : List UInt8) (starts : List Nat) (hl : starts.length < 9000000000000000000) (hx : ∀ x ∈ starts,x < 4294967296) (hn : ∀ i,i < starts.length → starts.getD i 0 < nc) :
  ∀ x : { k : Nat // k ≤ starts.length },LoopOk Try.prog 19 (loopOf Try.prog 71 0) ((stI pages stack types nc nr data starts x.1).fr 19) (.exit 0) (stN.fr 19):=by
 have hx' : ∀ i,i < starts.length → starts.getD i 0 < 4294967296:=fun i hi => by
  rw [List.getD_eq_getElem?_getD,List.getElem?_eq_getElem hi]; exact hx _ (List.getElem_mem hi)
 refine loop_ok (L:=100) (run_ok (L:=100) i_names (noBase_ok _) (noLoop_ok _) 3) (noLoop_any _ _ 71) (fun _ h => h) (X:={ k : Nat // k ≤ starts.length }) (fun x => stI pages stack types nc nr data starts x.1) (fun _ => stN) (fun _ => .exit 0) (fun x => starts.length - x.1) (fun x => stI_wf pages stack types nc nr data starts x.1) ?_
 rintro ⟨k,hk⟩
 by_cases h : k < starts.length
 ·obtain ⟨g,h1,h2,h3⟩:=st_next pages stack types nc nr data starts k stN hl (hx' k h) h (hn k h) rfl stN_ok
  exact ⟨_,.normal,g,3,_,_,h1,h2,.inl ⟨rfl,⟨k + 1,by omega⟩,by show starts.length - (k + 1) < starts.length - k; omega,rfl,rfl,h3⟩⟩
 ·refine ⟨[(0,false)],.exit 0,_,3,fun l => Nat.blt l 71,id,st_c pages stack types nc nr data starts k,?_,.inr ⟨by simp,rfl,?_⟩⟩
  ·simp; omega
  ·exact ⟨fun _ _ => rfl,trivial,rfl,trivial,trivial,Nat.le_refl _,fun l hl => blt_no hl,stN_ok,fun x hx => by cases hx⟩
def stEntF (pages stack types : Int) (nc nr : Nat) (data : List UInt8) (starts : List Nat) (j : Nat) (hl : starts.length < 9000000000000000000) (hx : ∀ x ∈ starts,x < 4294967296) (hj : j < starts.length) (hv : nc ≤ starts.getD j 0) (hn : ∀ i,i < j → starts.getD i 0 < nc) : Ent Try.prog :=
 entC Try.prog 71 0 19 (stI pages stack types nc nr data starts 0) .ret (stF j) (by kernel_rfl) (by kernel_rfl) (st_found pages stack types nc nr data starts j hl hx hj hv hn ⟨0,Nat.zero_le _⟩)
def stEntN (pages stack types : Int) (nc nr : Nat) (data : List UInt8) (starts : List Nat) (hl : starts.length < 9000000000000000000) (hx : ∀ x ∈ starts,x < 4294967296) (hn : ∀ i,i < starts.length → starts.getD i 0 < nc) : Ent Try.prog :=
 entC Try.prog 71 0 19 (stI pages stack types nc nr data starts 0) (.exit 0) stN (by kernel_rfl) (by kernel_rfl) (st_none pages stack types nc nr data starts hl hx hn ⟨0,Nat.zero_le _⟩)
end Go.Proofs.Ytliidiceljdgmaa
namespace Go.Proofs.Ytliidiceljdgmaa
open Go.RowKit
open Sy
def zeros8 : List Value:=[.int .u32 0,.int .u32 0,.int .u32 0,.int .u32 0,.int .u32 0,.int .u32 0,.int .u32 0,.int .u32 0]
def layL (a b c d e f g h : Int) : List Value:=[.int .u32 a,.int .u32 b,.int .u32 c,.int .u32 d,.int .u32 e,.int .u32 f,.int .u32 g,.int .u32 h]
def relI (pages stack types : Int) (nc ns : Nat) (data : List UInt8) (rs : List Rl) (a b c d e f g h : Int) (behind k : Nat) : Sf :=
 ⟨72,[(1,.pointer (some ⟨67,0,none⟩)),(2,.pointer (some ⟨68,0,none⟩)),(4,.pointer (some ⟨71,0,none⟩)),(6,.int .u32 (behind : Nat)),(80,.slice (some ⟨65,0,none⟩) rs.length (big + 65)),(81,.int .i64 (rs.length : Nat)),(82,.int .i64 (k : Nat))],
  [(65,⟨false,some (0,0),rels rs,none⟩),(67,⟨false,none,imgL pages stack types nc rs.length ns data,none⟩),(68,⟨true,none,zeros8,none⟩),(71,⟨false,none,layL a b c d e f g h,none⟩)],[]⟩
def relF : Sf:=⟨72,[(2,.pointer (some ⟨68,0,none⟩)),(3,.int .i64 2)],[(68,⟨true,none,zeros8,none⟩)],[]⟩
def relE : Sf:=⟨72,[(2,.pointer (some ⟨68,0,none⟩)),(4,.pointer (some ⟨71,0,none⟩))],[(68,⟨true,none,zeros8,none⟩)],[]⟩
theorem lr_next (pages : Int) (stack : Int) (types : Int) (nc : Nat) (ns : Nat) (data : List UInt8) (rs : List Rl) (a : Int) (b : Int) (c : Int) (d : Int) (e : Int) (f : Int) (g : Int) (h : Int) (behind : Nat) (k : Nat) : evC Try.prog (evF Try.prog (baseC 3 selL) noLoop 100 3) (noLoop 16) 98 100 (loopOf Try.prog 16 0) (Sf.frT 98 (relI pages stack types nc ns data rs a b c d e f g h behind k) [(0,true),(1,false)]) = some (Exit.normal,{ e:=[[unk,.pointer (some ⟨67,0,none⟩),.pointer (some ⟨68,0,none⟩),unk,.pointer (some ⟨71,0,none⟩),unk,.int .u32 (IntKind.u32.wrap (intOf' (getD' undef (rels rs) (0 + (↑k : Int).toNat * 6)) + (16 : Int))),unk,.pointer (some ⟨72,0,none⟩),unk,unk,unk,unk,unk,unk,unk],[unk,unk,unk,unk,unk,unk,unk,unk,unk,unk,unk,unk,unk,unk,unk,unk],[unk,unk,unk,unk,unk,unk,unk,unk,unk,unk,unk,unk,unk,unk,unk,unk],[unk,unk,unk,unk,unk,unk,unk,unk,unk,unk,unk,unk,unk,unk,unk,unk],[unk,unk,unk,unk,unk,unk,unk,unk,unk,unk,unk,unk,unk,unk,unk,unk],[Value.slice (some ⟨65,0,none⟩) rs.length 9223372036854775873,.int .i64 (↑rs.length),.int .i64 (IntKind.i64.wrap ((↑k : Int) + (1 : Int))),.bool (decide ((↑k : Int) < (↑rs.length : Int))),.pointer (some { block:=65,off:=0 + (↑k : Int).toNat * 6 }),.agg ⟨[.int .u32 (intOf' (getD' undef (rels rs) (0 + (↑k : Int).toNat * 6))),.bool (boolOf' (getD' undef (rels rs) (0 + (↑k : Int).toNat * 6 + 1))),.int .u32 (intOf' (getD' undef (rels rs) (0 + (↑k : Int).toNat * 6 + 1 + 1))),.int .u32 (intOf' (getD' undef (rels rs) (0 + (↑k : Int).toNat * 6 + 1 + 1 + 1))),.int .u16 (intOf' (getD' undef (rels rs) (0 + (↑k : Int).toNat * 6 + 1 + 1 + 1 + 1))),.int .u16 (intOf' (getD' undef (rels rs) (0 + (↑k : Int).toNat * 6 + 1 + 1 + 1 + 1 + 1)))]⟩,.agg ⟨[.int .i64 pages,.int .i64 stack,.int .i64 types,.slice (some ⟨64,0,none⟩) nc 9223372036854775872,.string ⟨⟨data⟩⟩,.slice (some ⟨65,0,none⟩) rs.length 9223372036854775873,.slice (some ⟨66,0,none⟩) ns 9223372036854775874]⟩,.agg ⟨[.int .u32 a,.int .u32 b,.int .u32 c,.int .u32 d,.int .u32 e,.int .u32 f,.int .u32 g,.int .u32 h]⟩,.agg ⟨[.int .u32 (intOf' (getD' undef (rels rs) (0 + (↑k : Int).toNat * 6))),.bool (boolOf' (getD' undef (rels rs) (0 + (↑k : Int).toNat * 6 + 1))),.int .u32 (intOf' (getD' undef (rels rs) (0 + (↑k : Int).toNat * 6 + 1 + 1))),.int .u32 (intOf' (getD' undef (rels rs) (0 + (↑k : Int).toNat * 6 + 1 + 1 + 1))),.int .u16 (intOf' (getD' undef (rels rs) (0 + (↑k : Int).toNat * 6 + 1 + 1 + 1 + 1))),.int .u16 (intOf' (getD' undef (rels rs) (0 + (↑k : Int).toNat * 6 + 1 + 1 + 1 + 1 + 1)))]⟩,.int .u32 (↑behind),.bool (relRight types nc data.length a.toNat c.toNat { at_:=(intOf' (getD' undef (rels rs) (0 + (↑k : Int).toNat * 6))).toNat,code:=boolOf' (getD' undef (rels rs) (0 + (↑k : Int).toNat * 6 + 1)),off:=(intOf' (getD' undef (rels rs) (0 + (↑k : Int).toNat * 6 + 1 + 1))).toNat,size:=(intOf' (getD' undef (rels rs) (0 + (↑k : Int).toNat * 6 + 1 + 1 + 1))).toNat,perms:=(intOf' (getD' undef (rels rs) (0 + (↑k : Int).toNat * 6 + 1 + 1 + 1 + 1))).toNat,typ:=(intOf' (getD' undef (rels rs) (0 + (↑k : Int).toNat * 6 + 1 + 1 + 1 + 1 + 1))).toNat : Rl } (↑behind : Int).toNat),.bool !relRight types nc data.length a.toNat c.toNat { at_:=(intOf' (getD' undef (rels rs) (0 + (↑k : Int).toNat * 6))).toNat,code:=boolOf' (getD' undef (rels rs) (0 + (↑k : Int).toNat * 6 + 1)),off:=(intOf' (getD' undef (rels rs) (0 + (↑k : Int).toNat * 6 + 1 + 1))).toNat,size:=(intOf' (getD' undef (rels rs) (0 + (↑k : Int).toNat * 6 + 1 + 1 + 1))).toNat,perms:=(intOf' (getD' undef (rels rs) (0 + (↑k : Int).toNat * 6 + 1 + 1 + 1 + 1))).toNat,typ:=(intOf' (getD' undef (rels rs) (0 + (↑k : Int).toNat * 6 + 1 + 1 + 1 + 1 + 1))).toNat : Rl } (↑behind : Int).toNat,unk,.pointer (some ⟨72,0,none⟩),.int .u32 (intOf' (getD' undef (rels rs) (0 + (↑k : Int).toNat * 6))),.int .u32 (IntKind.u32.wrap (intOf' (getD' undef (rels rs) (0 + (↑k : Int).toNat * 6)) + (16 : Int)))],[Value.int .i64 (IntKind.i64.wrap ((↑k : Int) + (1 : Int))),unk,unk,unk,unk,unk,unk,unk,unk,unk,unk,unk,unk,unk,unk,unk]],s:={ n:=73,h:=[(72,⟨true,none,[Value.int .u32 (intOf' (getD' undef (rels rs) (0 + (↑k : Int).toNat * 6))),.bool (boolOf' (getD' undef (rels rs) (0 + (↑k : Int).toNat * 6 + 1))),.int .u32 (intOf' (getD' undef (rels rs) (0 + (↑k : Int).toNat * 6 + 1 + 1))),.int .u32 (intOf' (getD' undef (rels rs) (0 + (↑k : Int).toNat * 6 + 1 + 1 + 1))),.int .u16 (intOf' (getD' undef (rels rs) (0 + (↑k : Int).toNat * 6 + 1 + 1 + 1 + 1))),.int .u16 (intOf' (getD' undef (rels rs) (0 + (↑k : Int).toNat * 6 + 1 + 1 + 1 + 1 + 1)))],none⟩),(65,⟨false,some (0,0),rels rs,none⟩),(67,⟨false,none,[Value.int .i64 pages,.int .i64 stack,.int .i64 types,.slice (some ⟨64,0,none⟩) nc 9223372036854775872,.string ⟨⟨data⟩⟩,.slice (some ⟨65,0,none⟩) rs.length 9223372036854775873,.slice (some ⟨66,0,none⟩) ns 9223372036854775874],none⟩),(68,⟨true,none,[Value.int .u32 0,.int .u32 0,.int .u32 0,.int .u32 0,.int .u32 0,.int .u32 0,.int .u32 0,.int .u32 0],none⟩),(71,⟨false,none,[Value.int .u32 a,.int .u32 b,.int .u32 c,.int .u32 d,.int .u32 e,.int .u32 f,.int .u32 g,.int .u32 h],none⟩)],lo:=[],esc:=0,T:=[],k:=2,O:=((bif hasN (0 + (↑k : Int).toNat * 6 + 6) (rels rs) && isLikeL [Value.int .u32 0,.bool false,.int .u32 0,.int .u32 0,.int .u16 0,.int .u16 0] (rels rs) (0 + (↑k : Int).toNat * 6) then bif decide ((0 : Int) ≤ (↑k : Int)) && decide ((↑k : Int) < (↑rs.length : Int)) then True ∧ decide ((↑k : Int) < (↑rs.length : Int)) = true else False else False) ∧ rightOk nc data.length a.toNat c.toNat { at_:=(intOf' (getD' undef (rels rs) (0 + (↑k : Int).toNat * 6))).toNat,code:=boolOf' (getD' undef (rels rs) (0 + (↑k : Int).toNat * 6 + 1)),off:=(intOf' (getD' undef (rels rs) (0 + (↑k : Int).toNat * 6 + 1 + 1))).toNat,size:=(intOf' (getD' undef (rels rs) (0 + (↑k : Int).toNat * 6 + 1 + 1 + 1))).toNat,perms:=(intOf' (getD' undef (rels rs) (0 + (↑k : Int).toNat * 6 + 1 + 1 + 1 + 1))).toNat,typ:=(intOf' (getD' undef (rels rs) (0 + (↑k : Int).toNat * 6 + 1 + 1 + 1 + 1 + 1))).toNat : Rl } ∧ (rr (Value.agg ⟨[.int .i64 pages,.int .i64 stack,.int .i64 types,.slice (some ⟨64,0,none⟩) nc 9223372036854775872,.string ⟨⟨data⟩⟩,.slice (some ⟨65,0,none⟩) rs.length 9223372036854775873,.slice (some ⟨66,0,none⟩) ns 9223372036854775874]⟩) ∧ Value.agg ⟨[.int .u32 a,.int .u32 b,.int .u32 c,.int .u32 d,.int .u32 e,.int .u32 f,.int .u32 g,.int .u32 h]⟩ = Value.agg ⟨[.int .u32 (↑a.toNat),.int .u32 b,.int .u32 (↑c.toNat),.int .u32 d,.int .u32 e,.int .u32 f,.int .u32 g,.int .u32 h]⟩ ∧ Value.agg ⟨[.int .u32 (intOf' (getD' undef (rels rs) (0 + (↑k : Int).toNat * 6))),.bool (boolOf' (getD' undef (rels rs) (0 + (↑k : Int).toNat * 6 + 1))),.int .u32 (intOf' (getD' undef (rels rs) (0 + (↑k : Int).toNat * 6 + 1 + 1))),.int .u32 (intOf' (getD' undef (rels rs) (0 + (↑k : Int).toNat * 6 + 1 + 1 + 1))),.int .u16 (intOf' (getD' undef (rels rs) (0 + (↑k : Int).toNat * 6 + 1 + 1 + 1 + 1))),.int .u16 (intOf' (getD' undef (rels rs) (0 + (↑k : Int).toNat * 6 + 1 + 1 + 1 + 1 + 1)))]⟩ = Value.agg ⟨[.int .u32 (↑(intOf' (getD' undef (rels rs) (0 + (↑k : Int).toNat * 6))).toNat : Int),.bool (boolOf' (getD' undef (rels rs) (0 + (↑k : Int).toNat * 6 + 1))),.int .u32 (↑(intOf' (getD' undef (rels rs) (0 + (↑k : Int).toNat * 6 + 1 + 1))).toNat : Int),.int .u32 (↑(intOf' (getD' undef (rels rs) (0 + (↑k : Int).toNat * 6 + 1 + 1 + 1))).toNat : Int),.int .u16 (↑(intOf' (getD' undef (rels rs) (0 + (↑k : Int).toNat * 6 + 1 + 1 + 1 + 1))).toNat : Int),.int .u16 (↑(intOf' (getD' undef (rels rs) (0 + (↑k : Int).toNat * 6 + 1 + 1 + 1 + 1 + 1))).toNat : Int)]⟩ ∧ Value.int .u32 (↑behind) = Value.int .u32 (↑(↑behind : Int).toNat : Int) ∧ True) ∧ True ∧ True) ∧ (!relRight types nc data.length a.toNat c.toNat { at_:=(intOf' (getD' undef (rels rs) (0 + (↑k : Int).toNat * 6))).toNat,code:=boolOf' (getD' undef (rels rs) (0 + (↑k : Int).toNat * 6 + 1)),off:=(intOf' (getD' undef (rels rs) (0 + (↑k : Int).toNat * 6 + 1 + 1))).toNat,size:=(intOf' (getD' undef (rels rs) (0 + (↑k : Int).toNat * 6 + 1 + 1 + 1))).toNat,perms:=(intOf' (getD' undef (rels rs) (0 + (↑k : Int).toNat * 6 + 1 + 1 + 1 + 1))).toNat,typ:=(intOf' (getD' undef (rels rs) (0 + (↑k : Int).toNat * 6 + 1 + 1 + 1 + 1 + 1))).toNat : Rl } (↑behind : Int).toNat) = false : St } : Fr }):=by kernel_rfl
theorem lr_bad (pages : Int) (stack : Int) (types : Int) (nc : Nat) (ns : Nat) (data : List UInt8) (rs : List Rl) (a : Int) (b : Int) (c : Int) (d : Int) (e : Int) (f : Int) (g : Int) (h : Int) (behind : Nat) (k : Nat) : evC Try.prog (evF Try.prog (baseC 3 selL) noLoop 100 3) (noLoop 16) 98 100 (loopOf Try.prog 16 0) (Sf.frT 98 (relI pages stack types nc ns data rs a b c d e f g h behind k) [(0,true),(1,true)]) = some (Exit.ret,{ e:=[[unk,.pointer (some ⟨67,0,none⟩),.pointer (some ⟨68,0,none⟩),.int .i64 2,.pointer (some ⟨71,0,none⟩),unk,.int .u32 (↑behind),unk,.pointer (some ⟨72,0,none⟩),unk,unk,unk,unk,unk,unk,unk],[unk,unk,unk,unk,unk,unk,unk,unk,unk,unk,unk,unk,unk,unk,unk,unk],[unk,unk,unk,unk,unk,unk,unk,unk,unk,unk,unk,unk,unk,unk,unk,unk],[unk,unk,unk,unk,unk,unk,unk,unk,unk,unk,unk,unk,unk,unk,unk,unk],[unk,unk,unk,unk,unk,unk,unk,unk,unk,unk,unk,unk,unk,unk,unk,unk],[Value.slice (some ⟨65,0,none⟩) rs.length 9223372036854775873,.int .i64 (↑rs.length),.int .i64 (↑k),.bool (decide ((↑k : Int) < (↑rs.length : Int))),.pointer (some { block:=65,off:=0 + (↑k : Int).toNat * 6 }),.agg ⟨[.int .u32 (intOf' (getD' undef (rels rs) (0 + (↑k : Int).toNat * 6))),.bool (boolOf' (getD' undef (rels rs) (0 + (↑k : Int).toNat * 6 + 1))),.int .u32 (intOf' (getD' undef (rels rs) (0 + (↑k : Int).toNat * 6 + 1 + 1))),.int .u32 (intOf' (getD' undef (rels rs) (0 + (↑k : Int).toNat * 6 + 1 + 1 + 1))),.int .u16 (intOf' (getD' undef (rels rs) (0 + (↑k : Int).toNat * 6 + 1 + 1 + 1 + 1))),.int .u16 (intOf' (getD' undef (rels rs) (0 + (↑k : Int).toNat * 6 + 1 + 1 + 1 + 1 + 1)))]⟩,.agg ⟨[.int .i64 pages,.int .i64 stack,.int .i64 types,.slice (some ⟨64,0,none⟩) nc 9223372036854775872,.string ⟨⟨data⟩⟩,.slice (some ⟨65,0,none⟩) rs.length 9223372036854775873,.slice (some ⟨66,0,none⟩) ns 9223372036854775874]⟩,.agg ⟨[.int .u32 a,.int .u32 b,.int .u32 c,.int .u32 d,.int .u32 e,.int .u32 f,.int .u32 g,.int .u32 h]⟩,.agg ⟨[.int .u32 (intOf' (getD' undef (rels rs) (0 + (↑k : Int).toNat * 6))),.bool (boolOf' (getD' undef (rels rs) (0 + (↑k : Int).toNat * 6 + 1))),.int .u32 (intOf' (getD' undef (rels rs) (0 + (↑k : Int).toNat * 6 + 1 + 1))),.int .u32 (intOf' (getD' undef (rels rs) (0 + (↑k : Int).toNat * 6 + 1 + 1 + 1))),.int .u16 (intOf' (getD' undef (rels rs) (0 + (↑k : Int).toNat * 6 + 1 + 1 + 1 + 1))),.int .u16 (intOf' (getD' undef (rels rs) (0 + (↑k : Int).toNat * 6 + 1 + 1 + 1 + 1 + 1)))]⟩,.int .u32 (↑behind),.bool (relRight types nc data.length a.toNat c.toNat { at_:=(intOf' (getD' undef (rels rs) (0 + (↑k : Int).toNat * 6))).toNat,code:=boolOf' (getD' undef (rels rs) (0 + (↑k : Int).toNat * 6 + 1)),off:=(intOf' (getD' undef (rels rs) (0 + (↑k : Int).toNat * 6 + 1 + 1))).toNat,size:=(intOf' (getD' undef (rels rs) (0 + (↑k : Int).toNat * 6 + 1 + 1 + 1))).toNat,perms:=(intOf' (getD' undef (rels rs) (0 + (↑k : Int).toNat * 6 + 1 + 1 + 1 + 1))).toNat,typ:=(intOf' (getD' undef (rels rs) (0 + (↑k : Int).toNat * 6 + 1 + 1 + 1 + 1 + 1))).toNat : Rl } (↑behind : Int).toNat),.bool !relRight types nc data.length a.toNat c.toNat { at_:=(intOf' (getD' undef (rels rs) (0 + (↑k : Int).toNat * 6))).toNat,code:=boolOf' (getD' undef (rels rs) (0 + (↑k : Int).toNat * 6 + 1)),off:=(intOf' (getD' undef (rels rs) (0 + (↑k : Int).toNat * 6 + 1 + 1))).toNat,size:=(intOf' (getD' undef (rels rs) (0 + (↑k : Int).toNat * 6 + 1 + 1 + 1))).toNat,perms:=(intOf' (getD' undef (rels rs) (0 + (↑k : Int).toNat * 6 + 1 + 1 + 1 + 1))).toNat,typ:=(intOf' (getD' undef (rels rs) (0 + (↑k : Int).toNat * 6 + 1 + 1 + 1 + 1 + 1))).toNat : Rl } (↑behind : Int).toNat,.agg ⟨[.int .u32 0,.int .u32 0,.int .u32 0,.int .u32 0,.int .u32 0,.int .u32 0,.int .u32 0,.int .u32 0]⟩,unk,unk,unk],[unk,unk,unk,unk,unk,unk,unk,unk,unk,unk,unk,unk,unk,unk,unk,unk]],s:={ n:=73,h:=[(72,⟨true,none,[Value.int .u32 (intOf' (getD' undef (rels rs) (0 + (↑k : Int).toNat * 6))),.bool (boolOf' (getD' undef (rels rs) (0 + (↑k : Int).toNat * 6 + 1))),.int .u32 (intOf' (getD' undef (rels rs) (0 + (↑k : Int).toNat * 6 + 1 + 1))),.int .u32 (intOf' (getD' undef (rels rs) (0 + (↑k : Int).toNat * 6 + 1 + 1 + 1))),.int .u16 (intOf' (getD' undef (rels rs) (0 + (↑k : Int).toNat * 6 + 1 + 1 + 1 + 1))),.int .u16 (intOf' (getD' undef (rels rs) (0 + (↑k : Int).toNat * 6 + 1 + 1 + 1 + 1 + 1)))],none⟩),(65,⟨false,some (0,0),rels rs,none⟩),(67,⟨false,none,[Value.int .i64 pages,.int .i64 stack,.int .i64 types,.slice (some ⟨64,0,none⟩) nc 9223372036854775872,.string ⟨⟨data⟩⟩,.slice (some ⟨65,0,none⟩) rs.length 9223372036854775873,.slice (some ⟨66,0,none⟩) ns 9223372036854775874],none⟩),(68,⟨true,none,[Value.int .u32 0,.int .u32 0,.int .u32 0,.int .u32 0,.int .u32 0,.int .u32 0,.int .u32 0,.int .u32 0],none⟩),(71,⟨false,none,[Value.int .u32 a,.int .u32 b,.int .u32 c,.int .u32 d,.int .u32 e,.int .u32 f,.int .u32 g,.int .u32 h],none⟩)],lo:=[],esc:=0,T:=[],k:=2,O:=((bif hasN (0 + (↑k : Int).toNat * 6 + 6) (rels rs) && isLikeL [Value.int .u32 0,.bool false,.int .u32 0,.int .u32 0,.int .u16 0,.int .u16 0] (rels rs) (0 + (↑k : Int).toNat * 6) then bif decide ((0 : Int) ≤ (↑k : Int)) && decide ((↑k : Int) < (↑rs.length : Int)) then True ∧ decide ((↑k : Int) < (↑rs.length : Int)) = true else False else False) ∧ rightOk nc data.length a.toNat c.toNat { at_:=(intOf' (getD' undef (rels rs) (0 + (↑k : Int).toNat * 6))).toNat,code:=boolOf' (getD' undef (rels rs) (0 + (↑k : Int).toNat * 6 + 1)),off:=(intOf' (getD' undef (rels rs) (0 + (↑k : Int).toNat * 6 + 1 + 1))).toNat,size:=(intOf' (getD' undef (rels rs) (0 + (↑k : Int).toNat * 6 + 1 + 1 + 1))).toNat,perms:=(intOf' (getD' undef (rels rs) (0 + (↑k : Int).toNat * 6 + 1 + 1 + 1 + 1))).toNat,typ:=(intOf' (getD' undef (rels rs) (0 + (↑k : Int).toNat * 6 + 1 + 1 + 1 + 1 + 1))).toNat : Rl } ∧ (rr (Value.agg ⟨[.int .i64 pages,.int .i64 stack,.int .i64 types,.slice (some ⟨64,0,none⟩) nc 9223372036854775872,.string ⟨⟨data⟩⟩,.slice (some ⟨65,0,none⟩) rs.length 9223372036854775873,.slice (some ⟨66,0,none⟩) ns 9223372036854775874]⟩) ∧ Value.agg ⟨[.int .u32 a,.int .u32 b,.int .u32 c,.int .u32 d,.int .u32 e,.int .u32 f,.int .u32 g,.int .u32 h]⟩ = Value.agg ⟨[.int .u32 (↑a.toNat),.int .u32 b,.int .u32 (↑c.toNat),.int .u32 d,.int .u32 e,.int .u32 f,.int .u32 g,.int .u32 h]⟩ ∧ Value.agg ⟨[.int .u32 (intOf' (getD' undef (rels rs) (0 + (↑k : Int).toNat * 6))),.bool (boolOf' (getD' undef (rels rs) (0 + (↑k : Int).toNat * 6 + 1))),.int .u32 (intOf' (getD' undef (rels rs) (0 + (↑k : Int).toNat * 6 + 1 + 1))),.int .u32 (intOf' (getD' undef (rels rs) (0 + (↑k : Int).toNat * 6 + 1 + 1 + 1))),.int .u16 (intOf' (getD' undef (rels rs) (0 + (↑k : Int).toNat * 6 + 1 + 1 + 1 + 1))),.int .u16 (intOf' (getD' undef (rels rs) (0 + (↑k : Int).toNat * 6 + 1 + 1 + 1 + 1 + 1)))]⟩ = Value.agg ⟨[.int .u32 (↑(intOf' (getD' undef (rels rs) (0 + (↑k : Int).toNat * 6))).toNat : Int),.bool (boolOf' (getD' undef (rels rs) (0 + (↑k : Int).toNat * 6 + 1))),.int .u32 (↑(intOf' (getD' undef (rels rs) (0 + (↑k : Int).toNat * 6 + 1 + 1))).toNat : Int),.int .u32 (↑(intOf' (getD' undef (rels rs) (0 + (↑k : Int).toNat * 6 + 1 + 1 + 1))).toNat : Int),.int .u16 (↑(intOf' (getD' undef (rels rs) (0 + (↑k : Int).toNat * 6 + 1 + 1 + 1 + 1))).toNat : Int),.int .u16 (↑(intOf' (getD' undef (rels rs) (0 + (↑k : Int).toNat * 6 + 1 + 1 + 1 + 1 + 1))).toNat : Int)]⟩ ∧ Value.int .u32 (↑behind) = Value.int .u32 (↑(↑behind : Int).toNat : Int) ∧ True) ∧ True ∧ True) ∧ (!relRight types nc data.length a.toNat c.toNat { at_:=(intOf' (getD' undef (rels rs) (0 + (↑k : Int).toNat * 6))).toNat,code:=boolOf' (getD' undef (rels rs) (0 + (↑k : Int).toNat * 6 + 1)),off:=(intOf' (getD' undef (rels rs) (0 + (↑k : Int).toNat * 6 + 1 + 1))).toNat,size:=(intOf' (getD' undef (rels rs) (0 + (↑k : Int).toNat * 6 + 1 + 1 + 1))).toNat,perms:=(intOf' (getD' undef (rels rs) (0 + (↑k : Int).toNat * 6 + 1 + 1 + 1 + 1))).toNat,typ:=(intOf' (getD' undef (rels rs) (0 + (↑k : Int).toNat * 6 + 1 + 1 + 1 + 1 + 1))).toNat : Rl } (↑behind : Int).toNat) = true : St } : Fr }):=by kernel_rfl
theorem lr_end (pages : Int) (stack : Int) (types : Int) (nc : Nat) (ns : Nat) (data : List UInt8) (rs : List Rl) (a : Int) (b : Int) (c : Int) (d : Int) (e : Int) (f : Int) (g : Int) (h : Int) (behind : Nat) (k : Nat) : evC Try.prog (evF Try.prog (baseC 3 selL) noLoop 100 3) (noLoop 16) 98 100 (loopOf Try.prog 16 0) (Sf.frT 98 (relI pages stack types nc ns data rs a b c d e f g h behind k) [(0,false)]) = some (Exit.exit 1,{ e:=[[unk,.pointer (some ⟨67,0,none⟩),.pointer (some ⟨68,0,none⟩),unk,.pointer (some ⟨71,0,none⟩),unk,.int .u32 (↑behind),unk,unk,unk,unk,unk,unk,unk,unk,unk],[unk,unk,unk,unk,unk,unk,unk,unk,unk,unk,unk,unk,unk,unk,unk,unk],[unk,unk,unk,unk,unk,unk,unk,unk,unk,unk,unk,unk,unk,unk,unk,unk],[unk,unk,unk,unk,unk,unk,unk,unk,unk,unk,unk,unk,unk,unk,unk,unk],[unk,unk,unk,unk,unk,unk,unk,unk,unk,unk,unk,unk,unk,unk,unk,unk],[Value.slice (some ⟨65,0,none⟩) rs.length 9223372036854775873,.int .i64 (↑rs.length),.int .i64 (↑k),.bool (decide ((↑k : Int) < (↑rs.length : Int))),unk,unk,unk,unk,unk,unk,unk,unk,unk,unk,unk,unk],[unk,unk,unk,unk,unk,unk,unk,unk,unk,unk,unk,unk,unk,unk,unk,unk]],s:={ n:=72,h:=[(65,⟨false,some (0,0),rels rs,none⟩),(67,⟨false,none,[Value.int .i64 pages,.int .i64 stack,.int .i64 types,.slice (some ⟨64,0,none⟩) nc 9223372036854775872,.string ⟨⟨data⟩⟩,.slice (some ⟨65,0,none⟩) rs.length 9223372036854775873,.slice (some ⟨66,0,none⟩) ns 9223372036854775874],none⟩),(68,⟨true,none,[Value.int .u32 0,.int .u32 0,.int .u32 0,.int .u32 0,.int .u32 0,.int .u32 0,.int .u32 0,.int .u32 0],none⟩),(71,⟨false,none,[Value.int .u32 a,.int .u32 b,.int .u32 c,.int .u32 d,.int .u32 e,.int .u32 f,.int .u32 g,.int .u32 h],none⟩)],lo:=[],esc:=0,T:=[],k:=1,O:=True ∧ decide ((↑k : Int) < (↑rs.length : Int)) = false : St } : Fr }):=by kernel_rfl
theorem right_at {types : Int} {nc len a c : Nat} {r : Rl} {behind : Nat} (h : relRight types nc len a c r behind = true) : r.at_ % 16 = 0 ∧ behind ≤ r.at_ ∧ r.at_ + 16 ≤ len:=by
 unfold relRight relBad at h
 simp only [rr, tt, Bool.and_eq_true,Bool.not_eq_true',Bool.or_eq_false_iff,decide_eq_false_iff_not] at h
 obtain ⟨⟨h1,h2,h3,_⟩,_⟩:=h
 exact ⟨by omega,by omega,by omega⟩
theorem rel_wf (pages stack types : Int) (nc ns : Nat) (data : List UInt8) (rs : List Rl) (a b c d e f g h : Int) (behind k : Nat) : (relI pages stack types nc ns data rs a b c d e f g h behind k).Wf :=
 ⟨by show NG ≤ 72; decide,Sf.Ok.mk' 3 ⟨⟨rfl,rfl,flat_bnd (rels_flat rs)⟩,⟨rfl,rfl,fun v hv => okV_bnd 3 v (List.all_eq_true.1 (show (imgL pages stack types nc rs.length ns data).all (okV (fun l => Nat.blt l 72) 3) = true from by kernel_rfl) v hv)⟩,⟨rfl,rfl,fun v hv => okV_bnd 3 v (List.all_eq_true.1 (show zeros8.all (okV (fun l => Nat.blt l 72) 3) = true from by kernel_rfl) v hv)⟩,⟨rfl,rfl,fun v hv => okV_bnd 3 v (List.all_eq_true.1 (show (layL a b c d e f g h).all (okV (fun l => Nat.blt l 72) 3) = true from by kernel_rfl) v hv)⟩,trivial⟩ rfl (fun x hx => by
  have : (relI pages stack types nc ns data rs a b c d e f g h behind k).e.all (fun x => okV (fun l => Nat.blt l 72) 3 x.2) = true:=by kernel_rfl
  exact List.all_eq_true.1 this x hx)⟩
theorem relF_ok : relF.Ok (keeps 72 72 id (fun l => Nat.blt l 72)):=Sf.Ok.mk' 3 ⟨⟨rfl,rfl,fun v hv => okV_bnd 3 v (List.all_eq_true.1 (show zeros8.all (okV (keeps 72 72 id (fun l => Nat.blt l 72)) 3) = true from by kernel_rfl) v hv)⟩,trivial⟩ rfl (fun x hx => by
  have : relF.e.all (fun x => okV (keeps 72 72 id (fun l => Nat.blt l 72)) 3 x.2) = true:=by kernel_rfl
  exact List.all_eq_true.1 this x hx)
theorem relE_ok : relE.Ok (keeps 72 72 id (fun l => Nat.blt l 72)):=Sf.Ok.mk' 3 ⟨⟨rfl,rfl,fun v hv => okV_bnd 3 v (List.all_eq_true.1 (show zeros8.all (okV (keeps 72 72 id (fun l => Nat.blt l 72)) 3) = true from by kernel_rfl) v hv)⟩,trivial⟩ rfl (fun x hx => by
  have : relE.e.all (fun x => okV (keeps 72 72 id (fun l => Nat.blt l 72)) 3 x.2) = true:=by kernel_rfl
  exact List.all_eq_true.1 this x hx)
theorem rel_next (pages stack types : Int) (nc ns : Nat) (data : List UInt8) (rs : List Rl) (a b c d e f g h : Int) (behind k : Nat) (ex : Sf) (hk : k < rs.length) (hm : rs.length ≤ 100000) (ha : 0 ≤ a) (hc : 0 ≤ c) (hr : rightOk nc data.length a.toNat c.toNat (rl0 rs k)) (hv : relRight types nc data.length a.toNat c.toNat (rl0 rs k) behind = true) (hn : ex.n = 72) (he : ex.Ok (keeps 72 72 id (fun l => Nat.blt l 72))) :
  ∃ g1,evC Try.prog (evF Try.prog (baseC 3 selL) noLoop 100 3) (noLoop 16) 98 100 (loopOf Try.prog 16 0) ((relI pages stack types nc ns data rs a b c d e f g h behind k).frT 98 [(0,true),(1,false)]) = some (.normal,g1) ∧ g1.s.O ∧
   Sf.Leads 3 (fun l => Nat.blt l 72) id (relI pages stack types nc ns data rs a b c d e f g h behind k) g1 (relI pages stack types nc ns data rs a b c d e f g h ((rl0 rs k).at_ + 16) (k + 1)) ex:=by
 rcases hrr : rl0 rs k with ⟨at_,code,off,size,perms,typ⟩
 rw [hrr] at hr hv
 have f0 : intOf' (getD' undef (rels rs) (0 + k * 6)) = (at_ : Int):=by
  rw [Nat.zero_add]; have:=rels_0 hk; rw [hrr] at this; exact this
 have f1 : boolOf' (getD' undef (rels rs) (0 + k * 6 + 1)) = code:=by
  rw [Nat.zero_add]; have:=rels_1 hk; rw [hrr] at this; exact this
 have f2 : intOf' (getD' undef (rels rs) (0 + k * 6 + 1 + 1)) = (off : Int):=by
  rw [Nat.zero_add]; have:=rels_2 hk; rw [hrr] at this; exact this
 have f3 : intOf' (getD' undef (rels rs) (0 + k * 6 + 1 + 1 + 1)) = (size : Int):=by
  rw [Nat.zero_add]; have:=rels_3 hk; rw [hrr] at this; exact this
 have f4 : intOf' (getD' undef (rels rs) (0 + k * 6 + 1 + 1 + 1 + 1)) = (perms : Int):=by
  rw [Nat.zero_add]; have:=rels_4 hk; rw [hrr] at this; exact this
 have f5 : intOf' (getD' undef (rels rs) (0 + k * 6 + 1 + 1 + 1 + 1 + 1)) = (typ : Int):=by
  rw [Nat.zero_add]; have:=rels_5 hk; rw [hrr] at this; exact this
 have g1 : hasN (0 + k * 6 + 6) (rels rs) = true:=by rw [rels_has]; simp; omega
 have g2 : isLikeL [Value.int IntKind.u32 (0 : Int),Value.bool false,Value.int IntKind.u32 (0 : Int),Value.int IntKind.u32 (0 : Int),Value.int IntKind.u16 (0 : Int),Value.int IntKind.u16 (0 : Int)] (rels rs) (0 + k * 6) = true:=by rw [Nat.zero_add]; exact rels_like hk _ _ _ _ _ _
 have g5 : decide ((0 : Int) ≤ (k : Int)) = true:=by simp
 have g6 : decide ((k : Int) < (rs.length : Int)) = true:=by simp; omega
 have ha2 : ((a.toNat : Nat) : Int) = a:=Int.toNat_of_nonneg ha
 have hc2 : ((c.toNat : Nat) : Int) = c:=Int.toNat_of_nonneg hc
 refine ⟨_,lr_next pages stack types nc ns data rs a b c d e f g h behind k,?_,?_⟩
 ·simp only [rr, tt, f0,f1,f2,f3,f4,f5,Int.toNat_natCast,g5,g6,ha2,hc2,g1,g2,hv,Bool.not_true,Bool.and_self,cond_true]
  exact ⟨⟨⟨trivial,trivial⟩,hr,⟨trivial,trivial,trivial,trivial,trivial⟩,trivial,trivial⟩,trivial⟩
 ·refine ⟨fun _ _ => rfl,⟨⟨rfl,flat_all (rels_flat rs),rfl,rfl,rfl,trivial,(flat_map (rels_flat rs)).symm⟩,⟨rfl,by kernel_rfl,rfl,rfl,rfl,trivial,by kernel_rfl⟩,⟨rfl,by kernel_rfl,rfl,rfl,rfl,trivial,by kernel_rfl⟩,⟨rfl,by kernel_rfl,rfl,rfl,rfl,trivial,by kernel_rfl⟩,trivial⟩,rfl,trivial,⟨⟨by kernel_rfl,by kernel_rfl⟩,⟨by kernel_rfl,by kernel_rfl⟩,⟨by kernel_rfl,by kernel_rfl⟩,⟨rfl,?_⟩,⟨by kernel_rfl,by kernel_rfl⟩,⟨rfl,by kernel_rfl⟩,⟨rfl,?_⟩,trivial⟩,Nat.le_refl _,fun l hl => blt_no hl,?_,?_⟩
  ·refine Eq.trans (b:=Value.int .u32 (IntKind.u32.wrap (intOf' (getD' undef (rels rs) (0 + (k : Int).toNat * 6)) + 16))) (by kernel_rfl) ?_
   rw [Int.toNat_natCast,f0]
   show _ = Value.int .u32 ((at_ + 16 : Nat) : Int)
   have:=(right_at hv).2.2; have:=hr.2.2.1; rw [IntKind.wrap_u32]; congr 1; simp only [] at *; omega
  ·refine Eq.trans (b:=Value.int .i64 (IntKind.i64.wrap ((k : Int) + 1))) (by kernel_rfl) ?_
   rw [cast_succ_i64 k (by omega)]; rfl
  ·rw [hn]; exact he
  ·intro x _ _; exact .inl rfl
theorem rel_bad (pages stack types : Int) (nc ns : Nat) (data : List UInt8) (rs : List Rl) (a b c d e f g h : Int) (behind k : Nat) (ex : Sf) (hk : k < rs.length) (_ : rs.length ≤ 100000) (ha : 0 ≤ a) (hc : 0 ≤ c) (hr : rightOk nc data.length a.toNat c.toNat (rl0 rs k)) (hv : relRight types nc data.length a.toNat c.toNat (rl0 rs k) behind = false) (hx : ex = relF) :
  ∃ g1,evC Try.prog (evF Try.prog (baseC 3 selL) noLoop 100 3) (noLoop 16) 98 100 (loopOf Try.prog 16 0) ((relI pages stack types nc ns data rs a b c d e f g h behind k).frT 98 [(0,true),(1,true)]) = some (.ret,g1) ∧ g1.s.O ∧
   Sf.Leads 3 (fun l => Nat.blt l 72) id (relI pages stack types nc ns data rs a b c d e f g h behind k) g1 ex ex:=by
 rcases hrr : rl0 rs k with ⟨at_,code,off,size,perms,typ⟩
 rw [hrr] at hr hv
 have f0 : intOf' (getD' undef (rels rs) (0 + k * 6)) = (at_ : Int):=by
  rw [Nat.zero_add]; have:=rels_0 hk; rw [hrr] at this; exact this
 have f1 : boolOf' (getD' undef (rels rs) (0 + k * 6 + 1)) = code:=by
  rw [Nat.zero_add]; have:=rels_1 hk; rw [hrr] at this; exact this
 have f2 : intOf' (getD' undef (rels rs) (0 + k * 6 + 1 + 1)) = (off : Int):=by
  rw [Nat.zero_add]; have:=rels_2 hk; rw [hrr] at this; exact this
 have f3 : intOf' (getD' undef (rels rs) (0 + k * 6 + 1 + 1 + 1)) = (size : Int):=by
  rw [Nat.zero_add]; have:=rels_3 hk; rw [hrr] at this; exact this
 have f4 : intOf' (getD' undef (rels rs) (0 + k * 6 + 1 + 1 + 1 + 1)) = (perms : Int):=by
  rw [Nat.zero_add]; have:=rels_4 hk; rw [hrr] at this; exact this
 have f5 : intOf' (getD' undef (rels rs) (0 + k * 6 + 1 + 1 + 1 + 1 + 1)) = (typ : Int):=by
  rw [Nat.zero_add]; have:=rels_5 hk; rw [hrr] at this; exact this
 have g1 : hasN (0 + k * 6 + 6) (rels rs) = true:=by rw [rels_has]; simp; omega
 have g2 : isLikeL [Value.int IntKind.u32 (0 : Int),Value.bool false,Value.int IntKind.u32 (0 : Int),Value.int IntKind.u32 (0 : Int),Value.int IntKind.u16 (0 : Int),Value.int IntKind.u16 (0 : Int)] (rels rs) (0 + k * 6) = true:=by rw [Nat.zero_add]; exact rels_like hk _ _ _ _ _ _
 have g5 : decide ((0 : Int) ≤ (k : Int)) = true:=by simp
 have g6 : decide ((k : Int) < (rs.length : Int)) = true:=by simp; omega
 have ha2 : ((a.toNat : Nat) : Int) = a:=Int.toNat_of_nonneg ha
 have hc2 : ((c.toNat : Nat) : Int) = c:=Int.toNat_of_nonneg hc
 refine ⟨_,lr_bad pages stack types nc ns data rs a b c d e f g h behind k,?_,?_⟩
 ·simp only [rr, tt, f0,f1,f2,f3,f4,f5,Int.toNat_natCast,g5,g6,ha2,hc2,g1,g2,hv,Bool.not_false,Bool.and_self,cond_true]
  exact ⟨⟨⟨trivial,trivial⟩,hr,⟨trivial,trivial,trivial,trivial,trivial⟩,trivial,trivial⟩,trivial⟩
 ·subst hx
  exact ⟨fun _ _ => rfl,⟨⟨rfl,by kernel_rfl,rfl,rfl,rfl,trivial,by kernel_rfl⟩,trivial⟩,rfl,trivial,⟨⟨by kernel_rfl,by kernel_rfl⟩,⟨rfl,by kernel_rfl⟩,trivial⟩,Nat.le_refl _,fun l hl => blt_no hl,relF_ok,fun x _ _ => .inl rfl⟩
theorem relE_leads (pages stack types : Int) (nc ns : Nat) (data : List UInt8) (rs : List Rl) (a b c d e f g h : Int) (behind k : Nat) (hk : k = rs.length) :
  ∃ g1,evC Try.prog (evF Try.prog (baseC 3 selL) noLoop 100 3) (noLoop 16) 98 100 (loopOf Try.prog 16 0) ((relI pages stack types nc ns data rs a b c d e f g h behind k).frT 98 [(0,false)]) = some (.exit 1,g1) ∧ g1.s.O ∧
   Sf.Leads 3 (fun l => Nat.blt l 72) id (relI pages stack types nc ns data rs a b c d e f g h behind k) g1 relE relE:=by
 refine ⟨_,lr_end pages stack types nc ns data rs a b c d e f g h behind k,?_,?_⟩
 ·subst hk; simp
 ·exact ⟨fun _ _ => rfl,⟨⟨rfl,by kernel_rfl,rfl,rfl,rfl,trivial,by kernel_rfl⟩,trivial⟩,rfl,trivial,⟨⟨by kernel_rfl,by kernel_rfl⟩,⟨by kernel_rfl,by kernel_rfl⟩,trivial⟩,Nat.le_refl _,fun l hl => blt_no hl,relE_ok,fun x _ _ => .inl rfl⟩
theorem rel_found (pages stack types : Int) (nc ns : Nat) (data : List UInt8) (rs : List Rl) (a b c d e f g h : Int) (j : Nat) (hj : j < rs.length) (hm : rs.length ≤ 100000) (ha : 0 ≤ a) (hc : 0 ≤ c) (hr : ∀ i,i < rs.length → rightOk nc data.length a.toNat c.toNat (rl0 rs i)) (hv : relRight types nc data.length a.toNat c.toNat (rl0 rs j) (behindN rs j) = false) (hn : ∀ i,i < j → relRight types nc data.length a.toNat c.toNat (rl0 rs i) (behindN rs i) = true) :
  ∀ x : { k : Nat // k ≤ j },LoopOk Try.prog 98 (loopOf Try.prog 16 0) ((relI pages stack types nc ns data rs a b c d e f g h (behindN rs x.1) x.1).fr 98) .ret (relF.fr 98):=by
 refine loop_ok (L:=100) (run_ok (L:=100) i_names (baseC_ok selL_ok) (noLoop_ok _) 3) (noLoop_any _ _ 16) (fun _ h => h) (X:={ k : Nat // k ≤ j }) (fun x => relI pages stack types nc ns data rs a b c d e f g h (behindN rs x.1) x.1) (fun _ => relF) (fun _ => .ret) (fun x => j - x.1) (fun x => rel_wf pages stack types nc ns data rs a b c d e f g h (behindN rs x.1) x.1) ?_
 rintro ⟨k,hk⟩
 by_cases h0 : k = j
 ·subst h0
  obtain ⟨g1,h1,h2,h3⟩:=rel_bad pages stack types nc ns data rs a b c d e f g h (behindN rs k) k relF hj hm ha hc (hr k hj) hv rfl
  exact ⟨_,.ret,g1,3,_,_,h1,h2,.inr ⟨by simp,rfl,h3⟩⟩
 ·obtain ⟨g1,h1,h2,h3⟩:=rel_next pages stack types nc ns data rs a b c d e f g h (behindN rs k) k relF (by omega) hm ha hc (hr k (by omega)) (hn k (by omega)) rfl relF_ok
  exact ⟨_,.normal,g1,3,_,_,h1,h2,.inl ⟨rfl,⟨k + 1,by omega⟩,by show j - (k + 1) < j - k; omega,rfl,rfl,h3⟩⟩
theorem rel_none (pages stack types : Int) (nc ns : Nat) (data : List UInt8) (rs : List Rl) (a b c d e f g h : Int) (hm : rs.length ≤ 100000) (ha : 0 ≤ a) (hc : 0 ≤ c) (hr : ∀ i,i < rs.length → rightOk nc data.length a.toNat c.toNat (rl0 rs i)) (hn : ∀ i,i < rs.length → relRight types nc data.length a.toNat c.toNat (rl0 rs i) (behindN rs i) = true) :
  ∀ x : { k : Nat // k ≤ rs.length },LoopOk Try.prog 98 (loopOf Try.prog 16 0) ((relI pages stack types nc ns data rs a b c d e f g h (behindN rs x.1) x.1).fr 98) (.exit 1) (relE.fr 98):=by
 refine loop_ok (L:=100) (run_ok (L:=100) i_names (baseC_ok selL_ok) (noLoop_ok _) 3) (noLoop_any _ _ 16) (fun _ h => h) (X:={ k : Nat // k ≤ rs.length }) (fun x => relI pages stack types nc ns data rs a b c d e f g h (behindN rs x.1) x.1) (fun _ => relE) (fun _ => .exit 1) (fun x => rs.length - x.1) (fun x => rel_wf pages stack types nc ns data rs a b c d e f g h (behindN rs x.1) x.1) ?_
 rintro ⟨k,hk⟩
 by_cases h0 : k < rs.length
 ·obtain ⟨g1,h1,h2,h3⟩:=rel_next pages stack types nc ns data rs a b c d e f g h (behindN rs k) k relE h0 hm ha hc (hr k h0) (hn k h0) rfl relE_ok
  exact ⟨_,.normal,g1,3,_,_,h1,h2,.inl ⟨rfl,⟨k + 1,by omega⟩,by show rs.length - (k + 1) < rs.length - k; omega,rfl,rfl,h3⟩⟩
 ·obtain ⟨g1,h1,h2,h3⟩:=relE_leads pages stack types nc ns data rs a b c d e f g h (behindN rs k) k (by omega)
  exact ⟨_,.exit 1,g1,3,_,_,h1,h2,.inr ⟨by simp,rfl,h3⟩⟩
def relEntF (pages stack types : Int) (nc ns : Nat) (data : List UInt8) (rs : List Rl) (a b c d e f g h : Int) (j : Nat) (hj : j < rs.length) (hm : rs.length ≤ 100000) (ha : 0 ≤ a) (hc : 0 ≤ c) (hr : ∀ i,i < rs.length → rightOk nc data.length a.toNat c.toNat (rl0 rs i)) (hv : relRight types nc data.length a.toNat c.toNat (rl0 rs j) (behindN rs j) = false) (hn : ∀ i,i < j → relRight types nc data.length a.toNat c.toNat (rl0 rs i) (behindN rs i) = true) : Ent Try.prog :=
 entC Try.prog 16 0 98 (relI pages stack types nc ns data rs a b c d e f g h 0 0) .ret relF (by kernel_rfl) (by kernel_rfl) (rel_found pages stack types nc ns data rs a b c d e f g h j hj hm ha hc hr hv hn ⟨0,Nat.zero_le _⟩)
def relEntN (pages stack types : Int) (nc ns : Nat) (data : List UInt8) (rs : List Rl) (a b c d e f g h : Int) (hm : rs.length ≤ 100000) (ha : 0 ≤ a) (hc : 0 ≤ c) (hr : ∀ i,i < rs.length → rightOk nc data.length a.toNat c.toNat (rl0 rs i)) (hn : ∀ i,i < rs.length → relRight types nc data.length a.toNat c.toNat (rl0 rs i) (behindN rs i) = true) : Ent Try.prog :=
 entC Try.prog 16 0 98 (relI pages stack types nc ns data rs a b c d e f g h 0 0) (.exit 1) relE (by kernel_rfl) (by kernel_rfl) (rel_none pages stack types nc ns data rs a b c d e f g h hm ha hc hr hn ⟨0,Nat.zero_le _⟩)
end Go.Proofs.Ytliidiceljdgmaa
namespace Go.Proofs.Ytliidiceljdgmaa
open Go.RowKit
open Sy
theorem lay_long (pages stack types : Int) (nc : Nat) (data : List UInt8) (rs : List Rl) (starts : List Nat) : evF Try.prog (baseC 3 selL) noLoop 100 10 16 [imgV pages stack types nc rs.length starts.length data] (layS rs starts [(0,true)]) = some (Value.tuple { toList:=[Value.agg ⟨[.int .u32 0,.int .u32 0,.int .u32 0,.int .u32 0,.int .u32 0,.int .u32 0,.int .u32 0,.int .u32 0]⟩,.int .i64 3] },{ n:=70,h:=[(65,⟨false,some (0,0),rels rs,none⟩),(66,⟨false,some (0,0),u32s starts,none⟩)],lo:=[],esc:=0,T:=[],k:=1,O:=(True∧(tt∧4 < 9000000000000000000)∧(rr (Value.slice (some ⟨69,0,none⟩) 4 4)∧True)∧((tt∧tt∧tt∧tt∧tt∧True∧rr [Value.bool (decide ((↑nc:Int) > (4096:Int))),.bool (decide ((↑(lenT data):Int) > (16384:Int))),.bool (decide ((↑rs.length:Int) > (256:Int))),.bool (decide ((↑starts.length:Int) > (4:Int)))])∧True)∧True)∧(!!(decide ((↑nc:Int) > (4096:Int)) || (decide ((↑(lenT data):Int) > (16384:Int)) || (decide ((↑rs.length:Int) > (256:Int)) || (decide ((↑starts.length:Int) > (4:Int)) || false))))) = true : St }):=by kernel_rfl
theorem lay_arg (pages stack types : Int) (nc : Nat) (data : List UInt8) (rs : List Rl) (starts : List Nat) : evF Try.prog (baseC 3 selL) noLoop 100 10 16 [imgV pages stack types nc rs.length starts.length data] (layS rs starts [(0,false),(1,true)]) = some (Value.tuple { toList:=[Value.agg ⟨[.int .u32 0,.int .u32 0,.int .u32 0,.int .u32 0,.int .u32 0,.int .u32 0,.int .u32 0,.int .u32 0]⟩,.int .i64 2] },{ n:=71,h:=[(65,⟨false,some (0,0),rels rs,none⟩),(66,⟨false,some (0,0),u32s starts,none⟩)],lo:=[],esc:=0,T:=[],k:=2,O:=(((True∧(tt∧4 < 9000000000000000000)∧(rr (Value.slice (some ⟨69,0,none⟩) 4 4)∧True)∧((tt∧tt∧tt∧tt∧tt∧True∧rr [Value.bool (decide ((↑nc:Int) > (4096:Int))),.bool (decide ((↑(lenT data):Int) > (16384:Int))),.bool (decide ((↑rs.length:Int) > (256:Int))),.bool (decide ((↑starts.length:Int) > (4:Int)))])∧True)∧True)∧(!!(decide ((↑nc:Int) > (4096:Int)) || (decide ((↑(lenT data):Int) > (16384:Int)) || (decide ((↑rs.length:Int) > (256:Int)) || (decide ((↑starts.length:Int) > (4:Int)) || false))))) = false)∧(tt∧9 < 9000000000000000000)∧(rr (Value.slice (some ⟨70,0,none⟩) 9 9)∧True)∧((tt∧tt∧tt∧tt∧tt∧True∧rr [Value.bool (decide (pages < (16:Int))),.bool (decide (pages > (1024:Int))),.bool (decide (stack < (256:Int))),.bool (decide (stack > (4096:Int))),.bool (stack.tmod (256:Int) != (0:Int)),.bool (decide (types < (0:Int))),.bool (decide (types > (2048:Int))),.bool ((↑nc:Int) == (0:Int)),.bool ((↑starts.length:Int) == (0:Int))])∧True)∧True)∧(!!(decide (pages < (16:Int)) || (decide (pages > (1024:Int)) || (decide (stack < (256:Int)) || (decide (stack > (4096:Int)) || (stack.tmod (256:Int) != (0:Int) || (decide (types < (0:Int)) || (decide (types > (2048:Int)) || ((↑nc:Int) == (0:Int) || ((↑starts.length:Int) == (0:Int) || false)))))))))) = true : St }):=by kernel_rfl
theorem lay_far (pages stack types : Int) (nc : Nat) (data : List UInt8) (rs : List Rl) (starts : List Nat) (j : Nat) (hl : starts.length < 9000000000000000000) (hx : ∀ (x : Nat),x ∈ starts → x < 4294967296) (hj : j < starts.length) (hv : nc ≤ starts.getD j 0) (hn : ∀ (i : Nat),i < j → starts.getD i 0 < nc) : evF Try.prog (baseC 3 selL) (lpOf [stEntF pages stack types nc rs.length data starts j hl hx hj hv hn]) 100 10 16 [imgV pages stack types nc rs.length starts.length data] (layS rs starts [(0,false),(1,false)]) = some (Value.tuple { toList:=[Value.agg ⟨[.int .u32 0,.int .u32 0,.int .u32 0,.int .u32 0,.int .u32 0,.int .u32 0,.int .u32 0,.int .u32 0]⟩,.int .i64 2] },{ n:=71,h:=[(65,⟨false,some (0,0),rels rs,none⟩),(66,⟨false,some (0,0),u32s starts,none⟩)],lo:=[],esc:=0,T:=[],k:=2,O:=((((True∧(tt∧4 < 9000000000000000000)∧(rr (Value.slice (some ⟨69,0,none⟩) 4 4)∧True)∧((tt∧tt∧tt∧tt∧tt∧True∧rr [Value.bool (decide ((↑nc:Int) > (4096:Int))),.bool (decide ((↑(lenT data):Int) > (16384:Int))),.bool (decide ((↑rs.length:Int) > (256:Int))),.bool (decide ((↑starts.length:Int) > (4:Int)))])∧True)∧True)∧(!!(decide ((↑nc:Int) > (4096:Int)) || (decide ((↑(lenT data):Int) > (16384:Int)) || (decide ((↑rs.length:Int) > (256:Int)) || (decide ((↑starts.length:Int) > (4:Int)) || false))))) = false)∧(tt∧9 < 9000000000000000000)∧(rr (Value.slice (some ⟨70,0,none⟩) 9 9)∧True)∧((tt∧tt∧tt∧tt∧tt∧True∧rr [Value.bool (decide (pages < (16:Int))),.bool (decide (pages > (1024:Int))),.bool (decide (stack < (256:Int))),.bool (decide (stack > (4096:Int))),.bool (stack.tmod (256:Int) != (0:Int)),.bool (decide (types < (0:Int))),.bool (decide (types > (2048:Int))),.bool ((↑nc:Int) == (0:Int)),.bool ((↑starts.length:Int) == (0:Int))])∧True)∧True)∧(!!(decide (pages < (16:Int)) || (decide (pages > (1024:Int)) || (decide (stack < (256:Int)) || (decide (stack > (4096:Int)) || (stack.tmod (256:Int) != (0:Int) || (decide (types < (0:Int)) || (decide (types > (2048:Int)) || ((↑nc:Int) == (0:Int) || ((↑starts.length:Int) == (0:Int) || false)))))))))) = false)∧(rr (Value.slice (some ⟨66,0,none⟩) starts.length 9223372036854775874)∧rr (Value.func (Fn.func 46) { toList:=[] } { toList:=[Value.pointer (some ⟨67,0,none⟩)] })∧rr (Value.int .i64 (↑starts.length))∧rr (Value.int .i64 0)∧True)∧((tt∧tt∧True∧rr (u32s starts))∧(tt∧tt∧True∧rr [Value.int .i64 pages,.int .i64 stack,.int .i64 types,.slice (some ⟨64,0,none⟩) nc 9223372036854775872,.string ⟨⟨data⟩⟩,.slice (some ⟨65,0,none⟩) rs.length 9223372036854775873,.slice (some ⟨66,0,none⟩) starts.length 9223372036854775874])∧True)∧True∧True : St }):=by kernel_rfl
theorem lay_big (pages stack types : Int) (nc : Nat) (data : List UInt8) (rs : List Rl) (starts : List Nat) (hl : starts.length < 9000000000000000000) (hx : ∀ (x : Nat),x ∈ starts → x < 4294967296) (hn : ∀ (i : Nat),i < starts.length → starts.getD i 0 < nc) : evF Try.prog (baseC 3 selL) (lpOf [stEntN pages stack types nc rs.length data starts hl hx hn]) 100 10 16 [imgV pages stack types nc rs.length starts.length data] (layS rs starts [(0,false),(1,false),(2,false),(3,true)]) = some (Value.tuple { toList:=[Value.agg ⟨[.int .u32 0,.int .u32 0,.int .u32 0,.int .u32 0,.int .u32 0,.int .u32 0,.int .u32 0,.int .u32 0]⟩,.int .i64 13] },{ n:=72,h:=[(65,⟨false,some (0,0),rels rs,none⟩),(66,⟨false,some (0,0),u32s starts,none⟩)],lo:=[],esc:=0,T:=[],k:=4,O:=(((((((True∧(tt∧4 < 9000000000000000000)∧(rr (Value.slice (some ⟨69,0,none⟩) 4 4)∧True)∧((tt∧tt∧tt∧tt∧tt∧True∧rr [Value.bool (decide ((↑nc:Int) > (4096:Int))),.bool (decide ((↑(lenT data):Int) > (16384:Int))),.bool (decide ((↑rs.length:Int) > (256:Int))),.bool (decide ((↑starts.length:Int) > (4:Int)))])∧True)∧True)∧(!!(decide ((↑nc:Int) > (4096:Int)) || (decide ((↑(lenT data):Int) > (16384:Int)) || (decide ((↑rs.length:Int) > (256:Int)) || (decide ((↑starts.length:Int) > (4:Int)) || false))))) = false)∧(tt∧9 < 9000000000000000000)∧(rr (Value.slice (some ⟨70,0,none⟩) 9 9)∧True)∧((tt∧tt∧tt∧tt∧tt∧True∧rr [Value.bool (decide (pages < (16:Int))),.bool (decide (pages > (1024:Int))),.bool (decide (stack < (256:Int))),.bool (decide (stack > (4096:Int))),.bool (stack.tmod (256:Int) != (0:Int)),.bool (decide (types < (0:Int))),.bool (decide (types > (2048:Int))),.bool ((↑nc:Int) == (0:Int)),.bool ((↑starts.length:Int) == (0:Int))])∧True)∧True)∧(!!(decide (pages < (16:Int)) || (decide (pages > (1024:Int)) || (decide (stack < (256:Int)) || (decide (stack > (4096:Int)) || (stack.tmod (256:Int) != (0:Int) || (decide (types < (0:Int)) || (decide (types > (2048:Int)) || ((↑nc:Int) == (0:Int) || ((↑starts.length:Int) == (0:Int) || false)))))))))) = false)∧(rr (Value.slice (some ⟨66,0,none⟩) starts.length 9223372036854775874)∧rr (Value.func (Fn.func 46) { toList:=[] } { toList:=[Value.pointer (some ⟨67,0,none⟩)] })∧rr (Value.int .i64 (↑starts.length))∧rr (Value.int .i64 0)∧True)∧((tt∧tt∧True∧rr (u32s starts))∧(tt∧tt∧True∧rr [Value.int .i64 pages,.int .i64 stack,.int .i64 types,.slice (some ⟨64,0,none⟩) nc 9223372036854775872,.string ⟨⟨data⟩⟩,.slice (some ⟨65,0,none⟩) rs.length 9223372036854775873,.slice (some ⟨66,0,none⟩) starts.length 9223372036854775874])∧True)∧True∧True)∧rr false)∧layOk pages stack nc starts.length data.length∧(rr (Value.agg ⟨[.int .i64 pages,.int .i64 stack,.int .i64 types,.slice (some ⟨64,0,none⟩) nc 9223372036854775872,.string ⟨⟨data⟩⟩,.slice (some ⟨65,0,none⟩) rs.length 9223372036854775873,.slice (some ⟨66,0,none⟩) starts.length 9223372036854775874]⟩)∧True)∧True∧True)∧(!!layBig pages stack nc starts.length data.length) = true : St }):=by kernel_rfl
theorem lay_bad (pages stack types : Int) (nc : Nat) (data : List UInt8) (rs : List Rl) (starts : List Nat) (hl : starts.length < 9000000000000000000) (hx : ∀ (x : Nat),x ∈ starts → x < 4294967296) (hn : ∀ (i : Nat),i < starts.length → starts.getD i 0 < nc) (hm : rs.length ≤ 100000) (ha : (0 : Int) ≤ (0 : Int)) (hc : (0 : Int) ≤ pk (layBig pages stack nc starts.length data.length) (r256 (4 * nc))) (hr : ∀ (i : Nat),i < rs.length → rightOk nc data.length (Int.toNat (0 : Int)) (pk (layBig pages stack nc starts.length data.length) (r256 (4 * nc))).toNat (rl0 rs i)) (j : Nat) (hj : j < rs.length) (hv : relRight types nc data.length (Int.toNat (0 : Int)) (pk (layBig pages stack nc starts.length data.length) (r256 (4 * nc))).toNat (rl0 rs j) (behindN rs j) = false) (hn2 : ∀ (i : Nat),i < j → relRight types nc data.length (Int.toNat (0 : Int)) (pk (layBig pages stack nc starts.length data.length) (r256 (4 * nc))).toNat (rl0 rs i) (behindN rs i) = true) : evF Try.prog (baseC 3 selL) (lpOf [stEntN pages stack types nc rs.length data starts hl hx hn,relEntF pages stack types nc starts.length data rs (0:Int) (pk (layBig pages stack nc starts.length data.length) (r256 (4 * nc))) (pk (layBig pages stack nc starts.length data.length) (r256 (4 * nc))) (pk (layBig pages stack nc starts.length data.length) (r256 data.length)) (pk (layBig pages stack nc starts.length data.length) (r256 (4 * nc)+r256 data.length)) (pk (layBig pages stack nc starts.length data.length) (stack.toNat * starts.length)) (pk (layBig pages stack nc starts.length data.length) (layFrom stack nc starts.length data.length)) (pk (layBig pages stack nc starts.length data.length) (pages.toNat * 256 - layFrom stack nc starts.length data.length)) j hj hm ha hc hr hv hn2]) 100 10 16 [imgV pages stack types nc rs.length starts.length data] (layS rs starts [(0,false),(1,false),(2,false),(3,false)]) = some (Value.tuple { toList:=[Value.agg ⟨[.int .u32 0,.int .u32 0,.int .u32 0,.int .u32 0,.int .u32 0,.int .u32 0,.int .u32 0,.int .u32 0]⟩,.int .i64 2] },{ n:=72,h:=[(65,⟨false,some (0,0),rels rs,none⟩),(66,⟨false,some (0,0),u32s starts,none⟩)],lo:=[],esc:=0,T:=[],k:=4,O:=((((((((True∧(tt∧4 < 9000000000000000000)∧(rr (Value.slice (some ⟨69,0,none⟩) 4 4)∧True)∧((tt∧tt∧tt∧tt∧tt∧True∧rr [Value.bool (decide ((↑nc:Int) > (4096:Int))),.bool (decide ((↑(lenT data):Int) > (16384:Int))),.bool (decide ((↑rs.length:Int) > (256:Int))),.bool (decide ((↑starts.length:Int) > (4:Int)))])∧True)∧True)∧(!!(decide ((↑nc:Int) > (4096:Int)) || (decide ((↑(lenT data):Int) > (16384:Int)) || (decide ((↑rs.length:Int) > (256:Int)) || (decide ((↑starts.length:Int) > (4:Int)) || false))))) = false)∧(tt∧9 < 9000000000000000000)∧(rr (Value.slice (some ⟨70,0,none⟩) 9 9)∧True)∧((tt∧tt∧tt∧tt∧tt∧True∧rr [Value.bool (decide (pages < (16:Int))),.bool (decide (pages > (1024:Int))),.bool (decide (stack < (256:Int))),.bool (decide (stack > (4096:Int))),.bool (stack.tmod (256:Int) != (0:Int)),.bool (decide (types < (0:Int))),.bool (decide (types > (2048:Int))),.bool ((↑nc:Int) == (0:Int)),.bool ((↑starts.length:Int) == (0:Int))])∧True)∧True)∧(!!(decide (pages < (16:Int)) || (decide (pages > (1024:Int)) || (decide (stack < (256:Int)) || (decide (stack > (4096:Int)) || (stack.tmod (256:Int) != (0:Int) || (decide (types < (0:Int)) || (decide (types > (2048:Int)) || ((↑nc:Int) == (0:Int) || ((↑starts.length:Int) == (0:Int) || false)))))))))) = false)∧(rr (Value.slice (some ⟨66,0,none⟩) starts.length 9223372036854775874)∧rr (Value.func (Fn.func 46) { toList:=[] } { toList:=[Value.pointer (some ⟨67,0,none⟩)] })∧rr (Value.int .i64 (↑starts.length))∧rr (Value.int .i64 0)∧True)∧((tt∧tt∧True∧rr (u32s starts))∧(tt∧tt∧True∧rr [Value.int .i64 pages,.int .i64 stack,.int .i64 types,.slice (some ⟨64,0,none⟩) nc 9223372036854775872,.string ⟨⟨data⟩⟩,.slice (some ⟨65,0,none⟩) rs.length 9223372036854775873,.slice (some ⟨66,0,none⟩) starts.length 9223372036854775874])∧True)∧True∧True)∧rr false)∧layOk pages stack nc starts.length data.length∧(rr (Value.agg ⟨[.int .i64 pages,.int .i64 stack,.int .i64 types,.slice (some ⟨64,0,none⟩) nc 9223372036854775872,.string ⟨⟨data⟩⟩,.slice (some ⟨65,0,none⟩) rs.length 9223372036854775873,.slice (some ⟨66,0,none⟩) starts.length 9223372036854775874]⟩)∧True)∧True∧True)∧(!!layBig pages stack nc starts.length data.length) = false)∧(rr (Value.pointer (some ⟨67,0,none⟩))∧rr (Value.pointer (some ⟨68,0,none⟩))∧rr (Value.pointer (some ⟨71,0,none⟩))∧rr (Value.int .u32 0)∧rr (Value.slice (some ⟨65,0,none⟩) rs.length 9223372036854775873)∧rr (Value.int .i64 (↑rs.length))∧rr (Value.int .i64 0)∧True)∧((tt∧tt∧True∧rr (rels rs))∧(tt∧tt∧True∧rr [Value.int .i64 pages,.int .i64 stack,.int .i64 types,.slice (some ⟨64,0,none⟩) nc 9223372036854775872,.string ⟨⟨data⟩⟩,.slice (some ⟨65,0,none⟩) rs.length 9223372036854775873,.slice (some ⟨66,0,none⟩) starts.length 9223372036854775874])∧(tt∧tt∧True∧rr [Value.int .u32 0,.int .u32 0,.int .u32 0,.int .u32 0,.int .u32 0,.int .u32 0,.int .u32 0,.int .u32 0])∧(tt∧tt∧True∧rr [Value.int .u32 0,.int .u32 (pk (layBig pages stack nc starts.length data.length) (r256 (4 * nc))),.int .u32 (pk (layBig pages stack nc starts.length data.length) (r256 (4 * nc))),.int .u32 (pk (layBig pages stack nc starts.length data.length) (r256 data.length)),.int .u32 (pk (layBig pages stack nc starts.length data.length) (r256 (4 * nc)+r256 data.length)),.int .u32 (pk (layBig pages stack nc starts.length data.length) (stack.toNat * starts.length)),.int .u32 (pk (layBig pages stack nc starts.length data.length) (layFrom stack nc starts.length data.length)),.int .u32 (pk (layBig pages stack nc starts.length data.length) (pages.toNat * 256 - layFrom stack nc starts.length data.length))])∧True)∧True∧True : St }):=by kernel_rfl
theorem lay_ok (pages stack types : Int) (nc : Nat) (data : List UInt8) (rs : List Rl) (starts : List Nat) (hl : starts.length < 9000000000000000000) (hx : ∀ (x : Nat),x ∈ starts → x < 4294967296) (hn : ∀ (i : Nat),i < starts.length → starts.getD i 0 < nc) (hm : rs.length ≤ 100000) (ha : (0 : Int) ≤ (0 : Int)) (hc : (0 : Int) ≤ pk (layBig pages stack nc starts.length data.length) (r256 (4 * nc))) (hr : ∀ (i : Nat),i < rs.length → rightOk nc data.length (Int.toNat (0 : Int)) (pk (layBig pages stack nc starts.length data.length) (r256 (4 * nc))).toNat (rl0 rs i)) (hn2 : ∀ (i : Nat),i < rs.length → relRight types nc data.length (Int.toNat (0 : Int)) (pk (layBig pages stack nc starts.length data.length) (r256 (4 * nc))).toNat (rl0 rs i) (behindN rs i) = true) : evF Try.prog (baseC 3 selL) (lpOf [stEntN pages stack types nc rs.length data starts hl hx hn,relEntN pages stack types nc starts.length data rs (0:Int) (pk (layBig pages stack nc starts.length data.length) (r256 (4 * nc))) (pk (layBig pages stack nc starts.length data.length) (r256 (4 * nc))) (pk (layBig pages stack nc starts.length data.length) (r256 data.length)) (pk (layBig pages stack nc starts.length data.length) (r256 (4 * nc)+r256 data.length)) (pk (layBig pages stack nc starts.length data.length) (stack.toNat * starts.length)) (pk (layBig pages stack nc starts.length data.length) (layFrom stack nc starts.length data.length)) (pk (layBig pages stack nc starts.length data.length) (pages.toNat * 256 - layFrom stack nc starts.length data.length)) hm ha hc hr hn2]) 100 10 16 [imgV pages stack types nc rs.length starts.length data] (layS rs starts [(0,false),(1,false),(2,false),(3,false)]) = some (Value.tuple { toList:=[Value.agg ⟨[.int .u32 0,.int .u32 (pk (layBig pages stack nc starts.length data.length) (r256 (4 * nc))),.int .u32 (pk (layBig pages stack nc starts.length data.length) (r256 (4 * nc))),.int .u32 (pk (layBig pages stack nc starts.length data.length) (r256 data.length)),.int .u32 (pk (layBig pages stack nc starts.length data.length) (r256 (4 * nc)+r256 data.length)),.int .u32 (pk (layBig pages stack nc starts.length data.length) (stack.toNat * starts.length)),.int .u32 (pk (layBig pages stack nc starts.length data.length) (layFrom stack nc starts.length data.length)),.int .u32 (pk (layBig pages stack nc starts.length data.length) (pages.toNat * 256 - layFrom stack nc starts.length data.length))]⟩,.int .i64 0] },{ n:=72,h:=[(65,⟨false,some (0,0),rels rs,none⟩),(66,⟨false,some (0,0),u32s starts,none⟩)],lo:=[],esc:=0,T:=[],k:=4,O:=((((((((True∧(tt∧4 < 9000000000000000000)∧(rr (Value.slice (some ⟨69,0,none⟩) 4 4)∧True)∧((tt∧tt∧tt∧tt∧tt∧True∧rr [Value.bool (decide ((↑nc:Int) > (4096:Int))),.bool (decide ((↑(lenT data):Int) > (16384:Int))),.bool (decide ((↑rs.length:Int) > (256:Int))),.bool (decide ((↑starts.length:Int) > (4:Int)))])∧True)∧True)∧(!!(decide ((↑nc:Int) > (4096:Int)) || (decide ((↑(lenT data):Int) > (16384:Int)) || (decide ((↑rs.length:Int) > (256:Int)) || (decide ((↑starts.length:Int) > (4:Int)) || false))))) = false)∧(tt∧9 < 9000000000000000000)∧(rr (Value.slice (some ⟨70,0,none⟩) 9 9)∧True)∧((tt∧tt∧tt∧tt∧tt∧True∧rr [Value.bool (decide (pages < (16:Int))),.bool (decide (pages > (1024:Int))),.bool (decide (stack < (256:Int))),.bool (decide (stack > (4096:Int))),.bool (stack.tmod (256:Int) != (0:Int)),.bool (decide (types < (0:Int))),.bool (decide (types > (2048:Int))),.bool ((↑nc:Int) == (0:Int)),.bool ((↑starts.length:Int) == (0:Int))])∧True)∧True)∧(!!(decide (pages < (16:Int)) || (decide (pages > (1024:Int)) || (decide (stack < (256:Int)) || (decide (stack > (4096:Int)) || (stack.tmod (256:Int) != (0:Int) || (decide (types < (0:Int)) || (decide (types > (2048:Int)) || ((↑nc:Int) == (0:Int) || ((↑starts.length:Int) == (0:Int) || false)))))))))) = false)∧(rr (Value.slice (some ⟨66,0,none⟩) starts.length 9223372036854775874)∧rr (Value.func (Fn.func 46) { toList:=[] } { toList:=[Value.pointer (some ⟨67,0,none⟩)] })∧rr (Value.int .i64 (↑starts.length))∧rr (Value.int .i64 0)∧True)∧((tt∧tt∧True∧rr (u32s starts))∧(tt∧tt∧True∧rr [Value.int .i64 pages,.int .i64 stack,.int .i64 types,.slice (some ⟨64,0,none⟩) nc 9223372036854775872,.string ⟨⟨data⟩⟩,.slice (some ⟨65,0,none⟩) rs.length 9223372036854775873,.slice (some ⟨66,0,none⟩) starts.length 9223372036854775874])∧True)∧True∧True)∧rr false)∧layOk pages stack nc starts.length data.length∧(rr (Value.agg ⟨[.int .i64 pages,.int .i64 stack,.int .i64 types,.slice (some ⟨64,0,none⟩) nc 9223372036854775872,.string ⟨⟨data⟩⟩,.slice (some ⟨65,0,none⟩) rs.length 9223372036854775873,.slice (some ⟨66,0,none⟩) starts.length 9223372036854775874]⟩)∧True)∧True∧True)∧(!!layBig pages stack nc starts.length data.length) = false)∧(rr (Value.pointer (some ⟨67,0,none⟩))∧rr (Value.pointer (some ⟨68,0,none⟩))∧rr (Value.pointer (some ⟨71,0,none⟩))∧rr (Value.int .u32 0)∧rr (Value.slice (some ⟨65,0,none⟩) rs.length 9223372036854775873)∧rr (Value.int .i64 (↑rs.length))∧rr (Value.int .i64 0)∧True)∧((tt∧tt∧True∧rr (rels rs))∧(tt∧tt∧True∧rr [Value.int .i64 pages,.int .i64 stack,.int .i64 types,.slice (some ⟨64,0,none⟩) nc 9223372036854775872,.string ⟨⟨data⟩⟩,.slice (some ⟨65,0,none⟩) rs.length 9223372036854775873,.slice (some ⟨66,0,none⟩) starts.length 9223372036854775874])∧(tt∧tt∧True∧rr [Value.int .u32 0,.int .u32 0,.int .u32 0,.int .u32 0,.int .u32 0,.int .u32 0,.int .u32 0,.int .u32 0])∧(tt∧tt∧True∧rr [Value.int .u32 0,.int .u32 (pk (layBig pages stack nc starts.length data.length) (r256 (4 * nc))),.int .u32 (pk (layBig pages stack nc starts.length data.length) (r256 (4 * nc))),.int .u32 (pk (layBig pages stack nc starts.length data.length) (r256 data.length)),.int .u32 (pk (layBig pages stack nc starts.length data.length) (r256 (4 * nc)+r256 data.length)),.int .u32 (pk (layBig pages stack nc starts.length data.length) (stack.toNat * starts.length)),.int .u32 (pk (layBig pages stack nc starts.length data.length) (layFrom stack nc starts.length data.length)),.int .u32 (pk (layBig pages stack nc starts.length data.length) (pages.toNat * 256 - layFrom stack nc starts.length data.length))])∧True)∧True∧True : St }):=by kernel_rfl
end Go.Proofs.Ytliidiceljdgmaa
namespace Go.Proofs.Ytliidiceljdgmaa
open Go.RowKit
open Sy
def isLong (nc len nr ns : Nat) : Bool:=decide ((nc : Int) > 4096) || (decide ((len : Int) > 16384) || (decide ((nr : Int) > 256) || (decide ((ns : Int) > 4) || false)))
def isArg (pages stack types : Int) (nc ns : Nat) : Bool:=decide (pages < 16) || (decide (pages > 1024) || (decide (stack < 256) || (decide (stack > 4096) || (stack.tmod 256 != 0 || (decide (types < 0) || (decide (types > 2048) || ((nc : Int) == 0 || ((ns : Int) == 0 || false))))))))
def isFar (nc : Nat) (starts : List Nat) : Bool:=(List.range starts.length).any fun i => decide (nc ≤ starts.getD i 0)
def relGood (types : Int) (nc len : Nat) (rs : List Rl) (i : Nat) : Bool:=relRight types nc len 0 (r256 (4 * nc)) (rl0 rs i) (behindN rs i)
def isBad (types : Int) (nc len : Nat) (rs : List Rl) : Bool:=(List.range rs.length).any fun i => !relGood types nc len rs i
def errOf (pages stack types : Int) (nc : Nat) (data : List UInt8) (rs : List Rl) (starts : List Nat) : Nat :=
 bif isLong nc data.length rs.length starts.length then 3
 else bif isArg pages stack types nc starts.length then 2
 else bif isFar nc starts then 2
 else bif layBig pages stack nc starts.length data.length then 13
 else bif isBad types nc data.length rs then 2 else 0
def pe (e : Nat) (x : Nat) : Int:=bif Nat.beq e 0 then (x : Int) else 0
def layV (pages stack types : Int) (nc : Nat) (data : List UInt8) (rs : List Rl) (starts : List Nat) : Value :=
 .agg ⟨[.int .u32 0,.int .u32 (pe (errOf pages stack types nc data rs starts) (r256 (4 * nc))),.int .u32 (pe (errOf pages stack types nc data rs starts) (r256 (4 * nc))),.int .u32 (pe (errOf pages stack types nc data rs starts) (r256 data.length)),.int .u32 (pe (errOf pages stack types nc data rs starts) (r256 (4 * nc) + r256 data.length)),.int .u32 (pe (errOf pages stack types nc data rs starts) (stack.toNat * starts.length)),.int .u32 (pe (errOf pages stack types nc data rs starts) (layFrom stack nc starts.length data.length)),.int .u32 (pe (errOf pages stack types nc data rs starts) (pages.toNat * 256 - layFrom stack nc starts.length data.length))]⟩
def layRes (pages stack types : Int) (nc : Nat) (data : List UInt8) (rs : List Rl) (starts : List Nat) : Value:=.tuple ⟨[layV pages stack types nc data rs starts,.int .i64 (errOf pages stack types nc data rs starts : Nat)]⟩
def imH (rs : List Rl) (starts : List Nat) : Sy.Heap:=[(65,⟨false,some (0,0),rels rs,none⟩),(66,⟨false,some (0,0),u32s starts,none⟩)]
def imC (pages stack types : Int) (nc : Nat) (data : List UInt8) (rs : List Rl) (starts : List Nat) (v : Value) : Con:=⟨[imgV pages stack types nc rs.length starts.length data],67,imH rs starts,[],v,67,imH rs starts,[]⟩
structure ImOk (rs : List Rl) (starts : List Nat) : Prop where
 rels : ∀ r ∈ rs,RlOk r
 nums : ∀ x ∈ starts,x < 4294967296
 len : starts.length < 9000000000000000000
theorem first_of (p : Nat → Bool) : ∀ n,(List.range n).any p = true → ∃ j,j < n ∧ p j = true ∧ ∀ i,i < j → p i = false
 | 0,h => by simp at h
 | n + 1,h => by
  by_cases h1 : (List.range n).any p = true
  ·obtain ⟨j,h2,h3,h4⟩:=first_of p n h1
   exact ⟨j,by omega,h3,h4⟩
  ·rw [List.range_succ,List.any_append] at h
   simp only [rr, tt, h1,Bool.false_or,List.any_cons,List.any_nil,Bool.or_false] at h
   refine ⟨n,by omega,h,fun i hi => ?_⟩
   simp only [rr, tt, Bool.not_eq_true,List.any_eq_false,List.mem_range] at h1
   simpa using h1 i hi
theorem none_of {p : Nat → Bool} {n : Nat} (h : (List.range n).any p = false) : ∀ i,i < n → p i = false:=by
 intro i hi
 simp only [rr, tt, List.any_eq_false,List.mem_range] at h
 simpa using h i hi
theorem imWf (pages stack types : Int) (nc : Nat) (data : List UInt8) (rs : List Rl) (starts : List Nat) (v : Value) (hv : flat2 v = true) : (imC pages stack types nc data rs starts v).Wf 3 :=
 ⟨by show NG ≤ 67; decide,Nat.le_refl _,⟨⟨rfl,rfl,flat_bnd (rels_flat rs)⟩,⟨rfl,rfl,flat_bnd (u32s_flat starts)⟩,trivial⟩,rfl,rfl,rfl,by kernel_rfl,okV_flat2 hv 1,fun x hx v hv => by
  simp only [rr, tt, imC,imH,List.mem_cons,List.not_mem_nil,or_false] at hx
  rcases hx with rfl | rfl
  ·exact okV_flat0 (rels_flat rs v hv) 3
  ·exact okV_flat0 (u32s_flat starts v hv) 3⟩
theorem im_any {call : CallK} (hcall : SoundCall Try.prog call) {f : FuncId} {pages stack types : Int} {nc : Nat} {data : List UInt8} {rs : List Rl} {starts : List Nat} {T : List (Nat × Bool)} {v v' : Value} {n k' : Nat} {q : Prop}
  (hr : call f [imgV pages stack types nc rs.length starts.length data] (layS rs starts T) = some (v,⟨n,imH rs starts,[],0,[],k',q⟩))
  (hv : v = v') (hf : flat2 v' = true) (hu : isU v' = false) (hq : q) : ConOk Try.prog f 3 (imC pages stack types nc data rs starts v'):=by
 subst hv
 refine conOk_run hcall (imWf pages stack types nc data rs starts v hf) (T:=T) (p:=fun l => Nat.blt l 67) (σ:=id) hr hq ?_
 exact ⟨fun _ _ => rfl,⟨⟨rfl,flat_all (rels_flat rs),rfl,rfl,rfl,trivial,(flat_map (rels_flat rs)).symm⟩,⟨rfl,flat_all (u32s_flat starts),rfl,rfl,rfl,trivial,(flat_map (u32s_flat starts)).symm⟩,trivial⟩,rfl,trivial,⟨okV_flat2 hf 1,(rnV_id 3 v).symm⟩,hu,⟨⟨rfl,rfl,flat_bnd (rels_flat rs)⟩,⟨rfl,rfl,flat_bnd (u32s_flat starts)⟩,trivial⟩,rfl,bnd_flat2 _ hf,fun x _ _ => .inl rfl⟩
theorem arg_lay {pages stack types : Int} {nc ns nr len : Nat} (hl : isLong nc len nr ns = false) (ha : isArg pages stack types nc ns = false) : layOk pages stack nc ns len:=by
 unfold isLong at hl
 unfold isArg at ha
 simp only [rr, tt, Bool.or_eq_false_iff,decide_eq_false_iff_not,bne_eq_false_iff_eq,beq_eq_false_iff_ne,ne_eq] at hl ha
 obtain ⟨l1,l2,l3,l4,_⟩:=hl
 obtain ⟨a1,a2,a3,a4,a5,a6,a7,a8,a9,_⟩:=ha
 have h0 : 0 ≤ stack:=by omega
 obtain ⟨s,rfl⟩:=Int.eq_ofNat_of_zero_le h0
 rw [show (256 : Int) = ((256 : Nat) : Int) from rfl,← Int.ofNat_tmod] at a5
 exact ⟨by omega,by omega,by omega,by omega,by omega,by omega,by omega,by omega⟩
theorem lay_con (pages stack types : Int) (nc : Nat) (data : List UInt8) (rs : List Rl) (starts : List Nat) (hi : ImOk rs starts) : ConOk Try.prog 16 3 (imC pages stack types nc data rs starts (layRes pages stack types nc data rs starts)):=by
 have hb:=baseC_ok (d:=3) selL_ok
 have h4 : (4 : Nat) < 9000000000000000000:=by omega
 have h9 : (9 : Nat) < 9000000000000000000:=by omega
 cases hl : isLong nc data.length rs.length starts.length
 ·have hl' : (!!isLong nc data.length rs.length starts.length) = false:=by rw [hl]; rfl
  cases ha : isArg pages stack types nc starts.length
  ·have ha' : (!!isArg pages stack types nc starts.length) = false:=by rw [ha]; rfl
   have hlay:=arg_lay hl ha
   cases hf : isFar nc starts
   ·have hn : ∀ i,i < starts.length → starts.getD i 0 < nc:=fun i hi => by
     have:=none_of hf i hi; simpa using this
    cases hg : layBig pages stack nc starts.length data.length
    ·have hg' : (!!layBig pages stack nc starts.length data.length) = false:=by rw [hg]; rfl
     have hm : rs.length ≤ 100000:=by
      unfold isLong at hl; simp only [rr, tt, Bool.or_eq_false_iff,decide_eq_false_iff_not] at hl; omega
     have hpk : pk (layBig pages stack nc starts.length data.length) (r256 (4 * nc)) = ((r256 (4 * nc) : Nat) : Int):=by rw [hg]; rfl
     have hc : 0 ≤ pk (layBig pages stack nc starts.length data.length) (r256 (4 * nc)):=by rw [hpk]; omega
     have hct : (pk (layBig pages stack nc starts.length data.length) (r256 (4 * nc))).toNat = r256 (4 * nc):=by rw [hpk]; rfl
     have hro : ∀ i,i < rs.length → rightOk nc data.length (0 : Int).toNat (pk (layBig pages stack nc starts.length data.length) (r256 (4 * nc))).toNat (rl0 rs i):=fun i hir => by
      rw [hct]
      have:=r256_le (4 * nc)
      refine ⟨?_,hlay.2.2.2.2.2.1,hlay.2.2.2.2.2.2.2,by simp,by have:=hlay.2.2.2.2.2.1; omega⟩
      unfold rl0; rw [List.getD_eq_getElem?_getD,List.getElem?_eq_getElem hir]; exact hi.rels _ (List.getElem_mem hir)
     cases hd : isBad types nc data.length rs
     ·have he : errOf pages stack types nc data rs starts = 0:=by unfold errOf; rw [hl,ha,hf,hg,hd]; rfl
      have hn2 : ∀ i,i < rs.length → relRight types nc data.length (0 : Int).toNat (pk (layBig pages stack nc starts.length data.length) (r256 (4 * nc))).toNat (rl0 rs i) (behindN rs i) = true:=fun i hir => by
       rw [hct]; have:=none_of hd i hir; simpa [relGood] using this
      have hh:=lay_ok pages stack types nc data rs starts hi.len hi.nums hn hm (by omega) hc hro hn2
      rw [lenT_eq] at hh
      refine im_any (run_ok i_names hb (lpOf_ok _) 10) hh ?_ rfl rfl ?_
      ·unfold layRes layV; rw [he,hg]; rfl
      ·repeat' (with_reducible apply And.intro)
       all_goals first | exact h4 | exact h9 | exact hl' | exact ha' | exact hg' | exact hlay | with_reducible trivial | with_reducible rfl
     ·obtain ⟨j,hj,hv,hn2⟩:=first_of _ _ hd
      have he : errOf pages stack types nc data rs starts = 2:=by unfold errOf; rw [hl,ha,hf,hg,hd]; rfl
      have hv' : relRight types nc data.length (0 : Int).toNat (pk (layBig pages stack nc starts.length data.length) (r256 (4 * nc))).toNat (rl0 rs j) (behindN rs j) = false:=by
       rw [hct]; simpa [relGood] using hv
      have hn2' : ∀ i,i < j → relRight types nc data.length (0 : Int).toNat (pk (layBig pages stack nc starts.length data.length) (r256 (4 * nc))).toNat (rl0 rs i) (behindN rs i) = true:=fun i hij => by
       rw [hct]; have:=hn2 i hij; simpa [relGood] using this
      have hh:=lay_bad pages stack types nc data rs starts hi.len hi.nums hn hm (by omega) hc hro j hj hv' hn2'
      rw [lenT_eq] at hh
      refine im_any (run_ok i_names hb (lpOf_ok _) 10) hh ?_ rfl rfl ?_
      ·unfold layRes layV; rw [he]; rfl
      ·repeat' (with_reducible apply And.intro)
       all_goals first | exact h4 | exact h9 | exact hl' | exact ha' | exact hg' | exact hlay | with_reducible trivial | with_reducible rfl
    ·have hg' : (!!layBig pages stack nc starts.length data.length) = true:=by rw [hg]; rfl
     have he : errOf pages stack types nc data rs starts = 13:=by unfold errOf; rw [hl,ha,hf,hg]; rfl
     have hh:=lay_big pages stack types nc data rs starts hi.len hi.nums hn
     rw [lenT_eq] at hh
     refine im_any (run_ok i_names hb (lpOf_ok _) 10) hh ?_ rfl rfl ?_
     ·unfold layRes layV; rw [he]; rfl
     ·repeat' (with_reducible apply And.intro)
      all_goals first | exact h4 | exact h9 | exact hl' | exact ha' | exact hg' | exact hlay | with_reducible trivial | with_reducible rfl
   ·obtain ⟨j,hj,hv,hn⟩:=first_of _ _ hf
    have he : errOf pages stack types nc data rs starts = 2:=by unfold errOf; rw [hl,ha,hf]; rfl
    have hh:=lay_far pages stack types nc data rs starts j hi.len hi.nums hj (by simpa using hv) (fun i hij => by have:=hn i hij; simpa using this)
    rw [lenT_eq] at hh
    refine im_any (run_ok i_names hb (lpOf_ok _) 10) hh ?_ rfl rfl ?_
    ·unfold layRes layV; rw [he]; rfl
    ·repeat' (with_reducible apply And.intro)
     all_goals first | exact h4 | exact h9 | exact hl' | exact ha' | with_reducible trivial | with_reducible rfl
  ·have ha' : (!!isArg pages stack types nc starts.length) = true:=by rw [ha]; rfl
   have he : errOf pages stack types nc data rs starts = 2:=by unfold errOf; rw [hl,ha]; rfl
   have hh:=lay_arg pages stack types nc data rs starts
   rw [lenT_eq] at hh
   refine im_any (run_ok i_names hb (noLoop_ok _) 10) hh ?_ rfl rfl ?_
   ·unfold layRes layV; rw [he]; rfl
   ·repeat' (with_reducible apply And.intro)
    all_goals first | exact h4 | exact h9 | exact hl' | exact ha' | with_reducible trivial | with_reducible rfl
 ·have hl' : (!!isLong nc data.length rs.length starts.length) = true:=by rw [hl]; rfl
  have he : errOf pages stack types nc data rs starts = 3:=by unfold errOf; rw [hl]; rfl
  have hh:=lay_long pages stack types nc data rs starts
  rw [lenT_eq] at hh
  refine im_any (run_ok i_names hb (noLoop_ok _) 10) hh ?_ rfl rfl ?_
  ·unfold layRes layV; rw [he]; rfl
  ·repeat' (with_reducible apply And.intro)
   all_goals first | exact h4 | exact h9 | exact hl' | with_reducible trivial | with_reducible rfl
end Go.Proofs.Ytliidiceljdgmaa
namespace Go.Proofs.Ytliidiceljdgmaa
open Go.RowKit
open Sy
section
variable {P : Program} {call : CallK} {f : FuncId} {d : Nat}
end
def imgVZ (pages stack types : Int) (nc nr ns : Nat) (data : List UInt8) : Value :=
 .agg ⟨[.int .i64 pages,.int .i64 stack,.int .i64 types,.slice (some ⟨64,0,none⟩) nc (big + 64),.string ⟨⟨data⟩⟩,.slice none 0 0,.slice (some ⟨66,0,none⟩) ns (big + 66)]⟩
def imHZ (rs : List Rl) (starts : List Nat) : Sy.Heap:=[(66,⟨false,some (0,0),u32s starts,none⟩)]
def imCZ (pages stack types : Int) (nc : Nat) (data : List UInt8) (rs : List Rl) (starts : List Nat) (v : Value) : Con:=⟨[imgVZ pages stack types nc rs.length starts.length data],67,imHZ rs starts,[],v,67,imHZ rs starts,[]⟩
end Go.Proofs.Ytliidiceljdgmaa
namespace Go.Proofs.Ytliidiceljdgmaa
open Go.RowKit
open Sy
def genI (p s t : Int) (d : List UInt8) (a1 a2 a3 : Option Addr) (n1 n2 n3 c1 c2 c3 : Nat) : Value:=.agg ⟨[.int .i64 p,.int .i64 s,.int .i64 t,.slice a1 n1 c1,.string ⟨⟨d⟩⟩,.slice a2 n2 c2,.slice a3 n3 c3]⟩
def noLay (e : Int) : Value:=.tuple ⟨[.agg ⟨[.int .u32 0,.int .u32 0,.int .u32 0,.int .u32 0,.int .u32 0,.int .u32 0,.int .u32 0,.int .u32 0]⟩,.int .i64 e]⟩
def layEC (v : Value) (e : Int) : Con:=⟨[v],67,[],[],noLay e,67,[],[]⟩
theorem lye_l (p s t : Int) (d : List UInt8) (a1 a2 a3 : Option Addr) (n1 n2 n3 c1 c2 c3 : Nat) : obs (evF Try.prog (baseC 3 selI) noLoop 100 10 16 [genI p s t d a1 a2 a3 n1 n2 n3 c1 c2 c3] ⟨67,[],[],0,[(0,true)],0,True⟩) = some (Value.tuple { toList:=[Value.agg ⟨[.int .u32 0,.int .u32 0,.int .u32 0,.int .u32 0,.int .u32 0,.int .u32 0,.int .u32 0,.int .u32 0]⟩,.int .i64 3] },(True∧(tt∧4 < 9000000000000000000)∧(rr (Value.slice (some ⟨69,0,none⟩) 4 4)∧True)∧((tt∧tt∧tt∧tt∧tt∧True∧rr [Value.bool (decide ((↑n1:Int) > (4096:Int))),.bool (decide ((↑(lenT d):Int) > (16384:Int))),.bool (decide ((↑n2:Int) > (256:Int))),.bool (decide ((↑n3:Int) > (4:Int)))])∧True)∧True)∧(!!(decide ((↑n1:Int) > (4096:Int)) || (decide ((↑(lenT d):Int) > (16384:Int)) || (decide ((↑n2:Int) > (256:Int)) || (decide ((↑n3:Int) > (4:Int)) || false))))) = true):=by kernel_rfl
theorem lye_a (p s t : Int) (d : List UInt8) (a1 a2 a3 : Option Addr) (n1 n2 n3 c1 c2 c3 : Nat) : obs (evF Try.prog (baseC 3 selI) noLoop 100 10 16 [genI p s t d a1 a2 a3 n1 n2 n3 c1 c2 c3] ⟨67,[],[],0,[(0,false),(1,true)],0,True⟩) = some (Value.tuple { toList:=[Value.agg ⟨[.int .u32 0,.int .u32 0,.int .u32 0,.int .u32 0,.int .u32 0,.int .u32 0,.int .u32 0,.int .u32 0]⟩,.int .i64 2] },(((True∧(tt∧4 < 9000000000000000000)∧(rr (Value.slice (some ⟨69,0,none⟩) 4 4)∧True)∧((tt∧tt∧tt∧tt∧tt∧True∧rr [Value.bool (decide ((↑n1:Int) > (4096:Int))),.bool (decide ((↑(lenT d):Int) > (16384:Int))),.bool (decide ((↑n2:Int) > (256:Int))),.bool (decide ((↑n3:Int) > (4:Int)))])∧True)∧True)∧(!!(decide ((↑n1:Int) > (4096:Int)) || (decide ((↑(lenT d):Int) > (16384:Int)) || (decide ((↑n2:Int) > (256:Int)) || (decide ((↑n3:Int) > (4:Int)) || false))))) = false)∧(tt∧9 < 9000000000000000000)∧(rr (Value.slice (some ⟨70,0,none⟩) 9 9)∧True)∧((tt∧tt∧tt∧tt∧tt∧True∧rr [Value.bool (decide (p < (16:Int))),.bool (decide (p > (1024:Int))),.bool (decide (s < (256:Int))),.bool (decide (s > (4096:Int))),.bool (s.tmod (256:Int) != (0:Int)),.bool (decide (t < (0:Int))),.bool (decide (t > (2048:Int))),.bool ((↑n1:Int) == (0:Int)),.bool ((↑n3:Int) == (0:Int))])∧True)∧True)∧(!!(decide (p < (16:Int)) || (decide (p > (1024:Int)) || (decide (s < (256:Int)) || (decide (s > (4096:Int)) || (s.tmod (256:Int) != (0:Int) || (decide (t < (0:Int)) || (decide (t > (2048:Int)) || ((↑n1:Int) == (0:Int) || ((↑n3:Int) == (0:Int) || false)))))))))) = true):=by kernel_rfl
theorem layE_con (p s t : Int) (d : List UInt8) (a1 a2 a3 : Option Addr) (nc nr ns c1 c2 c3 : Nat) (h : isLong nc d.length nr ns = true ∨ nc = 0 ∨ ns = 0) (hv : okV (fun l => Nat.blt l 67) 3 (genI p s t d a1 a2 a3 nc nr ns c1 c2 c3) = true) :
  ConOk Try.prog 16 3 (layEC (genI p s t d a1 a2 a3 nc nr ns c1 c2 c3) (bif isLong nc d.length nr ns then 3 else 2)):=by
 have ha : isLong nc d.length nr ns = false → isArg p s t nc ns = true:=fun hl => by
  rw [hl] at h
  unfold isArg
  rcases h with h | h | h
  ·cases h
  ·subst h; simp
  ·subst h; simp
 have h4 : (4 : Nat) < 9000000000000000000:=by omega
 have h9 : (9 : Nat) < 9000000000000000000:=by omega
 have hw : ∀ e : Int,(layEC (genI p s t d a1 a2 a3 nc nr ns c1 c2 c3) e).Wf 3:=fun e => ⟨by show NG ≤ 67; decide,Nat.le_refl _,trivial,rfl,rfl,rfl,by simp only [rr, tt, layEC,List.all_cons,List.all_nil,hv,Bool.and_true],rfl,fun x hx => by cases hx⟩
 have hobs : ∀ (e : Int) (T : List (Nat × Bool)) (q : Prop),obs (evF Try.prog (baseC 3 selI) noLoop 100 10 16 [genI p s t d a1 a2 a3 nc nr ns c1 c2 c3] ⟨67,[],[],0,T,0,True⟩) = some (noLay e,q) → q → ConOk Try.prog 16 3 (layEC (genI p s t d a1 a2 a3 nc nr ns c1 c2 c3) e):=by
  intro e T q hr hq
  unfold obs at hr
  obtain ⟨⟨v,s'⟩,h1,h2⟩:=oM hr
  cases h2
  exact conOk_run (run_ok (L:=100) i_names (baseC_ok (d:=3) selI_ok) (noLoop_ok _) 10) (hw e) h1 hq (p:=fun l => Nat.blt l 67) (σ:=id) ⟨fun _ _ => rfl,trivial,rfl,trivial,⟨rfl,rfl⟩,rfl,trivial,rfl,okV_bnd 3 _ rfl,fun x hx => by cases hx⟩
 cases hl : isLong nc d.length nr ns
 ·refine hobs 2 _ _ (lye_a p s t d a1 a2 a3 nc nr ns c1 c2 c3) ?_
  have hl' : (!!isLong nc d.length nr ns) = false:=by rw [hl]; rfl
  have ha' : (!!isArg p s t nc ns) = true:=by rw [ha hl]; rfl
  rw [lenT_eq]
  repeat' (with_reducible apply And.intro)
  all_goals first | exact h4 | exact h9 | exact hl' | exact ha' | with_reducible trivial | with_reducible rfl
 ·refine hobs 3 _ _ (lye_l p s t d a1 a2 a3 nc nr ns c1 c2 c3) ?_
  have hl' : (!!isLong nc d.length nr ns) = true:=by rw [hl]; rfl
  rw [lenT_eq]
  repeat' (with_reducible apply And.intro)
  all_goals first | exact h4 | exact h9 | exact hl' | with_reducible trivial | with_reducible rfl
end Go.Proofs.Ytliidiceljdgmaa
namespace Go.Proofs.Ytliidiceljdgmaa
open Go.RowKit
open Sy
set_option maxRecDepth 100000
def ar69 (zs : List UInt8) (N m n : Nat) : Sy.Heap:=[(72,⟨true,none,[.pointer (some ⟨71,0,none⟩),.slice (some ⟨69,0,none⟩) N (big + 69)],none⟩),(71,⟨true,none,[.int .i64 (m : Nat),.slice (some ⟨70,0,none⟩) n (big + 70)],none⟩),(70,⟨true,some (70,1),z64 n,none⟩),(69,⟨true,some (69,1),u8s zs,none⟩)]
def lyCells (c da ds sa ss ha hs : Nat) : List Value:=[.int .u32 0,.int .u32 (c : Nat),.int .u32 (da : Nat),.int .u32 (ds : Nat),.int .u32 (sa : Nat),.int .u32 (ss : Nat),.int .u32 (ha : Nat),.int .u32 (hs : Nat)]
def ldaE : List (Nat × Value):=[(1,.pointer (some ⟨67,0,none⟩)),(2,.pointer (some ⟨72,0,none⟩)),(3,.slice none 0 0),(4,.int .i64 0),(5,.pointer (some ⟨68,0,none⟩)),(6,.pointer (some ⟨73,0,none⟩))]
def ldaI (cs : List Nat) (zs : List UInt8) (N m n : Nat) (c da ds sa ss ha hs : Nat) (k : Int) : Sf :=
 ⟨74,ldaE ++ [(33,.slice (some ⟨64,0,none⟩) cs.length (big + 64)),(34,.int .i64 (cs.length : Nat)),(35,.int .i64 k)],ar69 zs N m n ++ [(68,⟨false,none,lyCells c da ds sa ss ha hs,none⟩),(64,⟨false,some (0,0),u32s cs,none⟩)],[(70,n),(69,N)]⟩
def ldaL (a v : Nat) (zs : List UInt8) (N m n : Nat) : Sy.Steps:=[(74,37,stAC a v zs N m n,[69,70,71,72])]
theorem lda_a (cs : List Nat) (zs : List UInt8) (N : Nat) (m : Nat) (n : Nat) (c : Nat) (da : Nat) (ds : Nat) (sa : Nat) (ss : Nat) (ha : Nat) (hs : Nat) (k : Int) (a : Nat) (v : Nat) : evC Try.prog (evF Try.prog (baseF 3 (selSteps (ldaL a v zs N m n)) noBase) noLoop 100 20) (noLoop 12) 92 100 (loopOf Try.prog 12 0) (Sf.frT 92 (ldaI cs zs N m n c da ds sa ss ha hs k) [(0,true)]) = some (Exit.normal,{ e:=[[unk,.pointer (some ⟨67,0,none⟩),.pointer (some ⟨72,0,none⟩),.slice none 0 0,.int .i64 0,.pointer (some ⟨68,0,none⟩),.pointer (some ⟨73,0,none⟩),.int .i64 k,.int .u32 (intOf' (getD' undef (u32s cs) (0 + k.toNat * 1))),unk,unk,unk,unk,unk,unk,unk],[unk,unk,unk,unk,unk,unk,unk,unk,unk,unk,unk,unk,unk,unk,unk,unk],[unk,.slice (some ⟨64,0,none⟩) cs.length 9223372036854775872,.int .i64 (↑cs.length),.int .i64 (IntKind.i64.wrap (k + (1 : Int))),.bool (decide (k < (↑cs.length : Int))),.int .i64 k,.pointer (some { block:=64,off:=0 + k.toNat * 1 }),.int .u32 (intOf' (getD' undef (u32s cs) (0 + k.toNat * 1))),.pointer (some ⟨72,0,none⟩),.pointer (some ⟨68,0,none⟩),.pointer (some ⟨68,0,none⟩),.int .u32 0,.int .i64 k,.int .u32 (IntKind.u32.wrap k),.int .u32 (IntKind.u32.wrap ((4 : Int) * IntKind.u32.wrap k)),.int .u32 (IntKind.u32.wrap ((0 : Int) + IntKind.u32.wrap ((4 : Int) * IntKind.u32.wrap k)))],[Value.int .u32 (intOf' (getD' undef (u32s cs) (0 + k.toNat * 1))),.bool true,.int .i64 (IntKind.i64.wrap (k + (1 : Int))),unk,unk,unk,unk,unk,unk,unk,unk,unk,unk,unk,unk,unk],[unk,unk,unk,unk,unk,unk,unk,unk,unk,unk,unk,unk,unk,unk,unk,unk],[unk,unk,unk,unk,unk,unk,unk,unk,unk,unk,unk,unk,unk,unk,unk,unk]],s:={ n:=74,h:=[(72,⟨true,none,[Value.pointer (some ⟨71,0,none⟩),.slice (some ⟨69,0,none⟩) N 9223372036854775877],none⟩),(71,⟨true,none,[Value.int .i64 (↑m),.slice (some ⟨70,0,none⟩) n 9223372036854775878],none⟩),(70,⟨true,some (70,1),z64 n,none⟩),(69,⟨true,some (69,1),u8s (patA a (leW 4 v) zs),none⟩),(68,⟨false,none,[Value.int .u32 0,.int .u32 (↑c),.int .u32 (↑da),.int .u32 (↑ds),.int .u32 (↑sa),.int .u32 (↑ss),.int .u32 (↑ha),.int .u32 (↑hs)],none⟩),(64,⟨false,some (0,0),u32s cs,none⟩)],lo:=[(70,n),(69,N),(70,n),(69,N)],esc:=0,T:=[],k:=1,O:=(bif hasN (0 + k.toNat * 1 + 1) (u32s cs) && isLikeL [Value.int .u32 0] (u32s cs) (0 + k.toNat * 1) then bif decide ((0 : Int) ≤ k) && decide (k < (↑cs.length : Int)) then True ∧ decide (k < (↑cs.length : Int)) = true else False else False) ∧ True ∧ (rr (Value.pointer (some ⟨72,0,none⟩)) ∧ Value.int .u32 (IntKind.u32.wrap ((0 : Int) + IntKind.u32.wrap ((4 : Int) * IntKind.u32.wrap k))) = Value.int .u32 (↑a) ∧ rr (Value.int .i64 4) ∧ Value.int .u32 (intOf' (getD' undef (u32s cs) (0 + k.toNat * 1))) = Value.int .u32 (↑v) ∧ True) ∧ ((tt ∧ tt ∧ tt ∧ tt ∧ tt ∧ True ∧ rr [Value.pointer (some ⟨71,0,none⟩),.slice (some ⟨69,0,none⟩) N 9223372036854775877]) ∧ (tt ∧ tt ∧ tt ∧ tt ∧ tt ∧ True ∧ rr [Value.int .i64 (↑m),.slice (some ⟨70,0,none⟩) n 9223372036854775878]) ∧ (tt ∧ (z64 n).all (okV (fun l => l.blt 68) 3) = true ∧ tt ∧ tt ∧ tt ∧ True ∧ z64 n = List.map (rnV (lift 68 74 [69,70,71,72]) 3) (z64 n)) ∧ (tt ∧ (u8s zs).all (okV (fun l => l.blt 68) 3) = true ∧ tt ∧ tt ∧ tt ∧ True ∧ u8s zs = List.map (rnV (lift 68 74 [69,70,71,72]) 3) (u8s zs)) ∧ True) ∧ (tt ∧ n ≤ n) ∧ (tt ∧ N ≤ N) ∧ True : St } : Fr }):=by kernel_rfl
theorem lda_e (cs : List Nat) (zs : List UInt8) (N : Nat) (m : Nat) (n : Nat) (c : Nat) (da : Nat) (ds : Nat) (sa : Nat) (ss : Nat) (ha : Nat) (hs : Nat) (k : Int) : evC Try.prog (evF Try.prog noBase noLoop 100 20) (noLoop 12) 92 100 (loopOf Try.prog 12 0) (Sf.frT 92 (ldaI cs zs N m n c da ds sa ss ha hs k) [(0,false)]) = some (Exit.exit 0,{ e:=[[unk,.pointer (some ⟨67,0,none⟩),.pointer (some ⟨72,0,none⟩),.slice none 0 0,.int .i64 0,.pointer (some ⟨68,0,none⟩),.pointer (some ⟨73,0,none⟩),unk,unk,unk,unk,unk,unk,unk,unk,unk],[unk,unk,unk,unk,unk,unk,unk,unk,unk,unk,unk,unk,unk,unk,unk,unk],[unk,.slice (some ⟨64,0,none⟩) cs.length 9223372036854775872,.int .i64 (↑cs.length),.int .i64 k,.bool (decide (k < (↑cs.length : Int))),unk,unk,unk,unk,unk,unk,unk,unk,unk,unk,unk],[unk,unk,unk,unk,unk,unk,unk,unk,unk,unk,unk,unk,unk,unk,unk,unk],[unk,unk,unk,unk,unk,unk,unk,unk,unk,unk,unk,unk,unk,unk,unk,unk],[unk,unk,unk,unk,unk,unk,unk,unk,unk,unk,unk,unk,unk,unk,unk,unk]],s:={ n:=74,h:=[(72,⟨true,none,[Value.pointer (some ⟨71,0,none⟩),.slice (some ⟨69,0,none⟩) N 9223372036854775877],none⟩),(71,⟨true,none,[Value.int .i64 (↑m),.slice (some ⟨70,0,none⟩) n 9223372036854775878],none⟩),(70,⟨true,some (70,1),z64 n,none⟩),(69,⟨true,some (69,1),u8s zs,none⟩),(68,⟨false,none,[Value.int .u32 0,.int .u32 (↑c),.int .u32 (↑da),.int .u32 (↑ds),.int .u32 (↑sa),.int .u32 (↑ss),.int .u32 (↑ha),.int .u32 (↑hs)],none⟩),(64,⟨false,some (0,0),u32s cs,none⟩)],lo:=[(70,n),(69,N)],esc:=0,T:=[],k:=1,O:=True ∧ decide (k < (↑cs.length : Int)) = false : St } : Fr }):=by kernel_rfl
end Go.Proofs.Ytliidiceljdgmaa
namespace Go.Proofs.Ytliidiceljdgmaa
open Go.RowKit
open Sy
set_option maxRecDepth 100000
theorem ar69_cell {q : Nat → Bool} (h9 : q 69 = true) (h0 : q 70 = true) (h1 : q 71 = true) (N m n : Nat) : (∀ v ∈ ([.pointer (some ⟨71,0,none⟩),.slice (some ⟨69,0,none⟩) N (big + 69)] : List Value),okV q 3 v = true) ∧ ∀ v ∈ ([.int .i64 (m : Nat),.slice (some ⟨70,0,none⟩) n (big + 70)] : List Value),okV q 3 v = true:=by
 constructor <;> intro v hv <;> simp only [rr, tt, List.mem_cons,List.not_mem_nil,or_false] at hv <;> rcases hv with rfl | rfl <;> simp [okV,bndA,h9,h0,h1,flat0]
theorem ar69_okH {q : Nat → Bool} (h : ∀ l,l < 74 → q l = true) (zs : List UInt8) (N m n : Nat) {l : Sy.Heap} (hl : OkH q l) : OkH q (ar69 zs N m n ++ l) :=
 ⟨⟨h 72 (by omega),rfl,fun v hv => okV_bnd 3 v ((ar69_cell (h 69 (by omega)) (h 70 (by omega)) (h 71 (by omega)) N m n).1 v hv)⟩,⟨h 71 (by omega),rfl,fun v hv => okV_bnd 3 v ((ar69_cell (h 69 (by omega)) (h 70 (by omega)) (h 71 (by omega)) N m n).2 v hv)⟩,⟨h 70 (by omega),h 70 (by omega),flat_bnd (z64_flat n)⟩,⟨h 69 (by omega),h 69 (by omega),flat_bnd (u8s_flatA zs)⟩,hl⟩
theorem lt74 : ∀ l,l < 74 → (fun l => Nat.blt l 74) l = true:=fun l hl => blt_yes hl
theorem keeps74 (l : Nat) (h : l < 74) : keeps 74 74 id (fun l => Nat.blt l 74) l = true:=by
 show (Nat.blt l NG || (bif Nat.blt l 74 then (Nat.beq l l && Nat.blt l 74) else Nat.blt l 74)) = true
 rw [blt_yes h,Nat.beq_refl]
 cases Nat.blt l NG <;> rfl
theorem ly_flat (c da ds sa ss ha hs : Nat) : ∀ v ∈ lyCells c da ds sa ss ha hs,flat0 v = true:=fun v hv => by
 simp only [rr, tt, lyCells,List.mem_cons,List.not_mem_nil,or_false] at hv
 rcases hv with rfl | rfl | rfl | rfl | rfl | rfl | rfl | rfl <;> rfl
def ldaF (zs : List UInt8) (N m n : Nat) : Sf:=⟨74,ldaE,ar69 zs N m n,[(70,n),(69,N)]⟩
theorem ldaE_ok {q : Nat → Bool} (h : ∀ l,l < 74 → q l = true) : ∀ x ∈ ldaE,okV q 3 x.2 = true:=fun x hx => by
 have h7:=h 67 (by omega)
 have h2:=h 72 (by omega)
 have h8:=h 68 (by omega)
 have h3:=h 73 (by omega)
 simp only [rr, tt, ldaE,List.mem_cons,List.not_mem_nil,or_false] at hx
 rcases hx with rfl | rfl | rfl | rfl | rfl | rfl <;> simp [okV,bndA,h7,h2,h8,h3,flat0,big]
theorem ldaI_wf (cs : List Nat) (zs : List UInt8) (N m n : Nat) (c da ds sa ss ha hs : Nat) (k : Int) : (ldaI cs zs N m n c da ds sa ss ha hs k).Wf :=
 ⟨by show 64 ≤ 74; omega,Sf.Ok.mk' 3 (ar69_okH lt74 zs N m n ⟨⟨rfl,rfl,flat_bnd (ly_flat c da ds sa ss ha hs)⟩,⟨rfl,rfl,flat_bnd (u32s_flat cs)⟩,trivial⟩) rfl (fun x hx => by
  rw [show (ldaI cs zs N m n c da ds sa ss ha hs k).e = ldaE ++ [(33,.slice (some ⟨64,0,none⟩) cs.length (big + 64)),(34,.int .i64 (cs.length : Nat)),(35,.int .i64 k)] from rfl,List.mem_append] at hx
  rcases hx with hx | hx
  ·exact ldaE_ok lt74 x hx
  ·simp only [rr, tt, List.mem_cons,List.not_mem_nil,or_false] at hx
   rcases hx with rfl | rfl | rfl <;> rfl)⟩
theorem ldaF_ok (zs : List UInt8) (N m n : Nat) : (ldaF zs N m n).Ok (keeps 74 74 id (fun l => Nat.blt l 74)) :=
 Sf.Ok.mk' 3 (by have:=ar69_okH keeps74 zs N m n (l:=[]) trivial; rwa [List.append_nil] at this) rfl (fun x hx => ldaE_ok keeps74 x hx)
theorem ar69_seen {h1 : Sy.Heap} {p : Nat → Bool} (hp : ∀ l,l < 74 → p l = true) (zs : List UInt8) (N m n : Nat) (cs : List Value) {l : Sy.Heap} (h72 : Sy.look h1 72 = some ⟨true,none,[.pointer (some ⟨71,0,none⟩),.slice (some ⟨69,0,none⟩) N (big + 69)],none⟩) (h71 : Sy.look h1 71 = some ⟨true,none,[.int .i64 (m : Nat),.slice (some ⟨70,0,none⟩) n (big + 70)],none⟩)
  (h70 : Sy.look h1 70 = some ⟨true,some (70,1),z64 n,none⟩) (h69 : Sy.look h1 69 = some ⟨true,some (69,1),cs,none⟩) (hc : cs = u8s zs) (hl : SeenH 3 p id h1 l) : SeenH 3 p id h1 (ar69 zs N m n ++ l):=by
 have hc1:=ar69_cell (hp 69 (by omega)) (hp 70 (by omega)) (hp 71 (by omega)) N m n
 refine ⟨⟨hp 72 (by omega),List.all_eq_true.2 hc1.1,rfl,?_⟩,⟨hp 71 (by omega),List.all_eq_true.2 hc1.2,rfl,?_⟩,⟨hp 70 (by omega),flat_all (z64_flat n),hp 70 (by omega),?_⟩,⟨hp 69 (by omega),flat_all (u8s_flatA zs),hp 69 (by omega),?_⟩,hl⟩
 ·simp only [rr, tt, id,h72]; exact ⟨rfl,rfl,trivial,(map_id3 _ rfl _).symm⟩
 ·simp only [rr, tt, id,h71]; exact ⟨rfl,rfl,trivial,(map_id3 _ rfl _).symm⟩
 ·simp only [rr, tt, id,h70]; exact ⟨rfl,rfl,trivial,by rw [map_id3 _ rfl]⟩
 ·simp only [rr, tt, id,h69]; exact ⟨rfl,rfl,trivial,by rw [map_id3 _ rfl,hc]⟩
theorem u32s_has' (xs : List Nat) (n : Nat) : hasN n (u32s xs) = decide (n ≤ xs.length):=u32s_has xs n
theorem lda_loop (cs : List Nat) (zs : List UInt8) (N m n : Nat) (c da ds sa ss ha hs : Nat) (h : ArOk zs N m n) (hc : ∀ x ∈ cs,x < 4294967296) (hl : cs.length ≤ 4096) (hN : 4 * cs.length ≤ N) :
  ∀ k : { k : Nat // k ≤ cs.length },LoopOk Try.prog 92 (loopOf Try.prog 12 0) ((ldaI cs (codeZ cs k.1 zs) N m n c da ds sa ss ha hs (k.1 : Int)).fr 92) (.exit 0) ((ldaF (codeZ cs cs.length zs) N m n).fr 92):=by
 refine loop_okC (L:=100) (noLoop_any _ _ 12) (fun _ h => h) (X:={ k : Nat // k ≤ cs.length }) (fun k => ldaI cs (codeZ cs k.1 zs) N m n c da ds sa ss ha hs (k.1 : Int)) (fun _ => ldaF (codeZ cs cs.length zs) N m n) (fun _ => .exit 0) (fun k => cs.length - k.1) (fun k => ldaI_wf _ _ _ _ _ _ _ _ _ _ _ _ _) ?_
 rintro ⟨k,hk⟩
 have hzl : (codeZ cs k zs).length = N:=by rw [codeZ_len _ _ _ (by rw [h.len]; omega),h.len]
 by_cases hlt : k < cs.length
 ·have hx : cs.getD k 0 < 4294967296:=by
   rw [List.getD_eq_getElem?_getD,List.getElem?_eq_getElem hlt]; exact hc _ (List.getElem_mem hlt)
  have hcon:=stA_con (4 * k) (cs.getD k 0) (codeZ cs k zs) N m n ⟨hzl,h.tags,h.words,h.few,h.big⟩ hx (by omega)
  have hr:=lda_a cs (codeZ cs k zs) N m n c da ds sa ss ha hs (k : Int) (4 * k) (cs.getD k 0)
  have e1 : IntKind.u32.wrap (k : Int) = (k : Int):=w32A k (by omega)
  have e2 : IntKind.u32.wrap ((4 : Int) * (k : Int)) = ((4 * k : Nat) : Int):=by rw [show (4 : Int) * (k : Int) = ((4 * k : Nat) : Int) by omega,w32A _ (by omega)]
  have e3 : IntKind.u32.wrap ((0 : Int) + ((4 * k : Nat) : Int)) = ((4 * k : Nat) : Int):=by rw [Int.zero_add,w32A _ (by omega)]
  have e4 : IntKind.i64.wrap ((k : Int) + (1 : Int)) = ((k + 1 : Nat) : Int):=cast_succ_i64 k (by omega)
  simp only [rr, tt, e1,e2,e3,e4,Int.toNat_natCast,Nat.zero_add,Nat.mul_one,u32s_at] at hr
  refine ⟨_,_,.normal,_,3,fun l => Nat.blt l 74,id,run_ok (L:=100) ar_names (baseF_ok (selSteps_ok fun x hx => by
   obtain rfl:=List.mem_singleton.1 hx; exact hcon) (noBase_ok _)) (noLoop_ok _) 20,hr,?_,.inl ⟨rfl,⟨k + 1,by omega⟩,by show cs.length - (k + 1) < cs.length - k; omega,rfl,rfl,?_⟩⟩
  ·have f1 : ∀ p,(u8s (codeZ cs k zs)).all (okV p 3) = true:=fun p => flat_all (u8s_flatA _)
   have f2 : ∀ σ,(u8s (codeZ cs k zs)).map (rnV σ 3) = u8s (codeZ cs k zs):=fun σ => flat_map (u8s_flatA _)
   simp (disch:=omega) only [rr, tt, u32s_has',u32s_like,z64_ok,z64_map,f1,f2,decide_eq_true,decide_eq_false,Bool.and_self,cond_true,and_true,true_and,and_self,Nat.le_refl]
  ·refine ⟨fun _ _ => rfl,ar69_seen lt74 _ N m n _ rfl rfl rfl rfl rfl ⟨⟨rfl,flat_all (ly_flat c da ds sa ss ha hs),rfl,rfl,rfl,trivial,(flat_map (ly_flat c da ds sa ss ha hs)).symm⟩,⟨rfl,flat_all (u32s_flat cs),rfl,rfl,rfl,trivial,(flat_map (u32s_flat cs)).symm⟩,trivial⟩,rfl,⟨⟨rfl,Nat.le_refl _⟩,⟨rfl,Nat.le_refl _⟩,trivial⟩,?_,Nat.le_refl _,fun l hl => blt_no hl,ldaF_ok _ N m n,fun x _ _ => .inl rfl⟩
   exact ⟨⟨by kernel_rfl,by kernel_rfl⟩,⟨by kernel_rfl,by kernel_rfl⟩,⟨by kernel_rfl,by kernel_rfl⟩,⟨by kernel_rfl,by kernel_rfl⟩,⟨by kernel_rfl,by kernel_rfl⟩,⟨by kernel_rfl,by kernel_rfl⟩,⟨by kernel_rfl,by kernel_rfl⟩,⟨by kernel_rfl,by kernel_rfl⟩,⟨by kernel_rfl,by kernel_rfl⟩,trivial⟩
 ·have hkk : k = cs.length:=by omega
  subst hkk
  have hr:=lda_e cs (codeZ cs cs.length zs) N m n c da ds sa ss ha hs (cs.length : Int)
  refine ⟨_,_,.exit 0,_,3,fun l => Nat.blt l 74,id,run_ok (L:=100) ar_names (noBase_ok _) (noLoop_ok _) 20,hr,?_,.inr ⟨by simp,rfl,?_⟩⟩
  ·exact ⟨trivial,decide_eq_false (by omega)⟩
  ·have hs:=ar69_seen (l:=[]) lt74 (codeZ cs cs.length zs) N m n _ (by rfl) (by rfl) (by rfl) (by rfl) rfl trivial (h1:=ar69 (codeZ cs cs.length zs) N m n ++ [(68,⟨false,none,lyCells c da ds sa ss ha hs,none⟩),(64,⟨false,some (0,0),u32s cs,none⟩)])
   rw [List.append_nil] at hs
   exact ⟨fun _ _ => rfl,hs,rfl,⟨⟨rfl,Nat.le_refl _⟩,⟨rfl,Nat.le_refl _⟩,trivial⟩,⟨⟨by kernel_rfl,by kernel_rfl⟩,⟨by kernel_rfl,by kernel_rfl⟩,⟨by kernel_rfl,by kernel_rfl⟩,⟨by kernel_rfl,by kernel_rfl⟩,⟨by kernel_rfl,by kernel_rfl⟩,⟨by kernel_rfl,by kernel_rfl⟩,trivial⟩,Nat.le_refl _,fun l hl => blt_no hl,ldaF_ok _ N m n,fun x _ _ => .inl rfl⟩
def ldaEnt (cs : List Nat) (zs : List UInt8) (N m n : Nat) (c da ds sa ss ha hs : Nat) (h : ArOk zs N m n) (hc : ∀ x ∈ cs,x < 4294967296) (hl : cs.length ≤ 4096) (hN : 4 * cs.length ≤ N) : Ent Try.prog :=
 entC Try.prog 12 0 92 (ldaI cs zs N m n c da ds sa ss ha hs 0) (.exit 0) (ldaF (codeZ cs cs.length zs) N m n) (by kernel_rfl) (by kernel_rfl) (lda_loop cs zs N m n c da ds sa ss ha hs h hc hl hN ⟨0,Nat.zero_le _⟩)
end Go.Proofs.Ytliidiceljdgmaa
namespace Go.Proofs.Ytliidiceljdgmaa
open Go.RowKit
open Sy
set_option maxRecDepth 100000
structure Cp where
 a : Nat
 e : Nat
 b : Nat
 t : Nat
 p : Nat
 y : Nat
 v : Bool
def cpC (x : Cp) : List Value:=[.int .u32 (x.a : Nat),.int .u8 (x.e : Nat),.int .u16 (x.b : Nat),.int .u16 (x.t : Nat),.int .u16 (x.p : Nat),.int .u16 (x.y : Nat),.int .u32 0,.bool x.v]
def cpL (l : List Cp) : List Value:=l.flatMap cpC
def mkCp (a s p y : Nat) : Cp:=⟨mA a s p,mE a s p,mB a s p,mT a s p,mP a s p,y,mV a s p⟩
def adA (b : Bool) (x : Cp) : List Value:=[.bool b,.agg ⟨cpC x⟩,.pointer (some ⟨64,0,none⟩)]
def adB (X n : Nat) : Sy.Blk:=⟨true,none,[.slice (some ⟨X,0,none⟩) n (big + X)],none⟩
def adO (X : Nat) (l : List Cp) : Sy.Blk:=⟨true,some (X,8),cpL l,none⟩
theorem adc_0 (a e b t p y : Nat) (v : Bool) : evF Try.prog noBase noLoop 100 3 24 (adA true { a:=a,e:=e,b:=b,t:=t,p:=p,y:=y,v:=v : Cp }) ⟨65,[(64,⟨true,none,[Value.slice none 0 0],none⟩)],[],0,[],0,True⟩ = some (undef,⟨68,[(67,⟨true,some (67,8),[Value.int .u32 (↑a),.int .u8 (↑e),.int .u16 (↑b),.int .u16 (↑t),.int .u16 (↑p),.int .u16 (↑y),.int .u32 0,.bool v],none⟩),(66,⟨true,none,[Value.int .u32 (↑a),.int .u8 (↑e),.int .u16 (↑b),.int .u16 (↑t),.int .u16 (↑p),.int .u16 (↑y),.int .u32 0,.bool v],none⟩),(65,⟨true,none,[Value.int .u32 (↑a),.int .u8 (↑e),.int .u16 (↑b),.int .u16 (↑t),.int .u16 (↑p),.int .u16 (↑y),.int .u32 0,.bool v],none⟩),(64,⟨true,none,[Value.slice (some ⟨67,0,none⟩) 1 9223372036854775875],none⟩)],[(67,1)],0,[],0,True⟩):=by kernel_rfl
theorem adc_t (a e b t p y : Nat) (v : Bool) (l : List Cp) : evF Try.prog noBase noLoop 100 3 24 (adA true { a:=a,e:=e,b:=b,t:=t,p:=p,y:=y,v:=v : Cp }) ⟨66,[(64,adB 65 l.length),(65,adO 65 l)],[(65,l.length)],0,[],0,True⟩ = some (undef,{ n:=69,h:=[(68,⟨true,some (68,8),cpL l++[Value.int .u32 (↑a),.int .u8 (↑e),.int .u16 (↑b),.int .u16 (↑t),.int .u16 (↑p),.int .u16 (↑y),.int .u32 0,.bool v],none⟩),(67,⟨true,none,[Value.int .u32 (↑a),.int .u8 (↑e),.int .u16 (↑b),.int .u16 (↑t),.int .u16 (↑p),.int .u16 (↑y),.int .u32 0,.bool v],none⟩),(66,⟨true,none,[Value.int .u32 (↑a),.int .u8 (↑e),.int .u16 (↑b),.int .u16 (↑t),.int .u16 (↑p),.int .u16 (↑y),.int .u32 0,.bool v],none⟩),(64,⟨true,none,[Value.slice (some ⟨68,0,none⟩) (l.length+1) 9223372036854775876],none⟩)],lo:=[(68,l.length+1),(65,l.length)],esc:=0,T:=[],k:=0,O:=bif (lenT (cpL l)).beq (l.length * 8) then bif ((l.length+1) * 24).ble 1099511627776 && (l.length+1).blt 4611686018427387904 then True else False else False : St }):=by kernel_rfl
theorem adc_f (a e b t p y : Nat) (v : Bool) (l : List Cp) : evF Try.prog noBase noLoop 100 3 24 (adA false { a:=a,e:=e,b:=b,t:=t,p:=p,y:=y,v:=v : Cp }) ⟨66,[(64,adB 65 l.length),(65,adO 65 l)],[(65,l.length)],0,[],0,True⟩ = some (undef,⟨67,[(64,⟨true,none,[Value.slice (some ⟨65,0,none⟩) l.length 9223372036854775873],none⟩),(65,⟨true,some (65,8),cpL l,none⟩)],[(65,l.length)],0,[],0,True⟩):=by kernel_rfl
theorem cpC_flat (x : Cp) : ∀ v ∈ cpC x,flat0 v = true:=fun v hv => by
 simp only [rr, tt, cpC,List.mem_cons,List.not_mem_nil,or_false] at hv
 rcases hv with rfl | rfl | rfl | rfl | rfl | rfl | rfl | rfl <;> rfl
theorem cpL_flat (l : List Cp) : ∀ v ∈ cpL l,flat0 v = true:=fun v hv => by
 obtain ⟨x,_,hx⟩:=List.mem_flatMap.1 hv
 exact cpC_flat x v hx
theorem cpL_len (l : List Cp) : (cpL l).length = l.length * 8:=by
 induction l with
 | nil => rfl
 | cons x l ih => rw [show cpL (x :: l) = cpC x ++ cpL l from by simp [cpL],List.length_append,ih,List.length_cons,show (cpC x).length = 8 from rfl]; omega
theorem cpL_one (x : Cp) : cpL [x] = cpC x:=by simp [cpL]
theorem cpL_snoc (l : List Cp) (x : Cp) : cpL (l ++ [x]) = cpL l ++ cpC x:=by unfold cpL; rw [List.flatMap_append]; simp
def adL (b : Bool) (l : List Cp) (x : Cp) : List Cp:=bif b then l ++ [x] else l
def adC (b : Bool) (x : Cp) (l l' : List Cp) : Con:=⟨adA b x,66,[(64,adB 65 l.length),(65,adO 65 l)],[(65,l.length)],undef,67,[(64,adB 66 l'.length),(66,adO 66 l')],[(66,l'.length)]⟩
def adC0 (x : Cp) : Con:=⟨adA true x,65,[(64,⟨true,none,[.slice none 0 0],none⟩)],[],undef,66,[(64,adB 65 1),(65,adO 65 [x])],[(65,1)]⟩
theorem adB_ok {q : Nat → Bool} (X n : Nat) (h : q X = true) : ∀ v ∈ (adB X n).cells,okV q 3 v = true:=fun v hv => by
 obtain rfl:=List.mem_singleton.1 hv
 simp only [rr, tt, okV,bndA,h,Bool.and_true,Bool.true_and,Bool.or_eq_true]
 right
 rw [show big + X - big = X from Nat.add_sub_cancel_left _ _]; exact h
theorem adA_ok {q : Nat → Bool} (b : Bool) (x : Cp) (h : q 64 = true) : (adA b x).all (okV q 3) = true:=by
 simp only [rr, tt, adA,cpC,List.all_cons,List.all_nil,okV,bndA,h,flat0,Bool.and_true,Bool.true_and]
theorem adB_bnd {q : Nat → Bool} (X n : Nat) (h : q X = true) : ∀ v ∈ (adB X n).cells,bnd q v = true:=fun v hv => okV_bnd 3 v (adB_ok X n h v hv)
theorem adC_ok (b : Bool) (x : Cp) (l l' : List Cp) (h : l.length ≤ 100000) (hl : l' = adL b l x) : ConOk Try.prog 24 3 (adC b x l l') ∧ FlatC (adC b x l l'):=by
 subst hl
 refine ⟨?_,⟨fun y hy hne => ?_⟩⟩
 ·have wf : (adC b x l (adL b l x)).Wf 3:=⟨by show NG ≤ 66; decide,by show 66 ≤ 67; omega,⟨⟨rfl,rfl,adB_bnd _ _ rfl⟩,⟨rfl,rfl,flat_bnd (cpL_flat l)⟩,trivial⟩,rfl,rfl,rfl,adA_ok b x rfl,rfl,fun y hy v hv => by
   simp only [rr, tt, adC,List.mem_cons,List.not_mem_nil,or_false] at hy
   rcases hy with rfl | rfl
   ·exact adB_ok _ _ rfl v hv
   ·exact okV_flat0 (cpL_flat _ v hv) 3⟩
  cases b
  ·have hr:=adc_f x.a x.e x.b x.t x.p x.y x.v l
   refine conOk_run (T:=[]) (run_ok (L:=100) ar_names (noBase_ok _) (noLoop_ok _) 3) wf hr trivial (p:=fun l => Nat.blt l 67) (σ:=fun l => if l = 66 then 65 else l) ?_
   refine ⟨fun l hl => ?_,⟨⟨rfl,List.all_eq_true.2 (adB_ok _ _ rfl),rfl,?_⟩,⟨rfl,flat_all (cpL_flat _),rfl,?_⟩,trivial⟩,rfl,⟨⟨rfl,Nat.le_refl _⟩,trivial⟩,⟨rfl,rfl⟩,rfl,⟨⟨rfl,rfl,adB_bnd _ _ rfl⟩,⟨rfl,rfl,flat_bnd (cpL_flat _)⟩,trivial⟩,rfl,bnd_undef _,fun y hy hrw => ?_⟩
   ·have : NG = 64:=rfl
    show (if l = 66 then _ else l) = l; rw [if_neg (by omega)]
   ·exact ⟨rfl,rfl,trivial,by kernel_rfl⟩
   ·exact ⟨rfl,rfl,trivial,(flat_map (cpL_flat _)).symm⟩
   ·simp only [rr, tt, adC,List.mem_cons,List.not_mem_nil,or_false] at hy
    rcases hy with rfl | rfl <;> cases hrw
  ·have hr:=adc_t x.a x.e x.b x.t x.p x.y x.v l
   have e1 : cpL l ++ [Value.int IntKind.u32 (x.a : Int),Value.int IntKind.u8 (x.e : Int),Value.int IntKind.u16 (x.b : Int),Value.int IntKind.u16 (x.t : Int),Value.int IntKind.u16 (x.p : Int),Value.int IntKind.u16 (x.y : Int),Value.int IntKind.u32 (0 : Int),Value.bool x.v] = cpL (l ++ [x]):=(cpL_snoc l x).symm
   have e2 : l.length + 1 = (l ++ [x]).length:=by rw [List.length_append]; rfl
   rw [e1,e2] at hr
   refine conOk_run (T:=[]) (run_ok (L:=100) ar_names (noBase_ok _) (noLoop_ok _) 3) wf hr ?_ (p:=fun l => Nat.blt l 69) (σ:=fun l => if l = 66 then 68 else l) ?_
   ·rw [← e2]
    simp only [rr, tt, lenT_eq,cpL_len]
    rw [Nat.beq_refl,Nat.ble_eq_true_of_le (by omega),blt_yes (by omega)]
    trivial
   refine ⟨fun l hl => ?_,⟨⟨rfl,List.all_eq_true.2 (adB_ok _ _ rfl),rfl,?_⟩,⟨rfl,flat_all (cpL_flat _),rfl,?_⟩,trivial⟩,rfl,⟨⟨rfl,Nat.le_refl _⟩,trivial⟩,⟨rfl,rfl⟩,rfl,⟨⟨rfl,rfl,adB_bnd _ _ rfl⟩,⟨rfl,rfl,flat_bnd (cpL_flat _)⟩,trivial⟩,rfl,bnd_undef _,fun y hy hrw => ?_⟩
   ·have : NG = 64:=rfl
    show (if l = 66 then _ else l) = l; rw [if_neg (by omega)]
   ·exact ⟨rfl,rfl,trivial,by kernel_rfl⟩
   ·exact ⟨rfl,rfl,trivial,(flat_map (cpL_flat _)).symm⟩
   ·simp only [rr, tt, adC,List.mem_cons,List.not_mem_nil,or_false] at hy
    rcases hy with rfl | rfl <;> cases hrw
 ·simp only [rr, tt, adC,List.mem_cons,List.not_mem_nil,or_false] at hy
  rcases hy with rfl | rfl
  ·exact absurd rfl hne
  ·exact cpL_flat _
theorem adC0_ok (x : Cp) : ConOk Try.prog 24 3 (adC0 x) ∧ FlatC (adC0 x):=by
 refine ⟨?_,⟨fun y hy hne => ?_⟩⟩
 ·have hr:=adc_0 x.a x.e x.b x.t x.p x.y x.v
  refine conOk_run (T:=[]) (run_ok (L:=100) ar_names (noBase_ok _) (noLoop_ok _) 3) ⟨by show NG ≤ 65; decide,by show 65 ≤ 66; omega,⟨⟨rfl,rfl,fun v hv => by obtain rfl:=List.mem_singleton.1 hv; exact okV_bnd 3 _ rfl⟩,trivial⟩,rfl,rfl,rfl,adA_ok true x rfl,rfl,fun y hy v hv => ?_⟩ hr trivial (p:=fun l => Nat.blt l 68) (σ:=fun l => if l = 65 then 67 else l) ?_
  ·simp only [rr, tt, adC0,List.mem_cons,List.not_mem_nil,or_false] at hy
   rcases hy with rfl | rfl
   ·exact adB_ok _ _ rfl v hv
   ·exact okV_flat0 (cpL_flat _ v hv) 3
  refine ⟨fun l hl => ?_,⟨⟨rfl,List.all_eq_true.2 (adB_ok _ _ rfl),rfl,?_⟩,⟨rfl,flat_all (cpL_flat _),rfl,?_⟩,trivial⟩,rfl,⟨⟨rfl,Nat.le_refl _⟩,trivial⟩,⟨rfl,rfl⟩,rfl,⟨⟨rfl,rfl,adB_bnd _ _ rfl⟩,⟨rfl,rfl,flat_bnd (cpL_flat _)⟩,trivial⟩,rfl,bnd_undef _,fun y hy hrw => ?_⟩
  ·have : NG = 64:=rfl
   show (if l = 65 then _ else l) = l; rw [if_neg (by omega)]
  ·exact ⟨rfl,rfl,trivial,by kernel_rfl⟩
  ·exact ⟨rfl,rfl,trivial,(by rw [show (adO 65 [x]).cells = cpL [x] from rfl,flat_map (cpL_flat _),cpL_one] : cpC x = List.map (rnV (fun l => if l = 65 then 67 else l) 3) (adO 65 [x]).cells)⟩
  ·simp only [rr, tt, adC0,List.mem_cons,List.not_mem_nil,or_false] at hy
   rcases hy with rfl | rfl <;> cases hrw
 ·simp only [rr, tt, adC0,List.mem_cons,List.not_mem_nil,or_false] at hy
  rcases hy with rfl | rfl
  ·exact absurd rfl hne
  ·exact cpL_flat _
end Go.Proofs.Ytliidiceljdgmaa
namespace Go.Proofs.Ytliidiceljdgmaa
open Go.RowKit
open Sy
set_option maxRecDepth 100000
def plB (p s t : Nat) (nc ns : Nat) (d : List UInt8) (a2 : Option Addr) (n2 c2 : Nat) (c da ds sa ss ha hs : Nat) : List Value :=
 [.int .i64 (p : Nat),.int .i64 (s : Nat),.int .i64 (t : Nat),.slice (some ⟨64,0,none⟩) nc (big + 64),.string ⟨⟨d⟩⟩,.slice a2 n2 c2,.slice (some ⟨66,0,none⟩) ns (big + 66),.int .u32 0,.int .u32 (c : Nat),.int .u32 (da : Nat),.int .u32 (ds : Nat),.int .u32 (sa : Nat),.int .u32 (ss : Nat),.int .u32 (ha : Nat),.int .u32 (hs : Nat)]
def btG : Value:=.func (.func 24) ⟨[]⟩ ⟨[.pointer (some ⟨70,0,none⟩)]⟩
def btE : List (Nat × Value):=[(1,.pointer (some ⟨67,0,none⟩)),(2,.slice none 0 0),(3,.int .i64 0),(4,.pointer (some ⟨68,0,none⟩)),(5,.int .i64 0),(6,.pointer (some ⟨69,0,none⟩)),(7,.pointer (some ⟨70,0,none⟩)),(8,btG)]
def btsI (p s t : Nat) (nc ns : Nat) (d : List UInt8) (a2 : Option Addr) (n2 c2 : Nat) (c da ds sa ss ha hs : Nat) (l : List Cp) (k : Nat) : Sf :=
 ⟨85,btE ++ [(39,.int .i64 (ns : Nat)),(40,.int .i64 (k : Nat))],[(70,adB 84 l.length),(84,adO 84 l),(69,⟨false,none,plB p s t nc ns d a2 n2 c2 c da ds sa ss ha hs,none⟩)],[(84,l.length)]⟩
def btrI (p s t : Nat) (nc ns : Nat) (d : List UInt8) (rs : List Rl) (c da ds sa ss ha hs : Nat) (l : List Cp) (k : Nat) : Sf :=
 ⟨93,btE ++ [(57,.slice (some ⟨65,0,none⟩) rs.length (big + 65)),(58,.int .i64 (rs.length : Nat)),(59,.int .i64 (k : Nat))],[(70,adB 92 l.length),(92,adO 92 l),(69,⟨false,none,plB p s t nc ns d (some ⟨65,0,none⟩) rs.length (big + 65) c da ds sa ss ha hs,none⟩),(65,⟨false,some (0,0),rels rs,none⟩)],[(92,l.length)]⟩
theorem bts_n (p : Nat) (s : Nat) (t : Nat) (nc : Nat) (ns : Nat) (d : List UInt8) (a2 : Option Addr) (n2 : Nat) (c2 : Nat) (c : Nat) (da : Nat) (ds : Nat) (sa : Nat) (ss : Nat) (ha : Nat) (hs : Nat) (l : List Cp) (k : Nat) : evC Try.prog (evF Try.prog (baseC 3 selMk) noLoop 100 20) (noLoop 8) 70 100 (loopOf Try.prog 8 0) (Sf.frT 70 (btsI p s t nc ns d a2 n2 c2 c da ds sa ss ha hs l k) [(0,true)]) = some (Exit.normal,{ e:=[[unk,.pointer (some ⟨67,0,none⟩),.slice none 0 0,.int .i64 0,.pointer (some ⟨68,0,none⟩),.int .i64 0,.pointer (some ⟨69,0,none⟩),.pointer (some ⟨70,0,none⟩),.func (Fn.func 24) { toList:=[] } { toList:=[Value.pointer (some ⟨70,0,none⟩)] },.int .i64 (↑k),unk,unk,unk,unk,unk,unk],[unk,unk,unk,unk,unk,unk,unk,unk,unk,unk,unk,unk,unk,unk,unk,unk],[unk,unk,unk,unk,unk,unk,unk,.int .i64 (↑ns),.int .i64 (IntKind.i64.wrap ((↑k : Int) + (1 : Int))),.bool (decide ((↑k : Int) < (↑ns : Int))),.int .i64 (↑k),.func (Fn.func 24) { toList:=[] } { toList:=[Value.pointer (some ⟨70,0,none⟩)] },.agg ⟨[.int .i64 (↑p),.int .i64 (↑s),.int .i64 (↑t),.slice (some ⟨64,0,none⟩) nc 9223372036854775872,.string ⟨⟨d⟩⟩,.slice a2 n2 c2,.slice (some ⟨66,0,none⟩) ns 9223372036854775874,.int .u32 0,.int .u32 (↑c),.int .u32 (↑da),.int .u32 (↑ds),.int .u32 (↑sa),.int .u32 (↑ss),.int .u32 (↑ha),.int .u32 (↑hs)]⟩,.int .i64 (↑k),.agg ⟨[.int .u32 (↑(mA (IntKind.u32.wrap ((↑sa : Int) + IntKind.u32.wrap (IntKind.u32.wrap (↑k) * IntKind.u32.wrap (↑s)))).toNat (IntKind.u32.wrap (↑s)).toNat 27) : Int),.int .u8 (↑(mE (IntKind.u32.wrap ((↑sa : Int) + IntKind.u32.wrap (IntKind.u32.wrap (↑k) * IntKind.u32.wrap (↑s)))).toNat (IntKind.u32.wrap (↑s)).toNat 27) : Int),.int .u16 (↑(mB (IntKind.u32.wrap ((↑sa : Int) + IntKind.u32.wrap (IntKind.u32.wrap (↑k) * IntKind.u32.wrap (↑s)))).toNat (IntKind.u32.wrap (↑s)).toNat 27) : Int),.int .u16 (↑(mT (IntKind.u32.wrap ((↑sa : Int) + IntKind.u32.wrap (IntKind.u32.wrap (↑k) * IntKind.u32.wrap (↑s)))).toNat (IntKind.u32.wrap (↑s)).toNat 27) : Int),.int .u16 (↑(mP (IntKind.u32.wrap ((↑sa : Int) + IntKind.u32.wrap (IntKind.u32.wrap (↑k) * IntKind.u32.wrap (↑s)))).toNat (IntKind.u32.wrap (↑s)).toNat 27) : Int),.int .u16 0,.int .u32 0,.bool (mV (IntKind.u32.wrap ((↑sa : Int) + IntKind.u32.wrap (IntKind.u32.wrap (↑k) * IntKind.u32.wrap (↑s)))).toNat (IntKind.u32.wrap (↑s)).toNat 27)]⟩,undef],[Value.int .i64 (IntKind.i64.wrap ((↑k : Int) + (1 : Int))),unk,unk,unk,unk,unk,unk,unk,unk,unk,unk,unk,unk,unk,unk,unk],[unk,unk,unk,unk,unk,unk,unk,unk,unk,unk,unk,unk,unk,unk,unk,unk]],s:={ n:=96,h:=[(95,⟨true,some (95,8),cpL l ++ [Value.int .u32 (↑(mA (IntKind.u32.wrap ((↑sa : Int) + IntKind.u32.wrap (IntKind.u32.wrap (↑k) * IntKind.u32.wrap (↑s)))).toNat (IntKind.u32.wrap (↑s)).toNat 27) : Int),.int .u8 (↑(mE (IntKind.u32.wrap ((↑sa : Int) + IntKind.u32.wrap (IntKind.u32.wrap (↑k) * IntKind.u32.wrap (↑s)))).toNat (IntKind.u32.wrap (↑s)).toNat 27) : Int),.int .u16 (↑(mB (IntKind.u32.wrap ((↑sa : Int) + IntKind.u32.wrap (IntKind.u32.wrap (↑k) * IntKind.u32.wrap (↑s)))).toNat (IntKind.u32.wrap (↑s)).toNat 27) : Int),.int .u16 (↑(mT (IntKind.u32.wrap ((↑sa : Int) + IntKind.u32.wrap (IntKind.u32.wrap (↑k) * IntKind.u32.wrap (↑s)))).toNat (IntKind.u32.wrap (↑s)).toNat 27) : Int),.int .u16 (↑(mP (IntKind.u32.wrap ((↑sa : Int) + IntKind.u32.wrap (IntKind.u32.wrap (↑k) * IntKind.u32.wrap (↑s)))).toNat (IntKind.u32.wrap (↑s)).toNat 27) : Int),.int .u16 0,.int .u32 0,.bool (mV (IntKind.u32.wrap ((↑sa : Int) + IntKind.u32.wrap (IntKind.u32.wrap (↑k) * IntKind.u32.wrap (↑s)))).toNat (IntKind.u32.wrap (↑s)).toNat 27)],none⟩),(94,⟨true,none,[Value.int .u32 (↑(mA (IntKind.u32.wrap ((↑sa : Int) + IntKind.u32.wrap (IntKind.u32.wrap (↑k) * IntKind.u32.wrap (↑s)))).toNat (IntKind.u32.wrap (↑s)).toNat 27) : Int),.int .u8 (↑(mE (IntKind.u32.wrap ((↑sa : Int) + IntKind.u32.wrap (IntKind.u32.wrap (↑k) * IntKind.u32.wrap (↑s)))).toNat (IntKind.u32.wrap (↑s)).toNat 27) : Int),.int .u16 (↑(mB (IntKind.u32.wrap ((↑sa : Int) + IntKind.u32.wrap (IntKind.u32.wrap (↑k) * IntKind.u32.wrap (↑s)))).toNat (IntKind.u32.wrap (↑s)).toNat 27) : Int),.int .u16 (↑(mT (IntKind.u32.wrap ((↑sa : Int) + IntKind.u32.wrap (IntKind.u32.wrap (↑k) * IntKind.u32.wrap (↑s)))).toNat (IntKind.u32.wrap (↑s)).toNat 27) : Int),.int .u16 (↑(mP (IntKind.u32.wrap ((↑sa : Int) + IntKind.u32.wrap (IntKind.u32.wrap (↑k) * IntKind.u32.wrap (↑s)))).toNat (IntKind.u32.wrap (↑s)).toNat 27) : Int),.int .u16 0,.int .u32 0,.bool (mV (IntKind.u32.wrap ((↑sa : Int) + IntKind.u32.wrap (IntKind.u32.wrap (↑k) * IntKind.u32.wrap (↑s)))).toNat (IntKind.u32.wrap (↑s)).toNat 27)],none⟩),(93,⟨true,none,[Value.int .u32 (↑(mA (IntKind.u32.wrap ((↑sa : Int) + IntKind.u32.wrap (IntKind.u32.wrap (↑k) * IntKind.u32.wrap (↑s)))).toNat (IntKind.u32.wrap (↑s)).toNat 27) : Int),.int .u8 (↑(mE (IntKind.u32.wrap ((↑sa : Int) + IntKind.u32.wrap (IntKind.u32.wrap (↑k) * IntKind.u32.wrap (↑s)))).toNat (IntKind.u32.wrap (↑s)).toNat 27) : Int),.int .u16 (↑(mB (IntKind.u32.wrap ((↑sa : Int) + IntKind.u32.wrap (IntKind.u32.wrap (↑k) * IntKind.u32.wrap (↑s)))).toNat (IntKind.u32.wrap (↑s)).toNat 27) : Int),.int .u16 (↑(mT (IntKind.u32.wrap ((↑sa : Int) + IntKind.u32.wrap (IntKind.u32.wrap (↑k) * IntKind.u32.wrap (↑s)))).toNat (IntKind.u32.wrap (↑s)).toNat 27) : Int),.int .u16 (↑(mP (IntKind.u32.wrap ((↑sa : Int) + IntKind.u32.wrap (IntKind.u32.wrap (↑k) * IntKind.u32.wrap (↑s)))).toNat (IntKind.u32.wrap (↑s)).toNat 27) : Int),.int .u16 0,.int .u32 0,.bool (mV (IntKind.u32.wrap ((↑sa : Int) + IntKind.u32.wrap (IntKind.u32.wrap (↑k) * IntKind.u32.wrap (↑s)))).toNat (IntKind.u32.wrap (↑s)).toNat 27)],none⟩),(70,⟨true,none,[Value.slice (some ⟨95,0,none⟩) (l.length + 1) 9223372036854775903],none⟩),(69,⟨false,none,[Value.int .i64 (↑p),.int .i64 (↑s),.int .i64 (↑t),.slice (some ⟨64,0,none⟩) nc 9223372036854775872,.string ⟨⟨d⟩⟩,.slice a2 n2 c2,.slice (some ⟨66,0,none⟩) ns 9223372036854775874,.int .u32 0,.int .u32 (↑c),.int .u32 (↑da),.int .u32 (↑ds),.int .u32 (↑sa),.int .u32 (↑ss),.int .u32 (↑ha),.int .u32 (↑hs)],none⟩)],lo:=[(95,l.length + 1),(84,l.length)],esc:=0,T:=[],k:=1,O:=bif (lenT (cpL l)).beq (l.length * 8) then bif ((l.length + 1) * 24).ble 1099511627776 && (l.length + 1).blt 4611686018427387904 then (True ∧ decide ((↑k : Int) < (↑ns : Int)) = true) ∧ ((0 : Int) ≤ IntKind.u32.wrap ((↑sa : Int) + IntKind.u32.wrap (IntKind.u32.wrap (↑k) * IntKind.u32.wrap (↑s))) ∧ IntKind.u32.wrap ((↑sa : Int) + IntKind.u32.wrap (IntKind.u32.wrap (↑k) * IntKind.u32.wrap (↑s))) < (4294967296 : Int) ∧ (0 : Int) ≤ IntKind.u32.wrap (↑s) ∧ IntKind.u32.wrap (↑s) < (4294967296 : Int) ∧ (0 : Int) ≤ (27 : Int)) ∧ (rr (Value.agg ⟨[.int .u32 (IntKind.u32.wrap ((↑sa : Int) + IntKind.u32.wrap (IntKind.u32.wrap (↑k) * IntKind.u32.wrap (↑s)))),.int .u32 (IntKind.u32.wrap (↑s))]⟩) ∧ rr (Value.int .u16 27) ∧ True) ∧ True ∧ True else False else False : St } : Fr }):=by kernel_rfl
theorem bts_e (p : Nat) (s : Nat) (t : Nat) (nc : Nat) (ns : Nat) (d : List UInt8) (a2 : Option Addr) (n2 : Nat) (c2 : Nat) (c : Nat) (da : Nat) (ds : Nat) (sa : Nat) (ss : Nat) (ha : Nat) (hs : Nat) (l : List Cp) (k : Nat) : evC Try.prog (evF Try.prog noBase noLoop 100 20) (noLoop 8) 70 100 (loopOf Try.prog 8 0) (Sf.frT 70 (btsI p s t nc ns d a2 n2 c2 c da ds sa ss ha hs l k) [(0,false)]) = some (Exit.exit 0,{ e:=[[unk,.pointer (some ⟨67,0,none⟩),.slice none 0 0,.int .i64 0,.pointer (some ⟨68,0,none⟩),.int .i64 0,.pointer (some ⟨69,0,none⟩),.pointer (some ⟨70,0,none⟩),.func (Fn.func 24) { toList:=[] } { toList:=[Value.pointer (some ⟨70,0,none⟩)] },unk,unk,unk,unk,unk,unk,unk],[unk,unk,unk,unk,unk,unk,unk,unk,unk,unk,unk,unk,unk,unk,unk,unk],[unk,unk,unk,unk,unk,unk,unk,.int .i64 (↑ns),.int .i64 (↑k),.bool (decide ((↑k : Int) < (↑ns : Int))),unk,unk,unk,unk,unk,unk],[unk,unk,unk,unk,unk,unk,unk,unk,unk,unk,unk,unk,unk,unk,unk,unk],[unk,unk,unk,unk,unk,unk,unk,unk,unk,unk,unk,unk,unk,unk,unk,unk]],s:={ n:=85,h:=[(70,⟨true,none,[Value.slice (some ⟨84,0,none⟩) l.length 9223372036854775892],none⟩),(84,⟨true,some (84,8),cpL l,none⟩),(69,⟨false,none,[Value.int .i64 (↑p),.int .i64 (↑s),.int .i64 (↑t),.slice (some ⟨64,0,none⟩) nc 9223372036854775872,.string ⟨⟨d⟩⟩,.slice a2 n2 c2,.slice (some ⟨66,0,none⟩) ns 9223372036854775874,.int .u32 0,.int .u32 (↑c),.int .u32 (↑da),.int .u32 (↑ds),.int .u32 (↑sa),.int .u32 (↑ss),.int .u32 (↑ha),.int .u32 (↑hs)],none⟩)],lo:=[(84,l.length)],esc:=0,T:=[],k:=1,O:=True ∧ decide ((↑k : Int) < (↑ns : Int)) = false : St } : Fr }):=by kernel_rfl
theorem btr_d (p : Nat) (s : Nat) (t : Nat) (nc : Nat) (ns : Nat) (d : List UInt8) (rs : List Rl) (c : Nat) (da : Nat) (ds : Nat) (sa : Nat) (ss : Nat) (ha : Nat) (hs : Nat) (l : List Cp) (k : Nat) : evC Try.prog (evF Try.prog (baseC 3 selMk) noLoop 100 20) (noLoop 8) 70 100 (loopOf Try.prog 8 1) (Sf.frT 70 (btrI p s t nc ns d rs c da ds sa ss ha hs l k) [(0,true),(1,false)]) = some (Exit.normal,{ e:=[[unk,.pointer (some ⟨67,0,none⟩),.slice none 0 0,.int .i64 0,.pointer (some ⟨68,0,none⟩),.int .i64 0,.pointer (some ⟨69,0,none⟩),.pointer (some ⟨70,0,none⟩),.func (Fn.func 24) { toList:=[] } { toList:=[Value.pointer (some ⟨70,0,none⟩)] },unk,unk,.pointer (some ⟨93,0,none⟩),unk,unk,unk,unk],[unk,unk,unk,unk,unk,unk,unk,unk,unk,unk,unk,unk,unk,unk,unk,unk],[unk,unk,unk,unk,unk,unk,unk,unk,unk,unk,unk,unk,unk,unk,unk,unk],[unk,unk,unk,unk,unk,unk,unk,unk,unk,.slice (some ⟨65,0,none⟩) rs.length 9223372036854775873,.int .i64 (↑rs.length),.int .i64 (IntKind.i64.wrap ((↑k : Int) + (1 : Int))),.bool (decide ((↑k : Int) < (↑rs.length : Int))),.pointer (some { block:=65,off:=0 + (↑k : Int).toNat * 6 }),.agg ⟨[.int .u32 (intOf' (getD' undef (rels rs) (0 + (↑k : Int).toNat * 6))),.bool (boolOf' (getD' undef (rels rs) (0 + (↑k : Int).toNat * 6 + 1))),.int .u32 (intOf' (getD' undef (rels rs) (0 + (↑k : Int).toNat * 6 + 1 + 1))),.int .u32 (intOf' (getD' undef (rels rs) (0 + (↑k : Int).toNat * 6 + 1 + 1 + 1))),.int .u16 (intOf' (getD' undef (rels rs) (0 + (↑k : Int).toNat * 6 + 1 + 1 + 1 + 1))),.int .u16 (intOf' (getD' undef (rels rs) (0 + (↑k : Int).toNat * 6 + 1 + 1 + 1 + 1 + 1)))]⟩,.func (Fn.func 24) { toList:=[] } { toList:=[Value.pointer (some ⟨70,0,none⟩)] }],[Value.agg ⟨[.int .i64 (↑p),.int .i64 (↑s),.int .i64 (↑t),.slice (some ⟨64,0,none⟩) nc 9223372036854775872,.string ⟨⟨d⟩⟩,.slice (some ⟨65,0,none⟩) rs.length 9223372036854775873,.slice (some ⟨66,0,none⟩) ns 9223372036854775874,.int .u32 0,.int .u32 (↑c),.int .u32 (↑da),.int .u32 (↑ds),.int .u32 (↑sa),.int .u32 (↑ss),.int .u32 (↑ha),.int .u32 (↑hs)]⟩,.agg ⟨[.int .u32 (intOf' (getD' undef (rels rs) (0 + (↑k : Int).toNat * 6))),.bool (boolOf' (getD' undef (rels rs) (0 + (↑k : Int).toNat * 6 + 1))),.int .u32 (intOf' (getD' undef (rels rs) (0 + (↑k : Int).toNat * 6 + 1 + 1))),.int .u32 (intOf' (getD' undef (rels rs) (0 + (↑k : Int).toNat * 6 + 1 + 1 + 1))),.int .u16 (intOf' (getD' undef (rels rs) (0 + (↑k : Int).toNat * 6 + 1 + 1 + 1 + 1))),.int .u16 (intOf' (getD' undef (rels rs) (0 + (↑k : Int).toNat * 6 + 1 + 1 + 1 + 1 + 1)))]⟩,.agg ⟨[.int .u32 (↑(mA (IntKind.u32.wrap ((↑da : Int) + intOf' (getD' undef (rels rs) (0 + (↑k : Int).toNat * 6 + 1 + 1)))).toNat (intOf' (getD' undef (rels rs) (0 + (↑k : Int).toNat * 6 + 1 + 1 + 1))).toNat (bits BinOp.or IntKind.u16 (0 : Int) (intOf' (getD' undef (rels rs) (0 + (↑k : Int).toNat * 6 + 1 + 1 + 1 + 1)))).toNat) : Int),.int .u8 (↑(mE (IntKind.u32.wrap ((↑da : Int) + intOf' (getD' undef (rels rs) (0 + (↑k : Int).toNat * 6 + 1 + 1)))).toNat (intOf' (getD' undef (rels rs) (0 + (↑k : Int).toNat * 6 + 1 + 1 + 1))).toNat (bits BinOp.or IntKind.u16 (0 : Int) (intOf' (getD' undef (rels rs) (0 + (↑k : Int).toNat * 6 + 1 + 1 + 1 + 1)))).toNat) : Int),.int .u16 (↑(mB (IntKind.u32.wrap ((↑da : Int) + intOf' (getD' undef (rels rs) (0 + (↑k : Int).toNat * 6 + 1 + 1)))).toNat (intOf' (getD' undef (rels rs) (0 + (↑k : Int).toNat * 6 + 1 + 1 + 1))).toNat (bits BinOp.or IntKind.u16 (0 : Int) (intOf' (getD' undef (rels rs) (0 + (↑k : Int).toNat * 6 + 1 + 1 + 1 + 1)))).toNat) : Int),.int .u16 (↑(mT (IntKind.u32.wrap ((↑da : Int) + intOf' (getD' undef (rels rs) (0 + (↑k : Int).toNat * 6 + 1 + 1)))).toNat (intOf' (getD' undef (rels rs) (0 + (↑k : Int).toNat * 6 + 1 + 1 + 1))).toNat (bits BinOp.or IntKind.u16 (0 : Int) (intOf' (getD' undef (rels rs) (0 + (↑k : Int).toNat * 6 + 1 + 1 + 1 + 1)))).toNat) : Int),.int .u16 (↑(mP (IntKind.u32.wrap ((↑da : Int) + intOf' (getD' undef (rels rs) (0 + (↑k : Int).toNat * 6 + 1 + 1)))).toNat (intOf' (getD' undef (rels rs) (0 + (↑k : Int).toNat * 6 + 1 + 1 + 1))).toNat (bits BinOp.or IntKind.u16 (0 : Int) (intOf' (getD' undef (rels rs) (0 + (↑k : Int).toNat * 6 + 1 + 1 + 1 + 1)))).toNat) : Int),.int .u16 (intOf' (getD' undef (rels rs) (0 + (↑k : Int).toNat * 6 + 1 + 1 + 1 + 1 + 1))),.int .u32 0,.bool (mV (IntKind.u32.wrap ((↑da : Int) + intOf' (getD' undef (rels rs) (0 + (↑k : Int).toNat * 6 + 1 + 1)))).toNat (intOf' (getD' undef (rels rs) (0 + (↑k : Int).toNat * 6 + 1 + 1 + 1))).toNat (bits BinOp.or IntKind.u16 (0 : Int) (intOf' (getD' undef (rels rs) (0 + (↑k : Int).toNat * 6 + 1 + 1 + 1 + 1)))).toNat)]⟩,undef,.int .i64 (IntKind.i64.wrap ((↑k : Int) + (1 : Int))),unk,unk,unk,unk,unk,unk,unk,unk,unk,unk,unk]],s:={ n:=105,h:=[(104,⟨true,some (104,8),cpL l ++ [Value.int .u32 (↑(mA (IntKind.u32.wrap ((↑da : Int) + intOf' (getD' undef (rels rs) (0 + (↑k : Int).toNat * 6 + 1 + 1)))).toNat (intOf' (getD' undef (rels rs) (0 + (↑k : Int).toNat * 6 + 1 + 1 + 1))).toNat (bits BinOp.or IntKind.u16 (0 : Int) (intOf' (getD' undef (rels rs) (0 + (↑k : Int).toNat * 6 + 1 + 1 + 1 + 1)))).toNat) : Int),.int .u8 (↑(mE (IntKind.u32.wrap ((↑da : Int) + intOf' (getD' undef (rels rs) (0 + (↑k : Int).toNat * 6 + 1 + 1)))).toNat (intOf' (getD' undef (rels rs) (0 + (↑k : Int).toNat * 6 + 1 + 1 + 1))).toNat (bits BinOp.or IntKind.u16 (0 : Int) (intOf' (getD' undef (rels rs) (0 + (↑k : Int).toNat * 6 + 1 + 1 + 1 + 1)))).toNat) : Int),.int .u16 (↑(mB (IntKind.u32.wrap ((↑da : Int) + intOf' (getD' undef (rels rs) (0 + (↑k : Int).toNat * 6 + 1 + 1)))).toNat (intOf' (getD' undef (rels rs) (0 + (↑k : Int).toNat * 6 + 1 + 1 + 1))).toNat (bits BinOp.or IntKind.u16 (0 : Int) (intOf' (getD' undef (rels rs) (0 + (↑k : Int).toNat * 6 + 1 + 1 + 1 + 1)))).toNat) : Int),.int .u16 (↑(mT (IntKind.u32.wrap ((↑da : Int) + intOf' (getD' undef (rels rs) (0 + (↑k : Int).toNat * 6 + 1 + 1)))).toNat (intOf' (getD' undef (rels rs) (0 + (↑k : Int).toNat * 6 + 1 + 1 + 1))).toNat (bits BinOp.or IntKind.u16 (0 : Int) (intOf' (getD' undef (rels rs) (0 + (↑k : Int).toNat * 6 + 1 + 1 + 1 + 1)))).toNat) : Int),.int .u16 (↑(mP (IntKind.u32.wrap ((↑da : Int) + intOf' (getD' undef (rels rs) (0 + (↑k : Int).toNat * 6 + 1 + 1)))).toNat (intOf' (getD' undef (rels rs) (0 + (↑k : Int).toNat * 6 + 1 + 1 + 1))).toNat (bits BinOp.or IntKind.u16 (0 : Int) (intOf' (getD' undef (rels rs) (0 + (↑k : Int).toNat * 6 + 1 + 1 + 1 + 1)))).toNat) : Int),.int .u16 (intOf' (getD' undef (rels rs) (0 + (↑k : Int).toNat * 6 + 1 + 1 + 1 + 1 + 1))),.int .u32 0,.bool (mV (IntKind.u32.wrap ((↑da : Int) + intOf' (getD' undef (rels rs) (0 + (↑k : Int).toNat * 6 + 1 + 1)))).toNat (intOf' (getD' undef (rels rs) (0 + (↑k : Int).toNat * 6 + 1 + 1 + 1))).toNat (bits BinOp.or IntKind.u16 (0 : Int) (intOf' (getD' undef (rels rs) (0 + (↑k : Int).toNat * 6 + 1 + 1 + 1 + 1)))).toNat)],none⟩),(103,⟨true,none,[Value.int .u32 (↑(mA (IntKind.u32.wrap ((↑da : Int) + intOf' (getD' undef (rels rs) (0 + (↑k : Int).toNat * 6 + 1 + 1)))).toNat (intOf' (getD' undef (rels rs) (0 + (↑k : Int).toNat * 6 + 1 + 1 + 1))).toNat (bits BinOp.or IntKind.u16 (0 : Int) (intOf' (getD' undef (rels rs) (0 + (↑k : Int).toNat * 6 + 1 + 1 + 1 + 1)))).toNat) : Int),.int .u8 (↑(mE (IntKind.u32.wrap ((↑da : Int) + intOf' (getD' undef (rels rs) (0 + (↑k : Int).toNat * 6 + 1 + 1)))).toNat (intOf' (getD' undef (rels rs) (0 + (↑k : Int).toNat * 6 + 1 + 1 + 1))).toNat (bits BinOp.or IntKind.u16 (0 : Int) (intOf' (getD' undef (rels rs) (0 + (↑k : Int).toNat * 6 + 1 + 1 + 1 + 1)))).toNat) : Int),.int .u16 (↑(mB (IntKind.u32.wrap ((↑da : Int) + intOf' (getD' undef (rels rs) (0 + (↑k : Int).toNat * 6 + 1 + 1)))).toNat (intOf' (getD' undef (rels rs) (0 + (↑k : Int).toNat * 6 + 1 + 1 + 1))).toNat (bits BinOp.or IntKind.u16 (0 : Int) (intOf' (getD' undef (rels rs) (0 + (↑k : Int).toNat * 6 + 1 + 1 + 1 + 1)))).toNat) : Int),.int .u16 (↑(mT (IntKind.u32.wrap ((↑da : Int) + intOf' (getD' undef (rels rs) (0 + (↑k : Int).toNat * 6 + 1 + 1)))).toNat (intOf' (getD' undef (rels rs) (0 + (↑k : Int).toNat * 6 + 1 + 1 + 1))).toNat (bits BinOp.or IntKind.u16 (0 : Int) (intOf' (getD' undef (rels rs) (0 + (↑k : Int).toNat * 6 + 1 + 1 + 1 + 1)))).toNat) : Int),.int .u16 (↑(mP (IntKind.u32.wrap ((↑da : Int) + intOf' (getD' undef (rels rs) (0 + (↑k : Int).toNat * 6 + 1 + 1)))).toNat (intOf' (getD' undef (rels rs) (0 + (↑k : Int).toNat * 6 + 1 + 1 + 1))).toNat (bits BinOp.or IntKind.u16 (0 : Int) (intOf' (getD' undef (rels rs) (0 + (↑k : Int).toNat * 6 + 1 + 1 + 1 + 1)))).toNat) : Int),.int .u16 (intOf' (getD' undef (rels rs) (0 + (↑k : Int).toNat * 6 + 1 + 1 + 1 + 1 + 1))),.int .u32 0,.bool (mV (IntKind.u32.wrap ((↑da : Int) + intOf' (getD' undef (rels rs) (0 + (↑k : Int).toNat * 6 + 1 + 1)))).toNat (intOf' (getD' undef (rels rs) (0 + (↑k : Int).toNat * 6 + 1 + 1 + 1))).toNat (bits BinOp.or IntKind.u16 (0 : Int) (intOf' (getD' undef (rels rs) (0 + (↑k : Int).toNat * 6 + 1 + 1 + 1 + 1)))).toNat)],none⟩),(102,⟨true,none,[Value.int .u32 (↑(mA (IntKind.u32.wrap ((↑da : Int) + intOf' (getD' undef (rels rs) (0 + (↑k : Int).toNat * 6 + 1 + 1)))).toNat (intOf' (getD' undef (rels rs) (0 + (↑k : Int).toNat * 6 + 1 + 1 + 1))).toNat (bits BinOp.or IntKind.u16 (0 : Int) (intOf' (getD' undef (rels rs) (0 + (↑k : Int).toNat * 6 + 1 + 1 + 1 + 1)))).toNat) : Int),.int .u8 (↑(mE (IntKind.u32.wrap ((↑da : Int) + intOf' (getD' undef (rels rs) (0 + (↑k : Int).toNat * 6 + 1 + 1)))).toNat (intOf' (getD' undef (rels rs) (0 + (↑k : Int).toNat * 6 + 1 + 1 + 1))).toNat (bits BinOp.or IntKind.u16 (0 : Int) (intOf' (getD' undef (rels rs) (0 + (↑k : Int).toNat * 6 + 1 + 1 + 1 + 1)))).toNat) : Int),.int .u16 (↑(mB (IntKind.u32.wrap ((↑da : Int) + intOf' (getD' undef (rels rs) (0 + (↑k : Int).toNat * 6 + 1 + 1)))).toNat (intOf' (getD' undef (rels rs) (0 + (↑k : Int).toNat * 6 + 1 + 1 + 1))).toNat (bits BinOp.or IntKind.u16 (0 : Int) (intOf' (getD' undef (rels rs) (0 + (↑k : Int).toNat * 6 + 1 + 1 + 1 + 1)))).toNat) : Int),.int .u16 (↑(mT (IntKind.u32.wrap ((↑da : Int) + intOf' (getD' undef (rels rs) (0 + (↑k : Int).toNat * 6 + 1 + 1)))).toNat (intOf' (getD' undef (rels rs) (0 + (↑k : Int).toNat * 6 + 1 + 1 + 1))).toNat (bits BinOp.or IntKind.u16 (0 : Int) (intOf' (getD' undef (rels rs) (0 + (↑k : Int).toNat * 6 + 1 + 1 + 1 + 1)))).toNat) : Int),.int .u16 (↑(mP (IntKind.u32.wrap ((↑da : Int) + intOf' (getD' undef (rels rs) (0 + (↑k : Int).toNat * 6 + 1 + 1)))).toNat (intOf' (getD' undef (rels rs) (0 + (↑k : Int).toNat * 6 + 1 + 1 + 1))).toNat (bits BinOp.or IntKind.u16 (0 : Int) (intOf' (getD' undef (rels rs) (0 + (↑k : Int).toNat * 6 + 1 + 1 + 1 + 1)))).toNat) : Int),.int .u16 (intOf' (getD' undef (rels rs) (0 + (↑k : Int).toNat * 6 + 1 + 1 + 1 + 1 + 1))),.int .u32 0,.bool (mV (IntKind.u32.wrap ((↑da : Int) + intOf' (getD' undef (rels rs) (0 + (↑k : Int).toNat * 6 + 1 + 1)))).toNat (intOf' (getD' undef (rels rs) (0 + (↑k : Int).toNat * 6 + 1 + 1 + 1))).toNat (bits BinOp.or IntKind.u16 (0 : Int) (intOf' (getD' undef (rels rs) (0 + (↑k : Int).toNat * 6 + 1 + 1 + 1 + 1)))).toNat)],none⟩),(93,⟨true,none,[Value.int .u32 (intOf' (getD' undef (rels rs) (0 + (↑k : Int).toNat * 6))),.bool (boolOf' (getD' undef (rels rs) (0 + (↑k : Int).toNat * 6 + 1))),.int .u32 (intOf' (getD' undef (rels rs) (0 + (↑k : Int).toNat * 6 + 1 + 1))),.int .u32 (intOf' (getD' undef (rels rs) (0 + (↑k : Int).toNat * 6 + 1 + 1 + 1))),.int .u16 (intOf' (getD' undef (rels rs) (0 + (↑k : Int).toNat * 6 + 1 + 1 + 1 + 1))),.int .u16 (intOf' (getD' undef (rels rs) (0 + (↑k : Int).toNat * 6 + 1 + 1 + 1 + 1 + 1)))],none⟩),(70,⟨true,none,[Value.slice (some ⟨104,0,none⟩) (l.length + 1) 9223372036854775912],none⟩),(69,⟨false,none,[Value.int .i64 (↑p),.int .i64 (↑s),.int .i64 (↑t),.slice (some ⟨64,0,none⟩) nc 9223372036854775872,.string ⟨⟨d⟩⟩,.slice (some ⟨65,0,none⟩) rs.length 9223372036854775873,.slice (some ⟨66,0,none⟩) ns 9223372036854775874,.int .u32 0,.int .u32 (↑c),.int .u32 (↑da),.int .u32 (↑ds),.int .u32 (↑sa),.int .u32 (↑ss),.int .u32 (↑ha),.int .u32 (↑hs)],none⟩),(65,⟨false,some (0,0),rels rs,none⟩)],lo:=[(104,l.length + 1),(92,l.length)],esc:=0,T:=[],k:=2,O:=bif (lenT (cpL l)).beq (l.length * 8) then bif ((l.length + 1) * 24).ble 1099511627776 && (l.length + 1).blt 4611686018427387904 then ((bif hasN (0 + (↑k : Int).toNat * 6 + 6) (rels rs) && isLikeL [Value.int .u32 0,.bool false,.int .u32 0,.int .u32 0,.int .u16 0,.int .u16 0] (rels rs) (0 + (↑k : Int).toNat * 6) then bif decide ((0 : Int) ≤ (↑k : Int)) && decide ((↑k : Int) < (↑rs.length : Int)) then True ∧ decide ((↑k : Int) < (↑rs.length : Int)) = true else False else False) ∧ boolOf' (getD' undef (rels rs) (0 + (↑k : Int).toNat * 6 + 1)) = false) ∧ ((0 : Int) ≤ IntKind.u32.wrap ((↑da : Int) + intOf' (getD' undef (rels rs) (0 + (↑k : Int).toNat * 6 + 1 + 1))) ∧ IntKind.u32.wrap ((↑da : Int) + intOf' (getD' undef (rels rs) (0 + (↑k : Int).toNat * 6 + 1 + 1))) < (4294967296 : Int) ∧ (0 : Int) ≤ intOf' (getD' undef (rels rs) (0 + (↑k : Int).toNat * 6 + 1 + 1 + 1)) ∧ intOf' (getD' undef (rels rs) (0 + (↑k : Int).toNat * 6 + 1 + 1 + 1)) < (4294967296 : Int) ∧ (0 : Int) ≤ bits BinOp.or IntKind.u16 (0 : Int) (intOf' (getD' undef (rels rs) (0 + (↑k : Int).toNat * 6 + 1 + 1 + 1 + 1)))) ∧ (rr (Value.agg ⟨[.int .u32 (IntKind.u32.wrap ((↑da : Int) + intOf' (getD' undef (rels rs) (0 + (↑k : Int).toNat * 6 + 1 + 1)))),.int .u32 (intOf' (getD' undef (rels rs) (0 + (↑k : Int).toNat * 6 + 1 + 1 + 1)))]⟩) ∧ rr (Value.int .u16 (bits BinOp.or IntKind.u16 (0 : Int) (intOf' (getD' undef (rels rs) (0 + (↑k : Int).toNat * 6 + 1 + 1 + 1 + 1))))) ∧ True) ∧ True ∧ True else False else False : St } : Fr }):=by kernel_rfl
theorem btr_c (p : Nat) (s : Nat) (t : Nat) (nc : Nat) (ns : Nat) (d : List UInt8) (rs : List Rl) (c : Nat) (da : Nat) (ds : Nat) (sa : Nat) (ss : Nat) (ha : Nat) (hs : Nat) (l : List Cp) (k : Nat) : evC Try.prog (evF Try.prog (baseC 3 selMk) noLoop 100 20) (noLoop 8) 70 100 (loopOf Try.prog 8 1) (Sf.frT 70 (btrI p s t nc ns d rs c da ds sa ss ha hs l k) [(0,true),(1,true)]) = some (Exit.normal,{ e:=[[unk,.pointer (some ⟨67,0,none⟩),.slice none 0 0,.int .i64 0,.pointer (some ⟨68,0,none⟩),.int .i64 0,.pointer (some ⟨69,0,none⟩),.pointer (some ⟨70,0,none⟩),.func (Fn.func 24) { toList:=[] } { toList:=[Value.pointer (some ⟨70,0,none⟩)] },unk,unk,.pointer (some ⟨93,0,none⟩),unk,unk,unk,unk],[unk,unk,unk,unk,unk,unk,unk,unk,unk,unk,unk,unk,unk,unk,unk,unk],[unk,unk,unk,unk,unk,unk,unk,unk,unk,unk,unk,unk,unk,unk,unk,unk],[unk,unk,unk,unk,unk,unk,unk,unk,unk,.slice (some ⟨65,0,none⟩) rs.length 9223372036854775873,.int .i64 (↑rs.length),.int .i64 (IntKind.i64.wrap ((↑k : Int) + (1 : Int))),.bool (decide ((↑k : Int) < (↑rs.length : Int))),.pointer (some { block:=65,off:=0 + (↑k : Int).toNat * 6 }),.agg ⟨[.int .u32 (intOf' (getD' undef (rels rs) (0 + (↑k : Int).toNat * 6))),.bool (boolOf' (getD' undef (rels rs) (0 + (↑k : Int).toNat * 6 + 1))),.int .u32 (intOf' (getD' undef (rels rs) (0 + (↑k : Int).toNat * 6 + 1 + 1))),.int .u32 (intOf' (getD' undef (rels rs) (0 + (↑k : Int).toNat * 6 + 1 + 1 + 1))),.int .u16 (intOf' (getD' undef (rels rs) (0 + (↑k : Int).toNat * 6 + 1 + 1 + 1 + 1))),.int .u16 (intOf' (getD' undef (rels rs) (0 + (↑k : Int).toNat * 6 + 1 + 1 + 1 + 1 + 1)))]⟩,.func (Fn.func 24) { toList:=[] } { toList:=[Value.pointer (some ⟨70,0,none⟩)] }],[Value.agg ⟨[.int .i64 (↑p),.int .i64 (↑s),.int .i64 (↑t),.slice (some ⟨64,0,none⟩) nc 9223372036854775872,.string ⟨⟨d⟩⟩,.slice (some ⟨65,0,none⟩) rs.length 9223372036854775873,.slice (some ⟨66,0,none⟩) ns 9223372036854775874,.int .u32 0,.int .u32 (↑c),.int .u32 (↑da),.int .u32 (↑ds),.int .u32 (↑sa),.int .u32 (↑ss),.int .u32 (↑ha),.int .u32 (↑hs)]⟩,.agg ⟨[.int .u32 (intOf' (getD' undef (rels rs) (0 + (↑k : Int).toNat * 6))),.bool (boolOf' (getD' undef (rels rs) (0 + (↑k : Int).toNat * 6 + 1))),.int .u32 (intOf' (getD' undef (rels rs) (0 + (↑k : Int).toNat * 6 + 1 + 1))),.int .u32 (intOf' (getD' undef (rels rs) (0 + (↑k : Int).toNat * 6 + 1 + 1 + 1))),.int .u16 (intOf' (getD' undef (rels rs) (0 + (↑k : Int).toNat * 6 + 1 + 1 + 1 + 1))),.int .u16 (intOf' (getD' undef (rels rs) (0 + (↑k : Int).toNat * 6 + 1 + 1 + 1 + 1 + 1)))]⟩,.agg ⟨[.int .u32 (↑(mA (IntKind.u32.wrap ((0 : Int) + intOf' (getD' undef (rels rs) (0 + (↑k : Int).toNat * 6 + 1 + 1)))).toNat (intOf' (getD' undef (rels rs) (0 + (↑k : Int).toNat * 6 + 1 + 1 + 1))).toNat (bits BinOp.or IntKind.u16 (0 : Int) (intOf' (getD' undef (rels rs) (0 + (↑k : Int).toNat * 6 + 1 + 1 + 1 + 1)))).toNat) : Int),.int .u8 (↑(mE (IntKind.u32.wrap ((0 : Int) + intOf' (getD' undef (rels rs) (0 + (↑k : Int).toNat * 6 + 1 + 1)))).toNat (intOf' (getD' undef (rels rs) (0 + (↑k : Int).toNat * 6 + 1 + 1 + 1))).toNat (bits BinOp.or IntKind.u16 (0 : Int) (intOf' (getD' undef (rels rs) (0 + (↑k : Int).toNat * 6 + 1 + 1 + 1 + 1)))).toNat) : Int),.int .u16 (↑(mB (IntKind.u32.wrap ((0 : Int) + intOf' (getD' undef (rels rs) (0 + (↑k : Int).toNat * 6 + 1 + 1)))).toNat (intOf' (getD' undef (rels rs) (0 + (↑k : Int).toNat * 6 + 1 + 1 + 1))).toNat (bits BinOp.or IntKind.u16 (0 : Int) (intOf' (getD' undef (rels rs) (0 + (↑k : Int).toNat * 6 + 1 + 1 + 1 + 1)))).toNat) : Int),.int .u16 (↑(mT (IntKind.u32.wrap ((0 : Int) + intOf' (getD' undef (rels rs) (0 + (↑k : Int).toNat * 6 + 1 + 1)))).toNat (intOf' (getD' undef (rels rs) (0 + (↑k : Int).toNat * 6 + 1 + 1 + 1))).toNat (bits BinOp.or IntKind.u16 (0 : Int) (intOf' (getD' undef (rels rs) (0 + (↑k : Int).toNat * 6 + 1 + 1 + 1 + 1)))).toNat) : Int),.int .u16 (↑(mP (IntKind.u32.wrap ((0 : Int) + intOf' (getD' undef (rels rs) (0 + (↑k : Int).toNat * 6 + 1 + 1)))).toNat (intOf' (getD' undef (rels rs) (0 + (↑k : Int).toNat * 6 + 1 + 1 + 1))).toNat (bits BinOp.or IntKind.u16 (0 : Int) (intOf' (getD' undef (rels rs) (0 + (↑k : Int).toNat * 6 + 1 + 1 + 1 + 1)))).toNat) : Int),.int .u16 (intOf' (getD' undef (rels rs) (0 + (↑k : Int).toNat * 6 + 1 + 1 + 1 + 1 + 1))),.int .u32 0,.bool (mV (IntKind.u32.wrap ((0 : Int) + intOf' (getD' undef (rels rs) (0 + (↑k : Int).toNat * 6 + 1 + 1)))).toNat (intOf' (getD' undef (rels rs) (0 + (↑k : Int).toNat * 6 + 1 + 1 + 1))).toNat (bits BinOp.or IntKind.u16 (0 : Int) (intOf' (getD' undef (rels rs) (0 + (↑k : Int).toNat * 6 + 1 + 1 + 1 + 1)))).toNat)]⟩,undef,.int .i64 (IntKind.i64.wrap ((↑k : Int) + (1 : Int))),unk,unk,unk,unk,unk,unk,unk,unk,unk,unk,unk]],s:={ n:=105,h:=[(104,⟨true,some (104,8),cpL l ++ [Value.int .u32 (↑(mA (IntKind.u32.wrap ((0 : Int) + intOf' (getD' undef (rels rs) (0 + (↑k : Int).toNat * 6 + 1 + 1)))).toNat (intOf' (getD' undef (rels rs) (0 + (↑k : Int).toNat * 6 + 1 + 1 + 1))).toNat (bits BinOp.or IntKind.u16 (0 : Int) (intOf' (getD' undef (rels rs) (0 + (↑k : Int).toNat * 6 + 1 + 1 + 1 + 1)))).toNat) : Int),.int .u8 (↑(mE (IntKind.u32.wrap ((0 : Int) + intOf' (getD' undef (rels rs) (0 + (↑k : Int).toNat * 6 + 1 + 1)))).toNat (intOf' (getD' undef (rels rs) (0 + (↑k : Int).toNat * 6 + 1 + 1 + 1))).toNat (bits BinOp.or IntKind.u16 (0 : Int) (intOf' (getD' undef (rels rs) (0 + (↑k : Int).toNat * 6 + 1 + 1 + 1 + 1)))).toNat) : Int),.int .u16 (↑(mB (IntKind.u32.wrap ((0 : Int) + intOf' (getD' undef (rels rs) (0 + (↑k : Int).toNat * 6 + 1 + 1)))).toNat (intOf' (getD' undef (rels rs) (0 + (↑k : Int).toNat * 6 + 1 + 1 + 1))).toNat (bits BinOp.or IntKind.u16 (0 : Int) (intOf' (getD' undef (rels rs) (0 + (↑k : Int).toNat * 6 + 1 + 1 + 1 + 1)))).toNat) : Int),.int .u16 (↑(mT (IntKind.u32.wrap ((0 : Int) + intOf' (getD' undef (rels rs) (0 + (↑k : Int).toNat * 6 + 1 + 1)))).toNat (intOf' (getD' undef (rels rs) (0 + (↑k : Int).toNat * 6 + 1 + 1 + 1))).toNat (bits BinOp.or IntKind.u16 (0 : Int) (intOf' (getD' undef (rels rs) (0 + (↑k : Int).toNat * 6 + 1 + 1 + 1 + 1)))).toNat) : Int),.int .u16 (↑(mP (IntKind.u32.wrap ((0 : Int) + intOf' (getD' undef (rels rs) (0 + (↑k : Int).toNat * 6 + 1 + 1)))).toNat (intOf' (getD' undef (rels rs) (0 + (↑k : Int).toNat * 6 + 1 + 1 + 1))).toNat (bits BinOp.or IntKind.u16 (0 : Int) (intOf' (getD' undef (rels rs) (0 + (↑k : Int).toNat * 6 + 1 + 1 + 1 + 1)))).toNat) : Int),.int .u16 (intOf' (getD' undef (rels rs) (0 + (↑k : Int).toNat * 6 + 1 + 1 + 1 + 1 + 1))),.int .u32 0,.bool (mV (IntKind.u32.wrap ((0 : Int) + intOf' (getD' undef (rels rs) (0 + (↑k : Int).toNat * 6 + 1 + 1)))).toNat (intOf' (getD' undef (rels rs) (0 + (↑k : Int).toNat * 6 + 1 + 1 + 1))).toNat (bits BinOp.or IntKind.u16 (0 : Int) (intOf' (getD' undef (rels rs) (0 + (↑k : Int).toNat * 6 + 1 + 1 + 1 + 1)))).toNat)],none⟩),(103,⟨true,none,[Value.int .u32 (↑(mA (IntKind.u32.wrap ((0 : Int) + intOf' (getD' undef (rels rs) (0 + (↑k : Int).toNat * 6 + 1 + 1)))).toNat (intOf' (getD' undef (rels rs) (0 + (↑k : Int).toNat * 6 + 1 + 1 + 1))).toNat (bits BinOp.or IntKind.u16 (0 : Int) (intOf' (getD' undef (rels rs) (0 + (↑k : Int).toNat * 6 + 1 + 1 + 1 + 1)))).toNat) : Int),.int .u8 (↑(mE (IntKind.u32.wrap ((0 : Int) + intOf' (getD' undef (rels rs) (0 + (↑k : Int).toNat * 6 + 1 + 1)))).toNat (intOf' (getD' undef (rels rs) (0 + (↑k : Int).toNat * 6 + 1 + 1 + 1))).toNat (bits BinOp.or IntKind.u16 (0 : Int) (intOf' (getD' undef (rels rs) (0 + (↑k : Int).toNat * 6 + 1 + 1 + 1 + 1)))).toNat) : Int),.int .u16 (↑(mB (IntKind.u32.wrap ((0 : Int) + intOf' (getD' undef (rels rs) (0 + (↑k : Int).toNat * 6 + 1 + 1)))).toNat (intOf' (getD' undef (rels rs) (0 + (↑k : Int).toNat * 6 + 1 + 1 + 1))).toNat (bits BinOp.or IntKind.u16 (0 : Int) (intOf' (getD' undef (rels rs) (0 + (↑k : Int).toNat * 6 + 1 + 1 + 1 + 1)))).toNat) : Int),.int .u16 (↑(mT (IntKind.u32.wrap ((0 : Int) + intOf' (getD' undef (rels rs) (0 + (↑k : Int).toNat * 6 + 1 + 1)))).toNat (intOf' (getD' undef (rels rs) (0 + (↑k : Int).toNat * 6 + 1 + 1 + 1))).toNat (bits BinOp.or IntKind.u16 (0 : Int) (intOf' (getD' undef (rels rs) (0 + (↑k : Int).toNat * 6 + 1 + 1 + 1 + 1)))).toNat) : Int),.int .u16 (↑(mP (IntKind.u32.wrap ((0 : Int) + intOf' (getD' undef (rels rs) (0 + (↑k : Int).toNat * 6 + 1 + 1)))).toNat (intOf' (getD' undef (rels rs) (0 + (↑k : Int).toNat * 6 + 1 + 1 + 1))).toNat (bits BinOp.or IntKind.u16 (0 : Int) (intOf' (getD' undef (rels rs) (0 + (↑k : Int).toNat * 6 + 1 + 1 + 1 + 1)))).toNat) : Int),.int .u16 (intOf' (getD' undef (rels rs) (0 + (↑k : Int).toNat * 6 + 1 + 1 + 1 + 1 + 1))),.int .u32 0,.bool (mV (IntKind.u32.wrap ((0 : Int) + intOf' (getD' undef (rels rs) (0 + (↑k : Int).toNat * 6 + 1 + 1)))).toNat (intOf' (getD' undef (rels rs) (0 + (↑k : Int).toNat * 6 + 1 + 1 + 1))).toNat (bits BinOp.or IntKind.u16 (0 : Int) (intOf' (getD' undef (rels rs) (0 + (↑k : Int).toNat * 6 + 1 + 1 + 1 + 1)))).toNat)],none⟩),(102,⟨true,none,[Value.int .u32 (↑(mA (IntKind.u32.wrap ((0 : Int) + intOf' (getD' undef (rels rs) (0 + (↑k : Int).toNat * 6 + 1 + 1)))).toNat (intOf' (getD' undef (rels rs) (0 + (↑k : Int).toNat * 6 + 1 + 1 + 1))).toNat (bits BinOp.or IntKind.u16 (0 : Int) (intOf' (getD' undef (rels rs) (0 + (↑k : Int).toNat * 6 + 1 + 1 + 1 + 1)))).toNat) : Int),.int .u8 (↑(mE (IntKind.u32.wrap ((0 : Int) + intOf' (getD' undef (rels rs) (0 + (↑k : Int).toNat * 6 + 1 + 1)))).toNat (intOf' (getD' undef (rels rs) (0 + (↑k : Int).toNat * 6 + 1 + 1 + 1))).toNat (bits BinOp.or IntKind.u16 (0 : Int) (intOf' (getD' undef (rels rs) (0 + (↑k : Int).toNat * 6 + 1 + 1 + 1 + 1)))).toNat) : Int),.int .u16 (↑(mB (IntKind.u32.wrap ((0 : Int) + intOf' (getD' undef (rels rs) (0 + (↑k : Int).toNat * 6 + 1 + 1)))).toNat (intOf' (getD' undef (rels rs) (0 + (↑k : Int).toNat * 6 + 1 + 1 + 1))).toNat (bits BinOp.or IntKind.u16 (0 : Int) (intOf' (getD' undef (rels rs) (0 + (↑k : Int).toNat * 6 + 1 + 1 + 1 + 1)))).toNat) : Int),.int .u16 (↑(mT (IntKind.u32.wrap ((0 : Int) + intOf' (getD' undef (rels rs) (0 + (↑k : Int).toNat * 6 + 1 + 1)))).toNat (intOf' (getD' undef (rels rs) (0 + (↑k : Int).toNat * 6 + 1 + 1 + 1))).toNat (bits BinOp.or IntKind.u16 (0 : Int) (intOf' (getD' undef (rels rs) (0 + (↑k : Int).toNat * 6 + 1 + 1 + 1 + 1)))).toNat) : Int),.int .u16 (↑(mP (IntKind.u32.wrap ((0 : Int) + intOf' (getD' undef (rels rs) (0 + (↑k : Int).toNat * 6 + 1 + 1)))).toNat (intOf' (getD' undef (rels rs) (0 + (↑k : Int).toNat * 6 + 1 + 1 + 1))).toNat (bits BinOp.or IntKind.u16 (0 : Int) (intOf' (getD' undef (rels rs) (0 + (↑k : Int).toNat * 6 + 1 + 1 + 1 + 1)))).toNat) : Int),.int .u16 (intOf' (getD' undef (rels rs) (0 + (↑k : Int).toNat * 6 + 1 + 1 + 1 + 1 + 1))),.int .u32 0,.bool (mV (IntKind.u32.wrap ((0 : Int) + intOf' (getD' undef (rels rs) (0 + (↑k : Int).toNat * 6 + 1 + 1)))).toNat (intOf' (getD' undef (rels rs) (0 + (↑k : Int).toNat * 6 + 1 + 1 + 1))).toNat (bits BinOp.or IntKind.u16 (0 : Int) (intOf' (getD' undef (rels rs) (0 + (↑k : Int).toNat * 6 + 1 + 1 + 1 + 1)))).toNat)],none⟩),(93,⟨true,none,[Value.int .u32 (intOf' (getD' undef (rels rs) (0 + (↑k : Int).toNat * 6))),.bool (boolOf' (getD' undef (rels rs) (0 + (↑k : Int).toNat * 6 + 1))),.int .u32 (intOf' (getD' undef (rels rs) (0 + (↑k : Int).toNat * 6 + 1 + 1))),.int .u32 (intOf' (getD' undef (rels rs) (0 + (↑k : Int).toNat * 6 + 1 + 1 + 1))),.int .u16 (intOf' (getD' undef (rels rs) (0 + (↑k : Int).toNat * 6 + 1 + 1 + 1 + 1))),.int .u16 (intOf' (getD' undef (rels rs) (0 + (↑k : Int).toNat * 6 + 1 + 1 + 1 + 1 + 1)))],none⟩),(70,⟨true,none,[Value.slice (some ⟨104,0,none⟩) (l.length + 1) 9223372036854775912],none⟩),(69,⟨false,none,[Value.int .i64 (↑p),.int .i64 (↑s),.int .i64 (↑t),.slice (some ⟨64,0,none⟩) nc 9223372036854775872,.string ⟨⟨d⟩⟩,.slice (some ⟨65,0,none⟩) rs.length 9223372036854775873,.slice (some ⟨66,0,none⟩) ns 9223372036854775874,.int .u32 0,.int .u32 (↑c),.int .u32 (↑da),.int .u32 (↑ds),.int .u32 (↑sa),.int .u32 (↑ss),.int .u32 (↑ha),.int .u32 (↑hs)],none⟩),(65,⟨false,some (0,0),rels rs,none⟩)],lo:=[(104,l.length + 1),(92,l.length)],esc:=0,T:=[],k:=2,O:=bif (lenT (cpL l)).beq (l.length * 8) then bif ((l.length + 1) * 24).ble 1099511627776 && (l.length + 1).blt 4611686018427387904 then ((bif hasN (0 + (↑k : Int).toNat * 6 + 6) (rels rs) && isLikeL [Value.int .u32 0,.bool false,.int .u32 0,.int .u32 0,.int .u16 0,.int .u16 0] (rels rs) (0 + (↑k : Int).toNat * 6) then bif decide ((0 : Int) ≤ (↑k : Int)) && decide ((↑k : Int) < (↑rs.length : Int)) then True ∧ decide ((↑k : Int) < (↑rs.length : Int)) = true else False else False) ∧ boolOf' (getD' undef (rels rs) (0 + (↑k : Int).toNat * 6 + 1)) = true) ∧ ((0 : Int) ≤ IntKind.u32.wrap ((0 : Int) + intOf' (getD' undef (rels rs) (0 + (↑k : Int).toNat * 6 + 1 + 1))) ∧ IntKind.u32.wrap ((0 : Int) + intOf' (getD' undef (rels rs) (0 + (↑k : Int).toNat * 6 + 1 + 1))) < (4294967296 : Int) ∧ (0 : Int) ≤ intOf' (getD' undef (rels rs) (0 + (↑k : Int).toNat * 6 + 1 + 1 + 1)) ∧ intOf' (getD' undef (rels rs) (0 + (↑k : Int).toNat * 6 + 1 + 1 + 1)) < (4294967296 : Int) ∧ (0 : Int) ≤ bits BinOp.or IntKind.u16 (0 : Int) (intOf' (getD' undef (rels rs) (0 + (↑k : Int).toNat * 6 + 1 + 1 + 1 + 1)))) ∧ (rr (Value.agg ⟨[.int .u32 (IntKind.u32.wrap ((0 : Int) + intOf' (getD' undef (rels rs) (0 + (↑k : Int).toNat * 6 + 1 + 1)))),.int .u32 (intOf' (getD' undef (rels rs) (0 + (↑k : Int).toNat * 6 + 1 + 1 + 1)))]⟩) ∧ rr (Value.int .u16 (bits BinOp.or IntKind.u16 (0 : Int) (intOf' (getD' undef (rels rs) (0 + (↑k : Int).toNat * 6 + 1 + 1 + 1 + 1))))) ∧ True) ∧ True ∧ True else False else False : St } : Fr }):=by kernel_rfl
theorem btr_e (p : Nat) (s : Nat) (t : Nat) (nc : Nat) (ns : Nat) (d : List UInt8) (rs : List Rl) (c : Nat) (da : Nat) (ds : Nat) (sa : Nat) (ss : Nat) (ha : Nat) (hs : Nat) (l : List Cp) (k : Nat) : evC Try.prog (evF Try.prog noBase noLoop 100 20) (noLoop 8) 70 100 (loopOf Try.prog 8 1) (Sf.frT 70 (btrI p s t nc ns d rs c da ds sa ss ha hs l k) [(0,false)]) = some (Exit.exit 2,{ e:=[[unk,.pointer (some ⟨67,0,none⟩),.slice none 0 0,.int .i64 0,.pointer (some ⟨68,0,none⟩),.int .i64 0,.pointer (some ⟨69,0,none⟩),.pointer (some ⟨70,0,none⟩),.func (Fn.func 24) { toList:=[] } { toList:=[Value.pointer (some ⟨70,0,none⟩)] },unk,unk,unk,unk,unk,unk,unk],[unk,unk,unk,unk,unk,unk,unk,unk,unk,unk,unk,unk,unk,unk,unk,unk],[unk,unk,unk,unk,unk,unk,unk,unk,unk,unk,unk,unk,unk,unk,unk,unk],[unk,unk,unk,unk,unk,unk,unk,unk,unk,.slice (some ⟨65,0,none⟩) rs.length 9223372036854775873,.int .i64 (↑rs.length),.int .i64 (↑k),.bool (decide ((↑k : Int) < (↑rs.length : Int))),unk,unk,unk],[unk,unk,unk,unk,unk,unk,unk,unk,unk,unk,unk,unk,unk,unk,unk,unk]],s:={ n:=93,h:=[(70,⟨true,none,[Value.slice (some ⟨92,0,none⟩) l.length 9223372036854775900],none⟩),(92,⟨true,some (92,8),cpL l,none⟩),(69,⟨false,none,[Value.int .i64 (↑p),.int .i64 (↑s),.int .i64 (↑t),.slice (some ⟨64,0,none⟩) nc 9223372036854775872,.string ⟨⟨d⟩⟩,.slice (some ⟨65,0,none⟩) rs.length 9223372036854775873,.slice (some ⟨66,0,none⟩) ns 9223372036854775874,.int .u32 0,.int .u32 (↑c),.int .u32 (↑da),.int .u32 (↑ds),.int .u32 (↑sa),.int .u32 (↑ss),.int .u32 (↑ha),.int .u32 (↑hs)],none⟩),(65,⟨false,some (0,0),rels rs,none⟩)],lo:=[(92,l.length)],esc:=0,T:=[],k:=1,O:=True ∧ decide ((↑k : Int) < (↑rs.length : Int)) = false : St } : Fr }):=by kernel_rfl
end Go.Proofs.Ytliidiceljdgmaa
namespace Go.Proofs.Ytliidiceljdgmaa
open Go.RowKit
open Sy
set_option maxRecDepth 100000
theorem or0_16 (y : Nat) (h : y < 65536) : bits .or .u16 (0 : Int) (y : Int) = (y : Int):=by
 show IntKind.u16.wrap ((BitVec.ofInt 16 (0 : Int) ||| BitVec.ofInt 16 (y : Int)).toNat : Int) = _
 rw [BitVec.toNat_or,BitVec.ofInt_natCast,BitVec.toNat_ofNat,Nat.mod_eq_of_lt (by omega),show (BitVec.ofInt 16 (0 : Int)).toNat = 0 from rfl,Nat.zero_or,IntKind.wrap_u16]
 omega
def stL (sa s : Nat) : Nat → List Cp
 | 0 => []
 | k + 1 => stL sa s k ++ [mkCp (sa + k * s) s 27 0]
def rlCp (da : Nat) (x : Rl) : Cp:=mkCp (bif x.code then x.off else (da + x.off) % 4294967296) x.size x.perms x.typ
def rlL (da : Nat) (rs : List Rl) : Nat → List Cp
 | 0 => []
 | k + 1 => rlL da rs k ++ [rlCp da (rl0 rs k)]
theorem stL_len (sa s : Nat) : ∀ k,(stL sa s k).length = k
 | 0 => rfl
 | k + 1 => by unfold stL; rw [List.length_append,stL_len sa s k]; rfl
theorem rlL_len (da : Nat) (rs : List Rl) : ∀ k,(rlL da rs k).length = k
 | 0 => rfl
 | k + 1 => by unfold rlL; rw [List.length_append,rlL_len da rs k]; rfl
def btsF (l : List Cp) : Sf:=⟨86,btE,[(70,adB 85 l.length),(85,adO 85 l)],[(85,l.length)]⟩
def btrF (l : List Cp) : Sf:=⟨94,btE,[(70,adB 93 l.length),(93,adO 93 l)],[(93,l.length)]⟩
theorem btE_ok {q : Nat → Bool} (h : ∀ l,l < 71 → q l = true) : ∀ x ∈ btE,okV q 3 x.2 = true:=fun x hx => by
 have h7:=h 67 (by omega)
 have h8:=h 68 (by omega)
 have h9:=h 69 (by omega)
 have h0:=h 70 (by omega)
 simp only [rr, tt, btE,List.mem_cons,List.not_mem_nil,or_false] at hx
 rcases hx with rfl | rfl | rfl | rfl | rfl | rfl | rfl | rfl <;> simp [okV,bndA,h7,h8,h9,h0,flat0,big,btG,okFn]
theorem plB_ok {q : Nat → Bool} (h4 : q 64 = true) (h6 : q 66 = true) (p s t nc ns : Nat) (d : List UInt8) {a2 : Option Addr} {n2 c2 : Nat} (ha : okV q 3 (.slice a2 n2 c2) = true) (c da ds sa ss ha' hs : Nat) : ∀ v ∈ plB p s t nc ns d a2 n2 c2 c da ds sa ss ha' hs,okV q 3 v = true:=fun v hv => by
 simp only [rr, tt, plB,List.mem_cons,List.not_mem_nil,or_false] at hv
 rcases hv with rfl | rfl | rfl | rfl | rfl | rfl | rfl | rfl | rfl | rfl | rfl | rfl | rfl | rfl | rfl <;> first | exact ha | simp [okV,bndA,h4,h6,flat0,big]
theorem bts_wf (p s t nc ns : Nat) (d : List UInt8) {a2 : Option Addr} {n2 c2 : Nat} (hv : okV (fun l => Nat.blt l 85) 3 (.slice a2 n2 c2) = true) (c da ds sa ss ha hs : Nat) (l : List Cp) (k : Nat) : (btsI p s t nc ns d a2 n2 c2 c da ds sa ss ha hs l k).Wf :=
 ⟨by show 64 ≤ 85; omega,Sf.Ok.mk' 3 ⟨⟨rfl,rfl,adB_bnd _ _ rfl⟩,⟨rfl,rfl,flat_bnd (cpL_flat l)⟩,⟨rfl,rfl,fun v h => okV_bnd 3 v (plB_ok rfl rfl p s t nc ns d hv c da ds sa ss ha hs v h)⟩,trivial⟩ rfl (fun x hx => by
  rw [show (btsI p s t nc ns d a2 n2 c2 c da ds sa ss ha hs l k).e = btE ++ [(39,.int .i64 (ns : Nat)),(40,.int .i64 (k : Nat))] from rfl,List.mem_append] at hx
  rcases hx with hx | hx
  ·exact btE_ok (fun l hl => blt_yes (show l < 85 by omega)) x hx
  ·simp only [rr, tt, List.mem_cons,List.not_mem_nil,or_false] at hx
   rcases hx with rfl | rfl <;> rfl)⟩
theorem btr_wf (p s t nc ns : Nat) (d : List UInt8) (rs : List Rl) (c da ds sa ss ha hs : Nat) (l : List Cp) (k : Nat) : (btrI p s t nc ns d rs c da ds sa ss ha hs l k).Wf :=
 ⟨by show 64 ≤ 93; omega,Sf.Ok.mk' 3 ⟨⟨rfl,rfl,adB_bnd _ _ rfl⟩,⟨rfl,rfl,flat_bnd (cpL_flat l)⟩,⟨rfl,rfl,fun v h => okV_bnd 3 v (plB_ok rfl rfl p s t nc ns d rfl c da ds sa ss ha hs v h)⟩,⟨rfl,rfl,flat_bnd (rels_flat rs)⟩,trivial⟩ rfl (fun x hx => by
  rw [show (btrI p s t nc ns d rs c da ds sa ss ha hs l k).e = btE ++ [(57,.slice (some ⟨65,0,none⟩) rs.length (big + 65)),(58,.int .i64 (rs.length : Nat)),(59,.int .i64 (k : Nat))] from rfl,List.mem_append] at hx
  rcases hx with hx | hx
  ·exact btE_ok (fun l hl => blt_yes (show l < 93 by omega)) x hx
  ·simp only [rr, tt, List.mem_cons,List.not_mem_nil,or_false] at hx
   rcases hx with rfl | rfl | rfl <;> rfl)⟩
theorem btF_ok {m X : Nat} {l : List Cp} {q : Nat → Bool} (hX : q X = true) (h : ∀ l,l < 71 → q l = true) : Sf.Ok q ⟨m,btE,[(70,adB X l.length),(X,adO X l)],[(X,l.length)]⟩ :=
 Sf.Ok.mk' 3 ⟨⟨h 70 (by omega),rfl,adB_bnd _ _ hX⟩,⟨hX,hX,flat_bnd (cpL_flat l)⟩,trivial⟩ (by simp [hX]) (fun x hx => btE_ok h x hx)
def toσ (m g : Nat) (l : Nat) : Nat:=if l = m then g else l
theorem toσ_low {m g : Nat} (hm : 71 ≤ m) {n n' : Nat} {p : Nat → Bool} (hp : ∀ l,l < 71 → p l = true) (hn : 71 ≤ n) : ∀ l,l < 71 → keeps n n' (toσ m g) p l = true:=fun l hl => by
 unfold keeps
 rw [show toσ m g l = l from if_neg (by omega),blt_yes (by omega : l < n),hp l hl,Nat.beq_refl]
 cases Nat.blt l NG <;> rfl
theorem cp_map (l : List Cp) (σ : Nat → Nat) : (cpL l).map (rnV σ 3) = cpL l:=flat_map (cpL_flat l)
theorem cp_all (l : List Cp) (p : Nat → Bool) : (cpL l).all (okV p 3) = true:=flat_all (cpL_flat l)
theorem bts_loop (p s t nc ns : Nat) (d : List UInt8) {a2 : Option Addr} {n2 c2 : Nat} (hv : okV (fun l => Nat.blt l 85) 3 (.slice a2 n2 c2) = true) (hv' : ∀ σ : Nat → Nat,(∀ l,l < 67 → σ l = l) → rnV σ 3 (.slice a2 n2 c2) = .slice a2 n2 c2) (hw : ∀ q : Nat → Bool,(∀ l,l < 85 → q l = true) → okV q 3 (.slice a2 n2 c2) = true) (c da ds sa ss ha hs : Nat) (l : List Cp) (h1 : ns ≤ 4) (h2 : s ≤ 4096) (h3 : sa < 500000) (h4 : l.length ≤ 1000) :
  ∀ k : { k : Nat // k ≤ ns },LoopOk Try.prog 70 (loopOf Try.prog 8 0) ((btsI p s t nc ns d a2 n2 c2 c da ds sa ss ha hs (l ++ stL sa s k.1) k.1).fr 70) (.exit 0) ((btsF (l ++ stL sa s ns)).fr 70):=by
 refine loop_okC (L:=100) (noLoop_any _ _ 8) (fun _ h => h) (X:={ k : Nat // k ≤ ns }) (fun k => btsI p s t nc ns d a2 n2 c2 c da ds sa ss ha hs (l ++ stL sa s k.1) k.1) (fun _ => btsF (l ++ stL sa s ns)) (fun _ => .exit 0) (fun k => ns - k.1) (fun k => bts_wf _ _ _ _ _ _ hv _ _ _ _ _ _ _ _ _) ?_
 rintro ⟨k,hk⟩
 have hl : (l ++ stL sa s k).length = l.length + k:=by rw [List.length_append,stL_len]
 by_cases hlt : k < ns
 ·have e1 : IntKind.u32.wrap (k : Int) = (k : Int):=w32A k (by omega)
  have e2 : IntKind.u32.wrap (s : Int) = (s : Int):=w32A s (by omega)
  have hks : k * s ≤ 4 * 4096:=Nat.mul_le_mul (by omega) h2
  have e3 : IntKind.u32.wrap ((k : Int) * (s : Int)) = ((k * s : Nat) : Int):=by rw [show (k : Int) * (s : Int) = ((k * s : Nat) : Int) from (Int.natCast_mul k s).symm,w32A _ (by omega)]
  have e4 : IntKind.u32.wrap ((sa : Int) + ((k * s : Nat) : Int)) = ((sa + k * s : Nat) : Int):=by rw [show (sa : Int) + ((k * s : Nat) : Int) = ((sa + k * s : Nat) : Int) by omega,w32A _ (by omega)]
  have e5 : IntKind.i64.wrap ((k : Int) + (1 : Int)) = ((k + 1 : Nat) : Int):=cast_succ_i64 k (by omega)
  have e6 : cpL (l ++ stL sa s k) ++ [Value.int IntKind.u32 ((mA (sa + k * s) s 27 : Nat) : Int),Value.int IntKind.u8 ((mE (sa + k * s) s 27 : Nat) : Int),Value.int IntKind.u16 ((mB (sa + k * s) s 27 : Nat) : Int),Value.int IntKind.u16 ((mT (sa + k * s) s 27 : Nat) : Int),Value.int IntKind.u16 ((mP (sa + k * s) s 27 : Nat) : Int),Value.int IntKind.u16 (0 : Int),Value.int IntKind.u32 (0 : Int),Value.bool (mV (sa + k * s) s 27)] = cpL (l ++ stL sa s (k + 1)):=by
   show _ = cpL (l ++ (stL sa s k ++ [mkCp (sa + k * s) s 27 0]))
   rw [← List.append_assoc]
   exact Eq.trans rfl (cpL_snoc (l ++ stL sa s k) (mkCp (sa + k * s) s 27 0)).symm
  have e7 : (l ++ stL sa s k).length + 1 = (l ++ stL sa s (k + 1)).length:=by rw [List.length_append,List.length_append,stL_len,stL_len]; omega
  have hr:=bts_n p s t nc ns d a2 n2 c2 c da ds sa ss ha hs (l ++ stL sa s k) k
  simp only [rr, tt, e1,e2,e3,e4,e5,Int.toNat_natCast,lenT_eq,cpL_len] at hr
  rw [e6] at hr
  refine ⟨_,_,.normal,_,3,fun l => Nat.blt l 85,toσ 84 95,run_ok (L:=100) ar_names (baseC_ok selMk_ok) (noLoop_ok _) 20,hr,?_,.inl ⟨rfl,⟨k + 1,by omega⟩,by show ns - (k + 1) < ns - k; omega,rfl,rfl,?_⟩⟩
  ·show cond _ _ _
   rw [Nat.beq_refl,Nat.ble_eq_true_of_le (by omega),blt_yes (by omega)]
   refine ⟨⟨trivial,decide_eq_true (by omega)⟩,⟨by omega,by omega,by omega,by omega,by omega⟩,⟨trivial,trivial,trivial⟩,trivial,trivial⟩
  ·have hp : ∀ l,l < 71 → (fun l => Nat.blt l 85) l = true:=fun l hl => blt_yes (by omega)
   refine ⟨fun l hl => if_neg (by have : NG = 64:=rfl; omega),⟨⟨rfl,List.all_eq_true.2 (adB_ok _ _ rfl),rfl,?_⟩,⟨rfl,cp_all _ _,rfl,?_⟩,⟨rfl,List.all_eq_true.2 (plB_ok rfl rfl p s t nc ns d (hw _ fun l hl => blt_yes (by omega)) c da ds sa ss ha hs),rfl,?_⟩,trivial⟩,rfl,⟨⟨rfl,Nat.le_of_eq e7.symm⟩,trivial⟩,?_,by show 85 ≤ 85; omega,fun l hl => ?_,?_,fun x hx hrw => ?_⟩
   ·exact ⟨rfl,rfl,trivial,by rw [e7]; kernel_rfl⟩
   ·exact ⟨rfl,rfl,trivial,(cp_map _ _).symm⟩
   ·refine ⟨rfl,rfl,trivial,?_⟩
    have:=hv' (toσ 84 95) (fun l hl => if_neg (by omega))
    show plB p s t nc ns d a2 n2 c2 c da ds sa ss ha hs = List.map (rnV (toσ 84 95) 3) (plB p s t nc ns d a2 n2 c2 c da ds sa ss ha hs)
    simp only [rr, tt, plB,List.map_cons,this]
    kernel_rfl
   ·exact ⟨⟨by kernel_rfl,by kernel_rfl⟩,⟨by kernel_rfl,by kernel_rfl⟩,⟨by kernel_rfl,by kernel_rfl⟩,⟨by kernel_rfl,by kernel_rfl⟩,⟨by kernel_rfl,by kernel_rfl⟩,⟨by kernel_rfl,by kernel_rfl⟩,⟨by kernel_rfl,by kernel_rfl⟩,⟨by kernel_rfl,by kernel_rfl⟩,⟨by kernel_rfl,by kernel_rfl⟩,⟨by kernel_rfl,by kernel_rfl⟩,trivial⟩
   ·exact blt_no hl
   ·exact btF_ok (by rfl) (toσ_low (by omega) hp (by show 71 ≤ 85; omega))
   ·simp only [rr, tt, btsI,List.mem_cons,List.not_mem_nil,or_false] at hx
    rcases hx with rfl | rfl | rfl
    ·cases hrw
    ·cases hrw
    ·exact .inl rfl
 ·have hkk : k = ns:=by omega
  subst hkk
  have hr:=bts_e p s t nc k d a2 n2 c2 c da ds sa ss ha hs (l ++ stL sa s k) k
  refine ⟨_,_,.exit 0,_,3,fun l => Nat.blt l 86,toσ 85 84,run_ok (L:=100) ar_names (noBase_ok _) (noLoop_ok _) 20,hr,?_,.inr ⟨by simp,rfl,?_⟩⟩
  ·exact ⟨trivial,decide_eq_false (by omega)⟩
  ·refine ⟨fun l hl => if_neg (by have : NG = 64:=rfl; omega),⟨⟨rfl,List.all_eq_true.2 (adB_ok _ _ rfl),rfl,?_⟩,⟨rfl,cp_all _ _,rfl,?_⟩,trivial⟩,rfl,⟨⟨rfl,Nat.le_refl _⟩,trivial⟩,?_,by show 85 ≤ 86; omega,fun l hl => blt_no hl,?_,fun x hx hrw => ?_⟩
   ·exact ⟨rfl,rfl,trivial,by kernel_rfl⟩
   ·exact ⟨rfl,rfl,trivial,(cp_map _ _).symm⟩
   ·exact ⟨⟨by kernel_rfl,by kernel_rfl⟩,⟨by kernel_rfl,by kernel_rfl⟩,⟨by kernel_rfl,by kernel_rfl⟩,⟨by kernel_rfl,by kernel_rfl⟩,⟨by kernel_rfl,by kernel_rfl⟩,⟨by kernel_rfl,by kernel_rfl⟩,⟨by kernel_rfl,by kernel_rfl⟩,⟨by kernel_rfl,by kernel_rfl⟩,trivial⟩
   ·exact btF_ok (by rfl) (toσ_low (by omega) (fun l hl => blt_yes (by omega)) (by show 71 ≤ 85; omega))
   ·simp only [rr, tt, btsF,List.mem_cons,List.not_mem_nil,or_false] at hx
    rcases hx with rfl | rfl <;> cases hrw
def btsEnt (p s t nc ns : Nat) (d : List UInt8) {a2 : Option Addr} {n2 c2 : Nat} (hv : okV (fun l => Nat.blt l 85) 3 (.slice a2 n2 c2) = true) (hv' : ∀ σ : Nat → Nat,(∀ l,l < 67 → σ l = l) → rnV σ 3 (.slice a2 n2 c2) = .slice a2 n2 c2) (hw : ∀ q : Nat → Bool,(∀ l,l < 85 → q l = true) → okV q 3 (.slice a2 n2 c2) = true) (c da ds sa ss ha hs : Nat) (l l' : List Cp) (h1 : ns ≤ 4) (h2 : s ≤ 4096) (h3 : sa < 500000) (h4 : l.length ≤ 1000) (hl : l' = l ++ stL sa s ns) : Ent Try.prog :=
 entC Try.prog 8 0 70 (btsI p s t nc ns d a2 n2 c2 c da ds sa ss ha hs l 0) (.exit 0) (btsF l') (by kernel_rfl) (by kernel_rfl) (by
  subst hl
  have:=bts_loop p s t nc ns d hv hv' hw c da ds sa ss ha hs l h1 h2 h3 h4 ⟨0,Nat.zero_le _⟩
  simp only [rr, tt, stL,List.append_nil] at this
  exact this)
theorem btr_loop (p s t nc ns : Nat) (d : List UInt8) (rs : List Rl) (c da ds sa ss ha hs : Nat) (l : List Cp) (h1 : rs.length ≤ 256) (h2 : ∀ r ∈ rs,RlOk r) (h3 : da < 500000) (h4 : l.length ≤ 1000) :
  ∀ k : { k : Nat // k ≤ rs.length },LoopOk Try.prog 70 (loopOf Try.prog 8 1) ((btrI p s t nc ns d rs c da ds sa ss ha hs (l ++ rlL da rs k.1) k.1).fr 70) (.exit 2) ((btrF (l ++ rlL da rs rs.length)).fr 70):=by
 refine loop_okC (L:=100) (noLoop_any _ _ 8) (fun _ h => h) (X:={ k : Nat // k ≤ rs.length }) (fun k => btrI p s t nc ns d rs c da ds sa ss ha hs (l ++ rlL da rs k.1) k.1) (fun _ => btrF (l ++ rlL da rs rs.length)) (fun _ => .exit 2) (fun k => rs.length - k.1) (fun k => btr_wf _ _ _ _ _ _ _ _ _ _ _ _ _ _ _ _) ?_
 rintro ⟨k,hk⟩
 have hl : (l ++ rlL da rs k).length = l.length + k:=by rw [List.length_append,rlL_len]
 by_cases hlt : k < rs.length
 ·have hx : RlOk (rl0 rs k):=by
   unfold rl0
   rw [List.getD_eq_getElem?_getD,List.getElem?_eq_getElem hlt]
   exact h2 _ (List.getElem_mem hlt)
  have b1:=hx.off; have b2:=hx.size; have b3:=hx.perms
  have g0:=rels_0 hlt
  have g1:=rels_1 hlt
  have g2:=rels_2 hlt
  have g3:=rels_3 hlt
  have g4:=rels_4 hlt
  have g5:=rels_5 hlt
  have e5 : IntKind.i64.wrap ((k : Int) + (1 : Int)) = ((k + 1 : Nat) : Int):=cast_succ_i64 k (by omega)
  have e6:=or0_16 (rl0 rs k).perms b3
  have e7 : (l ++ rlL da rs k).length + 1 = (l ++ rlL da rs (k + 1)).length:=by rw [List.length_append,List.length_append,rlL_len,rlL_len]; omega
  have e8 : ∀ a : Nat,(bif (rl0 rs k).code then (rl0 rs k).off else (da + (rl0 rs k).off) % 4294967296) = a → cpL (l ++ rlL da rs k) ++ [Value.int IntKind.u32 ((mA a (rl0 rs k).size (rl0 rs k).perms : Nat) : Int),Value.int IntKind.u8 ((mE a (rl0 rs k).size (rl0 rs k).perms : Nat) : Int),Value.int IntKind.u16 ((mB a (rl0 rs k).size (rl0 rs k).perms : Nat) : Int),Value.int IntKind.u16 ((mT a (rl0 rs k).size (rl0 rs k).perms : Nat) : Int),Value.int IntKind.u16 ((mP a (rl0 rs k).size (rl0 rs k).perms : Nat) : Int),Value.int IntKind.u16 (((rl0 rs k).typ : Nat) : Int),Value.int IntKind.u32 (0 : Int),Value.bool (mV a (rl0 rs k).size (rl0 rs k).perms)] = cpL (l ++ rlL da rs (k + 1)):=fun a ha => by
   show _ = cpL (l ++ (rlL da rs k ++ [rlCp da (rl0 rs k)]))
   rw [← List.append_assoc]
   unfold rlCp
   rw [ha]
   exact Eq.trans rfl (cpL_snoc (l ++ rlL da rs k) (mkCp a (rl0 rs k).size (rl0 rs k).perms (rl0 rs k).typ)).symm
  have f1:=rels_like hlt 0 0 0 0 0 false
  have f2 : hasN (k * 6 + 6) (rels rs) = true:=by rw [rels_has]; exact decide_eq_true (by omega)
  have ho : ∀ (X : Prop) (u : Bool) (w : Int),0 ≤ w → w < 4294967296 → boolOf' (getD' undef (rels rs) (k * 6 + 1)) = u → X → (bif ((l ++ rlL da rs k).length * 8).beq ((l ++ rlL da rs k).length * 8) then bif (((l ++ rlL da rs k).length + 1) * 24).ble 1099511627776 && ((l ++ rlL da rs k).length + 1).blt 4611686018427387904 then X else False else False):=fun X u w _ _ _ hX => by
   rw [Nat.beq_refl,Nat.ble_eq_true_of_le (by omega),blt_yes (by omega)]
   exact hX
  have end_ : ∀ {g : Fr},Sf.Leads 3 (fun l => Nat.blt l 93) (toσ 92 104) (btrI p s t nc ns d rs c da ds sa ss ha hs (l ++ rlL da rs k) k) g (btrI p s t nc ns d rs c da ds sa ss ha hs (l ++ rlL da rs (k + 1)) (k + 1)) (btrF (l ++ rlL da rs rs.length)) → Sf.Leads 3 (fun l => Nat.blt l 93) (toσ 92 104) (btrI p s t nc ns d rs c da ds sa ss ha hs (l ++ rlL da rs k) k) g (btrI p s t nc ns d rs c da ds sa ss ha hs (l ++ rlL da rs (k + 1)) (k + 1)) (btrF (l ++ rlL da rs rs.length)):=fun h => h
  have hp : ∀ l,l < 71 → (fun l => Nat.blt l 93) l = true:=fun l hl => blt_yes (by omega)
  cases hcode : (rl0 rs k).code
  ·have e9 : IntKind.u32.wrap ((da : Int) + ((rl0 rs k).off : Int)) = (((da + (rl0 rs k).off) % 4294967296 : Nat) : Int):=by rw [IntKind.wrap_u32]; omega
   have hr:=btr_d p s t nc ns d rs c da ds sa ss ha hs (l ++ rlL da rs k) k
   simp only [rr, tt, Nat.zero_add,Nat.add_assoc,Nat.reduceAdd,Int.toNat_natCast,g0,g1,g2,g3,g4,g5,e5,e6,e9,lenT_eq,cpL_len] at hr
   rw [e8 _ (by rw [hcode]; rfl)] at hr
   refine ⟨_,_,.normal,_,3,fun l => Nat.blt l 93,toσ 92 104,run_ok (L:=100) ar_names (baseC_ok selMk_ok) (noLoop_ok _) 20,hr,?_,.inl ⟨rfl,⟨k + 1,by omega⟩,by show rs.length - (k + 1) < rs.length - k; omega,rfl,rfl,?_⟩⟩
   ·refine ho _ _ 0 (by omega) (by omega) rfl ?_
    rw [f1,f2]
    refine ⟨⟨?_,hcode⟩,⟨by omega,by omega,by omega,by omega,by omega⟩,⟨trivial,trivial,trivial⟩,trivial,trivial⟩
    simp [hlt]
   ·refine ⟨fun l hl => if_neg (by have : NG = 64:=rfl; omega),⟨⟨rfl,List.all_eq_true.2 (adB_ok _ _ rfl),rfl,?_⟩,⟨rfl,cp_all _ _,rfl,?_⟩,⟨rfl,List.all_eq_true.2 (plB_ok rfl rfl p s t nc ns d rfl c da ds sa ss ha hs),rfl,rfl,rfl,trivial,by kernel_rfl⟩,⟨rfl,flat_all (rels_flat rs),rfl,rfl,rfl,trivial,(flat_map (rels_flat rs)).symm⟩,trivial⟩,rfl,⟨⟨rfl,Nat.le_of_eq e7.symm⟩,trivial⟩,?_,by show 93 ≤ 93; omega,fun l hl => blt_no hl,?_,fun x hx hrw => ?_⟩
    ·exact ⟨rfl,rfl,trivial,by rw [e7]; kernel_rfl⟩
    ·exact ⟨rfl,rfl,trivial,(cp_map _ _).symm⟩
    ·exact ⟨⟨by kernel_rfl,by kernel_rfl⟩,⟨by kernel_rfl,by kernel_rfl⟩,⟨by kernel_rfl,by kernel_rfl⟩,⟨by kernel_rfl,by kernel_rfl⟩,⟨by kernel_rfl,by kernel_rfl⟩,⟨by kernel_rfl,by kernel_rfl⟩,⟨by kernel_rfl,by kernel_rfl⟩,⟨by kernel_rfl,by kernel_rfl⟩,⟨by kernel_rfl,by kernel_rfl⟩,⟨by kernel_rfl,by kernel_rfl⟩,⟨by kernel_rfl,by kernel_rfl⟩,trivial⟩
    ·exact btF_ok (by rfl) (toσ_low (by omega) hp (by show 71 ≤ 93; omega))
    ·simp only [rr, tt, btrI,List.mem_cons,List.not_mem_nil,or_false] at hx
     rcases hx with rfl | rfl | rfl | rfl
     ·cases hrw
     ·cases hrw
     ·exact .inl rfl
     ·exact .inl rfl
  ·have e9 : IntKind.u32.wrap ((0 : Int) + ((rl0 rs k).off : Int)) = (((rl0 rs k).off : Nat) : Int):=by rw [Int.zero_add,w32A _ b1]
   have hr:=btr_c p s t nc ns d rs c da ds sa ss ha hs (l ++ rlL da rs k) k
   simp only [rr, tt, Nat.zero_add,Nat.add_assoc,Nat.reduceAdd,Int.toNat_natCast,g0,g1,g2,g3,g4,g5,e5,e6,e9,lenT_eq,cpL_len] at hr
   rw [e8 _ (by rw [hcode]; rfl)] at hr
   refine ⟨_,_,.normal,_,3,fun l => Nat.blt l 93,toσ 92 104,run_ok (L:=100) ar_names (baseC_ok selMk_ok) (noLoop_ok _) 20,hr,?_,.inl ⟨rfl,⟨k + 1,by omega⟩,by show rs.length - (k + 1) < rs.length - k; omega,rfl,rfl,?_⟩⟩
   ·refine ho _ _ 0 (by omega) (by omega) rfl ?_
    rw [f1,f2]
    refine ⟨⟨?_,hcode⟩,⟨by omega,by omega,by omega,by omega,by omega⟩,⟨trivial,trivial,trivial⟩,trivial,trivial⟩
    simp [hlt]
   ·refine ⟨fun l hl => if_neg (by have : NG = 64:=rfl; omega),⟨⟨rfl,List.all_eq_true.2 (adB_ok _ _ rfl),rfl,?_⟩,⟨rfl,cp_all _ _,rfl,?_⟩,⟨rfl,List.all_eq_true.2 (plB_ok rfl rfl p s t nc ns d rfl c da ds sa ss ha hs),rfl,rfl,rfl,trivial,by kernel_rfl⟩,⟨rfl,flat_all (rels_flat rs),rfl,rfl,rfl,trivial,(flat_map (rels_flat rs)).symm⟩,trivial⟩,rfl,⟨⟨rfl,Nat.le_of_eq e7.symm⟩,trivial⟩,?_,by show 93 ≤ 93; omega,fun l hl => blt_no hl,?_,fun x hx hrw => ?_⟩
    ·exact ⟨rfl,rfl,trivial,by rw [e7]; kernel_rfl⟩
    ·exact ⟨rfl,rfl,trivial,(cp_map _ _).symm⟩
    ·exact ⟨⟨by kernel_rfl,by kernel_rfl⟩,⟨by kernel_rfl,by kernel_rfl⟩,⟨by kernel_rfl,by kernel_rfl⟩,⟨by kernel_rfl,by kernel_rfl⟩,⟨by kernel_rfl,by kernel_rfl⟩,⟨by kernel_rfl,by kernel_rfl⟩,⟨by kernel_rfl,by kernel_rfl⟩,⟨by kernel_rfl,by kernel_rfl⟩,⟨by kernel_rfl,by kernel_rfl⟩,⟨by kernel_rfl,by kernel_rfl⟩,⟨by kernel_rfl,by kernel_rfl⟩,trivial⟩
    ·exact btF_ok (by rfl) (toσ_low (by omega) hp (by show 71 ≤ 93; omega))
    ·simp only [rr, tt, btrI,List.mem_cons,List.not_mem_nil,or_false] at hx
     rcases hx with rfl | rfl | rfl | rfl
     ·cases hrw
     ·cases hrw
     ·exact .inl rfl
     ·exact .inl rfl
 ·have hkk : k = rs.length:=by omega
  subst hkk
  have hr:=btr_e p s t nc ns d rs c da ds sa ss ha hs (l ++ rlL da rs rs.length) rs.length
  refine ⟨_,_,.exit 2,_,3,fun l => Nat.blt l 94,toσ 93 92,run_ok (L:=100) ar_names (noBase_ok _) (noLoop_ok _) 20,hr,?_,.inr ⟨by simp,rfl,?_⟩⟩
  ·exact ⟨trivial,decide_eq_false (by omega)⟩
  ·refine ⟨fun l hl => if_neg (by have : NG = 64:=rfl; omega),⟨⟨rfl,List.all_eq_true.2 (adB_ok _ _ rfl),rfl,?_⟩,⟨rfl,cp_all _ _,rfl,?_⟩,trivial⟩,rfl,⟨⟨rfl,Nat.le_refl _⟩,trivial⟩,?_,by show 93 ≤ 94; omega,fun l hl => blt_no hl,?_,fun x hx hrw => ?_⟩
   ·exact ⟨rfl,rfl,trivial,by kernel_rfl⟩
   ·exact ⟨rfl,rfl,trivial,(cp_map _ _).symm⟩
   ·exact ⟨⟨by kernel_rfl,by kernel_rfl⟩,⟨by kernel_rfl,by kernel_rfl⟩,⟨by kernel_rfl,by kernel_rfl⟩,⟨by kernel_rfl,by kernel_rfl⟩,⟨by kernel_rfl,by kernel_rfl⟩,⟨by kernel_rfl,by kernel_rfl⟩,⟨by kernel_rfl,by kernel_rfl⟩,⟨by kernel_rfl,by kernel_rfl⟩,trivial⟩
   ·exact btF_ok (by rfl) (toσ_low (by omega) (fun l hl => blt_yes (by omega)) (by show 71 ≤ 93; omega))
   ·simp only [rr, tt, btrF,List.mem_cons,List.not_mem_nil,or_false] at hx
    rcases hx with rfl | rfl <;> cases hrw
def btrEnt (p s t nc ns : Nat) (d : List UInt8) (rs : List Rl) (c da ds sa ss ha hs : Nat) (l l' : List Cp) (h1 : rs.length ≤ 256) (h2 : ∀ r ∈ rs,RlOk r) (h3 : da < 500000) (h4 : l.length ≤ 1000) (hl : l' = l ++ rlL da rs rs.length) : Ent Try.prog :=
 entC Try.prog 8 1 70 (btrI p s t nc ns d rs c da ds sa ss ha hs l 0) (.exit 2) (btrF l') (by kernel_rfl) (by kernel_rfl) (by
  subst hl
  have:=btr_loop p s t nc ns d rs c da ds sa ss ha hs l h1 h2 h3 h4 ⟨0,Nat.zero_le _⟩
  simp only [rr, tt, rlL,List.append_nil] at this
  exact this)
end Go.Proofs.Ytliidiceljdgmaa
