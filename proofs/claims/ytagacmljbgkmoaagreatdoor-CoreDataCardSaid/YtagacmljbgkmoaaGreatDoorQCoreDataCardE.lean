/-
  CoreDataCard: part 5 of the proof.
-/
import Derived.Below
import Derived.Deep.CutRange
import Derived.Deep.DeepCutAuto
import Derived.Deep.LoopGhost
import Derived.Laws.EntriesVeiled
import Derived.Laws.Pointers
import Derived.ProofKit
import Derived.Recover
import Derived.Test.YtagacmljbgkmoaaGreatDoorQCoreDataCardD
import Derived.Test.YtagacmljbgkmoaaGreatDoorRows
import Derived.WalkKit
set_option linter.unusedSimpArgs false
set_option linter.unusedVariables false
set_option linter.unusedSectionVars false
namespace Go.Proofs.YtagacmljbgkmoaaGreatDoor
open Go.IntKind (u8 u16 u32 u64 i64)
open Go.RowKit
open Sy
set_option maxRecDepth 100000
def mkL (cB:Cp) (lo hi:Nat) (L:Sy.Steps):Sy.Steps:=(69,76,Con.pure [cB.val] (.tuple ⟨[.int .u32 (lo:Nat),.int .u64 (hi:Nat)]⟩),[])::L
theorem mk_1 (i:In) (fr:Nat→Cp) (cB:Cp) (lo hi:Nat):obs (evF Tryz.prog (Zz 3 (Zd (mkL cB lo hi [])) Zk) Zh 100 20 40 [Q8 fr,{ op:=(1:Int),a:=i.a,b:=i.b,c:=i.c,m:=i.m:In }.val] ⟨64,[],[],0,[(0,true)],0,True⟩)=some (Value.agg ⟨[.int .u32 (u32.wrap i.m),.int .u8 0,.int .u16 0,.int .u16 0,.int .u16 0,.int .u16 0,.int .u32 0,.bool false]⟩,((bif ZI (0+i.c.toNat*8+8) (frL fr)&&Zi [Value.int .u32 0,.int .u8 0,.int .u16 0,.int .u16 0,.int .u16 0,.int .u16 0,.int .u32 0,.bool false] (frL fr) (0+i.c.toNat*8) then bif decide ((0:Int)≤i.c)&&decide (i.c<(16:Int)) then bif ZI (0+i.b.toNat*8+8) (frL fr)&&Zi [Value.int .u32 0,.int .u8 0,.int .u16 0,.int .u16 0,.int .u16 0,.int .u16 0,.int .u32 0,.bool false] (frL fr) (0+i.b.toNat*8) then bif decide ((0:Int)≤i.b)&&decide (i.b<(16:Int)) then True else False else False else False else False)∧True∧(Value.agg ⟨[.int .u32 (Zb (Zc undef (frL fr) (0+i.b.toNat*8))),.int .u8 (Zb (Zc undef (frL fr) (0+i.b.toNat*8+1))),.int .u16 (Zb (Zc undef (frL fr) (0+i.b.toNat*8+1+1))),.int .u16 (Zb (Zc undef (frL fr) (0+i.b.toNat*8+1+1+1))),.int .u16 (Zb (Zc undef (frL fr) (0+i.b.toNat*8+1+1+1+1))),.int .u16 (Zb (Zc undef (frL fr) (0+i.b.toNat*8+1+1+1+1+1))),.int .u32 (Zb (Zc undef (frL fr) (0+i.b.toNat*8+1+1+1+1+1+1))),.bool (Zv (Zc undef (frL fr) (0+i.b.toNat*8+1+1+1+1+1+1+1)))]⟩=Value.agg ⟨[.int .u32 (↑cB.C),.int .u8 (↑cB.E),.int .u16 (↑cB.B),.int .u16 (↑cB.T),.int .u16 (↑cB.P),.int .u16 (↑cB.Y),.int .u32 (↑cB.R),.bool cB.V]⟩∧True)∧True∧True)∧tt):=by kernel_rfl
theorem mk_2 (i:In) (fr:Nat→Cp) (cB:Cp) (lo hi:Nat):obs (evF Tryz.prog (Zz 3 (Zd (mkL cB lo hi [])) Zk) Zh 100 20 40 [Q8 fr,{ op:=(2:Int),a:=i.a,b:=i.b,c:=i.c,m:=i.m:In }.val] ⟨64,[],[],0,[(0,false),(1,true)],0,True⟩)=some (Value.agg ⟨[.int .u32 (u32.wrap (u32.wrap i.m*(4096:Int))),.int .u8 0,.int .u16 0,.int .u16 0,.int .u16 0,.int .u16 0,.int .u32 0,.bool false]⟩,(((bif ZI (0+i.c.toNat*8+8) (frL fr)&&Zi [Value.int .u32 0,.int .u8 0,.int .u16 0,.int .u16 0,.int .u16 0,.int .u16 0,.int .u32 0,.bool false] (frL fr) (0+i.c.toNat*8) then bif decide ((0:Int)≤i.c)&&decide (i.c<(16:Int)) then bif ZI (0+i.b.toNat*8+8) (frL fr)&&Zi [Value.int .u32 0,.int .u8 0,.int .u16 0,.int .u16 0,.int .u16 0,.int .u16 0,.int .u32 0,.bool false] (frL fr) (0+i.b.toNat*8) then bif decide ((0:Int)≤i.b)&&decide (i.b<(16:Int)) then True else False else False else False else False)∧True∧(Value.agg ⟨[.int .u32 (Zb (Zc undef (frL fr) (0+i.b.toNat*8))),.int .u8 (Zb (Zc undef (frL fr) (0+i.b.toNat*8+1))),.int .u16 (Zb (Zc undef (frL fr) (0+i.b.toNat*8+1+1))),.int .u16 (Zb (Zc undef (frL fr) (0+i.b.toNat*8+1+1+1))),.int .u16 (Zb (Zc undef (frL fr) (0+i.b.toNat*8+1+1+1+1))),.int .u16 (Zb (Zc undef (frL fr) (0+i.b.toNat*8+1+1+1+1+1))),.int .u32 (Zb (Zc undef (frL fr) (0+i.b.toNat*8+1+1+1+1+1+1))),.bool (Zv (Zc undef (frL fr) (0+i.b.toNat*8+1+1+1+1+1+1+1)))]⟩=Value.agg ⟨[.int .u32 (↑cB.C),.int .u8 (↑cB.E),.int .u16 (↑cB.B),.int .u16 (↑cB.T),.int .u16 (↑cB.P),.int .u16 (↑cB.Y),.int .u32 (↑cB.R),.bool cB.V]⟩∧True)∧True∧True)∧rr false)∧tt):=by kernel_rfl
theorem ZmQ (i:In) (fr:Nat→Cp) (cB:Cp) (lo hi:Nat):obs (evF Tryz.prog (Zz 3 (Zd (mkL cB lo hi [])) Zk) Zh 100 20 40 [Q8 fr,{ op:=(16:Int),a:=i.a,b:=i.b,c:=i.c,m:=i.m:In }.val] ⟨64,[],[],0,[(0,false),(1,false),(2,true)],0,True⟩)=some (Value.agg ⟨[.int .u32 (u32.wrap (Zb (Zc undef (frL fr) (0+i.b.toNat*8))+u32.wrap i.m)),.int .u8 0,.int .u16 0,.int .u16 0,.int .u16 0,.int .u16 0,.int .u32 0,.bool false]⟩,((((bif ZI (0+i.c.toNat*8+8) (frL fr)&&Zi [Value.int .u32 0,.int .u8 0,.int .u16 0,.int .u16 0,.int .u16 0,.int .u16 0,.int .u32 0,.bool false] (frL fr) (0+i.c.toNat*8) then bif decide ((0:Int)≤i.c)&&decide (i.c<(16:Int)) then bif ZI (0+i.b.toNat*8+8) (frL fr)&&Zi [Value.int .u32 0,.int .u8 0,.int .u16 0,.int .u16 0,.int .u16 0,.int .u16 0,.int .u32 0,.bool false] (frL fr) (0+i.b.toNat*8) then bif decide ((0:Int)≤i.b)&&decide (i.b<(16:Int)) then True else False else False else False else False)∧True∧(Value.agg ⟨[.int .u32 (Zb (Zc undef (frL fr) (0+i.b.toNat*8))),.int .u8 (Zb (Zc undef (frL fr) (0+i.b.toNat*8+1))),.int .u16 (Zb (Zc undef (frL fr) (0+i.b.toNat*8+1+1))),.int .u16 (Zb (Zc undef (frL fr) (0+i.b.toNat*8+1+1+1))),.int .u16 (Zb (Zc undef (frL fr) (0+i.b.toNat*8+1+1+1+1))),.int .u16 (Zb (Zc undef (frL fr) (0+i.b.toNat*8+1+1+1+1+1))),.int .u32 (Zb (Zc undef (frL fr) (0+i.b.toNat*8+1+1+1+1+1+1))),.bool (Zv (Zc undef (frL fr) (0+i.b.toNat*8+1+1+1+1+1+1+1)))]⟩=Value.agg ⟨[.int .u32 (↑cB.C),.int .u8 (↑cB.E),.int .u16 (↑cB.B),.int .u16 (↑cB.T),.int .u16 (↑cB.P),.int .u16 (↑cB.Y),.int .u32 (↑cB.R),.bool cB.V]⟩∧True)∧True∧True)∧rr false)∧rr false)∧tt):=by kernel_rfl
theorem ZmR (i:In) (fr:Nat→Cp) (cB:Cp) (lo hi:Nat) (r:Cp):obs (evF Tryz.prog (Zz 3 (Zd (mkL cB lo hi [(69,77,Con.pure [cB.val] r.val,[])])) Zk) Zh 100 20 40 [Q8 fr,{ op:=(41:Int),a:=i.a,b:=i.b,c:=i.c,m:=i.m:In }.val] ⟨64,[],[],0,(tb 4 8),0,True⟩)=some (Value.agg ⟨[.int .u32 (↑r.C),.int .u8 (↑r.E),.int .u16 (↑r.B),.int .u16 (↑r.T),.int .u16 (↑r.P),.int .u16 (↑r.Y),.int .u32 (↑r.R),.bool r.V]⟩,((((((bif ZI (0+i.c.toNat*8+8) (frL fr)&&Zi [Value.int .u32 0,.int .u8 0,.int .u16 0,.int .u16 0,.int .u16 0,.int .u16 0,.int .u32 0,.bool false] (frL fr) (0+i.c.toNat*8) then bif decide ((0:Int)≤i.c)&&decide (i.c<(16:Int)) then bif ZI (0+i.b.toNat*8+8) (frL fr)&&Zi [Value.int .u32 0,.int .u8 0,.int .u16 0,.int .u16 0,.int .u16 0,.int .u16 0,.int .u32 0,.bool false] (frL fr) (0+i.b.toNat*8) then bif decide ((0:Int)≤i.b)&&decide (i.b<(16:Int)) then True else False else False else False else False)∧True∧(Value.agg ⟨[.int .u32 (Zb (Zc undef (frL fr) (0+i.b.toNat*8))),.int .u8 (Zb (Zc undef (frL fr) (0+i.b.toNat*8+1))),.int .u16 (Zb (Zc undef (frL fr) (0+i.b.toNat*8+1+1))),.int .u16 (Zb (Zc undef (frL fr) (0+i.b.toNat*8+1+1+1))),.int .u16 (Zb (Zc undef (frL fr) (0+i.b.toNat*8+1+1+1+1))),.int .u16 (Zb (Zc undef (frL fr) (0+i.b.toNat*8+1+1+1+1+1))),.int .u32 (Zb (Zc undef (frL fr) (0+i.b.toNat*8+1+1+1+1+1+1))),.bool (Zv (Zc undef (frL fr) (0+i.b.toNat*8+1+1+1+1+1+1+1)))]⟩=Value.agg ⟨[.int .u32 (↑cB.C),.int .u8 (↑cB.E),.int .u16 (↑cB.B),.int .u16 (↑cB.T),.int .u16 (↑cB.P),.int .u16 (↑cB.Y),.int .u32 (↑cB.R),.bool cB.V]⟩∧True)∧True∧True)∧rr false)∧rr false)∧rr false)∧tt)∧True∧(Value.agg ⟨[.int .u32 (Zb (Zc undef (frL fr) (0+i.b.toNat*8))),.int .u8 (Zb (Zc undef (frL fr) (0+i.b.toNat*8+1))),.int .u16 (Zb (Zc undef (frL fr) (0+i.b.toNat*8+1+1))),.int .u16 (Zb (Zc undef (frL fr) (0+i.b.toNat*8+1+1+1))),.int .u16 (Zb (Zc undef (frL fr) (0+i.b.toNat*8+1+1+1+1))),.int .u16 (Zb (Zc undef (frL fr) (0+i.b.toNat*8+1+1+1+1+1))),.int .u32 (Zb (Zc undef (frL fr) (0+i.b.toNat*8+1+1+1+1+1+1))),.bool (Zv (Zc undef (frL fr) (0+i.b.toNat*8+1+1+1+1+1+1+1)))]⟩=Value.agg ⟨[.int .u32 (↑cB.C),.int .u8 (↑cB.E),.int .u16 (↑cB.B),.int .u16 (↑cB.T),.int .u16 (↑cB.P),.int .u16 (↑cB.Y),.int .u32 (↑cB.R),.bool cB.V]⟩∧True)∧True∧True):=by kernel_rfl
theorem ZmS (i:In) (fr:Nat→Cp) (cB:Cp) (lo hi x:Nat) (r:Cp):obs (evF Tryz.prog (Zz 3 (Zd (mkL cB lo hi [(69,71,Con.pure [cB.val,.int .u32 (↑x)] r.val,[])])) Zk) Zh 100 20 40 [Q8 fr,{ op:=(32:Int),a:=i.a,b:=i.b,c:=i.c,m:=i.m:In }.val] ⟨64,[],[],0,(tb 5 16),0,True⟩)=some (Value.agg ⟨[.int .u32 (↑r.C),.int .u8 (↑r.E),.int .u16 (↑r.B),.int .u16 (↑r.T),.int .u16 (↑r.P),.int .u16 (↑r.Y),.int .u32 (↑r.R),.bool r.V]⟩,(((((((bif ZI (0+i.c.toNat*8+8) (frL fr)&&Zi [Value.int .u32 0,.int .u8 0,.int .u16 0,.int .u16 0,.int .u16 0,.int .u16 0,.int .u32 0,.bool false] (frL fr) (0+i.c.toNat*8) then bif decide ((0:Int)≤i.c)&&decide (i.c<(16:Int)) then bif ZI (0+i.b.toNat*8+8) (frL fr)&&Zi [Value.int .u32 0,.int .u8 0,.int .u16 0,.int .u16 0,.int .u16 0,.int .u16 0,.int .u32 0,.bool false] (frL fr) (0+i.b.toNat*8) then bif decide ((0:Int)≤i.b)&&decide (i.b<(16:Int)) then True else False else False else False else False)∧True∧(Value.agg ⟨[.int .u32 (Zb (Zc undef (frL fr) (0+i.b.toNat*8))),.int .u8 (Zb (Zc undef (frL fr) (0+i.b.toNat*8+1))),.int .u16 (Zb (Zc undef (frL fr) (0+i.b.toNat*8+1+1))),.int .u16 (Zb (Zc undef (frL fr) (0+i.b.toNat*8+1+1+1))),.int .u16 (Zb (Zc undef (frL fr) (0+i.b.toNat*8+1+1+1+1))),.int .u16 (Zb (Zc undef (frL fr) (0+i.b.toNat*8+1+1+1+1+1))),.int .u32 (Zb (Zc undef (frL fr) (0+i.b.toNat*8+1+1+1+1+1+1))),.bool (Zv (Zc undef (frL fr) (0+i.b.toNat*8+1+1+1+1+1+1+1)))]⟩=Value.agg ⟨[.int .u32 (↑cB.C),.int .u8 (↑cB.E),.int .u16 (↑cB.B),.int .u16 (↑cB.T),.int .u16 (↑cB.P),.int .u16 (↑cB.Y),.int .u32 (↑cB.R),.bool cB.V]⟩∧True)∧True∧True)∧rr false)∧rr false)∧rr false)∧rr false)∧tt)∧True∧(Value.agg ⟨[.int .u32 (Zb (Zc undef (frL fr) (0+i.b.toNat*8))),.int .u8 (Zb (Zc undef (frL fr) (0+i.b.toNat*8+1))),.int .u16 (Zb (Zc undef (frL fr) (0+i.b.toNat*8+1+1))),.int .u16 (Zb (Zc undef (frL fr) (0+i.b.toNat*8+1+1+1))),.int .u16 (Zb (Zc undef (frL fr) (0+i.b.toNat*8+1+1+1+1))),.int .u16 (Zb (Zc undef (frL fr) (0+i.b.toNat*8+1+1+1+1+1))),.int .u32 (Zb (Zc undef (frL fr) (0+i.b.toNat*8+1+1+1+1+1+1))),.bool (Zv (Zc undef (frL fr) (0+i.b.toNat*8+1+1+1+1+1+1+1)))]⟩=Value.agg ⟨[.int .u32 (↑cB.C),.int .u8 (↑cB.E),.int .u16 (↑cB.B),.int .u16 (↑cB.T),.int .u16 (↑cB.P),.int .u16 (↑cB.Y),.int .u32 (↑cB.R),.bool cB.V]⟩∧Value.int .u32 (u32.wrap (Zb (Zc undef (frL fr) (0+i.b.toNat*8))+Zb (Zc undef (frL fr) (0+i.c.toNat*8))))=Value.int .u32 (↑x)∧True)∧True∧True):=by kernel_rfl
theorem ZmT (i:In) (fr:Nat→Cp) (cB:Cp) (lo hi x:Nat) (r:Cp):obs (evF Tryz.prog (Zz 3 (Zd (mkL cB lo hi [(69,71,Con.pure [cB.val,.int .u32 (↑x)] r.val,[])])) Zk) Zh 100 20 40 [Q8 fr,{ op:=(33:Int),a:=i.a,b:=i.b,c:=i.c,m:=i.m:In }.val] ⟨64,[],[],0,(tb 6 32),0,True⟩)=some (Value.agg ⟨[.int .u32 (↑r.C),.int .u8 (↑r.E),.int .u16 (↑r.B),.int .u16 (↑r.T),.int .u16 (↑r.P),.int .u16 (↑r.Y),.int .u32 (↑r.R),.bool r.V]⟩,((((((((bif ZI (0+i.c.toNat*8+8) (frL fr)&&Zi [Value.int .u32 0,.int .u8 0,.int .u16 0,.int .u16 0,.int .u16 0,.int .u16 0,.int .u32 0,.bool false] (frL fr) (0+i.c.toNat*8) then bif decide ((0:Int)≤i.c)&&decide (i.c<(16:Int)) then bif ZI (0+i.b.toNat*8+8) (frL fr)&&Zi [Value.int .u32 0,.int .u8 0,.int .u16 0,.int .u16 0,.int .u16 0,.int .u16 0,.int .u32 0,.bool false] (frL fr) (0+i.b.toNat*8) then bif decide ((0:Int)≤i.b)&&decide (i.b<(16:Int)) then True else False else False else False else False)∧True∧(Value.agg ⟨[.int .u32 (Zb (Zc undef (frL fr) (0+i.b.toNat*8))),.int .u8 (Zb (Zc undef (frL fr) (0+i.b.toNat*8+1))),.int .u16 (Zb (Zc undef (frL fr) (0+i.b.toNat*8+1+1))),.int .u16 (Zb (Zc undef (frL fr) (0+i.b.toNat*8+1+1+1))),.int .u16 (Zb (Zc undef (frL fr) (0+i.b.toNat*8+1+1+1+1))),.int .u16 (Zb (Zc undef (frL fr) (0+i.b.toNat*8+1+1+1+1+1))),.int .u32 (Zb (Zc undef (frL fr) (0+i.b.toNat*8+1+1+1+1+1+1))),.bool (Zv (Zc undef (frL fr) (0+i.b.toNat*8+1+1+1+1+1+1+1)))]⟩=Value.agg ⟨[.int .u32 (↑cB.C),.int .u8 (↑cB.E),.int .u16 (↑cB.B),.int .u16 (↑cB.T),.int .u16 (↑cB.P),.int .u16 (↑cB.Y),.int .u32 (↑cB.R),.bool cB.V]⟩∧True)∧True∧True)∧rr false)∧rr false)∧rr false)∧rr false)∧rr false)∧tt)∧True∧(Value.agg ⟨[.int .u32 (Zb (Zc undef (frL fr) (0+i.b.toNat*8))),.int .u8 (Zb (Zc undef (frL fr) (0+i.b.toNat*8+1))),.int .u16 (Zb (Zc undef (frL fr) (0+i.b.toNat*8+1+1))),.int .u16 (Zb (Zc undef (frL fr) (0+i.b.toNat*8+1+1+1))),.int .u16 (Zb (Zc undef (frL fr) (0+i.b.toNat*8+1+1+1+1))),.int .u16 (Zb (Zc undef (frL fr) (0+i.b.toNat*8+1+1+1+1+1))),.int .u32 (Zb (Zc undef (frL fr) (0+i.b.toNat*8+1+1+1+1+1+1))),.bool (Zv (Zc undef (frL fr) (0+i.b.toNat*8+1+1+1+1+1+1+1)))]⟩=Value.agg ⟨[.int .u32 (↑cB.C),.int .u8 (↑cB.E),.int .u16 (↑cB.B),.int .u16 (↑cB.T),.int .u16 (↑cB.P),.int .u16 (↑cB.Y),.int .u32 (↑cB.R),.bool cB.V]⟩∧Value.int .u32 (u32.wrap (Zb (Zc undef (frL fr) (0+i.b.toNat*8))+u32.wrap i.m))=Value.int .u32 (↑x)∧True)∧True∧True):=by kernel_rfl
theorem ZmU (i:In) (fr:Nat→Cp) (cB:Cp) (lo hi x:Nat) (r:Cp):obs (evF Tryz.prog (Zz 3 (Zd (mkL cB lo hi [(69,71,Con.pure [cB.val,.int .u32 (↑x)] r.val,[])])) Zk) Zh 100 20 40 [Q8 fr,{ op:=(34:Int),a:=i.a,b:=i.b,c:=i.c,m:=i.m:In }.val] ⟨64,[],[],0,(tb 7 64),0,True⟩)=some (Value.agg ⟨[.int .u32 (↑r.C),.int .u8 (↑r.E),.int .u16 (↑r.B),.int .u16 (↑r.T),.int .u16 (↑r.P),.int .u16 (↑r.Y),.int .u32 (↑r.R),.bool r.V]⟩,(((((((((bif ZI (0+i.c.toNat*8+8) (frL fr)&&Zi [Value.int .u32 0,.int .u8 0,.int .u16 0,.int .u16 0,.int .u16 0,.int .u16 0,.int .u32 0,.bool false] (frL fr) (0+i.c.toNat*8) then bif decide ((0:Int)≤i.c)&&decide (i.c<(16:Int)) then bif ZI (0+i.b.toNat*8+8) (frL fr)&&Zi [Value.int .u32 0,.int .u8 0,.int .u16 0,.int .u16 0,.int .u16 0,.int .u16 0,.int .u32 0,.bool false] (frL fr) (0+i.b.toNat*8) then bif decide ((0:Int)≤i.b)&&decide (i.b<(16:Int)) then True else False else False else False else False)∧True∧(Value.agg ⟨[.int .u32 (Zb (Zc undef (frL fr) (0+i.b.toNat*8))),.int .u8 (Zb (Zc undef (frL fr) (0+i.b.toNat*8+1))),.int .u16 (Zb (Zc undef (frL fr) (0+i.b.toNat*8+1+1))),.int .u16 (Zb (Zc undef (frL fr) (0+i.b.toNat*8+1+1+1))),.int .u16 (Zb (Zc undef (frL fr) (0+i.b.toNat*8+1+1+1+1))),.int .u16 (Zb (Zc undef (frL fr) (0+i.b.toNat*8+1+1+1+1+1))),.int .u32 (Zb (Zc undef (frL fr) (0+i.b.toNat*8+1+1+1+1+1+1))),.bool (Zv (Zc undef (frL fr) (0+i.b.toNat*8+1+1+1+1+1+1+1)))]⟩=Value.agg ⟨[.int .u32 (↑cB.C),.int .u8 (↑cB.E),.int .u16 (↑cB.B),.int .u16 (↑cB.T),.int .u16 (↑cB.P),.int .u16 (↑cB.Y),.int .u32 (↑cB.R),.bool cB.V]⟩∧True)∧True∧True)∧rr false)∧rr false)∧rr false)∧rr false)∧rr false)∧rr false)∧tt)∧True∧(Value.agg ⟨[.int .u32 (Zb (Zc undef (frL fr) (0+i.b.toNat*8))),.int .u8 (Zb (Zc undef (frL fr) (0+i.b.toNat*8+1))),.int .u16 (Zb (Zc undef (frL fr) (0+i.b.toNat*8+1+1))),.int .u16 (Zb (Zc undef (frL fr) (0+i.b.toNat*8+1+1+1))),.int .u16 (Zb (Zc undef (frL fr) (0+i.b.toNat*8+1+1+1+1))),.int .u16 (Zb (Zc undef (frL fr) (0+i.b.toNat*8+1+1+1+1+1))),.int .u32 (Zb (Zc undef (frL fr) (0+i.b.toNat*8+1+1+1+1+1+1))),.bool (Zv (Zc undef (frL fr) (0+i.b.toNat*8+1+1+1+1+1+1+1)))]⟩=Value.agg ⟨[.int .u32 (↑cB.C),.int .u8 (↑cB.E),.int .u16 (↑cB.B),.int .u16 (↑cB.T),.int .u16 (↑cB.P),.int .u16 (↑cB.Y),.int .u32 (↑cB.R),.bool cB.V]⟩∧Value.int .u32 (Zb (Zc undef (frL fr) (0+i.c.toNat*8)))=Value.int .u32 (↑x)∧True)∧True∧True):=by kernel_rfl
theorem ZmV (i:In) (fr:Nat→Cp) (cB:Cp) (lo hi x:Nat) (r:Cp):obs (evF Tryz.prog (Zz 3 (Zd (mkL cB lo hi [(69,78,Con.pure [cB.val,.int .u32 (↑x)] r.val,[])])) Zk) Zh 100 20 40 [Q8 fr,{ op:=(35:Int),a:=i.a,b:=i.b,c:=i.c,m:=i.m:In }.val] ⟨64,[],[],0,(tb 8 128),0,True⟩)=some (Value.agg ⟨[.int .u32 (↑r.C),.int .u8 (↑r.E),.int .u16 (↑r.B),.int .u16 (↑r.T),.int .u16 (↑r.P),.int .u16 (↑r.Y),.int .u32 (↑r.R),.bool r.V]⟩,((((((((((bif ZI (0+i.c.toNat*8+8) (frL fr)&&Zi [Value.int .u32 0,.int .u8 0,.int .u16 0,.int .u16 0,.int .u16 0,.int .u16 0,.int .u32 0,.bool false] (frL fr) (0+i.c.toNat*8) then bif decide ((0:Int)≤i.c)&&decide (i.c<(16:Int)) then bif ZI (0+i.b.toNat*8+8) (frL fr)&&Zi [Value.int .u32 0,.int .u8 0,.int .u16 0,.int .u16 0,.int .u16 0,.int .u16 0,.int .u32 0,.bool false] (frL fr) (0+i.b.toNat*8) then bif decide ((0:Int)≤i.b)&&decide (i.b<(16:Int)) then True else False else False else False else False)∧True∧(Value.agg ⟨[.int .u32 (Zb (Zc undef (frL fr) (0+i.b.toNat*8))),.int .u8 (Zb (Zc undef (frL fr) (0+i.b.toNat*8+1))),.int .u16 (Zb (Zc undef (frL fr) (0+i.b.toNat*8+1+1))),.int .u16 (Zb (Zc undef (frL fr) (0+i.b.toNat*8+1+1+1))),.int .u16 (Zb (Zc undef (frL fr) (0+i.b.toNat*8+1+1+1+1))),.int .u16 (Zb (Zc undef (frL fr) (0+i.b.toNat*8+1+1+1+1+1))),.int .u32 (Zb (Zc undef (frL fr) (0+i.b.toNat*8+1+1+1+1+1+1))),.bool (Zv (Zc undef (frL fr) (0+i.b.toNat*8+1+1+1+1+1+1+1)))]⟩=Value.agg ⟨[.int .u32 (↑cB.C),.int .u8 (↑cB.E),.int .u16 (↑cB.B),.int .u16 (↑cB.T),.int .u16 (↑cB.P),.int .u16 (↑cB.Y),.int .u32 (↑cB.R),.bool cB.V]⟩∧True)∧True∧True)∧rr false)∧rr false)∧rr false)∧rr false)∧rr false)∧rr false)∧rr false)∧tt)∧True∧(Value.agg ⟨[.int .u32 (Zb (Zc undef (frL fr) (0+i.b.toNat*8))),.int .u8 (Zb (Zc undef (frL fr) (0+i.b.toNat*8+1))),.int .u16 (Zb (Zc undef (frL fr) (0+i.b.toNat*8+1+1))),.int .u16 (Zb (Zc undef (frL fr) (0+i.b.toNat*8+1+1+1))),.int .u16 (Zb (Zc undef (frL fr) (0+i.b.toNat*8+1+1+1+1))),.int .u16 (Zb (Zc undef (frL fr) (0+i.b.toNat*8+1+1+1+1+1))),.int .u32 (Zb (Zc undef (frL fr) (0+i.b.toNat*8+1+1+1+1+1+1))),.bool (Zv (Zc undef (frL fr) (0+i.b.toNat*8+1+1+1+1+1+1+1)))]⟩=Value.agg ⟨[.int .u32 (↑cB.C),.int .u8 (↑cB.E),.int .u16 (↑cB.B),.int .u16 (↑cB.T),.int .u16 (↑cB.P),.int .u16 (↑cB.Y),.int .u32 (↑cB.R),.bool cB.V]⟩∧Value.int .u32 (Zb (Zc undef (frL fr) (0+i.c.toNat*8)))=Value.int .u32 (↑x)∧True)∧True∧True):=by kernel_rfl
theorem ZmW (i:In) (fr:Nat→Cp) (cB:Cp) (lo hi x:Nat) (r:Cp):obs (evF Tryz.prog (Zz 3 (Zd (mkL cB lo hi [(69,79,Con.pure [cB.val,.int .u32 (↑x)] r.val,[])])) Zk) Zh 100 20 40 [Q8 fr,{ op:=(36:Int),a:=i.a,b:=i.b,c:=i.c,m:=i.m:In }.val] ⟨64,[],[],0,(tb 9 256),0,True⟩)=some (Value.agg ⟨[.int .u32 (↑r.C),.int .u8 (↑r.E),.int .u16 (↑r.B),.int .u16 (↑r.T),.int .u16 (↑r.P),.int .u16 (↑r.Y),.int .u32 (↑r.R),.bool r.V]⟩,(((((((((((bif ZI (0+i.c.toNat*8+8) (frL fr)&&Zi [Value.int .u32 0,.int .u8 0,.int .u16 0,.int .u16 0,.int .u16 0,.int .u16 0,.int .u32 0,.bool false] (frL fr) (0+i.c.toNat*8) then bif decide ((0:Int)≤i.c)&&decide (i.c<(16:Int)) then bif ZI (0+i.b.toNat*8+8) (frL fr)&&Zi [Value.int .u32 0,.int .u8 0,.int .u16 0,.int .u16 0,.int .u16 0,.int .u16 0,.int .u32 0,.bool false] (frL fr) (0+i.b.toNat*8) then bif decide ((0:Int)≤i.b)&&decide (i.b<(16:Int)) then True else False else False else False else False)∧True∧(Value.agg ⟨[.int .u32 (Zb (Zc undef (frL fr) (0+i.b.toNat*8))),.int .u8 (Zb (Zc undef (frL fr) (0+i.b.toNat*8+1))),.int .u16 (Zb (Zc undef (frL fr) (0+i.b.toNat*8+1+1))),.int .u16 (Zb (Zc undef (frL fr) (0+i.b.toNat*8+1+1+1))),.int .u16 (Zb (Zc undef (frL fr) (0+i.b.toNat*8+1+1+1+1))),.int .u16 (Zb (Zc undef (frL fr) (0+i.b.toNat*8+1+1+1+1+1))),.int .u32 (Zb (Zc undef (frL fr) (0+i.b.toNat*8+1+1+1+1+1+1))),.bool (Zv (Zc undef (frL fr) (0+i.b.toNat*8+1+1+1+1+1+1+1)))]⟩=Value.agg ⟨[.int .u32 (↑cB.C),.int .u8 (↑cB.E),.int .u16 (↑cB.B),.int .u16 (↑cB.T),.int .u16 (↑cB.P),.int .u16 (↑cB.Y),.int .u32 (↑cB.R),.bool cB.V]⟩∧True)∧True∧True)∧rr false)∧rr false)∧rr false)∧rr false)∧rr false)∧rr false)∧rr false)∧rr false)∧tt)∧True∧(Value.agg ⟨[.int .u32 (Zb (Zc undef (frL fr) (0+i.b.toNat*8))),.int .u8 (Zb (Zc undef (frL fr) (0+i.b.toNat*8+1))),.int .u16 (Zb (Zc undef (frL fr) (0+i.b.toNat*8+1+1))),.int .u16 (Zb (Zc undef (frL fr) (0+i.b.toNat*8+1+1+1))),.int .u16 (Zb (Zc undef (frL fr) (0+i.b.toNat*8+1+1+1+1))),.int .u16 (Zb (Zc undef (frL fr) (0+i.b.toNat*8+1+1+1+1+1))),.int .u32 (Zb (Zc undef (frL fr) (0+i.b.toNat*8+1+1+1+1+1+1))),.bool (Zv (Zc undef (frL fr) (0+i.b.toNat*8+1+1+1+1+1+1+1)))]⟩=Value.agg ⟨[.int .u32 (↑cB.C),.int .u8 (↑cB.E),.int .u16 (↑cB.B),.int .u16 (↑cB.T),.int .u16 (↑cB.P),.int .u16 (↑cB.Y),.int .u32 (↑cB.R),.bool cB.V]⟩∧Value.int .u32 (Zb (Zc undef (frL fr) (0+i.c.toNat*8)))=Value.int .u32 (↑x)∧True)∧True∧True):=by kernel_rfl
theorem ZmX (i:In) (fr:Nat→Cp) (cB:Cp) (lo hi x:Nat) (r:Cp):obs (evF Tryz.prog (Zz 3 (Zd (mkL cB lo hi [(69,80,Con.pure [cB.val,.int .u32 (↑x)] r.val,[])])) Zk) Zh 100 20 40 [Q8 fr,{ op:=(37:Int),a:=i.a,b:=i.b,c:=i.c,m:=i.m:In }.val] ⟨64,[],[],0,(tb 10 512),0,True⟩)=some (Value.agg ⟨[.int .u32 (↑r.C),.int .u8 (↑r.E),.int .u16 (↑r.B),.int .u16 (↑r.T),.int .u16 (↑r.P),.int .u16 (↑r.Y),.int .u32 (↑r.R),.bool r.V]⟩,((((((((((((bif ZI (0+i.c.toNat*8+8) (frL fr)&&Zi [Value.int .u32 0,.int .u8 0,.int .u16 0,.int .u16 0,.int .u16 0,.int .u16 0,.int .u32 0,.bool false] (frL fr) (0+i.c.toNat*8) then bif decide ((0:Int)≤i.c)&&decide (i.c<(16:Int)) then bif ZI (0+i.b.toNat*8+8) (frL fr)&&Zi [Value.int .u32 0,.int .u8 0,.int .u16 0,.int .u16 0,.int .u16 0,.int .u16 0,.int .u32 0,.bool false] (frL fr) (0+i.b.toNat*8) then bif decide ((0:Int)≤i.b)&&decide (i.b<(16:Int)) then True else False else False else False else False)∧True∧(Value.agg ⟨[.int .u32 (Zb (Zc undef (frL fr) (0+i.b.toNat*8))),.int .u8 (Zb (Zc undef (frL fr) (0+i.b.toNat*8+1))),.int .u16 (Zb (Zc undef (frL fr) (0+i.b.toNat*8+1+1))),.int .u16 (Zb (Zc undef (frL fr) (0+i.b.toNat*8+1+1+1))),.int .u16 (Zb (Zc undef (frL fr) (0+i.b.toNat*8+1+1+1+1))),.int .u16 (Zb (Zc undef (frL fr) (0+i.b.toNat*8+1+1+1+1+1))),.int .u32 (Zb (Zc undef (frL fr) (0+i.b.toNat*8+1+1+1+1+1+1))),.bool (Zv (Zc undef (frL fr) (0+i.b.toNat*8+1+1+1+1+1+1+1)))]⟩=Value.agg ⟨[.int .u32 (↑cB.C),.int .u8 (↑cB.E),.int .u16 (↑cB.B),.int .u16 (↑cB.T),.int .u16 (↑cB.P),.int .u16 (↑cB.Y),.int .u32 (↑cB.R),.bool cB.V]⟩∧True)∧True∧True)∧rr false)∧rr false)∧rr false)∧rr false)∧rr false)∧rr false)∧rr false)∧rr false)∧rr false)∧tt)∧True∧(Value.agg ⟨[.int .u32 (Zb (Zc undef (frL fr) (0+i.b.toNat*8))),.int .u8 (Zb (Zc undef (frL fr) (0+i.b.toNat*8+1))),.int .u16 (Zb (Zc undef (frL fr) (0+i.b.toNat*8+1+1))),.int .u16 (Zb (Zc undef (frL fr) (0+i.b.toNat*8+1+1+1))),.int .u16 (Zb (Zc undef (frL fr) (0+i.b.toNat*8+1+1+1+1))),.int .u16 (Zb (Zc undef (frL fr) (0+i.b.toNat*8+1+1+1+1+1))),.int .u32 (Zb (Zc undef (frL fr) (0+i.b.toNat*8+1+1+1+1+1+1))),.bool (Zv (Zc undef (frL fr) (0+i.b.toNat*8+1+1+1+1+1+1+1)))]⟩=Value.agg ⟨[.int .u32 (↑cB.C),.int .u8 (↑cB.E),.int .u16 (↑cB.B),.int .u16 (↑cB.T),.int .u16 (↑cB.P),.int .u16 (↑cB.Y),.int .u32 (↑cB.R),.bool cB.V]⟩∧Value.int .u32 (Zb (Zc undef (frL fr) (0+i.c.toNat*8)))=Value.int .u32 (↑x)∧True)∧True∧True):=by kernel_rfl
theorem ZmY (i:In) (fr:Nat→Cp) (cB:Cp) (lo hi:Nat) (cC r:Cp):obs (evF Tryz.prog (Zz 3 (Zd (mkL cB lo hi [(69,81,Con.pure [cB.val,cC.val] r.val,[])])) Zk) Zh 100 20 40 [Q8 fr,{ op:=(38:Int),a:=i.a,b:=i.b,c:=i.c,m:=i.m:In }.val] ⟨64,[],[],0,(tb 11 1024),0,True⟩)=some (Value.agg ⟨[.int .u32 (↑r.C),.int .u8 (↑r.E),.int .u16 (↑r.B),.int .u16 (↑r.T),.int .u16 (↑r.P),.int .u16 (↑r.Y),.int .u32 (↑r.R),.bool r.V]⟩,(((((((((((((bif ZI (0+i.c.toNat*8+8) (frL fr)&&Zi [Value.int .u32 0,.int .u8 0,.int .u16 0,.int .u16 0,.int .u16 0,.int .u16 0,.int .u32 0,.bool false] (frL fr) (0+i.c.toNat*8) then bif decide ((0:Int)≤i.c)&&decide (i.c<(16:Int)) then bif ZI (0+i.b.toNat*8+8) (frL fr)&&Zi [Value.int .u32 0,.int .u8 0,.int .u16 0,.int .u16 0,.int .u16 0,.int .u16 0,.int .u32 0,.bool false] (frL fr) (0+i.b.toNat*8) then bif decide ((0:Int)≤i.b)&&decide (i.b<(16:Int)) then True else False else False else False else False)∧True∧(Value.agg ⟨[.int .u32 (Zb (Zc undef (frL fr) (0+i.b.toNat*8))),.int .u8 (Zb (Zc undef (frL fr) (0+i.b.toNat*8+1))),.int .u16 (Zb (Zc undef (frL fr) (0+i.b.toNat*8+1+1))),.int .u16 (Zb (Zc undef (frL fr) (0+i.b.toNat*8+1+1+1))),.int .u16 (Zb (Zc undef (frL fr) (0+i.b.toNat*8+1+1+1+1))),.int .u16 (Zb (Zc undef (frL fr) (0+i.b.toNat*8+1+1+1+1+1))),.int .u32 (Zb (Zc undef (frL fr) (0+i.b.toNat*8+1+1+1+1+1+1))),.bool (Zv (Zc undef (frL fr) (0+i.b.toNat*8+1+1+1+1+1+1+1)))]⟩=Value.agg ⟨[.int .u32 (↑cB.C),.int .u8 (↑cB.E),.int .u16 (↑cB.B),.int .u16 (↑cB.T),.int .u16 (↑cB.P),.int .u16 (↑cB.Y),.int .u32 (↑cB.R),.bool cB.V]⟩∧True)∧True∧True)∧rr false)∧rr false)∧rr false)∧rr false)∧rr false)∧rr false)∧rr false)∧rr false)∧rr false)∧rr false)∧tt)∧True∧(Value.agg ⟨[.int .u32 (Zb (Zc undef (frL fr) (0+i.b.toNat*8))),.int .u8 (Zb (Zc undef (frL fr) (0+i.b.toNat*8+1))),.int .u16 (Zb (Zc undef (frL fr) (0+i.b.toNat*8+1+1))),.int .u16 (Zb (Zc undef (frL fr) (0+i.b.toNat*8+1+1+1))),.int .u16 (Zb (Zc undef (frL fr) (0+i.b.toNat*8+1+1+1+1))),.int .u16 (Zb (Zc undef (frL fr) (0+i.b.toNat*8+1+1+1+1+1))),.int .u32 (Zb (Zc undef (frL fr) (0+i.b.toNat*8+1+1+1+1+1+1))),.bool (Zv (Zc undef (frL fr) (0+i.b.toNat*8+1+1+1+1+1+1+1)))]⟩=Value.agg ⟨[.int .u32 (↑cB.C),.int .u8 (↑cB.E),.int .u16 (↑cB.B),.int .u16 (↑cB.T),.int .u16 (↑cB.P),.int .u16 (↑cB.Y),.int .u32 (↑cB.R),.bool cB.V]⟩∧Value.agg ⟨[.int .u32 (Zb (Zc undef (frL fr) (0+i.c.toNat*8))),.int .u8 (Zb (Zc undef (frL fr) (0+i.c.toNat*8+1))),.int .u16 (Zb (Zc undef (frL fr) (0+i.c.toNat*8+1+1))),.int .u16 (Zb (Zc undef (frL fr) (0+i.c.toNat*8+1+1+1))),.int .u16 (Zb (Zc undef (frL fr) (0+i.c.toNat*8+1+1+1+1))),.int .u16 (Zb (Zc undef (frL fr) (0+i.c.toNat*8+1+1+1+1+1))),.int .u32 (Zb (Zc undef (frL fr) (0+i.c.toNat*8+1+1+1+1+1+1))),.bool (Zv (Zc undef (frL fr) (0+i.c.toNat*8+1+1+1+1+1+1+1)))]⟩=Value.agg ⟨[.int .u32 (↑cC.C),.int .u8 (↑cC.E),.int .u16 (↑cC.B),.int .u16 (↑cC.T),.int .u16 (↑cC.P),.int .u16 (↑cC.Y),.int .u32 (↑cC.R),.bool cC.V]⟩∧True)∧True∧True):=by kernel_rfl
theorem ZmZ (i:In) (fr:Nat→Cp) (cB:Cp) (lo hi:Nat) (cC r:Cp):obs (evF Tryz.prog (Zz 3 (Zd (mkL cB lo hi [(69,82,Con.pure [cB.val,cC.val] r.val,[])])) Zk) Zh 100 20 40 [Q8 fr,{ op:=(39:Int),a:=i.a,b:=i.b,c:=i.c,m:=i.m:In }.val] ⟨64,[],[],0,(tb 12 2048),0,True⟩)=some (Value.agg ⟨[.int .u32 (↑r.C),.int .u8 (↑r.E),.int .u16 (↑r.B),.int .u16 (↑r.T),.int .u16 (↑r.P),.int .u16 (↑r.Y),.int .u32 (↑r.R),.bool r.V]⟩,((((((((((((((bif ZI (0+i.c.toNat*8+8) (frL fr)&&Zi [Value.int .u32 0,.int .u8 0,.int .u16 0,.int .u16 0,.int .u16 0,.int .u16 0,.int .u32 0,.bool false] (frL fr) (0+i.c.toNat*8) then bif decide ((0:Int)≤i.c)&&decide (i.c<(16:Int)) then bif ZI (0+i.b.toNat*8+8) (frL fr)&&Zi [Value.int .u32 0,.int .u8 0,.int .u16 0,.int .u16 0,.int .u16 0,.int .u16 0,.int .u32 0,.bool false] (frL fr) (0+i.b.toNat*8) then bif decide ((0:Int)≤i.b)&&decide (i.b<(16:Int)) then True else False else False else False else False)∧True∧(Value.agg ⟨[.int .u32 (Zb (Zc undef (frL fr) (0+i.b.toNat*8))),.int .u8 (Zb (Zc undef (frL fr) (0+i.b.toNat*8+1))),.int .u16 (Zb (Zc undef (frL fr) (0+i.b.toNat*8+1+1))),.int .u16 (Zb (Zc undef (frL fr) (0+i.b.toNat*8+1+1+1))),.int .u16 (Zb (Zc undef (frL fr) (0+i.b.toNat*8+1+1+1+1))),.int .u16 (Zb (Zc undef (frL fr) (0+i.b.toNat*8+1+1+1+1+1))),.int .u32 (Zb (Zc undef (frL fr) (0+i.b.toNat*8+1+1+1+1+1+1))),.bool (Zv (Zc undef (frL fr) (0+i.b.toNat*8+1+1+1+1+1+1+1)))]⟩=Value.agg ⟨[.int .u32 (↑cB.C),.int .u8 (↑cB.E),.int .u16 (↑cB.B),.int .u16 (↑cB.T),.int .u16 (↑cB.P),.int .u16 (↑cB.Y),.int .u32 (↑cB.R),.bool cB.V]⟩∧True)∧True∧True)∧rr false)∧rr false)∧rr false)∧rr false)∧rr false)∧rr false)∧rr false)∧rr false)∧rr false)∧rr false)∧rr false)∧tt)∧True∧(Value.agg ⟨[.int .u32 (Zb (Zc undef (frL fr) (0+i.b.toNat*8))),.int .u8 (Zb (Zc undef (frL fr) (0+i.b.toNat*8+1))),.int .u16 (Zb (Zc undef (frL fr) (0+i.b.toNat*8+1+1))),.int .u16 (Zb (Zc undef (frL fr) (0+i.b.toNat*8+1+1+1))),.int .u16 (Zb (Zc undef (frL fr) (0+i.b.toNat*8+1+1+1+1))),.int .u16 (Zb (Zc undef (frL fr) (0+i.b.toNat*8+1+1+1+1+1))),.int .u32 (Zb (Zc undef (frL fr) (0+i.b.toNat*8+1+1+1+1+1+1))),.bool (Zv (Zc undef (frL fr) (0+i.b.toNat*8+1+1+1+1+1+1+1)))]⟩=Value.agg ⟨[.int .u32 (↑cB.C),.int .u8 (↑cB.E),.int .u16 (↑cB.B),.int .u16 (↑cB.T),.int .u16 (↑cB.P),.int .u16 (↑cB.Y),.int .u32 (↑cB.R),.bool cB.V]⟩∧Value.agg ⟨[.int .u32 (Zb (Zc undef (frL fr) (0+i.c.toNat*8))),.int .u8 (Zb (Zc undef (frL fr) (0+i.c.toNat*8+1))),.int .u16 (Zb (Zc undef (frL fr) (0+i.c.toNat*8+1+1))),.int .u16 (Zb (Zc undef (frL fr) (0+i.c.toNat*8+1+1+1))),.int .u16 (Zb (Zc undef (frL fr) (0+i.c.toNat*8+1+1+1+1))),.int .u16 (Zb (Zc undef (frL fr) (0+i.c.toNat*8+1+1+1+1+1))),.int .u32 (Zb (Zc undef (frL fr) (0+i.c.toNat*8+1+1+1+1+1+1))),.bool (Zv (Zc undef (frL fr) (0+i.c.toNat*8+1+1+1+1+1+1+1)))]⟩=Value.agg ⟨[.int .u32 (↑cC.C),.int .u8 (↑cC.E),.int .u16 (↑cC.B),.int .u16 (↑cC.T),.int .u16 (↑cC.P),.int .u16 (↑cC.Y),.int .u32 (↑cC.R),.bool cC.V]⟩∧True)∧True∧True):=by kernel_rfl
theorem Zm0 (i:In) (fr:Nat→Cp) (cB:Cp) (lo hi:Nat) (cC r:Cp):obs (evF Tryz.prog (Zz 3 (Zd (mkL cB lo hi [(69,83,Con.pure [cC.val,cB.val] r.val,[])])) Zk) Zh 100 20 40 [Q8 fr,{ op:=(40:Int),a:=i.a,b:=i.b,c:=i.c,m:=i.m:In }.val] ⟨64,[],[],0,(tb 13 4096),0,True⟩)=some (Value.agg ⟨[.int .u32 (↑r.C),.int .u8 (↑r.E),.int .u16 (↑r.B),.int .u16 (↑r.T),.int .u16 (↑r.P),.int .u16 (↑r.Y),.int .u32 (↑r.R),.bool r.V]⟩,(((((((((((((((bif ZI (0+i.c.toNat*8+8) (frL fr)&&Zi [Value.int .u32 0,.int .u8 0,.int .u16 0,.int .u16 0,.int .u16 0,.int .u16 0,.int .u32 0,.bool false] (frL fr) (0+i.c.toNat*8) then bif decide ((0:Int)≤i.c)&&decide (i.c<(16:Int)) then bif ZI (0+i.b.toNat*8+8) (frL fr)&&Zi [Value.int .u32 0,.int .u8 0,.int .u16 0,.int .u16 0,.int .u16 0,.int .u16 0,.int .u32 0,.bool false] (frL fr) (0+i.b.toNat*8) then bif decide ((0:Int)≤i.b)&&decide (i.b<(16:Int)) then True else False else False else False else False)∧True∧(Value.agg ⟨[.int .u32 (Zb (Zc undef (frL fr) (0+i.b.toNat*8))),.int .u8 (Zb (Zc undef (frL fr) (0+i.b.toNat*8+1))),.int .u16 (Zb (Zc undef (frL fr) (0+i.b.toNat*8+1+1))),.int .u16 (Zb (Zc undef (frL fr) (0+i.b.toNat*8+1+1+1))),.int .u16 (Zb (Zc undef (frL fr) (0+i.b.toNat*8+1+1+1+1))),.int .u16 (Zb (Zc undef (frL fr) (0+i.b.toNat*8+1+1+1+1+1))),.int .u32 (Zb (Zc undef (frL fr) (0+i.b.toNat*8+1+1+1+1+1+1))),.bool (Zv (Zc undef (frL fr) (0+i.b.toNat*8+1+1+1+1+1+1+1)))]⟩=Value.agg ⟨[.int .u32 (↑cB.C),.int .u8 (↑cB.E),.int .u16 (↑cB.B),.int .u16 (↑cB.T),.int .u16 (↑cB.P),.int .u16 (↑cB.Y),.int .u32 (↑cB.R),.bool cB.V]⟩∧True)∧True∧True)∧rr false)∧rr false)∧rr false)∧rr false)∧rr false)∧rr false)∧rr false)∧rr false)∧rr false)∧rr false)∧rr false)∧rr false)∧tt)∧True∧(Value.agg ⟨[.int .u32 (Zb (Zc undef (frL fr) (0+i.c.toNat*8))),.int .u8 (Zb (Zc undef (frL fr) (0+i.c.toNat*8+1))),.int .u16 (Zb (Zc undef (frL fr) (0+i.c.toNat*8+1+1))),.int .u16 (Zb (Zc undef (frL fr) (0+i.c.toNat*8+1+1+1))),.int .u16 (Zb (Zc undef (frL fr) (0+i.c.toNat*8+1+1+1+1))),.int .u16 (Zb (Zc undef (frL fr) (0+i.c.toNat*8+1+1+1+1+1))),.int .u32 (Zb (Zc undef (frL fr) (0+i.c.toNat*8+1+1+1+1+1+1))),.bool (Zv (Zc undef (frL fr) (0+i.c.toNat*8+1+1+1+1+1+1+1)))]⟩=Value.agg ⟨[.int .u32 (↑cC.C),.int .u8 (↑cC.E),.int .u16 (↑cC.B),.int .u16 (↑cC.T),.int .u16 (↑cC.P),.int .u16 (↑cC.Y),.int .u32 (↑cC.R),.bool cC.V]⟩∧Value.agg ⟨[.int .u32 (Zb (Zc undef (frL fr) (0+i.b.toNat*8))),.int .u8 (Zb (Zc undef (frL fr) (0+i.b.toNat*8+1))),.int .u16 (Zb (Zc undef (frL fr) (0+i.b.toNat*8+1+1))),.int .u16 (Zb (Zc undef (frL fr) (0+i.b.toNat*8+1+1+1))),.int .u16 (Zb (Zc undef (frL fr) (0+i.b.toNat*8+1+1+1+1))),.int .u16 (Zb (Zc undef (frL fr) (0+i.b.toNat*8+1+1+1+1+1))),.int .u32 (Zb (Zc undef (frL fr) (0+i.b.toNat*8+1+1+1+1+1+1))),.bool (Zv (Zc undef (frL fr) (0+i.b.toNat*8+1+1+1+1+1+1+1)))]⟩=Value.agg ⟨[.int .u32 (↑cB.C),.int .u8 (↑cB.E),.int .u16 (↑cB.B),.int .u16 (↑cB.T),.int .u16 (↑cB.P),.int .u16 (↑cB.Y),.int .u32 (↑cB.R),.bool cB.V]⟩∧True)∧True∧True):=by kernel_rfl
theorem Zm1 (i:In) (fr:Nat→Cp) (cB:Cp) (lo hi:Nat):obs (evF Tryz.prog (Zz 3 (Zd (mkL cB lo hi [])) Zk) Zh 100 20 40 [Q8 fr,{ op:=(42:Int),a:=i.a,b:=i.b,c:=i.c,m:=i.m:In }.val] ⟨64,[],[],0,(tb 14 8192),0,True⟩)=some (Value.agg ⟨[.int .u32 (Zb (Zc undef (frL fr) (0+i.b.toNat*8))),.int .u8 0,.int .u16 0,.int .u16 0,.int .u16 0,.int .u16 0,.int .u32 0,.bool false]⟩,(((((((((((((((bif ZI (0+i.c.toNat*8+8) (frL fr)&&Zi [Value.int .u32 0,.int .u8 0,.int .u16 0,.int .u16 0,.int .u16 0,.int .u16 0,.int .u32 0,.bool false] (frL fr) (0+i.c.toNat*8) then bif decide ((0:Int)≤i.c)&&decide (i.c<(16:Int)) then bif ZI (0+i.b.toNat*8+8) (frL fr)&&Zi [Value.int .u32 0,.int .u8 0,.int .u16 0,.int .u16 0,.int .u16 0,.int .u16 0,.int .u32 0,.bool false] (frL fr) (0+i.b.toNat*8) then bif decide ((0:Int)≤i.b)&&decide (i.b<(16:Int)) then True else False else False else False else False)∧True∧(Value.agg ⟨[.int .u32 (Zb (Zc undef (frL fr) (0+i.b.toNat*8))),.int .u8 (Zb (Zc undef (frL fr) (0+i.b.toNat*8+1))),.int .u16 (Zb (Zc undef (frL fr) (0+i.b.toNat*8+1+1))),.int .u16 (Zb (Zc undef (frL fr) (0+i.b.toNat*8+1+1+1))),.int .u16 (Zb (Zc undef (frL fr) (0+i.b.toNat*8+1+1+1+1))),.int .u16 (Zb (Zc undef (frL fr) (0+i.b.toNat*8+1+1+1+1+1))),.int .u32 (Zb (Zc undef (frL fr) (0+i.b.toNat*8+1+1+1+1+1+1))),.bool (Zv (Zc undef (frL fr) (0+i.b.toNat*8+1+1+1+1+1+1+1)))]⟩=Value.agg ⟨[.int .u32 (↑cB.C),.int .u8 (↑cB.E),.int .u16 (↑cB.B),.int .u16 (↑cB.T),.int .u16 (↑cB.P),.int .u16 (↑cB.Y),.int .u32 (↑cB.R),.bool cB.V]⟩∧True)∧True∧True)∧rr false)∧rr false)∧rr false)∧rr false)∧rr false)∧rr false)∧rr false)∧rr false)∧rr false)∧rr false)∧rr false)∧rr false)∧rr false)∧tt):=by kernel_rfl
theorem Zm2 (i:In) (fr:Nat→Cp) (cB:Cp) (lo hi:Nat):obs (evF Tryz.prog (Zz 3 (Zd (mkL cB lo hi [])) Zk) Zh 100 20 40 [Q8 fr,{ op:=(43:Int),a:=i.a,b:=i.b,c:=i.c,m:=i.m:In }.val] ⟨64,[],[],0,(tb 15 16384),0,True⟩)=some (Value.agg ⟨[.int .u32 (↑lo),.int .u8 0,.int .u16 0,.int .u16 0,.int .u16 0,.int .u16 0,.int .u32 0,.bool false]⟩,((((((((((((((((bif ZI (0+i.c.toNat*8+8) (frL fr)&&Zi [Value.int .u32 0,.int .u8 0,.int .u16 0,.int .u16 0,.int .u16 0,.int .u16 0,.int .u32 0,.bool false] (frL fr) (0+i.c.toNat*8) then bif decide ((0:Int)≤i.c)&&decide (i.c<(16:Int)) then bif ZI (0+i.b.toNat*8+8) (frL fr)&&Zi [Value.int .u32 0,.int .u8 0,.int .u16 0,.int .u16 0,.int .u16 0,.int .u16 0,.int .u32 0,.bool false] (frL fr) (0+i.b.toNat*8) then bif decide ((0:Int)≤i.b)&&decide (i.b<(16:Int)) then True else False else False else False else False)∧True∧(Value.agg ⟨[.int .u32 (Zb (Zc undef (frL fr) (0+i.b.toNat*8))),.int .u8 (Zb (Zc undef (frL fr) (0+i.b.toNat*8+1))),.int .u16 (Zb (Zc undef (frL fr) (0+i.b.toNat*8+1+1))),.int .u16 (Zb (Zc undef (frL fr) (0+i.b.toNat*8+1+1+1))),.int .u16 (Zb (Zc undef (frL fr) (0+i.b.toNat*8+1+1+1+1))),.int .u16 (Zb (Zc undef (frL fr) (0+i.b.toNat*8+1+1+1+1+1))),.int .u32 (Zb (Zc undef (frL fr) (0+i.b.toNat*8+1+1+1+1+1+1))),.bool (Zv (Zc undef (frL fr) (0+i.b.toNat*8+1+1+1+1+1+1+1)))]⟩=Value.agg ⟨[.int .u32 (↑cB.C),.int .u8 (↑cB.E),.int .u16 (↑cB.B),.int .u16 (↑cB.T),.int .u16 (↑cB.P),.int .u16 (↑cB.Y),.int .u32 (↑cB.R),.bool cB.V]⟩∧True)∧True∧True)∧rr false)∧rr false)∧rr false)∧rr false)∧rr false)∧rr false)∧rr false)∧rr false)∧rr false)∧rr false)∧rr false)∧rr false)∧rr false)∧rr false)∧tt):=by kernel_rfl
theorem Zm3 (i:In) (fr:Nat→Cp) (cB:Cp) (lo hi:Nat):obs (evF Tryz.prog (Zz 3 (Zd (mkL cB lo hi [])) Zk) Zh 100 20 40 [Q8 fr,{ op:=(44:Int),a:=i.a,b:=i.b,c:=i.c,m:=i.m:In }.val] ⟨64,[],[],0,(tb 16 32768),0,True⟩)=some (Value.agg ⟨[.int .u32 (u32.wrap (if(4294967295:Int)<u64.wrap ((↑hi:Int)-u64.wrap (↑lo)) then(4294967295:Int) else u64.wrap ((↑hi:Int)-u64.wrap (↑lo)))),.int .u8 0,.int .u16 0,.int .u16 0,.int .u16 0,.int .u16 0,.int .u32 0,.bool false]⟩,(((((((((((((((((bif ZI (0+i.c.toNat*8+8) (frL fr)&&Zi [Value.int .u32 0,.int .u8 0,.int .u16 0,.int .u16 0,.int .u16 0,.int .u16 0,.int .u32 0,.bool false] (frL fr) (0+i.c.toNat*8) then bif decide ((0:Int)≤i.c)&&decide (i.c<(16:Int)) then bif ZI (0+i.b.toNat*8+8) (frL fr)&&Zi [Value.int .u32 0,.int .u8 0,.int .u16 0,.int .u16 0,.int .u16 0,.int .u16 0,.int .u32 0,.bool false] (frL fr) (0+i.b.toNat*8) then bif decide ((0:Int)≤i.b)&&decide (i.b<(16:Int)) then True else False else False else False else False)∧True∧(Value.agg ⟨[.int .u32 (Zb (Zc undef (frL fr) (0+i.b.toNat*8))),.int .u8 (Zb (Zc undef (frL fr) (0+i.b.toNat*8+1))),.int .u16 (Zb (Zc undef (frL fr) (0+i.b.toNat*8+1+1))),.int .u16 (Zb (Zc undef (frL fr) (0+i.b.toNat*8+1+1+1))),.int .u16 (Zb (Zc undef (frL fr) (0+i.b.toNat*8+1+1+1+1))),.int .u16 (Zb (Zc undef (frL fr) (0+i.b.toNat*8+1+1+1+1+1))),.int .u32 (Zb (Zc undef (frL fr) (0+i.b.toNat*8+1+1+1+1+1+1))),.bool (Zv (Zc undef (frL fr) (0+i.b.toNat*8+1+1+1+1+1+1+1)))]⟩=Value.agg ⟨[.int .u32 (↑cB.C),.int .u8 (↑cB.E),.int .u16 (↑cB.B),.int .u16 (↑cB.T),.int .u16 (↑cB.P),.int .u16 (↑cB.Y),.int .u32 (↑cB.R),.bool cB.V]⟩∧True)∧True∧True)∧rr false)∧rr false)∧rr false)∧rr false)∧rr false)∧rr false)∧rr false)∧rr false)∧rr false)∧rr false)∧rr false)∧rr false)∧rr false)∧rr false)∧rr false)∧tt):=by kernel_rfl
theorem Zm4 (i:In) (fr:Nat→Cp) (cB:Cp) (lo hi:Nat):obs (evF Tryz.prog (Zz 3 (Zd (mkL cB lo hi [])) Zk) Zh 100 20 40 [Q8 fr,{ op:=(45:Int),a:=i.a,b:=i.b,c:=i.c,m:=i.m:In }.val] ⟨64,[],[],0,(tb 17 65536),0,True⟩)=some (Value.agg ⟨[.int .u32 (u32.wrap (Zb (Zc undef (frL fr) (0+i.b.toNat*8+1+1+1+1)))),.int .u8 0,.int .u16 0,.int .u16 0,.int .u16 0,.int .u16 0,.int .u32 0,.bool false]⟩,((((((((((((((((((bif ZI (0+i.c.toNat*8+8) (frL fr)&&Zi [Value.int .u32 0,.int .u8 0,.int .u16 0,.int .u16 0,.int .u16 0,.int .u16 0,.int .u32 0,.bool false] (frL fr) (0+i.c.toNat*8) then bif decide ((0:Int)≤i.c)&&decide (i.c<(16:Int)) then bif ZI (0+i.b.toNat*8+8) (frL fr)&&Zi [Value.int .u32 0,.int .u8 0,.int .u16 0,.int .u16 0,.int .u16 0,.int .u16 0,.int .u32 0,.bool false] (frL fr) (0+i.b.toNat*8) then bif decide ((0:Int)≤i.b)&&decide (i.b<(16:Int)) then True else False else False else False else False)∧True∧(Value.agg ⟨[.int .u32 (Zb (Zc undef (frL fr) (0+i.b.toNat*8))),.int .u8 (Zb (Zc undef (frL fr) (0+i.b.toNat*8+1))),.int .u16 (Zb (Zc undef (frL fr) (0+i.b.toNat*8+1+1))),.int .u16 (Zb (Zc undef (frL fr) (0+i.b.toNat*8+1+1+1))),.int .u16 (Zb (Zc undef (frL fr) (0+i.b.toNat*8+1+1+1+1))),.int .u16 (Zb (Zc undef (frL fr) (0+i.b.toNat*8+1+1+1+1+1))),.int .u32 (Zb (Zc undef (frL fr) (0+i.b.toNat*8+1+1+1+1+1+1))),.bool (Zv (Zc undef (frL fr) (0+i.b.toNat*8+1+1+1+1+1+1+1)))]⟩=Value.agg ⟨[.int .u32 (↑cB.C),.int .u8 (↑cB.E),.int .u16 (↑cB.B),.int .u16 (↑cB.T),.int .u16 (↑cB.P),.int .u16 (↑cB.Y),.int .u32 (↑cB.R),.bool cB.V]⟩∧True)∧True∧True)∧rr false)∧rr false)∧rr false)∧rr false)∧rr false)∧rr false)∧rr false)∧rr false)∧rr false)∧rr false)∧rr false)∧rr false)∧rr false)∧rr false)∧rr false)∧rr false)∧tt):=by kernel_rfl
theorem Zm5 (i:In) (fr:Nat→Cp) (cB:Cp) (lo hi:Nat):obs (evF Tryz.prog (Zz 3 (Zd (mkL cB lo hi [])) Zk) Zh 100 20 40 [Q8 fr,{ op:=(46:Int),a:=i.a,b:=i.b,c:=i.c,m:=i.m:In }.val] ⟨64,[],[],0,(tb 18 131072),0,True⟩)=some (Value.agg ⟨[.int .u32 (u32.wrap (Zb (Zc undef (frL fr) (0+i.b.toNat*8+1+1+1+1+1)))),.int .u8 0,.int .u16 0,.int .u16 0,.int .u16 0,.int .u16 0,.int .u32 0,.bool false]⟩,(((((((((((((((((((bif ZI (0+i.c.toNat*8+8) (frL fr)&&Zi [Value.int .u32 0,.int .u8 0,.int .u16 0,.int .u16 0,.int .u16 0,.int .u16 0,.int .u32 0,.bool false] (frL fr) (0+i.c.toNat*8) then bif decide ((0:Int)≤i.c)&&decide (i.c<(16:Int)) then bif ZI (0+i.b.toNat*8+8) (frL fr)&&Zi [Value.int .u32 0,.int .u8 0,.int .u16 0,.int .u16 0,.int .u16 0,.int .u16 0,.int .u32 0,.bool false] (frL fr) (0+i.b.toNat*8) then bif decide ((0:Int)≤i.b)&&decide (i.b<(16:Int)) then True else False else False else False else False)∧True∧(Value.agg ⟨[.int .u32 (Zb (Zc undef (frL fr) (0+i.b.toNat*8))),.int .u8 (Zb (Zc undef (frL fr) (0+i.b.toNat*8+1))),.int .u16 (Zb (Zc undef (frL fr) (0+i.b.toNat*8+1+1))),.int .u16 (Zb (Zc undef (frL fr) (0+i.b.toNat*8+1+1+1))),.int .u16 (Zb (Zc undef (frL fr) (0+i.b.toNat*8+1+1+1+1))),.int .u16 (Zb (Zc undef (frL fr) (0+i.b.toNat*8+1+1+1+1+1))),.int .u32 (Zb (Zc undef (frL fr) (0+i.b.toNat*8+1+1+1+1+1+1))),.bool (Zv (Zc undef (frL fr) (0+i.b.toNat*8+1+1+1+1+1+1+1)))]⟩=Value.agg ⟨[.int .u32 (↑cB.C),.int .u8 (↑cB.E),.int .u16 (↑cB.B),.int .u16 (↑cB.T),.int .u16 (↑cB.P),.int .u16 (↑cB.Y),.int .u32 (↑cB.R),.bool cB.V]⟩∧True)∧True∧True)∧rr false)∧rr false)∧rr false)∧rr false)∧rr false)∧rr false)∧rr false)∧rr false)∧rr false)∧rr false)∧rr false)∧rr false)∧rr false)∧rr false)∧rr false)∧rr false)∧rr false)∧tt):=by kernel_rfl
theorem Zm6 (i:In) (fr:Nat→Cp) (cB:Cp) (lo hi:Nat) (k:Bool) (r:Cp):obs (evF Tryz.prog (Zz 3 (Zd (mkL cB lo hi [(69,84,Con.pure [Value.bool k] r.val,[])])) Zk) Zh 100 20 40 [Q8 fr,{ op:=(47:Int),a:=i.a,b:=i.b,c:=i.c,m:=i.m:In }.val] ⟨64,[],[],0,(tb 19 262144),0,True⟩)=some (Value.agg ⟨[.int .u32 (↑r.C),.int .u8 (↑r.E),.int .u16 (↑r.B),.int .u16 (↑r.T),.int .u16 (↑r.P),.int .u16 (↑r.Y),.int .u32 (↑r.R),.bool r.V]⟩,(((((((((((((((((((((bif ZI (0+i.c.toNat*8+8) (frL fr)&&Zi [Value.int .u32 0,.int .u8 0,.int .u16 0,.int .u16 0,.int .u16 0,.int .u16 0,.int .u32 0,.bool false] (frL fr) (0+i.c.toNat*8) then bif decide ((0:Int)≤i.c)&&decide (i.c<(16:Int)) then bif ZI (0+i.b.toNat*8+8) (frL fr)&&Zi [Value.int .u32 0,.int .u8 0,.int .u16 0,.int .u16 0,.int .u16 0,.int .u16 0,.int .u32 0,.bool false] (frL fr) (0+i.b.toNat*8) then bif decide ((0:Int)≤i.b)&&decide (i.b<(16:Int)) then True else False else False else False else False)∧True∧(Value.agg ⟨[.int .u32 (Zb (Zc undef (frL fr) (0+i.b.toNat*8))),.int .u8 (Zb (Zc undef (frL fr) (0+i.b.toNat*8+1))),.int .u16 (Zb (Zc undef (frL fr) (0+i.b.toNat*8+1+1))),.int .u16 (Zb (Zc undef (frL fr) (0+i.b.toNat*8+1+1+1))),.int .u16 (Zb (Zc undef (frL fr) (0+i.b.toNat*8+1+1+1+1))),.int .u16 (Zb (Zc undef (frL fr) (0+i.b.toNat*8+1+1+1+1+1))),.int .u32 (Zb (Zc undef (frL fr) (0+i.b.toNat*8+1+1+1+1+1+1))),.bool (Zv (Zc undef (frL fr) (0+i.b.toNat*8+1+1+1+1+1+1+1)))]⟩=Value.agg ⟨[.int .u32 (↑cB.C),.int .u8 (↑cB.E),.int .u16 (↑cB.B),.int .u16 (↑cB.T),.int .u16 (↑cB.P),.int .u16 (↑cB.Y),.int .u32 (↑cB.R),.bool cB.V]⟩∧True)∧True∧True)∧rr false)∧rr false)∧rr false)∧rr false)∧rr false)∧rr false)∧rr false)∧rr false)∧rr false)∧rr false)∧rr false)∧rr false)∧rr false)∧rr false)∧rr false)∧rr false)∧rr false)∧rr false)∧tt)∧True∧(Value.bool (Zv (Zc undef (frL fr) (0+i.b.toNat*8+1+1+1+1+1+1+1)))=Value.bool k∧True)∧True∧True):=by kernel_rfl
theorem Zm7 (i:In) (fr:Nat→Cp) (cB:Cp) (lo hi:Nat) (k:Bool) (r:Cp):obs (evF Tryz.prog (Zz 3 (Zd (mkL cB lo hi [(69,85,Con.pure [cB.val] (Value.bool k),[]),(69,84,Con.pure [Value.bool k] r.val,[])])) Zk) Zh 100 20 40 [Q8 fr,{ op:=(48:Int),a:=i.a,b:=i.b,c:=i.c,m:=i.m:In }.val] ⟨64,[],[],0,(tb 20 524288),0,True⟩)=some (Value.agg ⟨[.int .u32 (↑r.C),.int .u8 (↑r.E),.int .u16 (↑r.B),.int .u16 (↑r.T),.int .u16 (↑r.P),.int .u16 (↑r.Y),.int .u32 (↑r.R),.bool r.V]⟩,(((((((((((((((((((((((bif ZI (0+i.c.toNat*8+8) (frL fr)&&Zi [Value.int .u32 0,.int .u8 0,.int .u16 0,.int .u16 0,.int .u16 0,.int .u16 0,.int .u32 0,.bool false] (frL fr) (0+i.c.toNat*8) then bif decide ((0:Int)≤i.c)&&decide (i.c<(16:Int)) then bif ZI (0+i.b.toNat*8+8) (frL fr)&&Zi [Value.int .u32 0,.int .u8 0,.int .u16 0,.int .u16 0,.int .u16 0,.int .u16 0,.int .u32 0,.bool false] (frL fr) (0+i.b.toNat*8) then bif decide ((0:Int)≤i.b)&&decide (i.b<(16:Int)) then True else False else False else False else False)∧True∧(Value.agg ⟨[.int .u32 (Zb (Zc undef (frL fr) (0+i.b.toNat*8))),.int .u8 (Zb (Zc undef (frL fr) (0+i.b.toNat*8+1))),.int .u16 (Zb (Zc undef (frL fr) (0+i.b.toNat*8+1+1))),.int .u16 (Zb (Zc undef (frL fr) (0+i.b.toNat*8+1+1+1))),.int .u16 (Zb (Zc undef (frL fr) (0+i.b.toNat*8+1+1+1+1))),.int .u16 (Zb (Zc undef (frL fr) (0+i.b.toNat*8+1+1+1+1+1))),.int .u32 (Zb (Zc undef (frL fr) (0+i.b.toNat*8+1+1+1+1+1+1))),.bool (Zv (Zc undef (frL fr) (0+i.b.toNat*8+1+1+1+1+1+1+1)))]⟩=Value.agg ⟨[.int .u32 (↑cB.C),.int .u8 (↑cB.E),.int .u16 (↑cB.B),.int .u16 (↑cB.T),.int .u16 (↑cB.P),.int .u16 (↑cB.Y),.int .u32 (↑cB.R),.bool cB.V]⟩∧True)∧True∧True)∧rr false)∧rr false)∧rr false)∧rr false)∧rr false)∧rr false)∧rr false)∧rr false)∧rr false)∧rr false)∧rr false)∧rr false)∧rr false)∧rr false)∧rr false)∧rr false)∧rr false)∧rr false)∧rr false)∧tt)∧True∧(Value.agg ⟨[.int .u32 (Zb (Zc undef (frL fr) (0+i.b.toNat*8))),.int .u8 (Zb (Zc undef (frL fr) (0+i.b.toNat*8+1))),.int .u16 (Zb (Zc undef (frL fr) (0+i.b.toNat*8+1+1))),.int .u16 (Zb (Zc undef (frL fr) (0+i.b.toNat*8+1+1+1))),.int .u16 (Zb (Zc undef (frL fr) (0+i.b.toNat*8+1+1+1+1))),.int .u16 (Zb (Zc undef (frL fr) (0+i.b.toNat*8+1+1+1+1+1))),.int .u32 (Zb (Zc undef (frL fr) (0+i.b.toNat*8+1+1+1+1+1+1))),.bool (Zv (Zc undef (frL fr) (0+i.b.toNat*8+1+1+1+1+1+1+1)))]⟩=Value.agg ⟨[.int .u32 (↑cB.C),.int .u8 (↑cB.E),.int .u16 (↑cB.B),.int .u16 (↑cB.T),.int .u16 (↑cB.P),.int .u16 (↑cB.Y),.int .u32 (↑cB.R),.bool cB.V]⟩∧True)∧True∧True)∧True∧(rr (Value.bool k)∧True)∧True∧True):=by kernel_rfl
theorem Zm8 (i:In) (fr:Nat→Cp) (cB:Cp) (lo hi:Nat) (r:Cp):obs (evF Tryz.prog (Zz 3 (Zd (mkL cB lo hi [(69,34,Con.pure [Q8 fr,.int .i64 i.m] r.val,[])])) Zk) Zh 100 20 40 [Q8 fr,{ op:=(49:Int),a:=i.a,b:=i.b,c:=i.c,m:=i.m:In }.val] ⟨64,[],[],0,(tb 21 1048576),0,True⟩)=some (Value.agg ⟨[.int .u32 (↑r.C),.int .u8 (↑r.E),.int .u16 (↑r.B),.int .u16 (↑r.T),.int .u16 (↑r.P),.int .u16 (↑r.Y),.int .u32 (↑r.R),.bool r.V]⟩,(((((((((((((((((((((((bif ZI (0+i.c.toNat*8+8) (frL fr)&&Zi [Value.int .u32 0,.int .u8 0,.int .u16 0,.int .u16 0,.int .u16 0,.int .u16 0,.int .u32 0,.bool false] (frL fr) (0+i.c.toNat*8) then bif decide ((0:Int)≤i.c)&&decide (i.c<(16:Int)) then bif ZI (0+i.b.toNat*8+8) (frL fr)&&Zi [Value.int .u32 0,.int .u8 0,.int .u16 0,.int .u16 0,.int .u16 0,.int .u16 0,.int .u32 0,.bool false] (frL fr) (0+i.b.toNat*8) then bif decide ((0:Int)≤i.b)&&decide (i.b<(16:Int)) then True else False else False else False else False)∧True∧(Value.agg ⟨[.int .u32 (Zb (Zc undef (frL fr) (0+i.b.toNat*8))),.int .u8 (Zb (Zc undef (frL fr) (0+i.b.toNat*8+1))),.int .u16 (Zb (Zc undef (frL fr) (0+i.b.toNat*8+1+1))),.int .u16 (Zb (Zc undef (frL fr) (0+i.b.toNat*8+1+1+1))),.int .u16 (Zb (Zc undef (frL fr) (0+i.b.toNat*8+1+1+1+1))),.int .u16 (Zb (Zc undef (frL fr) (0+i.b.toNat*8+1+1+1+1+1))),.int .u32 (Zb (Zc undef (frL fr) (0+i.b.toNat*8+1+1+1+1+1+1))),.bool (Zv (Zc undef (frL fr) (0+i.b.toNat*8+1+1+1+1+1+1+1)))]⟩=Value.agg ⟨[.int .u32 (↑cB.C),.int .u8 (↑cB.E),.int .u16 (↑cB.B),.int .u16 (↑cB.T),.int .u16 (↑cB.P),.int .u16 (↑cB.Y),.int .u32 (↑cB.R),.bool cB.V]⟩∧True)∧True∧True)∧rr false)∧rr false)∧rr false)∧rr false)∧rr false)∧rr false)∧rr false)∧rr false)∧rr false)∧rr false)∧rr false)∧rr false)∧rr false)∧rr false)∧rr false)∧rr false)∧rr false)∧rr false)∧rr false)∧rr false)∧tt)∧True∧(rr (Value.agg { toList:=(frL fr) })∧rr (Value.int .i64 i.m)∧True)∧True∧True):=by kernel_rfl
theorem mk_d (i:In) (fr:Nat→Cp) (cB:Cp) (lo hi:Nat):obs (evF Tryz.prog (Zz 3 (Zd (mkL cB lo hi [])) Zk) Zh 100 20 40 [Q8 fr,i.val] ⟨64,[],[],0,(tb 21 0),0,True⟩)=some (Value.agg ⟨[.int .u32 (Zb (Zc undef (frL fr) (0+i.b.toNat*8))),.int .u8 (Zb (Zc undef (frL fr) (0+i.b.toNat*8+1))),.int .u16 (Zb (Zc undef (frL fr) (0+i.b.toNat*8+1+1))),.int .u16 (Zb (Zc undef (frL fr) (0+i.b.toNat*8+1+1+1))),.int .u16 (Zb (Zc undef (frL fr) (0+i.b.toNat*8+1+1+1+1))),.int .u16 (Zb (Zc undef (frL fr) (0+i.b.toNat*8+1+1+1+1+1))),.int .u32 (Zb (Zc undef (frL fr) (0+i.b.toNat*8+1+1+1+1+1+1))),.bool (Zv (Zc undef (frL fr) (0+i.b.toNat*8+1+1+1+1+1+1+1)))]⟩,((((((((((((((((((((((bif ZI (0+i.c.toNat*8+8) (frL fr)&&Zi [Value.int .u32 0,.int .u8 0,.int .u16 0,.int .u16 0,.int .u16 0,.int .u16 0,.int .u32 0,.bool false] (frL fr) (0+i.c.toNat*8) then bif decide ((0:Int)≤i.c)&&decide (i.c<(16:Int)) then bif ZI (0+i.b.toNat*8+8) (frL fr)&&Zi [Value.int .u32 0,.int .u8 0,.int .u16 0,.int .u16 0,.int .u16 0,.int .u16 0,.int .u32 0,.bool false] (frL fr) (0+i.b.toNat*8) then bif decide ((0:Int)≤i.b)&&decide (i.b<(16:Int)) then True else False else False else False else False)∧True∧(Value.agg ⟨[.int .u32 (Zb (Zc undef (frL fr) (0+i.b.toNat*8))),.int .u8 (Zb (Zc undef (frL fr) (0+i.b.toNat*8+1))),.int .u16 (Zb (Zc undef (frL fr) (0+i.b.toNat*8+1+1))),.int .u16 (Zb (Zc undef (frL fr) (0+i.b.toNat*8+1+1+1))),.int .u16 (Zb (Zc undef (frL fr) (0+i.b.toNat*8+1+1+1+1))),.int .u16 (Zb (Zc undef (frL fr) (0+i.b.toNat*8+1+1+1+1+1))),.int .u32 (Zb (Zc undef (frL fr) (0+i.b.toNat*8+1+1+1+1+1+1))),.bool (Zv (Zc undef (frL fr) (0+i.b.toNat*8+1+1+1+1+1+1+1)))]⟩=Value.agg ⟨[.int .u32 (↑cB.C),.int .u8 (↑cB.E),.int .u16 (↑cB.B),.int .u16 (↑cB.T),.int .u16 (↑cB.P),.int .u16 (↑cB.Y),.int .u32 (↑cB.R),.bool cB.V]⟩∧True)∧True∧True)∧(i.op==(1:Int))=false)∧(i.op==(2:Int))=false)∧(i.op==(16:Int))=false)∧(i.op==(41:Int))=false)∧(i.op==(32:Int))=false)∧(i.op==(33:Int))=false)∧(i.op==(34:Int))=false)∧(i.op==(35:Int))=false)∧(i.op==(36:Int))=false)∧(i.op==(37:Int))=false)∧(i.op==(38:Int))=false)∧(i.op==(39:Int))=false)∧(i.op==(40:Int))=false)∧(i.op==(42:Int))=false)∧(i.op==(43:Int))=false)∧(i.op==(44:Int))=false)∧(i.op==(45:Int))=false)∧(i.op==(46:Int))=false)∧(i.op==(47:Int))=false)∧(i.op==(48:Int))=false)∧(i.op==(49:Int))=false):=by kernel_rfl
theorem tr_t (k:Bool):obs (evF Tryz.prog Zk Zh 100 20 84 [Value.bool k] ⟨64,[],[],0,[(0,true)],0,True⟩)=some (Value.agg ⟨[.int .u32 1,.int .u8 0,.int .u16 0,.int .u16 0,.int .u16 0,.int .u16 0,.int .u32 0,.bool false]⟩,True∧k=true):=by kernel_rfl
theorem tr_f (k:Bool):obs (evF Tryz.prog Zk Zh 100 20 84 [Value.bool k] ⟨64,[],[],0,[(0,false)],0,True⟩)=some (Value.agg ⟨[.int .u32 0,.int .u8 0,.int .u16 0,.int .u16 0,.int .u16 0,.int .u16 0,.int .u32 0,.bool false]⟩,True∧k=false):=by kernel_rfl
theorem Zm9 (a b:Nat):obs (evF Tryz.prog Zk Zh 100 20 38 [Value.int .i64 25,.int .u32 (↑a),.int .u32 (↑b)] ⟨64,[],[],0,[(0,true)],0,True⟩)=some (Value.tuple { toList:=[Value.bool ((↑a:Int)==(↑b:Int)),.bool true] },True∧tt):=by kernel_rfl
theorem Zna (a b:Nat):obs (evF Tryz.prog Zk Zh 100 20 38 [Value.int .i64 26,.int .u32 (↑a),.int .u32 (↑b)] ⟨64,[],[],0,[(0,false),(1,true)],0,True⟩)=some (Value.tuple { toList:=[Value.bool ((↑a:Int) !=(↑b:Int)),.bool true] },(True∧rr false)∧tt):=by kernel_rfl
theorem Znb (a b:Nat):obs (evF Tryz.prog Zk Zh 100 20 38 [Value.int .i64 27,.int .u32 (↑a),.int .u32 (↑b)] ⟨64,[],[],0,[(0,false),(1,false),(2,true)],0,True⟩)=some (Value.tuple { toList:=[Value.bool (decide (IntKind.i32.wrap (↑a)<IntKind.i32.wrap (↑b))),.bool true] },((True∧rr false)∧rr false)∧tt):=by kernel_rfl
theorem Znc (a b:Nat):obs (evF Tryz.prog Zk Zh 100 20 38 [Value.int .i64 28,.int .u32 (↑a),.int .u32 (↑b)] ⟨64,[],[],0,(tb 4 8),0,True⟩)=some (Value.tuple { toList:=[Value.bool !decide (IntKind.i32.wrap (↑a)<IntKind.i32.wrap (↑b)),.bool true] },(((True∧rr false)∧rr false)∧rr false)∧tt):=by kernel_rfl
theorem tk_n (op:Int) (a b:Nat):obs (evF Tryz.prog Zk Zh 100 20 38 [Value.int .i64 op,.int .u32 (↑a),.int .u32 (↑b)] ⟨64,[],[],0,(tb 4 0),0,True⟩)=some (Value.tuple { toList:=[Value.bool false,.bool false] },(((True∧(op==(25:Int))=false)∧(op==(26:Int))=false)∧(op==(27:Int))=false)∧(op==(28:Int))=false):=by kernel_rfl
theorem ZiR (a b:Nat) (W:World) :
  Calls Tryz.prog 137 #[.int .u32 a,.int .u32 b] W fun e w'=>e = .returned (.int .u32 (((a:Int)+b)%4294967296))∧w'=W:=by
 go_enter Tryz.func137,Tryz.ntmps137
 go_wp2
 go_ret
 exact⟨rfl,rfl⟩
theorem ZgX (a:Nat) (W:World) :
  Calls Tryz.prog 140 #[.int .u32 a,.int .u32 0] W fun e w'=>e = .panicked [{ v:=.iface 10 (strVal "integer divide by zero"),recovered:=false }]∧w'=W:=by
 go_enter Tryz.func140,Tryz.ntmps140
 go_wp2
 simp[bodyPost]
theorem W8 (p q s:Nat) (u:TypeId) (pv:Value) (older:List PanicEntry) (w:World) {x y z:Value} {tp tq ts:TypeId} (hp:Blk w p tp #[x]) (hq:Blk w q tq #[y]) (hs:Blk w s ts #[z]) (hpq:q≠p) (hqs:s≠q) (hps:s≠p) :
  CallsD Tryz.prog 75 #[.pointer (some ⟨p,0,none⟩),.pointer (some ⟨q,0,none⟩),.pointer (some ⟨s,0,none⟩)] (.panicking ({ v:=.iface u pv,recovered:=false }::older)) w fun e u' w' =>
   e = .returned (.tuple #[])∧u' = .panicking ({ v:=.iface u pv,recovered:=true }::older)∧w'=((w.setCell ⟨p,0,none⟩ (.int .u32 0)).setCell ⟨q,0,none⟩ (.int .i64 7)).setCell ⟨s,0,none⟩ (.bool true):=by
 have p1:=hp.cell 0
 have p2:=hp.frozen 0
 have q1:=(hq.far (p:=⟨p,0,none⟩) hpq (.int .u32 0)).cell 0
 have q2:=(hq.far (p:=⟨p,0,none⟩) hpq (.int .u32 0)).frozen 0
 have s1:=((hs.far (p:=⟨p,0,none⟩) hps (.int .u32 0)).far (p:=⟨q,0,none⟩) hqs (.int .i64 7)).cell 0
 have s2:=((hs.far (p:=⟨p,0,none⟩) hps (.int .u32 0)).far (p:=⟨q,0,none⟩) hqs (.int .i64 7)).frozen 0
 simp at p1 q1 s1
 refine callsD_of_wpS Tryz.func75 rfl fun c₀ cs hu => ?_
 apply wpS_seq
 apply wpS_region
 simp[wpOpsS,go_sem,recoverD,hu,Tryz.ntmps75,Exit.thenS]
 refine wpS_cond (t:=true) (by simp[Act.eval,Array.replicate]) ?_
 simp only[rr, tt, if_true]
 refine wpS_of_wp ?_
 clear hp hq hs hpq hqs hps
 go_wp2
 simp[bodyPostS,results,Tryz.results75]
theorem Ur (p q s:Value) (w:World) :
  CallsD Tryz.prog 75 #[p,q,s] .returning w fun e u' w'=>e = .returned (.tuple #[])∧u' = .returning∧w'=w:=by
 refine callsD_of_wpS Tryz.func75 rfl fun c₀ cs hu => ?_
 apply wpS_seq
 apply wpS_region
 simp[wpOpsS,go_sem,recoverD,hu,Tryz.ntmps75,Exit.thenS]
 refine wpS_cond (t:=false) (by simp[Act.eval,Array.replicate]) ?_
 simp only[rr, tt, Bool.false_eq_true,if_false]
 refine wpS_of_wp (wp_skip ?_)
 cases c₀
 simp_all [bodyPostS,results,Tryz.results75]
theorem Blk.newAu {W:World} {g:Nat} (h:W.heap.size=g) (t:TypeId) (cs:Array Value):Blk (W.alloc (.cells cs t)) g t cs:=by subst h; exact Blk.new W t cs
def Us:Array Value:=#[.int .i64 3,.func (.func 137) #[] #[],.int .i64 4,.func (.func 138) #[] #[],.int .i64 5,.func (.func 139) #[] #[],.int .i64 6,.func (.func 140) #[] #[],.int .i64 7,.func (.func 141) #[] #[],.int .i64 8,.func (.func 142) #[] #[],.int .i64 9,.func (.func 143) #[] #[],.int .i64 10,.func (.func 144) #[] #[],.int .i64 11,.func (.func 145) #[] #[],.int .i64 12,.func (.func 146) #[] #[],.int .i64 13,.func (.func 147) #[] #[],.int .i64 14,.func (.func 149) #[] #[],.int .i64 15,.func (.func 151) #[] #[]]
theorem Zfo (W:World):Calls Tryz.prog 74 #[] W fun e w'=>e = .returned (.slice (some ⟨W.heap.size,0,none⟩) 13 13)∧w'=W.alloc (.cells Us 129):=by
 go_enter Tryz.func74,Tryz.ntmps74
 go_wp2
 go_ret
 exact⟨rfl,rfl⟩
def WS:Nat→Nat
 | 0=>137
 | 1=>138
 | 2=>139
 | 3=>140
 | 4=>141
 | 5=>142
 | 6=>143
 | 7=>144
 | 8=>145
 | 9=>146
 | 10=>147
 | 11=>149
 | 12=>151
 | _=>0
theorem ZkI:∀ k:Nat,k<13→Us[k*2+1]? = some (.func (.func (WS k)) #[] #[])
 | 0,_=>rfl
 | 1,_=>rfl
 | 2,_=>rfl
 | 3,_=>rfl
 | 4,_=>rfl
 | 5,_=>rfl
 | 6,_=>rfl
 | 7,_=>rfl
 | 8,_=>rfl
 | 9,_=>rfl
 | 10,_=>rfl
 | 11,_=>rfl
 | 12,_=>rfl
 | k+13,h=>absurd h (by omega)
theorem ZgY:∀ k:Nat,k<13→Us[k*2]? = some (.int .i64 ((k:Int)+3))
 | 0,_=>rfl
 | 1,_=>rfl
 | 2,_=>rfl
 | 3,_=>rfl
 | 4,_=>rfl
 | 5,_=>rfl
 | 6,_=>rfl
 | 7,_=>rfl
 | 8,_=>rfl
 | 9,_=>rfl
 | 10,_=>rfl
 | 11,_=>rfl
 | 12,_=>rfl
 | k+13,h=>absurd h (by omega)
theorem ZhJ (k:Nat) (h:k<13):Us[k*2]? = some (.int .i64 ((k:Int)+3))∧Us[k*2+1]? = some (.func (.func (WS k)) #[] #[]):=⟨ZgY k h,ZkI k h⟩
def AluR (w wr:World) (code:Int) (z:Nat) (i:Value):Prop:=∃ k:Nat,k≤13∧z=13-k∧i = .int .i64 k∧Blk wr w.heap.size 22 #[.int .u32 0]∧Blk wr (w.heap.size+1) 36 #[.int .i64 0]∧Blk wr (w.heap.size+2) 4 #[.bool false] ∧
 Blk wr (w.heap.size+3) 129 Us∧Below w.heap.size w wr∧∀ j:Nat,j<k→code≠j+3
set_option maxRecDepth 100000 in
theorem ZdF (code:Int) (a b:Nat) (w:World) (hc:(code<3∨15<code)∨code=3∨(code=6∧b=0)) :
  Calls Tryz.prog 39 #[.int .i64 code,.int .u32 a,.int .u32 b] w fun e w' =>
   e = .returned (.tuple (if code=3 then #[.int .u32 (((a:Int)+b)%4294967296),.int .i64 0,.bool true] else if code=6 then #[.int .u32 0,.int .i64 7,.bool true] else #[.int .u32 0,.int .i64 0,.bool false]))∧Below w.heap.size w w':=by
 have hmf:∀ (fn:Fn) (first cap:Array Value) (w:World),(Instr.makeFunc fn first cap).run Tryz.prog w = .ok (.func fn first cap) w:=fun _ _ _ _=>rfl
 go_enter_defers Tryz.func39,Tryz.ntmps39
 go_wp2_with fail
 refine(Zfo _).mono ?_
 rintro e w1 ⟨rfl,rfl⟩
 go_wp2
 go_loopg [13] 13 (fun z i wr=>AluR w wr code z i)
 case atStart =>
  refine⟨0,by omega,rfl,rfl,?_,?_,?_,?_,?_,fun j hj=>absurd hj (by omega)⟩
  ·exact(((Blk.new w _ _).alloc _).alloc _).alloc _
  ·exact((Blk.newAu (by simp) _ _).alloc _).alloc _
  ·exact(Blk.newAu (by simp) _ _).alloc _
  ·exact Blk.newAu (by simp) _ _
  ·(repeat (first|(with_reducible exact Below.refl _ _)|(with_reducible refine Below.drew ?_)|(with_reducible refine Zy ?_ _)|(with_reducible refine Below.alloc ?_ (by simp<;>omega) _)|(with_reducible refine Below.setCell ?_ (by simp<;>omega) _)))
 case round =>
  obtain⟨k,hk,rfl,rfl,q0,q1,q2,q3,kb,hno⟩:=hrel
  by_cases h13:k=13
  ·subst h13
   have hcn:¬ code=3∧¬ code=6:=⟨hno 0 (by omega),hno 3 (by omega)⟩
   have KB:=ZL kb
   clear q3 kb hno
   have e0:=q0.cell 0; have f0:=q0.frozen 0
   have e1:=q1.cell 0; have f1:=q1.frozen 0
   have e2:=q2.cell 0; have f2:=q2.frozen 0
   clear q0 q1 q2
   simp at e0 e1 e2
   go_wp2
   simp[bodyPostD,Leaves,settle,results,Tryz.results39,go_sem,e0,e1,e2]
   exact((KB.out.setCell (Nat.le_refl _) _).setCell (Nat.le_succ _) _).setCell (by show w.heap.size≤w.heap.size+1+1; omega) _
  have hk13:(k:Int)<13:=by omega
  obtain⟨c1,c2⟩:=ZhJ k (by omega)
  have e3:=(q3.cell (k*2)).trans c1
  have e4:=(q3.cell (k*2+1)).trans c2
  by_cases hit:((k:Int)+3)=code
  rotate_left
  ·have KB:=ZL kb
   have Q0:=ZL q0
   have Q1:=ZL q1
   have Q2:=ZL q2
   have Q3:=ZL q3
   have HNO:=ZL hno
   clear q0 q1 q2 q3 kb hno c1 c2
   go_wp2
   go_roundg (12-k)
   case measure=>omega
   case rel =>
    have q3:=Q3.out
    refine⟨k+1,by omega,by omega,by simp,Q0.out.alloc _,Q1.out.alloc _,Q2.out.alloc _,q3.alloc _,Below.alloc KB.out KB.out.size _,fun j hj => ?_⟩
    rcases Nat.lt_or_ge j k with h|h
    ·exact HNO.out j h
    ·have:j=k:=by omega
     subst this
     exact fun e=>hit e.symm
  have KB:=ZL kb
  have Q3:=ZL q3
  have Q0:=ZL q0
  have Q1:=ZL q1
  have Q2:=ZL q2
  have l0:=q0.lt; have l1:=q1.lt; have l2:=q2.lt
  have e0:=q0.cell 0; have f0:=q0.frozen 0
  have e1:=q1.cell 0; have f1:=q1.frozen 0
  have e2:=q2.cell 0; have f2:=q2.frozen 0
  clear q0 q1 q2 q3 kb hno
  simp at e0 e1 e2
  have hk2:k=0∨(k=3∧b=0):=by omega
  rcases hk2 with rfl|⟨rfl,rfl⟩
  ·obtain rfl:code=3:=by omega
   simp[WS] at e3 e4
   clear c1 c2 hit hc h13 hk13
   go_wp2_with fail
   refine(ZiR a b _).mono ?_
   rintro e w2 ⟨rfl,rfl⟩
   go_wp2
   refine leaves_cons (f:=75) (args:=#[.pointer (some ⟨w.heap.size,0,none⟩),.pointer (some ⟨w.heap.size+1,0,none⟩),.pointer (some ⟨w.heap.size+1+1,0,none⟩)]) (by simp) (by simp[go_sem]) ?_
   refine(Ur _ _ _ _).mono ?_
   rintro e u' w3 ⟨rfl,rfl,rfl⟩
   have Q2':Blk wr (w.heap.size+1+1) 4 #[.bool false]:=Q2.out
   have z0:=((((Q0.out.set_ 0 (.int .u32 (((a:Int)+b)%4294967296))).far (p:=⟨w.heap.size+1,0,none⟩) (by simp) (.int .i64 0)).far (p:=⟨w.heap.size+1+1,0,none⟩) (by simp; omega) (.bool true)).alloc (.cells #[.int .i64 3,.func (.func 137) #[] #[]] 129)).cell 0
   have z1:=((((Q1.out.far (p:=⟨w.heap.size,0,none⟩) (by simp) (.int .u32 (((a:Int)+b)%4294967296))).set_ 0 (.int .i64 0)).far (p:=⟨w.heap.size+1+1,0,none⟩) (by simp) (.bool true)).alloc (.cells #[.int .i64 3,.func (.func 137) #[] #[]] 129)).cell 0
   have z2:=((((Q2'.far (p:=⟨w.heap.size,0,none⟩) (by simp; omega) (.int .u32 (((a:Int)+b)%4294967296))).far (p:=⟨w.heap.size+1,0,none⟩) (by simp) (.int .i64 0)).set_ 0 (.bool true)).alloc (.cells #[.int .i64 3,.func (.func 137) #[] #[]] 129)).cell 0
   simp only[rr, tt, List.setIfInBounds_toArray,List.set_cons_zero,List.getElem?_toArray,List.getElem?_cons_zero] at z0 z1 z2
   simp[Leaves,settle,results,Tryz.results39,go_sem,z0,z1,z2]
   exact(((KB.out.setCell (Nat.le_refl _) _).setCell (Nat.le_succ _) _).setCell (by show w.heap.size≤w.heap.size+1+1; omega) _).alloc (by simp; omega) _
  ·obtain rfl:code=6:=by omega
   simp[WS] at e3 e4
   clear c1 c2 hit hc h13 hk13
   go_wp2_with fail
   refine(ZgX a _).mono ?_
   rintro e w2 ⟨rfl,rfl⟩
   go_wp2
   refine leaves_cons (f:=75) (args:=#[.pointer (some ⟨w.heap.size,0,none⟩),.pointer (some ⟨w.heap.size+1,0,none⟩),.pointer (some ⟨w.heap.size+1+1,0,none⟩)]) (by simp) (by simp[go_sem]) ?_
   refine(W8 _ _ _ _ _ _ _ (Q0.out.alloc _) (Q1.out.alloc _) (Q2.out.alloc _) (by omega) (by omega) (by omega)).mono ?_
   rintro e u' w3 ⟨rfl,rfl,rfl⟩
   have Q2':Blk wr (w.heap.size+1+1) 4 #[.bool false]:=Q2.out
   have z0:=((((Q0.out.alloc (.cells #[.int .i64 6,.func (.func 140) #[] #[]] 129)).set_ 0 (.int .u32 0)).far (p:=⟨w.heap.size+1,0,none⟩) (by simp) (.int .i64 7)).far (p:=⟨w.heap.size+1+1,0,none⟩) (by simp; omega) (.bool true)).cell 0
   have z1:=((((Q1.out.alloc (.cells #[.int .i64 6,.func (.func 140) #[] #[]] 129)).far (p:=⟨w.heap.size,0,none⟩) (by simp) (.int .u32 0)).set_ 0 (.int .i64 7)).far (p:=⟨w.heap.size+1+1,0,none⟩) (by simp) (.bool true)).cell 0
   have z2:=((((Q2'.alloc (.cells #[.int .i64 6,.func (.func 140) #[] #[]] 129)).far (p:=⟨w.heap.size,0,none⟩) (by simp; omega) (.int .u32 0)).far (p:=⟨w.heap.size+1,0,none⟩) (by simp) (.int .i64 7)).set_ 0 (.bool true)).cell 0
   simp only[rr, tt, List.setIfInBounds_toArray,List.set_cons_zero,List.getElem?_toArray,List.getElem?_cons_zero] at z0 z1 z2
   simp[Leaves,settle,results,Tryz.results39,go_sem,z0,z1,z2]
   exact(((KB.out.alloc (by omega) _).setCell (Nat.le_refl _) _).setCell (Nat.le_succ _) _).setCell (by show w.heap.size≤w.heap.size+1+1; omega) _
def av0 (a b:Nat):Int:=((a:Int)+b)%4294967296
def av1 (a b:Nat):Int:=((a:Int)-b)%4294967296
def av2 (a b:Nat):Int:=(a:Int)*b%4294967296
def av3 (a b:Nat):Int:=(a:Int)/b%4294967296
def av4 (a b:Nat):Int:=(a:Int)%b
def av5 (a b:Nat):Int:=bits .and .u32 a b
def av6 (a b:Nat):Int:=bits .or .u32 a b
def av7 (a b:Nat):Int:=bits .xor .u32 a b
def av8 (a b:Nat):Int:=(a:Int)*2^(b%32)%4294967296
def av9 (a b:Nat):Int:=(a:Int)/2^(b%32)
def ZjM (a b:Nat):Int:=if wrap32 (a:Int)<wrap32 (b:Int) then 1 else 0
def ZjN (a b:Nat):Int:=if(a:Int)<b then 1 else 0
def ZjO (a b:Nat):Int:=if(a:Int)=b then 1 else 0
def Xt:Nat→Nat→Nat→Int
 | 0=>av0
 | 1=>av1
 | 2=>av2
 | 3=>av3
 | 4=>av4
 | 5=>av5
 | 6=>av6
 | 7=>av7
 | 8=>av8
 | 9=>av9
 | 10=>ZjM
 | 11=>ZjN
 | 12=>ZjO
 | _=>fun _ _=>0
theorem al_0 (a b:Nat) (W:World):Calls Tryz.prog 137 #[.int .u32 a,.int .u32 b] W fun e w'=>e = .returned (.int .u32 (av0 a b))∧w'=W:=by
 unfold av0
 go_enter Tryz.func137,Tryz.ntmps137
 go_wp2
 go_ret
 exact⟨rfl,rfl⟩
theorem al_1 (a b:Nat) (W:World):Calls Tryz.prog 138 #[.int .u32 a,.int .u32 b] W fun e w'=>e = .returned (.int .u32 (av1 a b))∧w'=W:=by
 unfold av1
 go_enter Tryz.func138,Tryz.ntmps138
 go_wp2
 go_ret
 exact⟨rfl,rfl⟩
theorem al_2 (a b:Nat) (W:World):Calls Tryz.prog 139 #[.int .u32 a,.int .u32 b] W fun e w'=>e = .returned (.int .u32 (av2 a b))∧w'=W:=by
 unfold av2
 go_enter Tryz.func139,Tryz.ntmps139
 go_wp2
 go_ret
 exact⟨rfl,rfl⟩
theorem al_3 (a b:Nat) (hb:¬ (b:Int)=0) (W:World):Calls Tryz.prog 140 #[.int .u32 a,.int .u32 b] W fun e w'=>e = .returned (.int .u32 (av3 a b))∧w'=W:=by
 unfold av3
 go_enter Tryz.func140,Tryz.ntmps140
 go_wp2
 go_ret
 exact⟨rfl,rfl⟩
theorem al_4 (a b:Nat) (hb:¬ (b:Int)=0) (W:World):Calls Tryz.prog 141 #[.int .u32 a,.int .u32 b] W fun e w'=>e = .returned (.int .u32 (av4 a b))∧w'=W:=by
 unfold av4
 go_enter Tryz.func141,Tryz.ntmps141
 go_wp2
 go_ret
 exact⟨rfl,rfl⟩
theorem al_5 (a b:Nat) (W:World):Calls Tryz.prog 142 #[.int .u32 a,.int .u32 b] W fun e w'=>e = .returned (.int .u32 (av5 a b))∧w'=W:=by
 unfold av5
 go_enter Tryz.func142,Tryz.ntmps142
 go_wp2
 go_ret
 exact⟨rfl,rfl⟩
theorem al_6 (a b:Nat) (W:World):Calls Tryz.prog 143 #[.int .u32 a,.int .u32 b] W fun e w'=>e = .returned (.int .u32 (av6 a b))∧w'=W:=by
 unfold av6
 go_enter Tryz.func143,Tryz.ntmps143
 go_wp2
 go_ret
 exact⟨rfl,rfl⟩
theorem al_7 (a b:Nat) (W:World):Calls Tryz.prog 144 #[.int .u32 a,.int .u32 b] W fun e w'=>e = .returned (.int .u32 (av7 a b))∧w'=W:=by
 unfold av7
 go_enter Tryz.func144,Tryz.ntmps144
 go_wp2
 go_ret
 exact⟨rfl,rfl⟩
theorem al_8 (a b:Nat) (W:World):Calls Tryz.prog 145 #[.int .u32 a,.int .u32 b] W fun e w'=>e = .returned (.int .u32 (av8 a b))∧w'=W:=by
 unfold av8
 go_enter Tryz.func145,Tryz.ntmps145
 go_wp2
 go_ret
 exact⟨rfl,rfl⟩
theorem al_9 (a b:Nat) (W:World):Calls Tryz.prog 146 #[.int .u32 a,.int .u32 b] W fun e w'=>e = .returned (.int .u32 (av9 a b))∧w'=W:=by
 unfold av9
 go_enter Tryz.func146,Tryz.ntmps146
 go_wp2
 go_ret
 exact⟨rfl,rfl⟩
theorem Znd (a b:Nat) (W:World):Calls Tryz.prog 147 #[.int .u32 a,.int .u32 b] W fun e w'=>e = .returned (.int .u32 (ZjM a b))∧w'=W:=by
 unfold ZjM
 by_cases h:wrap32 (a:Int)<wrap32 (b:Int)
 ·rw[if_pos h]
  go_enter Tryz.func147,Tryz.ntmps147
  go_wp2
  go_ret
  exact⟨rfl,rfl⟩
 ·rw[if_neg h]
  go_enter Tryz.func147,Tryz.ntmps147
  go_wp2
  go_ret
  exact⟨rfl,rfl⟩
theorem Zne (a b:Nat) (W:World):Calls Tryz.prog 149 #[.int .u32 a,.int .u32 b] W fun e w'=>e = .returned (.int .u32 (ZjN a b))∧w'=W:=by
 unfold ZjN
 by_cases h:(a:Int)<b
 ·rw[if_pos h]
  go_enter Tryz.func149,Tryz.ntmps149
  go_wp2
  go_ret
  exact⟨rfl,rfl⟩
 ·rw[if_neg h]
  go_enter Tryz.func149,Tryz.ntmps149
  go_wp2
  go_ret
  exact⟨rfl,rfl⟩
theorem Znf (a b:Nat) (W:World):Calls Tryz.prog 151 #[.int .u32 a,.int .u32 b] W fun e w'=>e = .returned (.int .u32 (ZjO a b))∧w'=W:=by
 unfold ZjO
 by_cases h:(a:Int)=b
 ·rw[if_pos h]
  go_enter Tryz.func151,Tryz.ntmps151
  go_wp2
  go_ret
  exact⟨rfl,rfl⟩
 ·rw[if_neg h]
  go_enter Tryz.func151,Tryz.ntmps151
  go_wp2
  go_ret
  exact⟨rfl,rfl⟩
theorem Zng (a:Nat) (W:World):Calls Tryz.prog 140 #[.int .u32 a,.int .u32 0] W fun e w'=>e = .panicked [{ v:=.iface 10 (strVal "integer divide by zero"),recovered:=false }]∧w'=W:=by
 go_enter Tryz.func140,Tryz.ntmps140
 go_wp2
 simp[bodyPost]
theorem Znh (a:Nat) (W:World):Calls Tryz.prog 141 #[.int .u32 a,.int .u32 0] W fun e w'=>e = .panicked [{ v:=.iface 10 (strVal "integer divide by zero"),recovered:=false }]∧w'=W:=by
 go_enter Tryz.func141,Tryz.ntmps141
 go_wp2
 simp[bodyPost]
def ZfY (k b:Nat):Bool:=(k==3||k==4)&&b==0
theorem Zni {b:Nat} (h:ZfY 3 b=false):¬ (b:Int)=0:=fun e=>by
 have e:b=0:=by omega
 rw[e] at h; cases h
theorem Znj {b:Nat} (h:ZfY 4 b=false):¬ (b:Int)=0:=fun e=>by
 have e:b=0:=by omega
 rw[e] at h; cases h
theorem Znk (a b:Nat) (W:World):Calls Tryz.prog (WS 0) #[.int .u32 a,.int .u32 b] W fun e w'=>e = .returned (.int .u32 (Xt 0 a b))∧w'=W:=by
 rw[show Xt 0=av0 from rfl,show WS 0=137 from rfl]
 exact al_0 a b W
theorem Znl (a b:Nat) (W:World):Calls Tryz.prog (WS 1) #[.int .u32 a,.int .u32 b] W fun e w'=>e = .returned (.int .u32 (Xt 1 a b))∧w'=W:=by
 rw[show Xt 1=av1 from rfl,show WS 1=138 from rfl]
 exact al_1 a b W
theorem Znm (a b:Nat) (W:World):Calls Tryz.prog (WS 2) #[.int .u32 a,.int .u32 b] W fun e w'=>e = .returned (.int .u32 (Xt 2 a b))∧w'=W:=by
 rw[show Xt 2=av2 from rfl,show WS 2=139 from rfl]
 exact al_2 a b W
theorem Znn (a b:Nat) (hb:¬ (b:Int)=0) (W:World):Calls Tryz.prog (WS 3) #[.int .u32 a,.int .u32 b] W fun e w'=>e = .returned (.int .u32 (Xt 3 a b))∧w'=W:=by
 rw[show Xt 3=av3 from rfl,show WS 3=140 from rfl]
 exact al_3 a b hb W
theorem Zno (a b:Nat) (hb:¬ (b:Int)=0) (W:World):Calls Tryz.prog (WS 4) #[.int .u32 a,.int .u32 b] W fun e w'=>e = .returned (.int .u32 (Xt 4 a b))∧w'=W:=by
 rw[show Xt 4=av4 from rfl,show WS 4=141 from rfl]
 exact al_4 a b hb W
theorem Znp (a b:Nat) (W:World):Calls Tryz.prog (WS 5) #[.int .u32 a,.int .u32 b] W fun e w'=>e = .returned (.int .u32 (Xt 5 a b))∧w'=W:=by
 rw[show Xt 5=av5 from rfl,show WS 5=142 from rfl]
 exact al_5 a b W
theorem Znq (a b:Nat) (W:World):Calls Tryz.prog (WS 6) #[.int .u32 a,.int .u32 b] W fun e w'=>e = .returned (.int .u32 (Xt 6 a b))∧w'=W:=by
 rw[show Xt 6=av6 from rfl,show WS 6=143 from rfl]
 exact al_6 a b W
theorem Znr (a b:Nat) (W:World):Calls Tryz.prog (WS 7) #[.int .u32 a,.int .u32 b] W fun e w'=>e = .returned (.int .u32 (Xt 7 a b))∧w'=W:=by
 rw[show Xt 7=av7 from rfl,show WS 7=144 from rfl]
 exact al_7 a b W
theorem Zns (a b:Nat) (W:World):Calls Tryz.prog (WS 8) #[.int .u32 a,.int .u32 b] W fun e w'=>e = .returned (.int .u32 (Xt 8 a b))∧w'=W:=by
 rw[show Xt 8=av8 from rfl,show WS 8=145 from rfl]
 exact al_8 a b W
theorem Znt (a b:Nat) (W:World):Calls Tryz.prog (WS 9) #[.int .u32 a,.int .u32 b] W fun e w'=>e = .returned (.int .u32 (Xt 9 a b))∧w'=W:=by
 rw[show Xt 9=av9 from rfl,show WS 9=146 from rfl]
 exact al_9 a b W
theorem ZkJ (a b:Nat) (W:World):Calls Tryz.prog (WS 10) #[.int .u32 a,.int .u32 b] W fun e w'=>e = .returned (.int .u32 (Xt 10 a b))∧w'=W:=by
 rw[show Xt 10=ZjM from rfl,show WS 10=147 from rfl]
 exact Znd a b W
theorem ZkK (a b:Nat) (W:World):Calls Tryz.prog (WS 11) #[.int .u32 a,.int .u32 b] W fun e w'=>e = .returned (.int .u32 (Xt 11 a b))∧w'=W:=by
 rw[show Xt 11=ZjN from rfl,show WS 11=149 from rfl]
 exact Zne a b W
theorem ZkL (a b:Nat) (W:World):Calls Tryz.prog (WS 12) #[.int .u32 a,.int .u32 b] W fun e w'=>e = .returned (.int .u32 (Xt 12 a b))∧w'=W:=by
 rw[show Xt 12=ZjO from rfl,show WS 12=151 from rfl]
 exact Znf a b W
theorem al_y (k:Nat) (hk:k<13) (a b:Nat) (h:ZfY k b=false) (W:World):Calls Tryz.prog (WS k) #[.int .u32 a,.int .u32 b] W fun e w'=>e = .returned (.int .u32 (Xt k a b))∧w'=W:=by
 have hk':k=0∨k=1∨k=2∨k=3∨k=4∨k=5∨k=6∨k=7∨k=8∨k=9∨k=10∨k=11∨k=12:=by omega
 rcases hk' with rfl|rfl|rfl|rfl|rfl|rfl|rfl|rfl|rfl|rfl|rfl|rfl|rfl
 ·exact Znk a b W
 ·exact Znl a b W
 ·exact Znm a b W
 ·exact Znn a b (Zni h) W
 ·exact Zno a b (Znj h) W
 ·exact Znp a b W
 ·exact Znq a b W
 ·exact Znr a b W
 ·exact Zns a b W
 ·exact Znt a b W
 ·exact ZkJ a b W
 ·exact ZkK a b W
 ·exact ZkL a b W
theorem ZhK:∀ (k:Nat),k<13→∀ (a b:Int) (W:World),(callFunc (WS k) #[.int .u32 a,.int .u32 b]).run Tryz.prog W = .ok (.enter (WS k) #[.int .u32 a,.int .u32 b]) W
 | 0,_,_,_,_=>by kernel_rfl
 | 1,_,_,_,_=>by kernel_rfl
 | 2,_,_,_,_=>by kernel_rfl
 | 3,_,_,_,_=>by kernel_rfl
 | 4,_,_,_,_=>by kernel_rfl
 | 5,_,_,_,_=>by kernel_rfl
 | 6,_,_,_,_=>by kernel_rfl
 | 7,_,_,_,_=>by kernel_rfl
 | 8,_,_,_,_=>by kernel_rfl
 | 9,_,_,_,_=>by kernel_rfl
 | 10,_,_,_,_=>by kernel_rfl
 | 11,_,_,_,_=>by kernel_rfl
 | 12,_,_,_,_=>by kernel_rfl
 | k+13,h,_,_,_=>absurd h (by omega)
theorem al_n (k:Nat) (a b:Nat) (h:ZfY k b=true) (W:World):Calls Tryz.prog (WS k) #[.int .u32 a,.int .u32 b] W fun e w'=>e = .panicked [{ v:=.iface 10 (strVal "integer divide by zero"),recovered:=false }]∧w'=W:=by
 unfold ZfY at h
 simp only[rr, tt, Bool.and_eq_true,Bool.or_eq_true,beq_iff_eq] at h
 obtain⟨rfl|rfl,rfl⟩:=h
 ·exact Zng a W
 ·exact Znh a W
def rkV (code:Int) (a b:Nat):Array Value:=if 3≤code∧code≤15 then(if ZfY (code-3).toNat b=true then #[.int .u32 0,.int .i64 7,.bool true] else #[.int .u32 (Xt (code-3).toNat a b),.int .i64 0,.bool true]) else #[.int .u32 0,.int .i64 0,.bool false]
set_option maxRecDepth 100000 in
theorem ZgZ (code:Int) (a b:Nat) (w:World) :
  Calls Tryz.prog 39 #[.int .i64 code,.int .u32 a,.int .u32 b] w fun e w' =>
   e = .returned (.tuple (rkV code a b))∧Below w.heap.size w w':=by
 obtain⟨R,hR⟩:∃ R,rkV code a b=R:=⟨_,rfl⟩
 rw[hR]
 have hmf:∀ (fn:Fn) (first cap:Array Value) (w:World),(Instr.makeFunc fn first cap).run Tryz.prog w = .ok (.func fn first cap) w:=fun _ _ _ _=>rfl
 go_enter_defers Tryz.func39,Tryz.ntmps39
 go_wp2_with fail
 refine(Zfo _).mono ?_
 rintro e w1 ⟨rfl,rfl⟩
 go_wp2
 go_loopg [13] 13 (fun z i wr=>AluR w wr code z i)
 case atStart =>
  refine⟨0,by omega,rfl,rfl,?_,?_,?_,?_,?_,fun j hj=>absurd hj (by omega)⟩
  ·exact(((Blk.new w _ _).alloc _).alloc _).alloc _
  ·exact((Blk.newAu (by simp) _ _).alloc _).alloc _
  ·exact(Blk.newAu (by simp) _ _).alloc _
  ·exact Blk.newAu (by simp) _ _
  ·(repeat (first|(with_reducible exact Below.refl _ _)|(with_reducible refine Below.drew ?_)|(with_reducible refine Zy ?_ _)|(with_reducible refine Below.alloc ?_ (by simp<;>omega) _)|(with_reducible refine Below.setCell ?_ (by simp<;>omega) _)))
 case round =>
  obtain⟨k,hk,rfl,rfl,q0,q1,q2,q3,kb,hno⟩:=hrel
  by_cases h13:k=13
  ·subst h13
   have hcn:rkV code a b = #[.int .u32 0,.int .i64 0,.bool false]:=by
    unfold rkV
    rw[if_neg]
    intro hcc
    exact hno (code-3).toNat (by omega) (by omega)
   rw[hcn] at hR
   subst hR
   have KB:=ZL kb
   clear q3 kb hno
   have e0:=q0.cell 0; have f0:=q0.frozen 0
   have e1:=q1.cell 0; have f1:=q1.frozen 0
   have e2:=q2.cell 0; have f2:=q2.frozen 0
   clear q0 q1 q2
   simp at e0 e1 e2
   go_wp2
   simp[bodyPostD,Leaves,settle,results,Tryz.results39,go_sem,e0,e1,e2]
   exact((KB.out.setCell (Nat.le_refl _) _).setCell (Nat.le_succ _) _).setCell (by show w.heap.size≤w.heap.size+1+1; omega) _
  have hk13:(k:Int)<13:=by omega
  obtain⟨c1,c2⟩:=ZhJ k (by omega)
  have e3:=(q3.cell (k*2)).trans c1
  have e4:=(q3.cell (k*2+1)).trans c2
  by_cases hit:((k:Int)+3)=code
  rotate_left
  ·have KB:=ZL kb
   have Q0:=ZL q0
   have Q1:=ZL q1
   have Q2:=ZL q2
   have Q3:=ZL q3
   have HNO:=ZL hno
   clear q0 q1 q2 q3 kb hno c1 c2
   go_wp2
   go_roundg (12-k)
   case measure=>omega
   case rel =>
    have q3:=Q3.out
    refine⟨k+1,by omega,by omega,by simp,Q0.out.alloc _,Q1.out.alloc _,Q2.out.alloc _,q3.alloc _,Below.alloc KB.out KB.out.size _,fun j hj => ?_⟩
    rcases Nat.lt_or_ge j k with h|h
    ·exact HNO.out j h
    ·have:j=k:=by omega
     subst this
     exact fun e=>hit e.symm
  have KB:=ZL kb
  have Q3:=ZL q3
  have Q0:=ZL q0
  have Q1:=ZL q1
  have Q2:=ZL q2
  have l0:=q0.lt; have l1:=q1.lt; have l2:=q2.lt
  have e0:=q0.cell 0; have f0:=q0.frozen 0
  have e1:=q1.cell 0; have f1:=q1.frozen 0
  have e2:=q2.cell 0; have f2:=q2.frozen 0
  clear q0 q1 q2 q3 kb hno
  simp at e0 e1 e2
  have hcode:code=(k:Int)+3:=hit.symm
  subst hcode
  have hkk:((k:Int)+3-3).toNat=k:=by omega
  clear c1 c2 hit h13
  cases hz:ZfY k b
  ·have hrk:rkV ((k:Int)+3) a b = #[.int .u32 (Xt k a b),.int .i64 0,.bool true]:=by unfold rkV; rw[if_pos (by omega),hkk,hz]; rfl
   rw[hrk] at hR
   subst hR
   have hal:=al_y k (by omega) a b hz
   clear hrk hz hkk
   have hfr:=ZhK k (by omega) a b
   generalize WS k=fk at *
   go_wp2_with fail
   refine(hal _).mono ?_
   rintro e w2 ⟨rfl,rfl⟩
   go_wp2
   refine leaves_cons (f:=75) (args:=#[.pointer (some ⟨w.heap.size,0,none⟩),.pointer (some ⟨w.heap.size+1,0,none⟩),.pointer (some ⟨w.heap.size+1+1,0,none⟩)]) (by simp) (by simp[go_sem]) ?_
   refine(Ur _ _ _ _).mono ?_
   rintro e u' w3 ⟨rfl,rfl,rfl⟩
   have Q2':Blk wr (w.heap.size+1+1) 4 #[.bool false]:=Q2.out
   have z0:=((((Q0.out.set_ 0 (.int .u32 (Xt k a b))).far (p:=⟨w.heap.size+1,0,none⟩) (by simp) (.int .i64 0)).far (p:=⟨w.heap.size+1+1,0,none⟩) (by simp; omega) (.bool true)).alloc (.cells #[.int .i64 ((k:Int)+3),.func (.func fk) #[] #[]] 129)).cell 0
   have z1:=((((Q1.out.far (p:=⟨w.heap.size,0,none⟩) (by simp) (.int .u32 (Xt k a b))).set_ 0 (.int .i64 0)).far (p:=⟨w.heap.size+1+1,0,none⟩) (by simp) (.bool true)).alloc (.cells #[.int .i64 ((k:Int)+3),.func (.func fk) #[] #[]] 129)).cell 0
   have z2:=((((Q2'.far (p:=⟨w.heap.size,0,none⟩) (by simp; omega) (.int .u32 (Xt k a b))).far (p:=⟨w.heap.size+1,0,none⟩) (by simp) (.int .i64 0)).set_ 0 (.bool true)).alloc (.cells #[.int .i64 ((k:Int)+3),.func (.func fk) #[] #[]] 129)).cell 0
   simp only[rr, tt, List.setIfInBounds_toArray,List.set_cons_zero,List.getElem?_toArray,List.getElem?_cons_zero] at z0 z1 z2
   simp[Leaves,settle,results,Tryz.results39,go_sem,z0,z1,z2]
   exact(((KB.out.setCell (Nat.le_refl _) _).setCell (Nat.le_succ _) _).setCell (by show w.heap.size≤w.heap.size+1+1; omega) _).alloc (by simp; omega) _
  ·have hrk:rkV ((k:Int)+3) a b = #[.int .u32 0,.int .i64 7,.bool true]:=by unfold rkV; rw[if_pos (by omega),hkk,hz]; rfl
   rw[hrk] at hR
   subst hR
   have hal:=al_n k a b hz
   clear hrk hz hkk
   have hfr:=ZhK k (by omega) a b
   generalize WS k=fk at *
   go_wp2_with fail
   refine(hal _).mono ?_
   rintro e w2 ⟨rfl,rfl⟩
   go_wp2
   refine leaves_cons (f:=75) (args:=#[.pointer (some ⟨w.heap.size,0,none⟩),.pointer (some ⟨w.heap.size+1,0,none⟩),.pointer (some ⟨w.heap.size+1+1,0,none⟩)]) (by simp) (by simp[go_sem]) ?_
   refine(W8 _ _ _ _ _ _ _ (Q0.out.alloc _) (Q1.out.alloc _) (Q2.out.alloc _) (by omega) (by omega) (by omega)).mono ?_
   rintro e u' w3 ⟨rfl,rfl,rfl⟩
   have Q2':Blk wr (w.heap.size+1+1) 4 #[.bool false]:=Q2.out
   have z0:=((((Q0.out.alloc (.cells #[.int .i64 ((k:Int)+3),.func (.func fk) #[] #[]] 129)).set_ 0 (.int .u32 0)).far (p:=⟨w.heap.size+1,0,none⟩) (by simp) (.int .i64 7)).far (p:=⟨w.heap.size+1+1,0,none⟩) (by simp; omega) (.bool true)).cell 0
   have z1:=((((Q1.out.alloc (.cells #[.int .i64 ((k:Int)+3),.func (.func fk) #[] #[]] 129)).far (p:=⟨w.heap.size,0,none⟩) (by simp) (.int .u32 0)).set_ 0 (.int .i64 7)).far (p:=⟨w.heap.size+1+1,0,none⟩) (by simp) (.bool true)).cell 0
   have z2:=((((Q2'.alloc (.cells #[.int .i64 ((k:Int)+3),.func (.func fk) #[] #[]] 129)).far (p:=⟨w.heap.size,0,none⟩) (by simp; omega) (.int .u32 0)).far (p:=⟨w.heap.size+1,0,none⟩) (by simp) (.int .i64 7)).set_ 0 (.bool true)).cell 0
   simp only[rr, tt, List.setIfInBounds_toArray,List.set_cons_zero,List.getElem?_toArray,List.getElem?_cons_zero] at z0 z1 z2
   simp[Leaves,settle,results,Tryz.results39,go_sem,z0,z1,z2]
   exact(((KB.out.alloc (by omega) _).setCell (Nat.le_refl _) _).setCell (Nat.le_succ _) _).setCell (by show w.heap.size≤w.heap.size+1+1; omega) _
def toU (m:Int):Nat:=(m%4294967296).toNat
theorem ZhL (m:Int):toU m<4294967296:=by unfold toU; omega
theorem Qw (m:Int):u32.wrap m=((toU m:Nat):Int):=by
 unfold toU
 simp only[rr, tt, IntKind.wrap_u32]
 omega
def ZiS (k:Bool):Cp:=KJ (if k=true then 1 else 0)
def lenS (lo hi:Nat):Nat:=toU (if(4294967295:Int)<u64.wrap ((hi:Int)-u64.wrap (lo:Int)) then(4294967295:Int) else u64.wrap ((hi:Int)-u64.wrap (lo:Int)))
theorem Zfp (k:Bool):ConOk Tryz.prog 84 3 (Con.pure [.bool k] (ZiS k).val):=by
 cases k
 ·exact ZK (d:=1) (Zt (L:=100) Zg (Zf _) (Ze _) 20) (tr_f false) (by simp only[rr, tt, and_self]) rfl rfl
 ·exact ZK (d:=1) (Zt (L:=100) Zg (Zf _) (Ze _) 20) (tr_t true) (by simp only[rr, tt, and_self]) rfl rfl
def tkS (op:Int) (a b:Nat):Bool:=if op=25 then((a:Int)==(b:Int)) else if op=26 then((a:Int) !=(b:Int)) else if op=27 then decide (IntKind.i32.wrap (a:Int)<IntKind.i32.wrap (b:Int)) else if op=28 then !decide (IntKind.i32.wrap (a:Int)<IntKind.i32.wrap (b:Int)) else false
def tkI (op:Int):Bool:=decide (op=25)||decide (op=26)||decide (op=27)||decide (op=28)
theorem Zg0 (op:Int) (a b:Nat):ConOk Tryz.prog 38 3 (Con.pure [.int .i64 op,.int .u32 (a:Nat),.int .u32 (b:Nat)] (.tuple ⟨[.bool (tkS op a b),.bool (tkI op)]⟩)):=by
 have hs:=fun {op:Int} {T:List (Nat×Bool)} {v:Value} {q:Prop} (h:obs (evF Tryz.prog Zk Zh 100 20 38 [.int .i64 op,.int .u32 (a:Nat),.int .u32 (b:Nat)] (stT T))=some (v,q)) (hq:q) (hv:Ym v=true)=>ZK (d:=1) (Zt (L:=100) Zg (Zf _) (Ze _) 20) h hq rfl hv
 by_cases h1:op=25
 ·subst h1; exact hs (Zm9 a b) (by simp only[rr, tt, and_self]) rfl
 by_cases h2:op=26
 ·subst h2; exact hs (Zna a b) (by simp only[rr, tt, and_self]) rfl
 by_cases h3:op=27
 ·subst h3; exact hs (Znb a b) (by simp only[rr, tt, and_self]) rfl
 by_cases h4:op=28
 ·subst h4; exact hs (Znc a b) (by simp only[rr, tt, and_self]) rfl
 have e1:tkS op a b=false:=by unfold tkS; simp only[rr, tt, h1,h2,h3,h4,if_false]
 have e2:tkI op=false:=by unfold tkI; simp only[rr, tt, h1,h2,h3,h4,decide_false,Bool.or_self]
 rw[e1,e2]
 exact hs (tk_n op a b) (by simp only[rr, tt, QR h1,QR h2,QR h3,QR h4,and_self]) rfl
def rkN (op:Int) (a b:Nat):Nat:=if 3≤op∧op≤15 then(if ZfY (op-3).toNat b=true then 0 else toU (Xt (op-3).toNat a b)) else 0
def rkT (op:Int) (b:Nat):Nat:=if 3≤op∧op≤15 then(if ZfY (op-3).toNat b=true then 7 else 0) else 0
def rkI (op:Int):Bool:=decide (3≤op∧op≤15)
theorem Zb1 (o:BinOp) (h:o = .and∨o = .or∨o = .xor) (a b:Int):0≤bits o .u32 a b∧bits o .u32 a b<4294967296:=by
 rcases h with rfl|rfl|rfl
 ·show 0≤u32.wrap _∧u32.wrap _<_
  simp only[rr, tt, IntKind.wrap_u32]; omega
 ·show 0≤u32.wrap _∧u32.wrap _<_
  simp only[rr, tt, IntKind.wrap_u32]; omega
 ·show 0≤u32.wrap _∧u32.wrap _<_
  simp only[rr, tt, IntKind.wrap_u32]; omega
theorem ZiT (k a b:Nat) (ha:a<4294967296) (hb:b<4294967296) (hk:k<13):0≤Xt k a b∧Xt k a b<4294967296:=by
 have hk':k=0∨k=1∨k=2∨k=3∨k=4∨k=5∨k=6∨k=7∨k=8∨k=9∨k=10∨k=11∨k=12:=by omega
 have hp:∀ n:Nat,(1:Int)≤2^n:=fun n=>by
  have:1≤2^n:=Nat.one_le_two_pow
  have h2:((2^n:Nat):Int)=(2:Int)^n:=by rw[Int.natCast_pow]; rfl
  omega
 have hm:∀ x:Int,0≤x%4294967296∧x%4294967296<4294967296:=fun x=>by omega
 rcases hk' with rfl|rfl|rfl|rfl|rfl|rfl|rfl|rfl|rfl|rfl|rfl|rfl|rfl
 ·rw[show Xt 0=av0 from rfl]; unfold av0; exact hm _
 ·rw[show Xt 1=av1 from rfl]; unfold av1; exact hm _
 ·rw[show Xt 2=av2 from rfl]; unfold av2; exact hm _
 ·rw[show Xt 3=av3 from rfl]; unfold av3; exact hm _
 ·rw[show Xt 4=av4 from rfl]; unfold av4
  by_cases h0:(b:Int)=0
  ·rw[h0,Int.emod_zero]; omega
  ·have:=Int.emod_nonneg (a:Int) h0
   have:=Int.emod_lt_of_pos (a:Int) (show(0:Int)<b by omega)
   omega
 ·rw[show Xt 5=av5 from rfl]; unfold av5; exact Zb1 _ (.inl rfl) _ _
 ·rw[show Xt 6=av6 from rfl]; unfold av6; exact Zb1 _ (.inr (.inl rfl)) _ _
 ·rw[show Xt 7=av7 from rfl]; unfold av7; exact Zb1 _ (.inr (.inr rfl)) _ _
 ·rw[show Xt 8=av8 from rfl]; unfold av8; exact hm _
 ·rw[show Xt 9=av9 from rfl]; unfold av9
  have h1:=hp (b%32)
  have h2:0≤(a:Int)/2^(b%32):=Int.ediv_nonneg (by omega) (by omega)
  have h3:(a:Int)/2^(b%32)≤(a:Int):=Int.ediv_le_self _ (by omega)
  omega
 ·rw[show Xt 10=ZjM from rfl]; unfold ZjM; split<;>omega
 ·rw[show Xt 11=ZjN from rfl]; unfold ZjN; split<;>omega
 ·rw[show Xt 12=ZjO from rfl]; unfold ZjO; split<;>omega
theorem ZkM (op:Int) (a b:Nat) (ha:a<4294967296) (hb:b<4294967296):ConOk Tryz.prog 39 3 (Con.pure [.int .i64 op,.int .u32 (a:Nat),.int .u32 (b:Nat)] (.tuple ⟨[.int .u32 (rkN op a b:Nat),.int .i64 (rkT op b:Nat),.bool (rkI op)]⟩)):=by
 refine ZV (d:=1) (Qt Zg (by kernel_rfl)) (fun u hu => ?_) rfl fun w => ?_
 ·simp only[rr, tt, List.mem_cons,List.not_mem_nil,or_false] at hu
  rcases hu with rfl|rfl|rfl<;>rfl
 ·have h:=ZgZ op a b w
  have e:(.tuple (rkV op a b):Value) = .tuple ⟨[.int .u32 (rkN op a b:Nat),.int .i64 (rkT op b:Nat),.bool (rkI op)]⟩:=by
   unfold rkV rkN rkT rkI
   by_cases h1:3≤op∧op≤15
   ·simp only[rr, tt, h1,and_self,if_true,decide_true]
    cases hz:ZfY (op-3).toNat b
    ·have hr:=ZiT (op-3).toNat a b ha hb (by omega)
     have e1:((toU (Xt (op-3).toNat a b):Nat):Int)=Xt (op-3).toNat a b:=by unfold toU; omega
     simp only[rr, tt, Bool.false_eq_true,if_false,e1]
     rfl
    ·simp only[rr, tt, if_true]; rfl
   ·simp only[rr, tt, h1,if_false,decide_false]; rfl
  rw[e] at h
  exact h
def KC (fr:Nat→Cp) (op:Int) (b c:Nat) (m:Int):Cp :=
 if op=1 then KJ (toU m) else if op=2 then KJ (toU ((toU m:Nat)*(4096:Int))) else if op=16 then KJ (toU (((fr b).C:Int)+(toU m:Nat))) else if op=41 then KL (fr b) else if op=32 then KW (fr b) (toU (((fr b).C:Int)+(fr c).C)) else if op=33 then KW (fr b) (toU (((fr b).C:Int)+(toU m:Nat))) else if op=34 then KW (fr b) (fr c).C else if op=35 then ZfW (fr b) (fr c).C false else if op=36 then ZfW (fr b) (fr c).C true else if op=37 then Zkg (fr b) (fr c).C else if op=38 then ZeT (fr b) (fr c) else if op=39 then ZeU (fr b) (fr c) else if op=40 then ZcM (fr c) (fr b) else if op=42 then KJ (fr b).C else if op=43 then KJ (fr b).lo else if op=44 then KJ (lenS (fr b).lo (fr b).hi) else if op=45 then KJ (toU (fr b).P) else if op=46 then KJ (toU (fr b).Y) else if op=47 then ZiS (fr b).V else if op=48 then ZiS (Zbe (fr b)) else if op=49 then JT fr m else fr b
theorem YC {cB:Cp} {lo hi:Nat} {L:Sy.Steps} (hc:cB.Ok) (hl:lo=cB.lo) (hh:hi=cB.hi) (hL:∀ x∈L,ConOk Tryz.prog x.2.1 3 x.2.2.1∧FlatC x.2.2.1):∀ x∈mkL cB lo hi L,ConOk Tryz.prog x.2.1 3 x.2.2.1∧FlatC x.2.2.1:=fun x hx=>by
 unfold mkL at hx
 rcases List.mem_cons.1 hx with rfl|hx
 ·exact⟨Zdz cB hc lo hi hl hh,⟨fun x hx=>by cases hx⟩⟩
 ·exact hL x hx
theorem ZiU (fr:Nat→Cp) (op:Int) (a b c:Nat) (m:Int) (hfr:Wp fr) (hb0:b<16) (hc0:c<16):ConOk Tryz.prog 40 3 (Con.pure [Q8 fr,(inS op a b c m).val] (KC fr op b c m).val):=by
 have hb:b<17:=by omega
 have hc:c<17:=by omega
 have z0:decide ((0:Int)≤(b:Int))=true:=decide_eq_true (by omega)
 have z1:decide ((b:Int)<16)=true:=decide_eq_true (by omega)
 have z2:decide ((0:Int)≤(c:Int))=true:=decide_eq_true (by omega)
 have z3:decide ((c:Int)<16)=true:=decide_eq_true (by omega)
 have hNF:∀ {args:List Value} {v:Value},FlatC (Con.pure args v):=fun {_ _}=>⟨fun x hx=>by cases hx⟩
 by_cases h1:op=1
 ·subst h1
  have e:KC fr 1 b c m=KJ (toU m):=rfl
  rw[e]
  have hr:=mk_1 (inS 1 a b c m) fr (fr b) (fr b).lo (fr b).hi 
  simp only[rr, tt, Int.toNat_natCast,Qg fr b hb,Qh fr b hb,Qi fr b hb,Qj fr b hb,Qe fr b hb,Qk fr b hb,Ql fr b hb,Qm fr b hb,Zo fr b hb,Zq fr b hb,Qg fr c hc,Qh fr c hc,Qi fr c hc,Qj fr c hc,Qe fr c hc,Qk fr c hc,Ql fr c hc,Qm fr c hc,Zo fr c hc,Zq fr c hc,Qw] at hr
  refine ZK (d:=1) (Zt (L:=100) Zg (Zs (Zj (YC (hfr b) rfl rfl (fun y hy => ?_))) (Zf _)) (Ze _) 20) hr ?_ rfl rfl
  ·cases hy
  ·simp only[rr, tt, z0,z1,z2,z3,Bool.and_self,cond_true,and_true,true_and,and_self]
 by_cases h2:op=2
 ·subst h2
  have e:KC fr 2 b c m=KJ (toU ((toU m:Nat)*(4096:Int))):=rfl
  rw[e]
  have hr:=mk_2 (inS 2 a b c m) fr (fr b) (fr b).lo (fr b).hi 
  simp only[rr, tt, Int.toNat_natCast,Qg fr b hb,Qh fr b hb,Qi fr b hb,Qj fr b hb,Qe fr b hb,Qk fr b hb,Ql fr b hb,Qm fr b hb,Zo fr b hb,Zq fr b hb,Qg fr c hc,Qh fr c hc,Qi fr c hc,Qj fr c hc,Qe fr c hc,Qk fr c hc,Ql fr c hc,Qm fr c hc,Zo fr c hc,Zq fr c hc,Qw] at hr
  refine ZK (d:=1) (Zt (L:=100) Zg (Zs (Zj (YC (hfr b) rfl rfl (fun y hy => ?_))) (Zf _)) (Ze _) 20) hr ?_ rfl rfl
  ·cases hy
  ·simp only[rr, tt, z0,z1,z2,z3,Bool.and_self,cond_true,and_true,true_and,and_self]
 by_cases h16:op=16
 ·subst h16
  have e:KC fr 16 b c m=KJ (toU (((fr b).C:Int)+(toU m:Nat))):=rfl
  rw[e]
  have hr:=ZmQ (inS 16 a b c m) fr (fr b) (fr b).lo (fr b).hi 
  simp only[rr, tt, Int.toNat_natCast,Qg fr b hb,Qh fr b hb,Qi fr b hb,Qj fr b hb,Qe fr b hb,Qk fr b hb,Ql fr b hb,Qm fr b hb,Zo fr b hb,Zq fr b hb,Qg fr c hc,Qh fr c hc,Qi fr c hc,Qj fr c hc,Qe fr c hc,Qk fr c hc,Ql fr c hc,Qm fr c hc,Zo fr c hc,Zq fr c hc,Qw] at hr
  refine ZK (d:=1) (Zt (L:=100) Zg (Zs (Zj (YC (hfr b) rfl rfl (fun y hy => ?_))) (Zf _)) (Ze _) 20) hr ?_ rfl rfl
  ·cases hy
  ·simp only[rr, tt, z0,z1,z2,z3,Bool.and_self,cond_true,and_true,true_and,and_self]
 by_cases h41:op=41
 ·subst h41
  have e:KC fr 41 b c m=KL (fr b):=rfl
  rw[e]
  have hr:=ZmR (inS 41 a b c m) fr (fr b) (fr b).lo (fr b).hi (KL (fr b))
  simp only[rr, tt, Int.toNat_natCast,Qg fr b hb,Qh fr b hb,Qi fr b hb,Qj fr b hb,Qe fr b hb,Qk fr b hb,Ql fr b hb,Qm fr b hb,Zo fr b hb,Zq fr b hb,Qg fr c hc,Qh fr c hc,Qi fr c hc,Qj fr c hc,Qe fr c hc,Qk fr c hc,Ql fr c hc,Qm fr c hc,Zo fr c hc,Zq fr c hc,Qw] at hr
  refine ZK (d:=1) (Zt (L:=100) Zg (Zs (Zj (YC (hfr b) rfl rfl (fun y hy => ?_))) (Zf _)) (Ze _) 20) hr ?_ rfl rfl
  ·obtain rfl:=List.mem_singleton.1 hy
   exact⟨Zdw (fr b),hNF⟩
  ·simp only[rr, tt, z0,z1,z2,z3,Bool.and_self,cond_true,and_true,true_and,and_self]
 by_cases h32:op=32
 ·subst h32
  have e:KC fr 32 b c m=KW (fr b) (toU (((fr b).C:Int)+(fr c).C)):=rfl
  rw[e]
  have hr:=ZmS (inS 32 a b c m) fr (fr b) (fr b).lo (fr b).hi (toU (((fr b).C:Int)+(fr c).C)) (KW (fr b) (toU (((fr b).C:Int)+(fr c).C)))
  simp only[rr, tt, Int.toNat_natCast,Qg fr b hb,Qh fr b hb,Qi fr b hb,Qj fr b hb,Qe fr b hb,Qk fr b hb,Ql fr b hb,Qm fr b hb,Zo fr b hb,Zq fr b hb,Qg fr c hc,Qh fr c hc,Qi fr c hc,Qj fr c hc,Qe fr c hc,Qk fr c hc,Ql fr c hc,Qm fr c hc,Zo fr c hc,Zq fr c hc,Qw] at hr
  refine ZK (d:=1) (Zt (L:=100) Zg (Zs (Zj (YC (hfr b) rfl rfl (fun y hy => ?_))) (Zf _)) (Ze _) 20) hr ?_ rfl rfl
  ·obtain rfl:=List.mem_singleton.1 hy
   exact⟨Kg (fr b) _ (hfr b) (ZhL _),hNF⟩
  ·simp only[rr, tt, z0,z1,z2,z3,Bool.and_self,cond_true,and_true,true_and,and_self]
 by_cases h33:op=33
 ·subst h33
  have e:KC fr 33 b c m=KW (fr b) (toU (((fr b).C:Int)+(toU m:Nat))):=rfl
  rw[e]
  have hr:=ZmT (inS 33 a b c m) fr (fr b) (fr b).lo (fr b).hi (toU (((fr b).C:Int)+(toU m:Nat))) (KW (fr b) (toU (((fr b).C:Int)+(toU m:Nat))))
  simp only[rr, tt, Int.toNat_natCast,Qg fr b hb,Qh fr b hb,Qi fr b hb,Qj fr b hb,Qe fr b hb,Qk fr b hb,Ql fr b hb,Qm fr b hb,Zo fr b hb,Zq fr b hb,Qg fr c hc,Qh fr c hc,Qi fr c hc,Qj fr c hc,Qe fr c hc,Qk fr c hc,Ql fr c hc,Qm fr c hc,Zo fr c hc,Zq fr c hc,Qw] at hr
  refine ZK (d:=1) (Zt (L:=100) Zg (Zs (Zj (YC (hfr b) rfl rfl (fun y hy => ?_))) (Zf _)) (Ze _) 20) hr ?_ rfl rfl
  ·obtain rfl:=List.mem_singleton.1 hy
   exact⟨Kg (fr b) _ (hfr b) (ZhL _),hNF⟩
  ·simp only[rr, tt, z0,z1,z2,z3,Bool.and_self,cond_true,and_true,true_and,and_self]
 by_cases h34:op=34
 ·subst h34
  have e:KC fr 34 b c m=KW (fr b) (fr c).C:=rfl
  rw[e]
  have hr:=ZmU (inS 34 a b c m) fr (fr b) (fr b).lo (fr b).hi (fr c).C (KW (fr b) (fr c).C)
  simp only[rr, tt, Int.toNat_natCast,Qg fr b hb,Qh fr b hb,Qi fr b hb,Qj fr b hb,Qe fr b hb,Qk fr b hb,Ql fr b hb,Qm fr b hb,Zo fr b hb,Zq fr b hb,Qg fr c hc,Qh fr c hc,Qi fr c hc,Qj fr c hc,Qe fr c hc,Qk fr c hc,Ql fr c hc,Qm fr c hc,Zo fr c hc,Zq fr c hc,Qw] at hr
  refine ZK (d:=1) (Zt (L:=100) Zg (Zs (Zj (YC (hfr b) rfl rfl (fun y hy => ?_))) (Zf _)) (Ze _) 20) hr ?_ rfl rfl
  ·obtain rfl:=List.mem_singleton.1 hy
   exact⟨Kg (fr b) _ (hfr b) (hfr c).1,hNF⟩
  ·simp only[rr, tt, z0,z1,z2,z3,Bool.and_self,cond_true,and_true,true_and,and_self]
 by_cases h35:op=35
 ·subst h35
  have e:KC fr 35 b c m=ZfW (fr b) (fr c).C false:=rfl
  rw[e]
  have hr:=ZmV (inS 35 a b c m) fr (fr b) (fr b).lo (fr b).hi (fr c).C (ZfW (fr b) (fr c).C false)
  simp only[rr, tt, Int.toNat_natCast,Qg fr b hb,Qh fr b hb,Qi fr b hb,Qj fr b hb,Qe fr b hb,Qk fr b hb,Ql fr b hb,Qm fr b hb,Zo fr b hb,Zq fr b hb,Qg fr c hc,Qh fr c hc,Qi fr c hc,Qj fr c hc,Qe fr c hc,Qk fr c hc,Ql fr c hc,Qm fr c hc,Zo fr c hc,Zq fr c hc,Qw] at hr
  refine ZK (d:=1) (Zt (L:=100) Zg (Zs (Zj (YC (hfr b) rfl rfl (fun y hy => ?_))) (Zf _)) (Ze _) 20) hr ?_ rfl rfl
  ·obtain rfl:=List.mem_singleton.1 hy
   exact⟨Zgz (fr b) _ (hfr b) (hfr c).1,hNF⟩
  ·simp only[rr, tt, z0,z1,z2,z3,Bool.and_self,cond_true,and_true,true_and,and_self]
 by_cases h36:op=36
 ·subst h36
  have e:KC fr 36 b c m=ZfW (fr b) (fr c).C true:=rfl
  rw[e]
  have hr:=ZmW (inS 36 a b c m) fr (fr b) (fr b).lo (fr b).hi (fr c).C (ZfW (fr b) (fr c).C true)
  simp only[rr, tt, Int.toNat_natCast,Qg fr b hb,Qh fr b hb,Qi fr b hb,Qj fr b hb,Qe fr b hb,Qk fr b hb,Ql fr b hb,Qm fr b hb,Zo fr b hb,Zq fr b hb,Qg fr c hc,Qh fr c hc,Qi fr c hc,Qj fr c hc,Qe fr c hc,Qk fr c hc,Ql fr c hc,Qm fr c hc,Zo fr c hc,Zq fr c hc,Qw] at hr
  refine ZK (d:=1) (Zt (L:=100) Zg (Zs (Zj (YC (hfr b) rfl rfl (fun y hy => ?_))) (Zf _)) (Ze _) 20) hr ?_ rfl rfl
  ·obtain rfl:=List.mem_singleton.1 hy
   exact⟨Zdx (fr b) _ (hfr b) (hfr c).1,hNF⟩
  ·simp only[rr, tt, z0,z1,z2,z3,Bool.and_self,cond_true,and_true,true_and,and_self]
 by_cases h37:op=37
 ·subst h37
  have e:KC fr 37 b c m=Zkg (fr b) (fr c).C:=rfl
  rw[e]
  have hr:=ZmX (inS 37 a b c m) fr (fr b) (fr b).lo (fr b).hi (fr c).C (Zkg (fr b) (fr c).C)
  simp only[rr, tt, Int.toNat_natCast,Qg fr b hb,Qh fr b hb,Qi fr b hb,Qj fr b hb,Qe fr b hb,Qk fr b hb,Ql fr b hb,Qm fr b hb,Zo fr b hb,Zq fr b hb,Qg fr c hc,Qh fr c hc,Qi fr c hc,Qj fr c hc,Qe fr c hc,Qk fr c hc,Ql fr c hc,Qm fr c hc,Zo fr c hc,Zq fr c hc,Qw] at hr
  refine ZK (d:=1) (Zt (L:=100) Zg (Zs (Zj (YC (hfr b) rfl rfl (fun y hy => ?_))) (Zf _)) (Ze _) 20) hr ?_ rfl rfl
  ·obtain rfl:=List.mem_singleton.1 hy
   exact⟨Zgy (fr b) _ (hfr b) (hfr c).1,hNF⟩
  ·simp only[rr, tt, z0,z1,z2,z3,Bool.and_self,cond_true,and_true,true_and,and_self]
 by_cases h38:op=38
 ·subst h38
  have e:KC fr 38 b c m=ZeT (fr b) (fr c):=rfl
  rw[e]
  have hr:=ZmY (inS 38 a b c m) fr (fr b) (fr b).lo (fr b).hi (fr c) (ZeT (fr b) (fr c))
  simp only[rr, tt, Int.toNat_natCast,Qg fr b hb,Qh fr b hb,Qi fr b hb,Qj fr b hb,Qe fr b hb,Qk fr b hb,Ql fr b hb,Qm fr b hb,Zo fr b hb,Zq fr b hb,Qg fr c hc,Qh fr c hc,Qi fr c hc,Qj fr c hc,Qe fr c hc,Qk fr c hc,Ql fr c hc,Qm fr c hc,Zo fr c hc,Zq fr c hc,Qw] at hr
  refine ZK (d:=1) (Zt (L:=100) Zg (Zs (Zj (YC (hfr b) rfl rfl (fun y hy => ?_))) (Zf _)) (Ze _) 20) hr ?_ rfl rfl
  ·obtain rfl:=List.mem_singleton.1 hy
   exact⟨ZeV (fr b) (fr c) (hfr c),hNF⟩
  ·simp only[rr, tt, z0,z1,z2,z3,Bool.and_self,cond_true,and_true,true_and,and_self]
 by_cases h39:op=39
 ·subst h39
  have e:KC fr 39 b c m=ZeU (fr b) (fr c):=rfl
  rw[e]
  have hr:=ZmZ (inS 39 a b c m) fr (fr b) (fr b).lo (fr b).hi (fr c) (ZeU (fr b) (fr c))
  simp only[rr, tt, Int.toNat_natCast,Qg fr b hb,Qh fr b hb,Qi fr b hb,Qj fr b hb,Qe fr b hb,Qk fr b hb,Ql fr b hb,Qm fr b hb,Zo fr b hb,Zq fr b hb,Qg fr c hc,Qh fr c hc,Qi fr c hc,Qj fr c hc,Qe fr c hc,Qk fr c hc,Ql fr c hc,Qm fr c hc,Zo fr c hc,Zq fr c hc,Qw] at hr
  refine ZK (d:=1) (Zt (L:=100) Zg (Zs (Zj (YC (hfr b) rfl rfl (fun y hy => ?_))) (Zf _)) (Ze _) 20) hr ?_ rfl rfl
  ·obtain rfl:=List.mem_singleton.1 hy
   exact⟨ZeW (fr b) (fr c) (hfr b) (hfr c),hNF⟩
  ·simp only[rr, tt, z0,z1,z2,z3,Bool.and_self,cond_true,and_true,true_and,and_self]
 by_cases h40:op=40
 ·subst h40
  have e:KC fr 40 b c m=ZcM (fr c) (fr b):=rfl
  rw[e]
  have hr:=Zm0 (inS 40 a b c m) fr (fr b) (fr b).lo (fr b).hi (fr c) (ZcM (fr c) (fr b))
  simp only[rr, tt, Int.toNat_natCast,Qg fr b hb,Qh fr b hb,Qi fr b hb,Qj fr b hb,Qe fr b hb,Qk fr b hb,Ql fr b hb,Qm fr b hb,Zo fr b hb,Zq fr b hb,Qg fr c hc,Qh fr c hc,Qi fr c hc,Qj fr c hc,Qe fr c hc,Qk fr c hc,Ql fr c hc,Qm fr c hc,Zo fr c hc,Zq fr c hc,Qw] at hr
  refine ZK (d:=1) (Zt (L:=100) Zg (Zs (Zj (YC (hfr b) rfl rfl (fun y hy => ?_))) (Zf _)) (Ze _) 20) hr ?_ rfl rfl
  ·obtain rfl:=List.mem_singleton.1 hy
   exact⟨Zdy (fr c) (fr b) (hfr c) (hfr b),hNF⟩
  ·simp only[rr, tt, z0,z1,z2,z3,Bool.and_self,cond_true,and_true,true_and,and_self]
 by_cases h42:op=42
 ·subst h42
  have e:KC fr 42 b c m=KJ (fr b).C:=rfl
  rw[e]
  have hr:=Zm1 (inS 42 a b c m) fr (fr b) (fr b).lo (fr b).hi 
  simp only[rr, tt, Int.toNat_natCast,Qg fr b hb,Qh fr b hb,Qi fr b hb,Qj fr b hb,Qe fr b hb,Qk fr b hb,Ql fr b hb,Qm fr b hb,Zo fr b hb,Zq fr b hb,Qg fr c hc,Qh fr c hc,Qi fr c hc,Qj fr c hc,Qe fr c hc,Qk fr c hc,Ql fr c hc,Qm fr c hc,Zo fr c hc,Zq fr c hc,Qw] at hr
  refine ZK (d:=1) (Zt (L:=100) Zg (Zs (Zj (YC (hfr b) rfl rfl (fun y hy => ?_))) (Zf _)) (Ze _) 20) hr ?_ rfl rfl
  ·cases hy
  ·simp only[rr, tt, z0,z1,z2,z3,Bool.and_self,cond_true,and_true,true_and,and_self]
 by_cases h43:op=43
 ·subst h43
  have e:KC fr 43 b c m=KJ (fr b).lo:=rfl
  rw[e]
  have hr:=Zm2 (inS 43 a b c m) fr (fr b) (fr b).lo (fr b).hi 
  simp only[rr, tt, Int.toNat_natCast,Qg fr b hb,Qh fr b hb,Qi fr b hb,Qj fr b hb,Qe fr b hb,Qk fr b hb,Ql fr b hb,Qm fr b hb,Zo fr b hb,Zq fr b hb,Qg fr c hc,Qh fr c hc,Qi fr c hc,Qj fr c hc,Qe fr c hc,Qk fr c hc,Ql fr c hc,Qm fr c hc,Zo fr c hc,Zq fr c hc,Qw] at hr
  refine ZK (d:=1) (Zt (L:=100) Zg (Zs (Zj (YC (hfr b) rfl rfl (fun y hy => ?_))) (Zf _)) (Ze _) 20) hr ?_ rfl rfl
  ·cases hy
  ·simp only[rr, tt, z0,z1,z2,z3,Bool.and_self,cond_true,and_true,true_and,and_self]
 by_cases h44:op=44
 ·subst h44
  have e:KC fr 44 b c m=KJ (lenS (fr b).lo (fr b).hi):=rfl
  rw[e]
  have hr:=Zm3 (inS 44 a b c m) fr (fr b) (fr b).lo (fr b).hi 
  simp only[rr, tt, Int.toNat_natCast,Qg fr b hb,Qh fr b hb,Qi fr b hb,Qj fr b hb,Qe fr b hb,Qk fr b hb,Ql fr b hb,Qm fr b hb,Zo fr b hb,Zq fr b hb,Qg fr c hc,Qh fr c hc,Qi fr c hc,Qj fr c hc,Qe fr c hc,Qk fr c hc,Ql fr c hc,Qm fr c hc,Zo fr c hc,Zq fr c hc,Qw] at hr
  refine ZK (d:=1) (Zt (L:=100) Zg (Zs (Zj (YC (hfr b) rfl rfl (fun y hy => ?_))) (Zf _)) (Ze _) 20) hr ?_ rfl rfl
  ·cases hy
  ·simp only[rr, tt, z0,z1,z2,z3,Bool.and_self,cond_true,and_true,true_and,and_self]
 by_cases h45:op=45
 ·subst h45
  have e:KC fr 45 b c m=KJ (toU (fr b).P):=rfl
  rw[e]
  have hr:=Zm4 (inS 45 a b c m) fr (fr b) (fr b).lo (fr b).hi 
  simp only[rr, tt, Int.toNat_natCast,Qg fr b hb,Qh fr b hb,Qi fr b hb,Qj fr b hb,Qe fr b hb,Qk fr b hb,Ql fr b hb,Qm fr b hb,Zo fr b hb,Zq fr b hb,Qg fr c hc,Qh fr c hc,Qi fr c hc,Qj fr c hc,Qe fr c hc,Qk fr c hc,Ql fr c hc,Qm fr c hc,Zo fr c hc,Zq fr c hc,Qw] at hr
  refine ZK (d:=1) (Zt (L:=100) Zg (Zs (Zj (YC (hfr b) rfl rfl (fun y hy => ?_))) (Zf _)) (Ze _) 20) hr ?_ rfl rfl
  ·cases hy
  ·simp only[rr, tt, z0,z1,z2,z3,Bool.and_self,cond_true,and_true,true_and,and_self]
 by_cases h46:op=46
 ·subst h46
  have e:KC fr 46 b c m=KJ (toU (fr b).Y):=rfl
  rw[e]
  have hr:=Zm5 (inS 46 a b c m) fr (fr b) (fr b).lo (fr b).hi 
  simp only[rr, tt, Int.toNat_natCast,Qg fr b hb,Qh fr b hb,Qi fr b hb,Qj fr b hb,Qe fr b hb,Qk fr b hb,Ql fr b hb,Qm fr b hb,Zo fr b hb,Zq fr b hb,Qg fr c hc,Qh fr c hc,Qi fr c hc,Qj fr c hc,Qe fr c hc,Qk fr c hc,Ql fr c hc,Qm fr c hc,Zo fr c hc,Zq fr c hc,Qw] at hr
  refine ZK (d:=1) (Zt (L:=100) Zg (Zs (Zj (YC (hfr b) rfl rfl (fun y hy => ?_))) (Zf _)) (Ze _) 20) hr ?_ rfl rfl
  ·cases hy
  ·simp only[rr, tt, z0,z1,z2,z3,Bool.and_self,cond_true,and_true,true_and,and_self]
 by_cases h47:op=47
 ·subst h47
  have e:KC fr 47 b c m=ZiS (fr b).V:=rfl
  rw[e]
  have hr:=Zm6 (inS 47 a b c m) fr (fr b) (fr b).lo (fr b).hi (fr b).V (ZiS (fr b).V)
  simp only[rr, tt, Int.toNat_natCast,Qg fr b hb,Qh fr b hb,Qi fr b hb,Qj fr b hb,Qe fr b hb,Qk fr b hb,Ql fr b hb,Qm fr b hb,Zo fr b hb,Zq fr b hb,Qg fr c hc,Qh fr c hc,Qi fr c hc,Qj fr c hc,Qe fr c hc,Qk fr c hc,Ql fr c hc,Qm fr c hc,Zo fr c hc,Zq fr c hc,Qw] at hr
  refine ZK (d:=1) (Zt (L:=100) Zg (Zs (Zj (YC (hfr b) rfl rfl (fun y hy => ?_))) (Zf _)) (Ze _) 20) hr ?_ rfl rfl
  ·obtain rfl:=List.mem_singleton.1 hy
   exact⟨Zfp (fr b).V,hNF⟩
  ·simp only[rr, tt, z0,z1,z2,z3,Bool.and_self,cond_true,and_true,true_and,and_self]
 by_cases h48:op=48
 ·subst h48
  have e:KC fr 48 b c m=ZiS (Zbe (fr b)):=rfl
  rw[e]
  have hr:=Zm7 (inS 48 a b c m) fr (fr b) (fr b).lo (fr b).hi (Zbe (fr b)) (ZiS (Zbe (fr b)))
  simp only[rr, tt, Int.toNat_natCast,Qg fr b hb,Qh fr b hb,Qi fr b hb,Qj fr b hb,Qe fr b hb,Qk fr b hb,Ql fr b hb,Qm fr b hb,Zo fr b hb,Zq fr b hb,Qg fr c hc,Qh fr c hc,Qi fr c hc,Qj fr c hc,Qe fr c hc,Qk fr c hc,Ql fr c hc,Qm fr c hc,Zo fr c hc,Zq fr c hc,Qw] at hr
  refine ZK (d:=1) (Zt (L:=100) Zg (Zs (Zj (YC (hfr b) rfl rfl (fun y hy => ?_))) (Zf _)) (Ze _) 20) hr ?_ rfl rfl
  ·simp only[rr, tt, List.mem_cons,List.not_mem_nil,or_false] at hy
   rcases hy with rfl|rfl
   ·exact⟨ZdA (fr b) (hfr b),hNF⟩
   ·exact⟨Zfp _,hNF⟩
  ·simp only[rr, tt, z0,z1,z2,z3,Bool.and_self,cond_true,and_true,true_and,and_self]
 by_cases h49:op=49
 ·subst h49
  have e:KC fr 49 b c m=JT fr m:=rfl
  rw[e]
  have hr:=Zm8 (inS 49 a b c m) fr (fr b) (fr b).lo (fr b).hi (JT fr m)
  simp only[rr, tt, Int.toNat_natCast,Qg fr b hb,Qh fr b hb,Qi fr b hb,Qj fr b hb,Qe fr b hb,Qk fr b hb,Ql fr b hb,Qm fr b hb,Zo fr b hb,Zq fr b hb,Qg fr c hc,Qh fr c hc,Qi fr c hc,Qj fr c hc,Qe fr c hc,Qk fr c hc,Ql fr c hc,Qm fr c hc,Zo fr c hc,Zq fr c hc,Qw] at hr
  refine ZK (d:=1) (Zt (L:=100) Zg (Zs (Zj (YC (hfr b) rfl rfl (fun y hy => ?_))) (Zf _)) (Ze _) 20) hr ?_ rfl rfl
  ·obtain rfl:=List.mem_singleton.1 hy
   exact⟨VK fr m hfr,hNF⟩
  ·simp only[rr, tt, z0,z1,z2,z3,Bool.and_self,cond_true,and_true,true_and,and_self]
 have e:KC fr op b c m=fr b:=by unfold KC; simp only[rr, tt, h1,h2,h16,h41,h32,h33,h34,h35,h36,h37,h38,h39,h40,h42,h43,h44,h45,h46,h47,h48,h49,if_false]
 rw[e]
 have hr:=mk_d (inS op a b c m) fr (fr b) (fr b).lo (fr b).hi
 simp only[rr, tt, Int.toNat_natCast,Qg fr b hb,Qh fr b hb,Qi fr b hb,Qj fr b hb,Qe fr b hb,Qk fr b hb,Ql fr b hb,Qm fr b hb,Zo fr b hb,Zq fr b hb,Qg fr c hc,Qh fr c hc,Qi fr c hc,Qj fr c hc,Qe fr c hc,Qk fr c hc,Ql fr c hc,Qm fr c hc,Zo fr c hc,Zq fr c hc,Qw] at hr
 refine ZK (d:=1) (Zt (L:=100) Zg (Zs (Zj (YC (hfr b) rfl rfl (fun y hy => ?_))) (Zf _)) (Ze _) 20) hr ?_ rfl rfl
 ·cases hy
 ·simp only[rr, tt, z0,z1,z2,z3,QR h1,QR h2,QR h16,QR h41,QR h32,QR h33,QR h34,QR h35,QR h36,QR h37,QR h38,QR h39,QR h40,QR h42,QR h43,QR h44,QR h45,QR h46,QR h47,QR h48,QR h49,Bool.and_self,cond_true,and_true,true_and,and_self]
def doL (i:In) (fr nx:Nat→Cp) (k:Bool) (rc:List Value) (L:Sy.Steps):Sy.Steps:=(71,26,Con.pure [Q8 fr] (Q8 nx),[])::(73,33,gwC [i.val] rc (.bool k),[])::L
def wdL (i:In) (w:Nat):Sy.Steps:=[(73,36,Con.pure [.int .i64 i.op] (.int .i64 (w:Nat)),[])]
def tkL (i:In) (cA cB:Cp) (k is:Bool):Sy.Steps:=[(73,38,Con.pure [.int .i64 i.op,.int .u32 (cA.C:Nat),.int .u32 (cB.C:Nat)] (.tuple ⟨[.bool k,.bool is]⟩),[])]
def rkL (i:In) (cB cC:Cp) (v t:Nat) (is:Bool):Sy.Steps:=[(73,39,Con.pure [.int .i64 i.op,.int .u32 (cB.C:Nat),.int .u32 (cC.C:Nat)] (.tuple ⟨[.int .u32 (v:Nat),.int .i64 (t:Nat),.bool is]⟩),[])]
theorem do_b (i:In) (fr nx:Nat→Cp) (rc:List Value) (zs:List UInt8) (f:Nat→Bool) (N m n:Nat):obs (evF Tryz.prog (Zz 3 (Zd (doL i fr nx false rc [])) Zk) Zh 100 20 13 (mvA fr i) ⟨68,arW false zs f N m n++ZF rc,arO N n,0,(tb 5 31),0,True⟩)=some (Value.tuple { toList:=[Value.agg { toList:=frZ },.int .i64 6] },((((((True∧True∧(rr (Value.agg { toList:=(frL fr) })∧True)∧True∧True)∧True∧(rr (Value.agg ⟨[.int .i64 i.op,.int .i64 i.a,.int .i64 i.b,.int .i64 i.c,.int .i64 i.m]⟩)∧True)∧((tt∧rc.all (okV (fun l=>l.blt 64) 3)=true∧tt∧tt∧tt∧True∧rc=List.map (rnV (lift 64 73 []) 3) rc)∧True)∧True)∧tt)∧tt)∧tt)∧tt)∧tt):=by kernel_rfl
theorem do_t (i:In) (fr nx:Nat→Cp) (rc:List Value) (zs:List UInt8) (f:Nat→Bool) (N m n:Nat):obs (evF Tryz.prog (Zz 3 (Zd (doL i fr nx true rc [])) Zk) Zh 100 20 13 (mvA fr i) ⟨68,arW false zs f N m n++ZF rc,arO N n,0,(tb 5 16),0,True⟩)=some (Value.tuple { toList:=[Value.agg { toList:=frZ },.int .i64 6] },((((((True∧True∧(rr (Value.agg { toList:=(frL fr) })∧True)∧True∧True)∧True∧(rr (Value.agg ⟨[.int .i64 i.op,.int .i64 i.a,.int .i64 i.b,.int .i64 i.c,.int .i64 i.m]⟩)∧True)∧((tt∧rc.all (okV (fun l=>l.blt 64) 3)=true∧tt∧tt∧tt∧True∧rc=List.map (rnV (lift 64 73 []) 3) rc)∧True)∧True)∧rr false)∧rr false)∧rr false)∧rr false)∧(i.op==(53:Int))=true):=by kernel_rfl
theorem ZkN (i:In) (fr nx:Nat→Cp) (rc:List Value) (zs:List UInt8) (f:Nat→Bool) (N m n:Nat):obs (evF Tryz.prog (Zz 3 (Zd (doL i fr nx true rc [])) Zk) Zh 100 20 13 (mvA fr i) ⟨68,arW false zs f N m n++ZF rc,arO N n,0,(tb 14 16352),0,True⟩)=some (Value.tuple { toList:=[Value.agg { toList:=(frL fr) },.int .i64 0] },(((((((((((((((True∧True∧(rr (Value.agg { toList:=(frL fr) })∧True)∧True∧True)∧True∧(rr (Value.agg ⟨[.int .i64 i.op,.int .i64 i.a,.int .i64 i.b,.int .i64 i.c,.int .i64 i.m]⟩)∧True)∧((tt∧rc.all (okV (fun l=>l.blt 64) 3)=true∧tt∧tt∧tt∧True∧rc=List.map (rnV (lift 64 73 []) 3) rc)∧True)∧True)∧rr false)∧rr false)∧rr false)∧rr false)∧(i.op==(53:Int))=false)∧(i.op==(50:Int))=true)∧(i.op==(50:Int))=true)∧(i.op==(50:Int))=true)∧(i.op==(50:Int))=true)∧tt)∧tt)∧tt)∧tt)∧tt):=by kernel_rfl
theorem ZkO (i:In) (fr nx:Nat→Cp) (rc:List Value) (zs:List UInt8) (f:Nat→Bool) (N m n:Nat):obs (evF Tryz.prog (Zz 3 (Zd (doL i fr nx true rc [])) Zk) Zh 100 20 13 (mvA fr i) ⟨68,arW false zs f N m n++ZF rc,arO N n,0,(tb 14 15872),0,True⟩)=some (Value.tuple { toList:=[Value.agg { toList:=(frL fr) },.int .i64 0] },(((((((((((((((True∧True∧(rr (Value.agg { toList:=(frL fr) })∧True)∧True∧True)∧True∧(rr (Value.agg ⟨[.int .i64 i.op,.int .i64 i.a,.int .i64 i.b,.int .i64 i.c,.int .i64 i.m]⟩)∧True)∧((tt∧rc.all (okV (fun l=>l.blt 64) 3)=true∧tt∧tt∧tt∧True∧rc=List.map (rnV (lift 64 73 []) 3) rc)∧True)∧True)∧rr false)∧rr false)∧rr false)∧rr false)∧(i.op==(53:Int))=false)∧(i.op==(50:Int))=false)∧(i.op==(50:Int))=false)∧(i.op==(50:Int))=false)∧(i.op==(50:Int))=false)∧(i.op==(51:Int))=true)∧(i.op==(51:Int))=true)∧(i.op==(51:Int))=true)∧(i.op==(51:Int))=true)∧tt):=by kernel_rfl
theorem ZkP (i:In) (fr nx:Nat→Cp) (rc:List Value) (zs:List UInt8) (f:Nat→Bool) (N m n:Nat):obs (evF Tryz.prog (Zz 3 (Zd (doL i fr nx true rc [])) Zk) Zh 100 20 13 (mvA fr i) ⟨68,arW false zs f N m n++ZF rc,arO N n,0,(tb 14 8192),0,True⟩)=some (Value.tuple { toList:=[Value.agg { toList:=(frL fr) },.int .i64 0] },(((((((((((((((True∧True∧(rr (Value.agg { toList:=(frL fr) })∧True)∧True∧True)∧True∧(rr (Value.agg ⟨[.int .i64 i.op,.int .i64 i.a,.int .i64 i.b,.int .i64 i.c,.int .i64 i.m]⟩)∧True)∧((tt∧rc.all (okV (fun l=>l.blt 64) 3)=true∧tt∧tt∧tt∧True∧rc=List.map (rnV (lift 64 73 []) 3) rc)∧True)∧True)∧rr false)∧rr false)∧rr false)∧rr false)∧(i.op==(53:Int))=false)∧(i.op==(50:Int))=false)∧(i.op==(50:Int))=false)∧(i.op==(50:Int))=false)∧(i.op==(50:Int))=false)∧(i.op==(51:Int))=false)∧(i.op==(51:Int))=false)∧(i.op==(51:Int))=false)∧(i.op==(51:Int))=false)∧(i.op==(52:Int))=true):=by kernel_rfl
theorem Znu (i:In) (fr nx:Nat→Cp) (rc:List Value) (zs:List UInt8) (f:Nat→Bool) (N m n:Nat) (r p:Cp):obs (evF Tryz.prog (Zz 3 (Zd (doL i fr nx true rc [(73,34,Con.pure [Q8 fr,.int .i64 1] r.val,[]),(74,34,Con.pure [Q8 fr,.int .i64 i.m] p.val,[])])) Zk) Zh 100 20 13 (mvA fr i) ⟨68,arW false zs f N m n++ZF rc,arO N n,0,(tb 16 16384),0,True⟩)=some (Value.tuple { toList:=[Value.agg { toList:=Qz frZ (ZC 0 (Qz frZ (ZC 128 [Value.int .u32 (↑p.C),.int .u8 (↑p.E),.int .u16 (↑p.B),.int .u16 (↑p.T),.int .u16 (↑p.P),.int .u16 (↑p.Y),.int .u32 (↑p.R),.bool p.V] (ZC (0+i.a.toNat*8) [Value.int .u32 (↑r.C),.int .u8 (↑r.E),.int .u16 (↑r.B),.int .u16 (↑r.T),.int .u16 (↑r.P),.int .u16 (↑r.Y),.int .u32 (↑r.R),.bool r.V] (frL nx))) 0) frZ) 0 },.int .i64 0] },bif ZI 136 (ZC 0 (Qz frZ (ZC 128 [Value.int .u32 (↑p.C),.int .u8 (↑p.E),.int .u16 (↑p.B),.int .u16 (↑p.T),.int .u16 (↑p.P),.int .u16 (↑p.Y),.int .u32 (↑p.R),.bool p.V] (ZC (0+i.a.toNat*8) [Value.int .u32 (↑r.C),.int .u8 (↑r.E),.int .u16 (↑r.B),.int .u16 (↑r.T),.int .u16 (↑r.P),.int .u16 (↑r.Y),.int .u32 (↑r.R),.bool r.V] (frL nx))) 0) frZ)&&Zi frZ (ZC 0 (Qz frZ (ZC 128 [Value.int .u32 (↑p.C),.int .u8 (↑p.E),.int .u16 (↑p.B),.int .u16 (↑p.T),.int .u16 (↑p.P),.int .u16 (↑p.Y),.int .u32 (↑p.R),.bool p.V] (ZC (0+i.a.toNat*8) [Value.int .u32 (↑r.C),.int .u8 (↑r.E),.int .u16 (↑r.B),.int .u16 (↑r.T),.int .u16 (↑r.P),.int .u16 (↑r.Y),.int .u32 (↑r.R),.bool r.V] (frL nx))) 0) frZ) 0 then bif ZI (0+ZA (Qz frZ (ZC 128 [Value.int .u32 (↑p.C),.int .u8 (↑p.E),.int .u16 (↑p.B),.int .u16 (↑p.T),.int .u16 (↑p.P),.int .u16 (↑p.Y),.int .u32 (↑p.R),.bool p.V] (ZC (0+i.a.toNat*8) [Value.int .u32 (↑r.C),.int .u8 (↑r.E),.int .u16 (↑r.B),.int .u16 (↑r.T),.int .u16 (↑r.P),.int .u16 (↑r.Y),.int .u32 (↑r.R),.bool r.V] (frL nx))) 0)) frZ&&KD (Qz frZ (ZC 128 [Value.int .u32 (↑p.C),.int .u8 (↑p.E),.int .u16 (↑p.B),.int .u16 (↑p.T),.int .u16 (↑p.P),.int .u16 (↑p.Y),.int .u32 (↑p.R),.bool p.V] (ZC (0+i.a.toNat*8) [Value.int .u32 (↑r.C),.int .u8 (↑r.E),.int .u16 (↑r.B),.int .u16 (↑r.T),.int .u16 (↑r.P),.int .u16 (↑r.Y),.int .u32 (↑r.R),.bool r.V] (frL nx))) 0)&&true then bif ZI 136 (ZC 128 [Value.int .u32 (↑p.C),.int .u8 (↑p.E),.int .u16 (↑p.B),.int .u16 (↑p.T),.int .u16 (↑p.P),.int .u16 (↑p.Y),.int .u32 (↑p.R),.bool p.V] (ZC (0+i.a.toNat*8) [Value.int .u32 (↑r.C),.int .u8 (↑r.E),.int .u16 (↑r.B),.int .u16 (↑r.T),.int .u16 (↑r.P),.int .u16 (↑r.Y),.int .u32 (↑r.R),.bool r.V] (frL nx)))&&Zi frZ (ZC 128 [Value.int .u32 (↑p.C),.int .u8 (↑p.E),.int .u16 (↑p.B),.int .u16 (↑p.T),.int .u16 (↑p.P),.int .u16 (↑p.Y),.int .u32 (↑p.R),.bool p.V] (ZC (0+i.a.toNat*8) [Value.int .u32 (↑r.C),.int .u8 (↑r.E),.int .u16 (↑r.B),.int .u16 (↑r.T),.int .u16 (↑r.P),.int .u16 (↑r.Y),.int .u32 (↑r.R),.bool r.V] (frL nx))) 0 then(bif ZI 136 (ZC (0+i.a.toNat*8) [Value.int .u32 (↑r.C),.int .u8 (↑r.E),.int .u16 (↑r.B),.int .u16 (↑r.T),.int .u16 (↑r.P),.int .u16 (↑r.Y),.int .u32 (↑r.R),.bool r.V] (frL nx))&&true&&true then(bif ZI (0+i.a.toNat*8+8) (frL nx)&&true&&true then bif decide ((0:Int)≤i.a)&&decide (i.a<(16:Int)) then(((((((((((((((((True∧True∧(rr (Value.agg { toList:=(frL fr) })∧True)∧True∧True)∧True∧(rr (Value.agg ⟨[.int .i64 i.op,.int .i64 i.a,.int .i64 i.b,.int .i64 i.c,.int .i64 i.m]⟩)∧True)∧((tt∧rc.all (okV (fun l=>l.blt 64) 3)=true∧tt∧tt∧tt∧True∧rc=List.map (rnV (lift 64 73 []) 3) rc)∧True)∧True)∧rr false)∧rr false)∧rr false)∧rr false)∧(i.op==(53:Int))=false)∧(i.op==(50:Int))=false)∧(i.op==(50:Int))=false)∧(i.op==(50:Int))=false)∧(i.op==(50:Int))=false)∧(i.op==(51:Int))=false)∧(i.op==(51:Int))=false)∧(i.op==(51:Int))=false)∧(i.op==(51:Int))=false)∧(i.op==(52:Int))=false)∧(i.op==(29:Int))=true)∧True∧(rr (Value.agg { toList:=(frL fr) })∧rr (Value.int .i64 1)∧True)∧True∧True else False else False)∧True∧(rr (Value.agg { toList:=(frL fr) })∧rr (Value.int .i64 i.m)∧True)∧True∧True else False)∧false=false else False else False else False):=by kernel_rfl
theorem ZkQ (i:In) (fr nx:Nat→Cp) (rc:List Value) (zs:List UInt8) (f:Nat→Bool) (N m n:Nat) (r cB:Cp) (t:Nat):obs (evF Tryz.prog (Zz 3 (Zd (doL i fr nx true rc [(73,34,Con.pure [Q8 fr,.int .i64 1] r.val,[]),(73,35,Con.pure [cB.val,.int .u16 4] (Value.int .i64 (↑t)),[])])) Zk) Zh 100 20 13 (mvA fr i) ⟨68,arW false zs f N m n++ZF rc,arO N n,0,(tb 17 32768),0,True⟩)=some (Value.tuple { toList:=[Value.agg { toList:=Qz frZ (ZC 0 (Qz frZ (ZC 128 [Value.int .u32 (Zb (Zc undef (frL fr) (0+i.b.toNat*8))),.int .u8 (Zb (Zc undef (frL fr) (0+i.b.toNat*8+1))),.int .u16 (Zb (Zc undef (frL fr) (0+i.b.toNat*8+1+1))),.int .u16 (Zb (Zc undef (frL fr) (0+i.b.toNat*8+1+1+1))),.int .u16 (Zb (Zc undef (frL fr) (0+i.b.toNat*8+1+1+1+1))),.int .u16 (Zb (Zc undef (frL fr) (0+i.b.toNat*8+1+1+1+1+1))),.int .u32 (Zb (Zc undef (frL fr) (0+i.b.toNat*8+1+1+1+1+1+1))),.bool (Zv (Zc undef (frL fr) (0+i.b.toNat*8+1+1+1+1+1+1+1)))] (ZC (0+i.a.toNat*8) [Value.int .u32 (↑r.C),.int .u8 (↑r.E),.int .u16 (↑r.B),.int .u16 (↑r.T),.int .u16 (↑r.P),.int .u16 (↑r.Y),.int .u32 (↑r.R),.bool r.V] (frL nx))) 0) frZ) 0 },.int .i64 0] },bif ZI 136 (ZC 0 (Qz frZ (ZC 128 [Value.int .u32 (Zb (Zc undef (frL fr) (0+i.b.toNat*8))),.int .u8 (Zb (Zc undef (frL fr) (0+i.b.toNat*8+1))),.int .u16 (Zb (Zc undef (frL fr) (0+i.b.toNat*8+1+1))),.int .u16 (Zb (Zc undef (frL fr) (0+i.b.toNat*8+1+1+1))),.int .u16 (Zb (Zc undef (frL fr) (0+i.b.toNat*8+1+1+1+1))),.int .u16 (Zb (Zc undef (frL fr) (0+i.b.toNat*8+1+1+1+1+1))),.int .u32 (Zb (Zc undef (frL fr) (0+i.b.toNat*8+1+1+1+1+1+1))),.bool (Zv (Zc undef (frL fr) (0+i.b.toNat*8+1+1+1+1+1+1+1)))] (ZC (0+i.a.toNat*8) [Value.int .u32 (↑r.C),.int .u8 (↑r.E),.int .u16 (↑r.B),.int .u16 (↑r.T),.int .u16 (↑r.P),.int .u16 (↑r.Y),.int .u32 (↑r.R),.bool r.V] (frL nx))) 0) frZ)&&Zi frZ (ZC 0 (Qz frZ (ZC 128 [Value.int .u32 (Zb (Zc undef (frL fr) (0+i.b.toNat*8))),.int .u8 (Zb (Zc undef (frL fr) (0+i.b.toNat*8+1))),.int .u16 (Zb (Zc undef (frL fr) (0+i.b.toNat*8+1+1))),.int .u16 (Zb (Zc undef (frL fr) (0+i.b.toNat*8+1+1+1))),.int .u16 (Zb (Zc undef (frL fr) (0+i.b.toNat*8+1+1+1+1))),.int .u16 (Zb (Zc undef (frL fr) (0+i.b.toNat*8+1+1+1+1+1))),.int .u32 (Zb (Zc undef (frL fr) (0+i.b.toNat*8+1+1+1+1+1+1))),.bool (Zv (Zc undef (frL fr) (0+i.b.toNat*8+1+1+1+1+1+1+1)))] (ZC (0+i.a.toNat*8) [Value.int .u32 (↑r.C),.int .u8 (↑r.E),.int .u16 (↑r.B),.int .u16 (↑r.T),.int .u16 (↑r.P),.int .u16 (↑r.Y),.int .u32 (↑r.R),.bool r.V] (frL nx))) 0) frZ) 0 then bif ZI (0+ZA (Qz frZ (ZC 128 [Value.int .u32 (Zb (Zc undef (frL fr) (0+i.b.toNat*8))),.int .u8 (Zb (Zc undef (frL fr) (0+i.b.toNat*8+1))),.int .u16 (Zb (Zc undef (frL fr) (0+i.b.toNat*8+1+1))),.int .u16 (Zb (Zc undef (frL fr) (0+i.b.toNat*8+1+1+1))),.int .u16 (Zb (Zc undef (frL fr) (0+i.b.toNat*8+1+1+1+1))),.int .u16 (Zb (Zc undef (frL fr) (0+i.b.toNat*8+1+1+1+1+1))),.int .u32 (Zb (Zc undef (frL fr) (0+i.b.toNat*8+1+1+1+1+1+1))),.bool (Zv (Zc undef (frL fr) (0+i.b.toNat*8+1+1+1+1+1+1+1)))] (ZC (0+i.a.toNat*8) [Value.int .u32 (↑r.C),.int .u8 (↑r.E),.int .u16 (↑r.B),.int .u16 (↑r.T),.int .u16 (↑r.P),.int .u16 (↑r.Y),.int .u32 (↑r.R),.bool r.V] (frL nx))) 0)) frZ&&KD (Qz frZ (ZC 128 [Value.int .u32 (Zb (Zc undef (frL fr) (0+i.b.toNat*8))),.int .u8 (Zb (Zc undef (frL fr) (0+i.b.toNat*8+1))),.int .u16 (Zb (Zc undef (frL fr) (0+i.b.toNat*8+1+1))),.int .u16 (Zb (Zc undef (frL fr) (0+i.b.toNat*8+1+1+1))),.int .u16 (Zb (Zc undef (frL fr) (0+i.b.toNat*8+1+1+1+1))),.int .u16 (Zb (Zc undef (frL fr) (0+i.b.toNat*8+1+1+1+1+1))),.int .u32 (Zb (Zc undef (frL fr) (0+i.b.toNat*8+1+1+1+1+1+1))),.bool (Zv (Zc undef (frL fr) (0+i.b.toNat*8+1+1+1+1+1+1+1)))] (ZC (0+i.a.toNat*8) [Value.int .u32 (↑r.C),.int .u8 (↑r.E),.int .u16 (↑r.B),.int .u16 (↑r.T),.int .u16 (↑r.P),.int .u16 (↑r.Y),.int .u32 (↑r.R),.bool r.V] (frL nx))) 0)&&true then bif ZI 136 (ZC 128 [Value.int .u32 (Zb (Zc undef (frL fr) (0+i.b.toNat*8))),.int .u8 (Zb (Zc undef (frL fr) (0+i.b.toNat*8+1))),.int .u16 (Zb (Zc undef (frL fr) (0+i.b.toNat*8+1+1))),.int .u16 (Zb (Zc undef (frL fr) (0+i.b.toNat*8+1+1+1))),.int .u16 (Zb (Zc undef (frL fr) (0+i.b.toNat*8+1+1+1+1))),.int .u16 (Zb (Zc undef (frL fr) (0+i.b.toNat*8+1+1+1+1+1))),.int .u32 (Zb (Zc undef (frL fr) (0+i.b.toNat*8+1+1+1+1+1+1))),.bool (Zv (Zc undef (frL fr) (0+i.b.toNat*8+1+1+1+1+1+1+1)))] (ZC (0+i.a.toNat*8) [Value.int .u32 (↑r.C),.int .u8 (↑r.E),.int .u16 (↑r.B),.int .u16 (↑r.T),.int .u16 (↑r.P),.int .u16 (↑r.Y),.int .u32 (↑r.R),.bool r.V] (frL nx)))&&Zi frZ (ZC 128 [Value.int .u32 (Zb (Zc undef (frL fr) (0+i.b.toNat*8))),.int .u8 (Zb (Zc undef (frL fr) (0+i.b.toNat*8+1))),.int .u16 (Zb (Zc undef (frL fr) (0+i.b.toNat*8+1+1))),.int .u16 (Zb (Zc undef (frL fr) (0+i.b.toNat*8+1+1+1))),.int .u16 (Zb (Zc undef (frL fr) (0+i.b.toNat*8+1+1+1+1))),.int .u16 (Zb (Zc undef (frL fr) (0+i.b.toNat*8+1+1+1+1+1))),.int .u32 (Zb (Zc undef (frL fr) (0+i.b.toNat*8+1+1+1+1+1+1))),.bool (Zv (Zc undef (frL fr) (0+i.b.toNat*8+1+1+1+1+1+1+1)))] (ZC (0+i.a.toNat*8) [Value.int .u32 (↑r.C),.int .u8 (↑r.E),.int .u16 (↑r.B),.int .u16 (↑r.T),.int .u16 (↑r.P),.int .u16 (↑r.Y),.int .u32 (↑r.R),.bool r.V] (frL nx))) 0 then(bif ZI 136 (ZC (0+i.a.toNat*8) [Value.int .u32 (↑r.C),.int .u8 (↑r.E),.int .u16 (↑r.B),.int .u16 (↑r.T),.int .u16 (↑r.P),.int .u16 (↑r.Y),.int .u32 (↑r.R),.bool r.V] (frL nx))&&true&&true then bif ZI (0+i.b.toNat*8+8) (frL fr)&&Zi [Value.int .u32 0,.int .u8 0,.int .u16 0,.int .u16 0,.int .u16 0,.int .u16 0,.int .u32 0,.bool false] (frL fr) (0+i.b.toNat*8) then bif decide ((0:Int)≤i.b)&&decide (i.b<(16:Int)) then bif ZI (0+i.a.toNat*8+8) (frL nx)&&true&&true then bif decide ((0:Int)≤i.a)&&decide (i.a<(16:Int)) then((bif ZI (0+i.b.toNat*8+8) (frL fr)&&Zi [Value.int .u32 0,.int .u8 0,.int .u16 0,.int .u16 0,.int .u16 0,.int .u16 0,.int .u32 0,.bool false] (frL fr) (0+i.b.toNat*8) then bif decide ((0:Int)≤i.b)&&decide (i.b<(16:Int)) then(((((((((((((((((True∧True∧(rr (Value.agg { toList:=(frL fr) })∧True)∧True∧True)∧True∧(rr (Value.agg ⟨[.int .i64 i.op,.int .i64 i.a,.int .i64 i.b,.int .i64 i.c,.int .i64 i.m]⟩)∧True)∧((tt∧rc.all (okV (fun l=>l.blt 64) 3)=true∧tt∧tt∧tt∧True∧rc=List.map (rnV (lift 64 73 []) 3) rc)∧True)∧True)∧rr false)∧rr false)∧rr false)∧rr false)∧(i.op==(53:Int))=false)∧(i.op==(50:Int))=false)∧(i.op==(50:Int))=false)∧(i.op==(50:Int))=false)∧(i.op==(50:Int))=false)∧(i.op==(51:Int))=false)∧(i.op==(51:Int))=false)∧(i.op==(51:Int))=false)∧(i.op==(51:Int))=false)∧(i.op==(52:Int))=false)∧(i.op==(29:Int))=false)∧(i.op==(30:Int))=true else False else False)∧True∧(rr (Value.agg { toList:=(frL fr) })∧rr (Value.int .i64 1)∧True)∧True∧True)∧True∧(Value.agg ⟨[.int .u32 (Zb (Zc undef (frL fr) (0+i.b.toNat*8))),.int .u8 (Zb (Zc undef (frL fr) (0+i.b.toNat*8+1))),.int .u16 (Zb (Zc undef (frL fr) (0+i.b.toNat*8+1+1))),.int .u16 (Zb (Zc undef (frL fr) (0+i.b.toNat*8+1+1+1))),.int .u16 (Zb (Zc undef (frL fr) (0+i.b.toNat*8+1+1+1+1))),.int .u16 (Zb (Zc undef (frL fr) (0+i.b.toNat*8+1+1+1+1+1))),.int .u32 (Zb (Zc undef (frL fr) (0+i.b.toNat*8+1+1+1+1+1+1))),.bool (Zv (Zc undef (frL fr) (0+i.b.toNat*8+1+1+1+1+1+1+1)))]⟩=Value.agg ⟨[.int .u32 (↑cB.C),.int .u8 (↑cB.E),.int .u16 (↑cB.B),.int .u16 (↑cB.T),.int .u16 (↑cB.P),.int .u16 (↑cB.Y),.int .u32 (↑cB.R),.bool cB.V]⟩∧rr (Value.int .u16 4)∧True)∧True∧True else False else False else False else False else False)∧((↑t:Int) !=(0:Int))=false else False else False else False):=by kernel_rfl
theorem ZkR (i:In) (fr nx:Nat→Cp) (rc:List Value) (zs:List UInt8) (f:Nat→Bool) (N m n:Nat) (r cB:Cp) (t:Nat):obs (evF Tryz.prog (Zz 3 (Zd (doL i fr nx true rc [(73,34,Con.pure [Q8 fr,.int .i64 1] r.val,[]),(73,35,Con.pure [cB.val,.int .u16 4] (Value.int .i64 (↑t)),[])])) Zk) Zh 100 20 13 (mvA fr i) ⟨68,arW false zs f N m n++ZF rc,arO N n,0,(tb 17 98304),0,True⟩)=some (Value.tuple { toList:=[Value.agg { toList:=frZ },.int .i64 (↑t)] },(bif ZI 136 (ZC (0+i.a.toNat*8) [Value.int .u32 (↑r.C),.int .u8 (↑r.E),.int .u16 (↑r.B),.int .u16 (↑r.T),.int .u16 (↑r.P),.int .u16 (↑r.Y),.int .u32 (↑r.R),.bool r.V] (frL nx))&&true&&true then bif ZI (0+i.b.toNat*8+8) (frL fr)&&Zi [Value.int .u32 0,.int .u8 0,.int .u16 0,.int .u16 0,.int .u16 0,.int .u16 0,.int .u32 0,.bool false] (frL fr) (0+i.b.toNat*8) then bif decide ((0:Int)≤i.b)&&decide (i.b<(16:Int)) then bif ZI (0+i.a.toNat*8+8) (frL nx)&&true&&true then bif decide ((0:Int)≤i.a)&&decide (i.a<(16:Int)) then((bif ZI (0+i.b.toNat*8+8) (frL fr)&&Zi [Value.int .u32 0,.int .u8 0,.int .u16 0,.int .u16 0,.int .u16 0,.int .u16 0,.int .u32 0,.bool false] (frL fr) (0+i.b.toNat*8) then bif decide ((0:Int)≤i.b)&&decide (i.b<(16:Int)) then(((((((((((((((((True∧True∧(rr (Value.agg { toList:=(frL fr) })∧True)∧True∧True)∧True∧(rr (Value.agg ⟨[.int .i64 i.op,.int .i64 i.a,.int .i64 i.b,.int .i64 i.c,.int .i64 i.m]⟩)∧True)∧((tt∧rc.all (okV (fun l=>l.blt 64) 3)=true∧tt∧tt∧tt∧True∧rc=List.map (rnV (lift 64 73 []) 3) rc)∧True)∧True)∧rr false)∧rr false)∧rr false)∧rr false)∧(i.op==(53:Int))=false)∧(i.op==(50:Int))=false)∧(i.op==(50:Int))=false)∧(i.op==(50:Int))=false)∧(i.op==(50:Int))=false)∧(i.op==(51:Int))=false)∧(i.op==(51:Int))=false)∧(i.op==(51:Int))=false)∧(i.op==(51:Int))=false)∧(i.op==(52:Int))=false)∧(i.op==(29:Int))=false)∧(i.op==(30:Int))=true else False else False)∧True∧(rr (Value.agg { toList:=(frL fr) })∧rr (Value.int .i64 1)∧True)∧True∧True)∧True∧(Value.agg ⟨[.int .u32 (Zb (Zc undef (frL fr) (0+i.b.toNat*8))),.int .u8 (Zb (Zc undef (frL fr) (0+i.b.toNat*8+1))),.int .u16 (Zb (Zc undef (frL fr) (0+i.b.toNat*8+1+1))),.int .u16 (Zb (Zc undef (frL fr) (0+i.b.toNat*8+1+1+1))),.int .u16 (Zb (Zc undef (frL fr) (0+i.b.toNat*8+1+1+1+1))),.int .u16 (Zb (Zc undef (frL fr) (0+i.b.toNat*8+1+1+1+1+1))),.int .u32 (Zb (Zc undef (frL fr) (0+i.b.toNat*8+1+1+1+1+1+1))),.bool (Zv (Zc undef (frL fr) (0+i.b.toNat*8+1+1+1+1+1+1+1)))]⟩=Value.agg ⟨[.int .u32 (↑cB.C),.int .u8 (↑cB.E),.int .u16 (↑cB.B),.int .u16 (↑cB.T),.int .u16 (↑cB.P),.int .u16 (↑cB.Y),.int .u32 (↑cB.R),.bool cB.V]⟩∧rr (Value.int .u16 4)∧True)∧True∧True else False else False else False else False else False)∧((↑t:Int) !=(0:Int))=true):=by kernel_rfl
theorem Znv (i:In) (fr nx:Nat→Cp) (rc:List Value) (zs:List UInt8) (f:Nat→Bool) (N m n w t:Nat) (r:Cp):obs (evF Tryz.prog (Zz 3 (Zd (doL i fr nx true rc (wdL i w++[(73,37,Y8 fr i r t zs f N m n,[64,65,66,67])]))) Zk) Zh 100 20 13 (mvA fr i) ⟨68,arW false zs f N m n++ZF rc,arO N n,0,(tb 18 196608),0,True⟩)=some (Value.tuple { toList:=[Value.agg { toList:=frZ },.int .i64 (↑t)] },(bif ZI (0+i.a.toNat*8+8) (frL nx)&&true&&true then bif decide ((0:Int)≤i.a)&&decide (i.a<(16:Int)) then((((((((((((((((((((True∧True∧(rr (Value.agg { toList:=(frL fr) })∧True)∧True∧True)∧True∧(rr (Value.agg ⟨[.int .i64 i.op,.int .i64 i.a,.int .i64 i.b,.int .i64 i.c,.int .i64 i.m]⟩)∧True)∧((tt∧rc.all (okV (fun l=>l.blt 64) 3)=true∧tt∧tt∧tt∧True∧rc=List.map (rnV (lift 64 73 []) 3) rc)∧True)∧True)∧rr false)∧rr false)∧rr false)∧rr false)∧(i.op==(53:Int))=false)∧(i.op==(50:Int))=false)∧(i.op==(50:Int))=false)∧(i.op==(50:Int))=false)∧(i.op==(50:Int))=false)∧(i.op==(51:Int))=false)∧(i.op==(51:Int))=false)∧(i.op==(51:Int))=false)∧(i.op==(51:Int))=false)∧(i.op==(52:Int))=false)∧(i.op==(29:Int))=false)∧(i.op==(30:Int))=false)∧True∧(rr (Value.int .i64 i.op)∧True)∧True∧True)∧decide ((↑w:Int)>(0:Int))=true)∧True∧(rr (Value.agg { toList:=(frL fr) })∧rr (Value.agg ⟨[.int .i64 i.op,.int .i64 i.a,.int .i64 i.b,.int .i64 i.c,.int .i64 i.m]⟩)∧rr (Value.pointer (some ⟨67,0,none⟩))∧True)∧((tt∧tt∧tt∧tt∧tt∧True∧rr [Value.pointer (some ⟨66,0,none⟩),.slice (some ⟨64,0,none⟩) N 9223372036854775872])∧(tt∧tt∧tt∧tt∧tt∧True∧rr [Value.int .i64 (↑m),.slice (some ⟨65,0,none⟩) n 9223372036854775873])∧(tt∧(v64 (Za f n)).all (okV (fun l=>l.blt 68) 3)=true∧tt∧tt∧tt∧True∧v64 (Za f n)=List.map (rnV (lift 68 73 [64,65,66,67]) 3) (v64 (Za f n)))∧(tt∧(u8s zs).all (okV (fun l=>l.blt 68) 3)=true∧tt∧tt∧tt∧True∧u8s zs=List.map (rnV (lift 68 73 [64,65,66,67]) 3) (u8s zs))∧True)∧(tt∧n≤n)∧(tt∧N≤N)∧True else False else False)∧((↑t:Int) !=(0:Int))=true):=by kernel_rfl
theorem Znw (i:In) (fr nx:Nat→Cp) (rc:List Value) (zs:List UInt8) (f:Nat→Bool) (N m n w t:Nat) (r:Cp):obs (evF Tryz.prog (Zz 3 (Zd (doL i fr nx true rc (wdL i w++[(73,37,Y8 fr i r t zs f N m n,[64,65,66,67])]))) Zk) Zh 100 20 13 (mvA fr i) ⟨68,arW false zs f N m n++ZF rc,arO N n,0,(tb 18 65536),0,True⟩)=some (Value.tuple { toList:=[Value.agg { toList:=Qz frZ (ZC 0 (Qz frZ (ZC (0+i.a.toNat*8) [Value.int .u32 (↑r.C),.int .u8 (↑r.E),.int .u16 (↑r.B),.int .u16 (↑r.T),.int .u16 (↑r.P),.int .u16 (↑r.Y),.int .u32 (↑r.R),.bool r.V] (frL nx)) 0) frZ) 0 },.int .i64 0] },bif ZI 136 (ZC 0 (Qz frZ (ZC (0+i.a.toNat*8) [Value.int .u32 (↑r.C),.int .u8 (↑r.E),.int .u16 (↑r.B),.int .u16 (↑r.T),.int .u16 (↑r.P),.int .u16 (↑r.Y),.int .u32 (↑r.R),.bool r.V] (frL nx)) 0) frZ)&&Zi frZ (ZC 0 (Qz frZ (ZC (0+i.a.toNat*8) [Value.int .u32 (↑r.C),.int .u8 (↑r.E),.int .u16 (↑r.B),.int .u16 (↑r.T),.int .u16 (↑r.P),.int .u16 (↑r.Y),.int .u32 (↑r.R),.bool r.V] (frL nx)) 0) frZ) 0 then bif ZI (0+ZA (Qz frZ (ZC (0+i.a.toNat*8) [Value.int .u32 (↑r.C),.int .u8 (↑r.E),.int .u16 (↑r.B),.int .u16 (↑r.T),.int .u16 (↑r.P),.int .u16 (↑r.Y),.int .u32 (↑r.R),.bool r.V] (frL nx)) 0)) frZ&&KD (Qz frZ (ZC (0+i.a.toNat*8) [Value.int .u32 (↑r.C),.int .u8 (↑r.E),.int .u16 (↑r.B),.int .u16 (↑r.T),.int .u16 (↑r.P),.int .u16 (↑r.Y),.int .u32 (↑r.R),.bool r.V] (frL nx)) 0)&&true then bif ZI 136 (ZC (0+i.a.toNat*8) [Value.int .u32 (↑r.C),.int .u8 (↑r.E),.int .u16 (↑r.B),.int .u16 (↑r.T),.int .u16 (↑r.P),.int .u16 (↑r.Y),.int .u32 (↑r.R),.bool r.V] (frL nx))&&Zi frZ (ZC (0+i.a.toNat*8) [Value.int .u32 (↑r.C),.int .u8 (↑r.E),.int .u16 (↑r.B),.int .u16 (↑r.T),.int .u16 (↑r.P),.int .u16 (↑r.Y),.int .u32 (↑r.R),.bool r.V] (frL nx)) 0 then(bif ZI (0+i.a.toNat*8+8) (frL nx)&&true&&true then bif decide ((0:Int)≤i.a)&&decide (i.a<(16:Int)) then((((((((((((((((((((True∧True∧(rr (Value.agg { toList:=(frL fr) })∧True)∧True∧True)∧True∧(rr (Value.agg ⟨[.int .i64 i.op,.int .i64 i.a,.int .i64 i.b,.int .i64 i.c,.int .i64 i.m]⟩)∧True)∧((tt∧rc.all (okV (fun l=>l.blt 64) 3)=true∧tt∧tt∧tt∧True∧rc=List.map (rnV (lift 64 73 []) 3) rc)∧True)∧True)∧rr false)∧rr false)∧rr false)∧rr false)∧(i.op==(53:Int))=false)∧(i.op==(50:Int))=false)∧(i.op==(50:Int))=false)∧(i.op==(50:Int))=false)∧(i.op==(50:Int))=false)∧(i.op==(51:Int))=false)∧(i.op==(51:Int))=false)∧(i.op==(51:Int))=false)∧(i.op==(51:Int))=false)∧(i.op==(52:Int))=false)∧(i.op==(29:Int))=false)∧(i.op==(30:Int))=false)∧True∧(rr (Value.int .i64 i.op)∧True)∧True∧True)∧decide ((↑w:Int)>(0:Int))=true)∧True∧(rr (Value.agg { toList:=(frL fr) })∧rr (Value.agg ⟨[.int .i64 i.op,.int .i64 i.a,.int .i64 i.b,.int .i64 i.c,.int .i64 i.m]⟩)∧rr (Value.pointer (some ⟨67,0,none⟩))∧True)∧((tt∧tt∧tt∧tt∧tt∧True∧rr [Value.pointer (some ⟨66,0,none⟩),.slice (some ⟨64,0,none⟩) N 9223372036854775872])∧(tt∧tt∧tt∧tt∧tt∧True∧rr [Value.int .i64 (↑m),.slice (some ⟨65,0,none⟩) n 9223372036854775873])∧(tt∧(v64 (Za f n)).all (okV (fun l=>l.blt 68) 3)=true∧tt∧tt∧tt∧True∧v64 (Za f n)=List.map (rnV (lift 68 73 [64,65,66,67]) 3) (v64 (Za f n)))∧(tt∧(u8s zs).all (okV (fun l=>l.blt 68) 3)=true∧tt∧tt∧tt∧True∧u8s zs=List.map (rnV (lift 68 73 [64,65,66,67]) 3) (u8s zs))∧True)∧(tt∧n≤n)∧(tt∧N≤N)∧True else False else False)∧((↑t:Int) !=(0:Int))=false else False else False else False):=by kernel_rfl
theorem Znx (i:In) (fr nx:Nat→Cp) (rc:List Value) (zs:List UInt8) (f:Nat→Bool) (N m n w:Nat) (r:Cp) (zs2:List UInt8) (f2:Nat→Bool):evF Tryz.prog (Zz 3 (Zd (doL i fr nx true rc (wdL i w++[(73,37,Zbi (mvA fr i) (Value.tuple { toList:=[r.val,.int .i64 0] }) zs zs2 f f2 N m n,[64,65,66,67])]))) Zk) Zh 100 20 13 (mvA fr i) ⟨68,arW true zs f N m n++ZF rc,arO N n,0,(tb 18 65536),0,True⟩=some (Value.tuple { toList:=[Value.agg { toList:=Qz frZ (ZC 0 (Qz frZ (ZC (0+i.a.toNat*8) [Value.int .u32 (↑r.C),.int .u8 (↑r.E),.int .u16 (↑r.B),.int .u16 (↑r.T),.int .u16 (↑r.P),.int .u16 (↑r.Y),.int .u32 (↑r.R),.bool r.V] (frL nx)) 0) frZ) 0 },.int .i64 0] },{ n:=74,h:=[(67,⟨true,none,[Value.pointer (some ⟨66,0,none⟩),.slice (some ⟨64,0,none⟩) N 9223372036854775872],none⟩),(66,⟨true,none,[Value.int .i64 (↑m),.slice (some ⟨65,0,none⟩) n 9223372036854775873],none⟩),(65,⟨true,some (65,1),v64 (Za f2 n),none⟩),(64,⟨true,some (64,1),u8s zs2,none⟩),(0,⟨false,none,rc,none⟩)],lo:=[(65,n),(64,N),(65,n),(64,N)],esc:=0,T:=[],k:=18,O:=bif ZI 136 (ZC 0 (Qz frZ (ZC (0+i.a.toNat*8) [Value.int .u32 (↑r.C),.int .u8 (↑r.E),.int .u16 (↑r.B),.int .u16 (↑r.T),.int .u16 (↑r.P),.int .u16 (↑r.Y),.int .u32 (↑r.R),.bool r.V] (frL nx)) 0) frZ)&&Zi frZ (ZC 0 (Qz frZ (ZC (0+i.a.toNat*8) [Value.int .u32 (↑r.C),.int .u8 (↑r.E),.int .u16 (↑r.B),.int .u16 (↑r.T),.int .u16 (↑r.P),.int .u16 (↑r.Y),.int .u32 (↑r.R),.bool r.V] (frL nx)) 0) frZ) 0 then bif ZI (0+ZA (Qz frZ (ZC (0+i.a.toNat*8) [Value.int .u32 (↑r.C),.int .u8 (↑r.E),.int .u16 (↑r.B),.int .u16 (↑r.T),.int .u16 (↑r.P),.int .u16 (↑r.Y),.int .u32 (↑r.R),.bool r.V] (frL nx)) 0)) frZ&&KD (Qz frZ (ZC (0+i.a.toNat*8) [Value.int .u32 (↑r.C),.int .u8 (↑r.E),.int .u16 (↑r.B),.int .u16 (↑r.T),.int .u16 (↑r.P),.int .u16 (↑r.Y),.int .u32 (↑r.R),.bool r.V] (frL nx)) 0)&&true then bif ZI 136 (ZC (0+i.a.toNat*8) [Value.int .u32 (↑r.C),.int .u8 (↑r.E),.int .u16 (↑r.B),.int .u16 (↑r.T),.int .u16 (↑r.P),.int .u16 (↑r.Y),.int .u32 (↑r.R),.bool r.V] (frL nx))&&Zi frZ (ZC (0+i.a.toNat*8) [Value.int .u32 (↑r.C),.int .u8 (↑r.E),.int .u16 (↑r.B),.int .u16 (↑r.T),.int .u16 (↑r.P),.int .u16 (↑r.Y),.int .u32 (↑r.R),.bool r.V] (frL nx)) 0 then(bif ZI (0+i.a.toNat*8+8) (frL nx)&&true&&true then bif decide ((0:Int)≤i.a)&&decide (i.a<(16:Int)) then((((((((((((((((((((True∧True∧(rr (Value.agg { toList:=(frL fr) })∧True)∧True∧True)∧True∧(rr (Value.agg ⟨[.int .i64 i.op,.int .i64 i.a,.int .i64 i.b,.int .i64 i.c,.int .i64 i.m]⟩)∧True)∧((tt∧rc.all (okV (fun l=>l.blt 64) 3)=true∧tt∧tt∧tt∧True∧rc=List.map (rnV (lift 64 73 []) 3) rc)∧True)∧True)∧rr false)∧rr false)∧rr false)∧rr false)∧(i.op==(53:Int))=false)∧(i.op==(50:Int))=false)∧(i.op==(50:Int))=false)∧(i.op==(50:Int))=false)∧(i.op==(50:Int))=false)∧(i.op==(51:Int))=false)∧(i.op==(51:Int))=false)∧(i.op==(51:Int))=false)∧(i.op==(51:Int))=false)∧(i.op==(52:Int))=false)∧(i.op==(29:Int))=false)∧(i.op==(30:Int))=false)∧True∧(rr (Value.int .i64 i.op)∧True)∧True∧True)∧decide ((↑w:Int)>(0:Int))=true)∧True∧(rr (Value.agg { toList:=(frL fr) })∧rr (Value.agg ⟨[.int .i64 i.op,.int .i64 i.a,.int .i64 i.b,.int .i64 i.c,.int .i64 i.m]⟩)∧rr (Value.pointer (some ⟨67,0,none⟩))∧True)∧((tt∧tt∧tt∧tt∧tt∧True∧rr [Value.pointer (some ⟨66,0,none⟩),.slice (some ⟨64,0,none⟩) N 9223372036854775872])∧(tt∧tt∧tt∧tt∧tt∧True∧rr [Value.int .i64 (↑m),.slice (some ⟨65,0,none⟩) n 9223372036854775873])∧(tt∧(v64 (Za f n)).all (okV (fun l=>l.blt 68) 3)=true∧tt∧tt∧tt∧True∧v64 (Za f n)=List.map (rnV (lift 68 73 [64,65,66,67]) 3) (v64 (Za f n)))∧(tt∧(u8s zs).all (okV (fun l=>l.blt 68) 3)=true∧tt∧tt∧tt∧True∧u8s zs=List.map (rnV (lift 68 73 [64,65,66,67]) 3) (u8s zs))∧True)∧(tt∧n≤n)∧(tt∧N≤N)∧True else False else False)∧false=false else False else False else False:St }):=by kernel_rfl
theorem ZkS (i:In) (fr nx:Nat→Cp) (rc:List Value) (zs:List UInt8) (f:Nat→Bool) (N m n:Nat) (cA cB:Cp) (k is:Bool) (p:Cp):obs (evF Tryz.prog (Zz 3 (Zd (doL i fr nx true rc (wdL i 0++tkL i cA cB k is++[(73,34,Con.pure [Q8 fr,.int .i64 i.m] p.val,[])]))) Zk) Zh 100 20 13 (mvA fr i) ⟨68,arW false zs f N m n++ZF rc,arO N n,0,(tb 20 393216),0,True⟩)=some (Value.tuple { toList:=[Value.agg { toList:=(frQ nx [Value.int .u32 (↑p.C),.int .u8 (↑p.E),.int .u16 (↑p.B),.int .u16 (↑p.T),.int .u16 (↑p.P),.int .u16 (↑p.Y),.int .u32 (↑p.R),.bool p.V]) },.int .i64 0] },(((((bif ZI (0+i.b.toNat*8+0+1) (frL fr)&&Zi [Value.int .u32 0] (frL fr) (0+i.b.toNat*8+0) then bif decide ((0:Int)≤i.b)&&decide (i.b<(16:Int)) then bif ZI (0+i.a.toNat*8+0+1) (frL fr)&&Zi [Value.int .u32 0] (frL fr) (0+i.a.toNat*8+0) then bif decide ((0:Int)≤i.a)&&decide (i.a<(16:Int)) then(((((((((((((((((((True∧True∧(rr (Value.agg { toList:=(frL fr) })∧True)∧True∧True)∧True∧(rr (Value.agg ⟨[.int .i64 i.op,.int .i64 i.a,.int .i64 i.b,.int .i64 i.c,.int .i64 i.m]⟩)∧True)∧((tt∧rc.all (okV (fun l=>l.blt 64) 3)=true∧tt∧tt∧tt∧True∧rc=List.map (rnV (lift 64 73 []) 3) rc)∧True)∧True)∧rr false)∧rr false)∧rr false)∧rr false)∧(i.op==(53:Int))=false)∧(i.op==(50:Int))=false)∧(i.op==(50:Int))=false)∧(i.op==(50:Int))=false)∧(i.op==(50:Int))=false)∧(i.op==(51:Int))=false)∧(i.op==(51:Int))=false)∧(i.op==(51:Int))=false)∧(i.op==(51:Int))=false)∧(i.op==(52:Int))=false)∧(i.op==(29:Int))=false)∧(i.op==(30:Int))=false)∧True∧(rr (Value.int .i64 i.op)∧True)∧True∧True)∧false=false else False else False else False else False)∧True∧(rr (Value.int .i64 i.op)∧Value.int .u32 (Zb (Zc undef (frL fr) (0+i.a.toNat*8+0)))=Value.int .u32 (↑cA.C)∧Value.int .u32 (Zb (Zc undef (frL fr) (0+i.b.toNat*8+0)))=Value.int .u32 (↑cB.C)∧True)∧True∧True)∧is=true)∧k=true)∧True∧(rr (Value.agg { toList:=(frL fr) })∧rr (Value.int .i64 i.m)∧True)∧True∧True)∧rr false):=by kernel_rfl
theorem ZkT (i:In) (fr nx:Nat→Cp) (rc:List Value) (zs:List UInt8) (f:Nat→Bool) (N m n:Nat) (cA cB:Cp) (k is:Bool):obs (evF Tryz.prog (Zz 3 (Zd (doL i fr nx true rc (wdL i 0++tkL i cA cB k is))) Zk) Zh 100 20 13 (mvA fr i) ⟨68,arW false zs f N m n++ZF rc,arO N n,0,(tb 20 131072),0,True⟩)=some (Value.tuple { toList:=[Value.agg { toList:=(frL nx) },.int .i64 0] },((((bif ZI (0+i.b.toNat*8+0+1) (frL fr)&&Zi [Value.int .u32 0] (frL fr) (0+i.b.toNat*8+0) then bif decide ((0:Int)≤i.b)&&decide (i.b<(16:Int)) then bif ZI (0+i.a.toNat*8+0+1) (frL fr)&&Zi [Value.int .u32 0] (frL fr) (0+i.a.toNat*8+0) then bif decide ((0:Int)≤i.a)&&decide (i.a<(16:Int)) then(((((((((((((((((((True∧True∧(rr (Value.agg { toList:=(frL fr) })∧True)∧True∧True)∧True∧(rr (Value.agg ⟨[.int .i64 i.op,.int .i64 i.a,.int .i64 i.b,.int .i64 i.c,.int .i64 i.m]⟩)∧True)∧((tt∧rc.all (okV (fun l=>l.blt 64) 3)=true∧tt∧tt∧tt∧True∧rc=List.map (rnV (lift 64 73 []) 3) rc)∧True)∧True)∧rr false)∧rr false)∧rr false)∧rr false)∧(i.op==(53:Int))=false)∧(i.op==(50:Int))=false)∧(i.op==(50:Int))=false)∧(i.op==(50:Int))=false)∧(i.op==(50:Int))=false)∧(i.op==(51:Int))=false)∧(i.op==(51:Int))=false)∧(i.op==(51:Int))=false)∧(i.op==(51:Int))=false)∧(i.op==(52:Int))=false)∧(i.op==(29:Int))=false)∧(i.op==(30:Int))=false)∧True∧(rr (Value.int .i64 i.op)∧True)∧True∧True)∧false=false else False else False else False else False)∧True∧(rr (Value.int .i64 i.op)∧Value.int .u32 (Zb (Zc undef (frL fr) (0+i.a.toNat*8+0)))=Value.int .u32 (↑cA.C)∧Value.int .u32 (Zb (Zc undef (frL fr) (0+i.b.toNat*8+0)))=Value.int .u32 (↑cB.C)∧True)∧True∧True)∧is=true)∧k=false)∧rr false):=by kernel_rfl
theorem ZkU (i:In) (fr nx:Nat→Cp) (rc:List Value) (zs:List UInt8) (f:Nat→Bool) (N m n:Nat) (cA cB cC:Cp) (v t:Nat) (is:Bool):obs (evF Tryz.prog (Zz 3 (Zd (doL i fr nx true rc (wdL i 0++tkL i cA cB false false++rkL i cB cC v t is))) Zk) Zh 100 20 13 (mvA fr i) ⟨68,arW false zs f N m n++ZF rc,arO N n,0,(tb 20 262144),0,True⟩)=some (Value.tuple { toList:=[Value.agg { toList:=Qz frZ (ZC 0 (Qz frZ (ZC (0+i.a.toNat*8) [Value.int .u32 (↑v),.int .u8 0,.int .u16 0,.int .u16 0,.int .u16 0,.int .u16 0,.int .u32 0,.bool false] (frL nx)) 0) frZ) 0 },.int .i64 0] },bif ZI 136 (ZC 0 (Qz frZ (ZC (0+i.a.toNat*8) [Value.int .u32 (↑v),.int .u8 0,.int .u16 0,.int .u16 0,.int .u16 0,.int .u16 0,.int .u32 0,.bool false] (frL nx)) 0) frZ)&&Zi frZ (ZC 0 (Qz frZ (ZC (0+i.a.toNat*8) [Value.int .u32 (↑v),.int .u8 0,.int .u16 0,.int .u16 0,.int .u16 0,.int .u16 0,.int .u32 0,.bool false] (frL nx)) 0) frZ) 0 then bif ZI (0+ZA (Qz frZ (ZC (0+i.a.toNat*8) [Value.int .u32 (↑v),.int .u8 0,.int .u16 0,.int .u16 0,.int .u16 0,.int .u16 0,.int .u32 0,.bool false] (frL nx)) 0)) frZ&&KD (Qz frZ (ZC (0+i.a.toNat*8) [Value.int .u32 (↑v),.int .u8 0,.int .u16 0,.int .u16 0,.int .u16 0,.int .u16 0,.int .u32 0,.bool false] (frL nx)) 0)&&true then bif ZI 136 (ZC (0+i.a.toNat*8) [Value.int .u32 (↑v),.int .u8 0,.int .u16 0,.int .u16 0,.int .u16 0,.int .u16 0,.int .u32 0,.bool false] (frL nx))&&Zi frZ (ZC (0+i.a.toNat*8) [Value.int .u32 (↑v),.int .u8 0,.int .u16 0,.int .u16 0,.int .u16 0,.int .u16 0,.int .u32 0,.bool false] (frL nx)) 0 then(bif ZI (0+i.a.toNat*8+8) (frL nx)&&true&&true then bif decide ((0:Int)≤i.a)&&decide (i.a<(16:Int)) then((bif ZI (0+i.c.toNat*8+0+1) (frL fr)&&Zi [Value.int .u32 0] (frL fr) (0+i.c.toNat*8+0) then bif decide ((0:Int)≤i.c)&&decide (i.c<(16:Int)) then bif ZI (0+i.b.toNat*8+0+1) (frL fr)&&Zi [Value.int .u32 0] (frL fr) (0+i.b.toNat*8+0) then bif decide ((0:Int)≤i.b)&&decide (i.b<(16:Int)) then((bif ZI (0+i.b.toNat*8+0+1) (frL fr)&&Zi [Value.int .u32 0] (frL fr) (0+i.b.toNat*8+0) then bif decide ((0:Int)≤i.b)&&decide (i.b<(16:Int)) then bif ZI (0+i.a.toNat*8+0+1) (frL fr)&&Zi [Value.int .u32 0] (frL fr) (0+i.a.toNat*8+0) then bif decide ((0:Int)≤i.a)&&decide (i.a<(16:Int)) then(((((((((((((((((((True∧True∧(rr (Value.agg { toList:=(frL fr) })∧True)∧True∧True)∧True∧(rr (Value.agg ⟨[.int .i64 i.op,.int .i64 i.a,.int .i64 i.b,.int .i64 i.c,.int .i64 i.m]⟩)∧True)∧((tt∧rc.all (okV (fun l=>l.blt 64) 3)=true∧tt∧tt∧tt∧True∧rc=List.map (rnV (lift 64 73 []) 3) rc)∧True)∧True)∧rr false)∧rr false)∧rr false)∧rr false)∧(i.op==(53:Int))=false)∧(i.op==(50:Int))=false)∧(i.op==(50:Int))=false)∧(i.op==(50:Int))=false)∧(i.op==(50:Int))=false)∧(i.op==(51:Int))=false)∧(i.op==(51:Int))=false)∧(i.op==(51:Int))=false)∧(i.op==(51:Int))=false)∧(i.op==(52:Int))=false)∧(i.op==(29:Int))=false)∧(i.op==(30:Int))=false)∧True∧(rr (Value.int .i64 i.op)∧True)∧True∧True)∧false=false else False else False else False else False)∧True∧(rr (Value.int .i64 i.op)∧Value.int .u32 (Zb (Zc undef (frL fr) (0+i.a.toNat*8+0)))=Value.int .u32 (↑cA.C)∧Value.int .u32 (Zb (Zc undef (frL fr) (0+i.b.toNat*8+0)))=Value.int .u32 (↑cB.C)∧True)∧True∧True)∧false=false else False else False else False else False)∧True∧(rr (Value.int .i64 i.op)∧Value.int .u32 (Zb (Zc undef (frL fr) (0+i.b.toNat*8+0)))=Value.int .u32 (↑cB.C)∧Value.int .u32 (Zb (Zc undef (frL fr) (0+i.c.toNat*8+0)))=Value.int .u32 (↑cC.C)∧True)∧True∧True)∧is=true else False else False)∧((↑t:Int) !=(0:Int))=false else False else False else False):=by kernel_rfl
theorem ZkV (i:In) (fr nx:Nat→Cp) (rc:List Value) (zs:List UInt8) (f:Nat→Bool) (N m n:Nat) (cA cB cC:Cp) (v t:Nat) (is:Bool):obs (evF Tryz.prog (Zz 3 (Zd (doL i fr nx true rc (wdL i 0++tkL i cA cB false false++rkL i cB cC v t is))) Zk) Zh 100 20 13 (mvA fr i) ⟨68,arW false zs f N m n++ZF rc,arO N n,0,(tb 20 786432),0,True⟩)=some (Value.tuple { toList:=[Value.agg { toList:=frZ },.int .i64 (↑t)] },(bif ZI (0+i.a.toNat*8+8) (frL nx)&&true&&true then bif decide ((0:Int)≤i.a)&&decide (i.a<(16:Int)) then((bif ZI (0+i.c.toNat*8+0+1) (frL fr)&&Zi [Value.int .u32 0] (frL fr) (0+i.c.toNat*8+0) then bif decide ((0:Int)≤i.c)&&decide (i.c<(16:Int)) then bif ZI (0+i.b.toNat*8+0+1) (frL fr)&&Zi [Value.int .u32 0] (frL fr) (0+i.b.toNat*8+0) then bif decide ((0:Int)≤i.b)&&decide (i.b<(16:Int)) then((bif ZI (0+i.b.toNat*8+0+1) (frL fr)&&Zi [Value.int .u32 0] (frL fr) (0+i.b.toNat*8+0) then bif decide ((0:Int)≤i.b)&&decide (i.b<(16:Int)) then bif ZI (0+i.a.toNat*8+0+1) (frL fr)&&Zi [Value.int .u32 0] (frL fr) (0+i.a.toNat*8+0) then bif decide ((0:Int)≤i.a)&&decide (i.a<(16:Int)) then(((((((((((((((((((True∧True∧(rr (Value.agg { toList:=(frL fr) })∧True)∧True∧True)∧True∧(rr (Value.agg ⟨[.int .i64 i.op,.int .i64 i.a,.int .i64 i.b,.int .i64 i.c,.int .i64 i.m]⟩)∧True)∧((tt∧rc.all (okV (fun l=>l.blt 64) 3)=true∧tt∧tt∧tt∧True∧rc=List.map (rnV (lift 64 73 []) 3) rc)∧True)∧True)∧rr false)∧rr false)∧rr false)∧rr false)∧(i.op==(53:Int))=false)∧(i.op==(50:Int))=false)∧(i.op==(50:Int))=false)∧(i.op==(50:Int))=false)∧(i.op==(50:Int))=false)∧(i.op==(51:Int))=false)∧(i.op==(51:Int))=false)∧(i.op==(51:Int))=false)∧(i.op==(51:Int))=false)∧(i.op==(52:Int))=false)∧(i.op==(29:Int))=false)∧(i.op==(30:Int))=false)∧True∧(rr (Value.int .i64 i.op)∧True)∧True∧True)∧false=false else False else False else False else False)∧True∧(rr (Value.int .i64 i.op)∧Value.int .u32 (Zb (Zc undef (frL fr) (0+i.a.toNat*8+0)))=Value.int .u32 (↑cA.C)∧Value.int .u32 (Zb (Zc undef (frL fr) (0+i.b.toNat*8+0)))=Value.int .u32 (↑cB.C)∧True)∧True∧True)∧false=false else False else False else False else False)∧True∧(rr (Value.int .i64 i.op)∧Value.int .u32 (Zb (Zc undef (frL fr) (0+i.b.toNat*8+0)))=Value.int .u32 (↑cB.C)∧Value.int .u32 (Zb (Zc undef (frL fr) (0+i.c.toNat*8+0)))=Value.int .u32 (↑cC.C)∧True)∧True∧True)∧is=true else False else False)∧((↑t:Int) !=(0:Int))=true):=by kernel_rfl
theorem Zny (i:In) (fr nx:Nat→Cp) (rc:List Value) (zs:List UInt8) (f:Nat→Bool) (N m n:Nat) (cA cB cC:Cp) (v t:Nat) (is:Bool) (r:Cp):obs (evF Tryz.prog (Zz 3 (Zd (doL i fr nx true rc (wdL i 0++tkL i cA cB false false++rkL i cB cC v t is++[(73,40,Con.pure [Q8 fr,i.val] r.val,[])]))) Zk) Zh 100 20 13 (mvA fr i) ⟨68,arW false zs f N m n++ZF rc,arO N n,0,(tb 20 0),0,True⟩)=some (Value.tuple { toList:=[Value.agg { toList:=Qz frZ (ZC 0 (Qz frZ (ZC (0+i.a.toNat*8) [Value.int .u32 (↑r.C),.int .u8 (↑r.E),.int .u16 (↑r.B),.int .u16 (↑r.T),.int .u16 (↑r.P),.int .u16 (↑r.Y),.int .u32 (↑r.R),.bool r.V] (frL nx)) 0) frZ) 0 },.int .i64 0] },bif ZI 136 (ZC 0 (Qz frZ (ZC (0+i.a.toNat*8) [Value.int .u32 (↑r.C),.int .u8 (↑r.E),.int .u16 (↑r.B),.int .u16 (↑r.T),.int .u16 (↑r.P),.int .u16 (↑r.Y),.int .u32 (↑r.R),.bool r.V] (frL nx)) 0) frZ)&&Zi frZ (ZC 0 (Qz frZ (ZC (0+i.a.toNat*8) [Value.int .u32 (↑r.C),.int .u8 (↑r.E),.int .u16 (↑r.B),.int .u16 (↑r.T),.int .u16 (↑r.P),.int .u16 (↑r.Y),.int .u32 (↑r.R),.bool r.V] (frL nx)) 0) frZ) 0 then bif ZI (0+ZA (Qz frZ (ZC (0+i.a.toNat*8) [Value.int .u32 (↑r.C),.int .u8 (↑r.E),.int .u16 (↑r.B),.int .u16 (↑r.T),.int .u16 (↑r.P),.int .u16 (↑r.Y),.int .u32 (↑r.R),.bool r.V] (frL nx)) 0)) frZ&&KD (Qz frZ (ZC (0+i.a.toNat*8) [Value.int .u32 (↑r.C),.int .u8 (↑r.E),.int .u16 (↑r.B),.int .u16 (↑r.T),.int .u16 (↑r.P),.int .u16 (↑r.Y),.int .u32 (↑r.R),.bool r.V] (frL nx)) 0)&&true then bif ZI 136 (ZC (0+i.a.toNat*8) [Value.int .u32 (↑r.C),.int .u8 (↑r.E),.int .u16 (↑r.B),.int .u16 (↑r.T),.int .u16 (↑r.P),.int .u16 (↑r.Y),.int .u32 (↑r.R),.bool r.V] (frL nx))&&Zi frZ (ZC (0+i.a.toNat*8) [Value.int .u32 (↑r.C),.int .u8 (↑r.E),.int .u16 (↑r.B),.int .u16 (↑r.T),.int .u16 (↑r.P),.int .u16 (↑r.Y),.int .u32 (↑r.R),.bool r.V] (frL nx)) 0 then(bif ZI (0+i.a.toNat*8+8) (frL nx)&&true&&true then bif decide ((0:Int)≤i.a)&&decide (i.a<(16:Int)) then(((bif ZI (0+i.c.toNat*8+0+1) (frL fr)&&Zi [Value.int .u32 0] (frL fr) (0+i.c.toNat*8+0) then bif decide ((0:Int)≤i.c)&&decide (i.c<(16:Int)) then bif ZI (0+i.b.toNat*8+0+1) (frL fr)&&Zi [Value.int .u32 0] (frL fr) (0+i.b.toNat*8+0) then bif decide ((0:Int)≤i.b)&&decide (i.b<(16:Int)) then((bif ZI (0+i.b.toNat*8+0+1) (frL fr)&&Zi [Value.int .u32 0] (frL fr) (0+i.b.toNat*8+0) then bif decide ((0:Int)≤i.b)&&decide (i.b<(16:Int)) then bif ZI (0+i.a.toNat*8+0+1) (frL fr)&&Zi [Value.int .u32 0] (frL fr) (0+i.a.toNat*8+0) then bif decide ((0:Int)≤i.a)&&decide (i.a<(16:Int)) then(((((((((((((((((((True∧True∧(rr (Value.agg { toList:=(frL fr) })∧True)∧True∧True)∧True∧(rr (Value.agg ⟨[.int .i64 i.op,.int .i64 i.a,.int .i64 i.b,.int .i64 i.c,.int .i64 i.m]⟩)∧True)∧((tt∧rc.all (okV (fun l=>l.blt 64) 3)=true∧tt∧tt∧tt∧True∧rc=List.map (rnV (lift 64 73 []) 3) rc)∧True)∧True)∧rr false)∧rr false)∧rr false)∧rr false)∧(i.op==(53:Int))=false)∧(i.op==(50:Int))=false)∧(i.op==(50:Int))=false)∧(i.op==(50:Int))=false)∧(i.op==(50:Int))=false)∧(i.op==(51:Int))=false)∧(i.op==(51:Int))=false)∧(i.op==(51:Int))=false)∧(i.op==(51:Int))=false)∧(i.op==(52:Int))=false)∧(i.op==(29:Int))=false)∧(i.op==(30:Int))=false)∧True∧(rr (Value.int .i64 i.op)∧True)∧True∧True)∧false=false else False else False else False else False)∧True∧(rr (Value.int .i64 i.op)∧Value.int .u32 (Zb (Zc undef (frL fr) (0+i.a.toNat*8+0)))=Value.int .u32 (↑cA.C)∧Value.int .u32 (Zb (Zc undef (frL fr) (0+i.b.toNat*8+0)))=Value.int .u32 (↑cB.C)∧True)∧True∧True)∧false=false else False else False else False else False)∧True∧(rr (Value.int .i64 i.op)∧Value.int .u32 (Zb (Zc undef (frL fr) (0+i.b.toNat*8+0)))=Value.int .u32 (↑cB.C)∧Value.int .u32 (Zb (Zc undef (frL fr) (0+i.c.toNat*8+0)))=Value.int .u32 (↑cC.C)∧True)∧True∧True)∧is=false)∧True∧(rr (Value.agg { toList:=(frL fr) })∧rr (Value.agg ⟨[.int .i64 i.op,.int .i64 i.a,.int .i64 i.b,.int .i64 i.c,.int .i64 i.m]⟩)∧True)∧True∧True else False else False)∧false=false else False else False else False):=by kernel_rfl
theorem Zfq {q:Nat→Bool}:∀ {l k:Sy.Heap},OkH q l→OkH q k→OkH q (l++k)
 | [],_,_,h=>h
 | _::l,_,h,hk=>⟨h.1,Zfq (l:=l) h.2 hk⟩
theorem ZcS {q:Nat→Bool} (h:∀ l,l<68→q l=true) (rw:Bool) (zs:List UInt8) (f:Nat→Bool) (N m n:Nat):OkH q (arW rw zs f N m n++ZF ZB):=Zfq (XL h rw zs f N m n) (Zfm fun l hl=>h l (by omega))
def Vl (args:List Value) (fr':Nat→Cp) (t:Nat) (zs:List UInt8) (f:Nat→Bool) (N m n:Nat):Con:=⟨args,68,arW false zs f N m n++ZF ZB,arO N n,.tuple ⟨[Q8 fr',.int .i64 (t:Nat)]⟩,68,[],[]⟩
def ZjP (args:List Value) (fr':Nat→Cp) (zs zs':List UInt8) (f f':Nat→Bool) (N m n:Nat):Con:=⟨args,68,arW true zs f N m n++ZF ZB,arO N n,.tuple ⟨[Q8 fr',.int .i64 0]⟩,68,arW true zs' f' N m n,arO N n⟩
theorem YT {call:Z1} (hc:Zx Tryz.prog call) {fn:FuncId} {args:List Value} {fr':Nat→Cp} {t:Nat} {v:Value} {zs:List UInt8} {f:Nat→Bool} {N m n:Nat} {T:List (Nat×Bool)} {q:Prop} (ha:args.all (okV (fun l=>Nat.blt l 68) 3)=true) (h:obs (call fn args ⟨68,arW false zs f N m n++ZF ZB,arO N n,0,T,0,True⟩)=some (v,q)) (hv:v = .tuple ⟨[Q8 fr',.int .i64 (t:Nat)]⟩) (hq:q) :
  ConOk Tryz.prog fn 3 (Vl args fr' t zs f N m n)∧FlatC (Vl args fr' t zs f N m n):=by
 subst hv
 unfold obs at h
 obtain⟨⟨v',s'⟩,h1,h2⟩:=oM h
 simp only[rr, tt, Prod.mk.injEq] at h2
 obtain⟨rfl,rfl⟩:=h2
 have hv:Ym (.tuple ⟨[Q8 fr',.int .i64 (t:Nat)]⟩)=true:=rfl
 refine⟨ZZ hc ⟨by show 64≤68; omega,Nat.le_refl _,ZcS KU false zs f N m n,rfl,rfl,rfl,ha,QB hv 1,fun x hx=>by cases hx⟩ h1 hq (p:=fun l=>Nat.blt l 68) (σ:=id) ?_,⟨fun x hx=>by cases hx⟩⟩
 exact⟨fun _ _=>rfl,trivial,rfl,trivial,⟨QB hv 1,by rw[XY]; rfl⟩,rfl,trivial,rfl,Q6 _ hv,fun x hx=>by cases hx⟩
theorem ZiV {call:Z1} (hc:Zx Tryz.prog call) {fn:FuncId} {args:List Value} {fr':Nat→Cp} {v:Value} {zs zs':List UInt8} {f f':Nat→Bool} {N m n:Nat} {T:List (Nat×Bool)} {s':Sy.St} (ha:args.all (okV (fun l=>Nat.blt l 68) 3)=true) (h:call fn args ⟨68,arW true zs f N m n++ZF ZB,arO N n,0,T,0,True⟩=some (v,s')) (hv:v = .tuple ⟨[Q8 fr',.int .i64 0]⟩) (hO:s'.O)
  (h1:YQ 3 (fun l=>Nat.blt l 68) id s'.h (arW true zs' f' N m n)) (h2:Wn (fun l=>Nat.blt l 68) id s'.lo (arO N n)):ConOk Tryz.prog fn 3 (ZjP args fr' zs zs' f f' N m n)∧FlatC (ZjP args fr' zs zs' f f' N m n):=by
 subst hv
 have hv:Ym (.tuple ⟨[Q8 fr',.int .i64 0]⟩)=true:=rfl
 refine⟨ZZ hc ⟨by show 64≤68; omega,Nat.le_refl _,ZcS KU true zs f N m n,rfl,rfl,rfl,ha,QB hv 1,ZbW true _ _ N m n⟩ h hO (p:=fun l=>Nat.blt l 68) (σ:=id) ?_,⟨X5 _ _ _ _ _ _⟩⟩
 exact⟨fun _ _=>rfl,h1,rfl,h2,⟨QB hv 1,by rw[XY]; rfl⟩,rfl,XL U2 true _ _ N m n,rfl,Q6 _ hv,fun x _ _ => .inl rfl⟩
theorem Qn (x:Nat→Cp):Qz frZ (frL x) 0=frL x:=rfl
theorem QL (x:Nat→Cp):Zi frZ (frL x) 0=true:=rfl
theorem QM (x:Nat→Cp):ZI 136 (frL x)=true:=rfl
theorem QN (x:Nat→Cp):ZA (frL x)=136:=rfl
theorem Qo:ZI (0+136) frZ=true:=rfl
theorem QO (x:Nat→Cp):KD (frL x)=true:=rfl
theorem Qp (x:Nat→Cp):ZC 0 (frL x) frZ=frL x:=rfl
theorem QP (x:Nat→Cp):(frL x).all ZP=true:=rfl
theorem Z4 (x:Nat→Cp) (a:Nat) (r:Cp) (ha:a<17):ZC (0+a*8) [Value.int u32 (↑r.C:Int),Value.int u8 (↑r.E:Int),Value.int u16 (↑r.B:Int),Value.int u16 (↑r.T:Int),Value.int u16 (↑r.P:Int),Value.int u16 (↑r.Y:Int),Value.int u32 (↑r.R:Int),Value.bool r.V] (frL x)=frL (frS x a r):=by
 have h:=Ze0 x r a ha
 rw[← h,show 0+a*8=8*a by omega]
 rfl
theorem Z0 (x:Nat→Cp) (r:Cp):ZC 128 [Value.int u32 (↑r.C:Int),Value.int u8 (↑r.E:Int),Value.int u16 (↑r.B:Int),Value.int u16 (↑r.T:Int),Value.int u16 (↑r.P:Int),Value.int u16 (↑r.Y:Int),Value.int u32 (↑r.R:Int),Value.bool r.V] (frL x)=frL (frS x 16 r):=Z4 x 16 r (by omega)
theorem ZU (x:Nat→Cp) (a v:Nat) (ha:a<17):ZC (0+a*8) [Value.int u32 (↑v:Int),Value.int u8 (0:Int),Value.int u16 (0:Int),Value.int u16 (0:Int),Value.int u16 (0:Int),Value.int u16 (0:Int),Value.int u32 (0:Int),Value.bool false] (frL x)=frL (frS x a (KJ v)):=Z4 x a (KJ v) ha
theorem Xu {i:In} {fr nx:Nat→Cp} {k:Bool} {L:Sy.Steps} (hfr:Wp fr) (h1:nx=Ys fr) (h2:k=XO i) (hL:∀ x∈L,ConOk Tryz.prog x.2.1 3 x.2.2.1∧FlatC x.2.2.1):∀ x∈doL i fr nx k ZB L,ConOk Tryz.prog x.2.1 3 x.2.2.1∧FlatC x.2.2.1:=fun x hx=>by
 unfold doL at hx
 subst h1 h2
 rcases List.mem_cons.1 hx with rfl|hx
 ·exact⟨ZgB fr hfr,⟨fun x hx=>by cases hx⟩⟩
 ·rcases List.mem_cons.1 hx with rfl|hx
  ·exact ZiQ i
  ·exact hL x hx
theorem JQ {args:List Value} {v:Value}:FlatC (Con.pure args v):=⟨fun x hx=>by cases hx⟩
theorem KN {i:In} {w:Nat} (h:w=Yt i.op):∀ x∈wdL i w,ConOk Tryz.prog x.2.1 3 x.2.2.1∧FlatC x.2.2.1:=fun x hx=>by
 subst h
 obtain rfl:=List.mem_singleton.1 hx
 exact⟨Ze5 i.op,JQ⟩
theorem Zbj {i:In} {cA cB:Cp} {k is:Bool} (h1:k=tkS i.op cA.C cB.C) (h2:is=tkI i.op):∀ x∈tkL i cA cB k is,ConOk Tryz.prog x.2.1 3 x.2.2.1∧FlatC x.2.2.1:=fun x hx=>by
 subst h1 h2
 obtain rfl:=List.mem_singleton.1 hx
 exact⟨Zg0 i.op cA.C cB.C,JQ⟩
theorem Zfr {i:In} {cB cC:Cp} {v t:Nat} {is:Bool} (hb:cB.Ok) (hc:cC.Ok) (h1:v=rkN i.op cB.C cC.C) (h2:t=rkT i.op cC.C) (h3:is=rkI i.op):∀ x∈rkL i cB cC v t is,ConOk Tryz.prog x.2.1 3 x.2.2.1∧FlatC x.2.2.1:=fun x hx=>by
 subst h1 h2 h3
 obtain rfl:=List.mem_singleton.1 hx
 exact⟨ZkM i.op cB.C cC.C hb.1 hc.1,JQ⟩
theorem Ws {L M:Sy.Steps} (h1:∀ x∈L,ConOk Tryz.prog x.2.1 3 x.2.2.1∧FlatC x.2.2.1) (h2:∀ x∈M,ConOk Tryz.prog x.2.1 3 x.2.2.1∧FlatC x.2.2.1):∀ x∈L++M,ConOk Tryz.prog x.2.1 3 x.2.2.1∧FlatC x.2.2.1:=fun x hx=>by
 rcases List.mem_append.1 hx with hx|hx
 ·exact h1 x hx
 ·exact h2 x hx
theorem Zbk {x:Nat×FuncId×Con×List Nat} (h:ConOk Tryz.prog x.2.1 3 x.2.2.1∧FlatC x.2.2.1):∀ y∈[x],ConOk Tryz.prog y.2.1 3 y.2.2.1∧FlatC y.2.2.1:=fun y hy=>by
 obtain rfl:=List.mem_singleton.1 hy; exact h
theorem Znz (fr:Nat→Cp) (i:In) (zs:List UInt8) (f:Nat→Bool) (N g n:Nat) (hfr:Wp fr) (hm:XO i=false):ConOk Tryz.prog 13 3 (Vl (mvA fr i) frN 6 zs f N g n)∧FlatC (Vl (mvA fr i) frN 6 zs f N g n):=by
 have hr:=do_b i fr (Ys fr) ZB zs f N g n
 refine YT (Zt (L:=100) Zg (Zs (Zj (Xu (i:=i) hfr rfl hm.symm (fun x hx=>by cases hx))) (Zf _)) (Ze _) 20) (QK _ _) hr rfl ?_
 simp only[rr, tt, ZE,Zw,and_true,true_and,and_self]
theorem ZiW (fr:Nat→Cp) (a b c:Nat) (m:Int) (zs:List UInt8) (f:Nat→Bool) (N g n:Nat) (hfr:Wp fr) (hm:XO (inS 53 a b c m)=true):ConOk Tryz.prog 13 3 (Vl (mvA fr (inS 53 a b c m)) (frN) 6 zs f N g n)∧FlatC (Vl (mvA fr (inS 53 a b c m)) (frN) 6 zs f N g n):=by
 have v1:∀ (f:Nat→Bool) (σ:Nat→Nat),(v64 (Za f n)).map (rnV σ 3)=v64 (Za f n):=fun f σ=>Zp (Zr _)
 have v2:∀ (f:Nat→Bool) (p:Nat→Bool),(v64 (Za f n)).all (okV p 3)=true:=fun f p=>Zn (Zr _)
 have u1:∀ (zs:List UInt8) (p:Nat→Bool),(u8s zs).all (okV p 3)=true:=fun zs p=>Zn (Zm _)
 have u2:∀ (zs:List UInt8) (σ:Nat→Nat),(u8s zs).map (rnV σ 3)=u8s zs:=fun zs σ=>Zp (Zm _)
 have hr:=do_t (inS 53 a b c m) fr (Ys fr) ZB zs f N g n
 simp only[rr, tt, inS,Int.toNat_natCast,Qw,Qn,QL,QM,QN,Qo,QO,Qp,QP,Z0] at hr
 refine YT (Zt (L:=100) Zg (Zs (Zj (Xu (i:=(inS 53 a b c m)) hfr rfl hm.symm (fun x hx=>by cases hx))) (Zf _)) (Ze _) 20) (QK _ _) hr rfl ?_
 simp(disch:=decide) only[rr, tt, inS,Qn,QL,QM,QN,Qo,QO,Qp,QP,Z0,beq_self_eq_true,Nat.add_zero,v1,v2,u1,u2,ZE,Zw,Int.toNat_natCast,Bool.and_self,Bool.and_true,Bool.true_and,cond_true,and_true,true_and,and_self,Nat.le_refl]
theorem Zfs (fr:Nat→Cp) (a b c:Nat) (m:Int) (zs:List UInt8) (f:Nat→Bool) (N g n:Nat) (hfr:Wp fr) (hm:XO (inS 50 a b c m)=true):ConOk Tryz.prog 13 3 (Vl (mvA fr (inS 50 a b c m)) (fr) 0 zs f N g n)∧FlatC (Vl (mvA fr (inS 50 a b c m)) (fr) 0 zs f N g n):=by
 have v1:∀ (f:Nat→Bool) (σ:Nat→Nat),(v64 (Za f n)).map (rnV σ 3)=v64 (Za f n):=fun f σ=>Zp (Zr _)
 have v2:∀ (f:Nat→Bool) (p:Nat→Bool),(v64 (Za f n)).all (okV p 3)=true:=fun f p=>Zn (Zr _)
 have u1:∀ (zs:List UInt8) (p:Nat→Bool),(u8s zs).all (okV p 3)=true:=fun zs p=>Zn (Zm _)
 have u2:∀ (zs:List UInt8) (σ:Nat→Nat),(u8s zs).map (rnV σ 3)=u8s zs:=fun zs σ=>Zp (Zm _)
 have e1:∀ {x y:Int},x≠y→(x==y)=false:=fun h=>beq_eq_false_iff_ne.2 h
 have hr:=ZkN (inS 50 a b c m) fr (Ys fr) ZB zs f N g n
 simp only[rr, tt, inS,Int.toNat_natCast,Qw,Qn,QL,QM,QN,Qo,QO,Qp,QP,Z0] at hr
 refine YT (Zt (L:=100) Zg (Zs (Zj (Xu (i:=(inS 50 a b c m)) hfr rfl hm.symm (fun x hx=>by cases hx))) (Zf _)) (Ze _) 20) (QK _ _) hr rfl ?_
 simp(disch:=decide) only[rr, tt, inS,Qn,QL,QM,QN,Qo,QO,Qp,QP,Z0,beq_self_eq_true,e1,Nat.add_zero,v1,v2,u1,u2,ZE,Zw,Int.toNat_natCast,Bool.and_self,Bool.and_true,Bool.true_and,cond_true,and_true,true_and,and_self,Nat.le_refl]
theorem Zft (fr:Nat→Cp) (a b c:Nat) (m:Int) (zs:List UInt8) (f:Nat→Bool) (N g n:Nat) (hfr:Wp fr) (hm:XO (inS 51 a b c m)=true):ConOk Tryz.prog 13 3 (Vl (mvA fr (inS 51 a b c m)) (fr) 0 zs f N g n)∧FlatC (Vl (mvA fr (inS 51 a b c m)) (fr) 0 zs f N g n):=by
 have v1:∀ (f:Nat→Bool) (σ:Nat→Nat),(v64 (Za f n)).map (rnV σ 3)=v64 (Za f n):=fun f σ=>Zp (Zr _)
 have v2:∀ (f:Nat→Bool) (p:Nat→Bool),(v64 (Za f n)).all (okV p 3)=true:=fun f p=>Zn (Zr _)
 have u1:∀ (zs:List UInt8) (p:Nat→Bool),(u8s zs).all (okV p 3)=true:=fun zs p=>Zn (Zm _)
 have u2:∀ (zs:List UInt8) (σ:Nat→Nat),(u8s zs).map (rnV σ 3)=u8s zs:=fun zs σ=>Zp (Zm _)
 have e1:∀ {x y:Int},x≠y→(x==y)=false:=fun h=>beq_eq_false_iff_ne.2 h
 have hr:=ZkO (inS 51 a b c m) fr (Ys fr) ZB zs f N g n
 simp only[rr, tt, inS,Int.toNat_natCast,Qw,Qn,QL,QM,QN,Qo,QO,Qp,QP,Z0] at hr
 refine YT (Zt (L:=100) Zg (Zs (Zj (Xu (i:=(inS 51 a b c m)) hfr rfl hm.symm (fun x hx=>by cases hx))) (Zf _)) (Ze _) 20) (QK _ _) hr rfl ?_
 simp(disch:=decide) only[rr, tt, inS,Qn,QL,QM,QN,Qo,QO,Qp,QP,Z0,beq_self_eq_true,e1,Nat.add_zero,v1,v2,u1,u2,ZE,Zw,Int.toNat_natCast,Bool.and_self,Bool.and_true,Bool.true_and,cond_true,and_true,true_and,and_self,Nat.le_refl]
theorem Zfu (fr:Nat→Cp) (a b c:Nat) (m:Int) (zs:List UInt8) (f:Nat→Bool) (N g n:Nat) (hfr:Wp fr) (hm:XO (inS 52 a b c m)=true):ConOk Tryz.prog 13 3 (Vl (mvA fr (inS 52 a b c m)) (fr) 0 zs f N g n)∧FlatC (Vl (mvA fr (inS 52 a b c m)) (fr) 0 zs f N g n):=by
 have v1:∀ (f:Nat→Bool) (σ:Nat→Nat),(v64 (Za f n)).map (rnV σ 3)=v64 (Za f n):=fun f σ=>Zp (Zr _)
 have v2:∀ (f:Nat→Bool) (p:Nat→Bool),(v64 (Za f n)).all (okV p 3)=true:=fun f p=>Zn (Zr _)
 have u1:∀ (zs:List UInt8) (p:Nat→Bool),(u8s zs).all (okV p 3)=true:=fun zs p=>Zn (Zm _)
 have u2:∀ (zs:List UInt8) (σ:Nat→Nat),(u8s zs).map (rnV σ 3)=u8s zs:=fun zs σ=>Zp (Zm _)
 have e1:∀ {x y:Int},x≠y→(x==y)=false:=fun h=>beq_eq_false_iff_ne.2 h
 have hr:=ZkP (inS 52 a b c m) fr (Ys fr) ZB zs f N g n
 simp only[rr, tt, inS,Int.toNat_natCast,Qw,Qn,QL,QM,QN,Qo,QO,Qp,QP,Z0] at hr
 refine YT (Zt (L:=100) Zg (Zs (Zj (Xu (i:=(inS 52 a b c m)) hfr rfl hm.symm (fun x hx=>by cases hx))) (Zf _)) (Ze _) 20) (QK _ _) hr rfl ?_
 simp(disch:=decide) only[rr, tt, inS,Qn,QL,QM,QN,Qo,QO,Qp,QP,Z0,beq_self_eq_true,e1,Nat.add_zero,v1,v2,u1,u2,ZE,Zw,Int.toNat_natCast,Bool.and_self,Bool.and_true,Bool.true_and,cond_true,and_true,true_and,and_self,Nat.le_refl]
theorem ZkW (fr:Nat→Cp) (a b c:Nat) (m:Int) (zs:List UInt8) (f:Nat→Bool) (N g n:Nat) (hfr:Wp fr) (a0:a<16) (hm:XO (inS 29 a b c m)=true):ConOk Tryz.prog 13 3 (Vl (mvA fr (inS 29 a b c m)) (frS (frS (Ys fr) a (JT fr 1)) 16 (JT fr m)) 0 zs f N g n)∧FlatC (Vl (mvA fr (inS 29 a b c m)) (frS (frS (Ys fr) a (JT fr 1)) 16 (JT fr m)) 0 zs f N g n):=by
 have ha:a<17:=by omega
 have ya:decide ((0:Int)≤(a:Int))=true:=decide_eq_true (by omega)
 have za:decide ((a:Int)<16)=true:=decide_eq_true (by omega)
 have v1:∀ (f:Nat→Bool) (σ:Nat→Nat),(v64 (Za f n)).map (rnV σ 3)=v64 (Za f n):=fun f σ=>Zp (Zr _)
 have v2:∀ (f:Nat→Bool) (p:Nat→Bool),(v64 (Za f n)).all (okV p 3)=true:=fun f p=>Zn (Zr _)
 have u1:∀ (zs:List UInt8) (p:Nat→Bool),(u8s zs).all (okV p 3)=true:=fun zs p=>Zn (Zm _)
 have u2:∀ (zs:List UInt8) (σ:Nat→Nat),(u8s zs).map (rnV σ 3)=u8s zs:=fun zs σ=>Zp (Zm _)
 have e1:∀ {x y:Int},x≠y→(x==y)=false:=fun h=>beq_eq_false_iff_ne.2 h
 have hr:=Znu (inS 29 a b c m) fr (Ys fr) ZB zs f N g n (JT fr 1) (JT fr m)
 simp only[rr, tt, inS,Int.toNat_natCast,Qw,Qn,QL,QM,QN,Qo,QO,Qp,QP,Z0,Qg fr a ha,Qh fr a ha,Qi fr a ha,Qj fr a ha,Qe fr a ha,Qk fr a ha,Ql fr a ha,Qm fr a ha,Zo fr a ha,ZT fr a ha,Zq fr a ha,ZH fr a ha,Z4 _ a _ ha,ZU _ a _ ha,Zo _ a ha] at hr
 refine YT (Zt (L:=100) Zg (Zs (Zj (Xu (i:=(inS 29 a b c m)) hfr rfl hm.symm (fun x hx=>by
  simp only[rr, tt, List.mem_cons,List.not_mem_nil,or_false] at hx
  rcases hx with rfl|rfl
  ·exact⟨VK fr 1 hfr,JQ⟩
  ·exact⟨VK fr m hfr,JQ⟩))) (Zf _)) (Ze _) 20) (QK _ _) hr rfl ?_
 simp(disch:=decide) only[rr, tt, inS,Qn,QL,QM,QN,Qo,QO,Qp,QP,Z0,Qg fr a ha,Qh fr a ha,Qi fr a ha,Qj fr a ha,Qe fr a ha,Qk fr a ha,Ql fr a ha,Qm fr a ha,Zo fr a ha,ZT fr a ha,Zq fr a ha,ZH fr a ha,Z4 _ a _ ha,ZU _ a _ ha,Zo _ a ha,ya,za,beq_self_eq_true,e1,Nat.add_zero,v1,v2,u1,u2,ZE,Zw,Int.toNat_natCast,Bool.and_self,Bool.and_true,Bool.true_and,cond_true,and_true,true_and,and_self,Nat.le_refl]
theorem ZiX (fr:Nat→Cp) (a b c:Nat) (m:Int) (zs:List UInt8) (f:Nat→Bool) (N g n:Nat) (hfr:Wp fr) (a0:a<16) (b0:b<16) (hm:XO (inS 30 a b c m)=true) (ht:WR (fr b) 4=0):ConOk Tryz.prog 13 3 (Vl (mvA fr (inS 30 a b c m)) (frS (frS (Ys fr) a (JT fr 1)) 16 (fr b)) 0 zs f N g n)∧FlatC (Vl (mvA fr (inS 30 a b c m)) (frS (frS (Ys fr) a (JT fr 1)) 16 (fr b)) 0 zs f N g n):=by
 have ha:a<17:=by omega
 have ya:decide ((0:Int)≤(a:Int))=true:=decide_eq_true (by omega)
 have za:decide ((a:Int)<16)=true:=decide_eq_true (by omega)
 have hb:b<17:=by omega
 have yb:decide ((0:Int)≤(b:Int))=true:=decide_eq_true (by omega)
 have zb:decide ((b:Int)<16)=true:=decide_eq_true (by omega)
 have v1:∀ (f:Nat→Bool) (σ:Nat→Nat),(v64 (Za f n)).map (rnV σ 3)=v64 (Za f n):=fun f σ=>Zp (Zr _)
 have v2:∀ (f:Nat→Bool) (p:Nat→Bool),(v64 (Za f n)).all (okV p 3)=true:=fun f p=>Zn (Zr _)
 have u1:∀ (zs:List UInt8) (p:Nat→Bool),(u8s zs).all (okV p 3)=true:=fun zs p=>Zn (Zm _)
 have u2:∀ (zs:List UInt8) (σ:Nat→Nat),(u8s zs).map (rnV σ 3)=u8s zs:=fun zs σ=>Zp (Zm _)
 have e1:∀ {x y:Int},x≠y→(x==y)=false:=fun h=>beq_eq_false_iff_ne.2 h
 have e2:(((WR (fr b) 4:Nat):Int) !=0)=false:=by rw[ht]; rfl
 have hr:=ZkQ (inS 30 a b c m) fr (Ys fr) ZB zs f N g n (JT fr 1) (fr b) (WR (fr b) 4)
 simp only[rr, tt, inS,Int.toNat_natCast,Qw,Qn,QL,QM,QN,Qo,QO,Qp,QP,Z0,Qg fr a ha,Qh fr a ha,Qi fr a ha,Qj fr a ha,Qe fr a ha,Qk fr a ha,Ql fr a ha,Qm fr a ha,Zo fr a ha,ZT fr a ha,Zq fr a ha,ZH fr a ha,Z4 _ a _ ha,ZU _ a _ ha,Zo _ a ha,Qg fr b hb,Qh fr b hb,Qi fr b hb,Qj fr b hb,Qe fr b hb,Qk fr b hb,Ql fr b hb,Qm fr b hb,Zo fr b hb,ZT fr b hb,Zq fr b hb,ZH fr b hb,Z4 _ b _ hb,ZU _ b _ hb,Zo _ b hb] at hr
 refine YT (Zt (L:=100) Zg (Zs (Zj (Xu (i:=(inS 30 a b c m)) hfr rfl hm.symm (fun x hx=>by
  simp only[rr, tt, List.mem_cons,List.not_mem_nil,or_false] at hx
  rcases hx with rfl|rfl
  ·exact⟨VK fr 1 hfr,JQ⟩
  ·exact⟨Zai (fr b) 4 (hfr b) (by omega),JQ⟩))) (Zf _)) (Ze _) 20) (QK _ _) hr rfl ?_
 simp(disch:=decide) only[rr, tt, inS,Qn,QL,QM,QN,Qo,QO,Qp,QP,Z0,Qg fr a ha,Qh fr a ha,Qi fr a ha,Qj fr a ha,Qe fr a ha,Qk fr a ha,Ql fr a ha,Qm fr a ha,Zo fr a ha,ZT fr a ha,Zq fr a ha,ZH fr a ha,Z4 _ a _ ha,ZU _ a _ ha,Zo _ a ha,Qg fr b hb,Qh fr b hb,Qi fr b hb,Qj fr b hb,Qe fr b hb,Qk fr b hb,Ql fr b hb,Qm fr b hb,Zo fr b hb,ZT fr b hb,Zq fr b hb,ZH fr b hb,Z4 _ b _ hb,ZU _ b _ hb,Zo _ b hb,ya,za,yb,zb,beq_self_eq_true,e1,e2,Nat.add_zero,v1,v2,u1,u2,ZE,Zw,Int.toNat_natCast,Bool.and_self,Bool.and_true,Bool.true_and,cond_true,and_true,true_and,and_self,Nat.le_refl]
theorem ZiY (fr:Nat→Cp) (a b c:Nat) (m:Int) (zs:List UInt8) (f:Nat→Bool) (N g n:Nat) (hfr:Wp fr) (a0:a<16) (b0:b<16) (hm:XO (inS 30 a b c m)=true) (ht:WR (fr b) 4≠0):ConOk Tryz.prog 13 3 (Vl (mvA fr (inS 30 a b c m)) (frN) (WR (fr b) 4) zs f N g n)∧FlatC (Vl (mvA fr (inS 30 a b c m)) (frN) (WR (fr b) 4) zs f N g n):=by
 have ha:a<17:=by omega
 have ya:decide ((0:Int)≤(a:Int))=true:=decide_eq_true (by omega)
 have za:decide ((a:Int)<16)=true:=decide_eq_true (by omega)
 have hb:b<17:=by omega
 have yb:decide ((0:Int)≤(b:Int))=true:=decide_eq_true (by omega)
 have zb:decide ((b:Int)<16)=true:=decide_eq_true (by omega)
 have v1:∀ (f:Nat→Bool) (σ:Nat→Nat),(v64 (Za f n)).map (rnV σ 3)=v64 (Za f n):=fun f σ=>Zp (Zr _)
 have v2:∀ (f:Nat→Bool) (p:Nat→Bool),(v64 (Za f n)).all (okV p 3)=true:=fun f p=>Zn (Zr _)
 have u1:∀ (zs:List UInt8) (p:Nat→Bool),(u8s zs).all (okV p 3)=true:=fun zs p=>Zn (Zm _)
 have u2:∀ (zs:List UInt8) (σ:Nat→Nat),(u8s zs).map (rnV σ 3)=u8s zs:=fun zs σ=>Zp (Zm _)
 have e1:∀ {x y:Int},x≠y→(x==y)=false:=fun h=>beq_eq_false_iff_ne.2 h
 have e2:(((WR (fr b) 4:Nat):Int) !=0)=true:=bne_iff_ne.2 (by omega)
 have hr:=ZkR (inS 30 a b c m) fr (Ys fr) ZB zs f N g n (JT fr 1) (fr b) (WR (fr b) 4)
 simp only[rr, tt, inS,Int.toNat_natCast,Qw,Qn,QL,QM,QN,Qo,QO,Qp,QP,Z0,Qg fr a ha,Qh fr a ha,Qi fr a ha,Qj fr a ha,Qe fr a ha,Qk fr a ha,Ql fr a ha,Qm fr a ha,Zo fr a ha,ZT fr a ha,Zq fr a ha,ZH fr a ha,Z4 _ a _ ha,ZU _ a _ ha,Zo _ a ha,Qg fr b hb,Qh fr b hb,Qi fr b hb,Qj fr b hb,Qe fr b hb,Qk fr b hb,Ql fr b hb,Qm fr b hb,Zo fr b hb,ZT fr b hb,Zq fr b hb,ZH fr b hb,Z4 _ b _ hb,ZU _ b _ hb,Zo _ b hb] at hr
 refine YT (Zt (L:=100) Zg (Zs (Zj (Xu (i:=(inS 30 a b c m)) hfr rfl hm.symm (fun x hx=>by
  simp only[rr, tt, List.mem_cons,List.not_mem_nil,or_false] at hx
  rcases hx with rfl|rfl
  ·exact⟨VK fr 1 hfr,JQ⟩
  ·exact⟨Zai (fr b) 4 (hfr b) (by omega),JQ⟩))) (Zf _)) (Ze _) 20) (QK _ _) hr rfl ?_
 simp(disch:=decide) only[rr, tt, inS,Qn,QL,QM,QN,Qo,QO,Qp,QP,Z0,Qg fr a ha,Qh fr a ha,Qi fr a ha,Qj fr a ha,Qe fr a ha,Qk fr a ha,Ql fr a ha,Qm fr a ha,Zo fr a ha,ZT fr a ha,Zq fr a ha,ZH fr a ha,Z4 _ a _ ha,ZU _ a _ ha,Zo _ a ha,Qg fr b hb,Qh fr b hb,Qi fr b hb,Qj fr b hb,Qe fr b hb,Qk fr b hb,Ql fr b hb,Qm fr b hb,Zo fr b hb,ZT fr b hb,Zq fr b hb,ZH fr b hb,Z4 _ b _ hb,ZU _ b _ hb,Zo _ b hb,ya,za,yb,zb,beq_self_eq_true,e1,e2,Nat.add_zero,v1,v2,u1,u2,ZE,Zw,Int.toNat_natCast,Bool.and_self,Bool.and_true,Bool.true_and,cond_true,and_true,true_and,and_self,Nat.le_refl]
theorem ZkX (fr:Nat→Cp) (op:Int) (a b c:Nat) (m:Int) (zs:List UInt8) (f:Nat→Bool) (N g n:Nat) (hfr:Wp fr) (a0:a<16) (hm:XO (inS op a b c m)=true) (k53:¬ op=53) (k50:¬ op=50) (k51:¬ op=51) (k52:¬ op=52) (k29:¬ op=29) (k30:¬ op=30) (hw:0<Yt op) (r:Cp) (t:Nat) (hmv:ConOk Tryz.prog 37 3 (Y8 fr (inS op a b c m) r t zs f N g n)∧FlatC (Y8 fr (inS op a b c m) r t zs f N g n)) (ht:t≠0):ConOk Tryz.prog 13 3 (Vl (mvA fr (inS op a b c m)) (frN) t zs f N g n)∧FlatC (Vl (mvA fr (inS op a b c m)) (frN) t zs f N g n):=by
 have ha:a<17:=by omega
 have ya:decide ((0:Int)≤(a:Int))=true:=decide_eq_true (by omega)
 have za:decide ((a:Int)<16)=true:=decide_eq_true (by omega)
 have v1:∀ (f:Nat→Bool) (σ:Nat→Nat),(v64 (Za f n)).map (rnV σ 3)=v64 (Za f n):=fun f σ=>Zp (Zr _)
 have v2:∀ (f:Nat→Bool) (p:Nat→Bool),(v64 (Za f n)).all (okV p 3)=true:=fun f p=>Zn (Zr _)
 have u1:∀ (zs:List UInt8) (p:Nat→Bool),(u8s zs).all (okV p 3)=true:=fun zs p=>Zn (Zm _)
 have u2:∀ (zs:List UInt8) (σ:Nat→Nat),(u8s zs).map (rnV σ 3)=u8s zs:=fun zs σ=>Zp (Zm _)
 have w1:decide (((Yt op:Nat):Int)>0)=true:=decide_eq_true (by omega)
 have e2:((t:Int) !=0)=true:=bne_iff_ne.2 (by omega)
 have hr:=Znv (inS op a b c m) fr (Ys fr) ZB zs f N g n (Yt op) t r
 simp only[rr, tt, inS,Int.toNat_natCast,Qw,Qn,QL,QM,QN,Qo,QO,Qp,QP,Z0,Qg fr a ha,Qh fr a ha,Qi fr a ha,Qj fr a ha,Qe fr a ha,Qk fr a ha,Ql fr a ha,Qm fr a ha,Zo fr a ha,ZT fr a ha,Zq fr a ha,ZH fr a ha,Z4 _ a _ ha,ZU _ a _ ha,Zo _ a ha] at hr
 refine YT (Zt (L:=100) Zg (Zs (Zj (Xu (i:=(inS op a b c m)) hfr rfl hm.symm (Ws (KN rfl) (Zbk hmv)))) (Zf _)) (Ze _) 20) (QK _ _) hr rfl ?_
 simp(disch:=decide) only[rr, tt, inS,Qn,QL,QM,QN,Qo,QO,Qp,QP,Z0,Qg fr a ha,Qh fr a ha,Qi fr a ha,Qj fr a ha,Qe fr a ha,Qk fr a ha,Ql fr a ha,Qm fr a ha,Zo fr a ha,ZT fr a ha,Zq fr a ha,ZH fr a ha,Z4 _ a _ ha,ZU _ a _ ha,Zo _ a ha,ya,za,QR k53,QR k50,QR k51,QR k52,QR k29,QR k30,w1,e2,Nat.add_zero,v1,v2,u1,u2,ZE,Zw,Int.toNat_natCast,Bool.and_self,Bool.and_true,Bool.true_and,cond_true,and_true,true_and,and_self,Nat.le_refl]
theorem ZkY (fr:Nat→Cp) (op:Int) (a b c:Nat) (m:Int) (zs:List UInt8) (f:Nat→Bool) (N g n:Nat) (hfr:Wp fr) (a0:a<16) (hm:XO (inS op a b c m)=true) (k53:¬ op=53) (k50:¬ op=50) (k51:¬ op=51) (k52:¬ op=52) (k29:¬ op=29) (k30:¬ op=30) (hw:0<Yt op) (r:Cp) (hmv:ConOk Tryz.prog 37 3 (Y8 fr (inS op a b c m) r 0 zs f N g n)∧FlatC (Y8 fr (inS op a b c m) r 0 zs f N g n)):ConOk Tryz.prog 13 3 (Vl (mvA fr (inS op a b c m)) (frS (Ys fr) a r) 0 zs f N g n)∧FlatC (Vl (mvA fr (inS op a b c m)) (frS (Ys fr) a r) 0 zs f N g n):=by
 have ha:a<17:=by omega
 have ya:decide ((0:Int)≤(a:Int))=true:=decide_eq_true (by omega)
 have za:decide ((a:Int)<16)=true:=decide_eq_true (by omega)
 have v1:∀ (f:Nat→Bool) (σ:Nat→Nat),(v64 (Za f n)).map (rnV σ 3)=v64 (Za f n):=fun f σ=>Zp (Zr _)
 have v2:∀ (f:Nat→Bool) (p:Nat→Bool),(v64 (Za f n)).all (okV p 3)=true:=fun f p=>Zn (Zr _)
 have u1:∀ (zs:List UInt8) (p:Nat→Bool),(u8s zs).all (okV p 3)=true:=fun zs p=>Zn (Zm _)
 have u2:∀ (zs:List UInt8) (σ:Nat→Nat),(u8s zs).map (rnV σ 3)=u8s zs:=fun zs σ=>Zp (Zm _)
 have w1:decide (((Yt op:Nat):Int)>0)=true:=decide_eq_true (by omega)
 have e2:(((0:Nat):Int) !=0)=false:=rfl
 have hr:=Znw (inS op a b c m) fr (Ys fr) ZB zs f N g n (Yt op) 0 r
 simp only[rr, tt, inS,Int.toNat_natCast,Qw,Qn,QL,QM,QN,Qo,QO,Qp,QP,Z0,Qg fr a ha,Qh fr a ha,Qi fr a ha,Qj fr a ha,Qe fr a ha,Qk fr a ha,Ql fr a ha,Qm fr a ha,Zo fr a ha,ZT fr a ha,Zq fr a ha,ZH fr a ha,Z4 _ a _ ha,ZU _ a _ ha,Zo _ a ha] at hr
 refine YT (Zt (L:=100) Zg (Zs (Zj (Xu (i:=(inS op a b c m)) hfr rfl hm.symm (Ws (KN rfl) (Zbk hmv)))) (Zf _)) (Ze _) 20) (QK _ _) hr rfl ?_
 simp(disch:=decide) only[rr, tt, inS,Qn,QL,QM,QN,Qo,QO,Qp,QP,Z0,Qg fr a ha,Qh fr a ha,Qi fr a ha,Qj fr a ha,Qe fr a ha,Qk fr a ha,Ql fr a ha,Qm fr a ha,Zo fr a ha,ZT fr a ha,Zq fr a ha,ZH fr a ha,Z4 _ a _ ha,ZU _ a _ ha,Zo _ a ha,ya,za,QR k53,QR k50,QR k51,QR k52,QR k29,QR k30,w1,e2,Nat.add_zero,v1,v2,u1,u2,ZE,Zw,Int.toNat_natCast,Bool.and_self,Bool.and_true,Bool.true_and,cond_true,and_true,true_and,and_self,Nat.le_refl]
theorem ZkZ (fr:Nat→Cp) (op:Int) (a b c:Nat) (m:Int) (zs:List UInt8) (f:Nat→Bool) (N g n:Nat) (hfr:Wp fr) (a0:a<16) (b0:b<16) (hm:XO (inS op a b c m)=true) (k53:¬ op=53) (k50:¬ op=50) (k51:¬ op=51) (k52:¬ op=52) (k29:¬ op=29) (k30:¬ op=30) (hw:Yt op=0) (hi:tkI op=true) (hk:tkS op (fr a).C (fr b).C=true):ConOk Tryz.prog 13 3 (Vl (mvA fr (inS op a b c m)) (frS (Ys fr) 16 (JT fr m)) 0 zs f N g n)∧FlatC (Vl (mvA fr (inS op a b c m)) (frS (Ys fr) 16 (JT fr m)) 0 zs f N g n):=by
 have ha:a<17:=by omega
 have ya:decide ((0:Int)≤(a:Int))=true:=decide_eq_true (by omega)
 have za:decide ((a:Int)<16)=true:=decide_eq_true (by omega)
 have hb:b<17:=by omega
 have yb:decide ((0:Int)≤(b:Int))=true:=decide_eq_true (by omega)
 have zb:decide ((b:Int)<16)=true:=decide_eq_true (by omega)
 have v1:∀ (f:Nat→Bool) (σ:Nat→Nat),(v64 (Za f n)).map (rnV σ 3)=v64 (Za f n):=fun f σ=>Zp (Zr _)
 have v2:∀ (f:Nat→Bool) (p:Nat→Bool),(v64 (Za f n)).all (okV p 3)=true:=fun f p=>Zn (Zr _)
 have u1:∀ (zs:List UInt8) (p:Nat→Bool),(u8s zs).all (okV p 3)=true:=fun zs p=>Zn (Zm _)
 have u2:∀ (zs:List UInt8) (σ:Nat→Nat),(u8s zs).map (rnV σ 3)=u8s zs:=fun zs σ=>Zp (Zm _)
 have hr:=ZkS (inS op a b c m) fr (Ys fr) ZB zs f N g n (fr a) (fr b) (tkS op (fr a).C (fr b).C) true (JT fr m)
 simp only[rr, tt, inS,Int.toNat_natCast,Qw,Qn,QL,QM,QN,Qo,QO,Qp,QP,Z0,Qg fr a ha,Qh fr a ha,Qi fr a ha,Qj fr a ha,Qe fr a ha,Qk fr a ha,Ql fr a ha,Qm fr a ha,Zo fr a ha,ZT fr a ha,Zq fr a ha,ZH fr a ha,Z4 _ a _ ha,ZU _ a _ ha,Zo _ a ha,Qg fr b hb,Qh fr b hb,Qi fr b hb,Qj fr b hb,Qe fr b hb,Qk fr b hb,Ql fr b hb,Qm fr b hb,Zo fr b hb,ZT fr b hb,Zq fr b hb,ZH fr b hb,Z4 _ b _ hb,ZU _ b _ hb,Zo _ b hb] at hr
 refine YT (Zt (L:=100) Zg (Zs (Zj (Xu (i:=(inS op a b c m)) hfr rfl hm.symm (Ws (Ws (KN hw.symm) (Zbj (i:=inS op a b c m) rfl hi.symm)) (Zbk ⟨VK fr m hfr,JQ⟩)))) (Zf _)) (Ze _) 20) (QK _ _) hr rfl ?_
 simp(disch:=decide) only[rr, tt, inS,Qn,QL,QM,QN,Qo,QO,Qp,QP,Z0,Qg fr a ha,Qh fr a ha,Qi fr a ha,Qj fr a ha,Qe fr a ha,Qk fr a ha,Ql fr a ha,Qm fr a ha,Zo fr a ha,ZT fr a ha,Zq fr a ha,ZH fr a ha,Z4 _ a _ ha,ZU _ a _ ha,Zo _ a ha,Qg fr b hb,Qh fr b hb,Qi fr b hb,Qj fr b hb,Qe fr b hb,Qk fr b hb,Ql fr b hb,Qm fr b hb,Zo fr b hb,ZT fr b hb,Zq fr b hb,ZH fr b hb,Z4 _ b _ hb,ZU _ b _ hb,Zo _ b hb,ya,za,yb,zb,QR k53,QR k50,QR k51,QR k52,QR k29,QR k30,hk,Bool.not_true,Bool.not_false,Nat.add_zero,v1,v2,u1,u2,ZE,Zw,Int.toNat_natCast,Bool.and_self,Bool.and_true,Bool.true_and,cond_true,and_true,true_and,and_self,Nat.le_refl]
theorem Zk0 (fr:Nat→Cp) (op:Int) (a b c:Nat) (m:Int) (zs:List UInt8) (f:Nat→Bool) (N g n:Nat) (hfr:Wp fr) (a0:a<16) (b0:b<16) (hm:XO (inS op a b c m)=true) (k53:¬ op=53) (k50:¬ op=50) (k51:¬ op=51) (k52:¬ op=52) (k29:¬ op=29) (k30:¬ op=30) (hw:Yt op=0) (hi:tkI op=true) (hk:tkS op (fr a).C (fr b).C=false):ConOk Tryz.prog 13 3 (Vl (mvA fr (inS op a b c m)) (Ys fr) 0 zs f N g n)∧FlatC (Vl (mvA fr (inS op a b c m)) (Ys fr) 0 zs f N g n):=by
 have ha:a<17:=by omega
 have ya:decide ((0:Int)≤(a:Int))=true:=decide_eq_true (by omega)
 have za:decide ((a:Int)<16)=true:=decide_eq_true (by omega)
 have hb:b<17:=by omega
 have yb:decide ((0:Int)≤(b:Int))=true:=decide_eq_true (by omega)
 have zb:decide ((b:Int)<16)=true:=decide_eq_true (by omega)
 have v1:∀ (f:Nat→Bool) (σ:Nat→Nat),(v64 (Za f n)).map (rnV σ 3)=v64 (Za f n):=fun f σ=>Zp (Zr _)
 have v2:∀ (f:Nat→Bool) (p:Nat→Bool),(v64 (Za f n)).all (okV p 3)=true:=fun f p=>Zn (Zr _)
 have u1:∀ (zs:List UInt8) (p:Nat→Bool),(u8s zs).all (okV p 3)=true:=fun zs p=>Zn (Zm _)
 have u2:∀ (zs:List UInt8) (σ:Nat→Nat),(u8s zs).map (rnV σ 3)=u8s zs:=fun zs σ=>Zp (Zm _)
 have hr:=ZkT (inS op a b c m) fr (Ys fr) ZB zs f N g n (fr a) (fr b) (tkS op (fr a).C (fr b).C) true
 simp only[rr, tt, inS,Int.toNat_natCast,Qw,Qn,QL,QM,QN,Qo,QO,Qp,QP,Z0,Qg fr a ha,Qh fr a ha,Qi fr a ha,Qj fr a ha,Qe fr a ha,Qk fr a ha,Ql fr a ha,Qm fr a ha,Zo fr a ha,ZT fr a ha,Zq fr a ha,ZH fr a ha,Z4 _ a _ ha,ZU _ a _ ha,Zo _ a ha,Qg fr b hb,Qh fr b hb,Qi fr b hb,Qj fr b hb,Qe fr b hb,Qk fr b hb,Ql fr b hb,Qm fr b hb,Zo fr b hb,ZT fr b hb,Zq fr b hb,ZH fr b hb,Z4 _ b _ hb,ZU _ b _ hb,Zo _ b hb] at hr
 refine YT (Zt (L:=100) Zg (Zs (Zj (Xu (i:=(inS op a b c m)) hfr rfl hm.symm (Ws (KN hw.symm) (Zbj (i:=inS op a b c m) rfl hi.symm)))) (Zf _)) (Ze _) 20) (QK _ _) hr rfl ?_
 simp(disch:=decide) only[rr, tt, inS,Qn,QL,QM,QN,Qo,QO,Qp,QP,Z0,Qg fr a ha,Qh fr a ha,Qi fr a ha,Qj fr a ha,Qe fr a ha,Qk fr a ha,Ql fr a ha,Qm fr a ha,Zo fr a ha,ZT fr a ha,Zq fr a ha,ZH fr a ha,Z4 _ a _ ha,ZU _ a _ ha,Zo _ a ha,Qg fr b hb,Qh fr b hb,Qi fr b hb,Qj fr b hb,Qe fr b hb,Qk fr b hb,Ql fr b hb,Qm fr b hb,Zo fr b hb,ZT fr b hb,Zq fr b hb,ZH fr b hb,Z4 _ b _ hb,ZU _ b _ hb,Zo _ b hb,ya,za,yb,zb,QR k53,QR k50,QR k51,QR k52,QR k29,QR k30,hk,Bool.not_true,Bool.not_false,Nat.add_zero,v1,v2,u1,u2,ZE,Zw,Int.toNat_natCast,Bool.and_self,Bool.and_true,Bool.true_and,cond_true,and_true,true_and,and_self,Nat.le_refl]
theorem Zk1 (fr:Nat→Cp) (op:Int) (a b c:Nat) (m:Int) (zs:List UInt8) (f:Nat→Bool) (N g n:Nat) (hfr:Wp fr) (a0:a<16) (b0:b<16) (c0:c<16) (hm:XO (inS op a b c m)=true) (k53:¬ op=53) (k50:¬ op=50) (k51:¬ op=51) (k52:¬ op=52) (k29:¬ op=29) (k30:¬ op=30) (hw:Yt op=0) (hi:tkI op=false) (hj:rkI op=true) (ht:rkT op (fr c).C=0):ConOk Tryz.prog 13 3 (Vl (mvA fr (inS op a b c m)) (frS (Ys fr) a (KJ (rkN op (fr b).C (fr c).C))) 0 zs f N g n)∧FlatC (Vl (mvA fr (inS op a b c m)) (frS (Ys fr) a (KJ (rkN op (fr b).C (fr c).C))) 0 zs f N g n):=by
 have ha:a<17:=by omega
 have ya:decide ((0:Int)≤(a:Int))=true:=decide_eq_true (by omega)
 have za:decide ((a:Int)<16)=true:=decide_eq_true (by omega)
 have hb:b<17:=by omega
 have yb:decide ((0:Int)≤(b:Int))=true:=decide_eq_true (by omega)
 have zb:decide ((b:Int)<16)=true:=decide_eq_true (by omega)
 have hc:c<17:=by omega
 have yc:decide ((0:Int)≤(c:Int))=true:=decide_eq_true (by omega)
 have zc:decide ((c:Int)<16)=true:=decide_eq_true (by omega)
 have v1:∀ (f:Nat→Bool) (σ:Nat→Nat),(v64 (Za f n)).map (rnV σ 3)=v64 (Za f n):=fun f σ=>Zp (Zr _)
 have v2:∀ (f:Nat→Bool) (p:Nat→Bool),(v64 (Za f n)).all (okV p 3)=true:=fun f p=>Zn (Zr _)
 have u1:∀ (zs:List UInt8) (p:Nat→Bool),(u8s zs).all (okV p 3)=true:=fun zs p=>Zn (Zm _)
 have u2:∀ (zs:List UInt8) (σ:Nat→Nat),(u8s zs).map (rnV σ 3)=u8s zs:=fun zs σ=>Zp (Zm _)
 have hk2:tkS op (fr a).C (fr b).C=false:=by
  unfold tkI at hi
  simp only[rr, tt, Bool.or_eq_false_iff,decide_eq_false_iff_not] at hi
  obtain⟨⟨⟨q1,q2⟩,q3⟩,q4⟩:=hi
  unfold tkS
  simp only[rr, tt, q1,q2,q3,q4,if_false]
 have e2:(((rkT op (fr c).C:Nat):Int) !=0)=false:=by rw[ht]; rfl
 have hr:=ZkU (inS op a b c m) fr (Ys fr) ZB zs f N g n (fr a) (fr b) (fr c) (rkN op (fr b).C (fr c).C) (rkT op (fr c).C) true
 simp only[rr, tt, inS,Int.toNat_natCast,Qw,Qn,QL,QM,QN,Qo,QO,Qp,QP,Z0,Qg fr a ha,Qh fr a ha,Qi fr a ha,Qj fr a ha,Qe fr a ha,Qk fr a ha,Ql fr a ha,Qm fr a ha,Zo fr a ha,ZT fr a ha,Zq fr a ha,ZH fr a ha,Z4 _ a _ ha,ZU _ a _ ha,Zo _ a ha,Qg fr b hb,Qh fr b hb,Qi fr b hb,Qj fr b hb,Qe fr b hb,Qk fr b hb,Ql fr b hb,Qm fr b hb,Zo fr b hb,ZT fr b hb,Zq fr b hb,ZH fr b hb,Z4 _ b _ hb,ZU _ b _ hb,Zo _ b hb,Qg fr c hc,Qh fr c hc,Qi fr c hc,Qj fr c hc,Qe fr c hc,Qk fr c hc,Ql fr c hc,Qm fr c hc,Zo fr c hc,ZT fr c hc,Zq fr c hc,ZH fr c hc,Z4 _ c _ hc,ZU _ c _ hc,Zo _ c hc] at hr
 refine YT (Zt (L:=100) Zg (Zs (Zj (Xu (i:=(inS op a b c m)) hfr rfl hm.symm (Ws (Ws (KN hw.symm) (Zbj (i:=inS op a b c m) (hk2.symm) hi.symm)) (Zfr (i:=inS op a b c m) (hfr b) (hfr c) rfl rfl hj.symm)))) (Zf _)) (Ze _) 20) (QK _ _) hr rfl ?_
 simp(disch:=decide) only[rr, tt, inS,Qn,QL,QM,QN,Qo,QO,Qp,QP,Z0,Qg fr a ha,Qh fr a ha,Qi fr a ha,Qj fr a ha,Qe fr a ha,Qk fr a ha,Ql fr a ha,Qm fr a ha,Zo fr a ha,ZT fr a ha,Zq fr a ha,ZH fr a ha,Z4 _ a _ ha,ZU _ a _ ha,Zo _ a ha,Qg fr b hb,Qh fr b hb,Qi fr b hb,Qj fr b hb,Qe fr b hb,Qk fr b hb,Ql fr b hb,Qm fr b hb,Zo fr b hb,ZT fr b hb,Zq fr b hb,ZH fr b hb,Z4 _ b _ hb,ZU _ b _ hb,Zo _ b hb,Qg fr c hc,Qh fr c hc,Qi fr c hc,Qj fr c hc,Qe fr c hc,Qk fr c hc,Ql fr c hc,Qm fr c hc,Zo fr c hc,ZT fr c hc,Zq fr c hc,ZH fr c hc,Z4 _ c _ hc,ZU _ c _ hc,Zo _ c hc,ya,za,yb,zb,yc,zc,QR k53,QR k50,QR k51,QR k52,QR k29,QR k30,e2,Bool.not_true,Bool.not_false,Nat.add_zero,v1,v2,u1,u2,ZE,Zw,Int.toNat_natCast,Bool.and_self,Bool.and_true,Bool.true_and,cond_true,and_true,true_and,and_self,Nat.le_refl]
theorem Zk2 (fr:Nat→Cp) (op:Int) (a b c:Nat) (m:Int) (zs:List UInt8) (f:Nat→Bool) (N g n:Nat) (hfr:Wp fr) (a0:a<16) (b0:b<16) (c0:c<16) (hm:XO (inS op a b c m)=true) (k53:¬ op=53) (k50:¬ op=50) (k51:¬ op=51) (k52:¬ op=52) (k29:¬ op=29) (k30:¬ op=30) (hw:Yt op=0) (hi:tkI op=false) (hj:rkI op=true) (ht:rkT op (fr c).C≠0):ConOk Tryz.prog 13 3 (Vl (mvA fr (inS op a b c m)) (frN) (rkT op (fr c).C) zs f N g n)∧FlatC (Vl (mvA fr (inS op a b c m)) (frN) (rkT op (fr c).C) zs f N g n):=by
 have ha:a<17:=by omega
 have ya:decide ((0:Int)≤(a:Int))=true:=decide_eq_true (by omega)
 have za:decide ((a:Int)<16)=true:=decide_eq_true (by omega)
 have hb:b<17:=by omega
 have yb:decide ((0:Int)≤(b:Int))=true:=decide_eq_true (by omega)
 have zb:decide ((b:Int)<16)=true:=decide_eq_true (by omega)
 have hc:c<17:=by omega
 have yc:decide ((0:Int)≤(c:Int))=true:=decide_eq_true (by omega)
 have zc:decide ((c:Int)<16)=true:=decide_eq_true (by omega)
 have v1:∀ (f:Nat→Bool) (σ:Nat→Nat),(v64 (Za f n)).map (rnV σ 3)=v64 (Za f n):=fun f σ=>Zp (Zr _)
 have v2:∀ (f:Nat→Bool) (p:Nat→Bool),(v64 (Za f n)).all (okV p 3)=true:=fun f p=>Zn (Zr _)
 have u1:∀ (zs:List UInt8) (p:Nat→Bool),(u8s zs).all (okV p 3)=true:=fun zs p=>Zn (Zm _)
 have u2:∀ (zs:List UInt8) (σ:Nat→Nat),(u8s zs).map (rnV σ 3)=u8s zs:=fun zs σ=>Zp (Zm _)
 have hk2:tkS op (fr a).C (fr b).C=false:=by
  unfold tkI at hi
  simp only[rr, tt, Bool.or_eq_false_iff,decide_eq_false_iff_not] at hi
  obtain⟨⟨⟨q1,q2⟩,q3⟩,q4⟩:=hi
  unfold tkS
  simp only[rr, tt, q1,q2,q3,q4,if_false]
 have e2:(((rkT op (fr c).C:Nat):Int) !=0)=true:=bne_iff_ne.2 (by omega)
 have hr:=ZkV (inS op a b c m) fr (Ys fr) ZB zs f N g n (fr a) (fr b) (fr c) (rkN op (fr b).C (fr c).C) (rkT op (fr c).C) true
 simp only[rr, tt, inS,Int.toNat_natCast,Qw,Qn,QL,QM,QN,Qo,QO,Qp,QP,Z0,Qg fr a ha,Qh fr a ha,Qi fr a ha,Qj fr a ha,Qe fr a ha,Qk fr a ha,Ql fr a ha,Qm fr a ha,Zo fr a ha,ZT fr a ha,Zq fr a ha,ZH fr a ha,Z4 _ a _ ha,ZU _ a _ ha,Zo _ a ha,Qg fr b hb,Qh fr b hb,Qi fr b hb,Qj fr b hb,Qe fr b hb,Qk fr b hb,Ql fr b hb,Qm fr b hb,Zo fr b hb,ZT fr b hb,Zq fr b hb,ZH fr b hb,Z4 _ b _ hb,ZU _ b _ hb,Zo _ b hb,Qg fr c hc,Qh fr c hc,Qi fr c hc,Qj fr c hc,Qe fr c hc,Qk fr c hc,Ql fr c hc,Qm fr c hc,Zo fr c hc,ZT fr c hc,Zq fr c hc,ZH fr c hc,Z4 _ c _ hc,ZU _ c _ hc,Zo _ c hc] at hr
 refine YT (Zt (L:=100) Zg (Zs (Zj (Xu (i:=(inS op a b c m)) hfr rfl hm.symm (Ws (Ws (KN hw.symm) (Zbj (i:=inS op a b c m) (hk2.symm) hi.symm)) (Zfr (i:=inS op a b c m) (hfr b) (hfr c) rfl rfl hj.symm)))) (Zf _)) (Ze _) 20) (QK _ _) hr rfl ?_
 simp(disch:=decide) only[rr, tt, inS,Qn,QL,QM,QN,Qo,QO,Qp,QP,Z0,Qg fr a ha,Qh fr a ha,Qi fr a ha,Qj fr a ha,Qe fr a ha,Qk fr a ha,Ql fr a ha,Qm fr a ha,Zo fr a ha,ZT fr a ha,Zq fr a ha,ZH fr a ha,Z4 _ a _ ha,ZU _ a _ ha,Zo _ a ha,Qg fr b hb,Qh fr b hb,Qi fr b hb,Qj fr b hb,Qe fr b hb,Qk fr b hb,Ql fr b hb,Qm fr b hb,Zo fr b hb,ZT fr b hb,Zq fr b hb,ZH fr b hb,Z4 _ b _ hb,ZU _ b _ hb,Zo _ b hb,Qg fr c hc,Qh fr c hc,Qi fr c hc,Qj fr c hc,Qe fr c hc,Qk fr c hc,Ql fr c hc,Qm fr c hc,Zo fr c hc,ZT fr c hc,Zq fr c hc,ZH fr c hc,Z4 _ c _ hc,ZU _ c _ hc,Zo _ c hc,ya,za,yb,zb,yc,zc,QR k53,QR k50,QR k51,QR k52,QR k29,QR k30,e2,Bool.not_true,Bool.not_false,Nat.add_zero,v1,v2,u1,u2,ZE,Zw,Int.toNat_natCast,Bool.and_self,Bool.and_true,Bool.true_and,cond_true,and_true,true_and,and_self,Nat.le_refl]
theorem Zk3 (fr:Nat→Cp) (op:Int) (a b c:Nat) (m:Int) (zs:List UInt8) (f:Nat→Bool) (N g n:Nat) (hfr:Wp fr) (a0:a<16) (b0:b<16) (c0:c<16) (hm:XO (inS op a b c m)=true) (k53:¬ op=53) (k50:¬ op=50) (k51:¬ op=51) (k52:¬ op=52) (k29:¬ op=29) (k30:¬ op=30) (hw:Yt op=0) (hi:tkI op=false) (hj:rkI op=false):ConOk Tryz.prog 13 3 (Vl (mvA fr (inS op a b c m)) (frS (Ys fr) a (KC fr op b c m)) 0 zs f N g n)∧FlatC (Vl (mvA fr (inS op a b c m)) (frS (Ys fr) a (KC fr op b c m)) 0 zs f N g n):=by
 have ha:a<17:=by omega
 have ya:decide ((0:Int)≤(a:Int))=true:=decide_eq_true (by omega)
 have za:decide ((a:Int)<16)=true:=decide_eq_true (by omega)
 have hb:b<17:=by omega
 have yb:decide ((0:Int)≤(b:Int))=true:=decide_eq_true (by omega)
 have zb:decide ((b:Int)<16)=true:=decide_eq_true (by omega)
 have hc:c<17:=by omega
 have yc:decide ((0:Int)≤(c:Int))=true:=decide_eq_true (by omega)
 have zc:decide ((c:Int)<16)=true:=decide_eq_true (by omega)
 have v1:∀ (f:Nat→Bool) (σ:Nat→Nat),(v64 (Za f n)).map (rnV σ 3)=v64 (Za f n):=fun f σ=>Zp (Zr _)
 have v2:∀ (f:Nat→Bool) (p:Nat→Bool),(v64 (Za f n)).all (okV p 3)=true:=fun f p=>Zn (Zr _)
 have u1:∀ (zs:List UInt8) (p:Nat→Bool),(u8s zs).all (okV p 3)=true:=fun zs p=>Zn (Zm _)
 have u2:∀ (zs:List UInt8) (σ:Nat→Nat),(u8s zs).map (rnV σ 3)=u8s zs:=fun zs σ=>Zp (Zm _)
 have hk2:tkS op (fr a).C (fr b).C=false:=by
  unfold tkI at hi
  simp only[rr, tt, Bool.or_eq_false_iff,decide_eq_false_iff_not] at hi
  obtain⟨⟨⟨q1,q2⟩,q3⟩,q4⟩:=hi
  unfold tkS
  simp only[rr, tt, q1,q2,q3,q4,if_false]
 have hr:=Zny (inS op a b c m) fr (Ys fr) ZB zs f N g n (fr a) (fr b) (fr c) (rkN op (fr b).C (fr c).C) (rkT op (fr c).C) false (KC fr op b c m)
 simp only[rr, tt, inS,Int.toNat_natCast,Qw,Qn,QL,QM,QN,Qo,QO,Qp,QP,Z0,Qg fr a ha,Qh fr a ha,Qi fr a ha,Qj fr a ha,Qe fr a ha,Qk fr a ha,Ql fr a ha,Qm fr a ha,Zo fr a ha,ZT fr a ha,Zq fr a ha,ZH fr a ha,Z4 _ a _ ha,ZU _ a _ ha,Zo _ a ha,Qg fr b hb,Qh fr b hb,Qi fr b hb,Qj fr b hb,Qe fr b hb,Qk fr b hb,Ql fr b hb,Qm fr b hb,Zo fr b hb,ZT fr b hb,Zq fr b hb,ZH fr b hb,Z4 _ b _ hb,ZU _ b _ hb,Zo _ b hb,Qg fr c hc,Qh fr c hc,Qi fr c hc,Qj fr c hc,Qe fr c hc,Qk fr c hc,Ql fr c hc,Qm fr c hc,Zo fr c hc,ZT fr c hc,Zq fr c hc,ZH fr c hc,Z4 _ c _ hc,ZU _ c _ hc,Zo _ c hc] at hr
 refine YT (Zt (L:=100) Zg (Zs (Zj (Xu (i:=(inS op a b c m)) hfr rfl hm.symm (Ws (Ws (Ws (KN hw.symm) (Zbj (i:=inS op a b c m) (hk2.symm) hi.symm)) (Zfr (i:=inS op a b c m) (hfr b) (hfr c) rfl rfl hj.symm)) (Zbk ⟨ZiU fr op a b c m hfr b0 c0,JQ⟩)))) (Zf _)) (Ze _) 20) (QK _ _) hr rfl ?_
 simp(disch:=decide) only[rr, tt, inS,Qn,QL,QM,QN,Qo,QO,Qp,QP,Z0,Qg fr a ha,Qh fr a ha,Qi fr a ha,Qj fr a ha,Qe fr a ha,Qk fr a ha,Ql fr a ha,Qm fr a ha,Zo fr a ha,ZT fr a ha,Zq fr a ha,ZH fr a ha,Z4 _ a _ ha,ZU _ a _ ha,Zo _ a ha,Qg fr b hb,Qh fr b hb,Qi fr b hb,Qj fr b hb,Qe fr b hb,Qk fr b hb,Ql fr b hb,Qm fr b hb,Zo fr b hb,ZT fr b hb,Zq fr b hb,ZH fr b hb,Z4 _ b _ hb,ZU _ b _ hb,Zo _ b hb,Qg fr c hc,Qh fr c hc,Qi fr c hc,Qj fr c hc,Qe fr c hc,Qk fr c hc,Ql fr c hc,Qm fr c hc,Zo fr c hc,ZT fr c hc,Zq fr c hc,ZH fr c hc,Z4 _ c _ hc,ZU _ c _ hc,Zo _ c hc,ya,za,yb,zb,yc,zc,QR k53,QR k50,QR k51,QR k52,QR k29,QR k30,Bool.not_true,Bool.not_false,Nat.add_zero,v1,v2,u1,u2,ZE,Zw,Int.toNat_natCast,Bool.and_self,Bool.and_true,Bool.true_and,cond_true,and_true,true_and,and_self,Nat.le_refl]
theorem Zk4 (fr:Nat→Cp) (op:Int) (a b c:Nat) (m:Int) (zs:List UInt8) (f:Nat→Bool) (N g n:Nat) (hfr:Wp fr) (a0:a<16) (hm:XO (inS op a b c m)=true) (k53:¬ op=53) (k50:¬ op=50) (k51:¬ op=51) (k52:¬ op=52) (k29:¬ op=29) (k30:¬ op=30) (hw:0<Yt op) (r:Cp) (zs2:List UInt8) (f2:Nat→Bool) (hmv:ConOk Tryz.prog 37 3 (Zbi (mvA fr (inS op a b c m)) (.tuple ⟨[r.val,.int .i64 0]⟩) zs zs2 f f2 N g n)∧FlatC (Zbi (mvA fr (inS op a b c m)) (.tuple ⟨[r.val,.int .i64 0]⟩) zs zs2 f f2 N g n)):ConOk Tryz.prog 13 3 (ZjP (mvA fr (inS op a b c m)) (frS (Ys fr) a r) zs zs2 f f2 N g n)∧FlatC (ZjP (mvA fr (inS op a b c m)) (frS (Ys fr) a r) zs zs2 f f2 N g n):=by
 have ha:a<17:=by omega
 have ya:decide ((0:Int)≤(a:Int))=true:=decide_eq_true (by omega)
 have za:decide ((a:Int)<16)=true:=decide_eq_true (by omega)
 have v1:∀ (f:Nat→Bool) (σ:Nat→Nat),(v64 (Za f n)).map (rnV σ 3)=v64 (Za f n):=fun f σ=>Zp (Zr _)
 have v2:∀ (f:Nat→Bool) (p:Nat→Bool),(v64 (Za f n)).all (okV p 3)=true:=fun f p=>Zn (Zr _)
 have u1:∀ (zs:List UInt8) (p:Nat→Bool),(u8s zs).all (okV p 3)=true:=fun zs p=>Zn (Zm _)
 have u2:∀ (zs:List UInt8) (σ:Nat→Nat),(u8s zs).map (rnV σ 3)=u8s zs:=fun zs σ=>Zp (Zm _)
 have w1:decide (((Yt op:Nat):Int)>0)=true:=decide_eq_true (by omega)
 have hr:=Znx (inS op a b c m) fr (Ys fr) ZB zs f N g n (Yt op) r zs2 f2
 simp only[rr, tt, inS,Int.toNat_natCast,Qn,QL,QM,QN,Qo,QO,Qp,QP,Z0,Qg fr a ha,Qh fr a ha,Qi fr a ha,Qj fr a ha,Qe fr a ha,Qk fr a ha,Ql fr a ha,Qm fr a ha,Zo fr a ha,ZT fr a ha,Zq fr a ha,ZH fr a ha,Z4 _ a _ ha,ZU _ a _ ha,Zo _ a ha] at hr
 refine ZiV (Zt (L:=100) Zg (Zs (Zj (Xu (i:=(inS op a b c m)) hfr rfl hm.symm (Ws (KN rfl) (Zbk hmv)))) (Zf _)) (Ze _) 20) (QK _ _) hr rfl ?_ (YN _ _ N g n _ _ rfl rfl rfl rfl rfl rfl) ⟨⟨rfl,Nat.le_refl _⟩,⟨rfl,Nat.le_refl _⟩,trivial⟩
 simp only[rr, tt, inS,Qn,QL,QM,QN,Qo,QO,Qp,QP,Z0,Qg fr a ha,Qh fr a ha,Qi fr a ha,Qj fr a ha,Qe fr a ha,Qk fr a ha,Ql fr a ha,Qm fr a ha,Zo fr a ha,ZT fr a ha,Zq fr a ha,ZH fr a ha,Z4 _ a _ ha,ZU _ a _ ha,Zo _ a ha,ya,za,QR k53,QR k50,QR k51,QR k52,QR k29,QR k30,w1,Nat.add_zero,v1,v2,u1,u2,ZE,Zw,Int.toNat_natCast,Bool.and_self,Bool.and_true,Bool.true_and,cond_true,and_true,true_and,and_self,Nat.le_refl]
def tgYC (g:Nat) (zs:List UInt8) (f:Nat→Bool) (N m n:Nat) (tl:List Nat):Con:=⟨[.pointer (some ⟨67,0,none⟩),.int .i64 (g:Nat)],68,arW false zs f N m n,arO N n,.slice (some ⟨68,0,none⟩) tl.length (big+68),69,[(68,⟨false,some (0,0),JC tl,none⟩)],[]⟩
def tgE (g:Nat) (out:Value) (k:Nat):List (Nat×Value):=[(0,.pointer (some ⟨67,0,none⟩)),(4,.slice none 0 0),(5,out),(6,.int .i64 (16*g:Nat)),(20,.int .i64 (k:Nat))]
def tgN (g:Nat) (zs:List UInt8) (f:Nat→Bool) (N m n:Nat) (k:Nat):Sf:=⟨68,tgE g (.slice none 0 0) k,arW false zs f N m n,arO N n⟩
def tgO (l:List Nat):Sy.Blk:=⟨true,some (68,1),JC l,none⟩
def tgY (g:Nat) (zs:List UInt8) (f:Nat→Bool) (N m n:Nat) (l:List Nat) (k:Nat):Sf:=⟨69,tgE g (.slice (some ⟨68,0,none⟩) l.length (big+68)) k,(68,tgO l)::arW false zs f N m n,(68,l.length)::arO N n⟩
theorem Zk5 (g:Nat) (zs:List UInt8) (f:Nat→Bool) (N:Nat) (m:Nat) (n:Nat) (k:Nat):evC Tryz.prog (evF Tryz.prog (Wb 3 (Zad m n f)) Zh 100 20) (Zh 47) 41 100 (QC Tryz.prog 47 0) (Sf.frT 41 (tgN g zs f N m n k) [(0,true),(1,false)])=some (Exit.normal,{ e:=mkE 41 [(0,Value.pointer (some ⟨67,0,none⟩)),(4,.slice none 0 0),(5,.slice none 0 0),(6,.int .i64 (↑(16*g))),(7,.int .i64 (↑k)),(20,.int .i64 (i64.wrap ((↑k:Int)+(1:Int)))),(21,.bool (decide ((↑k:Int)<(16:Int)))),(22,.int .i64 (↑k)),(23,.pointer (some ⟨67,0,none⟩)),(24,.pointer (some ⟨67,0,none⟩)),(25,.pointer (some ⟨67,0,none⟩)),(26,.pointer (some ⟨66,0,none⟩)),(27,.int .i64 (↑(16*g))),(28,.int .i64 (↑k)),(29,.int .i64 (i64.wrap ((↑(16*g):Int)+(↑k:Int)))),(30,.bool (f (i64.wrap ((↑(16*g):Int)+(↑k:Int))).toNat)),(39,.int .i64 (i64.wrap ((↑k:Int)+(1:Int))))],s:={ n:=68,h:=[(67,⟨false,none,[Value.pointer (some ⟨66,0,none⟩),.slice (some ⟨64,0,none⟩) N 9223372036854775872],none⟩),(66,⟨false,none,[Value.int .i64 (↑m),.slice (some ⟨65,0,none⟩) n 9223372036854775873],none⟩),(65,⟨false,some (65,1),v64 (Za f n),none⟩),(64,⟨false,some (64,1),u8s zs,none⟩)],lo:=[(65,n),(64,N)],esc:=0,T:=[],k:=2,O:=((True∧decide ((↑k:Int)<(16:Int))=true)∧((0:Int)≤i64.wrap ((↑(16*g):Int)+(↑k:Int))∧i64.wrap ((↑(16*g):Int)+(↑k:Int))<(↑m:Int))∧(rr (Value.pointer (some ⟨66,0,none⟩))∧rr (Value.int .i64 (i64.wrap ((↑(16*g):Int)+(↑k:Int))))∧True)∧((tt∧tt∧tt∧tt∧tt∧True∧[Value.int .i64 (↑m),.slice (some ⟨65,0,none⟩) n 9223372036854775873]=[Value.int .i64 (↑m),.slice (some ⟨65,0,none⟩) (Za f n).length 9223372036854775873])∧(tt∧(v64 (Za f n)).all (okV (fun l=>l.blt 68) 3)=true∧tt∧tt∧tt∧True∧v64 (Za f n)=List.map (rnV (lift 68 68 [64,65,66,67]) 3) (v64 (Za f n)))∧True)∧(tt∧n≤n)∧True)∧f (i64.wrap ((↑(16*g):Int)+(↑k:Int))).toNat=false:St }:Fr }):=by kernel_rfl
theorem Zk6 (g:Nat) (zs:List UInt8) (f:Nat→Bool) (N:Nat) (m:Nat) (n:Nat) (k:Nat):evC Tryz.prog (evF Tryz.prog (Wb 3 (Zad m n f)) Zh 100 20) (Zh 47) 41 100 (QC Tryz.prog 47 0) (Sf.frT 41 (tgN g zs f N m n k) [(0,true),(1,true)])=some (Exit.normal,{ e:=[[Value.pointer (some ⟨67,0,none⟩),unk,unk,unk,.slice none 0 0,.slice (some ⟨69,0,none⟩) 1 9223372036854775877,.int .i64 (↑(16*g)),.int .i64 (↑k),unk,unk,unk,unk,unk,unk,unk,unk],[unk,unk,unk,unk,.int .i64 (i64.wrap ((↑k:Int)+(1:Int))),.bool (decide ((↑k:Int)<(16:Int))),.int .i64 (↑k),.pointer (some ⟨67,0,none⟩),.pointer (some ⟨67,0,none⟩),.pointer (some ⟨67,0,none⟩),.pointer (some ⟨66,0,none⟩),.int .i64 (↑(16*g)),.int .i64 (↑k),.int .i64 (i64.wrap ((↑(16*g):Int)+(↑k:Int))),.bool (f (i64.wrap ((↑(16*g):Int)+(↑k:Int))).toNat),.slice none 0 0],[Value.int .i64 (↑(16*g)),.int .i64 (↑k),.int .i64 (i64.wrap ((↑(16*g):Int)+(↑k:Int))),.int .i64 (i64.wrap (i64.wrap ((↑(16*g):Int)+(↑k:Int))*(16:Int))),.int .u32 (u32.wrap (i64.wrap (i64.wrap ((↑(16*g):Int)+(↑k:Int))*(16:Int)))),.slice (some ⟨68,0,none⟩) 1 1,.slice (some ⟨69,0,none⟩) 1 9223372036854775877,.int .i64 (i64.wrap ((↑k:Int)+(1:Int))),unk,unk,unk,unk,unk,unk,unk,unk]],s:={ n:=70,h:=[(69,⟨true,some (69,1),[Value.int .u32 (u32.wrap (i64.wrap (i64.wrap ((↑(16*g):Int)+(↑k:Int))*(16:Int))))],none⟩),(68,⟨true,none,[Value.int .u32 (u32.wrap (i64.wrap (i64.wrap ((↑(16*g):Int)+(↑k:Int))*(16:Int))))],none⟩),(67,⟨false,none,[Value.pointer (some ⟨66,0,none⟩),.slice (some ⟨64,0,none⟩) N 9223372036854775872],none⟩),(66,⟨false,none,[Value.int .i64 (↑m),.slice (some ⟨65,0,none⟩) n 9223372036854775873],none⟩),(65,⟨false,some (65,1),v64 (Za f n),none⟩),(64,⟨false,some (64,1),u8s zs,none⟩)],lo:=[(69,1),(65,n),(64,N)],esc:=0,T:=[],k:=2,O:=((True∧decide ((↑k:Int)<(16:Int))=true)∧((0:Int)≤i64.wrap ((↑(16*g):Int)+(↑k:Int))∧i64.wrap ((↑(16*g):Int)+(↑k:Int))<(↑m:Int))∧(rr (Value.pointer (some ⟨66,0,none⟩))∧rr (Value.int .i64 (i64.wrap ((↑(16*g):Int)+(↑k:Int))))∧True)∧((tt∧tt∧tt∧tt∧tt∧True∧[Value.int .i64 (↑m),.slice (some ⟨65,0,none⟩) n 9223372036854775873]=[Value.int .i64 (↑m),.slice (some ⟨65,0,none⟩) (Za f n).length 9223372036854775873])∧(tt∧(v64 (Za f n)).all (okV (fun l=>l.blt 68) 3)=true∧tt∧tt∧tt∧True∧v64 (Za f n)=List.map (rnV (lift 68 68 [64,65,66,67]) 3) (v64 (Za f n)))∧True)∧(tt∧n≤n)∧True)∧f (i64.wrap ((↑(16*g):Int)+(↑k:Int))).toNat=true:St }:Fr }):=by kernel_rfl
theorem Zk7 (g:Nat) (zs:List UInt8) (f:Nat→Bool) (N:Nat) (m:Nat) (n:Nat) (k:Nat):evC Tryz.prog (evF Tryz.prog (Wb 3 (Zad m n f)) Zh 100 20) (Zh 47) 41 100 (QC Tryz.prog 47 0) (Sf.frT 41 (tgN g zs f N m n k) [(0,false)])=some (Exit.exit 0,{ e:=mkE 41 [(0,Value.pointer (some ⟨67,0,none⟩)),(4,.slice none 0 0),(5,.slice none 0 0),(6,.int .i64 (↑(16*g))),(20,.int .i64 (↑k)),(21,.bool (decide ((↑k:Int)<(16:Int))))],s:={ n:=68,h:=[(67,⟨false,none,[Value.pointer (some ⟨66,0,none⟩),.slice (some ⟨64,0,none⟩) N 9223372036854775872],none⟩),(66,⟨false,none,[Value.int .i64 (↑m),.slice (some ⟨65,0,none⟩) n 9223372036854775873],none⟩),(65,⟨false,some (65,1),v64 (Za f n),none⟩),(64,⟨false,some (64,1),u8s zs,none⟩)],lo:=[(65,n),(64,N)],esc:=0,T:=[],k:=1,O:=True∧decide ((↑k:Int)<(16:Int))=false:St }:Fr }):=by kernel_rfl
theorem Zk8 (g:Nat) (zs:List UInt8) (f:Nat→Bool) (N:Nat) (m:Nat) (n:Nat) (l:List Nat) (k:Nat):evC Tryz.prog (evF Tryz.prog (Wb 3 (Zad m n f)) Zh 100 20) (Zh 47) 41 100 (QC Tryz.prog 47 0) (Sf.frT 41 (tgY g zs f N m n l k) [(0,true),(1,false)])=some (Exit.normal,{ e:=mkE 41 [(0,Value.pointer (some ⟨67,0,none⟩)),(4,.slice none 0 0),(5,.slice (some ⟨68,0,none⟩) l.length 9223372036854775876),(6,.int .i64 (↑(16*g))),(7,.int .i64 (↑k)),(20,.int .i64 (i64.wrap ((↑k:Int)+(1:Int)))),(21,.bool (decide ((↑k:Int)<(16:Int)))),(22,.int .i64 (↑k)),(23,.pointer (some ⟨67,0,none⟩)),(24,.pointer (some ⟨67,0,none⟩)),(25,.pointer (some ⟨67,0,none⟩)),(26,.pointer (some ⟨66,0,none⟩)),(27,.int .i64 (↑(16*g))),(28,.int .i64 (↑k)),(29,.int .i64 (i64.wrap ((↑(16*g):Int)+(↑k:Int)))),(30,.bool (f (i64.wrap ((↑(16*g):Int)+(↑k:Int))).toNat)),(39,.int .i64 (i64.wrap ((↑k:Int)+(1:Int))))],s:={ n:=69,h:=[(68,⟨true,some (68,1),JC l,none⟩),(67,⟨false,none,[Value.pointer (some ⟨66,0,none⟩),.slice (some ⟨64,0,none⟩) N 9223372036854775872],none⟩),(66,⟨false,none,[Value.int .i64 (↑m),.slice (some ⟨65,0,none⟩) n 9223372036854775873],none⟩),(65,⟨false,some (65,1),v64 (Za f n),none⟩),(64,⟨false,some (64,1),u8s zs,none⟩)],lo:=[(68,l.length),(65,n),(64,N)],esc:=0,T:=[],k:=2,O:=((True∧decide ((↑k:Int)<(16:Int))=true)∧((0:Int)≤i64.wrap ((↑(16*g):Int)+(↑k:Int))∧i64.wrap ((↑(16*g):Int)+(↑k:Int))<(↑m:Int))∧(rr (Value.pointer (some ⟨66,0,none⟩))∧rr (Value.int .i64 (i64.wrap ((↑(16*g):Int)+(↑k:Int))))∧True)∧((tt∧tt∧tt∧tt∧tt∧True∧[Value.int .i64 (↑m),.slice (some ⟨65,0,none⟩) n 9223372036854775873]=[Value.int .i64 (↑m),.slice (some ⟨65,0,none⟩) (Za f n).length 9223372036854775873])∧(tt∧(v64 (Za f n)).all (okV (fun l=>l.blt 68) 3)=true∧tt∧tt∧tt∧True∧v64 (Za f n)=List.map (rnV (lift 68 69 [64,65,66,67]) 3) (v64 (Za f n)))∧True)∧(tt∧n≤n)∧True)∧f (i64.wrap ((↑(16*g):Int)+(↑k:Int))).toNat=false:St }:Fr }):=by kernel_rfl
theorem Zk9 (g:Nat) (zs:List UInt8) (f:Nat→Bool) (N:Nat) (m:Nat) (n:Nat) (l:List Nat) (k:Nat):evC Tryz.prog (evF Tryz.prog (Wb 3 (Zad m n f)) Zh 100 20) (Zh 47) 41 100 (QC Tryz.prog 47 0) (Sf.frT 41 (tgY g zs f N m n l k) [(0,true),(1,true)])=some (Exit.normal,{ e:=[[Value.pointer (some ⟨67,0,none⟩),unk,unk,unk,.slice none 0 0,.slice (some ⟨70,0,none⟩) (l.length+1) 9223372036854775878,.int .i64 (↑(16*g)),.int .i64 (↑k),unk,unk,unk,unk,unk,unk,unk,unk],[unk,unk,unk,unk,.int .i64 (i64.wrap ((↑k:Int)+(1:Int))),.bool (decide ((↑k:Int)<(16:Int))),.int .i64 (↑k),.pointer (some ⟨67,0,none⟩),.pointer (some ⟨67,0,none⟩),.pointer (some ⟨67,0,none⟩),.pointer (some ⟨66,0,none⟩),.int .i64 (↑(16*g)),.int .i64 (↑k),.int .i64 (i64.wrap ((↑(16*g):Int)+(↑k:Int))),.bool (f (i64.wrap ((↑(16*g):Int)+(↑k:Int))).toNat),.slice (some ⟨68,0,none⟩) l.length 9223372036854775876],[Value.int .i64 (↑(16*g)),.int .i64 (↑k),.int .i64 (i64.wrap ((↑(16*g):Int)+(↑k:Int))),.int .i64 (i64.wrap (i64.wrap ((↑(16*g):Int)+(↑k:Int))*(16:Int))),.int .u32 (u32.wrap (i64.wrap (i64.wrap ((↑(16*g):Int)+(↑k:Int))*(16:Int)))),.slice (some ⟨69,0,none⟩) 1 1,.slice (some ⟨70,0,none⟩) (l.length+1) 9223372036854775878,.int .i64 (i64.wrap ((↑k:Int)+(1:Int))),unk,unk,unk,unk,unk,unk,unk,unk]],s:={ n:=71,h:=[(70,⟨true,some (70,1),JC l++[Value.int .u32 (u32.wrap (i64.wrap (i64.wrap ((↑(16*g):Int)+(↑k:Int))*(16:Int))))],none⟩),(69,⟨true,none,[Value.int .u32 (u32.wrap (i64.wrap (i64.wrap ((↑(16*g):Int)+(↑k:Int))*(16:Int))))],none⟩),(67,⟨false,none,[Value.pointer (some ⟨66,0,none⟩),.slice (some ⟨64,0,none⟩) N 9223372036854775872],none⟩),(66,⟨false,none,[Value.int .i64 (↑m),.slice (some ⟨65,0,none⟩) n 9223372036854775873],none⟩),(65,⟨false,some (65,1),v64 (Za f n),none⟩),(64,⟨false,some (64,1),u8s zs,none⟩)],lo:=[(70,l.length+1),(68,l.length),(65,n),(64,N)],esc:=0,T:=[],k:=2,O:=bif (ZA (JC l)).beq (l.length*1) then bif ((l.length+1)*4).ble 1099511627776&&(l.length+1).blt 4611686018427387904 then((True∧decide ((↑k:Int)<(16:Int))=true)∧((0:Int)≤i64.wrap ((↑(16*g):Int)+(↑k:Int))∧i64.wrap ((↑(16*g):Int)+(↑k:Int))<(↑m:Int))∧(rr (Value.pointer (some ⟨66,0,none⟩))∧rr (Value.int .i64 (i64.wrap ((↑(16*g):Int)+(↑k:Int))))∧True)∧((tt∧tt∧tt∧tt∧tt∧True∧[Value.int .i64 (↑m),.slice (some ⟨65,0,none⟩) n 9223372036854775873]=[Value.int .i64 (↑m),.slice (some ⟨65,0,none⟩) (Za f n).length 9223372036854775873])∧(tt∧(v64 (Za f n)).all (okV (fun l=>l.blt 68) 3)=true∧tt∧tt∧tt∧True∧v64 (Za f n)=List.map (rnV (lift 68 69 [64,65,66,67]) 3) (v64 (Za f n)))∧True)∧(tt∧n≤n)∧True)∧f (i64.wrap ((↑(16*g):Int)+(↑k:Int))).toNat=true else False else False:St }:Fr }):=by kernel_rfl
theorem Zla (g:Nat) (zs:List UInt8) (f:Nat→Bool) (N:Nat) (m:Nat) (n:Nat) (l:List Nat) (k:Nat):evC Tryz.prog (evF Tryz.prog (Wb 3 (Zad m n f)) Zh 100 20) (Zh 47) 41 100 (QC Tryz.prog 47 0) (Sf.frT 41 (tgY g zs f N m n l k) [(0,false)])=some (Exit.exit 0,{ e:=mkE 41 [(0,Value.pointer (some ⟨67,0,none⟩)),(4,.slice none 0 0),(5,.slice (some ⟨68,0,none⟩) l.length 9223372036854775876),(6,.int .i64 (↑(16*g))),(20,.int .i64 (↑k)),(21,.bool (decide ((↑k:Int)<(16:Int))))],s:={ n:=69,h:=[(68,⟨true,some (68,1),JC l,none⟩),(67,⟨false,none,[Value.pointer (some ⟨66,0,none⟩),.slice (some ⟨64,0,none⟩) N 9223372036854775872],none⟩),(66,⟨false,none,[Value.int .i64 (↑m),.slice (some ⟨65,0,none⟩) n 9223372036854775873],none⟩),(65,⟨false,some (65,1),v64 (Za f n),none⟩),(64,⟨false,some (64,1),u8s zs,none⟩)],lo:=[(68,l.length),(65,n),(64,N)],esc:=0,T:=[],k:=1,O:=True∧decide ((↑k:Int)<(16:Int))=false:St }:Fr }):=by kernel_rfl
def toσ (m g:Nat) (l:Nat):Nat:=if l=m then g else l
def tgK (f:Nat→Bool) (g:Nat):Nat→List Nat
 | 0=>[]
 | k+1=>bif f (16*g+k) then tgK f g k++[(16*g+k)*16] else tgK f g k
theorem Zaj (f:Nat→Bool) (g:Nat):∀ k,(tgK f g k).length≤k
 | 0=>Nat.le_refl _
 | k+1=>by
  have:=Zaj f g k
  unfold tgK
  cases f (16*g+k)
  ·show(tgK f g k).length≤k+1; omega
  ·show(tgK f g k++[_]).length≤k+1; rw[List.length_append]; simp; omega
def tgS (g:Nat) (zs:List UInt8) (f:Nat→Bool) (N m n:Nat):List Nat→Nat→Sf
 | [],k=>tgN g zs f N m n k
 | x::l,k=>tgY g zs f N m n (x::l) k
def tgP (l:List Nat):Sy.Blk:=⟨true,some (69,1),JC l,none⟩
def tgF:List Nat→Sf
 | []=>⟨68,[(5,.slice none 0 0)],[],[]⟩
 | x::l=>⟨70,[(5,.slice (some ⟨69,0,none⟩) (x::l).length (big+69))],[(69,tgP (x::l))],[(69,(x::l).length)]⟩
theorem ZiZ (g:Nat) (zs:List UInt8) (f:Nat→Bool) (N m n:Nat) (l:List Nat) (k:Nat) (h:l≠[]):tgS g zs f N m n l k=tgY g zs f N m n l k:=by
 cases l with
 | nil=>exact absurd rfl h
 | cons x l=>rfl
theorem Zfv (l:List Nat) (x:Nat):JC l++[Value.int .u32 (x:Int)]=JC (l++[x]):=by simp[JC]
theorem Ut (l:List Nat) (a:Nat) (ha:a≤69) (σ:Nat→Nat) (p:Nat→Bool):(tgF l).Ok (Yo a (tgF l).n σ p):=by
 cases l with
 | nil=>exact Sf.Ok.mk' 3 trivial rfl (fun x hx=>by obtain rfl:=List.mem_singleton.1 hx; rfl)
 | cons x l =>
  have hq:Yo a 70 σ p 69=true:=by
   show(Nat.blt 69 NG||(bif Nat.blt 69 a then(Nat.beq (σ 69) 69&&p 69) else Nat.blt 69 70))=true
   rw[QZ (show a≤69 from ha)]; rfl
  refine Sf.Ok.mk' 3 ⟨⟨hq,hq,Qf (QE _)⟩,trivial⟩ (by show(Yo a 70 σ p 69&&true)=true; rw[hq]; rfl) (fun y hy => ?_)
  obtain rfl:=List.mem_singleton.1 hy
  show okV (Yo a 70 σ p) 3 (.slice (some ⟨69,0,none⟩) (x::l).length (big+69))=true
  simp[okV,Xv,hq,big]
theorem Zlb (g:Nat) (zs:List UInt8) (f:Nat→Bool) (N m n:Nat) (l:List Nat) (k:Nat):(tgS g zs f N m n l k).Wf:=by
 cases l with
 | nil=>exact⟨by show 64≤68; omega,Sf.Ok.mk' 3 (XL KU false zs f N m n) rfl (fun x hx=>by
   simp only[rr, tt, tgS,tgN,tgE,List.mem_cons,List.not_mem_nil,or_false] at hx
   rcases hx with rfl|rfl|rfl|rfl|rfl<;>rfl)⟩
 | cons x l=>exact⟨by show 64≤69; omega,Sf.Ok.mk' 3 ⟨⟨rfl,rfl,Qf (QE _)⟩,XL (fun l hl=>by show Nat.blt l 69=true; exact QY (by omega)) false zs f N m n⟩ rfl (fun x hx=>by
   simp only[rr, tt, tgS,tgY,tgE,List.mem_cons,List.not_mem_nil,or_false] at hx
   rcases hx with rfl|rfl|rfl|rfl|rfl<;>rfl)⟩
theorem Wt {h1:Sy.Heap} {p:Nat→Bool} {σ:Nat→Nat} (hp:∀ l,l<68→p l=true) (hs:∀ l,l<68→σ l=l) (zs:List UInt8) (f:Nat→Bool) (N m n:Nat) (h67:Sy.look h1 67=some ⟨false,none,[.pointer (some ⟨66,0,none⟩),.slice (some ⟨64,0,none⟩) N (big+64)],none⟩) (h66:Sy.look h1 66=some ⟨false,none,[.int .i64 (m:Nat),.slice (some ⟨65,0,none⟩) n (big+65)],none⟩)
  (h65:Sy.look h1 65=some ⟨false,some (65,1),v64 (Za f n),none⟩) (h64:Sy.look h1 64=some ⟨false,some (64,1),u8s zs,none⟩):YQ 3 p σ h1 (arW false zs f N m n):=by
 have hr:∀ l:List Value,(∀ w∈l,okV (fun l=>Nat.blt l 68) 3 w=true)→l.map (rnV σ 3)=l:=fun l hl=>by
  rw[List.map_congr_left (g:=id) (fun w hw=>Zcz (p:=fun l=>Nat.blt l 68) (fun l hl=>hs l (by simpa using hl)) 3 w (hl w hw))]
  simp
 have hc:=Yq (q:=fun l=>Nat.blt l 68) KU N m n
 have hcp:=Yq (q:=p) hp N m n
 refine⟨⟨hp 67 (by omega),List.all_eq_true.2 hcp.1,rfl,?_⟩,⟨hp 66 (by omega),List.all_eq_true.2 hcp.2,rfl,?_⟩,⟨hp 65 (by omega),Zn (Zr _),hp 65 (by omega),?_⟩,⟨hp 64 (by omega),Zn (Zm zs),hp 64 (by omega),?_⟩,trivial⟩
 ·show match Sy.look h1 (σ 67) with|none=>False|some k1=>_
  rw[hs 67 (by omega),h67]; exact⟨rfl,rfl,trivial,(hr _ hc.1).symm⟩
 ·show match Sy.look h1 (σ 66) with|none=>False|some k1=>_
  rw[hs 66 (by omega),h66]; exact⟨rfl,rfl,trivial,(hr _ hc.2).symm⟩
 ·show match Sy.look h1 (σ 65) with|none=>False|some k1=>_
  rw[hs 65 (by omega),h65]
  refine⟨rfl,?_,trivial,(Zp (Zr _)).symm⟩
  show(opB (some (65,1)) (some (σ 65,1))||_)=true
  rw[hs 65 (by omega)]; rfl
 ·show match Sy.look h1 (σ 64) with|none=>False|some k1=>_
  rw[hs 64 (by omega),h64]
  refine⟨rfl,?_,trivial,(Zp (Zm _)).symm⟩
  show(opB (some (64,1)) (some (σ 64,1))||_)=true
  rw[hs 64 (by omega)]; rfl
theorem Zfw (l:List Nat):(JC l).length=l.length:=by simp[JC]
theorem Zi0 (g:Nat) (zs:List UInt8) (f:Nat→Bool) (N m n:Nat) (h:ArOk zs N m n) (hg:(g+1)*256≤N) :
  ∀ k:{ k:Nat // k≤16 },XX Tryz.prog 41 (QC Tryz.prog 47 0) ((tgS g zs f N m n (tgK f g k.1) k.1).fr 41) (.exit 0) ((tgF (tgK f g 16)).fr 41):=by
 obtain⟨hl,h1,h2,h3,h4⟩:=h
 have v1:∀ (σ:Nat→Nat),(v64 (Za f n)).map (rnV σ 3)=v64 (Za f n):=fun σ=>Zp (Zr _)
 have v2:∀ (p:Nat→Bool),(v64 (Za f n)).all (okV p 3)=true:=fun p=>Zn (Zr _)
 refine K5 (L:=100) (Xy _ _ 47) (fun _ h=>h) (X:={ k:Nat // k≤16 }) (fun k=>tgS g zs f N m n (tgK f g k.1) k.1) (fun _=>tgF (tgK f g 16)) (fun _ => .exit 0) (fun k=>16-k.1) (fun k=>Zlb _ _ _ _ _ _ _ _) ?_
 rintro⟨k,hk⟩
 have hbase:=Zt (L:=100) Zg (Xf (ZcO m n f h2 h3)) (Ze _) 20
 have hroW:∀ (σ:Nat→Nat),(∀ l,l<68→σ l=l)→∀ y∈arW false zs f N m n,σ y.1=y.1:=fun σ hσ y hy=>by
  simp only[rr, tt, arW,List.mem_cons,List.not_mem_nil,or_false] at hy
  rcases hy with rfl|rfl|rfl|rfl
  ·exact hσ 67 (by omega)
  ·exact hσ 66 (by omega)
  ·exact hσ 65 (by omega)
  ·exact hσ 64 (by omega)
 by_cases hlt:k<16
 ·have e1:i64.wrap (((16*g:Nat):Int)+(k:Int))=((16*g+k:Nat):Int):=by rw[VI,Ye _ (by omega)]
  have e2:u32.wrap (i64.wrap (((16*g+k:Nat):Int)*(16:Int)))=(((16*g+k)*16:Nat):Int):=by rw[show((16*g+k:Nat):Int)*(16:Int)=(((16*g+k)*16:Nat):Int) by omega,Ye _ (by omega),XQ _ (by omega)]
  have e5:i64.wrap ((k:Int)+(1:Int))=((k+1:Nat):Int):=Yj k (by omega)
  have b1:(0:Int)≤((16*g+k:Nat):Int):=by omega
  have b2:((16*g+k:Nat):Int)<(m:Int):=by omega
  have d1:decide ((k:Int)<(16:Int))=true:=decide_eq_true (by omega)
  have hlen:=Zaj f g k
  by_cases hL:tgK f g k=[]
  ·have hI:tgS g zs f N m n (tgK f g k) k=tgN g zs f N m n k:=by rw[hL]; rfl
   show ∃ call T e g' d p σ,Zx Tryz.prog call∧evC Tryz.prog call _ 41 100 _ (Sf.frT 41 (tgS g zs f N m n (tgK f g k) k) T)=some (e,g')∧_
   rw[hI]
   cases hf:f (16*g+k)
   ·have hnext:tgK f g (k+1)=[]:=by unfold tgK; rw[hf,hL]; rfl
    have hr:=Zk5 g zs f N m n k
    simp only[rr, tt, e1,e2,e5,Int.toNat_natCast] at hr
    refine⟨_,_,.normal,_,3,fun l=>Nat.blt l 68,id,hbase,hr,?_,.inl ⟨rfl,⟨k+1,by omega⟩,by show 16-(k+1)<16-k; omega,rfl,rfl,?_⟩⟩
    ·simp only[rr, tt, b1,b2,d1,hf,v1,v2,ZW,and_true,true_and,and_self,Nat.le_refl]
    ·show Sf.Leads 3 _ _ _ _ (tgS g zs f N m n (tgK f g (k+1)) (k+1)) _
     rw[hnext]
     exact⟨fun _ _=>rfl,Wt KU (fun _ _=>rfl) zs f N m n rfl rfl rfl rfl,rfl,⟨⟨rfl,Nat.le_refl _⟩,⟨rfl,Nat.le_refl _⟩,trivial⟩,⟨⟨by kernel_rfl,by kernel_rfl⟩,⟨by kernel_rfl,by kernel_rfl⟩,⟨by kernel_rfl,by kernel_rfl⟩,⟨by kernel_rfl,by kernel_rfl⟩,⟨by kernel_rfl,by kernel_rfl⟩,trivial⟩,Nat.le_refl _,fun l hl=>QZ hl,Ut _ _ (by show 68≤69; omega) _ _,fun x _ _ => .inl rfl⟩
   ·have hnext:tgK f g (k+1)=[(16*g+k)*16]:=by unfold tgK; rw[hf,hL]; rfl
    have hr:=Zk6 g zs f N m n k
    simp only[rr, tt, e1,e2,e5,Int.toNat_natCast] at hr
    refine⟨_,_,.normal,_,3,fun l=>Nat.blt l 69,toσ 68 69,hbase,hr,?_,.inl ⟨rfl,⟨k+1,by omega⟩,by show 16-(k+1)<16-k; omega,rfl,rfl,?_⟩⟩
    ·simp only[rr, tt, b1,b2,d1,hf,v1,v2,ZW,and_true,true_and,and_self,Nat.le_refl]
    ·show Sf.Leads 3 _ _ _ _ (tgS g zs f N m n (tgK f g (k+1)) (k+1)) _
     rw[hnext]
     refine⟨fun l hl=>if_neg (by have:NG=64:=rfl; omega),⟨⟨rfl,Zn (QE _),rfl,?_⟩,Wt (fun l hl=>by show Nat.blt l 69=true; exact QY (by omega)) (fun l hl=>if_neg (by omega)) zs f N m n rfl rfl rfl rfl⟩,rfl,⟨⟨rfl,?_⟩,⟨rfl,Nat.le_refl _⟩,⟨rfl,Nat.le_refl _⟩,trivial⟩,?_,by show 68≤69; omega,fun l hl=>QZ hl,Ut _ _ (by show 68≤69; omega) _ _,fun y hy hrw => ?_⟩
     ·exact⟨rfl,rfl,trivial,by show _=List.map _ (JC _); rw[Zp (QE _)]; try rfl⟩
     ·exact Nat.le_refl _
     ·exact⟨⟨by kernel_rfl,by kernel_rfl⟩,⟨by kernel_rfl,by kernel_rfl⟩,⟨by kernel_rfl,by kernel_rfl⟩,⟨by kernel_rfl,by kernel_rfl⟩,⟨by kernel_rfl,by kernel_rfl⟩,trivial⟩
     ·rcases List.mem_cons.1 hy with rfl|hy
      ·cases hrw
      ·left; exact hroW (toσ 68 69) (fun l hl=>if_neg (by omega)) y hy
  ·have hI:tgS g zs f N m n (tgK f g k) k=tgY g zs f N m n (tgK f g k) k:=ZiZ _ _ _ _ _ _ _ _ hL
   show ∃ call T e g' d p σ,Zx Tryz.prog call∧evC Tryz.prog call _ 41 100 _ (Sf.frT 41 (tgS g zs f N m n (tgK f g k) k) T)=some (e,g')∧_
   rw[hI]
   cases hf:f (16*g+k)
   ·have hnext:tgK f g (k+1)=tgK f g k:=by show(bif f (16*g+k) then _ else _)=_; rw[hf]; rfl
    have hr:=Zk8 g zs f N m n (tgK f g k) k
    simp only[rr, tt, e1,e2,e5,Int.toNat_natCast] at hr
    refine⟨_,_,.normal,_,3,fun l=>Nat.blt l 69,toσ 68 68,hbase,hr,?_,.inl ⟨rfl,⟨k+1,by omega⟩,by show 16-(k+1)<16-k; omega,rfl,rfl,?_⟩⟩
    ·simp only[rr, tt, b1,b2,d1,hf,v1,v2,ZW,and_true,true_and,and_self,Nat.le_refl]
    ·show Sf.Leads 3 _ _ _ _ (tgS g zs f N m n (tgK f g (k+1)) (k+1)) _
     rw[hnext,ZiZ _ _ _ _ _ _ _ _ hL]
     refine⟨fun l hl=>if_neg (by have:NG=64:=rfl; omega),⟨⟨rfl,Zn (QE _),rfl,?_⟩,Wt (fun l hl=>by show Nat.blt l 69=true; exact QY (by omega)) (fun l hl=>if_neg (by omega)) zs f N m n rfl rfl rfl rfl⟩,rfl,⟨⟨rfl,?_⟩,⟨rfl,Nat.le_refl _⟩,⟨rfl,Nat.le_refl _⟩,trivial⟩,?_,by show 69≤69; omega,fun l hl=>QZ hl,Ut _ _ (by show 69≤69; omega) _ _,fun y hy hrw => ?_⟩
     ·exact⟨rfl,rfl,trivial,by show _=List.map _ (JC _); rw[Zp (QE _)]; try rfl⟩
     ·exact Nat.le_refl _
     ·exact⟨⟨by kernel_rfl,by kernel_rfl⟩,⟨by kernel_rfl,by kernel_rfl⟩,⟨by kernel_rfl,by kernel_rfl⟩,⟨by kernel_rfl,by kernel_rfl⟩,⟨by kernel_rfl,by kernel_rfl⟩,trivial⟩
     ·rcases List.mem_cons.1 hy with rfl|hy
      ·cases hrw
      ·left; exact hroW (toσ 68 68) (fun l hl=>if_neg (by omega)) y hy
   ·have hnext:tgK f g (k+1)=tgK f g k++[(16*g+k)*16]:=by show(bif f (16*g+k) then _ else _)=_; rw[hf]; rfl
    have hr:=Zk9 g zs f N m n (tgK f g k) k
    simp only[rr, tt, e1,e2,e5,Int.toNat_natCast,Zfv] at hr
    have hn1:(tgK f g k).length+1=(tgK f g k++[(16*g+k)*16]).length:=by rw[List.length_append]; rfl
    refine⟨_,_,.normal,_,3,fun l=>Nat.blt l 69,toσ 68 70,hbase,hr,?_,.inl ⟨rfl,⟨k+1,by omega⟩,by show 16-(k+1)<16-k; omega,rfl,rfl,?_⟩⟩
    ·show cond _ _ _
     rw[ZR,Zfw,Nat.mul_one,Nat.beq_refl]
     show cond _ _ _
     rw[Nat.ble_eq_true_of_le (by omega),QY (by omega)]
     simp only[rr, tt, b1,b2,d1,hf,v1,v2,ZW,Bool.and_self,cond_true,and_true,true_and,and_self,Nat.le_refl]
    ·show Sf.Leads 3 _ _ _ _ (tgS g zs f N m n (tgK f g (k+1)) (k+1)) _
     rw[hnext,ZiZ _ _ _ _ _ _ _ _ (by simp)]
     refine⟨fun l hl=>if_neg (by have:NG=64:=rfl; omega),⟨⟨rfl,Zn (QE _),rfl,?_⟩,Wt (fun l hl=>by show Nat.blt l 69=true; exact QY (by omega)) (fun l hl=>if_neg (by omega)) zs f N m n rfl rfl rfl rfl⟩,rfl,⟨⟨rfl,?_⟩,⟨rfl,Nat.le_refl _⟩,⟨rfl,Nat.le_refl _⟩,trivial⟩,?_,by show 69≤69; omega,fun l hl=>QZ hl,Ut _ _ (by show 69≤69; omega) _ _,fun y hy hrw => ?_⟩
     ·exact⟨rfl,rfl,trivial,by show _=List.map _ (JC _); rw[Zp (QE _)]; try rfl⟩
     ·exact Nat.le_of_eq hn1.symm
     ·rw[hn1]; exact⟨⟨by kernel_rfl,by kernel_rfl⟩,⟨by kernel_rfl,by kernel_rfl⟩,⟨by kernel_rfl,by kernel_rfl⟩,⟨by kernel_rfl,by kernel_rfl⟩,⟨by kernel_rfl,by kernel_rfl⟩,trivial⟩
     ·rcases List.mem_cons.1 hy with rfl|hy
      ·cases hrw
      ·left; exact hroW (toσ 68 70) (fun l hl=>if_neg (by omega)) y hy
 ·have hkk:k=16:=by omega
  subst hkk
  show ∃ call T e g' d p σ,Zx Tryz.prog call∧evC Tryz.prog call _ 41 100 _ (Sf.frT 41 (tgS g zs f N m n (tgK f g 16) 16) T)=some (e,g')∧g'.s.O∧(_∨(e ≠ .normal∧e = .exit 0∧Sf.Leads d p σ (tgS g zs f N m n (tgK f g 16) 16) g' (tgF (tgK f g 16)) (tgF (tgK f g 16))))
  generalize tgK f g 16=L
  cases L with
  | nil =>
   have hr:=Zk7 g zs f N m n 16
   exact⟨_,_,.exit 0,_,3,fun l=>Nat.blt l 68,id,hbase,hr,⟨trivial,rfl⟩,.inr ⟨by simp,rfl,⟨fun _ _=>rfl,trivial,rfl,trivial,⟨⟨by kernel_rfl,by kernel_rfl⟩,trivial⟩,Nat.le_refl _,fun l hl=>QZ hl,Ut _ _ (by show 68≤69; omega) _ _,fun x hx=>by cases hx⟩⟩⟩
  | cons x l =>
   have hr:=Zla g zs f N m n (x::l) 16
   refine⟨_,_,.exit 0,_,3,fun l=>Nat.blt l 70,toσ 69 68,hbase,hr,⟨trivial,rfl⟩,.inr ⟨by simp,rfl,⟨fun l hl=>if_neg (by have:NG=64:=rfl; omega),⟨⟨rfl,Zn (QE _),rfl,?_⟩,trivial⟩,rfl,⟨⟨rfl,Nat.le_refl _⟩,trivial⟩,⟨⟨by kernel_rfl,by kernel_rfl⟩,trivial⟩,by show 69≤70; omega,fun l hl=>QZ hl,Ut _ _ (by show 69≤69; omega) _ _,fun y hy hrw => ?_⟩⟩⟩
   ·exact⟨rfl,rfl,trivial,(Zp (QE _)).symm⟩
   ·obtain rfl:=List.mem_singleton.1 hy; cases hrw
def tgFy (tl:List Nat):Sf:=⟨70,[(5,.slice (some ⟨69,0,none⟩) tl.length (big+69))],[(69,tgP tl)],[(69,tl.length)]⟩
def ZnA (g:Nat) (zs:List UInt8) (f:Nat→Bool) (N m n:Nat) (tl:List Nat) (h:ArOk zs N m n) (hg:(g+1)*256≤N) (ht:tgK f g 16=tl) (hne:tl≠[]):Ent Tryz.prog :=
 ZjF Tryz.prog 47 0 41 (tgN g zs f N m n 0) (.exit 0) (tgFy tl) (by kernel_rfl) (by kernel_rfl) (by
  have:=Zi0 g zs f N m n h hg ⟨0,by omega⟩
  have e:tgF (tgK f g 16)=tgFy tl:=by
   rw[ht]
   cases tl with
   | nil=>exact absurd rfl hne
   | cons x l=>rfl
  rw[e] at this
  exact this)
theorem tg_y (g:Nat) (zs:List UInt8) (f:Nat→Bool) (N m n:Nat) (tl:List Nat) (h:ArOk zs N m n) (hg:(g+1)*256≤N) (ht:tgK f g 16=tl) (hne:tl≠[]):evF Tryz.prog Zk (ZaW [ZnA g zs f N m n tl h hg ht hne]) 100 40 47 [Value.pointer (some ⟨67,0,none⟩),.int .i64 (↑g)] ⟨68,arW false zs f N m n,arO N n,0,[(13,false)],0,True⟩=some (Value.slice (some ⟨69,0,none⟩) tl.length 9223372036854775877,{ n:=70,h:=[(69,⟨true,some (69,1),JC tl,none⟩),(67,⟨false,none,[Value.pointer (some ⟨66,0,none⟩),.slice (some ⟨64,0,none⟩) N 9223372036854775872],none⟩),(66,⟨false,none,[Value.int .i64 (↑m),.slice (some ⟨65,0,none⟩) n 9223372036854775873],none⟩),(65,⟨false,some (65,1),v64 (Za f n),none⟩),(64,⟨false,some (64,1),u8s zs,none⟩)],lo:=[(69,tl.length),(65,n),(64,N)],esc:=0,T:=[],k:=14,O:=(True∧decide ((↑g:Int)≥i64.wrap ((↑N:Int).tdiv (256:Int)))=false)∧(rr (Value.pointer (some ⟨67,0,none⟩))∧rr (Value.slice none 0 0)∧rr (Value.slice none 0 0)∧Value.int .i64 (i64.wrap ((i64.wrap ((↑g:Int)*(256:Int))).tdiv (16:Int)))=Value.int .i64 (↑(16*g))∧rr (Value.int .i64 0)∧True)∧((tt∧tt∧True∧rr [Value.pointer (some ⟨66,0,none⟩),.slice (some ⟨64,0,none⟩) N 9223372036854775872])∧(tt∧tt∧True∧rr [Value.int .i64 (↑m),.slice (some ⟨65,0,none⟩) n 9223372036854775873])∧(tt∧tt∧True∧rr (v64 (Za f n)))∧(tt∧tt∧True∧rr (u8s zs))∧True)∧(n≤n∧N≤N∧True)∧True:St }):=by kernel_rfl
theorem Zi1 (g:Nat) (zs:List UInt8) (f:Nat→Bool) (N m n:Nat) (tl:List Nat) (h:ArOk zs N m n) (hg:(g+1)*256≤N) (ht:tgK f g 16=tl) (hne:tl≠[]):ConOk Tryz.prog 47 3 (tgYC g zs f N m n tl):=by
 obtain⟨hl,h1,h2,h3,h4⟩:=h
 have hr:=tg_y g zs f N m n tl ⟨hl,h1,h2,h3,h4⟩ hg ht hne
 have e1:i64.wrap ((i64.wrap ((g:Int)*(256:Int))).tdiv (16:Int))=((16*g:Nat):Int):=by
  rw[show(g:Int)*(256:Int)=((g*256:Nat):Int) by omega,Ye _ (by omega),Yr,Ye _ (by omega)]
  omega
 have e2:i64.wrap ((N:Int).tdiv (256:Int))=((N/256:Nat):Int):=by rw[show(N:Int).tdiv (256:Int)=((N/256:Nat):Int) from(Int.ofNat_tdiv N 256).symm,Ye _ (by omega)]
 refine ZZ (Zt (L:=100) Zg (Zf _) (Vi _) 40) ⟨by show 64≤68; omega,by show 68≤69; omega,XL KU false zs f N m n,rfl,rfl,rfl,rfl,rfl,fun x hx v hv => ?_⟩ hr ?_ (p:=fun l=>Nat.blt l 69) (σ:=toσ 68 69) ⟨fun l hl=>if_neg (by have:NG=64:=rfl; omega),⟨⟨rfl,Zn (QE _),rfl,?_⟩,trivial⟩,rfl,trivial,⟨rfl,by kernel_rfl⟩,rfl,⟨⟨rfl,rfl,Qf (QE _)⟩,trivial⟩,rfl,Qa 3 _ rfl,fun x hx hrw => ?_⟩
 ·obtain rfl:=List.mem_singleton.1 hx
  exact Qd (QE _ v hv) 3
 ·simp only[rr, tt, e1,e2,and_true,true_and,and_self,Nat.le_refl]
  exact decide_eq_false (by omega)
 ·exact⟨rfl,rfl,trivial,(Zp (QE _)).symm⟩
 ·obtain rfl:=List.mem_singleton.1 hx
  right; rfl
def lcL (a:Nat) (l:List UInt8) (k:Bool) (x:Cp) (m n:Nat) (f:Nat→Bool):Sy.Steps:=[(70,98,Zmn (a/16) m n f,[64,65,66,67]),(69,98,Zmn (a/16) m n f,[64,65,66,67]),(70,99,Con.pure [.string ⟨⟨l⟩⟩,.bool k] (.tuple ⟨[x.val,.bool true]⟩),[]),(69,99,Con.pure [.string ⟨⟨l⟩⟩,.bool k] (.tuple ⟨[x.val,.bool true]⟩),[])]
theorem ZnB (b0 b1 b2 b3 b4 b5 b6 b7 b8 b9 b10 b11 b12 b13 b14 b15:UInt8) (c:Cp) (k:Bool):obs (evF Tryz.prog (Zz 3 (Zd [(94,46,Con.pure [c.val] (Value.bool k),[])]) Zk) Zh 100 20 99 [Value.string ⟨⟨[b0,b1,b2,b3,b4,b5,b6,b7,b8,b9,b10,b11,b12,b13,b14,b15]⟩⟩,.bool true] ⟨64,[],[],0,[],0,True⟩)=some (Value.tuple { toList:=[Value.agg ⟨[.int .u32 (bits BinOp.or u32 (bits BinOp.or u32 (bits BinOp.or u32 (u32.wrap (u32.wrap (↑b3.toNat)*(16777216:Int))) (u32.wrap (u32.wrap (↑b2.toNat)*(65536:Int)))) (u32.wrap (u32.wrap (↑b1.toNat)*(256:Int)))) (u32.wrap (↑b0.toNat))),.int .u8 (u8.wrap (bits BinOp.or u32 (0:Int) (u32.wrap (↑b4.toNat)))),.int .u16 (u16.wrap (bits BinOp.or u32 (bits BinOp.or u32 (0:Int) (u32.wrap (u32.wrap (↑b6.toNat)*(256:Int)))) (u32.wrap (↑b5.toNat)))),.int .u16 (u16.wrap (bits BinOp.or u32 (bits BinOp.or u32 (0:Int) (u32.wrap (u32.wrap (↑b8.toNat)*(256:Int)))) (u32.wrap (↑b7.toNat)))),.int .u16 (u16.wrap (bits BinOp.or u32 (bits BinOp.or u32 (0:Int) (u32.wrap (u32.wrap (↑b10.toNat)*(256:Int)))) (u32.wrap (↑b9.toNat)))),.int .u16 (u16.wrap (bits BinOp.or u32 (bits BinOp.or u32 (0:Int) (u32.wrap (u32.wrap (↑b12.toNat)*(256:Int)))) (u32.wrap (↑b11.toNat)))),.int .u32 (bits BinOp.or u32 (bits BinOp.or u32 (bits BinOp.or u32 (0:Int) (u32.wrap (u32.wrap (↑b14.toNat)*(256:Int)))) (u32.wrap (↑b13.toNat))) (u32.wrap (bits BinOp.or u32 (0:Int) (u32.wrap (↑b15.toNat))*(65536:Int)))),.bool k]⟩,.bool true] },True∧True∧(Value.agg ⟨[.int .u32 (bits BinOp.or u32 (bits BinOp.or u32 (bits BinOp.or u32 (u32.wrap (u32.wrap (↑b3.toNat)*(16777216:Int))) (u32.wrap (u32.wrap (↑b2.toNat)*(65536:Int)))) (u32.wrap (u32.wrap (↑b1.toNat)*(256:Int)))) (u32.wrap (↑b0.toNat))),.int .u8 (u8.wrap (bits BinOp.or u32 (0:Int) (u32.wrap (↑b4.toNat)))),.int .u16 (u16.wrap (bits BinOp.or u32 (bits BinOp.or u32 (0:Int) (u32.wrap (u32.wrap (↑b6.toNat)*(256:Int)))) (u32.wrap (↑b5.toNat)))),.int .u16 (u16.wrap (bits BinOp.or u32 (bits BinOp.or u32 (0:Int) (u32.wrap (u32.wrap (↑b8.toNat)*(256:Int)))) (u32.wrap (↑b7.toNat)))),.int .u16 (u16.wrap (bits BinOp.or u32 (bits BinOp.or u32 (0:Int) (u32.wrap (u32.wrap (↑b10.toNat)*(256:Int)))) (u32.wrap (↑b9.toNat)))),.int .u16 (u16.wrap (bits BinOp.or u32 (bits BinOp.or u32 (0:Int) (u32.wrap (u32.wrap (↑b12.toNat)*(256:Int)))) (u32.wrap (↑b11.toNat)))),.int .u32 (bits BinOp.or u32 (bits BinOp.or u32 (bits BinOp.or u32 (0:Int) (u32.wrap (u32.wrap (↑b14.toNat)*(256:Int)))) (u32.wrap (↑b13.toNat))) (u32.wrap (bits BinOp.or u32 (0:Int) (u32.wrap (↑b15.toNat))*(65536:Int)))),.bool false]⟩=Value.agg ⟨[.int .u32 (↑c.C),.int .u8 (↑c.E),.int .u16 (↑c.B),.int .u16 (↑c.T),.int .u16 (↑c.P),.int .u16 (↑c.Y),.int .u32 (↑c.R),.bool c.V]⟩∧True)∧True∧True):=by kernel_rfl
theorem ZnC (b0 b1 b2 b3 b4 b5 b6 b7 b8 b9 b10 b11 b12 b13 b14 b15:UInt8) (c:Cp) (k:Bool):obs (evF Tryz.prog (Zz 3 (Zd [(94,46,Con.pure [c.val] (Value.bool k),[])]) Zk) Zh 100 20 99 [Value.string ⟨⟨[b0,b1,b2,b3,b4,b5,b6,b7,b8,b9,b10,b11,b12,b13,b14,b15]⟩⟩,.bool false] ⟨64,[],[],0,[],0,True⟩)=some (Value.tuple { toList:=[Value.agg ⟨[.int .u32 (bits BinOp.or u32 (bits BinOp.or u32 (bits BinOp.or u32 (u32.wrap (u32.wrap (↑b3.toNat)*(16777216:Int))) (u32.wrap (u32.wrap (↑b2.toNat)*(65536:Int)))) (u32.wrap (u32.wrap (↑b1.toNat)*(256:Int)))) (u32.wrap (↑b0.toNat))),.int .u8 (u8.wrap (bits BinOp.or u32 (0:Int) (u32.wrap (↑b4.toNat)))),.int .u16 (u16.wrap (bits BinOp.or u32 (bits BinOp.or u32 (0:Int) (u32.wrap (u32.wrap (↑b6.toNat)*(256:Int)))) (u32.wrap (↑b5.toNat)))),.int .u16 (u16.wrap (bits BinOp.or u32 (bits BinOp.or u32 (0:Int) (u32.wrap (u32.wrap (↑b8.toNat)*(256:Int)))) (u32.wrap (↑b7.toNat)))),.int .u16 (u16.wrap (bits BinOp.or u32 (bits BinOp.or u32 (0:Int) (u32.wrap (u32.wrap (↑b10.toNat)*(256:Int)))) (u32.wrap (↑b9.toNat)))),.int .u16 (u16.wrap (bits BinOp.or u32 (bits BinOp.or u32 (0:Int) (u32.wrap (u32.wrap (↑b12.toNat)*(256:Int)))) (u32.wrap (↑b11.toNat)))),.int .u32 (bits BinOp.or u32 (bits BinOp.or u32 (bits BinOp.or u32 (0:Int) (u32.wrap (u32.wrap (↑b14.toNat)*(256:Int)))) (u32.wrap (↑b13.toNat))) (u32.wrap (bits BinOp.or u32 (0:Int) (u32.wrap (↑b15.toNat))*(65536:Int)))),.bool false]⟩,.bool true] },True):=by kernel_rfl
theorem ZnD (a:Nat) (zs:List UInt8) (f:Nat→Bool) (N m n:Nat) (l:List UInt8) (k:Bool) (x:Cp):obs (evF Tryz.prog (Zz 3 (Zd (lcL a l k x m n f)) Zk) Zh 100 40 48 [Value.pointer (some ⟨67,0,none⟩),.int .u32 (↑a)] ⟨68,arW false zs f N m n,arO N n,0,(tb 34 12884901383),0,True⟩)=some (Value.tuple { toList:=[Value.agg ⟨[.int .u32 (↑x.C),.int .u8 (↑x.E),.int .u16 (↑x.B),.int .u16 (↑x.T),.int .u16 (↑x.P),.int .u16 (↑x.Y),.int .u32 (↑x.R),.bool x.V]⟩,.bool true] },((bif (List.take ((u32.wrap ((↑a:Int)+(16:Int))).toNat-(↑a:Int).toNat) (List.drop (0+(↑a:Int).toNat*1) (u8s zs))).all Zhm then bif ZI (0+(↑a:Int).toNat*1+((u32.wrap ((↑a:Int)+(16:Int))).toNat-(↑a:Int).toNat)) (u8s zs) then(bif decide ((0:Int)≤(↑a:Int))&&decide ((↑a:Int)≤(↑(u32.wrap ((↑a:Int)+(16:Int))).toNat:Int)) then bif decide ((0:Int)≤u32.wrap ((↑a:Int)+(16:Int)))&&decide (u32.wrap ((↑a:Int)+(16:Int))≤(↑N:Int)) then((((((((((((((((((((((((((((((((True∧((↑a:Int).tmod (16:Int)==(0:Int))=true)∧((↑a:Int).tmod (16:Int)==(0:Int))=true)∧((↑a:Int).tmod (16:Int)==(0:Int))=true)∧rr false)∧rr false)∧rr false)∧rr false)∧rr false)∧rr false)∧tt)∧tt)∧tt)∧tt)∧tt)∧tt)∧tt)∧tt)∧tt)∧tt)∧tt)∧decide ((16:Int)≤(↑N:Int))=true)∧decide ((16:Int)≤(↑N:Int))=true)∧decide ((16:Int)≤(↑N:Int))=true)∧decide ((16:Int)≤(↑N:Int))=true)∧decide ((16:Int)≤(↑N:Int))=true)∧decide ((16:Int)≤(↑N:Int))=true)∧decide ((16:Int)≤(↑N:Int))=true)∧decide ((16:Int)≤(↑N:Int))=true)∧decide ((16:Int)≤(↑N:Int))=true)∧decide ((16:Int)≤(↑N:Int))=true)∧decide ((16:Int)≤(↑N:Int))=true)∧((↑a:Int).tmod (16:Int)==(0:Int))=true)∧(!decide (i64.wrap (↑a)≤i64.wrap ((↑N:Int)-(16:Int))))=false else False else False)∧(↑a:Int).toNat.blt N=true else False else False)∧True∧(rr (Value.pointer (some ⟨66,0,none⟩))∧Value.int .i64 (i64.wrap ((i64.wrap (↑a)).tdiv (16:Int)))=Value.int .i64 (↑(a/16))∧True)∧((tt∧tt∧tt∧tt∧tt∧True∧[Value.int .i64 (↑m),.slice (some ⟨65,0,none⟩) n 9223372036854775873]=[Value.int .i64 (↑m),.slice (some ⟨65,0,none⟩) (Za f n).length 9223372036854775873])∧(tt∧(v64 (Za f n)).all (okV (fun l=>l.blt 68) 3)=true∧tt∧tt∧tt∧True∧v64 (Za f n)=List.map (rnV (lift 68 70 [64,65,66,67]) 3) (v64 (Za f n)))∧True)∧(tt∧n≤n)∧True)∧True∧(Value.string ⟨⟨List.map ZjD (List.take ((u32.wrap ((↑a:Int)+(16:Int))).toNat-(↑a:Int).toNat) (List.drop (0+(↑a:Int).toNat*1) (u8s zs)))⟩⟩=Value.string ⟨⟨l⟩⟩∧Value.bool (f (a/16))=Value.bool k∧True)∧True∧True):=by kernel_rfl
def ofS (l:List UInt8) (v:Bool):Cp :=
 ⟨Zke l 0,byA l 4,byA l 6*256+byA l 5,byA l 8*256+byA l 7,byA l 10*256+byA l 9,byA l 12*256+byA l 11,byA l 14*256+byA l 13+byA l 15*65536,
  v&&Yd (byA l 4) (byA l 6*256+byA l 5) (byA l 8*256+byA l 7) (byA l 10*256+byA l 9) (byA l 12*256+byA l 11) (byA l 14*256+byA l 13+byA l 15*65536)⟩
theorem orB (x y k:Nat) (hx:x<2^k) (hy:y%2^k=0) (h:x+y<4294967296):bits .or .u32 (x:Int) (y:Int)=((x+y:Nat):Int):=by
 show u32.wrap ((BitVec.ofInt 32 (x:Int)|||BitVec.ofInt 32 (y:Int)).toNat:Int)=_
 rw[BitVec.toNat_or,BitVec.ofInt_natCast,BitVec.ofInt_natCast,BitVec.toNat_ofNat,BitVec.toNat_ofNat,Nat.mod_eq_of_lt (by omega),Nat.mod_eq_of_lt (by omega),Nat.or_comm,ZhD y x k hy hx,Nat.add_comm,XQ _ h]
theorem or_4 (b0 b1 b2 b3:Nat) (h0:b0<256) (h1:b1<256) (h2:b2<256) (h3:b3<256):bits .or .u32 (bits .or .u32 (bits .or .u32 (u32.wrap (u32.wrap (b3:Int)*(16777216:Int))) (u32.wrap (u32.wrap (b2:Int)*(65536:Int)))) (u32.wrap (u32.wrap (b1:Int)*(256:Int)))) (u32.wrap (b0:Int))=((b3*16777216+b2*65536+b1*256+b0:Nat):Int):=by
 rw[XQ b3 (by omega),XQ b2 (by omega),XQ b1 (by omega),XQ b0 (by omega),show(b3:Int)*(16777216:Int)=((b3*16777216:Nat):Int) by omega,show(b2:Int)*(65536:Int)=((b2*65536:Nat):Int) by omega,show(b1:Int)*(256:Int)=((b1*256:Nat):Int) by omega,
  XQ (b3*16777216) (by omega),XQ (b2*65536) (by omega),XQ (b1*256) (by omega),orA _ _ 24 (by omega) (by omega) (by omega),orA _ _ 16 (by omega) (by omega) (by omega),orA _ _ 8 (by omega) (by omega) (by omega)]
theorem Zlc (b0 b1:Nat) (h0:b0<256) (h1:b1<256):bits .or .u32 (bits .or .u32 (0:Int) (u32.wrap (u32.wrap (b1:Int)*(256:Int)))) (u32.wrap (b0:Int))=((b1*256+b0:Nat):Int):=by
 rw[XQ b1 (by omega),XQ b0 (by omega),show(b1:Int)*(256:Int)=((b1*256:Nat):Int) by omega,XQ (b1*256) (by omega),Zl7 _ (by omega),orA _ _ 8 (by omega) (by omega) (by omega)]
theorem or_1 (b0:Nat) (h0:b0<256):bits .or .u32 (0:Int) (u32.wrap (b0:Int))=(b0:Int):=by rw[XQ b0 (by omega),Zl7 _ (by omega)]
theorem Zg1 (n:Nat) (h:n<65536):u16.wrap (n:Int)=(n:Int):=by simp only[rr, tt, IntKind.wrap_u16]; omega
theorem u8_s (n:Nat) (h:n<256):u8.wrap (n:Int)=(n:Int):=by simp only[rr, tt, IntKind.wrap_u8]; omega
theorem or_R (b13 b14 b15:Nat) (h0:b13<256) (h1:b14<256) (h2:b15<256):bits .or .u32 ((b14*256+b13:Nat):Int) (u32.wrap ((b15:Int)*(65536:Int)))=((b14*256+b13+b15*65536:Nat):Int):=by
 rw[show(b15:Int)*(65536:Int)=((b15*65536:Nat):Int) by omega,XQ _ (by omega),orB _ _ 16 (by omega) (by omega) (by omega)]
theorem Zld (l:List UInt8) (v:Bool):(ofS l v).Ok:=by
 have h:=Wo l
 have h0:=h 0; have h1:=h 1; have h2:=h 2; have h3:=h 3; have h4:=h 4; have h5:=h 5; have h6:=h 6; have h7:=h 7; have h8:=h 8; have h9:=h 9; have h10:=h 10; have h11:=h 11; have h12:=h 12; have h13:=h 13; have h14:=h 14; have h15:=h 15
 unfold Cp.Ok WF ofS Zke
 simp only[rr, tt, Nat.zero_add]
 omega
theorem Zfx (l:List UInt8) (hl:l.length=16) (v:Bool):ConOk Tryz.prog 99 3 (Con.pure [.string ⟨⟨l⟩⟩,.bool v] (.tuple ⟨[(ofS l v).val,.bool true]⟩)):=by
 match l,hl with
 | [b0,b1,b2,b3,b4,b5,b6,b7,b8,b9,b10,b11,b12,b13,b14,b15],_ =>
  have h0:=b0.toNat_lt; have h1:=b1.toNat_lt; have h2:=b2.toNat_lt; have h3:=b3.toNat_lt; have h4:=b4.toNat_lt; have h5:=b5.toNat_lt; have h6:=b6.toNat_lt; have h7:=b7.toNat_lt; have h8:=b8.toNat_lt; have h9:=b9.toNat_lt; have h10:=b10.toNat_lt; have h11:=b11.toNat_lt; have h12:=b12.toNat_lt; have h13:=b13.toNat_lt; have h14:=b14.toNat_lt; have h15:=b15.toNat_lt
  have hok:=Zld [b0,b1,b2,b3,b4,b5,b6,b7,b8,b9,b10,b11,b12,b13,b14,b15]
  have q1:=or_4 b0.toNat b1.toNat b2.toNat b3.toNat h0 h1 h2 h3
  have q2:=or_1 b4.toNat h4
  have q3:=Zlc b5.toNat b6.toNat h5 h6
  have q4:=Zlc b7.toNat b8.toNat h7 h8
  have q5:=Zlc b9.toNat b10.toNat h9 h10
  have q6:=Zlc b11.toNat b12.toNat h11 h12
  have q7:=Zlc b13.toNat b14.toNat h13 h14
  have q8:=or_1 b15.toNat h15
  have q9:=or_R b13.toNat b14.toNat b15.toNat h13 h14 h15
  have e2:=u8_s b4.toNat h4
  have e3:=Zg1 (b6.toNat*256+b5.toNat) (by omega)
  have e4:=Zg1 (b8.toNat*256+b7.toNat) (by omega)
  have e5:=Zg1 (b10.toNat*256+b9.toNat) (by omega)
  have e6:=Zg1 (b12.toNat*256+b11.toNat) (by omega)
  cases v
  ·have hr:=ZnC b0 b1 b2 b3 b4 b5 b6 b7 b8 b9 b10 b11 b12 b13 b14 b15 J2 true
   rw[q1,q2,q3,q4,q5,q6,q7,q8,q9,e2,e3,e4,e5,e6] at hr
   refine ZK (d:=1) (Zt (L:=100) Zg (Zs (Zj fun x hx => ?_) (Zf _)) (Ze _) 20) hr (by simp only[rr, tt, and_self]) rfl rfl
   obtain rfl:=List.mem_singleton.1 hx
   exact⟨Um J2 ⟨by decide,by decide,by decide,by decide,by decide,by decide,by decide⟩,⟨fun x hx=>by cases hx⟩⟩
  ·have hr:=ZnB b0 b1 b2 b3 b4 b5 b6 b7 b8 b9 b10 b11 b12 b13 b14 b15 { ofS [b0,b1,b2,b3,b4,b5,b6,b7,b8,b9,b10,b11,b12,b13,b14,b15] true with V:=false } (ofS [b0,b1,b2,b3,b4,b5,b6,b7,b8,b9,b10,b11,b12,b13,b14,b15] true).V
   rw[q1,q2,q3,q4,q5,q6,q7,q8,q9,e2,e3,e4,e5,e6] at hr
   refine ZK (d:=1) (Zt (L:=100) Zg (Zs (Zj fun x hx => ?_) (Zf _)) (Ze _) 20) hr ?_ rfl rfl
   ·obtain rfl:=List.mem_singleton.1 hx
    exact⟨Um { ofS [b0,b1,b2,b3,b4,b5,b6,b7,b8,b9,b10,b11,b12,b13,b14,b15] true with V:=false } (hok true),⟨fun x hx=>by cases hx⟩⟩
   ·refine⟨trivial,trivial,⟨?_,trivial⟩,trivial,trivial⟩
    rfl
theorem Zi2 (a:Nat) (zs:List UInt8) (f:Nat→Bool) (N m n:Nat) (h:ArOk zs N m n) (ha:a%16=0) (ha2:a+16≤N):ConOk Tryz.prog 48 3 (lcC a (ofS ((zs.drop a).take 16) (f (a/16))) zs f N m n):=by
 obtain⟨hl,h1,h2,h3,h4⟩:=h
 have hr:=ZnD a zs f N m n ((zs.drop a).take 16) (f (a/16)) (ofS ((zs.drop a).take 16) (f (a/16)))
 have et:(a:Int).tmod (16:Int)=((a%16:Nat):Int):=(Int.ofNat_tmod a 16).symm
 have e1:u32.wrap ((a:Int)+(16:Int))=((a+16:Nat):Int):=by rw[show(a:Int)+(16:Int)=((a+16:Nat):Int) by omega,XQ _ (by omega)]
 have e2:a+16-a=16:=by omega
 have e4:i64.wrap ((N:Int)-(16:Int))=((N-16:Nat):Int):=by rw[show(N:Int)-(16:Int)=((N-16:Nat):Int) by omega,Ye _ (by omega)]
 have v1:∀ (σ:Nat→Nat),(v64 (Za f n)).map (rnV σ 3)=v64 (Za f n):=fun σ=>Zp (Zr _)
 have v2:∀ (p:Nat→Bool),(v64 (Za f n)).all (okV p 3)=true:=fun p=>Zn (Zr _)
 have hlen:((zs.drop a).take 16).length=16:=by rw[List.length_take,List.length_drop,hl]; omega
 have hb:Zx Tryz.prog (Zz 3 (Zd (lcL a ((zs.drop a).take 16) (f (a/16)) (ofS ((zs.drop a).take 16) (f (a/16))) m n f)) Zk):=by
  refine Zs (Zj fun z hz => ?_) (Zf _)
  simp only[rr, tt, lcL,List.mem_cons,List.not_mem_nil,or_false] at hz
  rcases hz with rfl|rfl|rfl|rfl
  ·exact⟨ZbU (a/16) m n f (by omega) h2 h3,⟨fun x hx=>by cases hx⟩⟩
  ·exact⟨ZbU (a/16) m n f (by omega) h2 h3,⟨fun x hx=>by cases hx⟩⟩
  ·exact⟨Zfx _ hlen _,⟨fun x hx=>by cases hx⟩⟩
  ·exact⟨Zfx _ hlen _,⟨fun x hx=>by cases hx⟩⟩
 refine(Yx (Zt (L:=100) Zg hb (Ze _) 40) rfl rfl rfl hr ?_).1
 simp(disch:=omega) only[rr, tt, et,ha,e1,e2,e4,Ye,Yr,Int.toNat_natCast,Nat.zero_add,Nat.mul_one,ZbQ,U6,JI,QH,hl,v1,v2,ZW,Vo,decide_eq_true,decide_eq_false,Bool.and_self,Bool.true_and,Bool.and_true,Bool.not_true,Bool.not_false,cond_true,and_true,true_and,and_self,Nat.le_refl]
 rfl
def bls (f:Nat→Bool) (m:Nat):List Value:=(List.range m).map fun i => .bool (f i)
def arR (rw:Bool) (zs:List UInt8) (f:Nat→Bool) (N m:Nat):Sy.Heap:=[(66,⟨rw,none,[.slice (some ⟨64,0,none⟩) N (big+64),.slice (some ⟨65,0,none⟩) m (big+65)],none⟩),(65,⟨rw,some (65,1),bls f m,none⟩),(64,⟨rw,some (64,1),u8s zs,none⟩)]
def Zas (N m:Nat):List (Nat×Nat):=[(65,m),(64,N)]
def rwE (a:Nat) (d:List UInt8):List (Nat×Value):=[(0,.pointer (some ⟨66,0,none⟩)),(1,.int .u32 (a:Nat)),(2,.string ⟨⟨d⟩⟩),(6,.bool false)]
def rwI (a:Nat) (d zs:List UInt8) (f:Nat→Bool) (N m:Nat) (k:Nat):Sf:=⟨67,rwE a d++[(7,.int .i64 (k:Nat))],arR true zs f N m,Zas N m⟩
theorem ZnE (p:Int):evF Tryz.prog Zk Zh 100 40 41 [Value.int .i64 p] ⟨64,[],[],0,[(0,false),(1,false)],0,True⟩=some (Value.tuple { toList:=[Value.pointer (some ⟨66,0,none⟩),.int .i64 0] },{ n:=67,h:=[(66,⟨true,none,[Value.slice (some ⟨64,0,none⟩) (i64.wrap (p*(256:Int))).toNat 9223372036854775872,.slice (some ⟨65,0,none⟩) (i64.wrap ((i64.wrap (p*(256:Int))).tdiv (16:Int))).toNat 9223372036854775873],none⟩),(65,⟨true,some (65,1),KP (i64.wrap ((i64.wrap (p*(256:Int))).tdiv (16:Int))).toNat [Value.bool false],none⟩),(64,⟨true,some (64,1),KP (i64.wrap (p*(256:Int))).toNat [Value.int .u8 0],none⟩)],lo:=[(65,(i64.wrap ((i64.wrap (p*(256:Int))).tdiv (16:Int))).toNat),(64,(i64.wrap (p*(256:Int))).toNat)],esc:=0,T:=[],k:=2,O:=bif decide ((0:Int)≤i64.wrap ((i64.wrap (p*(256:Int))).tdiv (16:Int)))&&decide (i64.wrap ((i64.wrap (p*(256:Int))).tdiv (16:Int))≤i64.wrap ((i64.wrap (p*(256:Int))).tdiv (16:Int)))&&decide ((1:Int)*i64.wrap ((i64.wrap (p*(256:Int))).tdiv (16:Int))≤(140737488355328:Int))&&decide (i64.wrap ((i64.wrap (p*(256:Int))).tdiv (16:Int))<(9223372036854775808:Int)) then bif decide ((0:Int)≤i64.wrap (p*(256:Int)))&&decide (i64.wrap (p*(256:Int))≤i64.wrap (p*(256:Int)))&&decide ((1:Int)*i64.wrap (p*(256:Int))≤(140737488355328:Int))&&decide (i64.wrap (p*(256:Int))<(9223372036854775808:Int)) then(True∧decide (p<(16:Int))=false)∧decide (p>(1024:Int))=false else False else False:St }):=by kernel_rfl
theorem Zle (a:Nat) (d:List UInt8) (zs:List UInt8) (f:Nat→Bool) (N:Nat) (m:Nat) (k:Nat):evC Tryz.prog (evF Tryz.prog Zk Zh 100 20) (Zh 89) 42 100 (QC Tryz.prog 89 0) (Sf.frT 42 (rwI a d zs f N m k) [(0,true)])=some (Exit.normal,{ e:=[[Value.pointer (some ⟨66,0,none⟩),.int .u32 (↑a),.string ⟨⟨d⟩⟩,unk,unk,unk,.bool false,.int .i64 (i64.wrap ((↑k:Int)+(1:Int))),unk,unk,unk,unk,unk,unk,.int .i64 (↑k),.string ⟨⟨d⟩⟩],[Value.int .i64 (↑(ZA d)),.bool (decide ((↑k:Int)<(↑(ZA d):Int))),.int .i64 (↑k),.int .i64 (i64.wrap ((↑k:Int)+(1:Int))),.pointer (some ⟨66,0,none⟩),.pointer (some ⟨66,0,none⟩),.pointer (some ⟨66,0,none⟩),.slice (some ⟨64,0,none⟩) N 9223372036854775872,.int .u32 (↑a),.int .i64 (i64.wrap (↑a)),.int .i64 (↑k),.int .i64 (i64.wrap (i64.wrap (↑a)+(↑k:Int))),.string ⟨⟨d⟩⟩,.int .i64 (↑k),.int .u8 (↑(d.getD (↑k:Int).toNat (0:UInt8)).toNat:Int),.pointer (some { block:=64,off:=0+(i64.wrap (i64.wrap (↑a)+(↑k:Int))).toNat*1 })],[Value.pointer (some ⟨66,0,none⟩),.pointer (some ⟨66,0,none⟩),.pointer (some { block:=66,off:=1 }),.slice (some ⟨65,0,none⟩) m 9223372036854775873,.int .u32 (↑a),.int .i64 (i64.wrap (↑a)),.int .i64 (↑k),.int .i64 (i64.wrap (i64.wrap (↑a)+(↑k:Int))),.int .i64 (i64.wrap ((i64.wrap (i64.wrap (↑a)+(↑k:Int))).tdiv (16:Int))),.pointer (some { block:=65,off:=0+(i64.wrap ((i64.wrap (i64.wrap (↑a)+(↑k:Int))).tdiv (16:Int))).toNat*1 }),unk,unk,unk,unk,unk,unk]],s:={ n:=67,h:=[(66,⟨true,none,[Value.slice (some ⟨64,0,none⟩) N 9223372036854775872,.slice (some ⟨65,0,none⟩) m 9223372036854775873],none⟩),(65,⟨true,some (65,1),ZC (0+(i64.wrap ((i64.wrap (i64.wrap (↑a)+(↑k:Int))).tdiv (16:Int))).toNat*1) [Value.bool false] (bls f m),none⟩),(64,⟨true,some (64,1),ZC (0+(i64.wrap (i64.wrap (↑a)+(↑k:Int))).toNat*1) [Value.int .u8 (↑(d.getD (↑k:Int).toNat (0:UInt8)).toNat:Int)] (u8s zs),none⟩)],lo:=[(65,m),(64,N)],esc:=0,T:=[],k:=1,O:=bif ZI (0+(i64.wrap ((i64.wrap (i64.wrap (↑a)+(↑k:Int))).tdiv (16:Int))).toNat*1+1) (bls f m)&&true&&true then bif decide ((0:Int)≤i64.wrap ((i64.wrap (i64.wrap (↑a)+(↑k:Int))).tdiv (16:Int)))&&decide (i64.wrap ((i64.wrap (i64.wrap (↑a)+(↑k:Int))).tdiv (16:Int))<(↑m:Int)) then bif ZI (0+(i64.wrap (i64.wrap (↑a)+(↑k:Int))).toNat*1+1) (u8s zs)&&true&&true then bif decide ((0:Int)≤i64.wrap (i64.wrap (↑a)+(↑k:Int)))&&decide (i64.wrap (i64.wrap (↑a)+(↑k:Int))<(↑N:Int)) then bif decide ((0:Int)≤(↑k:Int))&&decide ((↑k:Int)<(↑(ZA d):Int)) then True∧decide ((↑k:Int)<(↑(ZA d):Int))=true else False else False else False else False else False:St }:Fr }):=by kernel_rfl
theorem Zlf (a:Nat) (d:List UInt8) (zs:List UInt8) (f:Nat→Bool) (N:Nat) (m:Nat) (k:Nat):evC Tryz.prog (evF Tryz.prog Zk Zh 100 20) (Zh 89) 42 100 (QC Tryz.prog 89 0) (Sf.frT 42 (rwI a d zs f N m k) [(0,false)])=some (Exit.exit 0,{ e:=mkE 42 [(0,Value.pointer (some ⟨66,0,none⟩)),(1,.int .u32 (↑a)),(2,.string ⟨⟨d⟩⟩),(6,.bool false),(7,.int .i64 (↑k)),(14,.int .i64 (↑k)),(15,.string ⟨⟨d⟩⟩),(16,Value.int .i64 (↑(ZA d))),(17,.bool (decide ((↑k:Int)<(↑(ZA d):Int))))],s:={ n:=67,h:=[(66,⟨true,none,[Value.slice (some ⟨64,0,none⟩) N 9223372036854775872,.slice (some ⟨65,0,none⟩) m 9223372036854775873],none⟩),(65,⟨true,some (65,1),bls f m,none⟩),(64,⟨true,some (64,1),u8s zs,none⟩)],lo:=[(65,m),(64,N)],esc:=0,T:=[],k:=1,O:=True∧decide ((↑k:Int)<(↑(ZA d):Int))=false:St }:Fr }):=by kernel_rfl
theorem QI (f:Nat→Bool) (m:Nat):∀ v∈bls f m,ZP v=true:=fun v hv=>by
 obtain⟨b,_,rfl⟩:=List.mem_map.1 hv; rfl
theorem Zfy (f:Nat→Bool) (m:Nat):(bls f m).length=m:=by simp[bls]
theorem JR (f:Nat→Bool) (m n:Nat):ZI n (bls f m)=decide (n≤m):=by
 rw[Bool.eq_iff_iff,Yz,Zfy]; simp
theorem Zak (f:Nat→Bool) (m g:Nat) (b:Bool) (h:g<m):ZC g [.bool b] (bls f m)=bls (Qr f g b) m:=by
 apply List.ext_getElem?
 intro j
 rw[YI _ _ _ _ (by simp[Zfy]; omega)]
 simp only[rr, tt, bls,List.getElem?_map,List.length_singleton]
 by_cases hj:g≤j∧j<g+1
 ·have:j=g:=by omega
  subst this
  rw[if_pos hj,List.getElem?_range h]
  simp[Qr]
 ·rw[if_neg hj]
  by_cases hn:j<m
  ·rw[List.getElem?_range hn]
   simp only[rr, tt, Option.map_some,Qr]
   rw[if_neg (by omega)]
  ·rw[List.getElem?_eq_none (by simp; omega)]; rfl
theorem Zbl (a k:Nat) (d zs:List UInt8) (h:a+d.length≤zs.length) (hk:k<d.length):QW (a+k) [d.getD k 0] (QW a (d.take k) zs)=QW a (d.take (k+1)) zs:=by
 have hl1:(d.take k).length=k:=by simp; omega
 have hl2:(d.take (k+1)).length=k+1:=by simp; omega
 have hp:(QW a (d.take k) zs).length=zs.length:=Vj _ _ _ (by omega)
 apply List.ext_getElem?
 intro j
 rw[K7 _ _ _ (by rw[hp]; simp; omega),K7 _ _ _ (by omega),K7 _ _ _ (by omega),hl1,hl2]
 simp only[rr, tt, List.length_singleton]
 by_cases h1:j=a+k
 ·subst h1
  rw[if_pos ⟨by omega,by omega⟩,if_pos ⟨by omega,by omega⟩,show a+k-(a+k)=0 by omega,show a+k-a=k by omega,List.getElem?_take_of_lt (by omega),List.getD_eq_getElem?_getD,List.getElem?_eq_getElem hk]
  rfl
 ·rw[if_neg (by omega)]
  by_cases h2:a≤j∧j<a+k
  ·rw[if_pos h2,if_pos ⟨h2.1,by omega⟩,List.getElem?_take_of_lt (by omega),List.getElem?_take_of_lt (by omega)]
  ·rw[if_neg h2,if_neg (by omega)]
theorem ZcT (a:Nat) (zs:List UInt8):QW a [] zs=zs:=by simp[QW]
structure ArK (zs:List UInt8) (N m:Nat):Prop where
 len:zs.length=N
 tags:N≤16*m
 big:m≤100000
 big2:N≤1000000
theorem Zal {q:Nat→Bool} (h4:q 64=true) (h5:q 65=true) (N m:Nat):∀ v∈([.slice (some ⟨64,0,none⟩) N (big+64),.slice (some ⟨65,0,none⟩) m (big+65)]:List Value),okV q 3 v=true:=by
 intro v hv
 simp only[rr, tt, List.mem_cons,List.not_mem_nil,or_false] at hv
 rcases hv with rfl|rfl<;>simp[okV,Xv,h4,h5,ZP,big]
theorem VN {q:Nat→Bool} (h:∀ l,l<67→q l=true) (rw:Bool) (zs:List UInt8) (f:Nat→Bool) (N m:Nat) {l:Sy.Heap} (hl:OkH q l):OkH q (arR rw zs f N m++l) :=
 ⟨⟨h 66 (by omega),rfl,fun v hv=>Qa 3 v (Zal (h 64 (by omega)) (h 65 (by omega)) N m v hv)⟩,⟨h 65 (by omega),h 65 (by omega),Qf (QI f m)⟩,⟨h 64 (by omega),h 64 (by omega),Qf (Zm zs)⟩,hl⟩
theorem Zfz {q:Nat→Bool} (h:∀ l,l<67→q l=true) (rw:Bool) (zs:List UInt8) (f:Nat→Bool) (N m:Nat):∀ x∈arR rw zs f N m,∀ v∈x.2.cells,okV q 3 v=true:=fun x hx v hv=>by
 simp only[rr, tt, arR,List.mem_cons,List.not_mem_nil,or_false] at hx
 rcases hx with rfl|rfl|rfl
 ·exact Zal (h 64 (by omega)) (h 65 (by omega)) N m v hv
 ·exact Qd (QI f m v hv) 3
 ·exact Qd (Zm zs v hv) 3
theorem ZcU (rw:Bool) (zs:List UInt8) (f:Nat→Bool) (N m:Nat):∀ x∈arR rw zs f N m,x.2.op≠none→∀ v∈x.2.cells,ZP v=true:=fun x hx hne=>by
 simp only[rr, tt, arR,List.mem_cons,List.not_mem_nil,or_false] at hx
 rcases hx with rfl|rfl|rfl
 ·exact absurd rfl hne
 ·exact QI f m
 ·exact Zm zs
theorem Vm {h1:Sy.Heap} {p:Nat→Bool} (hp:∀ l,l<67→p l=true) (zs:List UInt8) (f:Nat→Bool) (N m:Nat) (cs bs:List Value) {l:Sy.Heap} (h66:Sy.look h1 66=some ⟨true,none,[.slice (some ⟨64,0,none⟩) N (big+64),.slice (some ⟨65,0,none⟩) m (big+65)],none⟩) (h65:Sy.look h1 65=some ⟨true,some (65,1),bs,none⟩) (h64:Sy.look h1 64=some ⟨true,some (64,1),cs,none⟩) (hb:bs=bls f m) (hc:cs=u8s zs) (hl:YQ 3 p id h1 l):YQ 3 p id h1 (arR true zs f N m++l):=by
 refine⟨⟨hp 66 (by omega),List.all_eq_true.2 (Zal (hp 64 (by omega)) (hp 65 (by omega)) N m),rfl,?_⟩,⟨hp 65 (by omega),Zn (QI f m),hp 65 (by omega),?_⟩,⟨hp 64 (by omega),Zn (Zm zs),hp 64 (by omega),?_⟩,hl⟩
 ·simp only[rr, tt, id,h66]; exact⟨rfl,rfl,trivial,(Q7 _ rfl _).symm⟩
 ·simp only[rr, tt, id,h65]; exact⟨rfl,rfl,trivial,by rw[Q7 _ rfl,hb]⟩
 ·simp only[rr, tt, id,h64]; exact⟨rfl,rfl,trivial,by rw[Q7 _ rfl,hc]⟩
theorem ltZ (n:Nat):∀ l,l<n→(fun l=>Nat.blt l n) l=true:=fun l hl=>QY hl
theorem Zbm (n:Nat):∀ l,l<n→Yo n n id (fun l=>Nat.blt l n) l=true:=fun l hl=>by
 show(Nat.blt l NG||(bif Nat.blt l n then(Nat.beq l l&&Nat.blt l n) else Nat.blt l n))=true
 rw[QY hl,Nat.beq_refl]
 cases Nat.blt l NG<;>rfl
theorem ZcV {q:Nat→Bool} (a:Nat) (d:List UInt8) (h:q 66=true):∀ x∈rwE a d,okV q 3 x.2=true:=fun x hx=>by
 simp only[rr, tt, rwE,List.mem_cons,List.not_mem_nil,or_false] at hx
 rcases hx with rfl|rfl|rfl|rfl<;>simp[okV,Xv,h,ZP]
def rwF (a:Nat) (d zs:List UInt8) (f:Nat→Bool) (N m:Nat):Sf:=⟨67,rwE a d,arR true zs f N m,Zas N m⟩
def rxS (f:Nat→Bool) (g:Nat):Nat→Nat→Bool
 | 0=>f
 | _+1=>Qr f g false
theorem Zg2 (f:Nat→Bool) (g k:Nat):Qr (rxS f g k) g false=rxS f g (k+1):=by
 cases k
 ·rfl
 ·show Qr (Qr f g false) g false=Qr f g false
  funext i; unfold Qr; split<;>rfl
theorem ZfA (f:Nat→Bool) (g k:Nat) (h:0<k):rxS f g k=Qr f g false:=by
 cases k
 ·omega
 ·rfl
theorem Zi3 (a:Nat) (d zs:List UInt8) (f:Nat→Bool) (N m:Nat) (h:ArK zs N m) (ha:a+d.length≤N) (g:Nat) (hd:0<d.length) (hf:∀ i,i<d.length→(a+i)/16=g) :
  ∀ k:{ k:Nat // k≤d.length },XX Tryz.prog 42 (QC Tryz.prog 89 0) ((rwI a d (QW a (d.take k.1) zs) (rxS f g k.1) N m k.1).fr 42) (.exit 0) ((rwF a d (QW a d zs) (Qr f g false) N m).fr 42):=by
 obtain⟨hl,h1,h2,h3⟩:=h
 refine K5 (L:=100) (Xy _ _ 89) (fun _ h=>h) (X:={ k:Nat // k≤d.length }) (fun k=>rwI a d (QW a (d.take k.1) zs) (rxS f g k.1) N m k.1) (fun _=>rwF a d (QW a d zs) (Qr f g false) N m) (fun _ => .exit 0) (fun k=>d.length-k.1) (fun k => ?_) ?_
 ·exact⟨by show 64≤67; omega,Sf.Ok.mk' 3 (by have:=VN (ltZ 67) true (QW a (d.take k.1) zs) (rxS f g k.1) N m (l:=[]) trivial; rwa [List.append_nil] at this) rfl (fun x hx=>by
   rcases List.mem_append.1 (show x∈rwE a d++[(7,.int .i64 (k.1:Nat))] from hx) with hx|hx
   ·exact ZcV a d rfl x hx
   ·obtain rfl:=List.mem_singleton.1 hx; rfl)⟩
 rintro⟨k,hk⟩
 have hF:(rwF a d (QW a d zs) (Qr f g false) N m).Ok (Yo 67 67 id (fun l=>Nat.blt l 67)) :=
  Sf.Ok.mk' 3 (by have:=VN (Zbm 67) true (QW a d zs) (Qr f g false) N m (l:=[]) trivial; rwa [List.append_nil] at this) rfl (ZcV a d rfl)
 by_cases hlt:k<d.length
 ·have hpl:(QW a (d.take k) zs).length=N:=by rw[Vj _ _ _ (by simp; omega),hl]
  have hr:=Zle a d (QW a (d.take k) zs) (rxS f g k) N m k
  have e1:i64.wrap (i64.wrap (a:Int)+(k:Int))=((a+k:Nat):Int):=by rw[Ye a (by omega),VI,Ye _ (by omega)]
  have e2:i64.wrap (((a+k:Nat):Int).tdiv (16:Int))=(((a+k)/16:Nat):Int):=by rw[Yr,Ye _ (by omega)]
  have e5:i64.wrap ((k:Int)+(1:Int))=((k+1:Nat):Int):=Yj k (by omega)
  simp only[rr, tt, e1,e2,e5,Int.toNat_natCast,Nat.zero_add,Nat.mul_one] at hr
  have hset:ZC (a+k) [Value.int .u8 (((d.getD k 0).toNat:Nat):Int)] (u8s (QW a (d.take k) zs))=u8s (QW a (d.take (k+1)) zs):=by
   rw[← Zbl a k d zs (by omega) hlt]
   exact XK (a+k) [d.getD k 0] _ _ rfl (by rw[hpl]; simp; omega)
  rw[Zak (rxS f g k) m _ false (by omega),hf k hlt,Zg2 f g k,hset] at hr
  have hgk:=hf k hlt
  have hgm:g<m:=by omega
  refine⟨_,_,.normal,_,3,fun l=>Nat.blt l 67,id,Zt (L:=100) Zg (Zf _) (Ze _) 20,hr,?_,.inl ⟨rfl,⟨k+1,by omega⟩,by show d.length-(k+1)<d.length-k; omega,rfl,rfl,?_⟩⟩
  ·simp(disch:=omega) only[rr, tt, JR,QH,hpl,ZR,decide_eq_true,decide_eq_false,Bool.and_self,Bool.and_true,cond_true,and_true,true_and,and_self]
  ·have hs:=Vm (l:=[]) (ltZ 67) (QW a (d.take (k+1)) zs) (rxS f g (k+1)) N m _ _ (h1:=[(66,⟨true,none,[.slice (some ⟨64,0,none⟩) N (big+64),.slice (some ⟨65,0,none⟩) m (big+65)],none⟩),(65,⟨true,some (65,1),bls (rxS f g (k+1)) m,none⟩),(64,⟨true,some (64,1),u8s (QW a (d.take (k+1)) zs),none⟩)]) rfl rfl rfl rfl rfl trivial
   rw[List.append_nil] at hs
   exact⟨fun _ _=>rfl,hs,rfl,⟨⟨rfl,Nat.le_refl _⟩,⟨rfl,Nat.le_refl _⟩,trivial⟩,⟨⟨by kernel_rfl,by kernel_rfl⟩,⟨by kernel_rfl,by kernel_rfl⟩,⟨by kernel_rfl,by kernel_rfl⟩,⟨by kernel_rfl,by kernel_rfl⟩,⟨by kernel_rfl,by kernel_rfl⟩,trivial⟩,Nat.le_refl _,fun l hl=>QZ hl,hF,fun x _ _ => .inl rfl⟩
 ·have hkk:k=d.length:=by omega
  subst hkk
  have hr:=Zlf a d (QW a (d.take d.length) zs) (rxS f g d.length) N m d.length
  rw[List.take_length,ZfA f g _ hd] at hr
  refine⟨_,_,.exit 0,_,3,fun l=>Nat.blt l 67,id,Zt (L:=100) Zg (Zf _) (Ze _) 20,(by rw[List.take_length,ZfA f g _ hd]; exact hr),?_,.inr ⟨by simp,rfl,?_⟩⟩
  ·exact⟨trivial,by rw[ZR]; exact decide_eq_false (by omega)⟩
  ·have hs:=Vm (l:=[]) (ltZ 67) (QW a d zs) (Qr f g false) N m _ _ (h1:=arR true (QW a d zs) (Qr f g false) N m) rfl rfl rfl rfl rfl trivial
   rw[List.append_nil] at hs
   exact⟨fun _ _=>rfl,hs,rfl,⟨⟨rfl,Nat.le_refl _⟩,⟨rfl,Nat.le_refl _⟩,trivial⟩,⟨⟨by kernel_rfl,by kernel_rfl⟩,⟨by kernel_rfl,by kernel_rfl⟩,⟨by kernel_rfl,by kernel_rfl⟩,⟨by kernel_rfl,by kernel_rfl⟩,trivial⟩,Nat.le_refl _,fun l hl=>QZ hl,hF,fun x _ _ => .inl rfl⟩
def ZnF (a:Nat) (d zs:List UInt8) (f:Nat→Bool) (N m:Nat) (h:ArK zs N m) (ha:a+d.length≤N) (g:Nat) (hd:0<d.length) (hf:∀ i,i<d.length→(a+i)/16=g):Ent Tryz.prog :=
 ZjF Tryz.prog 89 0 42 (rwI a d zs f N m 0) (.exit 0) (rwF a d (QW a d zs) (Qr f g false) N m) (by kernel_rfl) (by kernel_rfl) (by
  have:=Zi3 a d zs f N m h ha g hd hf ⟨0,Nat.zero_le _⟩
  rw[List.take_zero,ZcT] at this
  exact this)
theorem ZnG (a:Nat) (d zs:List UInt8) (f:Nat→Bool) (N m:Nat) (h:ArK zs N m) (ha:a+d.length≤N) (g:Nat) (hd:0<d.length) (hf:∀ (i:Nat),i<d.length→(a+i)/16=g):evF Tryz.prog Zk (ZaW [ZnF a d zs f N m h ha g hd hf]) 100 20 89 [Value.pointer (some ⟨66,0,none⟩),.int .u32 (↑a),.string ⟨⟨d⟩⟩] ⟨67,arR true zs f N m,Zas N m,0,(tb 20 524287),0,True⟩=some (Value.bool true,{ n:=67,h:=[(66,⟨true,none,[Value.slice (some ⟨64,0,none⟩) N 9223372036854775872,.slice (some ⟨65,0,none⟩) m 9223372036854775873],none⟩),(65,⟨true,some (65,1),bls (Qr f g false) m,none⟩),(64,⟨true,some (64,1),u8s (QW a d zs),none⟩)],lo:=[(65,m),(64,N),(65,m),(64,N)],esc:=0,T:=[],k:=20,O:=((((((((((((((((((((True∧decide ((↑(ZA d):Int)≥(0:Int))=true)∧decide ((↑(ZA d):Int)≥(0:Int))=true)∧decide ((↑(ZA d):Int)≥(0:Int))=true)∧decide ((↑(ZA d):Int)≥(0:Int))=true)∧decide ((↑(ZA d):Int)≥(0:Int))=true)∧decide ((↑(ZA d):Int)≥(0:Int))=true)∧decide ((↑(ZA d):Int)≥(0:Int))=true)∧decide ((↑(ZA d):Int)≥(0:Int))=true)∧decide ((↑(ZA d):Int)≤(↑N:Int))=true)∧decide ((↑(ZA d):Int)≤(↑N:Int))=true)∧decide ((↑(ZA d):Int)≤(↑N:Int))=true)∧decide ((↑(ZA d):Int)≤(↑N:Int))=true)∧decide ((↑(ZA d):Int)≤(↑N:Int))=true)∧decide ((↑(ZA d):Int)≤(↑N:Int))=true)∧decide ((↑(ZA d):Int)≤(↑N:Int))=true)∧decide ((↑(ZA d):Int)≤(↑N:Int))=true)∧decide ((↑(ZA d):Int)≤(↑N:Int))=true)∧decide ((↑(ZA d):Int)≤(↑N:Int))=true)∧decide ((↑(ZA d):Int)≤(↑N:Int))=true)∧(!decide (i64.wrap (↑a)≤i64.wrap ((↑N:Int)-(↑(ZA d):Int))))=false)∧(rr (Value.pointer (some ⟨66,0,none⟩))∧rr (Value.int .u32 (↑a))∧rr (Value.string ⟨⟨d⟩⟩)∧rr (Value.bool false)∧rr (Value.int .i64 0)∧True)∧((tt∧tt∧True∧rr [Value.slice (some ⟨64,0,none⟩) N 9223372036854775872,.slice (some ⟨65,0,none⟩) m 9223372036854775873])∧(tt∧tt∧True∧rr (bls f m))∧(tt∧tt∧True∧rr (u8s zs))∧True)∧(m≤m∧N≤N∧True)∧True:St }):=by kernel_rfl
theorem ZfB {h1:Sy.Heap} {p:Nat→Bool} (hp:∀ l,l<67→p l=true) (zs:List UInt8) (f:Nat→Bool) (N m:Nat) (cs bs:List Value) (h66:Sy.look h1 66=some ⟨true,none,[.slice (some ⟨64,0,none⟩) N (big+64),.slice (some ⟨65,0,none⟩) m (big+65)],none⟩) (h65:Sy.look h1 65=some ⟨true,some (65,1),bs,none⟩) (h64:Sy.look h1 64=some ⟨true,some (64,1),cs,none⟩) (hb:bs=bls f m) (hc:cs=u8s zs):YQ 3 p id h1 (arR true zs f N m):=by
 have:=Vm (l:=[]) hp zs f N m cs bs h66 h65 h64 hb hc trivial
 rwa [List.append_nil] at this
def JS (args:List Value) (zs zs':List UInt8) (f f':Nat→Bool) (N m:Nat):Con:=⟨args,67,arR true zs f N m,Zas N m,.bool true,67,arR true zs' f' N m,Zas N m⟩
theorem Xx {call:Z1} (hc:Zx Tryz.prog call) {fn:FuncId} {args:List Value} {zs zs':List UInt8} {f f':Nat→Bool} {N m:Nat} {T:List (Nat×Bool)} {s':Sy.St} {cs bs:List Value} (ha:args.all (okV (fun l=>Nat.blt l 67) 3)=true) (hr:call fn args ⟨67,arR true zs f N m,Zas N m,0,T,0,True⟩=some (.bool true,s')) (hO:s'.O)
  (h66:Sy.look s'.h 66=some ⟨true,none,[.slice (some ⟨64,0,none⟩) N (big+64),.slice (some ⟨65,0,none⟩) m (big+65)],none⟩) (h65:Sy.look s'.h 65=some ⟨true,some (65,1),bs,none⟩) (h64:Sy.look s'.h 64=some ⟨true,some (64,1),cs,none⟩) (hb:bs=bls f' m) (hcs:cs=u8s zs') (hlo:UV s'.lo 65 m∧UV s'.lo 64 N) :
  ConOk Tryz.prog fn 3 (JS args zs zs' f f' N m)∧FlatC (JS args zs zs' f f' N m):=by
 have h0:=VN (ltZ 67) true zs f N m (l:=[]) trivial
 have h1:=VN (Zbm 67) true zs' f' N m (l:=[]) trivial
 have h2:=Vm (l:=[]) (ltZ 67) zs' f' N m cs bs h66 h65 h64 hb hcs trivial
 rw[List.append_nil] at h0 h1 h2
 exact⟨ZZ hc ⟨by show 64≤67; omega,Nat.le_refl _,h0,rfl,rfl,rfl,ha,rfl,Zfz (ltZ 67) true _ _ N m⟩ hr hO (p:=fun l=>Nat.blt l 67) (σ:=id) ⟨fun _ _=>rfl,h2,rfl,⟨⟨rfl,hlo.1⟩,⟨rfl,hlo.2⟩,trivial⟩,⟨rfl,rfl⟩,rfl,h1,rfl,Zu _ rfl,fun x _ _ => .inl rfl⟩,⟨ZcU _ _ _ _ _⟩⟩
def newR (p:Nat):Con:=⟨[.int .i64 (p:Nat)],64,[],[],.tuple ⟨[.pointer (some ⟨66,0,none⟩),.int .i64 0]⟩,67,arR true (List.replicate (p*256) 0) (fun _=>false) (p*256) (WG p),Zas (p*256) (WG p)⟩
theorem ZfC (n:Nat):List.replicate n (Value.bool false)=bls (fun _=>false) n:=by
 unfold bls; rw[List.map_const',List.length_range]
theorem Zg3 (p:Nat) (h1:16≤p) (h2:p≤1024):ConOk Tryz.prog 41 3 (newR p)∧FlatC (newR p):=by
 have hr:=ZnE (p:Int)
 have e1:(p:Int)*(256:Int)=((p*256:Nat):Int):=by omega
 have e5:p*256/16=WG p:=rfl
 simp(disch:=omega) only[rr, tt, e1,Ye,Yr,Int.toNat_natCast,U7,ZeS,ZfC,e5] at hr
 have hk:∀ l,l<67→Yo 64 67 id (fun l=>Nat.blt l 67) l=true:=fun l hl=>by
  show(Nat.blt l NG||(bif Nat.blt l 64 then(Nat.beq l l&&Nat.blt l 67) else Nat.blt l 67))=true
  rw[QY hl,Nat.beq_refl]
  cases Nat.blt l NG<;>cases Nat.blt l 64<;>rfl
 have g1:=VN hk true (List.replicate (p*256) 0) (fun _=>false) (p*256) (WG p) (l:=[]) trivial
 rw[List.append_nil] at g1
 refine⟨ZZ (Zt (L:=100) Zg (Zf _) (Ze _) 40) ⟨Nat.le_refl _,by show 64≤67; omega,trivial,rfl,rfl,rfl,rfl,rfl,Zfz (ltZ 67) true _ _ _ _⟩ hr ?_ (p:=fun l=>Nat.blt l 67) (σ:=id) ⟨fun _ _=>rfl,?_,rfl,⟨⟨rfl,Nat.le_refl _⟩,⟨rfl,Nat.le_refl _⟩,trivial⟩,⟨rfl,by rw[XY]; rfl⟩,rfl,g1,rfl,Qa 3 _ rfl,fun x _ _ => .inl rfl⟩,⟨ZcU _ _ _ _ _⟩⟩
 ·have b2:WG p≤100000:=by unfold WG; omega
  simp(disch:=omega) only[rr, tt, decide_eq_true,decide_eq_false,Bool.and_self,Bool.true_and,Bool.and_true,Bool.not_true,Bool.not_false,cond_true,and_true,true_and,and_self]
 ·exact ZfB (ltZ 67) _ _ _ _ _ _ rfl rfl rfl rfl rfl
def rxL (a:Nat) (d zs zs2:List UInt8) (f f2:Nat→Bool) (N m:Nat):Sy.Steps:=[(68,89,JS [.pointer (some ⟨66,0,none⟩),.int .u32 (a:Nat),.string ⟨⟨d⟩⟩] zs zs2 f f2 N m,[64,65,66]),(69,89,JS [.pointer (some ⟨66,0,none⟩),.int .u32 (a:Nat),.string ⟨⟨d⟩⟩] zs zs2 f f2 N m,[64,65,66])]
def rxM (c:Cp) (d:List UInt8) (k:Bool):Sy.Steps:=[(68,95,Con.pure [c.val] (.string ⟨⟨d⟩⟩),[]),(68,96,Con.pure [c.val] (.bool k),[])]
theorem Zlg (c e b t p y r:Int) (v:Bool):obs (evF Tryz.prog Zk Zh 100 20 95 [Value.agg ⟨[.int .u32 c,.int .u8 e,.int .u16 b,.int .u16 t,.int .u16 p,.int .u16 y,.int .u32 r,.bool v]⟩] (stT []))=some (Value.string ⟨⟨[UInt8.ofNat (u8.wrap (c.fdiv (1:Int))).toNat,UInt8.ofNat (u8.wrap (c.fdiv (256:Int))).toNat,UInt8.ofNat (u8.wrap (c.fdiv (65536:Int))).toNat,UInt8.ofNat (u8.wrap (c.fdiv (16777216:Int))).toNat,UInt8.ofNat (u8.wrap ((u32.wrap e).fdiv (1:Int))).toNat,UInt8.ofNat (u8.wrap ((u32.wrap b).fdiv (1:Int))).toNat,UInt8.ofNat (u8.wrap ((u32.wrap b).fdiv (256:Int))).toNat,UInt8.ofNat (u8.wrap ((u32.wrap t).fdiv (1:Int))).toNat,UInt8.ofNat (u8.wrap ((u32.wrap t).fdiv (256:Int))).toNat,UInt8.ofNat (u8.wrap ((u32.wrap p).fdiv (1:Int))).toNat,UInt8.ofNat (u8.wrap ((u32.wrap p).fdiv (256:Int))).toNat,UInt8.ofNat (u8.wrap ((u32.wrap y).fdiv (1:Int))).toNat,UInt8.ofNat (u8.wrap ((u32.wrap y).fdiv (256:Int))).toNat,UInt8.ofNat (u8.wrap (r.fdiv (1:Int))).toNat,UInt8.ofNat (u8.wrap (r.fdiv (256:Int))).toNat,UInt8.ofNat (u8.wrap (r.fdiv (65536:Int))).toNat]⟩⟩,True):=by kernel_rfl
theorem ZnH (a v:Nat) (d zs zs2:List UInt8) (f f2:Nat→Bool) (N m:Nat):evF Tryz.prog (Zz 3 (Zd (rxL a d zs zs2 f f2 N m)) Zk) Zh 100 20 43 [Value.pointer (some ⟨66,0,none⟩),.int .u32 (↑a),.int .i64 1,.int .u32 (↑v)] ⟨67,arR true zs f N m,Zas N m,0,[],0,True⟩=some (Value.bool true,{ n:=68,h:=[(66,⟨true,none,[Value.slice (some ⟨64,0,none⟩) N 9223372036854775872,.slice (some ⟨65,0,none⟩) m 9223372036854775873],none⟩),(65,⟨true,some (65,1),bls f2 m,none⟩),(64,⟨true,some (64,1),u8s zs2,none⟩)],lo:=[(65,m),(64,N),(67,1),(65,m),(64,N)],esc:=0,T:=[],k:=0,O:=True∧True∧(rr (Value.pointer (some ⟨66,0,none⟩))∧rr (Value.int .u32 (↑a))∧Value.string ⟨⟨[UInt8.ofNat (u8.wrap ((↑v:Int).fdiv (1:Int))).toNat]⟩⟩=Value.string ⟨⟨d⟩⟩∧True)∧((tt∧tt∧tt∧tt∧tt∧True∧rr [Value.slice (some ⟨64,0,none⟩) N 9223372036854775872,.slice (some ⟨65,0,none⟩) m 9223372036854775873])∧(tt∧(bls f m).all (okV (fun l=>l.blt 67) 3)=true∧tt∧tt∧tt∧True∧bls f m=List.map (rnV (lift 67 68 [64,65,66]) 3) (bls f m))∧(tt∧(u8s zs).all (okV (fun l=>l.blt 67) 3)=true∧tt∧tt∧tt∧True∧u8s zs=List.map (rnV (lift 67 68 [64,65,66]) 3) (u8s zs))∧True)∧(tt∧m≤m)∧(tt∧N≤N)∧True:St }):=by kernel_rfl
theorem ZnI (a v:Nat) (d zs zs2:List UInt8) (f f2:Nat→Bool) (N m:Nat):evF Tryz.prog (Zz 3 (Zd (rxL a d zs zs2 f f2 N m)) Zk) Zh 100 20 43 [Value.pointer (some ⟨66,0,none⟩),.int .u32 (↑a),.int .i64 2,.int .u32 (↑v)] ⟨67,arR true zs f N m,Zas N m,0,[],0,True⟩=some (Value.bool true,{ n:=68,h:=[(66,⟨true,none,[Value.slice (some ⟨64,0,none⟩) N 9223372036854775872,.slice (some ⟨65,0,none⟩) m 9223372036854775873],none⟩),(65,⟨true,some (65,1),bls f2 m,none⟩),(64,⟨true,some (64,1),u8s zs2,none⟩)],lo:=[(65,m),(64,N),(67,2),(65,m),(64,N)],esc:=0,T:=[],k:=0,O:=True∧True∧(rr (Value.pointer (some ⟨66,0,none⟩))∧rr (Value.int .u32 (↑a))∧Value.string ⟨⟨[UInt8.ofNat (u8.wrap ((↑v:Int).fdiv (1:Int))).toNat,UInt8.ofNat (u8.wrap ((↑v:Int).fdiv (256:Int))).toNat]⟩⟩=Value.string ⟨⟨d⟩⟩∧True)∧((tt∧tt∧tt∧tt∧tt∧True∧rr [Value.slice (some ⟨64,0,none⟩) N 9223372036854775872,.slice (some ⟨65,0,none⟩) m 9223372036854775873])∧(tt∧(bls f m).all (okV (fun l=>l.blt 67) 3)=true∧tt∧tt∧tt∧True∧bls f m=List.map (rnV (lift 67 68 [64,65,66]) 3) (bls f m))∧(tt∧(u8s zs).all (okV (fun l=>l.blt 67) 3)=true∧tt∧tt∧tt∧True∧u8s zs=List.map (rnV (lift 67 68 [64,65,66]) 3) (u8s zs))∧True)∧(tt∧m≤m)∧(tt∧N≤N)∧True:St }):=by kernel_rfl
theorem ZnJ (a v:Nat) (d zs zs2:List UInt8) (f f2:Nat→Bool) (N m:Nat):evF Tryz.prog (Zz 3 (Zd (rxL a d zs zs2 f f2 N m)) Zk) Zh 100 20 43 [Value.pointer (some ⟨66,0,none⟩),.int .u32 (↑a),.int .i64 4,.int .u32 (↑v)] ⟨67,arR true zs f N m,Zas N m,0,[],0,True⟩=some (Value.bool true,{ n:=68,h:=[(66,⟨true,none,[Value.slice (some ⟨64,0,none⟩) N 9223372036854775872,.slice (some ⟨65,0,none⟩) m 9223372036854775873],none⟩),(65,⟨true,some (65,1),bls f2 m,none⟩),(64,⟨true,some (64,1),u8s zs2,none⟩)],lo:=[(65,m),(64,N),(67,4),(65,m),(64,N)],esc:=0,T:=[],k:=0,O:=True∧True∧(rr (Value.pointer (some ⟨66,0,none⟩))∧rr (Value.int .u32 (↑a))∧Value.string ⟨⟨[UInt8.ofNat (u8.wrap ((↑v:Int).fdiv (1:Int))).toNat,UInt8.ofNat (u8.wrap ((↑v:Int).fdiv (256:Int))).toNat,UInt8.ofNat (u8.wrap ((↑v:Int).fdiv (65536:Int))).toNat,UInt8.ofNat (u8.wrap ((↑v:Int).fdiv (16777216:Int))).toNat]⟩⟩=Value.string ⟨⟨d⟩⟩∧True)∧((tt∧tt∧tt∧tt∧tt∧True∧rr [Value.slice (some ⟨64,0,none⟩) N 9223372036854775872,.slice (some ⟨65,0,none⟩) m 9223372036854775873])∧(tt∧(bls f m).all (okV (fun l=>l.blt 67) 3)=true∧tt∧tt∧tt∧True∧bls f m=List.map (rnV (lift 67 68 [64,65,66]) 3) (bls f m))∧(tt∧(u8s zs).all (okV (fun l=>l.blt 67) 3)=true∧tt∧tt∧tt∧True∧u8s zs=List.map (rnV (lift 67 68 [64,65,66]) 3) (u8s zs))∧True)∧(tt∧m≤m)∧(tt∧N≤N)∧True:St }):=by kernel_rfl
theorem Zlh (a:Nat) (x:Cp) (d zs zs2:List UInt8) (f f2:Nat→Bool) (k:Bool) (N m:Nat):evF Tryz.prog (Zz 3 (Zd (rxL a d zs zs2 f f2 N m++rxM x d k)) Zk) Zh 100 20 45 [Value.pointer (some ⟨66,0,none⟩),.int .u32 (↑a),cpV x.C x.E x.B x.T x.P x.Y x.R true] ⟨67,arR true zs f N m,Zas N m,0,(tb 28 239075320),0,True⟩=some (Value.bool true,{ n:=68,h:=[(65,⟨true,some (65,1),ZC (0+(u32.wrap ((↑a:Int).tdiv (16:Int))).toNat*1) [Value.bool k] (bls f2 m),none⟩),(64,⟨true,some (64,1),u8s zs2,none⟩),(66,⟨true,none,[Value.slice (some ⟨64,0,none⟩) N 9223372036854775872,.slice (some ⟨65,0,none⟩) m 9223372036854775873],none⟩)],lo:=[(65,m),(64,N),(65,m),(64,N)],esc:=0,T:=[],k:=28,O:=bif ZI (0+(u32.wrap ((↑a:Int).tdiv (16:Int))).toNat*1+1) (bls f2 m)&&true&&true then bif decide ((0:Int)≤u32.wrap ((↑a:Int).tdiv (16:Int)))&&decide (u32.wrap ((↑a:Int).tdiv (16:Int))<(↑m:Int)) then((((((((((((((((((((((((((((((True∧((↑a:Int).tmod (16:Int) !=(0:Int))=false)∧((↑a:Int).tmod (16:Int) !=(0:Int))=false)∧((↑a:Int).tmod (16:Int) !=(0:Int))=false)∧tt)∧tt)∧tt)∧tt)∧tt)∧tt)∧tt)∧tt)∧decide ((16:Int)≤(↑N:Int))=true)∧decide ((16:Int)≤(↑N:Int))=true)∧decide ((16:Int)≤(↑N:Int))=true)∧decide ((16:Int)≤(↑N:Int))=true)∧decide ((16:Int)≤(↑N:Int))=true)∧decide ((16:Int)≤(↑N:Int))=true)∧decide ((16:Int)≤(↑N:Int))=true)∧decide ((16:Int)≤(↑N:Int))=true)∧decide ((16:Int)≤(↑N:Int))=true)∧decide ((16:Int)≤(↑N:Int))=true)∧decide ((16:Int)≤(↑N:Int))=true)∧((↑a:Int).tmod (16:Int) !=(0:Int))=false)∧((↑a:Int).tmod (16:Int) !=(0:Int))=false)∧(!decide (i64.wrap (↑a)≤i64.wrap ((↑N:Int)-(16:Int))))=false)∧True∧(Value.agg ⟨[.int .u32 (↑x.C),.int .u8 (↑x.E),.int .u16 (↑x.B),.int .u16 (↑x.T),.int .u16 (↑x.P),.int .u16 (↑x.Y),.int .u32 (↑x.R),.bool true]⟩=Value.agg ⟨[.int .u32 (↑x.C),.int .u8 (↑x.E),.int .u16 (↑x.B),.int .u16 (↑x.T),.int .u16 (↑x.P),.int .u16 (↑x.Y),.int .u32 (↑x.R),.bool x.V]⟩∧True)∧True∧True)∧True∧(rr (Value.pointer (some ⟨66,0,none⟩))∧rr (Value.int .u32 (↑a))∧rr (Value.string ⟨⟨d⟩⟩)∧True)∧((tt∧tt∧tt∧tt∧tt∧True∧rr [Value.slice (some ⟨64,0,none⟩) N 9223372036854775872,.slice (some ⟨65,0,none⟩) m 9223372036854775873])∧(tt∧(bls f m).all (okV (fun l=>l.blt 67) 3)=true∧tt∧tt∧tt∧True∧bls f m=List.map (rnV (lift 67 68 [64,65,66]) 3) (bls f m))∧(tt∧(u8s zs).all (okV (fun l=>l.blt 67) 3)=true∧tt∧tt∧tt∧True∧u8s zs=List.map (rnV (lift 67 68 [64,65,66]) 3) (u8s zs))∧True)∧(tt∧m≤m)∧(tt∧N≤N)∧True)∧tt)∧tt)∧True∧(Value.agg ⟨[.int .u32 (↑x.C),.int .u8 (↑x.E),.int .u16 (↑x.B),.int .u16 (↑x.T),.int .u16 (↑x.P),.int .u16 (↑x.Y),.int .u32 (↑x.R),.bool true]⟩=Value.agg ⟨[.int .u32 (↑x.C),.int .u8 (↑x.E),.int .u16 (↑x.B),.int .u16 (↑x.T),.int .u16 (↑x.P),.int .u16 (↑x.Y),.int .u32 (↑x.R),.bool x.V]⟩∧True)∧True∧True)∧true=true else False else False:St }):=by kernel_rfl
theorem Zli (a:Nat) (x:Cp) (d zs zs2:List UInt8) (f f2:Nat→Bool) (k:Bool) (N m:Nat):evF Tryz.prog (Zz 3 (Zd (rxL a d zs zs2 f f2 N m++rxM x d k)) Zk) Zh 100 20 45 [Value.pointer (some ⟨66,0,none⟩),.int .u32 (↑a),cpV x.C x.E x.B x.T x.P x.Y x.R false] ⟨67,arR true zs f N m,Zas N m,0,(tb 28 4194296),0,True⟩=some (Value.bool true,{ n:=68,h:=[(65,⟨true,some (65,1),ZC (0+(u32.wrap ((↑a:Int).tdiv (16:Int))).toNat*1) [Value.bool false] (bls f2 m),none⟩),(64,⟨true,some (64,1),u8s zs2,none⟩),(66,⟨true,none,[Value.slice (some ⟨64,0,none⟩) N 9223372036854775872,.slice (some ⟨65,0,none⟩) m 9223372036854775873],none⟩)],lo:=[(65,m),(64,N),(65,m),(64,N)],esc:=0,T:=[],k:=28,O:=bif ZI (0+(u32.wrap ((↑a:Int).tdiv (16:Int))).toNat*1+1) (bls f2 m)&&true&&true then bif decide ((0:Int)≤u32.wrap ((↑a:Int).tdiv (16:Int)))&&decide (u32.wrap ((↑a:Int).tdiv (16:Int))<(↑m:Int)) then(((((((((((((((((((((((((((((True∧((↑a:Int).tmod (16:Int) !=(0:Int))=false)∧((↑a:Int).tmod (16:Int) !=(0:Int))=false)∧((↑a:Int).tmod (16:Int) !=(0:Int))=false)∧tt)∧tt)∧tt)∧tt)∧tt)∧tt)∧tt)∧tt)∧decide ((16:Int)≤(↑N:Int))=true)∧decide ((16:Int)≤(↑N:Int))=true)∧decide ((16:Int)≤(↑N:Int))=true)∧decide ((16:Int)≤(↑N:Int))=true)∧decide ((16:Int)≤(↑N:Int))=true)∧decide ((16:Int)≤(↑N:Int))=true)∧decide ((16:Int)≤(↑N:Int))=true)∧decide ((16:Int)≤(↑N:Int))=true)∧decide ((16:Int)≤(↑N:Int))=true)∧decide ((16:Int)≤(↑N:Int))=true)∧decide ((16:Int)≤(↑N:Int))=true)∧((↑a:Int).tmod (16:Int) !=(0:Int))=false)∧((↑a:Int).tmod (16:Int) !=(0:Int))=false)∧(!decide (i64.wrap (↑a)≤i64.wrap ((↑N:Int)-(16:Int))))=false)∧True∧(Value.agg ⟨[.int .u32 (↑x.C),.int .u8 (↑x.E),.int .u16 (↑x.B),.int .u16 (↑x.T),.int .u16 (↑x.P),.int .u16 (↑x.Y),.int .u32 (↑x.R),.bool false]⟩=Value.agg ⟨[.int .u32 (↑x.C),.int .u8 (↑x.E),.int .u16 (↑x.B),.int .u16 (↑x.T),.int .u16 (↑x.P),.int .u16 (↑x.Y),.int .u32 (↑x.R),.bool x.V]⟩∧True)∧True∧True)∧True∧(rr (Value.pointer (some ⟨66,0,none⟩))∧rr (Value.int .u32 (↑a))∧rr (Value.string ⟨⟨d⟩⟩)∧True)∧((tt∧tt∧tt∧tt∧tt∧True∧rr [Value.slice (some ⟨64,0,none⟩) N 9223372036854775872,.slice (some ⟨65,0,none⟩) m 9223372036854775873])∧(tt∧(bls f m).all (okV (fun l=>l.blt 67) 3)=true∧tt∧tt∧tt∧True∧bls f m=List.map (rnV (lift 67 68 [64,65,66]) 3) (bls f m))∧(tt∧(u8s zs).all (okV (fun l=>l.blt 67) 3)=true∧tt∧tt∧tt∧True∧u8s zs=List.map (rnV (lift 67 68 [64,65,66]) 3) (u8s zs))∧True)∧(tt∧m≤m)∧(tt∧N≤N)∧True)∧rr false)∧rr false)∧false=false else False else False:St }):=by kernel_rfl
def rxwC (a:Nat) (d zs:List UInt8) (f:Nat→Bool) (g N m:Nat):Con:=JS [.pointer (some ⟨66,0,none⟩),.int .u32 (a:Nat),.string ⟨⟨d⟩⟩] zs (QW a d zs) f (Qr f g false) N m
theorem ZfD (a:Nat) (d zs:List UInt8) (f:Nat→Bool) (N m:Nat) (h:ArK zs N m) (ha:a+d.length≤N) (g:Nat) (hd:0<d.length) (hf:∀ i,i<d.length→(a+i)/16=g):ConOk Tryz.prog 89 3 (rxwC a d zs f g N m)∧FlatC (rxwC a d zs f g N m):=by
 have hr:=ZnG a d zs f N m h ha g hd hf
 have hb:=h.big2
 have e1:i64.wrap ((N:Int)-((d.length:Nat):Int))=((N-d.length:Nat):Int):=by rw[KV _ _ (by omega),Ye _ (by omega)]
 have e2:=Ye a (by omega)
 refine Xx (Zt (L:=100) Zg (Zf _) (Vi _) 20) rfl hr ?_ rfl rfl rfl rfl rfl ⟨Nat.le_refl _,Nat.le_refl _⟩
 simp(disch:=omega) only[rr, tt, ZR,e1,e2,decide_eq_true,decide_eq_false,ge_iff_le,Bool.not_true,and_true,true_and,and_self,Nat.le_refl]
theorem Zg4 (x:Cp) (h:x.Ok):ConOk Tryz.prog 95 3 (Con.pure [x.val] (.string ⟨⟨cbL x.C x.E x.B x.T x.P x.Y x.R⟩⟩)):=by
 obtain⟨c,e,b,t,p,y,r,v⟩:=x
 obtain⟨h1,h2,h3,h4,h5,h6,h7⟩:=h
 simp only at h1 h2 h3 h4 h5 h6 h7
 have hr:=Zlg (c:Int) (e:Int) (b:Int) (t:Int) (p:Int) (y:Int) (r:Int) v
 have fd0:∀ n:Nat,(n:Int).fdiv (1:Int)=((n:Nat):Int):=fun n=>by rw[show(1:Int)=((1:Nat):Int) from rfl,fdA,Nat.div_one]
 have fd1:∀ n:Nat,(n:Int).fdiv (256:Int)=((n/256:Nat):Int):=fun n=>fdA n 256
 have fd2:∀ n:Nat,(n:Int).fdiv (65536:Int)=((n/65536:Nat):Int):=fun n=>fdA n 65536
 have fd3:∀ n:Nat,(n:Int).fdiv (16777216:Int)=((n/16777216:Nat):Int):=fun n=>fdA n 16777216
 simp(disch:=omega) only[rr, tt, fd0,fd1,fd2,fd3,XQ,w8A] at hr
 have d2:∀ n:Nat,n/65536=n/256/256:=fun n=>by omega
 have d3:∀ n:Nat,n/16777216=n/256/256/256:=fun n=>by omega
 simp only[rr, tt, d2,d3,Nat.mod_mod] at hr
 have hl:cbL c e b t p y r=[UInt8.ofNat (c%256),UInt8.ofNat (c/256%256),UInt8.ofNat (c/256/256%256),UInt8.ofNat (c/256/256/256%256),UInt8.ofNat (e%256),UInt8.ofNat (b%256),UInt8.ofNat (b/256%256),UInt8.ofNat (t%256),UInt8.ofNat (t/256%256),UInt8.ofNat (p%256),UInt8.ofNat (p/256%256),UInt8.ofNat (y%256),UInt8.ofNat (y/256%256),UInt8.ofNat (r%256),UInt8.ofNat (r/256%256),UInt8.ofNat (r/256/256%256)]:=by
  simp only[rr, tt, cbL,leW,List.cons_append,List.nil_append,d2]
 rw[hl]
 exact ZK (d:=1) (Zt (L:=100) Zg (Zf _) (Ze _) 20) hr trivial rfl rfl
theorem Zg5 (x:Cp) (h:x.Ok):ConOk Tryz.prog 96 3 (Con.pure [x.val] (.bool (Yd x.E x.B x.T x.P x.Y x.R))) :=
 ZV (d:=1) (Qt Zg (by kernel_rfl)) (Zdv rfl) rfl fun w=>Ul x.C x.E x.B x.T x.P x.Y x.R x.V w h
def rs2C (w a v:Nat) (zs:List UInt8) (f:Nat→Bool) (N m:Nat):Con:=JS [.pointer (some ⟨66,0,none⟩),.int .u32 (a:Nat),.int .i64 (w:Nat),.int .u32 (v:Nat)] zs (QW a (leW w v) zs) f (Qr f (a/16) false) N m
theorem Zi4 (w a v:Nat) (zs:List UInt8) (f:Nat→Bool) (N m:Nat) (h:ArK zs N m) (hw:w=1∨w=2∨w=4) (hv:v<4294967296) (ha:a%w=0) (ha2:a+w≤N):ConOk Tryz.prog 43 3 (rs2C w a v zs f N m)∧FlatC (rs2C w a v zs f N m):=by
 have hb:=h.big2; have ht:=h.tags
 have hwr:=ZfD a (leW w v) zs f N m h (by rw[YS]; exact ha2) (a/16) (by rw[YS]; omega) (fun i hi=>by
  rw[YS] at hi
  rcases hw with rfl|rfl|rfl<;>omega)
 have fd0:∀ n:Nat,(n:Int).fdiv (1:Int)=((n:Nat):Int):=fun n=>by rw[show(1:Int)=((1:Nat):Int) from rfl,fdA,Nat.div_one]
 have fd1:∀ n:Nat,(n:Int).fdiv (256:Int)=((n/256:Nat):Int):=fun n=>fdA n 256
 have fd2:∀ n:Nat,(n:Int).fdiv (65536:Int)=((n/65536:Nat):Int):=fun n=>fdA n 65536
 have fd3:∀ n:Nat,(n:Int).fdiv (16777216:Int)=((n/16777216:Nat):Int):=fun n=>fdA n 16777216
 have d2:v/65536=v/256/256:=by omega
 have d3:v/16777216=v/256/256/256:=by omega
 have f1:∀ (zs:List UInt8) (p:Nat→Bool),(u8s zs).all (okV p 3)=true:=fun zs p=>Zn (Zm _)
 have f2:∀ (zs:List UInt8) (σ:Nat→Nat),(u8s zs).map (rnV σ 3)=u8s zs:=fun zs σ=>Zp (Zm _)
 have f5:∀ (p:Nat→Bool),(bls f m).all (okV p 3)=true:=fun p=>Zn (QI f m)
 have f6:∀ (σ:Nat→Nat),(bls f m).map (rnV σ 3)=bls f m:=fun σ=>Zp (QI f m)
 rcases hw with rfl|rfl|rfl
 ·have hr:=ZnH a v (leW 1 v) zs (QW a (leW 1 v) zs) f (Qr f (a/16) false) N m
  have hl:leW 1 v=[UInt8.ofNat (v%256)]:=rfl
  refine Xx (Zt (L:=100) Zg (Zs (Zj fun x hx => ?_) (Zf _)) (Ze _) 20) rfl hr ?_ rfl rfl rfl rfl rfl ⟨Nat.le_refl _,Nat.le_refl _⟩
  ·simp only[rr, tt, rxL,List.mem_cons,List.not_mem_nil,or_false] at hx
   rcases hx with rfl|rfl<;>exact hwr
  ·simp only[rr, tt, fd0,fd1,fd2,fd3,w8A,d2,d3,← hl,f1,f2,f5,f6,and_true,true_and,and_self,Nat.le_refl]
 ·have hr:=ZnI a v (leW 2 v) zs (QW a (leW 2 v) zs) f (Qr f (a/16) false) N m
  have hl:leW 2 v=[UInt8.ofNat (v%256),UInt8.ofNat (v/256%256)]:=rfl
  refine Xx (Zt (L:=100) Zg (Zs (Zj fun x hx => ?_) (Zf _)) (Ze _) 20) rfl hr ?_ rfl rfl rfl rfl rfl ⟨Nat.le_refl _,Nat.le_refl _⟩
  ·simp only[rr, tt, rxL,List.mem_cons,List.not_mem_nil,or_false] at hx
   rcases hx with rfl|rfl<;>exact hwr
  ·simp only[rr, tt, fd0,fd1,fd2,fd3,w8A,d2,d3,← hl,f1,f2,f5,f6,and_true,true_and,and_self,Nat.le_refl]
 ·have hr:=ZnJ a v (leW 4 v) zs (QW a (leW 4 v) zs) f (Qr f (a/16) false) N m
  have hl:leW 4 v=[UInt8.ofNat (v%256),UInt8.ofNat (v/256%256),UInt8.ofNat (v/256/256%256),UInt8.ofNat (v/256/256/256%256)]:=rfl
  refine Xx (Zt (L:=100) Zg (Zs (Zj fun x hx => ?_) (Zf _)) (Ze _) 20) rfl hr ?_ rfl rfl rfl rfl rfl ⟨Nat.le_refl _,Nat.le_refl _⟩
  ·simp only[rr, tt, rxL,List.mem_cons,List.not_mem_nil,or_false] at hx
   rcases hx with rfl|rfl<;>exact hwr
  ·simp only[rr, tt, fd0,fd1,fd2,fd3,w8A,d2,d3,← hl,f1,f2,f5,f6,and_true,true_and,and_self,Nat.le_refl]
def Cp.bs (x:Cp):List UInt8:=cbL x.C x.E x.B x.T x.P x.Y x.R
def Cp.snd (x:Cp):Bool:=Yd x.E x.B x.T x.P x.Y x.R
def Zg6 (a:Nat) (x:Cp) (zs:List UInt8) (f:Nat→Bool) (N m:Nat):Con:=JS [.pointer (some ⟨66,0,none⟩),.int .u32 (a:Nat),x.val] zs (QW a x.bs zs) f (Qr f (a/16) (x.V&&x.snd)) N m
theorem Zg7 (f:Nat→Bool) (g:Nat) (a b:Bool):Qr (Qr f g a) g b=Qr f g b:=by
 funext i; unfold Qr; split<;>rfl
theorem Zg8 (a:Nat) (x:Cp) (zs:List UInt8) (f:Nat→Bool) (N m:Nat) (h:ArK zs N m) (hx:x.Ok) (ha:a%16=0) (ha2:a+16≤N):ConOk Tryz.prog 45 3 (Zg6 a x zs f N m)∧FlatC (Zg6 a x zs f N m):=by
 have hb:=h.big2; have ht:=h.tags
 have e16:x.bs.length=16:=WH _ _ _ _ _ _ _
 have hwr:=ZfD a x.bs zs f N m h (by rw[e16]; exact ha2) (a/16) (by rw[e16]; omega) (fun i hi=>by rw[e16] at hi; omega)
 have et:(a:Int).tmod (16:Int)=((a%16:Nat):Int):=(Int.ofNat_tmod a 16).symm
 have e1:u32.wrap ((a:Int).tdiv (16:Int))=((a/16:Nat):Int):=by rw[Yr,XQ _ (by omega)]
 have e2:=Ye a (by omega)
 have e3:i64.wrap ((N:Int)-(16:Int))=((N-16:Nat):Int):=by rw[show(N:Int)-(16:Int)=((N-16:Nat):Int) by omega,Ye _ (by omega)]
 have e0:(((0:Nat):Int) !=(0:Int))=false:=rfl
 have f1:∀ (zs:List UInt8) (p:Nat→Bool),(u8s zs).all (okV p 3)=true:=fun zs p=>Zn (Zm _)
 have f2:∀ (zs:List UInt8) (σ:Nat→Nat),(u8s zs).map (rnV σ 3)=u8s zs:=fun zs σ=>Zp (Zm _)
 have f5:∀ (p:Nat→Bool),(bls f m).all (okV p 3)=true:=fun p=>Zn (QI f m)
 have f6:∀ (σ:Nat→Nat),(bls f m).map (rnV σ 3)=bls f m:=fun σ=>Zp (QI f m)
 have hbase:∀ y∈rxL a x.bs zs (QW a x.bs zs) f (Qr f (a/16) false) N m++rxM x x.bs x.snd,ConOk Tryz.prog y.2.1 3 y.2.2.1∧FlatC y.2.2.1:=fun y hy=>by
  simp only[rr, tt, rxL,rxM,List.cons_append,List.nil_append,List.mem_cons,List.not_mem_nil,or_false] at hy
  rcases hy with rfl|rfl|rfl|rfl
  ·exact hwr
  ·exact hwr
  ·exact⟨Zg4 x hx,⟨fun x hx=>by cases hx⟩⟩
  ·exact⟨Zg5 x hx,⟨fun x hx=>by cases hx⟩⟩
 have hset:=fun(k:Bool)=>(Zak (Qr f (a/16) false) m (a/16) k (by omega)).trans (congrArg (fun q=>bls q m) (Zg7 f (a/16) false k))
 cases hv:x.V
 ·have hr:=Zli a x x.bs zs (QW a x.bs zs) f (Qr f (a/16) false) x.snd N m
  simp only[rr, tt, e1,Int.toNat_natCast,Nat.zero_add,Nat.mul_one] at hr
  have ex:x.val=cpV x.C x.E x.B x.T x.P x.Y x.R false:=by unfold Cp.val Cp.cs cpV; rw[hv]
  unfold Zg6
  rw[ex,hv,Bool.false_and]
  refine Xx (Zt (L:=100) Zg (Zs (Zj hbase) (Zf _)) (Ze _) 20) rfl hr ?_ rfl rfl rfl (hset false) rfl ⟨Nat.le_refl _,Nat.le_refl _⟩
  simp(disch:=omega) only[rr, tt, et,ha,e0,e2,e3,hv,JR,f1,f2,f5,f6,decide_eq_true,decide_eq_false,Bool.and_self,Bool.and_true,Bool.not_true,cond_true,and_true,true_and,and_self,Nat.le_refl]
 ·have hr:=Zlh a x x.bs zs (QW a x.bs zs) f (Qr f (a/16) false) x.snd N m
  simp only[rr, tt, e1,Int.toNat_natCast,Nat.zero_add,Nat.mul_one] at hr
  have ex:x.val=cpV x.C x.E x.B x.T x.P x.Y x.R true:=by unfold Cp.val Cp.cs cpV; rw[hv]
  unfold Zg6
  rw[ex,hv,Bool.true_and]
  refine Xx (Zt (L:=100) Zg (Zs (Zj hbase) (Zf _)) (Ze _) 20) rfl hr ?_ rfl rfl rfl (hset x.snd) rfl ⟨Nat.le_refl _,Nat.le_refl _⟩
  simp(disch:=omega) only[rr, tt, et,ha,e0,e2,e3,hv,JR,f1,f2,f5,f6,decide_eq_true,decide_eq_false,Bool.and_self,Bool.and_true,Bool.not_true,cond_true,and_true,true_and,and_self,Nat.le_refl]
namespace Sy
open Go.IntKind (u8 u16 u32 u64 i64)
def inN (t:Nat):List Nat→Bool
 | []=>false
 | x::l=>Nat.beq x t||inN t l
def ZfE (nt:Nat) (ts ls:List Nat) (x:Exit×Fr):Exit×Fr:=(x.1,⟨mkE nt (ts.map fun t=>(t,YU x.2.e t)),⟨x.2.s.n,x.2.s.h.filter fun y=>inN y.1 ls,x.2.s.lo,0,[],0,x.2.s.O⟩⟩)
theorem ZfF {t:Nat}:∀ {l:List Nat},inN t l=true→t∈l
 | x::l,h=>by
  unfold inN at h
  rcases Bool.or_eq_true_iff.1 h with h|h
  ·exact List.mem_cons.2 (.inl (eB h).symm)
  ·exact List.mem_cons.2 (.inr (ZfF h))
theorem Zi5 (nt:Nat) (e:Env) {t:Nat}:∀ {ts:List Nat},t∈ts→YU (mkE nt (ts.map fun t=>(t,YU e t))) t=YU e t:=by
 intro ts ht
 unfold mkE
 rw[Jx]
 cases hf:(ts.map fun t=>(t,YU e t)).find? (fun x=>x.1==t) with
 | none =>
  have:=List.find?_eq_none.1 hf (t,YU e t) (List.mem_map.2 ⟨t,ht,rfl⟩)
  simp at this
 | some x =>
  have h1:=List.mem_of_find?_eq_some hf
  have h2:=List.find?_some hf
  obtain⟨u,_,rfl⟩:=List.mem_map.1 h1
  have h2:u=t:=by simpa using h2
  subst h2
  rfl
theorem ZfG {h:Heap} {ls:List Nat} {g:Nat} {k:Blk} (hk:look (h.filter fun y=>inN y.1 ls) g=some k):look h g=some k:=by
 rw[Z9 (fun l=>inN l ls)] at hk
 split at hk
 ·exact hk
 ·cases hk
theorem YQ.more {d:Nat} {p:Nat→Bool} {σ:Nat→Nat} {h1 h2:Heap} (hh:∀ g k,look h1 g=some k→look h2 g=some k):∀ {l:Heap},YQ d p σ h1 l→YQ d p σ h2 l
 | [],_=>trivial
 | x::l,⟨⟨a,b,c,e⟩,r⟩=>by
  refine⟨⟨a,b,c,?_⟩,YQ.more hh r⟩
  cases hk:look h1 (σ x.1) with
  | none=>rw[hk] at e; exact e.elim
  | some k=>rw[hk] at e; rw[hh _ _ hk]; exact e
theorem Jy.more {d:Nat} {p:Nat→Bool} {σ:Nat→Nat} {e1 e2:Env} {ts:List Nat} (hh:∀ t,t∈ts→YU e1 t=YU e2 t):∀ {l:List (Nat×Value)},(l.all fun x=>inN x.1 ts)=true→Jy d p σ e1 l→Jy d p σ e2 l
 | [],_,_=>trivial
 | x::l,hl,⟨⟨a,b⟩,r⟩=>by
  rw[List.all_cons,Bool.and_eq_true] at hl
  exact⟨⟨a,by rw[← hh _ (ZfF hl.1)]; exact b⟩,Jy.more hh hl.2 r⟩
theorem Sf.Leads.uncut {nt:Nat} {ts ls:List Nat} {d:Nat} {p:Nat→Bool} {σ:Nat→Nat} {f:Sf} {x:Exit×Fr} {m e:Sf} (hm:(m.e.all fun x=>inN x.1 ts)=true) (h:Sf.Leads d p σ f (ZfE nt ts ls x).2 m e):Sf.Leads d p σ f x.2 m e :=
 ⟨h.σ0,h.h.more fun g k hk=>ZfG hk,h.inj,h.lo,h.l.more (ts:=ts) (fun t ht=>Zi5 nt x.2.e ht) hm,h.n,h.pn,h.keep,h.ro⟩
theorem ZcW {P:Program} {lp:Ko} {nt L:Nat} {c:Code} {S:List Code} (hlp:Yu P S lp) (hS:∀ c'∈Xb c,c'∈S) {X:Type} (I F:X→Sf) (ex:X→Exit) (μ:X→Nat) (hI:∀ x,(I x).Wf)
  (hround:∀ x,∃ (call:Z1) (T:List (Nat×Bool)) (ts ls:List Nat) (e:Exit) (g:Fr) (d:Nat) (p:Nat→Bool) (σ:Nat→Nat),Zx P call∧(evC P call lp nt L c ((I x).frT nt T)).map (ZfE nt ts ls)=some (e,g)∧g.s.O ∧
   ((e = .normal∧∃ y,μ y<μ x∧F y=F x∧ex y=ex x∧((I y).e.all fun z=>inN z.1 ts)=true∧Sf.Leads d p σ (I x) g (I y) (F x))∨(e ≠ .normal∧e=ex x∧((F x).e.all fun z=>inN z.1 ts)=true∧Sf.Leads d p σ (I x) g (F x) (F x)))) :
  ∀ x,XX P nt c ((I x).fr nt) (ex x) ((F x).fr nt):=by
 refine K5 (L:=L) hlp hS I F ex μ hI fun x => ?_
 obtain⟨call,T,ts,ls,e,g,d,p,σ,hcall,hev,hO,hc⟩:=hround x
 obtain⟨y,h1,h2⟩:=oM hev
 have e1:e=(ZfE nt ts ls y).1:=by rw[h2]
 have e2:g=(ZfE nt ts ls y).2:=by rw[h2]
 subst e1
 subst e2
 refine⟨call,T,y.1,y.2,d,p,σ,hcall,h1,hO,?_⟩
 rcases hc with⟨a,z,b1,b2,b3,b4,b5⟩|⟨a,b1,b4,b5⟩
 ·exact .inl ⟨a,z,b1,b2,b3,b5.uncut b4⟩
 ·exact .inr ⟨a,b1,b5.uncut b4⟩
end Sy
end Go.Proofs.YtagacmljbgkmoaaGreatDoor
namespace Go.Proofs.YtagacmljbgkmoaaGreatDoor
open Go.IntKind (u8 u16 u32 u64 i64)
open Go.RowKit
open Sy
set_option maxRecDepth 100000
structure Pt where
 a:Nat
 w:Bool
 v:Nat
 c:Cp
def Pt.cs (x:Pt):List Value:=[.int .u16 x.a,.bool x.w,.int .u32 x.v]++x.c.cs
def Z6 (l:List Pt):List Value:=l.flatMap Pt.cs
def arM (rw:Bool) (zs:List UInt8) (f:Nat→Bool) (N m n:Nat):Sy.Heap:=[(68,⟨rw,none,[.pointer (some ⟨67,0,none⟩),.slice (some ⟨65,0,none⟩) N (big+65)],none⟩),(67,⟨rw,none,[.int .i64 (m:Nat),.slice (some ⟨66,0,none⟩) n (big+66)],none⟩),(66,⟨rw,some (66,1),v64 (Za f n),none⟩),(65,⟨rw,some (65,1),u8s zs,none⟩)]
def arN (rw:Bool) (zs:List UInt8) (f:Nat→Bool) (N m:Nat):Sy.Heap:=[(71,⟨rw,none,[.slice (some ⟨69,0,none⟩) N (big+69),.slice (some ⟨70,0,none⟩) m (big+70)],none⟩),(70,⟨rw,some (70,1),bls f m,none⟩),(69,⟨rw,some (69,1),u8s zs,none⟩)]
def Zl8 (N m n:Nat):List (Nat×Nat):=[(66,n),(65,N),(70,m),(69,N)]
def meE:List (Nat×Value):=[(4,.pointer (some ⟨68,0,none⟩)),(6,.pointer (some ⟨71,0,none⟩))]
def meX (n:Nat) (k:Nat):List (Nat×Value):=[(0,.slice (some ⟨64,0,none⟩) n (big+64)),(8,.int .i64 (k:Nat))]
def meI (l:List Pt) (zs:List UInt8) (f:Nat→Bool) (N m n:Nat) (k:Nat):Sf:=⟨72,meE++meX l.length k,arM true zs f N m n++(arN true zs f N m++[(64,⟨false,some (0,0),Z6 l,none⟩)]),Zl8 N m n⟩
def meF (zs:List UInt8) (f:Nat→Bool) (N m n:Nat):Sf:=⟨72,meE,arM true zs f N m n++arN true zs f N m,Zl8 N m n⟩
def meLw (p v:Nat) (zs zs2:List UInt8) (f f2:Nat→Bool) (N m n:Nat):Sy.Steps:=[(73,42,KX [.pointer (some ⟨67,0,none⟩),.int .u32 (p:Nat),.int .i64 4,.int .u32 (v:Nat)] zs zs2 f f2 N m n,[65,66,67,68]),(73,43,JS [.pointer (some ⟨66,0,none⟩),.int .u32 (p:Nat),.int .i64 4,.int .u32 (v:Nat)] zs zs2 f f2 N m,[69,70,71])]
def meLc (p:Nat) (x:Cp) (zs zs2:List UInt8) (f f2:Nat→Bool) (N m n:Nat):Sy.Steps:=[(73,44,KX [.pointer (some ⟨67,0,none⟩),.int .u32 (p:Nat),x.val] zs zs2 f f2 N m n,[65,66,67,68]),(73,45,JS [.pointer (some ⟨66,0,none⟩),.int .u32 (p:Nat),x.val] zs zs2 f f2 N m,[69,70,71])]
theorem me_w (l:List Pt) (zs:List UInt8) (f:Nat→Bool) (N:Nat) (m:Nat) (n:Nat) (k:Nat) (p:Nat) (v:Nat) (zs2:List UInt8) (f2:Nat→Bool):Option.map (ZfE 70 [0,4,6,8] [64,65,66,67,68,69,70,71]) (evC Tryz.prog (evF Tryz.prog (Zz 3 (Zd (meLw p v zs zs2 f f2 N m n)) Zk) Zh 100 20) (Zh 14) 70 100 (QC Tryz.prog 14 0) (Sf.frT 70 (meI l zs f N m n k) (tb 5 31)))=some (Exit.normal,{ e:=mkE 70 [(0,.slice (some ⟨64,0,none⟩) l.length 9223372036854775872),(4,.pointer (some ⟨68,0,none⟩)),(6,.pointer (some ⟨71,0,none⟩)),(8,.int .i64 (i64.wrap ((↑k:Int)+(1:Int))))],s:={ n:=73,h:=[(71,⟨true,none,[Value.slice (some ⟨69,0,none⟩) N 9223372036854775877,.slice (some ⟨70,0,none⟩) m 9223372036854775878],none⟩),(70,⟨true,some (70,1),bls f2 m,none⟩),(69,⟨true,some (69,1),u8s zs2,none⟩),(68,⟨true,none,[Value.pointer (some ⟨67,0,none⟩),.slice (some ⟨65,0,none⟩) N 9223372036854775873],none⟩),(67,⟨true,none,[Value.int .i64 (↑m),.slice (some ⟨66,0,none⟩) n 9223372036854775874],none⟩),(66,⟨true,some (66,1),v64 (Za f2 n),none⟩),(65,⟨true,some (65,1),u8s zs2,none⟩),(64,⟨false,some (0,0),Z6 l,none⟩)],lo:=[(70,m),(69,N),(66,n),(65,N),(66,n),(65,N),(70,m),(69,N)],esc:=0,T:=[],k:=0,O:=(((bif ZI (0+(↑k:Int).toNat*11+11) (Z6 l)&&Zi [Value.int .u16 0,.bool false,.int .u32 0,.int .u32 0,.int .u8 0,.int .u16 0,.int .u16 0,.int .u16 0,.int .u16 0,.int .u32 0,.bool false] (Z6 l) (0+(↑k:Int).toNat*11) then bif decide ((0:Int)≤(↑k:Int))&&decide ((↑k:Int)<(↑l.length:Int)) then(((True∧decide ((↑k:Int)<(↑l.length:Int))=true)∧decide ((↑k:Int)<(↑l.length:Int))=true)∧decide ((↑k:Int)<(↑l.length:Int))=true)∧decide ((↑k:Int)<(100:Int))=true else False else False)∧Zv (Zc undef (Z6 l) (0+(↑k:Int).toNat*11+1))=true)∧True∧(rr (Value.pointer (some ⟨68,0,none⟩))∧Value.int .u32 (u32.wrap ((4:Int)*u32.wrap ((Zb (Zc undef (Z6 l) (0+(↑k:Int).toNat*11))).tmod (1024:Int))))=Value.int .u32 (↑p)∧rr (Value.int .i64 4)∧Value.int .u32 (Zb (Zc undef (Z6 l) (0+(↑k:Int).toNat*11+1+1)))=Value.int .u32 (↑v)∧True)∧((tt∧tt∧tt∧tt∧tt∧True∧rr [Value.pointer (some ⟨67,0,none⟩),.slice (some ⟨65,0,none⟩) N 9223372036854775873])∧(tt∧tt∧tt∧tt∧tt∧True∧rr [Value.int .i64 (↑m),.slice (some ⟨66,0,none⟩) n 9223372036854775874])∧(tt∧(v64 (Za f n)).all (okV (fun l=>l.blt 68) 3)=true∧tt∧tt∧tt∧True∧v64 (Za f n)=List.map (rnV (lift 68 73 [65,66,67,68]) 3) (v64 (Za f n)))∧(tt∧(u8s zs).all (okV (fun l=>l.blt 68) 3)=true∧tt∧tt∧tt∧True∧u8s zs=List.map (rnV (lift 68 73 [65,66,67,68]) 3) (u8s zs))∧True)∧(tt∧n≤n)∧(tt∧N≤N)∧True)∧True∧(rr (Value.pointer (some ⟨71,0,none⟩))∧Value.int .u32 (u32.wrap ((4:Int)*u32.wrap ((Zb (Zc undef (Z6 l) (0+(↑k:Int).toNat*11))).tmod (1024:Int))))=Value.int .u32 (↑p)∧rr (Value.int .i64 4)∧Value.int .u32 (Zb (Zc undef (Z6 l) (0+(↑k:Int).toNat*11+1+1)))=Value.int .u32 (↑v)∧True)∧((tt∧tt∧tt∧tt∧tt∧True∧rr [Value.slice (some ⟨69,0,none⟩) N 9223372036854775877,.slice (some ⟨70,0,none⟩) m 9223372036854775878])∧(tt∧(bls f m).all (okV (fun l=>l.blt 67) 3)=true∧tt∧tt∧tt∧True∧bls f m=List.map (rnV (lift 67 73 [69,70,71]) 3) (bls f m))∧(tt∧(u8s zs).all (okV (fun l=>l.blt 67) 3)=true∧tt∧tt∧tt∧True∧u8s zs=List.map (rnV (lift 67 73 [69,70,71]) 3) (u8s zs))∧True)∧(tt∧m≤m)∧(tt∧N≤N)∧True:St }:Fr }):=by kernel_rfl
theorem me_c (l:List Pt) (zs:List UInt8) (f:Nat→Bool) (N:Nat) (m:Nat) (n:Nat) (k:Nat) (p:Nat) (x:Cp) (zs2:List UInt8) (f2:Nat→Bool):Option.map (ZfE 70 [0,4,6,8] [64,65,66,67,68,69,70,71]) (evC Tryz.prog (evF Tryz.prog (Zz 3 (Zd (meLc p x zs zs2 f f2 N m n)) Zk) Zh 100 20) (Zh 14) 70 100 (QC Tryz.prog 14 0) (Sf.frT 70 (meI l zs f N m n k) (tb 5 15)))=some (Exit.normal,{ e:=mkE 70 [(0,.slice (some ⟨64,0,none⟩) l.length 9223372036854775872),(4,.pointer (some ⟨68,0,none⟩)),(6,.pointer (some ⟨71,0,none⟩)),(8,.int .i64 (i64.wrap ((↑k:Int)+(1:Int))))],s:={ n:=73,h:=[(71,⟨true,none,[Value.slice (some ⟨69,0,none⟩) N 9223372036854775877,.slice (some ⟨70,0,none⟩) m 9223372036854775878],none⟩),(70,⟨true,some (70,1),bls f2 m,none⟩),(69,⟨true,some (69,1),u8s zs2,none⟩),(68,⟨true,none,[Value.pointer (some ⟨67,0,none⟩),.slice (some ⟨65,0,none⟩) N 9223372036854775873],none⟩),(67,⟨true,none,[Value.int .i64 (↑m),.slice (some ⟨66,0,none⟩) n 9223372036854775874],none⟩),(66,⟨true,some (66,1),v64 (Za f2 n),none⟩),(65,⟨true,some (65,1),u8s zs2,none⟩),(64,⟨false,some (0,0),Z6 l,none⟩)],lo:=[(70,m),(69,N),(66,n),(65,N),(66,n),(65,N),(70,m),(69,N)],esc:=0,T:=[],k:=0,O:=(((bif ZI (0+(↑k:Int).toNat*11+11) (Z6 l)&&Zi [Value.int .u16 0,.bool false,.int .u32 0,.int .u32 0,.int .u8 0,.int .u16 0,.int .u16 0,.int .u16 0,.int .u16 0,.int .u32 0,.bool false] (Z6 l) (0+(↑k:Int).toNat*11) then bif decide ((0:Int)≤(↑k:Int))&&decide ((↑k:Int)<(↑l.length:Int)) then(((True∧decide ((↑k:Int)<(↑l.length:Int))=true)∧decide ((↑k:Int)<(↑l.length:Int))=true)∧decide ((↑k:Int)<(↑l.length:Int))=true)∧decide ((↑k:Int)<(100:Int))=true else False else False)∧Zv (Zc undef (Z6 l) (0+(↑k:Int).toNat*11+1))=false)∧True∧(rr (Value.pointer (some ⟨68,0,none⟩))∧Value.int .u32 (u32.wrap ((16:Int)*u32.wrap ((Zb (Zc undef (Z6 l) (0+(↑k:Int).toNat*11))).tmod (256:Int))))=Value.int .u32 (↑p)∧Value.agg ⟨[.int .u32 (Zb (Zc undef (Z6 l) (0+(↑k:Int).toNat*11+1+1+1))),.int .u8 (Zb (Zc undef (Z6 l) (0+(↑k:Int).toNat*11+1+1+1+1))),.int .u16 (Zb (Zc undef (Z6 l) (0+(↑k:Int).toNat*11+1+1+1+1+1))),.int .u16 (Zb (Zc undef (Z6 l) (0+(↑k:Int).toNat*11+1+1+1+1+1+1))),.int .u16 (Zb (Zc undef (Z6 l) (0+(↑k:Int).toNat*11+1+1+1+1+1+1+1))),.int .u16 (Zb (Zc undef (Z6 l) (0+(↑k:Int).toNat*11+1+1+1+1+1+1+1+1))),.int .u32 (Zb (Zc undef (Z6 l) (0+(↑k:Int).toNat*11+1+1+1+1+1+1+1+1+1))),.bool (Zv (Zc undef (Z6 l) (0+(↑k:Int).toNat*11+1+1+1+1+1+1+1+1+1+1)))]⟩=Value.agg ⟨[.int .u32 (↑x.C),.int .u8 (↑x.E),.int .u16 (↑x.B),.int .u16 (↑x.T),.int .u16 (↑x.P),.int .u16 (↑x.Y),.int .u32 (↑x.R),.bool x.V]⟩∧True)∧((tt∧tt∧tt∧tt∧tt∧True∧rr [Value.pointer (some ⟨67,0,none⟩),.slice (some ⟨65,0,none⟩) N 9223372036854775873])∧(tt∧tt∧tt∧tt∧tt∧True∧rr [Value.int .i64 (↑m),.slice (some ⟨66,0,none⟩) n 9223372036854775874])∧(tt∧(v64 (Za f n)).all (okV (fun l=>l.blt 68) 3)=true∧tt∧tt∧tt∧True∧v64 (Za f n)=List.map (rnV (lift 68 73 [65,66,67,68]) 3) (v64 (Za f n)))∧(tt∧(u8s zs).all (okV (fun l=>l.blt 68) 3)=true∧tt∧tt∧tt∧True∧u8s zs=List.map (rnV (lift 68 73 [65,66,67,68]) 3) (u8s zs))∧True)∧(tt∧n≤n)∧(tt∧N≤N)∧True)∧True∧(rr (Value.pointer (some ⟨71,0,none⟩))∧Value.int .u32 (u32.wrap ((16:Int)*u32.wrap ((Zb (Zc undef (Z6 l) (0+(↑k:Int).toNat*11))).tmod (256:Int))))=Value.int .u32 (↑p)∧Value.agg ⟨[.int .u32 (Zb (Zc undef (Z6 l) (0+(↑k:Int).toNat*11+1+1+1))),.int .u8 (Zb (Zc undef (Z6 l) (0+(↑k:Int).toNat*11+1+1+1+1))),.int .u16 (Zb (Zc undef (Z6 l) (0+(↑k:Int).toNat*11+1+1+1+1+1))),.int .u16 (Zb (Zc undef (Z6 l) (0+(↑k:Int).toNat*11+1+1+1+1+1+1))),.int .u16 (Zb (Zc undef (Z6 l) (0+(↑k:Int).toNat*11+1+1+1+1+1+1+1))),.int .u16 (Zb (Zc undef (Z6 l) (0+(↑k:Int).toNat*11+1+1+1+1+1+1+1+1))),.int .u32 (Zb (Zc undef (Z6 l) (0+(↑k:Int).toNat*11+1+1+1+1+1+1+1+1+1))),.bool (Zv (Zc undef (Z6 l) (0+(↑k:Int).toNat*11+1+1+1+1+1+1+1+1+1+1)))]⟩=Value.agg ⟨[.int .u32 (↑x.C),.int .u8 (↑x.E),.int .u16 (↑x.B),.int .u16 (↑x.T),.int .u16 (↑x.P),.int .u16 (↑x.Y),.int .u32 (↑x.R),.bool x.V]⟩∧True)∧((tt∧tt∧tt∧tt∧tt∧True∧rr [Value.slice (some ⟨69,0,none⟩) N 9223372036854775877,.slice (some ⟨70,0,none⟩) m 9223372036854775878])∧(tt∧(bls f m).all (okV (fun l=>l.blt 67) 3)=true∧tt∧tt∧tt∧True∧bls f m=List.map (rnV (lift 67 73 [69,70,71]) 3) (bls f m))∧(tt∧(u8s zs).all (okV (fun l=>l.blt 67) 3)=true∧tt∧tt∧tt∧True∧u8s zs=List.map (rnV (lift 67 73 [69,70,71]) 3) (u8s zs))∧True)∧(tt∧m≤m)∧(tt∧N≤N)∧True:St }:Fr }):=by kernel_rfl
theorem me_e (l:List Pt) (zs:List UInt8) (f:Nat→Bool) (N:Nat) (m:Nat) (n:Nat) (k:Nat):Option.map (ZfE 70 [4,6] [64,65,66,67,68,69,70,71]) (evC Tryz.prog (evF Tryz.prog Zk Zh 100 20) (Zh 14) 70 100 (QC Tryz.prog 14 0) (Sf.frT 70 (meI l zs f N m n k) (tb 4 0)))=some (Exit.exit 0,{ e:=mkE 70 [(4,.pointer (some ⟨68,0,none⟩)),(6,.pointer (some ⟨71,0,none⟩))],s:={ n:=72,h:=[(68,⟨true,none,[Value.pointer (some ⟨67,0,none⟩),.slice (some ⟨65,0,none⟩) N 9223372036854775873],none⟩),(67,⟨true,none,[Value.int .i64 (↑m),.slice (some ⟨66,0,none⟩) n 9223372036854775874],none⟩),(66,⟨true,some (66,1),v64 (Za f n),none⟩),(65,⟨true,some (65,1),u8s zs,none⟩),(71,⟨true,none,[Value.slice (some ⟨69,0,none⟩) N 9223372036854775877,.slice (some ⟨70,0,none⟩) m 9223372036854775878],none⟩),(70,⟨true,some (70,1),bls f m,none⟩),(69,⟨true,some (69,1),u8s zs,none⟩),(64,⟨false,some (0,0),Z6 l,none⟩)],lo:=[(66,n),(65,N),(70,m),(69,N)],esc:=0,T:=[],k:=0,O:=(((True∧decide ((↑k:Int)<(↑l.length:Int))=false)∧decide ((↑k:Int)<(↑l.length:Int))=false)∧decide ((↑k:Int)<(↑l.length:Int))=false)∧false=false:St }:Fr }):=by kernel_rfl
theorem me_h (l:List Pt) (zs:List UInt8) (f:Nat→Bool) (N:Nat) (m:Nat) (n:Nat) (k:Nat):Option.map (ZfE 70 [4,6] [64,65,66,67,68,69,70,71]) (evC Tryz.prog (evF Tryz.prog Zk Zh 100 20) (Zh 14) 70 100 (QC Tryz.prog 14 0) (Sf.frT 70 (meI l zs f N m n k) (tb 4 7)))=some (Exit.exit 0,{ e:=mkE 70 [(4,.pointer (some ⟨68,0,none⟩)),(6,.pointer (some ⟨71,0,none⟩))],s:={ n:=72,h:=[(68,⟨true,none,[Value.pointer (some ⟨67,0,none⟩),.slice (some ⟨65,0,none⟩) N 9223372036854775873],none⟩),(67,⟨true,none,[Value.int .i64 (↑m),.slice (some ⟨66,0,none⟩) n 9223372036854775874],none⟩),(66,⟨true,some (66,1),v64 (Za f n),none⟩),(65,⟨true,some (65,1),u8s zs,none⟩),(71,⟨true,none,[Value.slice (some ⟨69,0,none⟩) N 9223372036854775877,.slice (some ⟨70,0,none⟩) m 9223372036854775878],none⟩),(70,⟨true,some (70,1),bls f m,none⟩),(69,⟨true,some (69,1),u8s zs,none⟩),(64,⟨false,some (0,0),Z6 l,none⟩)],lo:=[(66,n),(65,N),(70,m),(69,N)],esc:=0,T:=[],k:=0,O:=(((True∧decide ((↑k:Int)<(↑l.length:Int))=true)∧decide ((↑k:Int)<(↑l.length:Int))=true)∧decide ((↑k:Int)<(↑l.length:Int))=true)∧decide ((↑k:Int)<(100:Int))=false:St }:Fr }):=by kernel_rfl
end Go.Proofs.YtagacmljbgkmoaaGreatDoor
