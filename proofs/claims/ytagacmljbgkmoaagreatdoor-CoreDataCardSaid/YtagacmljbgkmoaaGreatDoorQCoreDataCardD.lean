/-
  CoreDataCard: part 4 of the proof.
-/
import Derived.Below
import Derived.ChangeOld
import Derived.Deep.Fields
import Derived.Deep.Slices
import Derived.Handed
import Derived.LaidHandle
import Derived.LaidMore
import Derived.Lib.SmallJoins
import Derived.MakeChecks
import Derived.OpenShut
import Derived.ProofKit
import Derived.ShutString
import Derived.Stop.Joined
import Derived.Test.YtagacmljbgkmoaaGreatDoorQCoreDataCardC
import Derived.Test.YtagacmljbgkmoaaGreatDoorRows
import Derived.WalkKit
set_option linter.unusedSimpArgs false
set_option linter.unusedVariables false
set_option linter.unusedSectionVars false
namespace Go.Proofs.YtagacmljbgkmoaaGreatDoor
open Go.IntKind (u8 u16 u32 u64 i64)
open Go.RowKit
open Sy
set_option maxRecDepth 100000
def swL (w:Int) (v:Int) (g m n:Nat) (f:Nat→Bool) (cv:Int):Sy.Steps:=[(68,86,Zl4 w v,[]),(70,158,Zki g m n f cv,[64,65,66,67])]
def snL (g m n:Nat) (f:Nat→Bool) (cv:Int) (c e b t p y r:Nat):Sy.Steps :=
 [(69,92,Zl6 c e b t p y r false,[]),(71,158,Zki g m n f cv,[64,65,66,67]),(71,93,Zl5 g m n (Qr f g false) false,[64,65,66,67])]
theorem Zmq (s:List UInt8) (v:Int):obs (evF Tryz.prog Zk Zh 100 10 86 [Value.string ⟨⟨s⟩⟩,.int .i64 1,.int .u32 v] (stT []))=some (Value.string ⟨⟨s++[UInt8.ofNat (u8.wrap (v.fdiv (1:Int))).toNat]⟩⟩,bif (ZA s+1).blt 9223372036854775808 then True else False):=by kernel_rfl
theorem Zmr (s:List UInt8) (v:Int):obs (evF Tryz.prog Zk Zh 100 10 86 [Value.string ⟨⟨s⟩⟩,.int .i64 2,.int .u32 v] (stT []))=some (Value.string ⟨⟨s++[UInt8.ofNat (u8.wrap (v.fdiv (1:Int))).toNat,UInt8.ofNat (u8.wrap (v.fdiv (256:Int))).toNat]⟩⟩,bif (ZA s+2).blt 9223372036854775808 then True else False):=by kernel_rfl
theorem sw_1 (a g v:Nat) (zs:List UInt8) (f:Nat→Bool) (cv:Int) (N m n:Nat):evF Tryz.prog (Zz 3 (Zd (swL (1:Int) (↑v:Int) g m n f cv)) Zk) Zh 100 40 42 [Value.pointer (some ⟨67,0,none⟩),.int .u32 (↑a),.int .i64 1,.int .u32 (↑v)] ⟨68,arW true zs f N m n,arO N n,0,(tb 32 3758096257),0,True⟩=some (Value.bool true,{ n:=70,h:=[(65,⟨true,some (65,1),v64 (Za (Qr f g false) n),none⟩),(67,⟨true,none,[Value.pointer (some ⟨66,0,none⟩),.slice (some ⟨64,0,none⟩) N 9223372036854775872],none⟩),(66,⟨true,none,[Value.int .i64 (↑m),.slice (some ⟨65,0,none⟩) n 9223372036854775873],none⟩),(64,⟨true,some (64,1),ZC (0+(↑a:Int).toNat*1) (List.take ((ZA (leW 1 (↑v:Int).toNat)).min (N-(↑a:Int).toNat)*1) (List.drop 0 (List.map (fun c=>Value.int .u8 (↑c.toNat)) (leW 1 (↑v:Int).toNat)))) (u8s zs),none⟩)],lo:=[(69,N-(↑a:Int).toNat),(68,ZA (leW 1 (↑v:Int).toNat)),(65,n),(64,N)],esc:=0,T:=[],k:=32,O:=((bif ZI (0+(↑a:Int).toNat*1+ZA (List.take ((ZA (leW 1 (↑v:Int).toNat)).min (N-(↑a:Int).toNat)*1) (List.drop 0 (List.map (fun c=>Value.int .u8 (↑c.toNat)) (leW 1 (↑v:Int).toNat))))) (u8s zs)&&KD (List.take ((ZA (leW 1 (↑v:Int).toNat)).min (N-(↑a:Int).toNat)*1) (List.drop 0 (List.map (fun c=>Value.int .u8 (↑c.toNat)) (leW 1 (↑v:Int).toNat))))&&(List.take ((ZA (leW 1 (↑v:Int).toNat)).min (N-(↑a:Int).toNat)*1) (List.drop 0 (List.map (fun c=>Value.int .u8 (↑c.toNat)) (leW 1 (↑v:Int).toNat)))).all ZP then bif (ZA (List.take ((ZA (leW 1 (↑v:Int).toNat)).min (N-(↑a:Int).toNat)*1) (List.drop 0 (List.map (fun c=>Value.int .u8 (↑c.toNat)) (leW 1 (↑v:Int).toNat))))).beq ((ZA (leW 1 (↑v:Int).toNat)).min (N-(↑a:Int).toNat)*1) then bif ZI (0+(ZA (leW 1 (↑v:Int).toNat)).min (N-(↑a:Int).toNat)*1) (List.map (fun c=>Value.int .u8 (↑c.toNat)) (leW 1 (↑v:Int).toNat)) then(bif decide ((0:Int)≤(↑a:Int))&&decide ((↑a:Int)≤(↑N:Int)) then((((((((((((((((((((((((((((((True∧True∧(Value.string { data:=#[]:ByteArray }=Value.string ⟨⟨[]⟩⟩∧rr (Value.int .i64 1)∧rr (Value.int .u32 (↑v))∧True)∧True∧True)∧(!Zl (leW 1 (↑v:Int).toNat) [])=true)∧rr false)∧rr false)∧rr false)∧rr false)∧rr false)∧rr false)∧tt)∧tt)∧tt)∧decide ((↑(ZA (leW 1 (↑v:Int).toNat)):Int)≥(0:Int))=true)∧decide ((↑(ZA (leW 1 (↑v:Int).toNat)):Int)≥(0:Int))=true)∧decide ((↑(ZA (leW 1 (↑v:Int).toNat)):Int)≥(0:Int))=true)∧decide ((↑(ZA (leW 1 (↑v:Int).toNat)):Int)≥(0:Int))=true)∧decide ((↑(ZA (leW 1 (↑v:Int).toNat)):Int)≥(0:Int))=true)∧decide ((↑(ZA (leW 1 (↑v:Int).toNat)):Int)≥(0:Int))=true)∧decide ((↑(ZA (leW 1 (↑v:Int).toNat)):Int)≥(0:Int))=true)∧decide ((↑(ZA (leW 1 (↑v:Int).toNat)):Int)≥(0:Int))=true)∧decide ((↑(ZA (leW 1 (↑v:Int).toNat)):Int)≤(↑N:Int))=true)∧decide ((↑(ZA (leW 1 (↑v:Int).toNat)):Int)≤(↑N:Int))=true)∧decide ((↑(ZA (leW 1 (↑v:Int).toNat)):Int)≤(↑N:Int))=true)∧decide ((↑(ZA (leW 1 (↑v:Int).toNat)):Int)≤(↑N:Int))=true)∧decide ((↑(ZA (leW 1 (↑v:Int).toNat)):Int)≤(↑N:Int))=true)∧decide ((↑(ZA (leW 1 (↑v:Int).toNat)):Int)≤(↑N:Int))=true)∧decide ((↑(ZA (leW 1 (↑v:Int).toNat)):Int)≤(↑N:Int))=true)∧decide ((↑(ZA (leW 1 (↑v:Int).toNat)):Int)≤(↑N:Int))=true)∧decide ((↑(ZA (leW 1 (↑v:Int).toNat)):Int)≤(↑N:Int))=true)∧decide ((↑(ZA (leW 1 (↑v:Int).toNat)):Int)≤(↑N:Int))=true)∧decide ((↑(ZA (leW 1 (↑v:Int).toNat)):Int)≤(↑N:Int))=true)∧(!decide (i64.wrap (↑a)≤i64.wrap ((↑N:Int)-(↑(ZA (leW 1 (↑v:Int).toNat)):Int))))=false else False)∧(↑a:Int).toNat.blt N=true else False else False else False)∧decide ((↑(ZA (leW 1 (↑v:Int).toNat)):Int)>(0:Int))=true)∧True∧(rr (Value.pointer (some ⟨66,0,none⟩))∧Value.int .i64 (i64.wrap ((i64.wrap (↑a)).tdiv (16:Int)))=Value.int .i64 (↑g)∧Value.int .i64 (i64.wrap (i64.wrap ((i64.wrap (i64.wrap (i64.wrap (↑a)+(↑(ZA (leW 1 (↑v:Int).toNat)):Int))-(1:Int))).tdiv (16:Int))+(1:Int)))=Value.int .i64 (↑(g+1))∧True)∧((tt∧tt∧tt∧tt∧tt∧True∧[Value.int .i64 (↑m),.slice (some ⟨65,0,none⟩) n 9223372036854775873]=[Value.int .i64 (↑m),.slice (some ⟨65,0,none⟩) (Za f n).length 9223372036854775873])∧(tt∧(v64 (Za f n)).all (okV (fun l=>l.blt 68) 3)=true∧tt∧tt∧tt∧True∧v64 (Za f n)=List.map (rnV (lift 68 70 [64,65,66,67]) 3) (v64 (Za f n)))∧True)∧(tt∧n≤n)∧True:St }):=by kernel_rfl
theorem lw_1 (at_:Int) (zs:List UInt8) (f:Nat→Bool) (N m n:Nat):obs (evF Tryz.prog Zk Zh 100 40 30 [Value.pointer (some ⟨67,0,none⟩),.int .u32 at_,.int .i64 1] ⟨68,arW false zs f N m n,arO N n,0,(tb 49 70402835480512),0,True⟩)=some (Value.tuple { toList:=[Value.int .u32 (bits BinOp.or u32 (0:Int) (u32.wrap (Zb (Zc undef (u8s zs) (0+(i64.wrap at_).toNat*1+0))))),.bool true] },bif ZI (0+(i64.wrap at_).toNat*1+0+1) (u8s zs)&&Zi [Value.int .u8 0] (u8s zs) (0+(i64.wrap at_).toNat*1+0) then bif decide ((0:Int)<(↑((i64.wrap (i64.wrap at_+(1:Int))).toNat-(i64.wrap at_).toNat):Int)) then(((bif decide ((0:Int)≤i64.wrap at_)&&decide (i64.wrap at_≤(↑(i64.wrap (i64.wrap at_+(1:Int))).toNat:Int)) then bif decide ((0:Int)≤i64.wrap (i64.wrap at_+(1:Int)))&&decide (i64.wrap (i64.wrap at_+(1:Int))≤(↑(i64.wrap (i64.wrap at_+(1:Int))).toNat:Int)) then bif decide ((0:Int)≤i64.wrap (i64.wrap at_+(1:Int)))&&decide (i64.wrap (i64.wrap at_+(1:Int))≤(↑N:Int)) then(((((((((((((((((((((((((((((((((((((((((((((True∧rr false)∧rr false)∧rr false)∧rr false)∧rr false)∧rr false)∧tt)∧tt)∧tt)∧tt)∧tt)∧tt)∧tt)∧tt)∧tt)∧tt)∧tt)∧decide ((1:Int)≤(↑N:Int))=true)∧decide ((1:Int)≤(↑N:Int))=true)∧decide ((1:Int)≤(↑N:Int))=true)∧decide ((1:Int)≤(↑N:Int))=true)∧decide ((1:Int)≤(↑N:Int))=true)∧decide ((1:Int)≤(↑N:Int))=true)∧decide ((1:Int)≤(↑N:Int))=true)∧decide ((1:Int)≤(↑N:Int))=true)∧decide ((1:Int)≤(↑N:Int))=true)∧decide ((1:Int)≤(↑N:Int))=true)∧decide ((1:Int)≤(↑N:Int))=true)∧(!decide (i64.wrap at_≤i64.wrap ((↑N:Int)-(1:Int))))=false)∧tt)∧tt)∧tt)∧tt)∧tt)∧tt)∧rr false)∧rr false)∧rr false)∧decide (i64.wrap at_<(0:Int))=false)∧decide (i64.wrap at_<(0:Int))=false)∧decide (i64.wrap at_<(0:Int))=false)∧decide (i64.wrap at_<(0:Int))=false)∧decide (i64.wrap at_<(0:Int))=false)∧decide (i64.wrap at_<(0:Int))=false)∧decide (i64.wrap at_<(0:Int))=false)∧decide (i64.wrap at_>i64.wrap ((↑N:Int)-(1:Int)))=false else False else False else False)∧(i64.wrap at_).toNat.blt (i64.wrap (i64.wrap at_+(1:Int))).toNat=true)∧rr false)∧false=false else False else False):=by kernel_rfl
theorem sw_2 (a g v:Nat) (zs:List UInt8) (f:Nat→Bool) (cv:Int) (N m n:Nat):evF Tryz.prog (Zz 3 (Zd (swL (2:Int) (↑v:Int) g m n f cv)) Zk) Zh 100 40 42 [Value.pointer (some ⟨67,0,none⟩),.int .u32 (↑a),.int .i64 2,.int .u32 (↑v)] ⟨68,arW true zs f N m n,arO N n,0,(tb 32 3758096257),0,True⟩=some (Value.bool true,{ n:=70,h:=[(65,⟨true,some (65,1),v64 (Za (Qr f g false) n),none⟩),(67,⟨true,none,[Value.pointer (some ⟨66,0,none⟩),.slice (some ⟨64,0,none⟩) N 9223372036854775872],none⟩),(66,⟨true,none,[Value.int .i64 (↑m),.slice (some ⟨65,0,none⟩) n 9223372036854775873],none⟩),(64,⟨true,some (64,1),ZC (0+(↑a:Int).toNat*1) (List.take ((ZA (leW 2 (↑v:Int).toNat)).min (N-(↑a:Int).toNat)*1) (List.drop 0 (List.map (fun c=>Value.int .u8 (↑c.toNat)) (leW 2 (↑v:Int).toNat)))) (u8s zs),none⟩)],lo:=[(69,N-(↑a:Int).toNat),(68,ZA (leW 2 (↑v:Int).toNat)),(65,n),(64,N)],esc:=0,T:=[],k:=32,O:=((bif ZI (0+(↑a:Int).toNat*1+ZA (List.take ((ZA (leW 2 (↑v:Int).toNat)).min (N-(↑a:Int).toNat)*1) (List.drop 0 (List.map (fun c=>Value.int .u8 (↑c.toNat)) (leW 2 (↑v:Int).toNat))))) (u8s zs)&&KD (List.take ((ZA (leW 2 (↑v:Int).toNat)).min (N-(↑a:Int).toNat)*1) (List.drop 0 (List.map (fun c=>Value.int .u8 (↑c.toNat)) (leW 2 (↑v:Int).toNat))))&&(List.take ((ZA (leW 2 (↑v:Int).toNat)).min (N-(↑a:Int).toNat)*1) (List.drop 0 (List.map (fun c=>Value.int .u8 (↑c.toNat)) (leW 2 (↑v:Int).toNat)))).all ZP then bif (ZA (List.take ((ZA (leW 2 (↑v:Int).toNat)).min (N-(↑a:Int).toNat)*1) (List.drop 0 (List.map (fun c=>Value.int .u8 (↑c.toNat)) (leW 2 (↑v:Int).toNat))))).beq ((ZA (leW 2 (↑v:Int).toNat)).min (N-(↑a:Int).toNat)*1) then bif ZI (0+(ZA (leW 2 (↑v:Int).toNat)).min (N-(↑a:Int).toNat)*1) (List.map (fun c=>Value.int .u8 (↑c.toNat)) (leW 2 (↑v:Int).toNat)) then(bif decide ((0:Int)≤(↑a:Int))&&decide ((↑a:Int)≤(↑N:Int)) then((((((((((((((((((((((((((((((True∧True∧(Value.string { data:=#[]:ByteArray }=Value.string ⟨⟨[]⟩⟩∧rr (Value.int .i64 2)∧rr (Value.int .u32 (↑v))∧True)∧True∧True)∧(!Zl (leW 2 (↑v:Int).toNat) [])=true)∧rr false)∧rr false)∧rr false)∧rr false)∧rr false)∧rr false)∧tt)∧tt)∧tt)∧decide ((↑(ZA (leW 2 (↑v:Int).toNat)):Int)≥(0:Int))=true)∧decide ((↑(ZA (leW 2 (↑v:Int).toNat)):Int)≥(0:Int))=true)∧decide ((↑(ZA (leW 2 (↑v:Int).toNat)):Int)≥(0:Int))=true)∧decide ((↑(ZA (leW 2 (↑v:Int).toNat)):Int)≥(0:Int))=true)∧decide ((↑(ZA (leW 2 (↑v:Int).toNat)):Int)≥(0:Int))=true)∧decide ((↑(ZA (leW 2 (↑v:Int).toNat)):Int)≥(0:Int))=true)∧decide ((↑(ZA (leW 2 (↑v:Int).toNat)):Int)≥(0:Int))=true)∧decide ((↑(ZA (leW 2 (↑v:Int).toNat)):Int)≥(0:Int))=true)∧decide ((↑(ZA (leW 2 (↑v:Int).toNat)):Int)≤(↑N:Int))=true)∧decide ((↑(ZA (leW 2 (↑v:Int).toNat)):Int)≤(↑N:Int))=true)∧decide ((↑(ZA (leW 2 (↑v:Int).toNat)):Int)≤(↑N:Int))=true)∧decide ((↑(ZA (leW 2 (↑v:Int).toNat)):Int)≤(↑N:Int))=true)∧decide ((↑(ZA (leW 2 (↑v:Int).toNat)):Int)≤(↑N:Int))=true)∧decide ((↑(ZA (leW 2 (↑v:Int).toNat)):Int)≤(↑N:Int))=true)∧decide ((↑(ZA (leW 2 (↑v:Int).toNat)):Int)≤(↑N:Int))=true)∧decide ((↑(ZA (leW 2 (↑v:Int).toNat)):Int)≤(↑N:Int))=true)∧decide ((↑(ZA (leW 2 (↑v:Int).toNat)):Int)≤(↑N:Int))=true)∧decide ((↑(ZA (leW 2 (↑v:Int).toNat)):Int)≤(↑N:Int))=true)∧decide ((↑(ZA (leW 2 (↑v:Int).toNat)):Int)≤(↑N:Int))=true)∧(!decide (i64.wrap (↑a)≤i64.wrap ((↑N:Int)-(↑(ZA (leW 2 (↑v:Int).toNat)):Int))))=false else False)∧(↑a:Int).toNat.blt N=true else False else False else False)∧decide ((↑(ZA (leW 2 (↑v:Int).toNat)):Int)>(0:Int))=true)∧True∧(rr (Value.pointer (some ⟨66,0,none⟩))∧Value.int .i64 (i64.wrap ((i64.wrap (↑a)).tdiv (16:Int)))=Value.int .i64 (↑g)∧Value.int .i64 (i64.wrap (i64.wrap ((i64.wrap (i64.wrap (i64.wrap (↑a)+(↑(ZA (leW 2 (↑v:Int).toNat)):Int))-(1:Int))).tdiv (16:Int))+(1:Int)))=Value.int .i64 (↑(g+1))∧True)∧((tt∧tt∧tt∧tt∧tt∧True∧[Value.int .i64 (↑m),.slice (some ⟨65,0,none⟩) n 9223372036854775873]=[Value.int .i64 (↑m),.slice (some ⟨65,0,none⟩) (Za f n).length 9223372036854775873])∧(tt∧(v64 (Za f n)).all (okV (fun l=>l.blt 68) 3)=true∧tt∧tt∧tt∧True∧v64 (Za f n)=List.map (rnV (lift 68 70 [64,65,66,67]) 3) (v64 (Za f n)))∧True)∧(tt∧n≤n)∧True:St }):=by kernel_rfl
theorem lw_2 (at_:Int) (zs:List UInt8) (f:Nat→Bool) (N m n:Nat):obs (evF Tryz.prog Zk Zh 100 40 30 [Value.pointer (some ⟨67,0,none⟩),.int .u32 at_,.int .i64 2] ⟨68,arW false zs f N m n,arO N n,0,(tb 49 351874054094784),0,True⟩)=some (Value.tuple { toList:=[Value.int .u32 (bits BinOp.or u32 (bits BinOp.or u32 (0:Int) (u32.wrap (u32.wrap (Zb (Zc undef (u8s zs) (0+(i64.wrap at_).toNat*1+1)))*(256:Int)))) (u32.wrap (Zb (Zc undef (u8s zs) (0+(i64.wrap at_).toNat*1+0))))),.bool true] },bif ZI (0+(i64.wrap at_).toNat*1+0+1) (u8s zs)&&Zi [Value.int .u8 0] (u8s zs) (0+(i64.wrap at_).toNat*1+0) then bif decide ((0:Int)<(↑((i64.wrap (i64.wrap at_+(2:Int))).toNat-(i64.wrap at_).toNat):Int)) then bif ZI (0+(i64.wrap at_).toNat*1+1+1) (u8s zs)&&Zi [Value.int .u8 0] (u8s zs) (0+(i64.wrap at_).toNat*1+1) then bif decide ((1:Int)<(↑((i64.wrap (i64.wrap at_+(2:Int))).toNat-(i64.wrap at_).toNat):Int)) then(((bif decide ((0:Int)≤i64.wrap at_)&&decide (i64.wrap at_≤(↑(i64.wrap (i64.wrap at_+(2:Int))).toNat:Int)) then bif decide ((0:Int)≤i64.wrap (i64.wrap at_+(2:Int)))&&decide (i64.wrap (i64.wrap at_+(2:Int))≤(↑(i64.wrap (i64.wrap at_+(2:Int))).toNat:Int)) then bif decide ((0:Int)≤i64.wrap (i64.wrap at_+(2:Int)))&&decide (i64.wrap (i64.wrap at_+(2:Int))≤(↑N:Int)) then(((((((((((((((((((((((((((((((((((((((((((((True∧rr false)∧rr false)∧rr false)∧rr false)∧rr false)∧rr false)∧tt)∧tt)∧tt)∧tt)∧tt)∧tt)∧tt)∧tt)∧tt)∧tt)∧tt)∧decide ((2:Int)≤(↑N:Int))=true)∧decide ((2:Int)≤(↑N:Int))=true)∧decide ((2:Int)≤(↑N:Int))=true)∧decide ((2:Int)≤(↑N:Int))=true)∧decide ((2:Int)≤(↑N:Int))=true)∧decide ((2:Int)≤(↑N:Int))=true)∧decide ((2:Int)≤(↑N:Int))=true)∧decide ((2:Int)≤(↑N:Int))=true)∧decide ((2:Int)≤(↑N:Int))=true)∧decide ((2:Int)≤(↑N:Int))=true)∧decide ((2:Int)≤(↑N:Int))=true)∧(!decide (i64.wrap at_≤i64.wrap ((↑N:Int)-(2:Int))))=false)∧rr false)∧rr false)∧rr false)∧tt)∧tt)∧tt)∧rr false)∧rr false)∧rr false)∧decide (i64.wrap at_<(0:Int))=false)∧decide (i64.wrap at_<(0:Int))=false)∧decide (i64.wrap at_<(0:Int))=false)∧decide (i64.wrap at_<(0:Int))=false)∧decide (i64.wrap at_<(0:Int))=false)∧decide (i64.wrap at_<(0:Int))=false)∧decide (i64.wrap at_<(0:Int))=false)∧decide (i64.wrap at_>i64.wrap ((↑N:Int)-(2:Int)))=false else False else False else False)∧(i64.wrap at_).toNat.blt (i64.wrap (i64.wrap at_+(2:Int))).toNat=true)∧rr false)∧true=true else False else False else False else False):=by kernel_rfl
theorem sw_4 (a g v:Nat) (zs:List UInt8) (f:Nat→Bool) (cv:Int) (N m n:Nat):evF Tryz.prog (Zz 3 (Zd (swL (4:Int) (↑v:Int) g m n f cv)) Zk) Zh 100 40 42 [Value.pointer (some ⟨67,0,none⟩),.int .u32 (↑a),.int .i64 4,.int .u32 (↑v)] ⟨68,arW true zs f N m n,arO N n,0,(tb 32 3758096257),0,True⟩=some (Value.bool true,{ n:=70,h:=[(65,⟨true,some (65,1),v64 (Za (Qr f g false) n),none⟩),(67,⟨true,none,[Value.pointer (some ⟨66,0,none⟩),.slice (some ⟨64,0,none⟩) N 9223372036854775872],none⟩),(66,⟨true,none,[Value.int .i64 (↑m),.slice (some ⟨65,0,none⟩) n 9223372036854775873],none⟩),(64,⟨true,some (64,1),ZC (0+(↑a:Int).toNat*1) (List.take ((ZA (leW 4 (↑v:Int).toNat)).min (N-(↑a:Int).toNat)*1) (List.drop 0 (List.map (fun c=>Value.int .u8 (↑c.toNat)) (leW 4 (↑v:Int).toNat)))) (u8s zs),none⟩)],lo:=[(69,N-(↑a:Int).toNat),(68,ZA (leW 4 (↑v:Int).toNat)),(65,n),(64,N)],esc:=0,T:=[],k:=32,O:=((bif ZI (0+(↑a:Int).toNat*1+ZA (List.take ((ZA (leW 4 (↑v:Int).toNat)).min (N-(↑a:Int).toNat)*1) (List.drop 0 (List.map (fun c=>Value.int .u8 (↑c.toNat)) (leW 4 (↑v:Int).toNat))))) (u8s zs)&&KD (List.take ((ZA (leW 4 (↑v:Int).toNat)).min (N-(↑a:Int).toNat)*1) (List.drop 0 (List.map (fun c=>Value.int .u8 (↑c.toNat)) (leW 4 (↑v:Int).toNat))))&&(List.take ((ZA (leW 4 (↑v:Int).toNat)).min (N-(↑a:Int).toNat)*1) (List.drop 0 (List.map (fun c=>Value.int .u8 (↑c.toNat)) (leW 4 (↑v:Int).toNat)))).all ZP then bif (ZA (List.take ((ZA (leW 4 (↑v:Int).toNat)).min (N-(↑a:Int).toNat)*1) (List.drop 0 (List.map (fun c=>Value.int .u8 (↑c.toNat)) (leW 4 (↑v:Int).toNat))))).beq ((ZA (leW 4 (↑v:Int).toNat)).min (N-(↑a:Int).toNat)*1) then bif ZI (0+(ZA (leW 4 (↑v:Int).toNat)).min (N-(↑a:Int).toNat)*1) (List.map (fun c=>Value.int .u8 (↑c.toNat)) (leW 4 (↑v:Int).toNat)) then(bif decide ((0:Int)≤(↑a:Int))&&decide ((↑a:Int)≤(↑N:Int)) then((((((((((((((((((((((((((((((True∧True∧(Value.string { data:=#[]:ByteArray }=Value.string ⟨⟨[]⟩⟩∧rr (Value.int .i64 4)∧rr (Value.int .u32 (↑v))∧True)∧True∧True)∧(!Zl (leW 4 (↑v:Int).toNat) [])=true)∧rr false)∧rr false)∧rr false)∧rr false)∧rr false)∧rr false)∧tt)∧tt)∧tt)∧decide ((↑(ZA (leW 4 (↑v:Int).toNat)):Int)≥(0:Int))=true)∧decide ((↑(ZA (leW 4 (↑v:Int).toNat)):Int)≥(0:Int))=true)∧decide ((↑(ZA (leW 4 (↑v:Int).toNat)):Int)≥(0:Int))=true)∧decide ((↑(ZA (leW 4 (↑v:Int).toNat)):Int)≥(0:Int))=true)∧decide ((↑(ZA (leW 4 (↑v:Int).toNat)):Int)≥(0:Int))=true)∧decide ((↑(ZA (leW 4 (↑v:Int).toNat)):Int)≥(0:Int))=true)∧decide ((↑(ZA (leW 4 (↑v:Int).toNat)):Int)≥(0:Int))=true)∧decide ((↑(ZA (leW 4 (↑v:Int).toNat)):Int)≥(0:Int))=true)∧decide ((↑(ZA (leW 4 (↑v:Int).toNat)):Int)≤(↑N:Int))=true)∧decide ((↑(ZA (leW 4 (↑v:Int).toNat)):Int)≤(↑N:Int))=true)∧decide ((↑(ZA (leW 4 (↑v:Int).toNat)):Int)≤(↑N:Int))=true)∧decide ((↑(ZA (leW 4 (↑v:Int).toNat)):Int)≤(↑N:Int))=true)∧decide ((↑(ZA (leW 4 (↑v:Int).toNat)):Int)≤(↑N:Int))=true)∧decide ((↑(ZA (leW 4 (↑v:Int).toNat)):Int)≤(↑N:Int))=true)∧decide ((↑(ZA (leW 4 (↑v:Int).toNat)):Int)≤(↑N:Int))=true)∧decide ((↑(ZA (leW 4 (↑v:Int).toNat)):Int)≤(↑N:Int))=true)∧decide ((↑(ZA (leW 4 (↑v:Int).toNat)):Int)≤(↑N:Int))=true)∧decide ((↑(ZA (leW 4 (↑v:Int).toNat)):Int)≤(↑N:Int))=true)∧decide ((↑(ZA (leW 4 (↑v:Int).toNat)):Int)≤(↑N:Int))=true)∧(!decide (i64.wrap (↑a)≤i64.wrap ((↑N:Int)-(↑(ZA (leW 4 (↑v:Int).toNat)):Int))))=false else False)∧(↑a:Int).toNat.blt N=true else False else False else False)∧decide ((↑(ZA (leW 4 (↑v:Int).toNat)):Int)>(0:Int))=true)∧True∧(rr (Value.pointer (some ⟨66,0,none⟩))∧Value.int .i64 (i64.wrap ((i64.wrap (↑a)).tdiv (16:Int)))=Value.int .i64 (↑g)∧Value.int .i64 (i64.wrap (i64.wrap ((i64.wrap (i64.wrap (i64.wrap (↑a)+(↑(ZA (leW 4 (↑v:Int).toNat)):Int))-(1:Int))).tdiv (16:Int))+(1:Int)))=Value.int .i64 (↑(g+1))∧True)∧((tt∧tt∧tt∧tt∧tt∧True∧[Value.int .i64 (↑m),.slice (some ⟨65,0,none⟩) n 9223372036854775873]=[Value.int .i64 (↑m),.slice (some ⟨65,0,none⟩) (Za f n).length 9223372036854775873])∧(tt∧(v64 (Za f n)).all (okV (fun l=>l.blt 68) 3)=true∧tt∧tt∧tt∧True∧v64 (Za f n)=List.map (rnV (lift 68 70 [64,65,66,67]) 3) (v64 (Za f n)))∧True)∧(tt∧n≤n)∧True:St }):=by kernel_rfl
theorem lw_4 (at_:Int) (zs:List UInt8) (f:Nat→Bool) (N m n:Nat):obs (evF Tryz.prog Zk Zh 100 40 30 [Value.pointer (some ⟨67,0,none⟩),.int .u32 at_,.int .i64 4] ⟨68,arW false zs f N m n,arO N n,0,(tb 48 211106500968384),0,True⟩)=some (Value.tuple { toList:=[Value.int .u32 (bits BinOp.or u32 (bits BinOp.or u32 (bits BinOp.or u32 (u32.wrap (u32.wrap (Zb (Zc undef (u8s zs) (0+(i64.wrap at_).toNat*1+3)))*(16777216:Int))) (u32.wrap (u32.wrap (Zb (Zc undef (u8s zs) (0+(i64.wrap at_).toNat*1+2)))*(65536:Int)))) (u32.wrap (u32.wrap (Zb (Zc undef (u8s zs) (0+(i64.wrap at_).toNat*1+1)))*(256:Int)))) (u32.wrap (Zb (Zc undef (u8s zs) (0+(i64.wrap at_).toNat*1+0))))),.bool true] },bif ZI (0+(i64.wrap at_).toNat*1+0+1) (u8s zs)&&Zi [Value.int .u8 0] (u8s zs) (0+(i64.wrap at_).toNat*1+0) then bif decide ((0:Int)<(↑((i64.wrap (i64.wrap at_+(4:Int))).toNat-(i64.wrap at_).toNat):Int)) then bif ZI (0+(i64.wrap at_).toNat*1+1+1) (u8s zs)&&Zi [Value.int .u8 0] (u8s zs) (0+(i64.wrap at_).toNat*1+1) then bif decide ((1:Int)<(↑((i64.wrap (i64.wrap at_+(4:Int))).toNat-(i64.wrap at_).toNat):Int)) then bif ZI (0+(i64.wrap at_).toNat*1+2+1) (u8s zs)&&Zi [Value.int .u8 0] (u8s zs) (0+(i64.wrap at_).toNat*1+2) then bif decide ((2:Int)<(↑((i64.wrap (i64.wrap at_+(4:Int))).toNat-(i64.wrap at_).toNat):Int)) then bif ZI (0+(i64.wrap at_).toNat*1+3+1) (u8s zs)&&Zi [Value.int .u8 0] (u8s zs) (0+(i64.wrap at_).toNat*1+3) then bif decide ((3:Int)<(↑((i64.wrap (i64.wrap at_+(4:Int))).toNat-(i64.wrap at_).toNat):Int)) then((bif decide ((0:Int)≤i64.wrap at_)&&decide (i64.wrap at_≤(↑(i64.wrap (i64.wrap at_+(4:Int))).toNat:Int)) then bif decide ((0:Int)≤i64.wrap (i64.wrap at_+(4:Int)))&&decide (i64.wrap (i64.wrap at_+(4:Int))≤(↑(i64.wrap (i64.wrap at_+(4:Int))).toNat:Int)) then bif decide ((0:Int)≤i64.wrap (i64.wrap at_+(4:Int)))&&decide (i64.wrap (i64.wrap at_+(4:Int))≤(↑N:Int)) then(((((((((((((((((((((((((((((((((((((((((((((True∧rr false)∧rr false)∧rr false)∧rr false)∧rr false)∧rr false)∧tt)∧tt)∧tt)∧tt)∧tt)∧tt)∧tt)∧tt)∧tt)∧tt)∧tt)∧decide ((4:Int)≤(↑N:Int))=true)∧decide ((4:Int)≤(↑N:Int))=true)∧decide ((4:Int)≤(↑N:Int))=true)∧decide ((4:Int)≤(↑N:Int))=true)∧decide ((4:Int)≤(↑N:Int))=true)∧decide ((4:Int)≤(↑N:Int))=true)∧decide ((4:Int)≤(↑N:Int))=true)∧decide ((4:Int)≤(↑N:Int))=true)∧decide ((4:Int)≤(↑N:Int))=true)∧decide ((4:Int)≤(↑N:Int))=true)∧decide ((4:Int)≤(↑N:Int))=true)∧(!decide (i64.wrap at_≤i64.wrap ((↑N:Int)-(4:Int))))=false)∧rr false)∧rr false)∧rr false)∧rr false)∧rr false)∧rr false)∧rr false)∧rr false)∧rr false)∧decide (i64.wrap at_<(0:Int))=false)∧decide (i64.wrap at_<(0:Int))=false)∧decide (i64.wrap at_<(0:Int))=false)∧decide (i64.wrap at_<(0:Int))=false)∧decide (i64.wrap at_<(0:Int))=false)∧decide (i64.wrap at_<(0:Int))=false)∧decide (i64.wrap at_<(0:Int))=false)∧decide (i64.wrap at_>i64.wrap ((↑N:Int)-(4:Int)))=false else False else False else False)∧(i64.wrap at_).toNat.blt (i64.wrap (i64.wrap at_+(4:Int))).toNat=true)∧true=true else False else False else False else False else False else False else False else False):=by kernel_rfl
theorem sc_n (a g c e b t p y r:Nat) (zs:List UInt8) (f:Nat→Bool) (cv:Int) (N m n:Nat):evF Tryz.prog (Zz 3 (Zd (snL g m n f cv c e b t p y r)) Zk) Zh 100 40 44 [Value.pointer (some ⟨67,0,none⟩),.int .u32 (↑a),cpV c e b t p y r false] ⟨68,arW true zs f N m n,arO N n,0,(tb 67 16140900519035010567),0,True⟩=some (Value.bool true,{ n:=71,h:=[(65,⟨true,some (65,1),v64 (Za (Qr (Qr f g false) g false) n),none⟩),(66,⟨true,none,[Value.int .i64 (↑m),.slice (some ⟨65,0,none⟩) n 9223372036854775873],none⟩),(64,⟨true,some (64,1),ZC (0+(↑a:Int).toNat*1) (List.take ((ZA (cbL c e b t p y r)).min (N-(↑a:Int).toNat)*1) (List.drop 0 (List.map (fun c=>Value.int .u8 (↑c.toNat)) (cbL c e b t p y r)))) (u8s zs),none⟩),(67,⟨true,none,[Value.pointer (some ⟨66,0,none⟩),.slice (some ⟨64,0,none⟩) N 9223372036854775872],none⟩)],lo:=[(70,N-(↑a:Int).toNat),(69,ZA (cbL c e b t p y r)),(65,n),(64,N)],esc:=0,T:=[],k:=67,O:=((((((bif ZI (0+(↑a:Int).toNat*1+ZA (List.take ((ZA (cbL c e b t p y r)).min (N-(↑a:Int).toNat)*1) (List.drop 0 (List.map (fun c=>Value.int .u8 (↑c.toNat)) (cbL c e b t p y r))))) (u8s zs)&&KD (List.take ((ZA (cbL c e b t p y r)).min (N-(↑a:Int).toNat)*1) (List.drop 0 (List.map (fun c=>Value.int .u8 (↑c.toNat)) (cbL c e b t p y r))))&&(List.take ((ZA (cbL c e b t p y r)).min (N-(↑a:Int).toNat)*1) (List.drop 0 (List.map (fun c=>Value.int .u8 (↑c.toNat)) (cbL c e b t p y r)))).all ZP then bif (ZA (List.take ((ZA (cbL c e b t p y r)).min (N-(↑a:Int).toNat)*1) (List.drop 0 (List.map (fun c=>Value.int .u8 (↑c.toNat)) (cbL c e b t p y r))))).beq ((ZA (cbL c e b t p y r)).min (N-(↑a:Int).toNat)*1) then bif ZI (0+(ZA (cbL c e b t p y r)).min (N-(↑a:Int).toNat)*1) (List.map (fun c=>Value.int .u8 (↑c.toNat)) (cbL c e b t p y r)) then(bif decide ((0:Int)≤(↑a:Int))&&decide ((↑a:Int)≤(↑N:Int)) then((((((((((((((((((((((((((((((((((((((((((((((((((((((((((((((True∧((↑a:Int).tmod (16:Int)==(0:Int))=true)∧((↑a:Int).tmod (16:Int)==(0:Int))=true)∧((↑a:Int).tmod (16:Int)==(0:Int))=true)∧rr false)∧rr false)∧rr false)∧rr false)∧rr false)∧rr false)∧tt)∧tt)∧tt)∧tt)∧tt)∧tt)∧tt)∧tt)∧tt)∧tt)∧tt)∧decide ((16:Int)≤(↑N:Int))=true)∧decide ((16:Int)≤(↑N:Int))=true)∧decide ((16:Int)≤(↑N:Int))=true)∧decide ((16:Int)≤(↑N:Int))=true)∧decide ((16:Int)≤(↑N:Int))=true)∧decide ((16:Int)≤(↑N:Int))=true)∧decide ((16:Int)≤(↑N:Int))=true)∧decide ((16:Int)≤(↑N:Int))=true)∧decide ((16:Int)≤(↑N:Int))=true)∧decide ((16:Int)≤(↑N:Int))=true)∧decide ((16:Int)≤(↑N:Int))=true)∧((↑a:Int).tmod (16:Int)==(0:Int))=true)∧(!decide (i64.wrap (↑a)≤i64.wrap ((↑N:Int)-(16:Int))))=false)∧True∧(rr (Value.agg ⟨[.int .u32 (↑c),.int .u8 (↑e),.int .u16 (↑b),.int .u16 (↑t),.int .u16 (↑p),.int .u16 (↑y),.int .u32 (↑r),.bool false]⟩)∧True)∧True∧True)∧rr false)∧rr false)∧rr false)∧rr false)∧rr false)∧rr false)∧tt)∧tt)∧tt)∧decide ((↑(ZA (cbL c e b t p y r)):Int)≥(0:Int))=true)∧decide ((↑(ZA (cbL c e b t p y r)):Int)≥(0:Int))=true)∧decide ((↑(ZA (cbL c e b t p y r)):Int)≥(0:Int))=true)∧decide ((↑(ZA (cbL c e b t p y r)):Int)≥(0:Int))=true)∧decide ((↑(ZA (cbL c e b t p y r)):Int)≥(0:Int))=true)∧decide ((↑(ZA (cbL c e b t p y r)):Int)≥(0:Int))=true)∧decide ((↑(ZA (cbL c e b t p y r)):Int)≥(0:Int))=true)∧decide ((↑(ZA (cbL c e b t p y r)):Int)≥(0:Int))=true)∧decide ((↑(ZA (cbL c e b t p y r)):Int)≤(↑N:Int))=true)∧decide ((↑(ZA (cbL c e b t p y r)):Int)≤(↑N:Int))=true)∧decide ((↑(ZA (cbL c e b t p y r)):Int)≤(↑N:Int))=true)∧decide ((↑(ZA (cbL c e b t p y r)):Int)≤(↑N:Int))=true)∧decide ((↑(ZA (cbL c e b t p y r)):Int)≤(↑N:Int))=true)∧decide ((↑(ZA (cbL c e b t p y r)):Int)≤(↑N:Int))=true)∧decide ((↑(ZA (cbL c e b t p y r)):Int)≤(↑N:Int))=true)∧decide ((↑(ZA (cbL c e b t p y r)):Int)≤(↑N:Int))=true)∧decide ((↑(ZA (cbL c e b t p y r)):Int)≤(↑N:Int))=true)∧decide ((↑(ZA (cbL c e b t p y r)):Int)≤(↑N:Int))=true)∧decide ((↑(ZA (cbL c e b t p y r)):Int)≤(↑N:Int))=true)∧(!decide (i64.wrap (↑a)≤i64.wrap ((↑N:Int)-(↑(ZA (cbL c e b t p y r)):Int))))=false else False)∧(↑a:Int).toNat.blt N=true else False else False else False)∧decide ((↑(ZA (cbL c e b t p y r)):Int)>(0:Int))=true)∧True∧(rr (Value.pointer (some ⟨66,0,none⟩))∧Value.int .i64 (i64.wrap ((i64.wrap (↑a)).tdiv (16:Int)))=Value.int .i64 (↑g)∧Value.int .i64 (i64.wrap (i64.wrap ((i64.wrap (i64.wrap (i64.wrap (↑a)+(↑(ZA (cbL c e b t p y r)):Int))-(1:Int))).tdiv (16:Int))+(1:Int)))=Value.int .i64 (↑(g+1))∧True)∧((tt∧tt∧tt∧tt∧tt∧True∧[Value.int .i64 (↑m),.slice (some ⟨65,0,none⟩) n 9223372036854775873]=[Value.int .i64 (↑m),.slice (some ⟨65,0,none⟩) (Za f n).length 9223372036854775873])∧(tt∧(v64 (Za f n)).all (okV (fun l=>l.blt 68) 3)=true∧tt∧tt∧tt∧True∧v64 (Za f n)=List.map (rnV (lift 68 71 [64,65,66,67]) 3) (v64 (Za f n)))∧True)∧(tt∧n≤n)∧True)∧rr false)∧rr false)∧rr false)∧True∧(rr (Value.pointer (some ⟨66,0,none⟩))∧Value.int .i64 (i64.wrap ((i64.wrap (↑a)).tdiv (16:Int)))=Value.int .i64 (↑g)∧rr (Value.bool false)∧True)∧((tt∧tt∧tt∧tt∧tt∧True∧[Value.int .i64 (↑m),.slice (some ⟨65,0,none⟩) n 9223372036854775873]=[Value.int .i64 (↑m),.slice (some ⟨65,0,none⟩) (Za (Qr f g false) n).length 9223372036854775873])∧(tt∧(v64 (Za (Qr f g false) n)).all (okV (fun l=>l.blt 68) 3)=true∧tt∧tt∧tt∧True∧v64 (Za (Qr f g false) n)=List.map (rnV (lift 68 71 [64,65,66,67]) 3) (v64 (Za (Qr f g false) n)))∧True)∧(tt∧n≤n)∧True:St }):=by kernel_rfl
structure In where
 op:Int
 a:Int
 b:Int
 c:Int
 m:Int
def In.val (i:In):Value:=.agg ⟨[.int .i64 i.op,.int .i64 i.a,.int .i64 i.b,.int .i64 i.c,.int .i64 i.m]⟩
def wyL (c:Cp) (a w:Int) (need t:Nat) (h:Bool):Sy.Steps:=[(69,35,Con.pure [c.val,.int .u16 (need:Nat)] (.int .i64 (t:Nat)),[]),(70,100,Con.pure [c.val,.agg ⟨[.int .u32 a,.int .u32 w]⟩] (.bool h),[])]
theorem jp_t (c:Cp) (need:Nat):obs (evF Tryz.prog Zk Zh 100 20 35 [c.val,.int .u16 (↑need)] ⟨64,[],[],0,[(0,true)],0,True⟩)=some (Value.int .i64 1,True∧(!c.V)=true):=by kernel_rfl
theorem jp_s (c:Cp) (need:Nat):obs (evF Tryz.prog Zk Zh 100 20 35 [c.val,.int .u16 (↑need)] ⟨64,[],[],0,[(0,false),(1,true)],0,True⟩)=some (Value.int .i64 2,(True∧(!c.V)=false)∧((↑c.Y:Int) !=(0:Int))=true):=by kernel_rfl
theorem jp_p (c:Cp) (need:Nat):obs (evF Tryz.prog Zk Zh 100 20 35 [c.val,.int .u16 (↑need)] ⟨64,[],[],0,[(0,false),(1,false),(2,true)],0,True⟩)=some (Value.int .i64 3,((True∧(!c.V)=false)∧((↑c.Y:Int) !=(0:Int))=false)∧(bits BinOp.and u16 (↑c.P:Int) (↑need:Int) !=(↑need:Int))=true):=by kernel_rfl
theorem jp_o (c:Cp) (need:Nat):obs (evF Tryz.prog Zk Zh 100 20 35 [c.val,.int .u16 (↑need)] ⟨64,[],[],0,[(0,false),(1,false),(2,false)],0,True⟩)=some (Value.int .i64 0,((True∧(!c.V)=false)∧((↑c.Y:Int) !=(0:Int))=false)∧(bits BinOp.and u16 (↑c.P:Int) (↑need:Int) !=(↑need:Int))=false):=by kernel_rfl
theorem wy_j (c:Cp) (a w:Int) (need t:Nat) (h:Bool) (zs:List UInt8) (f:Nat→Bool) (N m n:Nat):obs (evF Tryz.prog (Zz 3 (Zd (wyL c a w need t h)) Zk) Zh 100 20 52 [c.val,.int .u32 a,.int .i64 w,.int .u16 (↑need),.pointer (some ⟨67,0,none⟩)] ⟨68,arW false zs f N m n,arO N n,0,[(0,true)],0,True⟩)=some (Value.int .i64 (↑t),(True∧True∧(rr (Value.agg ⟨[.int .u32 (↑c.C),.int .u8 (↑c.E),.int .u16 (↑c.B),.int .u16 (↑c.T),.int .u16 (↑c.P),.int .u16 (↑c.Y),.int .u32 (↑c.R),.bool c.V]⟩)∧rr (Value.int .u16 (↑need))∧True)∧True∧True)∧((↑t:Int) !=(0:Int))=true):=by kernel_rfl
theorem wy_h (c:Cp) (a w:Int) (need t:Nat) (h:Bool) (zs:List UInt8) (f:Nat→Bool) (N m n:Nat):obs (evF Tryz.prog (Zz 3 (Zd (wyL c a w need t h)) Zk) Zh 100 20 52 [c.val,.int .u32 a,.int .i64 w,.int .u16 (↑need),.pointer (some ⟨67,0,none⟩)] ⟨68,arW false zs f N m n,arO N n,0,(tb 12 4094),0,True⟩)=some (Value.int .i64 4,(((((((((((((True∧True∧(rr (Value.agg ⟨[.int .u32 (↑c.C),.int .u8 (↑c.E),.int .u16 (↑c.B),.int .u16 (↑c.T),.int .u16 (↑c.P),.int .u16 (↑c.Y),.int .u32 (↑c.R),.bool c.V]⟩)∧rr (Value.int .u16 (↑need))∧True)∧True∧True)∧((↑t:Int) !=(0:Int))=false)∧True∧(rr (Value.agg ⟨[.int .u32 (↑c.C),.int .u8 (↑c.E),.int .u16 (↑c.B),.int .u16 (↑c.T),.int .u16 (↑c.P),.int .u16 (↑c.Y),.int .u32 (↑c.R),.bool c.V]⟩)∧Value.agg ⟨[.int .u32 a,.int .u32 (u32.wrap w)]⟩=Value.agg ⟨[.int .u32 a,.int .u32 w]⟩∧True)∧True∧True)∧(!h)=true)∧(!h)=true)∧(!h)=true)∧(!h)=true)∧(!h)=true)∧(!h)=true)∧(!h)=true)∧(!h)=true)∧(!h)=true)∧(!h)=true)∧tt):=by kernel_rfl
theorem wy_z (c:Cp) (a w:Int) (need t:Nat) (h:Bool) (zs:List UInt8) (f:Nat→Bool) (N m n:Nat):obs (evF Tryz.prog (Zz 3 (Zd (wyL c a w need t h)) Zk) Zh 100 20 52 [c.val,.int .u32 a,.int .i64 w,.int .u16 (↑need),.pointer (some ⟨67,0,none⟩)] ⟨68,arW false zs f N m n,arO N n,0,(tb 19 262144),0,True⟩)=some (Value.int .i64 4,((((((((((((((((((((True∧True∧(rr (Value.agg ⟨[.int .u32 (↑c.C),.int .u8 (↑c.E),.int .u16 (↑c.B),.int .u16 (↑c.T),.int .u16 (↑c.P),.int .u16 (↑c.Y),.int .u32 (↑c.R),.bool c.V]⟩)∧rr (Value.int .u16 (↑need))∧True)∧True∧True)∧((↑t:Int) !=(0:Int))=false)∧True∧(rr (Value.agg ⟨[.int .u32 (↑c.C),.int .u8 (↑c.E),.int .u16 (↑c.B),.int .u16 (↑c.T),.int .u16 (↑c.P),.int .u16 (↑c.Y),.int .u32 (↑c.R),.bool c.V]⟩)∧Value.agg ⟨[.int .u32 a,.int .u32 (u32.wrap w)]⟩=Value.agg ⟨[.int .u32 a,.int .u32 w]⟩∧True)∧True∧True)∧(!h)=false)∧(!h)=false)∧(!h)=false)∧(!h)=false)∧(!h)=false)∧(!h)=false)∧(!h)=false)∧rr false)∧rr false)∧rr false)∧rr false)∧rr false)∧rr false)∧rr false)∧(!h)=false)∧(!h)=false)∧(!h)=false)∧decide (u64.wrap (u64.wrap a+u64.wrap w)>u64.wrap (↑N))=true):=by kernel_rfl
theorem wy_a (c:Cp) (a w:Int) (need t:Nat) (h:Bool) (zs:List UInt8) (f:Nat→Bool) (N m n:Nat):obs (evF Tryz.prog (Zz 3 (Zd (wyL c a w need t h)) Zk) Zh 100 20 52 [c.val,.int .u32 a,.int .i64 w,.int .u16 (↑need),.pointer (some ⟨67,0,none⟩)] ⟨68,arW false zs f N m n,arO N n,0,(tb 20 524288),0,True⟩)=some (Value.int .i64 5,(bif !decide (u32.wrap w=(0:Int)) then((((((((((((((((((((True∧True∧(rr (Value.agg ⟨[.int .u32 (↑c.C),.int .u8 (↑c.E),.int .u16 (↑c.B),.int .u16 (↑c.T),.int .u16 (↑c.P),.int .u16 (↑c.Y),.int .u32 (↑c.R),.bool c.V]⟩)∧rr (Value.int .u16 (↑need))∧True)∧True∧True)∧((↑t:Int) !=(0:Int))=false)∧True∧(rr (Value.agg ⟨[.int .u32 (↑c.C),.int .u8 (↑c.E),.int .u16 (↑c.B),.int .u16 (↑c.T),.int .u16 (↑c.P),.int .u16 (↑c.Y),.int .u32 (↑c.R),.bool c.V]⟩)∧Value.agg ⟨[.int .u32 a,.int .u32 (u32.wrap w)]⟩=Value.agg ⟨[.int .u32 a,.int .u32 w]⟩∧True)∧True∧True)∧(!h)=false)∧(!h)=false)∧(!h)=false)∧(!h)=false)∧(!h)=false)∧(!h)=false)∧(!h)=false)∧rr false)∧rr false)∧rr false)∧rr false)∧rr false)∧rr false)∧rr false)∧(!h)=false)∧(!h)=false)∧(!h)=false)∧decide (u64.wrap (u64.wrap a+u64.wrap w)>u64.wrap (↑N))=false else False)∧(a.tmod (u32.wrap w) !=(0:Int))=true):=by kernel_rfl
theorem wy_o (c:Cp) (a w:Int) (need t:Nat) (h:Bool) (zs:List UInt8) (f:Nat→Bool) (N m n:Nat):obs (evF Tryz.prog (Zz 3 (Zd (wyL c a w need t h)) Zk) Zh 100 20 52 [c.val,.int .u32 a,.int .i64 w,.int .u16 (↑need),.pointer (some ⟨67,0,none⟩)] ⟨68,arW false zs f N m n,arO N n,0,(tb 20 0),0,True⟩)=some (Value.int .i64 0,(bif !decide (u32.wrap w=(0:Int)) then((((((((((((((((((((True∧True∧(rr (Value.agg ⟨[.int .u32 (↑c.C),.int .u8 (↑c.E),.int .u16 (↑c.B),.int .u16 (↑c.T),.int .u16 (↑c.P),.int .u16 (↑c.Y),.int .u32 (↑c.R),.bool c.V]⟩)∧rr (Value.int .u16 (↑need))∧True)∧True∧True)∧((↑t:Int) !=(0:Int))=false)∧True∧(rr (Value.agg ⟨[.int .u32 (↑c.C),.int .u8 (↑c.E),.int .u16 (↑c.B),.int .u16 (↑c.T),.int .u16 (↑c.P),.int .u16 (↑c.Y),.int .u32 (↑c.R),.bool c.V]⟩)∧Value.agg ⟨[.int .u32 a,.int .u32 (u32.wrap w)]⟩=Value.agg ⟨[.int .u32 a,.int .u32 w]⟩∧True)∧True∧True)∧(!h)=false)∧(!h)=false)∧(!h)=false)∧(!h)=false)∧(!h)=false)∧(!h)=false)∧(!h)=false)∧rr false)∧rr false)∧rr false)∧rr false)∧rr false)∧rr false)∧rr false)∧(!h)=false)∧(!h)=false)∧(!h)=false)∧decide (u64.wrap (u64.wrap a+u64.wrap w)>u64.wrap (↑N))=false else False)∧(a.tmod (u32.wrap w) !=(0:Int))=false):=by kernel_rfl
theorem fu_a (fr:Nat→Cp) (r:Cp) (k to:Int):obs (evF Tryz.prog (Zz 3 (Zd [(66,71,Con.pure [(fr 16).val,.int .u32 to] r.val,[])]) Zk) Zh 100 20 34 [Q8 fr,.int .i64 k] ⟨64,[],[],0,[],0,True⟩)=some (Value.agg ⟨[.int .u32 (↑r.C),.int .u8 (↑r.E),.int .u16 (↑r.B),.int .u16 (↑r.T),.int .u16 (↑r.P),.int .u16 (↑r.Y),.int .u32 (↑r.R),.bool r.V]⟩,True∧True∧(rr (Value.agg ⟨[.int .u32 (↑(fr 16).C:Int),.int .u8 (↑(fr 16).E:Int),.int .u16 (↑(fr 16).B:Int),.int .u16 (↑(fr 16).T:Int),.int .u16 (↑(fr 16).P:Int),.int .u16 (↑(fr 16).Y:Int),.int .u32 (↑(fr 16).R:Int),.bool (fr 16).V]⟩)∧Value.int .u32 (u32.wrap ((↑(fr 16).C:Int)+u32.wrap ((4:Int)*u32.wrap k)))=Value.int .u32 to∧True)∧True∧True):=by kernel_rfl
theorem nx_a (fr:Nat→Cp) (r:Cp):obs (evF Tryz.prog (Zz 3 (Zd [(66,34,Con.pure [Q8 fr,.int .i64 1] r.val,[])]) Zk) Zh 100 20 26 [Q8 fr] ⟨64,[],[],0,[],0,True⟩)=some (Value.agg { toList:=(frQ fr [Value.int .u32 (↑r.C),.int .u8 (↑r.E),.int .u16 (↑r.B),.int .u16 (↑r.T),.int .u16 (↑r.P),.int .u16 (↑r.Y),.int .u32 (↑r.R),.bool r.V]) },True∧True∧(rr (Value.agg { toList:=(frL fr) })∧rr (Value.int .i64 1)∧True)∧True∧True):=by kernel_rfl
theorem wd_1 (op:Int):obs (evF Tryz.prog Zk Zh 100 20 36 [Value.int .i64 op] ⟨64,[],[],0,[(0,true),(1,true)],0,True⟩)=some (Value.int .i64 1,(True∧(op==(17:Int))=true)∧(op==(17:Int))=true):=by kernel_rfl
theorem wd_2 (op:Int):obs (evF Tryz.prog Zk Zh 100 20 36 [Value.int .i64 op] ⟨64,[],[],0,[(0,false),(1,true)],0,True⟩)=some (Value.int .i64 1,(True∧(op==(17:Int))=false)∧(op==(20:Int))=true):=by kernel_rfl
theorem wd_3 (op:Int):obs (evF Tryz.prog Zk Zh 100 20 36 [Value.int .i64 op] ⟨64,[],[],0,(tb 4 12),0,True⟩)=some (Value.int .i64 2,(((True∧(op==(17:Int))=false)∧(op==(20:Int))=false)∧(op==(18:Int))=true)∧(op==(18:Int))=true):=by kernel_rfl
theorem wd_4 (op:Int):obs (evF Tryz.prog Zk Zh 100 20 36 [Value.int .i64 op] ⟨64,[],[],0,(tb 4 8),0,True⟩)=some (Value.int .i64 2,(((True∧(op==(17:Int))=false)∧(op==(20:Int))=false)∧(op==(18:Int))=false)∧(op==(21:Int))=true):=by kernel_rfl
theorem wd_5 (op:Int):obs (evF Tryz.prog Zk Zh 100 20 36 [Value.int .i64 op] ⟨64,[],[],0,(tb 6 48),0,True⟩)=some (Value.int .i64 4,(((((True∧(op==(17:Int))=false)∧(op==(20:Int))=false)∧(op==(18:Int))=false)∧(op==(21:Int))=false)∧(op==(19:Int))=true)∧(op==(19:Int))=true):=by kernel_rfl
theorem wd_6 (op:Int):obs (evF Tryz.prog Zk Zh 100 20 36 [Value.int .i64 op] ⟨64,[],[],0,(tb 6 32),0,True⟩)=some (Value.int .i64 4,(((((True∧(op==(17:Int))=false)∧(op==(20:Int))=false)∧(op==(18:Int))=false)∧(op==(21:Int))=false)∧(op==(19:Int))=false)∧(op==(22:Int))=true):=by kernel_rfl
theorem wd_7 (op:Int):obs (evF Tryz.prog Zk Zh 100 20 36 [Value.int .i64 op] ⟨64,[],[],0,(tb 8 192),0,True⟩)=some (Value.int .i64 16,(((((((True∧(op==(17:Int))=false)∧(op==(20:Int))=false)∧(op==(18:Int))=false)∧(op==(21:Int))=false)∧(op==(19:Int))=false)∧(op==(22:Int))=false)∧(op==(23:Int))=true)∧(op==(23:Int))=true):=by kernel_rfl
theorem wd_8 (op:Int):obs (evF Tryz.prog Zk Zh 100 20 36 [Value.int .i64 op] ⟨64,[],[],0,(tb 8 128),0,True⟩)=some (Value.int .i64 16,(((((((True∧(op==(17:Int))=false)∧(op==(20:Int))=false)∧(op==(18:Int))=false)∧(op==(21:Int))=false)∧(op==(19:Int))=false)∧(op==(22:Int))=false)∧(op==(23:Int))=false)∧(op==(24:Int))=true):=by kernel_rfl
theorem wd_n (op:Int):obs (evF Tryz.prog Zk Zh 100 20 36 [Value.int .i64 op] ⟨64,[],[],0,(tb 8 0),0,True⟩)=some (Value.int .i64 0,(((((((True∧(op==(17:Int))=false)∧(op==(20:Int))=false)∧(op==(18:Int))=false)∧(op==(21:Int))=false)∧(op==(19:Int))=false)∧(op==(22:Int))=false)∧(op==(23:Int))=false)∧(op==(24:Int))=false):=by kernel_rfl
theorem Zaf (w v:Nat) (hw:w=1∨w=2∨w=4) (hv:v<4294967296):ConOk Tryz.prog 86 3 (Zl4 (w:Int) (v:Int)):=by
 have m1:=XQ (v/256) (by omega)
 have fd0:(v:Int).fdiv (1:Int)=((v/1:Nat):Int):=fdA v 1
 have fd1:∀ n:Nat,(n:Int).fdiv (256:Int)=((n/256:Nat):Int):=fun n=>fdA n 256
 have td1:∀ n:Nat,(n:Int).tdiv (256:Int)=((n/256:Nat):Int):=fun n=>(Int.ofNat_tdiv n 256).symm
 have tm1:∀ n:Nat,(n:Int).tmod (256:Int)=((n%256:Nat):Int):=fun n=>(Int.ofNat_tmod n 256).symm
 rcases hw with rfl|rfl|rfl
 ·have hr:=Zmq [] (v:Int)
  simp only[rr, tt, fd0,fd1,td1,tm1,m1,w8A,Nat.div_one,Nat.mod_mod,List.append_assoc,List.cons_append,List.nil_append] at hr
  exact ZK (Zt Zg (Zf _) (Ze _) 10) (v:=.string ⟨⟨leW 1 v⟩⟩) hr (by
   simp only[rr, tt, ZR,List.length_append,List.length_cons,List.length_nil]
   repeat (first|exact trivial|refine UX (QY (by omega)) ?_)) rfl rfl
 ·have hr:=Zmr [] (v:Int)
  simp only[rr, tt, fd0,fd1,td1,tm1,m1,w8A,Nat.div_one,Nat.mod_mod,List.append_assoc,List.cons_append,List.nil_append] at hr
  exact ZK (Zt Zg (Zf _) (Ze _) 10) (v:=.string ⟨⟨leW 2 v⟩⟩) hr (by
   simp only[rr, tt, ZR,List.length_append,List.length_cons,List.length_nil]
   repeat (first|exact trivial|refine UX (QY (by omega)) ?_)) rfl rfl
 ·exact ZcK _ _ ⟨rfl,by omega,by omega⟩
def ZhF (w a v:Nat) (zs:List UInt8) (f:Nat→Bool) (N m n:Nat):Con:=KX [.pointer (some ⟨67,0,none⟩),.int .u32 (a:Nat),.int .i64 (w:Nat),.int .u32 (v:Nat)] zs (QW a (leW w v) zs) f (Qr f (a/16) false) N m n
theorem Zms (a v:Nat) (zs:List UInt8) (f:Nat→Bool) (N m n:Nat) (h:ArOk zs N m n) (hv:v<4294967296) (ha:a%1=0) (ha2:a+1≤N):ConOk Tryz.prog 42 3 (ZhF 1 a v zs f N m n)∧FlatC (ZhF 1 a v zs f N m n):=by
 obtain⟨hl,h1,h2,h3,h4⟩:=h
 have hg:a/16<m:=by omega
 obtain⟨cv,hcv⟩:=Kz (a/16) m n f hg h2 h3
 have hr:=sw_1 a (a/16) v zs f cv N m n
 have e16:(leW 1 v).length=1:=YS _ _
 simp only[rr, tt, Int.toNat_natCast,ZR,X2,List.drop_zero,e16] at hr
 have ht:List.take 1 (u8s (leW 1 v))=u8s (leW 1 v):=List.take_of_length_le (by rw[Yk,e16]; exact Nat.le_refl _)
 have hv1:∀ (f:Nat→Bool) (σ:Nat→Nat),(v64 (Za f n)).map (rnV σ 3)=v64 (Za f n):=fun f σ=>Zp (Zr _)
 have hv2:∀ (f:Nat→Bool) (p:Nat→Bool),(v64 (Za f n)).all (okV p 3)=true:=fun f p=>Zn (Zr _)
 have hne:Zl (leW 1 v) []=false:=rfl
 simp(disch:=omega) only[rr, tt, Ye,Yr,X1,Kf,KV,U4,Int.toNat_natCast,Nat.zero_add,Nat.mul_one,ht,hv1] at hr
 refine⟨ZZ (Zt (L:=100) Zg (Zs (Zj fun x hx => ?_) (Zf _)) (Ze _) 40) (KA rfl zs _ f _ N m n) hr ?_ (p:=fun l=>Nat.blt l 68) (σ:=id) (Wq (YN _ _ N m n _ _ rfl rfl rfl rfl rfl (XK _ _ _ _ rfl (by rw[e16]; omega))) ⟨⟨rfl,Nat.le_refl _⟩,⟨rfl,Nat.le_refl _⟩,trivial⟩),⟨X5 _ _ _ _ _ _⟩⟩
 ·simp only[rr, tt, swL,List.mem_cons,List.not_mem_nil,or_false] at hx
  rcases hx with rfl|rfl
  ·exact⟨Zaf 1 v (by omega) hv,⟨fun x hx=>by cases hx⟩⟩
  ·exact⟨hcv,Vk _ _ _ _ _⟩
 ·simp only[rr, tt, QH,hl,hv1,hv2,Yk,X3,X4,ZR,e16,ZW,ht,hne]
  simp(disch:=omega) only[rr, tt, U5,Vo]
  simp(disch:=omega) only[rr, tt, decide_eq_true,decide_eq_false,Bool.and_self,Bool.true_and,Bool.and_true,Bool.not_true,Bool.not_false,cond_true,and_true,true_and,and_self]
  have q2:i64.wrap ((a:Int)+((1:Nat):Int))=((a+1:Nat):Int):=by rw[VI,Ye _ (by omega)]
  have q3:i64.wrap (((a+1:Nat):Int)-(1:Int))=((a+1-1:Nat):Int):=by rw[show((a+1:Nat):Int)-(1:Int)=((a+1-1:Nat):Int) by omega,Ye _ (by omega)]
  have q4:i64.wrap (i64.wrap (((a+1-1:Nat):Int).tdiv 16)+1)=((a/16+1:Nat):Int):=by
   rw[Yr,Ye _ (by omega),X1,Ye _ (by omega)]
   omega
  rw[q2,q3,q4]
  exact⟨rfl,Nat.le_refl _⟩
theorem Zmt (a v:Nat) (zs:List UInt8) (f:Nat→Bool) (N m n:Nat) (h:ArOk zs N m n) (hv:v<4294967296) (ha:a%2=0) (ha2:a+2≤N):ConOk Tryz.prog 42 3 (ZhF 2 a v zs f N m n)∧FlatC (ZhF 2 a v zs f N m n):=by
 obtain⟨hl,h1,h2,h3,h4⟩:=h
 have hg:a/16<m:=by omega
 obtain⟨cv,hcv⟩:=Kz (a/16) m n f hg h2 h3
 have hr:=sw_2 a (a/16) v zs f cv N m n
 have e16:(leW 2 v).length=2:=YS _ _
 simp only[rr, tt, Int.toNat_natCast,ZR,X2,List.drop_zero,e16] at hr
 have ht:List.take 2 (u8s (leW 2 v))=u8s (leW 2 v):=List.take_of_length_le (by rw[Yk,e16]; exact Nat.le_refl _)
 have hv1:∀ (f:Nat→Bool) (σ:Nat→Nat),(v64 (Za f n)).map (rnV σ 3)=v64 (Za f n):=fun f σ=>Zp (Zr _)
 have hv2:∀ (f:Nat→Bool) (p:Nat→Bool),(v64 (Za f n)).all (okV p 3)=true:=fun f p=>Zn (Zr _)
 have hne:Zl (leW 2 v) []=false:=rfl
 simp(disch:=omega) only[rr, tt, Ye,Yr,X1,Kf,KV,U4,Int.toNat_natCast,Nat.zero_add,Nat.mul_one,ht,hv1] at hr
 refine⟨ZZ (Zt (L:=100) Zg (Zs (Zj fun x hx => ?_) (Zf _)) (Ze _) 40) (KA rfl zs _ f _ N m n) hr ?_ (p:=fun l=>Nat.blt l 68) (σ:=id) (Wq (YN _ _ N m n _ _ rfl rfl rfl rfl rfl (XK _ _ _ _ rfl (by rw[e16]; omega))) ⟨⟨rfl,Nat.le_refl _⟩,⟨rfl,Nat.le_refl _⟩,trivial⟩),⟨X5 _ _ _ _ _ _⟩⟩
 ·simp only[rr, tt, swL,List.mem_cons,List.not_mem_nil,or_false] at hx
  rcases hx with rfl|rfl
  ·exact⟨Zaf 2 v (by omega) hv,⟨fun x hx=>by cases hx⟩⟩
  ·exact⟨hcv,Vk _ _ _ _ _⟩
 ·simp only[rr, tt, QH,hl,hv1,hv2,Yk,X3,X4,ZR,e16,ZW,ht,hne]
  simp(disch:=omega) only[rr, tt, U5,Vo]
  simp(disch:=omega) only[rr, tt, decide_eq_true,decide_eq_false,Bool.and_self,Bool.true_and,Bool.and_true,Bool.not_true,Bool.not_false,cond_true,and_true,true_and,and_self]
  have q2:i64.wrap ((a:Int)+((2:Nat):Int))=((a+2:Nat):Int):=by rw[VI,Ye _ (by omega)]
  have q3:i64.wrap (((a+2:Nat):Int)-(1:Int))=((a+2-1:Nat):Int):=by rw[show((a+2:Nat):Int)-(1:Int)=((a+2-1:Nat):Int) by omega,Ye _ (by omega)]
  have q4:i64.wrap (i64.wrap (((a+2-1:Nat):Int).tdiv 16)+1)=((a/16+1:Nat):Int):=by
   rw[Yr,Ye _ (by omega),X1,Ye _ (by omega)]
   omega
  rw[q2,q3,q4]
  exact⟨rfl,Nat.le_refl _⟩
theorem Zmu (a v:Nat) (zs:List UInt8) (f:Nat→Bool) (N m n:Nat) (h:ArOk zs N m n) (hv:v<4294967296) (ha:a%4=0) (ha2:a+4≤N):ConOk Tryz.prog 42 3 (ZhF 4 a v zs f N m n)∧FlatC (ZhF 4 a v zs f N m n):=by
 obtain⟨hl,h1,h2,h3,h4⟩:=h
 have hg:a/16<m:=by omega
 obtain⟨cv,hcv⟩:=Kz (a/16) m n f hg h2 h3
 have hr:=sw_4 a (a/16) v zs f cv N m n
 have e16:(leW 4 v).length=4:=YS _ _
 simp only[rr, tt, Int.toNat_natCast,ZR,X2,List.drop_zero,e16] at hr
 have ht:List.take 4 (u8s (leW 4 v))=u8s (leW 4 v):=List.take_of_length_le (by rw[Yk,e16]; exact Nat.le_refl _)
 have hv1:∀ (f:Nat→Bool) (σ:Nat→Nat),(v64 (Za f n)).map (rnV σ 3)=v64 (Za f n):=fun f σ=>Zp (Zr _)
 have hv2:∀ (f:Nat→Bool) (p:Nat→Bool),(v64 (Za f n)).all (okV p 3)=true:=fun f p=>Zn (Zr _)
 have hne:Zl (leW 4 v) []=false:=rfl
 simp(disch:=omega) only[rr, tt, Ye,Yr,X1,Kf,KV,U4,Int.toNat_natCast,Nat.zero_add,Nat.mul_one,ht,hv1] at hr
 refine⟨ZZ (Zt (L:=100) Zg (Zs (Zj fun x hx => ?_) (Zf _)) (Ze _) 40) (KA rfl zs _ f _ N m n) hr ?_ (p:=fun l=>Nat.blt l 68) (σ:=id) (Wq (YN _ _ N m n _ _ rfl rfl rfl rfl rfl (XK _ _ _ _ rfl (by rw[e16]; omega))) ⟨⟨rfl,Nat.le_refl _⟩,⟨rfl,Nat.le_refl _⟩,trivial⟩),⟨X5 _ _ _ _ _ _⟩⟩
 ·simp only[rr, tt, swL,List.mem_cons,List.not_mem_nil,or_false] at hx
  rcases hx with rfl|rfl
  ·exact⟨Zaf 4 v (by omega) hv,⟨fun x hx=>by cases hx⟩⟩
  ·exact⟨hcv,Vk _ _ _ _ _⟩
 ·simp only[rr, tt, QH,hl,hv1,hv2,Yk,X3,X4,ZR,e16,ZW,ht,hne]
  simp(disch:=omega) only[rr, tt, U5,Vo]
  simp(disch:=omega) only[rr, tt, decide_eq_true,decide_eq_false,Bool.and_self,Bool.true_and,Bool.and_true,Bool.not_true,Bool.not_false,cond_true,and_true,true_and,and_self]
  have q2:i64.wrap ((a:Int)+((4:Nat):Int))=((a+4:Nat):Int):=by rw[VI,Ye _ (by omega)]
  have q3:i64.wrap (((a+4:Nat):Int)-(1:Int))=((a+4-1:Nat):Int):=by rw[show((a+4:Nat):Int)-(1:Int)=((a+4-1:Nat):Int) by omega,Ye _ (by omega)]
  have q4:i64.wrap (i64.wrap (((a+4-1:Nat):Int).tdiv 16)+1)=((a/16+1:Nat):Int):=by
   rw[Yr,Ye _ (by omega),X1,Ye _ (by omega)]
   omega
  rw[q2,q3,q4]
  exact⟨rfl,Nat.le_refl _⟩
theorem Zag (w a v:Nat) (zs:List UInt8) (f:Nat→Bool) (N m n:Nat) (h:ArOk zs N m n) (hw:w=1∨w=2∨w=4) (hv:v<4294967296) (ha:a%w=0) (ha2:a+w≤N):ConOk Tryz.prog 42 3 (ZhF w a v zs f N m n)∧FlatC (ZhF w a v zs f N m n):=by
 rcases hw with rfl|rfl|rfl
 ·exact Zms a v zs f N m n h hv ha ha2
 ·exact Zmt a v zs f N m n h hv ha ha2
 ·exact Zmu a v zs f N m n h hv ha ha2
def ZhG (a c e b t p y r:Nat) (k:Bool) (zs:List UInt8) (f:Nat→Bool) (N m n:Nat):Con:=KX [.pointer (some ⟨67,0,none⟩),.int .u32 (a:Nat),cpV c e b t p y r k] zs (QW a (cbL c e b t p y r) zs) f (Qr f (a/16) (k&&Yd e b t p y r)) N m n
theorem ZgA (a c e b t p y r:Nat) (zs:List UInt8) (f:Nat→Bool) (N m n:Nat) (h:ArOk zs N m n) (hcp:CpB c e b t p y r) (ha:a%16=0) (ha2:a+16≤N):ConOk Tryz.prog 44 3 (ZhG a c e b t p y r true zs f N m n)∧FlatC (ZhG a c e b t p y r true zs f N m n):=by
 obtain⟨hl,h1,h2,h3,h4⟩:=h
 have hg:a/16<m:=by omega
 obtain⟨cv,hcv⟩:=Kz (a/16) m n f hg h2 h3
 have hr:=sc_t a (a/16) c e b t p y r zs f cv N m n
 have e16:=WH c e b t p y r
 simp only[rr, tt, ZR,X2,List.drop_zero,e16] at hr
 have et:(a:Int).tmod (16:Int)=((a%16:Nat):Int):=(Int.ofNat_tmod a 16).symm
 have ht:List.take 16 (u8s (cbL c e b t p y r))=u8s (cbL c e b t p y r):=List.take_of_length_le (by rw[Yk,e16]; exact Nat.le_refl _)
 have hv1:∀ (f:Nat→Bool) (σ:Nat→Nat),(v64 (Za f n)).map (rnV σ 3)=v64 (Za f n):=fun f σ=>Zp (Zr _)
 have hv2:∀ (f:Nat→Bool) (p:Nat→Bool),(v64 (Za f n)).all (okV p 3)=true:=fun f p=>Zn (Zr _)
 simp(disch:=omega) only[rr, tt, Ye,Yr,et,ha,X1,Kf,KV,U4,Int.toNat_natCast,Nat.zero_add,Nat.mul_one,ht,hv1,JM] at hr
 unfold ZhG
 simp only[rr, tt, Bool.true_and,Bool.false_and]
 refine⟨ZZ (Zt (L:=100) Zg (Zs (Zj fun x hx => ?_) (Zf _)) (Ze _) 40) (KA rfl zs _ f _ N m n) hr ?_ (p:=fun l=>Nat.blt l 68) (σ:=id) (Wq (YN _ _ N m n _ _ rfl rfl rfl rfl rfl (XK _ _ _ _ rfl (by rw[e16]; omega))) ⟨⟨rfl,Nat.le_refl _⟩,⟨rfl,Nat.le_refl _⟩,trivial⟩),⟨X5 _ _ _ _ _ _⟩⟩
 ·simp only[rr, tt, scL,List.mem_cons,List.not_mem_nil,or_false] at hx
  rcases hx with rfl|rfl|rfl|rfl
  ·exact⟨ZbV c e b t p y r true hcp,⟨fun x hx=>by cases hx⟩⟩
  ·exact⟨hcv,Vk _ _ _ _ _⟩
  ·exact⟨Ze3 c e b t p y r true hcp,⟨fun x hx=>by cases hx⟩⟩
  ·exact⟨ZbT (a/16) m n _ _ hg h2 h3,Zae _ _ _ _ _⟩
 ·simp only[rr, tt, QH,hl,hv1,hv2,Yk,X3,X4,ZR,e16,ZW,ht]
  simp(disch:=omega) only[rr, tt, U5,Vo]
  simp(disch:=omega) only[rr, tt, decide_eq_true,decide_eq_false,Bool.and_self,Bool.true_and,Bool.and_true,Bool.not_true,Bool.not_false,cond_true,and_true,true_and,and_self]
  have q1:i64.wrap ((N:Int)-(16:Int))=((N-16:Nat):Int):=by rw[show(N:Int)-(16:Int)=((N-16:Nat):Int) by omega,Ye _ (by omega)]
  have q2:i64.wrap ((a:Int)+((16:Nat):Int))=((a+16:Nat):Int):=by rw[VI,Ye _ (by omega)]
  have q3:i64.wrap (((a+16:Nat):Int)-(1:Int))=((a+15:Nat):Int):=by rw[show((a+16:Nat):Int)-(1:Int)=((a+15:Nat):Int) by omega,Ye _ (by omega)]
  have q4:i64.wrap (i64.wrap (((a+15:Nat):Int).tdiv 16)+1)=((a/16+1:Nat):Int):=by
   rw[Yr,Ye _ (by omega),X1,Ye _ (by omega)]
   omega
  rw[q1,q2,q3,q4]
  refine⟨⟨⟨by simp,?_⟩,rfl,Nat.le_refl _⟩,Nat.le_refl _⟩
  rw[Bool.not_eq_false',decide_eq_true_eq]; omega
theorem Ze4 (a c e b t p y r:Nat) (zs:List UInt8) (f:Nat→Bool) (N m n:Nat) (h:ArOk zs N m n) (hcp:CpB c e b t p y r) (ha:a%16=0) (ha2:a+16≤N):ConOk Tryz.prog 44 3 (ZhG a c e b t p y r false zs f N m n)∧FlatC (ZhG a c e b t p y r false zs f N m n):=by
 obtain⟨hl,h1,h2,h3,h4⟩:=h
 have hg:a/16<m:=by omega
 obtain⟨cv,hcv⟩:=Kz (a/16) m n f hg h2 h3
 have hr:=sc_n a (a/16) c e b t p y r zs f cv N m n
 have e16:=WH c e b t p y r
 simp only[rr, tt, ZR,X2,List.drop_zero,e16] at hr
 have et:(a:Int).tmod (16:Int)=((a%16:Nat):Int):=(Int.ofNat_tmod a 16).symm
 have ht:List.take 16 (u8s (cbL c e b t p y r))=u8s (cbL c e b t p y r):=List.take_of_length_le (by rw[Yk,e16]; exact Nat.le_refl _)
 have hv1:∀ (f:Nat→Bool) (σ:Nat→Nat),(v64 (Za f n)).map (rnV σ 3)=v64 (Za f n):=fun f σ=>Zp (Zr _)
 have hv2:∀ (f:Nat→Bool) (p:Nat→Bool),(v64 (Za f n)).all (okV p 3)=true:=fun f p=>Zn (Zr _)
 simp(disch:=omega) only[rr, tt, Ye,Yr,et,ha,X1,Kf,KV,U4,Int.toNat_natCast,Nat.zero_add,Nat.mul_one,ht,hv1,JM] at hr
 unfold ZhG
 simp only[rr, tt, Bool.true_and,Bool.false_and]
 refine⟨ZZ (Zt (L:=100) Zg (Zs (Zj fun x hx => ?_) (Zf _)) (Ze _) 40) (KA rfl zs _ f _ N m n) hr ?_ (p:=fun l=>Nat.blt l 68) (σ:=id) (Wq (YN _ _ N m n _ _ rfl rfl rfl rfl rfl (XK _ _ _ _ rfl (by rw[e16]; omega))) ⟨⟨rfl,Nat.le_refl _⟩,⟨rfl,Nat.le_refl _⟩,trivial⟩),⟨X5 _ _ _ _ _ _⟩⟩
 ·simp only[rr, tt, snL,List.mem_cons,List.not_mem_nil,or_false] at hx
  rcases hx with rfl|rfl|rfl
  ·exact⟨ZbV c e b t p y r false hcp,⟨fun x hx=>by cases hx⟩⟩
  ·exact⟨hcv,Vk _ _ _ _ _⟩
  ·exact⟨ZbT (a/16) m n _ _ hg h2 h3,Zae _ _ _ _ _⟩
 ·simp only[rr, tt, QH,hl,hv1,hv2,Yk,X3,X4,ZR,e16,ZW,ht]
  simp(disch:=omega) only[rr, tt, U5,Vo]
  simp(disch:=omega) only[rr, tt, decide_eq_true,decide_eq_false,Bool.and_self,Bool.true_and,Bool.and_true,Bool.not_true,Bool.not_false,cond_true,and_true,true_and,and_self]
  have q1:i64.wrap ((N:Int)-(16:Int))=((N-16:Nat):Int):=by rw[show(N:Int)-(16:Int)=((N-16:Nat):Int) by omega,Ye _ (by omega)]
  have q2:i64.wrap ((a:Int)+((16:Nat):Int))=((a+16:Nat):Int):=by rw[VI,Ye _ (by omega)]
  have q3:i64.wrap (((a+16:Nat):Int)-(1:Int))=((a+15:Nat):Int):=by rw[show((a+16:Nat):Int)-(1:Int)=((a+15:Nat):Int) by omega,Ye _ (by omega)]
  have q4:i64.wrap (i64.wrap (((a+15:Nat):Int).tdiv 16)+1)=((a/16+1:Nat):Int):=by
   rw[Yr,Ye _ (by omega),X1,Ye _ (by omega)]
   omega
  rw[q1,q2,q3,q4]
  refine⟨⟨⟨by simp,?_⟩,rfl,Nat.le_refl _⟩,Nat.le_refl _⟩
  rw[Bool.not_eq_false',decide_eq_true_eq]; omega
theorem ZbX (a c e b t p y r:Nat) (k:Bool) (zs:List UInt8) (f:Nat→Bool) (N m n:Nat) (h:ArOk zs N m n) (hcp:CpB c e b t p y r) (ha:a%16=0) (ha2:a+16≤N):ConOk Tryz.prog 44 3 (ZhG a c e b t p y r k zs f N m n)∧FlatC (ZhG a c e b t p y r k zs f N m n):=by
 cases k
 ·exact Ze4 a c e b t p y r zs f N m n h hcp ha ha2
 ·exact ZgA a c e b t p y r zs f N m n h hcp ha ha2
def ZjK (w:Nat) (zs:List UInt8) (i:Nat):Nat:=if w=1 then byA zs i else if w=2 then byA zs (i+1)*256+byA zs i else Zke zs i
def ldWC (w a:Nat) (zs:List UInt8) (f:Nat→Bool) (N m n:Nat):Con:=ZdC [.pointer (some ⟨67,0,none⟩),.int .u32 (a:Nat),.int .i64 (w:Nat)] (.tuple ⟨[.int .u32 (ZjK w zs a:Nat),.bool true]⟩) zs f N m n
theorem Zl7 (y:Nat) (h:y<4294967296):bits .or .u32 (0:Int) (y:Int)=(y:Int):=by
 have:=orA 0 y 32 (by omega) (by omega) (by omega)
 rw[Nat.zero_add] at this
 exact this
theorem ZiB (w a:Nat) (zs:List UInt8) (f:Nat→Bool) (N m n:Nat) (h:ArOk zs N m n) (hw:w=1∨w=2∨w=4) (ha2:a+w≤N):ConOk Tryz.prog 30 3 (ldWC w a zs f N m n)∧FlatC (ldWC w a zs f N m n):=by
 obtain⟨hl,h1,h2,h3,h4⟩:=h
 have z0:=Wo zs a
 have z1:=Wo zs (a+1)
 have z2:=Wo zs (a+2)
 have z3:=Wo zs (a+3)
 have v0:=XQ (byA zs a) (by omega)
 have v1:=XQ (byA zs (a+1)) (by omega)
 have v2:=XQ (byA zs (a+2)) (by omega)
 have v3:=XQ (byA zs (a+3)) (by omega)
 have y1:((byA zs (a+1):Nat):Int)*256=((byA zs (a+1)*256:Nat):Int):=by omega
 have y2:((byA zs (a+2):Nat):Int)*65536=((byA zs (a+2)*65536:Nat):Int):=by omega
 have y3:((byA zs (a+3):Nat):Int)*16777216=((byA zs (a+3)*16777216:Nat):Int):=by omega
 have u1:=XQ (byA zs (a+1)*256) (by omega)
 have u2:=XQ (byA zs (a+2)*65536) (by omega)
 have u3:=XQ (byA zs (a+3)*16777216) (by omega)
 have p1:(a:Int)+(1:Int)=((a+1:Nat):Int):=by omega
 have p2:(a:Int)+(2:Int)=((a+2:Nat):Int):=by omega
 have p4:(a:Int)+(4:Int)=((a+4:Nat):Int):=by omega
 have k1:1≤N→(N:Int)-(1:Int)=((N-1:Nat):Int):=by omega
 have k2:2≤N→(N:Int)-(2:Int)=((N-2:Nat):Int):=by omega
 have k4:4≤N→(N:Int)-(4:Int)=((N-4:Nat):Int):=by omega
 rcases hw with rfl|rfl|rfl
 ·have b0:=Zl7 (byA zs a) (by omega)
  have hr:=lw_1 (a:Int) zs f N m n
  simp(disch:=omega) only[rr, tt, Ye,p1,k1,Int.toNat_natCast,Nat.zero_add,Nat.mul_one,Nat.add_zero,ZcL,v0,b0] at hr
  refine Yx (Zt (L:=100) Zg (Zf _) (Ze _) 40) rfl rfl rfl hr ?_
  simp(disch:=omega) only[rr, tt, QH,Ke,hl,Vo,decide_eq_true,decide_eq_false,Bool.and_self,Bool.true_and,Bool.and_true,Bool.not_true,Bool.not_false,cond_true,and_true,true_and,and_self]
 ·have b0:=Zl7 (byA zs (a+1)*256) (by omega)
  have b1:=orA (byA zs (a+1)*256) (byA zs a) 8 (by omega) (by omega) (by omega)
  have hr:=lw_2 (a:Int) zs f N m n
  simp(disch:=omega) only[rr, tt, Ye,p2,k2,Int.toNat_natCast,Nat.zero_add,Nat.mul_one,Nat.add_zero,ZcL,v0,v1,y1,u1,b0,b1] at hr
  refine Yx (Zt (L:=100) Zg (Zf _) (Ze _) 40) rfl rfl rfl hr ?_
  simp(disch:=omega) only[rr, tt, QH,Ke,hl,Vo,decide_eq_true,decide_eq_false,Bool.and_self,Bool.true_and,Bool.and_true,Bool.not_true,Bool.not_false,cond_true,and_true,true_and,and_self]
 ·have b32:=orA (byA zs (a+3)*16777216) (byA zs (a+2)*65536) 24 (by omega) (by omega) (by omega)
  have b31:=orA (byA zs (a+3)*16777216+byA zs (a+2)*65536) (byA zs (a+1)*256) 16 (by omega) (by omega) (by omega)
  have b30:=orA (byA zs (a+3)*16777216+byA zs (a+2)*65536+byA zs (a+1)*256) (byA zs a) 8 (by omega) (by omega) (by omega)
  have hr:=lw_4 (a:Int) zs f N m n
  simp(disch:=omega) only[rr, tt, Ye,p4,k4,Int.toNat_natCast,Nat.zero_add,Nat.mul_one,Nat.add_zero,ZcL,v0,v1,v2,v3,y1,y2,y3,u1,u2,u3,b32,b31,b30] at hr
  refine Yx (Zt (L:=100) Zg (Zf _) (Ze _) 40) rfl rfl rfl hr ?_
  simp(disch:=omega) only[rr, tt, QH,Ke,hl,Vo,decide_eq_true,decide_eq_false,Bool.and_self,Bool.true_and,Bool.and_true,Bool.not_true,Bool.not_false,cond_true,and_true,true_and,and_self]
def WR (c:Cp) (need:Nat):Nat:=if c.V=false then 1 else if c.Y≠0 then 2 else if c.P&&&need≠need then 3 else 0
theorem Zkk (p q:Nat) (hp:p<65536) (hq:q<65536):(bits BinOp.and u16 (p:Int) (q:Int) !=(q:Int))=decide (p&&&q≠q):=by
 rw[u16_and_nat p q hp hq,Bool.eq_iff_iff]
 simp<;>omega
theorem Zah (n:Nat):((n:Int) !=(0:Int))=decide (n≠0):=by
 rw[Bool.eq_iff_iff]; simp<;>omega
theorem Zai (c:Cp) (need:Nat) (hc:c.Ok) (hn:need<65536):ConOk Tryz.prog 35 3 (Con.pure [c.val,.int .u16 (need:Nat)] (.int .i64 (WR c need:Nat))):=by
 have hs:=fun {T:List (Nat×Bool)} {v:Value} {q:Prop} (h:obs (evF Tryz.prog Zk Zh 100 20 35 [c.val,.int .u16 (need:Nat)] (stT T))=some (v,q)) (hq:q) (hv:Ym v=true)=>ZK (d:=1) (Zt (L:=100) Zg (Zf _) (Ze _) 20) h hq rfl hv
 unfold WR
 by_cases h1:c.V=false
 ·rw[if_pos h1]; exact hs (jp_t c need) (by rw[h1]; exact⟨trivial,rfl⟩) rfl
 rw[if_neg h1]
 have h1:c.V=true:=by simpa using h1
 by_cases h2:c.Y≠0
 ·rw[if_pos h2]; exact hs (jp_s c need) (by rw[h1,Zah]; exact⟨⟨trivial,rfl⟩,by simpa using h2⟩) rfl
 rw[if_neg h2]
 by_cases h3:c.P&&&need≠need
 ·rw[if_pos h3]; exact hs (jp_p c need) (by rw[h1,Zah,Zkk _ _ hc.2.2.2.2.1 hn]; exact⟨⟨⟨trivial,rfl⟩,by simpa using h2⟩,by simpa using h3⟩) rfl
 ·rw[if_neg h3]; exact hs (jp_o c need) (by rw[h1,Zah,Zkk _ _ hc.2.2.2.2.1 hn]; exact⟨⟨⟨trivial,rfl⟩,by simpa using h2⟩,by simpa using h3⟩) rfl
def J3 (c:Cp) (a w need N:Nat):Nat:=if WR c need≠0 then WR c need else if WO c.lo c.hi a w=false then 4 else if N<a+w then 4 else if a%w≠0 then 5 else 0
def Zmv (c:Cp) (a w need:Nat) (t:Nat) (zs:List UInt8) (f:Nat→Bool) (N m n:Nat):Con:=ZdC [c.val,.int .u32 (a:Nat),.int .i64 (w:Nat),.int .u16 (need:Nat),.pointer (some ⟨67,0,none⟩)] (.int .i64 (t:Nat)) zs f N m n
theorem ZiC (c:Cp) (a w need:Nat) (zs:List UInt8) (f:Nat→Bool) (N m n:Nat) (h:ArOk zs N m n) (hc:c.Ok) (hn:need<65536) (ha:a<4294967296) (hw:0<w) (hw2:w≤16):ConOk Tryz.prog 52 3 (Zmv c a w need (J3 c a w need N) zs f N m n)∧FlatC (Zmv c a w need (J3 c a w need N) zs f N m n):=by
 obtain⟨hl,h1,h2,h3,h4⟩:=h
 have hb:∀ x∈wyL c (a:Int) (w:Int) need (WR c need) (WO c.lo c.hi a w),ConOk Tryz.prog x.2.1 3 x.2.2.1∧FlatC x.2.2.1:=fun x hx=>by
  simp only[rr, tt, wyL,List.mem_cons,List.not_mem_nil,or_false] at hx
  rcases hx with rfl|rfl
  ·exact⟨Zai c need hc hn,⟨fun x hx=>by cases hx⟩⟩
  ·exact⟨ZdB c a w hc ha (by omega),⟨fun x hx=>by cases hx⟩⟩
 have hs:=fun {T:List (Nat×Bool)} {v:Value} {q:Prop} (h:obs (evF Tryz.prog (Zz 3 (Zd (wyL c (a:Int) (w:Int) need (WR c need) (WO c.lo c.hi a w))) Zk) Zh 100 20 52 [c.val,.int .u32 (a:Nat),.int .i64 (w:Nat),.int .u16 (need:Nat),.pointer (some ⟨67,0,none⟩)] ⟨68,arW false zs f N m n,arO N n,0,T,0,True⟩)=some (v,q)) (hq:q) (hv:Ym v=true) (hu:isU v=false) =>
  Yx (Zt (L:=100) Zg (Zs (Zj hb) (Zf _)) (Ze _) 20) rfl hv hu h hq
 have ew:u32.wrap (w:Int)=(w:Int):=XQ w (by omega)
 have ea:u64.wrap (u64.wrap (a:Int)+u64.wrap (w:Int))=((a+w:Nat):Int):=by rw[Zaa a (by omega),Zaa w (by omega),VI,Zaa _ (by omega)]
 have eN:u64.wrap (N:Int)=(N:Int):=Zaa N (by omega)
 have et:(a:Int).tmod (w:Int)=((a%w:Nat):Int):=(Int.ofNat_tmod a w).symm
 have eg:decide (((a+w:Nat):Int)>(N:Int))=decide (N<a+w):=by rw[decide_eq_decide]; omega
 have e0:decide ((w:Int)=0)=false:=decide_eq_false (by omega)
 unfold J3
 generalize WR c need=t at *
 generalize WO c.lo c.hi a w=hh at *
 by_cases k1:t≠0
 ·rw[if_pos k1]; exact hs (wy_j c a w need t hh zs f N m n) (by simp only[rr, tt, Zah,k1,and_true,true_and,and_self,ne_eq,not_false_eq_true,decide_true]) rfl rfl
 rw[if_neg k1]
 have k1:decide (t≠0)=false:=decide_eq_false k1
 cases hh
 ·rw[if_pos rfl]; exact hs (wy_h c a w need t false zs f N m n) (by simp only[rr, tt, Zah,k1,ew,Bool.not_false,and_true,true_and,and_self]) rfl rfl
 rw[if_neg (by decide)]
 by_cases k2:N<a+w
 ·rw[if_pos k2]; exact hs (wy_z c a w need t true zs f N m n) (by simp only[rr, tt, Zah,k1,ew,ea,eN,eg,k2,Bool.not_true,and_true,true_and,and_self,decide_true]) rfl rfl
 rw[if_neg k2]
 by_cases k3:a%w≠0
 ·rw[if_pos k3]; exact hs (wy_a c a w need t true zs f N m n) (by simp only[rr, tt, Zah,k1,ew,ea,eN,eg,e0,et,k2,k3,ne_eq,not_false_eq_true,Bool.not_true,Bool.not_false,and_true,true_and,and_self,decide_true,decide_false,cond_true]) rfl rfl
 ·rw[if_neg k3]
  have k3:decide (a%w≠0)=false:=decide_eq_false k3
  exact hs (wy_o c a w need t true zs f N m n) (by simp only[rr, tt, Zah,k1,ew,ea,eN,eg,e0,et,k2,k3,Bool.not_true,Bool.not_false,and_true,true_and,and_self,decide_true,decide_false,cond_true]) rfl rfl
theorem VJ {c:Cp} {a w need N:Nat} (h:J3 c a w need N=0):a+w≤N∧a%w=0∧c.V=true∧c.Y=0∧c.P&&&need=need∧WO c.lo c.hi a w=true:=by
 unfold J3 at h
 split at h
 ·exact absurd h (by assumption)
 ·rename_i h0
  have h0:WR c need=0:=by simpa using h0
  unfold WR at h0
  split at h0
  ·cases h0
  ·split at h0
   ·cases h0
   ·split at h0
    ·cases h0
    ·split at h
     ·cases h
     ·split at h
      ·cases h
      ·split at h
       ·cases h
       ·simp_all
def ZbY (fr:Nat→Cp) (k:Int):Nat:=(((fr 16).C:Int)+4*k).emod 4294967296 |>.toNat
def JT (fr:Nat→Cp) (k:Int):Cp:=KW (fr 16) (ZbY fr k)
def Ys (fr:Nat→Cp):Nat→Cp:=frS fr 16 (JT fr 1)
theorem ZcP (fr:Nat→Cp) (k:Int):ZbY fr k<4294967296:=by
 unfold ZbY
 have:=Int.emod_lt_of_pos (((fr 16).C:Int)+4*k) (show(0:Int)<4294967296 by omega)
 have:=Int.emod_nonneg (((fr 16).C:Int)+4*k) (show(4294967296:Int)≠0 by omega)
 show((((fr 16).C:Int)+4*k)%4294967296).toNat<_
 omega
theorem VK (fr:Nat→Cp) (k:Int) (h:Wp fr):ConOk Tryz.prog 34 3 (Con.pure [Q8 fr,.int .i64 k] (JT fr k).val):=by
 have hr:=fu_a fr (JT fr k) k (ZbY fr k:Nat)
 refine ZK (d:=1) (Zt (L:=100) Zg (Zs (Zj fun x hx => ?_) (Zf _)) (Ze _) 20) hr ?_ rfl rfl
 ·obtain rfl:=List.mem_singleton.1 hx
  exact⟨Kg (fr 16) (ZbY fr k) (h 16) (ZcP fr k),⟨fun x hx=>by cases hx⟩⟩
 ·have e:u32.wrap (((fr 16).C:Int)+u32.wrap ((4:Int)*u32.wrap k))=((ZbY fr k:Nat):Int):=by
   unfold ZbY
   show _=((((((fr 16).C:Int)+4*k)%4294967296).toNat:Nat):Int)
   simp only[rr, tt, IntKind.wrap_u32]
   omega
  rw[e]
  simp only[rr, tt, and_true,true_and,and_self]
theorem Zkl (fr:Nat→Cp) (r:Cp):frQ fr r.cs=frL (frS fr 16 r):=by
 have h:=Ze0 fr r 16 (by omega)
 rw[← h]; rfl
theorem ZgB (fr:Nat→Cp) (h:Wp fr):ConOk Tryz.prog 26 3 (Con.pure [Q8 fr] (Q8 (Ys fr))):=by
 have hr:=nx_a fr (JT fr 1)
 have e:(.agg ⟨frQ fr (JT fr 1).cs⟩:Value)=Q8 (Ys fr):=by rw[Zkl]; rfl
 refine ZK (d:=1) (Zt (L:=100) Zg (Zs (Zj fun x hx => ?_) (Zf _)) (Ze _) 20) (hr.trans (congrArg (fun v=>some (v,_)) e)) ?_ rfl rfl
 ·obtain rfl:=List.mem_singleton.1 hx
  exact⟨VK fr 1 h,⟨fun x hx=>by cases hx⟩⟩
 ·simp only[rr, tt, and_true,true_and,and_self]
def Yt (op:Int):Nat:=if op=17∨op=20 then 1 else if op=18∨op=21 then 2 else if op=19∨op=22 then 4 else if op=23∨op=24 then 16 else 0
theorem Ze5 (op:Int):ConOk Tryz.prog 36 3 (Con.pure [.int .i64 op] (.int .i64 (Yt op:Nat))):=by
 have hs:=fun {T:List (Nat×Bool)} {v:Value} {q:Prop} (h:obs (evF Tryz.prog Zk Zh 100 20 36 [.int .i64 op] (stT T))=some (v,q)) (hq:q) (hv:Ym v=true)=>ZK (d:=1) (Zt (L:=100) Zg (Zf _) (Ze _) 20) h hq rfl hv
 by_cases h1:op=17
 ·subst h1; exact hs (wd_1 17) ⟨⟨trivial,rfl⟩,rfl⟩ rfl
 by_cases h2:op=20
 ·subst h2; exact hs (wd_2 20) ⟨⟨trivial,rfl⟩,rfl⟩ rfl
 by_cases h3:op=18
 ·subst h3; exact hs (wd_3 18) (by refine⟨⟨⟨⟨trivial,rfl⟩,rfl⟩,rfl⟩,rfl⟩) rfl
 by_cases h4:op=21
 ·subst h4; exact hs (wd_4 21) (by refine⟨⟨⟨⟨trivial,rfl⟩,rfl⟩,rfl⟩,rfl⟩) rfl
 by_cases h5:op=19
 ·subst h5; exact hs (wd_5 19) (by refine⟨⟨⟨⟨⟨⟨trivial,rfl⟩,rfl⟩,rfl⟩,rfl⟩,rfl⟩,rfl⟩) rfl
 by_cases h6:op=22
 ·subst h6; exact hs (wd_6 22) (by refine⟨⟨⟨⟨⟨⟨trivial,rfl⟩,rfl⟩,rfl⟩,rfl⟩,rfl⟩,rfl⟩) rfl
 by_cases h7:op=23
 ·subst h7; exact hs (wd_7 23) (by refine⟨⟨⟨⟨⟨⟨⟨⟨trivial,rfl⟩,rfl⟩,rfl⟩,rfl⟩,rfl⟩,rfl⟩,rfl⟩,rfl⟩) rfl
 by_cases h8:op=24
 ·subst h8; exact hs (wd_8 24) (by refine⟨⟨⟨⟨⟨⟨⟨⟨trivial,rfl⟩,rfl⟩,rfl⟩,rfl⟩,rfl⟩,rfl⟩,rfl⟩,rfl⟩) rfl
 have e:Yt op=0:=by unfold Yt; simp only[rr, tt, h1,h2,h3,h4,h5,h6,h7,h8,or_self,if_false]
 rw[e]
 refine hs (wd_n op) ?_ rfl
 have b:∀ k:Int,¬ op=k→(op==k)=false:=fun k hk=>beq_eq_false_iff_ne.2 hk
 simp only[rr, tt, b _ h1,b _ h2,b _ h3,b _ h4,b _ h5,b _ h6,b _ h7,b _ h8,and_self]
def mvL (nw:Nat) (i:In) (fr:Nat→Cp) (cB:Cp) (w a need t:Nat) (zs:List UInt8) (f:Nat→Bool) (N m n:Nat) (L:Sy.Steps):Sy.Steps:=(73,36,Con.pure [.int .i64 i.op] (.int .i64 (w:Nat)),[])::(nw,52,Zmv cB a w need t zs f N m n,[64,65,66,67])::L
def mvA (fr:Nat→Cp) (i:In):List Value:=[Q8 fr,i.val,.pointer (some ⟨67,0,none⟩)]
theorem Zmw (i:In) (fr:Nat→Cp) (cB:Cp) (w a t:Nat) (zs:List UInt8) (f:Nat→Bool) (N m n:Nat):obs (evF Tryz.prog (Zz 3 (Zd (mvL 74 i fr cB w a 1 t zs f N m n [])) Zk) Zh 100 20 37 (mvA fr i) ⟨68,arW false zs f N m n,arO N n,0,(tb 7 65),0,True⟩)=some (Value.tuple { toList:=[Value.agg ⟨[.int .u32 0,.int .u8 0,.int .u16 0,.int .u16 0,.int .u16 0,.int .u16 0,.int .u32 0,.bool false]⟩,.int .i64 (↑t)] },(((((((((bif ZI (0+i.b.toNat*8+8) (frL fr)&&Zi [Value.int .u32 0,.int .u8 0,.int .u16 0,.int .u16 0,.int .u16 0,.int .u16 0,.int .u32 0,.bool false] (frL fr) (0+i.b.toNat*8) then bif decide ((0:Int)≤i.b)&&decide (i.b<(16:Int)) then bif ZI (0+i.a.toNat*8+8) (frL fr)&&Zi [Value.int .u32 0,.int .u8 0,.int .u16 0,.int .u16 0,.int .u16 0,.int .u16 0,.int .u32 0,.bool false] (frL fr) (0+i.a.toNat*8) then bif decide ((0:Int)≤i.a)&&decide (i.a<(16:Int)) then True else False else False else False else False)∧True∧(rr (Value.int .i64 i.op)∧True)∧True∧True)∧tt)∧rr false)∧(i.op==(24:Int))=false)∧(i.op==(20:Int))=false)∧(i.op==(21:Int))=false)∧(i.op==(22:Int))=false)∧True∧(Value.agg ⟨[.int .u32 (Zb (Zc undef (frL fr) (0+i.b.toNat*8))),.int .u8 (Zb (Zc undef (frL fr) (0+i.b.toNat*8+1))),.int .u16 (Zb (Zc undef (frL fr) (0+i.b.toNat*8+1+1))),.int .u16 (Zb (Zc undef (frL fr) (0+i.b.toNat*8+1+1+1))),.int .u16 (Zb (Zc undef (frL fr) (0+i.b.toNat*8+1+1+1+1))),.int .u16 (Zb (Zc undef (frL fr) (0+i.b.toNat*8+1+1+1+1+1))),.int .u32 (Zb (Zc undef (frL fr) (0+i.b.toNat*8+1+1+1+1+1+1))),.bool (Zv (Zc undef (frL fr) (0+i.b.toNat*8+1+1+1+1+1+1+1)))]⟩=Value.agg ⟨[.int .u32 (↑cB.C),.int .u8 (↑cB.E),.int .u16 (↑cB.B),.int .u16 (↑cB.T),.int .u16 (↑cB.P),.int .u16 (↑cB.Y),.int .u32 (↑cB.R),.bool cB.V]⟩∧Value.int .u32 (u32.wrap (Zb (Zc undef (frL fr) (0+i.b.toNat*8))+u32.wrap i.m))=Value.int .u32 (↑a)∧rr (Value.int .i64 (↑w))∧rr (Value.int .u16 1)∧rr (Value.pointer (some ⟨67,0,none⟩))∧True)∧((tt∧tt∧tt∧tt∧tt∧True∧rr [Value.pointer (some ⟨66,0,none⟩),.slice (some ⟨64,0,none⟩) N 9223372036854775872])∧(tt∧tt∧tt∧tt∧tt∧True∧rr [Value.int .i64 (↑m),.slice (some ⟨65,0,none⟩) n 9223372036854775873])∧(tt∧(v64 (Za f n)).all (okV (fun l=>l.blt 68) 3)=true∧tt∧tt∧tt∧True∧v64 (Za f n)=List.map (rnV (lift 68 74 [64,65,66,67]) 3) (v64 (Za f n)))∧(tt∧(u8s zs).all (okV (fun l=>l.blt 68) 3)=true∧tt∧tt∧tt∧True∧u8s zs=List.map (rnV (lift 68 74 [64,65,66,67]) 3) (u8s zs))∧True)∧(tt∧n≤n)∧(tt∧N≤N)∧True)∧((↑t:Int) !=(0:Int))=true):=by kernel_rfl
theorem Zkm (i:In) (fr:Nat→Cp) (cB:Cp) (w a t:Nat) (zs:List UInt8) (f:Nat→Bool) (N m n:Nat):obs (evF Tryz.prog (Zz 3 (Zd (mvL 75 i fr cB w a 2 t zs f N m n [])) Zk) Zh 100 20 37 (mvA fr i) ⟨68,arW false zs f N m n,arO N n,0,(tb 8 185),0,True⟩)=some (Value.tuple { toList:=[Value.agg ⟨[.int .u32 0,.int .u8 0,.int .u16 0,.int .u16 0,.int .u16 0,.int .u16 0,.int .u32 0,.bool false]⟩,.int .i64 (↑t)] },((((((((((bif ZI (0+i.b.toNat*8+8) (frL fr)&&Zi [Value.int .u32 0,.int .u8 0,.int .u16 0,.int .u16 0,.int .u16 0,.int .u16 0,.int .u32 0,.bool false] (frL fr) (0+i.b.toNat*8) then bif decide ((0:Int)≤i.b)&&decide (i.b<(16:Int)) then bif ZI (0+i.a.toNat*8+8) (frL fr)&&Zi [Value.int .u32 0,.int .u8 0,.int .u16 0,.int .u16 0,.int .u16 0,.int .u16 0,.int .u32 0,.bool false] (frL fr) (0+i.a.toNat*8) then bif decide ((0:Int)≤i.a)&&decide (i.a<(16:Int)) then True else False else False else False else False)∧True∧(rr (Value.int .i64 i.op)∧True)∧True∧True)∧tt)∧rr false)∧(i.op==(24:Int))=false)∧(i.op==(20:Int))=true)∧(i.op==(20:Int))=true)∧tt)∧rr false)∧True∧(Value.agg ⟨[.int .u32 (Zb (Zc undef (frL fr) (0+i.b.toNat*8))),.int .u8 (Zb (Zc undef (frL fr) (0+i.b.toNat*8+1))),.int .u16 (Zb (Zc undef (frL fr) (0+i.b.toNat*8+1+1))),.int .u16 (Zb (Zc undef (frL fr) (0+i.b.toNat*8+1+1+1))),.int .u16 (Zb (Zc undef (frL fr) (0+i.b.toNat*8+1+1+1+1))),.int .u16 (Zb (Zc undef (frL fr) (0+i.b.toNat*8+1+1+1+1+1))),.int .u32 (Zb (Zc undef (frL fr) (0+i.b.toNat*8+1+1+1+1+1+1))),.bool (Zv (Zc undef (frL fr) (0+i.b.toNat*8+1+1+1+1+1+1+1)))]⟩=Value.agg ⟨[.int .u32 (↑cB.C),.int .u8 (↑cB.E),.int .u16 (↑cB.B),.int .u16 (↑cB.T),.int .u16 (↑cB.P),.int .u16 (↑cB.Y),.int .u32 (↑cB.R),.bool cB.V]⟩∧Value.int .u32 (u32.wrap (Zb (Zc undef (frL fr) (0+i.b.toNat*8))+u32.wrap i.m))=Value.int .u32 (↑a)∧rr (Value.int .i64 (↑w))∧rr (Value.int .u16 2)∧rr (Value.pointer (some ⟨67,0,none⟩))∧True)∧((tt∧tt∧tt∧tt∧tt∧True∧rr [Value.pointer (some ⟨66,0,none⟩),.slice (some ⟨64,0,none⟩) N 9223372036854775872])∧(tt∧tt∧tt∧tt∧tt∧True∧rr [Value.int .i64 (↑m),.slice (some ⟨65,0,none⟩) n 9223372036854775873])∧(tt∧(v64 (Za f n)).all (okV (fun l=>l.blt 68) 3)=true∧tt∧tt∧tt∧True∧v64 (Za f n)=List.map (rnV (lift 68 75 [64,65,66,67]) 3) (v64 (Za f n)))∧(tt∧(u8s zs).all (okV (fun l=>l.blt 68) 3)=true∧tt∧tt∧tt∧True∧u8s zs=List.map (rnV (lift 68 75 [64,65,66,67]) 3) (u8s zs))∧True)∧(tt∧n≤n)∧(tt∧N≤N)∧True)∧((↑t:Int) !=(0:Int))=true):=by kernel_rfl
theorem Zkn (i:In) (fr:Nat→Cp) (cB:Cp) (w a t:Nat) (zs:List UInt8) (f:Nat→Bool) (N m n:Nat):obs (evF Tryz.prog (Zz 3 (Zd (mvL 75 i fr cB w a 2 t zs f N m n [])) Zk) Zh 100 20 37 (mvA fr i) ⟨68,arW false zs f N m n,arO N n,0,(tb 9 369),0,True⟩)=some (Value.tuple { toList:=[Value.agg ⟨[.int .u32 0,.int .u8 0,.int .u16 0,.int .u16 0,.int .u16 0,.int .u16 0,.int .u32 0,.bool false]⟩,.int .i64 (↑t)] },(((((((((((bif ZI (0+i.b.toNat*8+8) (frL fr)&&Zi [Value.int .u32 0,.int .u8 0,.int .u16 0,.int .u16 0,.int .u16 0,.int .u16 0,.int .u32 0,.bool false] (frL fr) (0+i.b.toNat*8) then bif decide ((0:Int)≤i.b)&&decide (i.b<(16:Int)) then bif ZI (0+i.a.toNat*8+8) (frL fr)&&Zi [Value.int .u32 0,.int .u8 0,.int .u16 0,.int .u16 0,.int .u16 0,.int .u16 0,.int .u32 0,.bool false] (frL fr) (0+i.a.toNat*8) then bif decide ((0:Int)≤i.a)&&decide (i.a<(16:Int)) then True else False else False else False else False)∧True∧(rr (Value.int .i64 i.op)∧True)∧True∧True)∧tt)∧rr false)∧(i.op==(24:Int))=false)∧(i.op==(20:Int))=false)∧(i.op==(21:Int))=true)∧(i.op==(21:Int))=true)∧tt)∧rr false)∧True∧(Value.agg ⟨[.int .u32 (Zb (Zc undef (frL fr) (0+i.b.toNat*8))),.int .u8 (Zb (Zc undef (frL fr) (0+i.b.toNat*8+1))),.int .u16 (Zb (Zc undef (frL fr) (0+i.b.toNat*8+1+1))),.int .u16 (Zb (Zc undef (frL fr) (0+i.b.toNat*8+1+1+1))),.int .u16 (Zb (Zc undef (frL fr) (0+i.b.toNat*8+1+1+1+1))),.int .u16 (Zb (Zc undef (frL fr) (0+i.b.toNat*8+1+1+1+1+1))),.int .u32 (Zb (Zc undef (frL fr) (0+i.b.toNat*8+1+1+1+1+1+1))),.bool (Zv (Zc undef (frL fr) (0+i.b.toNat*8+1+1+1+1+1+1+1)))]⟩=Value.agg ⟨[.int .u32 (↑cB.C),.int .u8 (↑cB.E),.int .u16 (↑cB.B),.int .u16 (↑cB.T),.int .u16 (↑cB.P),.int .u16 (↑cB.Y),.int .u32 (↑cB.R),.bool cB.V]⟩∧Value.int .u32 (u32.wrap (Zb (Zc undef (frL fr) (0+i.b.toNat*8))+u32.wrap i.m))=Value.int .u32 (↑a)∧rr (Value.int .i64 (↑w))∧rr (Value.int .u16 2)∧rr (Value.pointer (some ⟨67,0,none⟩))∧True)∧((tt∧tt∧tt∧tt∧tt∧True∧rr [Value.pointer (some ⟨66,0,none⟩),.slice (some ⟨64,0,none⟩) N 9223372036854775872])∧(tt∧tt∧tt∧tt∧tt∧True∧rr [Value.int .i64 (↑m),.slice (some ⟨65,0,none⟩) n 9223372036854775873])∧(tt∧(v64 (Za f n)).all (okV (fun l=>l.blt 68) 3)=true∧tt∧tt∧tt∧True∧v64 (Za f n)=List.map (rnV (lift 68 75 [64,65,66,67]) 3) (v64 (Za f n)))∧(tt∧(u8s zs).all (okV (fun l=>l.blt 68) 3)=true∧tt∧tt∧tt∧True∧u8s zs=List.map (rnV (lift 68 75 [64,65,66,67]) 3) (u8s zs))∧True)∧(tt∧n≤n)∧(tt∧N≤N)∧True)∧((↑t:Int) !=(0:Int))=true):=by kernel_rfl
theorem Zko (i:In) (fr:Nat→Cp) (cB:Cp) (w a t:Nat) (zs:List UInt8) (f:Nat→Bool) (N m n:Nat):obs (evF Tryz.prog (Zz 3 (Zd (mvL 75 i fr cB w a 2 t zs f N m n [])) Zk) Zh 100 20 37 (mvA fr i) ⟨68,arW false zs f N m n,arO N n,0,(tb 9 353),0,True⟩)=some (Value.tuple { toList:=[Value.agg ⟨[.int .u32 0,.int .u8 0,.int .u16 0,.int .u16 0,.int .u16 0,.int .u16 0,.int .u32 0,.bool false]⟩,.int .i64 (↑t)] },(((((((((((bif ZI (0+i.b.toNat*8+8) (frL fr)&&Zi [Value.int .u32 0,.int .u8 0,.int .u16 0,.int .u16 0,.int .u16 0,.int .u16 0,.int .u32 0,.bool false] (frL fr) (0+i.b.toNat*8) then bif decide ((0:Int)≤i.b)&&decide (i.b<(16:Int)) then bif ZI (0+i.a.toNat*8+8) (frL fr)&&Zi [Value.int .u32 0,.int .u8 0,.int .u16 0,.int .u16 0,.int .u16 0,.int .u16 0,.int .u32 0,.bool false] (frL fr) (0+i.a.toNat*8) then bif decide ((0:Int)≤i.a)&&decide (i.a<(16:Int)) then True else False else False else False else False)∧True∧(rr (Value.int .i64 i.op)∧True)∧True∧True)∧tt)∧rr false)∧(i.op==(24:Int))=false)∧(i.op==(20:Int))=false)∧(i.op==(21:Int))=false)∧(i.op==(22:Int))=true)∧tt)∧rr false)∧True∧(Value.agg ⟨[.int .u32 (Zb (Zc undef (frL fr) (0+i.b.toNat*8))),.int .u8 (Zb (Zc undef (frL fr) (0+i.b.toNat*8+1))),.int .u16 (Zb (Zc undef (frL fr) (0+i.b.toNat*8+1+1))),.int .u16 (Zb (Zc undef (frL fr) (0+i.b.toNat*8+1+1+1))),.int .u16 (Zb (Zc undef (frL fr) (0+i.b.toNat*8+1+1+1+1))),.int .u16 (Zb (Zc undef (frL fr) (0+i.b.toNat*8+1+1+1+1+1))),.int .u32 (Zb (Zc undef (frL fr) (0+i.b.toNat*8+1+1+1+1+1+1))),.bool (Zv (Zc undef (frL fr) (0+i.b.toNat*8+1+1+1+1+1+1+1)))]⟩=Value.agg ⟨[.int .u32 (↑cB.C),.int .u8 (↑cB.E),.int .u16 (↑cB.B),.int .u16 (↑cB.T),.int .u16 (↑cB.P),.int .u16 (↑cB.Y),.int .u32 (↑cB.R),.bool cB.V]⟩∧Value.int .u32 (u32.wrap (Zb (Zc undef (frL fr) (0+i.b.toNat*8))+u32.wrap i.m))=Value.int .u32 (↑a)∧rr (Value.int .i64 (↑w))∧rr (Value.int .u16 2)∧rr (Value.pointer (some ⟨67,0,none⟩))∧True)∧((tt∧tt∧tt∧tt∧tt∧True∧rr [Value.pointer (some ⟨66,0,none⟩),.slice (some ⟨64,0,none⟩) N 9223372036854775872])∧(tt∧tt∧tt∧tt∧tt∧True∧rr [Value.int .i64 (↑m),.slice (some ⟨65,0,none⟩) n 9223372036854775873])∧(tt∧(v64 (Za f n)).all (okV (fun l=>l.blt 68) 3)=true∧tt∧tt∧tt∧True∧v64 (Za f n)=List.map (rnV (lift 68 75 [64,65,66,67]) 3) (v64 (Za f n)))∧(tt∧(u8s zs).all (okV (fun l=>l.blt 68) 3)=true∧tt∧tt∧tt∧True∧u8s zs=List.map (rnV (lift 68 75 [64,65,66,67]) 3) (u8s zs))∧True)∧(tt∧n≤n)∧(tt∧N≤N)∧True)∧((↑t:Int) !=(0:Int))=true):=by kernel_rfl
theorem Zmx (i:In) (fr:Nat→Cp) (cB:Cp) (w a t:Nat) (zs:List UInt8) (f:Nat→Bool) (N m n:Nat):obs (evF Tryz.prog (Zz 3 (Zd (mvL 76 i fr cB w a 18 t zs f N m n [])) Zk) Zh 100 20 37 (mvA fr i) ⟨68,arW false zs f N m n,arO N n,0,(tb 10 749),0,True⟩)=some (Value.tuple { toList:=[Value.agg ⟨[.int .u32 0,.int .u8 0,.int .u16 0,.int .u16 0,.int .u16 0,.int .u16 0,.int .u32 0,.bool false]⟩,.int .i64 (↑t)] },((((((((((((bif ZI (0+i.b.toNat*8+8) (frL fr)&&Zi [Value.int .u32 0,.int .u8 0,.int .u16 0,.int .u16 0,.int .u16 0,.int .u16 0,.int .u32 0,.bool false] (frL fr) (0+i.b.toNat*8) then bif decide ((0:Int)≤i.b)&&decide (i.b<(16:Int)) then bif ZI (0+i.a.toNat*8+8) (frL fr)&&Zi [Value.int .u32 0,.int .u8 0,.int .u16 0,.int .u16 0,.int .u16 0,.int .u16 0,.int .u32 0,.bool false] (frL fr) (0+i.a.toNat*8) then bif decide ((0:Int)≤i.a)&&decide (i.a<(16:Int)) then True else False else False else False else False)∧True∧(rr (Value.int .i64 i.op)∧True)∧True∧True)∧tt)∧rr false)∧(i.op==(24:Int))=true)∧tt)∧rr false)∧Zv (Zc undef (frL fr) (0+i.a.toNat*8+1+1+1+1+1+1+1))=true)∧tt)∧tt)∧rr false)∧True∧(Value.agg ⟨[.int .u32 (Zb (Zc undef (frL fr) (0+i.b.toNat*8))),.int .u8 (Zb (Zc undef (frL fr) (0+i.b.toNat*8+1))),.int .u16 (Zb (Zc undef (frL fr) (0+i.b.toNat*8+1+1))),.int .u16 (Zb (Zc undef (frL fr) (0+i.b.toNat*8+1+1+1))),.int .u16 (Zb (Zc undef (frL fr) (0+i.b.toNat*8+1+1+1+1))),.int .u16 (Zb (Zc undef (frL fr) (0+i.b.toNat*8+1+1+1+1+1))),.int .u32 (Zb (Zc undef (frL fr) (0+i.b.toNat*8+1+1+1+1+1+1))),.bool (Zv (Zc undef (frL fr) (0+i.b.toNat*8+1+1+1+1+1+1+1)))]⟩=Value.agg ⟨[.int .u32 (↑cB.C),.int .u8 (↑cB.E),.int .u16 (↑cB.B),.int .u16 (↑cB.T),.int .u16 (↑cB.P),.int .u16 (↑cB.Y),.int .u32 (↑cB.R),.bool cB.V]⟩∧Value.int .u32 (u32.wrap (Zb (Zc undef (frL fr) (0+i.b.toNat*8))+u32.wrap i.m))=Value.int .u32 (↑a)∧rr (Value.int .i64 (↑w))∧rr (Value.int .u16 18)∧rr (Value.pointer (some ⟨67,0,none⟩))∧True)∧((tt∧tt∧tt∧tt∧tt∧True∧rr [Value.pointer (some ⟨66,0,none⟩),.slice (some ⟨64,0,none⟩) N 9223372036854775872])∧(tt∧tt∧tt∧tt∧tt∧True∧rr [Value.int .i64 (↑m),.slice (some ⟨65,0,none⟩) n 9223372036854775873])∧(tt∧(v64 (Za f n)).all (okV (fun l=>l.blt 68) 3)=true∧tt∧tt∧tt∧True∧v64 (Za f n)=List.map (rnV (lift 68 76 [64,65,66,67]) 3) (v64 (Za f n)))∧(tt∧(u8s zs).all (okV (fun l=>l.blt 68) 3)=true∧tt∧tt∧tt∧True∧u8s zs=List.map (rnV (lift 68 76 [64,65,66,67]) 3) (u8s zs))∧True)∧(tt∧n≤n)∧(tt∧N≤N)∧True)∧((↑t:Int) !=(0:Int))=true):=by kernel_rfl
theorem Zmy (i:In) (fr:Nat→Cp) (cB:Cp) (w a t:Nat) (zs:List UInt8) (f:Nat→Bool) (N m n:Nat):obs (evF Tryz.prog (Zz 3 (Zd (mvL 75 i fr cB w a 2 t zs f N m n [])) Zk) Zh 100 20 37 (mvA fr i) ⟨68,arW false zs f N m n,arO N n,0,(tb 7 77),0,True⟩)=some (Value.tuple { toList:=[Value.agg ⟨[.int .u32 0,.int .u8 0,.int .u16 0,.int .u16 0,.int .u16 0,.int .u16 0,.int .u32 0,.bool false]⟩,.int .i64 (↑t)] },(((((((((bif ZI (0+i.b.toNat*8+8) (frL fr)&&Zi [Value.int .u32 0,.int .u8 0,.int .u16 0,.int .u16 0,.int .u16 0,.int .u16 0,.int .u32 0,.bool false] (frL fr) (0+i.b.toNat*8) then bif decide ((0:Int)≤i.b)&&decide (i.b<(16:Int)) then bif ZI (0+i.a.toNat*8+8) (frL fr)&&Zi [Value.int .u32 0,.int .u8 0,.int .u16 0,.int .u16 0,.int .u16 0,.int .u16 0,.int .u32 0,.bool false] (frL fr) (0+i.a.toNat*8) then bif decide ((0:Int)≤i.a)&&decide (i.a<(16:Int)) then True else False else False else False else False)∧True∧(rr (Value.int .i64 i.op)∧True)∧True∧True)∧tt)∧rr false)∧(i.op==(24:Int))=true)∧tt)∧rr false)∧Zv (Zc undef (frL fr) (0+i.a.toNat*8+1+1+1+1+1+1+1))=false)∧True∧(Value.agg ⟨[.int .u32 (Zb (Zc undef (frL fr) (0+i.b.toNat*8))),.int .u8 (Zb (Zc undef (frL fr) (0+i.b.toNat*8+1))),.int .u16 (Zb (Zc undef (frL fr) (0+i.b.toNat*8+1+1))),.int .u16 (Zb (Zc undef (frL fr) (0+i.b.toNat*8+1+1+1))),.int .u16 (Zb (Zc undef (frL fr) (0+i.b.toNat*8+1+1+1+1))),.int .u16 (Zb (Zc undef (frL fr) (0+i.b.toNat*8+1+1+1+1+1))),.int .u32 (Zb (Zc undef (frL fr) (0+i.b.toNat*8+1+1+1+1+1+1))),.bool (Zv (Zc undef (frL fr) (0+i.b.toNat*8+1+1+1+1+1+1+1)))]⟩=Value.agg ⟨[.int .u32 (↑cB.C),.int .u8 (↑cB.E),.int .u16 (↑cB.B),.int .u16 (↑cB.T),.int .u16 (↑cB.P),.int .u16 (↑cB.Y),.int .u32 (↑cB.R),.bool cB.V]⟩∧Value.int .u32 (u32.wrap (Zb (Zc undef (frL fr) (0+i.b.toNat*8))+u32.wrap i.m))=Value.int .u32 (↑a)∧rr (Value.int .i64 (↑w))∧rr (Value.int .u16 2)∧rr (Value.pointer (some ⟨67,0,none⟩))∧True)∧((tt∧tt∧tt∧tt∧tt∧True∧rr [Value.pointer (some ⟨66,0,none⟩),.slice (some ⟨64,0,none⟩) N 9223372036854775872])∧(tt∧tt∧tt∧tt∧tt∧True∧rr [Value.int .i64 (↑m),.slice (some ⟨65,0,none⟩) n 9223372036854775873])∧(tt∧(v64 (Za f n)).all (okV (fun l=>l.blt 68) 3)=true∧tt∧tt∧tt∧True∧v64 (Za f n)=List.map (rnV (lift 68 75 [64,65,66,67]) 3) (v64 (Za f n)))∧(tt∧(u8s zs).all (okV (fun l=>l.blt 68) 3)=true∧tt∧tt∧tt∧True∧u8s zs=List.map (rnV (lift 68 75 [64,65,66,67]) 3) (u8s zs))∧True)∧(tt∧n≤n)∧(tt∧N≤N)∧True)∧((↑t:Int) !=(0:Int))=true):=by kernel_rfl
theorem Zmz (i:In) (fr:Nat→Cp) (cB:Cp) (w a t:Nat) (zs:List UInt8) (f:Nat→Bool) (N m n v:Nat):obs (evF Tryz.prog (Zz 3 (Zd (mvL 74 i fr cB w a 1 t zs f N m n [(74,30,ZdC [Value.pointer (some ⟨67,0,none⟩),.int .u32 (↑a),.int .i64 (↑w)] (Value.tuple { toList:=[Value.int .u32 (↑v),.bool true] }) zs f N m n,[64,65,66,67])])) Zk) Zh 100 20 37 (mvA fr i) ⟨68,arW false zs f N m n,arO N n,0,(tb 12 1),0,True⟩)=some (Value.tuple { toList:=[Value.agg ⟨[.int .u32 (↑v),.int .u8 0,.int .u16 0,.int .u16 0,.int .u16 0,.int .u16 0,.int .u32 0,.bool false]⟩,.int .i64 0] },(((((((((((((((bif ZI (0+i.b.toNat*8+8) (frL fr)&&Zi [Value.int .u32 0,.int .u8 0,.int .u16 0,.int .u16 0,.int .u16 0,.int .u16 0,.int .u32 0,.bool false] (frL fr) (0+i.b.toNat*8) then bif decide ((0:Int)≤i.b)&&decide (i.b<(16:Int)) then bif ZI (0+i.a.toNat*8+8) (frL fr)&&Zi [Value.int .u32 0,.int .u8 0,.int .u16 0,.int .u16 0,.int .u16 0,.int .u16 0,.int .u32 0,.bool false] (frL fr) (0+i.a.toNat*8) then bif decide ((0:Int)≤i.a)&&decide (i.a<(16:Int)) then True else False else False else False else False)∧True∧(rr (Value.int .i64 i.op)∧True)∧True∧True)∧tt)∧rr false)∧(i.op==(24:Int))=false)∧(i.op==(20:Int))=false)∧(i.op==(21:Int))=false)∧(i.op==(22:Int))=false)∧True∧(Value.agg ⟨[.int .u32 (Zb (Zc undef (frL fr) (0+i.b.toNat*8))),.int .u8 (Zb (Zc undef (frL fr) (0+i.b.toNat*8+1))),.int .u16 (Zb (Zc undef (frL fr) (0+i.b.toNat*8+1+1))),.int .u16 (Zb (Zc undef (frL fr) (0+i.b.toNat*8+1+1+1))),.int .u16 (Zb (Zc undef (frL fr) (0+i.b.toNat*8+1+1+1+1))),.int .u16 (Zb (Zc undef (frL fr) (0+i.b.toNat*8+1+1+1+1+1))),.int .u32 (Zb (Zc undef (frL fr) (0+i.b.toNat*8+1+1+1+1+1+1))),.bool (Zv (Zc undef (frL fr) (0+i.b.toNat*8+1+1+1+1+1+1+1)))]⟩=Value.agg ⟨[.int .u32 (↑cB.C),.int .u8 (↑cB.E),.int .u16 (↑cB.B),.int .u16 (↑cB.T),.int .u16 (↑cB.P),.int .u16 (↑cB.Y),.int .u32 (↑cB.R),.bool cB.V]⟩∧Value.int .u32 (u32.wrap (Zb (Zc undef (frL fr) (0+i.b.toNat*8))+u32.wrap i.m))=Value.int .u32 (↑a)∧rr (Value.int .i64 (↑w))∧rr (Value.int .u16 1)∧rr (Value.pointer (some ⟨67,0,none⟩))∧True)∧((tt∧tt∧tt∧tt∧tt∧True∧rr [Value.pointer (some ⟨66,0,none⟩),.slice (some ⟨64,0,none⟩) N 9223372036854775872])∧(tt∧tt∧tt∧tt∧tt∧True∧rr [Value.int .i64 (↑m),.slice (some ⟨65,0,none⟩) n 9223372036854775873])∧(tt∧(v64 (Za f n)).all (okV (fun l=>l.blt 68) 3)=true∧tt∧tt∧tt∧True∧v64 (Za f n)=List.map (rnV (lift 68 74 [64,65,66,67]) 3) (v64 (Za f n)))∧(tt∧(u8s zs).all (okV (fun l=>l.blt 68) 3)=true∧tt∧tt∧tt∧True∧u8s zs=List.map (rnV (lift 68 74 [64,65,66,67]) 3) (u8s zs))∧True)∧(tt∧n≤n)∧(tt∧N≤N)∧True)∧((↑t:Int) !=(0:Int))=false)∧(i.op==(24:Int))=false)∧(i.op==(20:Int))=false)∧(i.op==(21:Int))=false)∧(i.op==(22:Int))=false)∧(i.op==(23:Int))=false)∧True∧(rr (Value.pointer (some ⟨67,0,none⟩))∧Value.int .u32 (u32.wrap (Zb (Zc undef (frL fr) (0+i.b.toNat*8))+u32.wrap i.m))=Value.int .u32 (↑a)∧rr (Value.int .i64 (↑w))∧True)∧((tt∧tt∧tt∧tt∧tt∧True∧rr [Value.pointer (some ⟨66,0,none⟩),.slice (some ⟨64,0,none⟩) N 9223372036854775872])∧(tt∧tt∧tt∧tt∧tt∧True∧rr [Value.int .i64 (↑m),.slice (some ⟨65,0,none⟩) n 9223372036854775873])∧(tt∧(v64 (Za f n)).all (okV (fun l=>l.blt 68) 3)=true∧tt∧tt∧tt∧True∧v64 (Za f n)=List.map (rnV (lift 68 74 [64,65,66,67]) 3) (v64 (Za f n)))∧(tt∧(u8s zs).all (okV (fun l=>l.blt 68) 3)=true∧tt∧tt∧tt∧True∧u8s zs=List.map (rnV (lift 68 74 [64,65,66,67]) 3) (u8s zs))∧True)∧(tt∧n≤n)∧(tt∧N≤N)∧True):=by kernel_rfl
theorem ZmA (i:In) (fr:Nat→Cp) (cB:Cp) (w a t:Nat) (zs:List UInt8) (f:Nat→Bool) (N m n:Nat) (cL:Cp):obs (evF Tryz.prog (Zz 3 (Zd (mvL 74 i fr cB w a 1 t zs f N m n [(74,48,ZdC [Value.pointer (some ⟨67,0,none⟩),.int .u32 (↑a)] (Value.tuple { toList:=[cL.val,.bool true] }) zs f N m n,[64,65,66,67])])) Zk) Zh 100 20 37 (mvA fr i) ⟨68,arW false zs f N m n,arO N n,0,(tb 17 129025),0,True⟩)=some (Value.tuple { toList:=[Value.agg ⟨[.int .u32 (↑cL.C),.int .u8 (↑cL.E),.int .u16 (↑cL.B),.int .u16 (↑cL.T),.int .u16 (↑cL.P),.int .u16 (↑cL.Y),.int .u32 (↑cL.R),.bool (bits BinOp.and u16 (Zb (Zc undef (frL fr) (0+i.b.toNat*8+1+1+1+1))) (8:Int) !=(0:Int))]⟩,.int .i64 0] },((((((((((((((((((((bif ZI (0+i.b.toNat*8+8) (frL fr)&&Zi [Value.int .u32 0,.int .u8 0,.int .u16 0,.int .u16 0,.int .u16 0,.int .u16 0,.int .u32 0,.bool false] (frL fr) (0+i.b.toNat*8) then bif decide ((0:Int)≤i.b)&&decide (i.b<(16:Int)) then bif ZI (0+i.a.toNat*8+8) (frL fr)&&Zi [Value.int .u32 0,.int .u8 0,.int .u16 0,.int .u16 0,.int .u16 0,.int .u16 0,.int .u32 0,.bool false] (frL fr) (0+i.a.toNat*8) then bif decide ((0:Int)≤i.a)&&decide (i.a<(16:Int)) then True else False else False else False else False)∧True∧(rr (Value.int .i64 i.op)∧True)∧True∧True)∧tt)∧rr false)∧(i.op==(24:Int))=false)∧(i.op==(20:Int))=false)∧(i.op==(21:Int))=false)∧(i.op==(22:Int))=false)∧True∧(Value.agg ⟨[.int .u32 (Zb (Zc undef (frL fr) (0+i.b.toNat*8))),.int .u8 (Zb (Zc undef (frL fr) (0+i.b.toNat*8+1))),.int .u16 (Zb (Zc undef (frL fr) (0+i.b.toNat*8+1+1))),.int .u16 (Zb (Zc undef (frL fr) (0+i.b.toNat*8+1+1+1))),.int .u16 (Zb (Zc undef (frL fr) (0+i.b.toNat*8+1+1+1+1))),.int .u16 (Zb (Zc undef (frL fr) (0+i.b.toNat*8+1+1+1+1+1))),.int .u32 (Zb (Zc undef (frL fr) (0+i.b.toNat*8+1+1+1+1+1+1))),.bool (Zv (Zc undef (frL fr) (0+i.b.toNat*8+1+1+1+1+1+1+1)))]⟩=Value.agg ⟨[.int .u32 (↑cB.C),.int .u8 (↑cB.E),.int .u16 (↑cB.B),.int .u16 (↑cB.T),.int .u16 (↑cB.P),.int .u16 (↑cB.Y),.int .u32 (↑cB.R),.bool cB.V]⟩∧Value.int .u32 (u32.wrap (Zb (Zc undef (frL fr) (0+i.b.toNat*8))+u32.wrap i.m))=Value.int .u32 (↑a)∧rr (Value.int .i64 (↑w))∧rr (Value.int .u16 1)∧rr (Value.pointer (some ⟨67,0,none⟩))∧True)∧((tt∧tt∧tt∧tt∧tt∧True∧rr [Value.pointer (some ⟨66,0,none⟩),.slice (some ⟨64,0,none⟩) N 9223372036854775872])∧(tt∧tt∧tt∧tt∧tt∧True∧rr [Value.int .i64 (↑m),.slice (some ⟨65,0,none⟩) n 9223372036854775873])∧(tt∧(v64 (Za f n)).all (okV (fun l=>l.blt 68) 3)=true∧tt∧tt∧tt∧True∧v64 (Za f n)=List.map (rnV (lift 68 74 [64,65,66,67]) 3) (v64 (Za f n)))∧(tt∧(u8s zs).all (okV (fun l=>l.blt 68) 3)=true∧tt∧tt∧tt∧True∧u8s zs=List.map (rnV (lift 68 74 [64,65,66,67]) 3) (u8s zs))∧True)∧(tt∧n≤n)∧(tt∧N≤N)∧True)∧((↑t:Int) !=(0:Int))=false)∧(i.op==(24:Int))=false)∧(i.op==(20:Int))=false)∧(i.op==(21:Int))=false)∧(i.op==(22:Int))=false)∧(i.op==(23:Int))=true)∧True∧(rr (Value.pointer (some ⟨67,0,none⟩))∧Value.int .u32 (u32.wrap (Zb (Zc undef (frL fr) (0+i.b.toNat*8))+u32.wrap i.m))=Value.int .u32 (↑a)∧True)∧((tt∧tt∧tt∧tt∧tt∧True∧rr [Value.pointer (some ⟨66,0,none⟩),.slice (some ⟨64,0,none⟩) N 9223372036854775872])∧(tt∧tt∧tt∧tt∧tt∧True∧rr [Value.int .i64 (↑m),.slice (some ⟨65,0,none⟩) n 9223372036854775873])∧(tt∧(v64 (Za f n)).all (okV (fun l=>l.blt 68) 3)=true∧tt∧tt∧tt∧True∧v64 (Za f n)=List.map (rnV (lift 68 74 [64,65,66,67]) 3) (v64 (Za f n)))∧(tt∧(u8s zs).all (okV (fun l=>l.blt 68) 3)=true∧tt∧tt∧tt∧True∧u8s zs=List.map (rnV (lift 68 74 [64,65,66,67]) 3) (u8s zs))∧True)∧(tt∧n≤n)∧(tt∧N≤N)∧True)∧cL.V=true)∧cL.V=true)∧cL.V=true)∧cL.V=true)∧cL.V=true):=by kernel_rfl
theorem ZmB (i:In) (fr:Nat→Cp) (cB:Cp) (w a t:Nat) (zs:List UInt8) (f:Nat→Bool) (N m n:Nat) (cL:Cp):obs (evF Tryz.prog (Zz 3 (Zd (mvL 74 i fr cB w a 1 t zs f N m n [(74,48,ZdC [Value.pointer (some ⟨67,0,none⟩),.int .u32 (↑a)] (Value.tuple { toList:=[cL.val,.bool true] }) zs f N m n,[64,65,66,67])])) Zk) Zh 100 20 37 (mvA fr i) ⟨68,arW false zs f N m n,arO N n,0,(tb 17 2049),0,True⟩)=some (Value.tuple { toList:=[Value.agg ⟨[.int .u32 (↑cL.C),.int .u8 (↑cL.E),.int .u16 (↑cL.B),.int .u16 (↑cL.T),.int .u16 (↑cL.P),.int .u16 (↑cL.Y),.int .u32 (↑cL.R),.bool false]⟩,.int .i64 0] },((((((((((((((((((((bif ZI (0+i.b.toNat*8+8) (frL fr)&&Zi [Value.int .u32 0,.int .u8 0,.int .u16 0,.int .u16 0,.int .u16 0,.int .u16 0,.int .u32 0,.bool false] (frL fr) (0+i.b.toNat*8) then bif decide ((0:Int)≤i.b)&&decide (i.b<(16:Int)) then bif ZI (0+i.a.toNat*8+8) (frL fr)&&Zi [Value.int .u32 0,.int .u8 0,.int .u16 0,.int .u16 0,.int .u16 0,.int .u16 0,.int .u32 0,.bool false] (frL fr) (0+i.a.toNat*8) then bif decide ((0:Int)≤i.a)&&decide (i.a<(16:Int)) then True else False else False else False else False)∧True∧(rr (Value.int .i64 i.op)∧True)∧True∧True)∧tt)∧rr false)∧(i.op==(24:Int))=false)∧(i.op==(20:Int))=false)∧(i.op==(21:Int))=false)∧(i.op==(22:Int))=false)∧True∧(Value.agg ⟨[.int .u32 (Zb (Zc undef (frL fr) (0+i.b.toNat*8))),.int .u8 (Zb (Zc undef (frL fr) (0+i.b.toNat*8+1))),.int .u16 (Zb (Zc undef (frL fr) (0+i.b.toNat*8+1+1))),.int .u16 (Zb (Zc undef (frL fr) (0+i.b.toNat*8+1+1+1))),.int .u16 (Zb (Zc undef (frL fr) (0+i.b.toNat*8+1+1+1+1))),.int .u16 (Zb (Zc undef (frL fr) (0+i.b.toNat*8+1+1+1+1+1))),.int .u32 (Zb (Zc undef (frL fr) (0+i.b.toNat*8+1+1+1+1+1+1))),.bool (Zv (Zc undef (frL fr) (0+i.b.toNat*8+1+1+1+1+1+1+1)))]⟩=Value.agg ⟨[.int .u32 (↑cB.C),.int .u8 (↑cB.E),.int .u16 (↑cB.B),.int .u16 (↑cB.T),.int .u16 (↑cB.P),.int .u16 (↑cB.Y),.int .u32 (↑cB.R),.bool cB.V]⟩∧Value.int .u32 (u32.wrap (Zb (Zc undef (frL fr) (0+i.b.toNat*8))+u32.wrap i.m))=Value.int .u32 (↑a)∧rr (Value.int .i64 (↑w))∧rr (Value.int .u16 1)∧rr (Value.pointer (some ⟨67,0,none⟩))∧True)∧((tt∧tt∧tt∧tt∧tt∧True∧rr [Value.pointer (some ⟨66,0,none⟩),.slice (some ⟨64,0,none⟩) N 9223372036854775872])∧(tt∧tt∧tt∧tt∧tt∧True∧rr [Value.int .i64 (↑m),.slice (some ⟨65,0,none⟩) n 9223372036854775873])∧(tt∧(v64 (Za f n)).all (okV (fun l=>l.blt 68) 3)=true∧tt∧tt∧tt∧True∧v64 (Za f n)=List.map (rnV (lift 68 74 [64,65,66,67]) 3) (v64 (Za f n)))∧(tt∧(u8s zs).all (okV (fun l=>l.blt 68) 3)=true∧tt∧tt∧tt∧True∧u8s zs=List.map (rnV (lift 68 74 [64,65,66,67]) 3) (u8s zs))∧True)∧(tt∧n≤n)∧(tt∧N≤N)∧True)∧((↑t:Int) !=(0:Int))=false)∧(i.op==(24:Int))=false)∧(i.op==(20:Int))=false)∧(i.op==(21:Int))=false)∧(i.op==(22:Int))=false)∧(i.op==(23:Int))=true)∧True∧(rr (Value.pointer (some ⟨67,0,none⟩))∧Value.int .u32 (u32.wrap (Zb (Zc undef (frL fr) (0+i.b.toNat*8))+u32.wrap i.m))=Value.int .u32 (↑a)∧True)∧((tt∧tt∧tt∧tt∧tt∧True∧rr [Value.pointer (some ⟨66,0,none⟩),.slice (some ⟨64,0,none⟩) N 9223372036854775872])∧(tt∧tt∧tt∧tt∧tt∧True∧rr [Value.int .i64 (↑m),.slice (some ⟨65,0,none⟩) n 9223372036854775873])∧(tt∧(v64 (Za f n)).all (okV (fun l=>l.blt 68) 3)=true∧tt∧tt∧tt∧True∧v64 (Za f n)=List.map (rnV (lift 68 74 [64,65,66,67]) 3) (v64 (Za f n)))∧(tt∧(u8s zs).all (okV (fun l=>l.blt 68) 3)=true∧tt∧tt∧tt∧True∧u8s zs=List.map (rnV (lift 68 74 [64,65,66,67]) 3) (u8s zs))∧True)∧(tt∧n≤n)∧(tt∧N≤N)∧True)∧cL.V=false)∧cL.V=false)∧cL.V=false)∧cL.V=false)∧cL.V=false):=by kernel_rfl
theorem Zkp (i:In) (fr:Nat→Cp) (cB:Cp) (w a t:Nat) (zs:List UInt8) (f:Nat→Bool) (N m n v:Nat) (zs2:List UInt8) (f2:Nat→Bool):evF Tryz.prog (Zz 3 (Zd (mvL 75 i fr cB w a 2 t zs f N m n [(75,42,KX [Value.pointer (some ⟨67,0,none⟩),.int .u32 (↑a),.int .i64 (↑w),.int .u32 (↑v)] zs zs2 f f2 N m n,[64,65,66,67])])) Zk) Zh 100 20 37 (mvA fr i) ⟨68,arW true zs f N m n,arO N n,0,(tb 11 1593),0,True⟩=some (Value.tuple { toList:=[Value.agg ⟨[.int .u32 (Zb (Zc undef (frL fr) (0+i.a.toNat*8))),.int .u8 (Zb (Zc undef (frL fr) (0+i.a.toNat*8+1))),.int .u16 (Zb (Zc undef (frL fr) (0+i.a.toNat*8+1+1))),.int .u16 (Zb (Zc undef (frL fr) (0+i.a.toNat*8+1+1+1))),.int .u16 (Zb (Zc undef (frL fr) (0+i.a.toNat*8+1+1+1+1))),.int .u16 (Zb (Zc undef (frL fr) (0+i.a.toNat*8+1+1+1+1+1))),.int .u32 (Zb (Zc undef (frL fr) (0+i.a.toNat*8+1+1+1+1+1+1))),.bool (Zv (Zc undef (frL fr) (0+i.a.toNat*8+1+1+1+1+1+1+1)))]⟩,.int .i64 0] },{ n:=75,h:=[(67,⟨true,none,[Value.pointer (some ⟨66,0,none⟩),.slice (some ⟨64,0,none⟩) N 9223372036854775872],none⟩),(66,⟨true,none,[Value.int .i64 (↑m),.slice (some ⟨65,0,none⟩) n 9223372036854775873],none⟩),(65,⟨true,some (65,1),v64 (Za f2 n),none⟩),(64,⟨true,some (64,1),u8s zs2,none⟩)],lo:=[(65,n),(64,N),(65,n),(64,N)],esc:=0,T:=[],k:=11,O:=((((((((((((((bif ZI (0+i.b.toNat*8+8) (frL fr)&&Zi [Value.int .u32 0,.int .u8 0,.int .u16 0,.int .u16 0,.int .u16 0,.int .u16 0,.int .u32 0,.bool false] (frL fr) (0+i.b.toNat*8) then bif decide ((0:Int)≤i.b)&&decide (i.b<(16:Int)) then bif ZI (0+i.a.toNat*8+8) (frL fr)&&Zi [Value.int .u32 0,.int .u8 0,.int .u16 0,.int .u16 0,.int .u16 0,.int .u16 0,.int .u32 0,.bool false] (frL fr) (0+i.a.toNat*8) then bif decide ((0:Int)≤i.a)&&decide (i.a<(16:Int)) then True else False else False else False else False)∧True∧(rr (Value.int .i64 i.op)∧True)∧True∧True)∧tt)∧rr false)∧(i.op==(24:Int))=false)∧(i.op==(20:Int))=true)∧(i.op==(20:Int))=true)∧tt)∧rr false)∧True∧(Value.agg ⟨[.int .u32 (Zb (Zc undef (frL fr) (0+i.b.toNat*8))),.int .u8 (Zb (Zc undef (frL fr) (0+i.b.toNat*8+1))),.int .u16 (Zb (Zc undef (frL fr) (0+i.b.toNat*8+1+1))),.int .u16 (Zb (Zc undef (frL fr) (0+i.b.toNat*8+1+1+1))),.int .u16 (Zb (Zc undef (frL fr) (0+i.b.toNat*8+1+1+1+1))),.int .u16 (Zb (Zc undef (frL fr) (0+i.b.toNat*8+1+1+1+1+1))),.int .u32 (Zb (Zc undef (frL fr) (0+i.b.toNat*8+1+1+1+1+1+1))),.bool (Zv (Zc undef (frL fr) (0+i.b.toNat*8+1+1+1+1+1+1+1)))]⟩=Value.agg ⟨[.int .u32 (↑cB.C),.int .u8 (↑cB.E),.int .u16 (↑cB.B),.int .u16 (↑cB.T),.int .u16 (↑cB.P),.int .u16 (↑cB.Y),.int .u32 (↑cB.R),.bool cB.V]⟩∧Value.int .u32 (u32.wrap (Zb (Zc undef (frL fr) (0+i.b.toNat*8))+u32.wrap i.m))=Value.int .u32 (↑a)∧rr (Value.int .i64 (↑w))∧rr (Value.int .u16 2)∧rr (Value.pointer (some ⟨67,0,none⟩))∧True)∧((tt∧tt∧tt∧tt∧tt∧True∧rr [Value.pointer (some ⟨66,0,none⟩),.slice (some ⟨64,0,none⟩) N 9223372036854775872])∧(tt∧tt∧tt∧tt∧tt∧True∧rr [Value.int .i64 (↑m),.slice (some ⟨65,0,none⟩) n 9223372036854775873])∧(tt∧(v64 (Za f n)).all (okV (fun l=>l.blt 68) 3)=true∧tt∧tt∧tt∧True∧v64 (Za f n)=List.map (rnV (lift 68 75 [64,65,66,67]) 3) (v64 (Za f n)))∧(tt∧(u8s zs).all (okV (fun l=>l.blt 68) 3)=true∧tt∧tt∧tt∧True∧u8s zs=List.map (rnV (lift 68 75 [64,65,66,67]) 3) (u8s zs))∧True)∧(tt∧n≤n)∧(tt∧N≤N)∧True)∧((↑t:Int) !=(0:Int))=false)∧(i.op==(24:Int))=false)∧(i.op==(20:Int))=true)∧(i.op==(20:Int))=true)∧True∧(rr (Value.pointer (some ⟨67,0,none⟩))∧Value.int .u32 (u32.wrap (Zb (Zc undef (frL fr) (0+i.b.toNat*8))+u32.wrap i.m))=Value.int .u32 (↑a)∧rr (Value.int .i64 (↑w))∧Value.int .u32 (Zb (Zc undef (frL fr) (0+i.a.toNat*8)))=Value.int .u32 (↑v)∧True)∧((tt∧tt∧tt∧tt∧tt∧True∧rr [Value.pointer (some ⟨66,0,none⟩),.slice (some ⟨64,0,none⟩) N 9223372036854775872])∧(tt∧tt∧tt∧tt∧tt∧True∧rr [Value.int .i64 (↑m),.slice (some ⟨65,0,none⟩) n 9223372036854775873])∧(tt∧(v64 (Za f n)).all (okV (fun l=>l.blt 68) 3)=true∧tt∧tt∧tt∧True∧v64 (Za f n)=List.map (rnV (lift 68 75 [64,65,66,67]) 3) (v64 (Za f n)))∧(tt∧(u8s zs).all (okV (fun l=>l.blt 68) 3)=true∧tt∧tt∧tt∧True∧u8s zs=List.map (rnV (lift 68 75 [64,65,66,67]) 3) (u8s zs))∧True)∧(tt∧n≤n)∧(tt∧N≤N)∧True:St }):=by kernel_rfl
theorem Zkq (i:In) (fr:Nat→Cp) (cB:Cp) (w a t:Nat) (zs:List UInt8) (f:Nat→Bool) (N m n v:Nat) (zs2:List UInt8) (f2:Nat→Bool):evF Tryz.prog (Zz 3 (Zd (mvL 75 i fr cB w a 2 t zs f N m n [(75,42,KX [Value.pointer (some ⟨67,0,none⟩),.int .u32 (↑a),.int .i64 (↑w),.int .u32 (↑v)] zs zs2 f f2 N m n,[64,65,66,67])])) Zk) Zh 100 20 37 (mvA fr i) ⟨68,arW true zs f N m n,arO N n,0,(tb 13 6257),0,True⟩=some (Value.tuple { toList:=[Value.agg ⟨[.int .u32 (Zb (Zc undef (frL fr) (0+i.a.toNat*8))),.int .u8 (Zb (Zc undef (frL fr) (0+i.a.toNat*8+1))),.int .u16 (Zb (Zc undef (frL fr) (0+i.a.toNat*8+1+1))),.int .u16 (Zb (Zc undef (frL fr) (0+i.a.toNat*8+1+1+1))),.int .u16 (Zb (Zc undef (frL fr) (0+i.a.toNat*8+1+1+1+1))),.int .u16 (Zb (Zc undef (frL fr) (0+i.a.toNat*8+1+1+1+1+1))),.int .u32 (Zb (Zc undef (frL fr) (0+i.a.toNat*8+1+1+1+1+1+1))),.bool (Zv (Zc undef (frL fr) (0+i.a.toNat*8+1+1+1+1+1+1+1)))]⟩,.int .i64 0] },{ n:=75,h:=[(67,⟨true,none,[Value.pointer (some ⟨66,0,none⟩),.slice (some ⟨64,0,none⟩) N 9223372036854775872],none⟩),(66,⟨true,none,[Value.int .i64 (↑m),.slice (some ⟨65,0,none⟩) n 9223372036854775873],none⟩),(65,⟨true,some (65,1),v64 (Za f2 n),none⟩),(64,⟨true,some (64,1),u8s zs2,none⟩)],lo:=[(65,n),(64,N),(65,n),(64,N)],esc:=0,T:=[],k:=13,O:=((((((((((((((((bif ZI (0+i.b.toNat*8+8) (frL fr)&&Zi [Value.int .u32 0,.int .u8 0,.int .u16 0,.int .u16 0,.int .u16 0,.int .u16 0,.int .u32 0,.bool false] (frL fr) (0+i.b.toNat*8) then bif decide ((0:Int)≤i.b)&&decide (i.b<(16:Int)) then bif ZI (0+i.a.toNat*8+8) (frL fr)&&Zi [Value.int .u32 0,.int .u8 0,.int .u16 0,.int .u16 0,.int .u16 0,.int .u16 0,.int .u32 0,.bool false] (frL fr) (0+i.a.toNat*8) then bif decide ((0:Int)≤i.a)&&decide (i.a<(16:Int)) then True else False else False else False else False)∧True∧(rr (Value.int .i64 i.op)∧True)∧True∧True)∧tt)∧rr false)∧(i.op==(24:Int))=false)∧(i.op==(20:Int))=false)∧(i.op==(21:Int))=true)∧(i.op==(21:Int))=true)∧tt)∧rr false)∧True∧(Value.agg ⟨[.int .u32 (Zb (Zc undef (frL fr) (0+i.b.toNat*8))),.int .u8 (Zb (Zc undef (frL fr) (0+i.b.toNat*8+1))),.int .u16 (Zb (Zc undef (frL fr) (0+i.b.toNat*8+1+1))),.int .u16 (Zb (Zc undef (frL fr) (0+i.b.toNat*8+1+1+1))),.int .u16 (Zb (Zc undef (frL fr) (0+i.b.toNat*8+1+1+1+1))),.int .u16 (Zb (Zc undef (frL fr) (0+i.b.toNat*8+1+1+1+1+1))),.int .u32 (Zb (Zc undef (frL fr) (0+i.b.toNat*8+1+1+1+1+1+1))),.bool (Zv (Zc undef (frL fr) (0+i.b.toNat*8+1+1+1+1+1+1+1)))]⟩=Value.agg ⟨[.int .u32 (↑cB.C),.int .u8 (↑cB.E),.int .u16 (↑cB.B),.int .u16 (↑cB.T),.int .u16 (↑cB.P),.int .u16 (↑cB.Y),.int .u32 (↑cB.R),.bool cB.V]⟩∧Value.int .u32 (u32.wrap (Zb (Zc undef (frL fr) (0+i.b.toNat*8))+u32.wrap i.m))=Value.int .u32 (↑a)∧rr (Value.int .i64 (↑w))∧rr (Value.int .u16 2)∧rr (Value.pointer (some ⟨67,0,none⟩))∧True)∧((tt∧tt∧tt∧tt∧tt∧True∧rr [Value.pointer (some ⟨66,0,none⟩),.slice (some ⟨64,0,none⟩) N 9223372036854775872])∧(tt∧tt∧tt∧tt∧tt∧True∧rr [Value.int .i64 (↑m),.slice (some ⟨65,0,none⟩) n 9223372036854775873])∧(tt∧(v64 (Za f n)).all (okV (fun l=>l.blt 68) 3)=true∧tt∧tt∧tt∧True∧v64 (Za f n)=List.map (rnV (lift 68 75 [64,65,66,67]) 3) (v64 (Za f n)))∧(tt∧(u8s zs).all (okV (fun l=>l.blt 68) 3)=true∧tt∧tt∧tt∧True∧u8s zs=List.map (rnV (lift 68 75 [64,65,66,67]) 3) (u8s zs))∧True)∧(tt∧n≤n)∧(tt∧N≤N)∧True)∧((↑t:Int) !=(0:Int))=false)∧(i.op==(24:Int))=false)∧(i.op==(20:Int))=false)∧(i.op==(21:Int))=true)∧(i.op==(21:Int))=true)∧True∧(rr (Value.pointer (some ⟨67,0,none⟩))∧Value.int .u32 (u32.wrap (Zb (Zc undef (frL fr) (0+i.b.toNat*8))+u32.wrap i.m))=Value.int .u32 (↑a)∧rr (Value.int .i64 (↑w))∧Value.int .u32 (Zb (Zc undef (frL fr) (0+i.a.toNat*8)))=Value.int .u32 (↑v)∧True)∧((tt∧tt∧tt∧tt∧tt∧True∧rr [Value.pointer (some ⟨66,0,none⟩),.slice (some ⟨64,0,none⟩) N 9223372036854775872])∧(tt∧tt∧tt∧tt∧tt∧True∧rr [Value.int .i64 (↑m),.slice (some ⟨65,0,none⟩) n 9223372036854775873])∧(tt∧(v64 (Za f n)).all (okV (fun l=>l.blt 68) 3)=true∧tt∧tt∧tt∧True∧v64 (Za f n)=List.map (rnV (lift 68 75 [64,65,66,67]) 3) (v64 (Za f n)))∧(tt∧(u8s zs).all (okV (fun l=>l.blt 68) 3)=true∧tt∧tt∧tt∧True∧u8s zs=List.map (rnV (lift 68 75 [64,65,66,67]) 3) (u8s zs))∧True)∧(tt∧n≤n)∧(tt∧N≤N)∧True:St }):=by kernel_rfl
theorem Zkr (i:In) (fr:Nat→Cp) (cB:Cp) (w a t:Nat) (zs:List UInt8) (f:Nat→Bool) (N m n v:Nat) (zs2:List UInt8) (f2:Nat→Bool):evF Tryz.prog (Zz 3 (Zd (mvL 75 i fr cB w a 2 t zs f N m n [(75,42,KX [Value.pointer (some ⟨67,0,none⟩),.int .u32 (↑a),.int .i64 (↑w),.int .u32 (↑v)] zs zs2 f f2 N m n,[64,65,66,67])])) Zk) Zh 100 20 37 (mvA fr i) ⟨68,arW true zs f N m n,arO N n,0,(tb 13 4193),0,True⟩=some (Value.tuple { toList:=[Value.agg ⟨[.int .u32 (Zb (Zc undef (frL fr) (0+i.a.toNat*8))),.int .u8 (Zb (Zc undef (frL fr) (0+i.a.toNat*8+1))),.int .u16 (Zb (Zc undef (frL fr) (0+i.a.toNat*8+1+1))),.int .u16 (Zb (Zc undef (frL fr) (0+i.a.toNat*8+1+1+1))),.int .u16 (Zb (Zc undef (frL fr) (0+i.a.toNat*8+1+1+1+1))),.int .u16 (Zb (Zc undef (frL fr) (0+i.a.toNat*8+1+1+1+1+1))),.int .u32 (Zb (Zc undef (frL fr) (0+i.a.toNat*8+1+1+1+1+1+1))),.bool (Zv (Zc undef (frL fr) (0+i.a.toNat*8+1+1+1+1+1+1+1)))]⟩,.int .i64 0] },{ n:=75,h:=[(67,⟨true,none,[Value.pointer (some ⟨66,0,none⟩),.slice (some ⟨64,0,none⟩) N 9223372036854775872],none⟩),(66,⟨true,none,[Value.int .i64 (↑m),.slice (some ⟨65,0,none⟩) n 9223372036854775873],none⟩),(65,⟨true,some (65,1),v64 (Za f2 n),none⟩),(64,⟨true,some (64,1),u8s zs2,none⟩)],lo:=[(65,n),(64,N),(65,n),(64,N)],esc:=0,T:=[],k:=13,O:=((((((((((((((((bif ZI (0+i.b.toNat*8+8) (frL fr)&&Zi [Value.int .u32 0,.int .u8 0,.int .u16 0,.int .u16 0,.int .u16 0,.int .u16 0,.int .u32 0,.bool false] (frL fr) (0+i.b.toNat*8) then bif decide ((0:Int)≤i.b)&&decide (i.b<(16:Int)) then bif ZI (0+i.a.toNat*8+8) (frL fr)&&Zi [Value.int .u32 0,.int .u8 0,.int .u16 0,.int .u16 0,.int .u16 0,.int .u16 0,.int .u32 0,.bool false] (frL fr) (0+i.a.toNat*8) then bif decide ((0:Int)≤i.a)&&decide (i.a<(16:Int)) then True else False else False else False else False)∧True∧(rr (Value.int .i64 i.op)∧True)∧True∧True)∧tt)∧rr false)∧(i.op==(24:Int))=false)∧(i.op==(20:Int))=false)∧(i.op==(21:Int))=false)∧(i.op==(22:Int))=true)∧tt)∧rr false)∧True∧(Value.agg ⟨[.int .u32 (Zb (Zc undef (frL fr) (0+i.b.toNat*8))),.int .u8 (Zb (Zc undef (frL fr) (0+i.b.toNat*8+1))),.int .u16 (Zb (Zc undef (frL fr) (0+i.b.toNat*8+1+1))),.int .u16 (Zb (Zc undef (frL fr) (0+i.b.toNat*8+1+1+1))),.int .u16 (Zb (Zc undef (frL fr) (0+i.b.toNat*8+1+1+1+1))),.int .u16 (Zb (Zc undef (frL fr) (0+i.b.toNat*8+1+1+1+1+1))),.int .u32 (Zb (Zc undef (frL fr) (0+i.b.toNat*8+1+1+1+1+1+1))),.bool (Zv (Zc undef (frL fr) (0+i.b.toNat*8+1+1+1+1+1+1+1)))]⟩=Value.agg ⟨[.int .u32 (↑cB.C),.int .u8 (↑cB.E),.int .u16 (↑cB.B),.int .u16 (↑cB.T),.int .u16 (↑cB.P),.int .u16 (↑cB.Y),.int .u32 (↑cB.R),.bool cB.V]⟩∧Value.int .u32 (u32.wrap (Zb (Zc undef (frL fr) (0+i.b.toNat*8))+u32.wrap i.m))=Value.int .u32 (↑a)∧rr (Value.int .i64 (↑w))∧rr (Value.int .u16 2)∧rr (Value.pointer (some ⟨67,0,none⟩))∧True)∧((tt∧tt∧tt∧tt∧tt∧True∧rr [Value.pointer (some ⟨66,0,none⟩),.slice (some ⟨64,0,none⟩) N 9223372036854775872])∧(tt∧tt∧tt∧tt∧tt∧True∧rr [Value.int .i64 (↑m),.slice (some ⟨65,0,none⟩) n 9223372036854775873])∧(tt∧(v64 (Za f n)).all (okV (fun l=>l.blt 68) 3)=true∧tt∧tt∧tt∧True∧v64 (Za f n)=List.map (rnV (lift 68 75 [64,65,66,67]) 3) (v64 (Za f n)))∧(tt∧(u8s zs).all (okV (fun l=>l.blt 68) 3)=true∧tt∧tt∧tt∧True∧u8s zs=List.map (rnV (lift 68 75 [64,65,66,67]) 3) (u8s zs))∧True)∧(tt∧n≤n)∧(tt∧N≤N)∧True)∧((↑t:Int) !=(0:Int))=false)∧(i.op==(24:Int))=false)∧(i.op==(20:Int))=false)∧(i.op==(21:Int))=false)∧(i.op==(22:Int))=true)∧True∧(rr (Value.pointer (some ⟨67,0,none⟩))∧Value.int .u32 (u32.wrap (Zb (Zc undef (frL fr) (0+i.b.toNat*8))+u32.wrap i.m))=Value.int .u32 (↑a)∧rr (Value.int .i64 (↑w))∧Value.int .u32 (Zb (Zc undef (frL fr) (0+i.a.toNat*8)))=Value.int .u32 (↑v)∧True)∧((tt∧tt∧tt∧tt∧tt∧True∧rr [Value.pointer (some ⟨66,0,none⟩),.slice (some ⟨64,0,none⟩) N 9223372036854775872])∧(tt∧tt∧tt∧tt∧tt∧True∧rr [Value.int .i64 (↑m),.slice (some ⟨65,0,none⟩) n 9223372036854775873])∧(tt∧(v64 (Za f n)).all (okV (fun l=>l.blt 68) 3)=true∧tt∧tt∧tt∧True∧v64 (Za f n)=List.map (rnV (lift 68 75 [64,65,66,67]) 3) (v64 (Za f n)))∧(tt∧(u8s zs).all (okV (fun l=>l.blt 68) 3)=true∧tt∧tt∧tt∧True∧u8s zs=List.map (rnV (lift 68 75 [64,65,66,67]) 3) (u8s zs))∧True)∧(tt∧n≤n)∧(tt∧N≤N)∧True:St }):=by kernel_rfl
theorem ZmC (i:In) (fr:Nat→Cp) (cB:Cp) (w a t:Nat) (zs:List UInt8) (f:Nat→Bool) (N m n:Nat) (cA:Cp) (zs2:List UInt8) (f2:Nat→Bool):evF Tryz.prog (Zz 3 (Zd (mvL 76 i fr cB w a 18 t zs f N m n [(76,44,KX [Value.pointer (some ⟨67,0,none⟩),.int .u32 (↑a),cA.val] zs zs2 f f2 N m n,[64,65,66,67])])) Zk) Zh 100 20 37 (mvA fr i) ⟨68,arW true zs f N m n,arO N n,0,(tb 11 1261),0,True⟩=some (Value.tuple { toList:=[Value.agg ⟨[.int .u32 (Zb (Zc undef (frL fr) (0+i.a.toNat*8))),.int .u8 (Zb (Zc undef (frL fr) (0+i.a.toNat*8+1))),.int .u16 (Zb (Zc undef (frL fr) (0+i.a.toNat*8+1+1))),.int .u16 (Zb (Zc undef (frL fr) (0+i.a.toNat*8+1+1+1))),.int .u16 (Zb (Zc undef (frL fr) (0+i.a.toNat*8+1+1+1+1))),.int .u16 (Zb (Zc undef (frL fr) (0+i.a.toNat*8+1+1+1+1+1))),.int .u32 (Zb (Zc undef (frL fr) (0+i.a.toNat*8+1+1+1+1+1+1))),.bool (Zv (Zc undef (frL fr) (0+i.a.toNat*8+1+1+1+1+1+1+1)))]⟩,.int .i64 0] },{ n:=76,h:=[(67,⟨true,none,[Value.pointer (some ⟨66,0,none⟩),.slice (some ⟨64,0,none⟩) N 9223372036854775872],none⟩),(66,⟨true,none,[Value.int .i64 (↑m),.slice (some ⟨65,0,none⟩) n 9223372036854775873],none⟩),(65,⟨true,some (65,1),v64 (Za f2 n),none⟩),(64,⟨true,some (64,1),u8s zs2,none⟩)],lo:=[(65,n),(64,N),(65,n),(64,N)],esc:=0,T:=[],k:=11,O:=((((((((((((((bif ZI (0+i.b.toNat*8+8) (frL fr)&&Zi [Value.int .u32 0,.int .u8 0,.int .u16 0,.int .u16 0,.int .u16 0,.int .u16 0,.int .u32 0,.bool false] (frL fr) (0+i.b.toNat*8) then bif decide ((0:Int)≤i.b)&&decide (i.b<(16:Int)) then bif ZI (0+i.a.toNat*8+8) (frL fr)&&Zi [Value.int .u32 0,.int .u8 0,.int .u16 0,.int .u16 0,.int .u16 0,.int .u16 0,.int .u32 0,.bool false] (frL fr) (0+i.a.toNat*8) then bif decide ((0:Int)≤i.a)&&decide (i.a<(16:Int)) then True else False else False else False else False)∧True∧(rr (Value.int .i64 i.op)∧True)∧True∧True)∧tt)∧rr false)∧(i.op==(24:Int))=true)∧tt)∧rr false)∧Zv (Zc undef (frL fr) (0+i.a.toNat*8+1+1+1+1+1+1+1))=true)∧tt)∧tt)∧rr false)∧True∧(Value.agg ⟨[.int .u32 (Zb (Zc undef (frL fr) (0+i.b.toNat*8))),.int .u8 (Zb (Zc undef (frL fr) (0+i.b.toNat*8+1))),.int .u16 (Zb (Zc undef (frL fr) (0+i.b.toNat*8+1+1))),.int .u16 (Zb (Zc undef (frL fr) (0+i.b.toNat*8+1+1+1))),.int .u16 (Zb (Zc undef (frL fr) (0+i.b.toNat*8+1+1+1+1))),.int .u16 (Zb (Zc undef (frL fr) (0+i.b.toNat*8+1+1+1+1+1))),.int .u32 (Zb (Zc undef (frL fr) (0+i.b.toNat*8+1+1+1+1+1+1))),.bool (Zv (Zc undef (frL fr) (0+i.b.toNat*8+1+1+1+1+1+1+1)))]⟩=Value.agg ⟨[.int .u32 (↑cB.C),.int .u8 (↑cB.E),.int .u16 (↑cB.B),.int .u16 (↑cB.T),.int .u16 (↑cB.P),.int .u16 (↑cB.Y),.int .u32 (↑cB.R),.bool cB.V]⟩∧Value.int .u32 (u32.wrap (Zb (Zc undef (frL fr) (0+i.b.toNat*8))+u32.wrap i.m))=Value.int .u32 (↑a)∧rr (Value.int .i64 (↑w))∧rr (Value.int .u16 18)∧rr (Value.pointer (some ⟨67,0,none⟩))∧True)∧((tt∧tt∧tt∧tt∧tt∧True∧rr [Value.pointer (some ⟨66,0,none⟩),.slice (some ⟨64,0,none⟩) N 9223372036854775872])∧(tt∧tt∧tt∧tt∧tt∧True∧rr [Value.int .i64 (↑m),.slice (some ⟨65,0,none⟩) n 9223372036854775873])∧(tt∧(v64 (Za f n)).all (okV (fun l=>l.blt 68) 3)=true∧tt∧tt∧tt∧True∧v64 (Za f n)=List.map (rnV (lift 68 76 [64,65,66,67]) 3) (v64 (Za f n)))∧(tt∧(u8s zs).all (okV (fun l=>l.blt 68) 3)=true∧tt∧tt∧tt∧True∧u8s zs=List.map (rnV (lift 68 76 [64,65,66,67]) 3) (u8s zs))∧True)∧(tt∧n≤n)∧(tt∧N≤N)∧True)∧((↑t:Int) !=(0:Int))=false)∧(i.op==(24:Int))=true)∧True∧(rr (Value.pointer (some ⟨67,0,none⟩))∧Value.int .u32 (u32.wrap (Zb (Zc undef (frL fr) (0+i.b.toNat*8))+u32.wrap i.m))=Value.int .u32 (↑a)∧Value.agg ⟨[.int .u32 (Zb (Zc undef (frL fr) (0+i.a.toNat*8))),.int .u8 (Zb (Zc undef (frL fr) (0+i.a.toNat*8+1))),.int .u16 (Zb (Zc undef (frL fr) (0+i.a.toNat*8+1+1))),.int .u16 (Zb (Zc undef (frL fr) (0+i.a.toNat*8+1+1+1))),.int .u16 (Zb (Zc undef (frL fr) (0+i.a.toNat*8+1+1+1+1))),.int .u16 (Zb (Zc undef (frL fr) (0+i.a.toNat*8+1+1+1+1+1))),.int .u32 (Zb (Zc undef (frL fr) (0+i.a.toNat*8+1+1+1+1+1+1))),.bool (Zv (Zc undef (frL fr) (0+i.a.toNat*8+1+1+1+1+1+1+1)))]⟩=Value.agg ⟨[.int .u32 (↑cA.C),.int .u8 (↑cA.E),.int .u16 (↑cA.B),.int .u16 (↑cA.T),.int .u16 (↑cA.P),.int .u16 (↑cA.Y),.int .u32 (↑cA.R),.bool cA.V]⟩∧True)∧((tt∧tt∧tt∧tt∧tt∧True∧rr [Value.pointer (some ⟨66,0,none⟩),.slice (some ⟨64,0,none⟩) N 9223372036854775872])∧(tt∧tt∧tt∧tt∧tt∧True∧rr [Value.int .i64 (↑m),.slice (some ⟨65,0,none⟩) n 9223372036854775873])∧(tt∧(v64 (Za f n)).all (okV (fun l=>l.blt 68) 3)=true∧tt∧tt∧tt∧True∧v64 (Za f n)=List.map (rnV (lift 68 76 [64,65,66,67]) 3) (v64 (Za f n)))∧(tt∧(u8s zs).all (okV (fun l=>l.blt 68) 3)=true∧tt∧tt∧tt∧True∧u8s zs=List.map (rnV (lift 68 76 [64,65,66,67]) 3) (u8s zs))∧True)∧(tt∧n≤n)∧(tt∧N≤N)∧True:St }):=by kernel_rfl
theorem ZmD (i:In) (fr:Nat→Cp) (cB:Cp) (w a t:Nat) (zs:List UInt8) (f:Nat→Bool) (N m n:Nat) (cA:Cp) (zs2:List UInt8) (f2:Nat→Bool):evF Tryz.prog (Zz 3 (Zd (mvL 75 i fr cB w a 2 t zs f N m n [(75,44,KX [Value.pointer (some ⟨67,0,none⟩),.int .u32 (↑a),cA.val] zs zs2 f f2 N m n,[64,65,66,67])])) Zk) Zh 100 20 37 (mvA fr i) ⟨68,arW true zs f N m n,arO N n,0,(tb 8 141),0,True⟩=some (Value.tuple { toList:=[Value.agg ⟨[.int .u32 (Zb (Zc undef (frL fr) (0+i.a.toNat*8))),.int .u8 (Zb (Zc undef (frL fr) (0+i.a.toNat*8+1))),.int .u16 (Zb (Zc undef (frL fr) (0+i.a.toNat*8+1+1))),.int .u16 (Zb (Zc undef (frL fr) (0+i.a.toNat*8+1+1+1))),.int .u16 (Zb (Zc undef (frL fr) (0+i.a.toNat*8+1+1+1+1))),.int .u16 (Zb (Zc undef (frL fr) (0+i.a.toNat*8+1+1+1+1+1))),.int .u32 (Zb (Zc undef (frL fr) (0+i.a.toNat*8+1+1+1+1+1+1))),.bool (Zv (Zc undef (frL fr) (0+i.a.toNat*8+1+1+1+1+1+1+1)))]⟩,.int .i64 0] },{ n:=75,h:=[(67,⟨true,none,[Value.pointer (some ⟨66,0,none⟩),.slice (some ⟨64,0,none⟩) N 9223372036854775872],none⟩),(66,⟨true,none,[Value.int .i64 (↑m),.slice (some ⟨65,0,none⟩) n 9223372036854775873],none⟩),(65,⟨true,some (65,1),v64 (Za f2 n),none⟩),(64,⟨true,some (64,1),u8s zs2,none⟩)],lo:=[(65,n),(64,N),(65,n),(64,N)],esc:=0,T:=[],k:=8,O:=(((((((((((bif ZI (0+i.b.toNat*8+8) (frL fr)&&Zi [Value.int .u32 0,.int .u8 0,.int .u16 0,.int .u16 0,.int .u16 0,.int .u16 0,.int .u32 0,.bool false] (frL fr) (0+i.b.toNat*8) then bif decide ((0:Int)≤i.b)&&decide (i.b<(16:Int)) then bif ZI (0+i.a.toNat*8+8) (frL fr)&&Zi [Value.int .u32 0,.int .u8 0,.int .u16 0,.int .u16 0,.int .u16 0,.int .u16 0,.int .u32 0,.bool false] (frL fr) (0+i.a.toNat*8) then bif decide ((0:Int)≤i.a)&&decide (i.a<(16:Int)) then True else False else False else False else False)∧True∧(rr (Value.int .i64 i.op)∧True)∧True∧True)∧tt)∧rr false)∧(i.op==(24:Int))=true)∧tt)∧rr false)∧Zv (Zc undef (frL fr) (0+i.a.toNat*8+1+1+1+1+1+1+1))=false)∧True∧(Value.agg ⟨[.int .u32 (Zb (Zc undef (frL fr) (0+i.b.toNat*8))),.int .u8 (Zb (Zc undef (frL fr) (0+i.b.toNat*8+1))),.int .u16 (Zb (Zc undef (frL fr) (0+i.b.toNat*8+1+1))),.int .u16 (Zb (Zc undef (frL fr) (0+i.b.toNat*8+1+1+1))),.int .u16 (Zb (Zc undef (frL fr) (0+i.b.toNat*8+1+1+1+1))),.int .u16 (Zb (Zc undef (frL fr) (0+i.b.toNat*8+1+1+1+1+1))),.int .u32 (Zb (Zc undef (frL fr) (0+i.b.toNat*8+1+1+1+1+1+1))),.bool (Zv (Zc undef (frL fr) (0+i.b.toNat*8+1+1+1+1+1+1+1)))]⟩=Value.agg ⟨[.int .u32 (↑cB.C),.int .u8 (↑cB.E),.int .u16 (↑cB.B),.int .u16 (↑cB.T),.int .u16 (↑cB.P),.int .u16 (↑cB.Y),.int .u32 (↑cB.R),.bool cB.V]⟩∧Value.int .u32 (u32.wrap (Zb (Zc undef (frL fr) (0+i.b.toNat*8))+u32.wrap i.m))=Value.int .u32 (↑a)∧rr (Value.int .i64 (↑w))∧rr (Value.int .u16 2)∧rr (Value.pointer (some ⟨67,0,none⟩))∧True)∧((tt∧tt∧tt∧tt∧tt∧True∧rr [Value.pointer (some ⟨66,0,none⟩),.slice (some ⟨64,0,none⟩) N 9223372036854775872])∧(tt∧tt∧tt∧tt∧tt∧True∧rr [Value.int .i64 (↑m),.slice (some ⟨65,0,none⟩) n 9223372036854775873])∧(tt∧(v64 (Za f n)).all (okV (fun l=>l.blt 68) 3)=true∧tt∧tt∧tt∧True∧v64 (Za f n)=List.map (rnV (lift 68 75 [64,65,66,67]) 3) (v64 (Za f n)))∧(tt∧(u8s zs).all (okV (fun l=>l.blt 68) 3)=true∧tt∧tt∧tt∧True∧u8s zs=List.map (rnV (lift 68 75 [64,65,66,67]) 3) (u8s zs))∧True)∧(tt∧n≤n)∧(tt∧N≤N)∧True)∧((↑t:Int) !=(0:Int))=false)∧(i.op==(24:Int))=true)∧True∧(rr (Value.pointer (some ⟨67,0,none⟩))∧Value.int .u32 (u32.wrap (Zb (Zc undef (frL fr) (0+i.b.toNat*8))+u32.wrap i.m))=Value.int .u32 (↑a)∧Value.agg ⟨[.int .u32 (Zb (Zc undef (frL fr) (0+i.a.toNat*8))),.int .u8 (Zb (Zc undef (frL fr) (0+i.a.toNat*8+1))),.int .u16 (Zb (Zc undef (frL fr) (0+i.a.toNat*8+1+1))),.int .u16 (Zb (Zc undef (frL fr) (0+i.a.toNat*8+1+1+1))),.int .u16 (Zb (Zc undef (frL fr) (0+i.a.toNat*8+1+1+1+1))),.int .u16 (Zb (Zc undef (frL fr) (0+i.a.toNat*8+1+1+1+1+1))),.int .u32 (Zb (Zc undef (frL fr) (0+i.a.toNat*8+1+1+1+1+1+1))),.bool (Zv (Zc undef (frL fr) (0+i.a.toNat*8+1+1+1+1+1+1+1)))]⟩=Value.agg ⟨[.int .u32 (↑cA.C),.int .u8 (↑cA.E),.int .u16 (↑cA.B),.int .u16 (↑cA.T),.int .u16 (↑cA.P),.int .u16 (↑cA.Y),.int .u32 (↑cA.R),.bool cA.V]⟩∧True)∧((tt∧tt∧tt∧tt∧tt∧True∧rr [Value.pointer (some ⟨66,0,none⟩),.slice (some ⟨64,0,none⟩) N 9223372036854775872])∧(tt∧tt∧tt∧tt∧tt∧True∧rr [Value.int .i64 (↑m),.slice (some ⟨65,0,none⟩) n 9223372036854775873])∧(tt∧(v64 (Za f n)).all (okV (fun l=>l.blt 68) 3)=true∧tt∧tt∧tt∧True∧v64 (Za f n)=List.map (rnV (lift 68 75 [64,65,66,67]) 3) (v64 (Za f n)))∧(tt∧(u8s zs).all (okV (fun l=>l.blt 68) 3)=true∧tt∧tt∧tt∧True∧u8s zs=List.map (rnV (lift 68 75 [64,65,66,67]) 3) (u8s zs))∧True)∧(tt∧n≤n)∧(tt∧N≤N)∧True:St }):=by kernel_rfl
theorem WI (fr:Nat→Cp) (b j k:Nat) (hb:b<17) (hj:j<8) (hk:k=8*b+j):Zc undef (frL fr) k=Zc undef (fr b).cs j:=by rw[hk,Ziw fr b j hb hj]
theorem Qg (fr:Nat→Cp) (b:Nat) (hb:b<17):Zb (Zc undef (frL fr) (0+b*8))=((fr b).C:Nat):=by rw[WI fr b 0 _ hb (by omega) (by omega)]; rfl
theorem Qh (fr:Nat→Cp) (b:Nat) (hb:b<17):Zb (Zc undef (frL fr) (0+b*8+1))=((fr b).E:Nat):=by rw[WI fr b 1 _ hb (by omega) (by omega)]; rfl
theorem Qi (fr:Nat→Cp) (b:Nat) (hb:b<17):Zb (Zc undef (frL fr) (0+b*8+1+1))=((fr b).B:Nat):=by rw[WI fr b 2 _ hb (by omega) (by omega)]; rfl
theorem Qj (fr:Nat→Cp) (b:Nat) (hb:b<17):Zb (Zc undef (frL fr) (0+b*8+1+1+1))=((fr b).T:Nat):=by rw[WI fr b 3 _ hb (by omega) (by omega)]; rfl
theorem Qe (fr:Nat→Cp) (b:Nat) (hb:b<17):Zb (Zc undef (frL fr) (0+b*8+1+1+1+1))=((fr b).P:Nat):=by rw[WI fr b 4 _ hb (by omega) (by omega)]; rfl
theorem Qk (fr:Nat→Cp) (b:Nat) (hb:b<17):Zb (Zc undef (frL fr) (0+b*8+1+1+1+1+1))=((fr b).Y:Nat):=by rw[WI fr b 5 _ hb (by omega) (by omega)]; rfl
theorem Ql (fr:Nat→Cp) (b:Nat) (hb:b<17):Zb (Zc undef (frL fr) (0+b*8+1+1+1+1+1+1))=((fr b).R:Nat):=by rw[WI fr b 6 _ hb (by omega) (by omega)]; rfl
theorem Qm (fr:Nat→Cp) (b:Nat) (hb:b<17):Zv (Zc undef (frL fr) (0+b*8+1+1+1+1+1+1+1))=(fr b).V:=by rw[WI fr b 7 _ hb (by omega) (by omega)]; rfl
theorem Zo (fr:Nat→Cp) (b:Nat) (hb:b<17):ZI (0+b*8+8) (frL fr)=true:=Kh _ _ (by rw[JJ,U9]; omega)
theorem ZT (fr:Nat→Cp) (b:Nat) (hb:b<17):ZI (0+b*8+1) (frL fr)=true:=Kh _ _ (by rw[JJ,U9]; omega)
theorem Zq (fr:Nat→Cp) (b:Nat) (hb:b<17):Zi [Value.int u32 (0:Int),Value.int u8 (0:Int),Value.int u16 (0:Int),Value.int u16 (0:Int),Value.int u16 (0:Int),Value.int u16 (0:Int),Value.int u32 (0:Int),Value.bool false] (frL fr) (0+b*8)=true:=by
 unfold Zi Zi Zi Zi Zi Zi Zi Zi Zi
 rw[WI fr b 0 _ hb (by omega) (by omega),WI fr b 1 _ hb (by omega) (by omega),WI fr b 2 _ hb (by omega) (by omega),WI fr b 3 _ hb (by omega) (by omega),WI fr b 4 _ hb (by omega) (by omega),WI fr b 5 _ hb (by omega) (by omega),WI fr b 6 _ hb (by omega) (by omega),WI fr b 7 _ hb (by omega) (by omega)]
 rfl
theorem ZH (fr:Nat→Cp) (b:Nat) (hb:b<17):Zi [Value.int u32 (0:Int)] (frL fr) (0+b*8)=true:=by
 unfold Zi Zi
 rw[WI fr b 0 _ hb (by omega) (by omega)]
 rfl
abbrev inS (op:Int) (a b c:Nat) (m:Int):In:=⟨op,a,b,c,m⟩
def atS (fr:Nat→Cp) (b:Nat) (m:Int):Nat:=((((fr b).C:Int)+m)%4294967296).toNat
theorem X6 (fr:Nat→Cp) (b:Nat) (m:Int):atS fr b m<4294967296:=by unfold atS; omega
theorem Y6 (fr:Nat→Cp) (b:Nat) (m:Int):u32.wrap (((fr b).C:Int)+u32.wrap m)=((atS fr b m:Nat):Int):=by
 unfold atS
 simp only[rr, tt, IntKind.wrap_u32]
 omega
def Y7 (fr:Nat→Cp) (op:Int) (a:Nat):Nat:=if op=24 then(if(fr a).V=true then 18 else 2) else if op=20∨op=21∨op=22 then 2 else 1
def Ya (fr:Nat→Cp) (op:Int) (a b:Nat) (m:Int) (N:Nat):Nat:=J3 (fr b) (atS fr b m) (Yt op) (Y7 fr op a) N
def Y8 (fr:Nat→Cp) (i:In) (c:Cp) (t:Nat) (zs:List UInt8) (f:Nat→Bool) (N m n:Nat):Con:=ZdC (mvA fr i) (.tuple ⟨[c.val,.int .i64 (t:Nat)]⟩) zs f N m n
def Zbi (args:List Value) (v:Value) (zs zs':List UInt8) (f f':Nat→Bool) (N m n:Nat):Con:=⟨args,68,arW true zs f N m n,arO N n,v,68,arW true zs' f' N m n,arO N n⟩
theorem JN {call:Z1} (hc:Zx Tryz.prog call) {fn:FuncId} {args:List Value} {v:Value} {zs zs':List UInt8} {f f':Nat→Bool} {N m n:Nat} {T:List (Nat×Bool)} {s':Sy.St} (ha:args.all (okV (fun l=>Nat.blt l 68) 3)=true) (hv:Ym v=true) (hu:isU v=false) (h:call fn args ⟨68,arW true zs f N m n,arO N n,0,T,0,True⟩=some (v,s')) (hO:s'.O)
  (h1:YQ 3 (fun l=>Nat.blt l 68) id s'.h (arW true zs' f' N m n)) (h2:Wn (fun l=>Nat.blt l 68) id s'.lo (arO N n)):ConOk Tryz.prog fn 3 (Zbi args v zs zs' f f' N m n)∧FlatC (Zbi args v zs zs' f f' N m n):=by
 refine⟨ZZ hc ⟨by show 64≤68; omega,Nat.le_refl _,XL KU true zs f N m n,rfl,rfl,rfl,ha,QB hv 1,ZbW true _ _ N m n⟩ h hO (p:=fun l=>Nat.blt l 68) (σ:=id) ?_,⟨X5 _ _ _ _ _ _⟩⟩
 exact⟨fun _ _=>rfl,h1,rfl,h2,⟨QB hv 1,by rw[XY]; rfl⟩,hu,XL U2 true _ _ N m n,rfl,Q6 _ hv,fun x _ _ => .inl rfl⟩
theorem QR {x k:Int} (h:¬ x=k):(x==k)=false:=beq_eq_false_iff_ne.2 h
theorem ZmE {x k:Int} (h:x=k):(x==k)=true:=by rw[h]; simp
theorem QK (fr:Nat→Cp) (i:In):(mvA fr i).all (okV (fun l=>Nat.blt l 68) 3)=true:=rfl
theorem X7 {nw:Nat} {i:In} {fr:Nat→Cp} {cB:Cp} {w a need t:Nat} {zs:List UInt8} {f:Nat→Bool} {N m n:Nat} {L:Sy.Steps} (h1:w=Yt i.op) (h2:t=J3 cB a w need N) (h:ArOk zs N m n) (hc:cB.Ok) (hn:need<65536) (ha:a<4294967296) (hw:0<w) (hw2:w≤16) (hL:∀ x∈L,ConOk Tryz.prog x.2.1 3 x.2.2.1∧FlatC x.2.2.1) :
  ∀ x∈mvL nw i fr cB w a need t zs f N m n L,ConOk Tryz.prog x.2.1 3 x.2.2.1∧FlatC x.2.2.1:=fun x hx=>by
 unfold mvL at hx
 rcases List.mem_cons.1 hx with rfl|hx
 ·rw[h1]; exact⟨Ze5 i.op,⟨fun x hx=>by cases hx⟩⟩
 ·rcases List.mem_cons.1 hx with rfl|hx
  ·rw[h2]; exact ZiC cB a w need zs f N m n h hc hn ha hw hw2
  ·exact hL x hx
theorem WJ (op:Int):Yt op≤16:=by
 unfold Yt
 repeat' split
 all_goals omega
theorem ZgC (fr:Nat→Cp) (op:Int) (a b c:Nat) (m:Int) (zs:List UInt8) (f:Nat→Bool) (N g n:Nat) (h:ArOk zs N g n) (hfr:Wp fr) (ha0:a<16) (hb0:b<16) (k24:¬ op=24) (k20:¬ op=20) (k21:¬ op=21) (k22:¬ op=22) (hw:0<Yt op) (ht:Ya fr op a b m N≠0):ConOk Tryz.prog 37 3 (Y8 fr (inS op a b c m) J2 (Ya fr op a b m N) zs f N g n)∧FlatC (Y8 fr (inS op a b c m) J2 (Ya fr op a b m N) zs f N g n):=by
 have ha:a<17:=by omega
 have hb:b<17:=by omega
 have z0:decide ((0:Int)≤(b:Int))=true:=decide_eq_true (by omega)
 have z1:decide ((b:Int)<16)=true:=decide_eq_true (by omega)
 have z2:decide ((0:Int)≤(a:Int))=true:=decide_eq_true (by omega)
 have z3:decide ((a:Int)<16)=true:=decide_eq_true (by omega)
 have v1:∀ (f:Nat→Bool) (σ:Nat→Nat),(v64 (Za f n)).map (rnV σ 3)=v64 (Za f n):=fun f σ=>Zp (Zr _)
 have v2:∀ (f:Nat→Bool) (p:Nat→Bool),(v64 (Za f n)).all (okV p 3)=true:=fun f p=>Zn (Zr _)
 have u1:∀ (zs:List UInt8) (p:Nat→Bool),(u8s zs).all (okV p 3)=true:=fun zs p=>Zn (Zm _)
 have u2:∀ (zs:List UInt8) (σ:Nat→Nat),(u8s zs).map (rnV σ 3)=u8s zs:=fun zs σ=>Zp (Zm _)
 have hneed:Y7 fr op a=1:=by unfold Y7; simp only[rr, tt, k24,k20,k21,k22,or_self,if_false]
 have hmt:Ya fr op a b m N=J3 (fr b) (atS fr b m) (Yt op) 1 N:=by unfold Ya; rw[hneed]
 have hr:=Zmw (inS op a b c m) fr (fr b) (Yt op) (atS fr b m) (Ya fr op a b m N) zs f N g n
 have ht':((Ya fr op a b m N:Nat):Int)≠0:=by omega
 refine Yx (Zt (L:=100) Zg (Zs (Zj (X7 (i:=inS op a b c m) rfl hmt h (hfr b) (by omega) (X6 _ _ _) hw (WJ _) (fun x hx=>by cases hx))) (Zf _)) (Ze _) 20) (QK _ _) rfl rfl hr ?_
 simp only[rr, tt, inS,Qg fr b hb,Qh fr b hb,Qi fr b hb,Qj fr b hb,Qe fr b hb,Qk fr b hb,Ql fr b hb,Qm fr b hb,Zo fr b hb,Zq fr b hb,Qg fr a ha,Qh fr a ha,Qi fr a ha,Qj fr a ha,Qe fr a ha,Qk fr a ha,Ql fr a ha,Qm fr a ha,Zo fr a ha,Zq fr a ha,Y6,z0,z1,z2,z3,v1,v2,u1,u2,Int.toNat_natCast,Bool.and_self,cond_true,and_true,true_and,and_self,Nat.le_refl,decide_true,QR k24,QR k20,QR k21,QR k22,bne_iff_ne.2 ht']
theorem Zks (fr:Nat→Cp) (a b c:Nat) (m:Int) (zs:List UInt8) (f:Nat→Bool) (N g n:Nat) (h:ArOk zs N g n) (hfr:Wp fr) (ha0:a<16) (hb0:b<16) (ht:Ya fr 20 a b m N≠0):ConOk Tryz.prog 37 3 (Y8 fr (inS 20 a b c m) J2 (Ya fr 20 a b m N) zs f N g n)∧FlatC (Y8 fr (inS 20 a b c m) J2 (Ya fr 20 a b m N) zs f N g n):=by
 have ha:a<17:=by omega
 have hb:b<17:=by omega
 have z0:decide ((0:Int)≤(b:Int))=true:=decide_eq_true (by omega)
 have z1:decide ((b:Int)<16)=true:=decide_eq_true (by omega)
 have z2:decide ((0:Int)≤(a:Int))=true:=decide_eq_true (by omega)
 have z3:decide ((a:Int)<16)=true:=decide_eq_true (by omega)
 have v1:∀ (f:Nat→Bool) (σ:Nat→Nat),(v64 (Za f n)).map (rnV σ 3)=v64 (Za f n):=fun f σ=>Zp (Zr _)
 have v2:∀ (f:Nat→Bool) (p:Nat→Bool),(v64 (Za f n)).all (okV p 3)=true:=fun f p=>Zn (Zr _)
 have u1:∀ (zs:List UInt8) (p:Nat→Bool),(u8s zs).all (okV p 3)=true:=fun zs p=>Zn (Zm _)
 have u2:∀ (zs:List UInt8) (σ:Nat→Nat),(u8s zs).map (rnV σ 3)=u8s zs:=fun zs σ=>Zp (Zm _)
 have hneed:Y7 fr 20 a=2:=by unfold Y7; simp
 have hmt:Ya fr 20 a b m N=J3 (fr b) (atS fr b m) (Yt 20) 2 N:=by unfold Ya; rw[hneed]
 have hr:=Zkm (inS 20 a b c m) fr (fr b) (Yt 20) (atS fr b m) (Ya fr 20 a b m N) zs f N g n
 have ht':((Ya fr 20 a b m N:Nat):Int)≠0:=by omega
 refine Yx (Zt (L:=100) Zg (Zs (Zj (X7 (i:=inS 20 a b c m) rfl hmt h (hfr b) (by omega) (X6 _ _ _) (show 0<Yt 20 by decide) (WJ _) (fun x hx=>by cases hx))) (Zf _)) (Ze _) 20) (QK _ _) rfl rfl hr ?_
 have e1:∀ x y:Int,x≠y→(x==y)=false:=fun x y h=>beq_eq_false_iff_ne.2 h
 simp(disch:=decide) only[rr, tt, inS,Qg fr b hb,Qh fr b hb,Qi fr b hb,Qj fr b hb,Qe fr b hb,Qk fr b hb,Ql fr b hb,Qm fr b hb,Zo fr b hb,Zq fr b hb,Qg fr a ha,Qh fr a ha,Qi fr a ha,Qj fr a ha,Qe fr a ha,Qk fr a ha,Ql fr a ha,Qm fr a ha,Zo fr a ha,Zq fr a ha,Y6,z0,z1,z2,z3,v1,v2,u1,u2,Int.toNat_natCast,Bool.and_self,cond_true,and_true,true_and,and_self,Nat.le_refl,decide_true,e1,beq_self_eq_true,bne_iff_ne.2 ht']
theorem Zkt (fr:Nat→Cp) (a b c:Nat) (m:Int) (zs:List UInt8) (f:Nat→Bool) (N g n:Nat) (h:ArOk zs N g n) (hfr:Wp fr) (ha0:a<16) (hb0:b<16) (ht:Ya fr 21 a b m N≠0):ConOk Tryz.prog 37 3 (Y8 fr (inS 21 a b c m) J2 (Ya fr 21 a b m N) zs f N g n)∧FlatC (Y8 fr (inS 21 a b c m) J2 (Ya fr 21 a b m N) zs f N g n):=by
 have ha:a<17:=by omega
 have hb:b<17:=by omega
 have z0:decide ((0:Int)≤(b:Int))=true:=decide_eq_true (by omega)
 have z1:decide ((b:Int)<16)=true:=decide_eq_true (by omega)
 have z2:decide ((0:Int)≤(a:Int))=true:=decide_eq_true (by omega)
 have z3:decide ((a:Int)<16)=true:=decide_eq_true (by omega)
 have v1:∀ (f:Nat→Bool) (σ:Nat→Nat),(v64 (Za f n)).map (rnV σ 3)=v64 (Za f n):=fun f σ=>Zp (Zr _)
 have v2:∀ (f:Nat→Bool) (p:Nat→Bool),(v64 (Za f n)).all (okV p 3)=true:=fun f p=>Zn (Zr _)
 have u1:∀ (zs:List UInt8) (p:Nat→Bool),(u8s zs).all (okV p 3)=true:=fun zs p=>Zn (Zm _)
 have u2:∀ (zs:List UInt8) (σ:Nat→Nat),(u8s zs).map (rnV σ 3)=u8s zs:=fun zs σ=>Zp (Zm _)
 have hneed:Y7 fr 21 a=2:=by unfold Y7; simp
 have hmt:Ya fr 21 a b m N=J3 (fr b) (atS fr b m) (Yt 21) 2 N:=by unfold Ya; rw[hneed]
 have hr:=Zkn (inS 21 a b c m) fr (fr b) (Yt 21) (atS fr b m) (Ya fr 21 a b m N) zs f N g n
 have ht':((Ya fr 21 a b m N:Nat):Int)≠0:=by omega
 refine Yx (Zt (L:=100) Zg (Zs (Zj (X7 (i:=inS 21 a b c m) rfl hmt h (hfr b) (by omega) (X6 _ _ _) (show 0<Yt 21 by decide) (WJ _) (fun x hx=>by cases hx))) (Zf _)) (Ze _) 20) (QK _ _) rfl rfl hr ?_
 have e1:∀ x y:Int,x≠y→(x==y)=false:=fun x y h=>beq_eq_false_iff_ne.2 h
 simp(disch:=decide) only[rr, tt, inS,Qg fr b hb,Qh fr b hb,Qi fr b hb,Qj fr b hb,Qe fr b hb,Qk fr b hb,Ql fr b hb,Qm fr b hb,Zo fr b hb,Zq fr b hb,Qg fr a ha,Qh fr a ha,Qi fr a ha,Qj fr a ha,Qe fr a ha,Qk fr a ha,Ql fr a ha,Qm fr a ha,Zo fr a ha,Zq fr a ha,Y6,z0,z1,z2,z3,v1,v2,u1,u2,Int.toNat_natCast,Bool.and_self,cond_true,and_true,true_and,and_self,Nat.le_refl,decide_true,e1,beq_self_eq_true,bne_iff_ne.2 ht']
theorem Zku (fr:Nat→Cp) (a b c:Nat) (m:Int) (zs:List UInt8) (f:Nat→Bool) (N g n:Nat) (h:ArOk zs N g n) (hfr:Wp fr) (ha0:a<16) (hb0:b<16) (ht:Ya fr 22 a b m N≠0):ConOk Tryz.prog 37 3 (Y8 fr (inS 22 a b c m) J2 (Ya fr 22 a b m N) zs f N g n)∧FlatC (Y8 fr (inS 22 a b c m) J2 (Ya fr 22 a b m N) zs f N g n):=by
 have ha:a<17:=by omega
 have hb:b<17:=by omega
 have z0:decide ((0:Int)≤(b:Int))=true:=decide_eq_true (by omega)
 have z1:decide ((b:Int)<16)=true:=decide_eq_true (by omega)
 have z2:decide ((0:Int)≤(a:Int))=true:=decide_eq_true (by omega)
 have z3:decide ((a:Int)<16)=true:=decide_eq_true (by omega)
 have v1:∀ (f:Nat→Bool) (σ:Nat→Nat),(v64 (Za f n)).map (rnV σ 3)=v64 (Za f n):=fun f σ=>Zp (Zr _)
 have v2:∀ (f:Nat→Bool) (p:Nat→Bool),(v64 (Za f n)).all (okV p 3)=true:=fun f p=>Zn (Zr _)
 have u1:∀ (zs:List UInt8) (p:Nat→Bool),(u8s zs).all (okV p 3)=true:=fun zs p=>Zn (Zm _)
 have u2:∀ (zs:List UInt8) (σ:Nat→Nat),(u8s zs).map (rnV σ 3)=u8s zs:=fun zs σ=>Zp (Zm _)
 have hneed:Y7 fr 22 a=2:=by unfold Y7; simp
 have hmt:Ya fr 22 a b m N=J3 (fr b) (atS fr b m) (Yt 22) 2 N:=by unfold Ya; rw[hneed]
 have hr:=Zko (inS 22 a b c m) fr (fr b) (Yt 22) (atS fr b m) (Ya fr 22 a b m N) zs f N g n
 have ht':((Ya fr 22 a b m N:Nat):Int)≠0:=by omega
 refine Yx (Zt (L:=100) Zg (Zs (Zj (X7 (i:=inS 22 a b c m) rfl hmt h (hfr b) (by omega) (X6 _ _ _) (show 0<Yt 22 by decide) (WJ _) (fun x hx=>by cases hx))) (Zf _)) (Ze _) 20) (QK _ _) rfl rfl hr ?_
 have e1:∀ x y:Int,x≠y→(x==y)=false:=fun x y h=>beq_eq_false_iff_ne.2 h
 simp(disch:=decide) only[rr, tt, inS,Qg fr b hb,Qh fr b hb,Qi fr b hb,Qj fr b hb,Qe fr b hb,Qk fr b hb,Ql fr b hb,Qm fr b hb,Zo fr b hb,Zq fr b hb,Qg fr a ha,Qh fr a ha,Qi fr a ha,Qj fr a ha,Qe fr a ha,Qk fr a ha,Ql fr a ha,Qm fr a ha,Zo fr a ha,Zq fr a ha,Y6,z0,z1,z2,z3,v1,v2,u1,u2,Int.toNat_natCast,Bool.and_self,cond_true,and_true,true_and,and_self,Nat.le_refl,decide_true,e1,beq_self_eq_true,bne_iff_ne.2 ht']
theorem ZmF (fr:Nat→Cp) (a b c:Nat) (m:Int) (zs:List UInt8) (f:Nat→Bool) (N g n:Nat) (h:ArOk zs N g n) (hfr:Wp fr) (ha0:a<16) (hb0:b<16) (kV:(fr a).V=true) (ht:Ya fr 24 a b m N≠0):ConOk Tryz.prog 37 3 (Y8 fr (inS 24 a b c m) J2 (Ya fr 24 a b m N) zs f N g n)∧FlatC (Y8 fr (inS 24 a b c m) J2 (Ya fr 24 a b m N) zs f N g n):=by
 have ha:a<17:=by omega
 have hb:b<17:=by omega
 have z0:decide ((0:Int)≤(b:Int))=true:=decide_eq_true (by omega)
 have z1:decide ((b:Int)<16)=true:=decide_eq_true (by omega)
 have z2:decide ((0:Int)≤(a:Int))=true:=decide_eq_true (by omega)
 have z3:decide ((a:Int)<16)=true:=decide_eq_true (by omega)
 have v1:∀ (f:Nat→Bool) (σ:Nat→Nat),(v64 (Za f n)).map (rnV σ 3)=v64 (Za f n):=fun f σ=>Zp (Zr _)
 have v2:∀ (f:Nat→Bool) (p:Nat→Bool),(v64 (Za f n)).all (okV p 3)=true:=fun f p=>Zn (Zr _)
 have u1:∀ (zs:List UInt8) (p:Nat→Bool),(u8s zs).all (okV p 3)=true:=fun zs p=>Zn (Zm _)
 have u2:∀ (zs:List UInt8) (σ:Nat→Nat),(u8s zs).map (rnV σ 3)=u8s zs:=fun zs σ=>Zp (Zm _)
 have hneed:Y7 fr 24 a=18:=by unfold Y7; simp only[rr, tt, kV,if_true,if_false,Bool.false_eq_true,reduceIte]
 have hmt:Ya fr 24 a b m N=J3 (fr b) (atS fr b m) (Yt 24) 18 N:=by unfold Ya; rw[hneed]
 have hr:=Zmx (inS 24 a b c m) fr (fr b) (Yt 24) (atS fr b m) (Ya fr 24 a b m N) zs f N g n
 have ht':((Ya fr 24 a b m N:Nat):Int)≠0:=by omega
 refine Yx (Zt (L:=100) Zg (Zs (Zj (X7 (i:=inS 24 a b c m) rfl hmt h (hfr b) (by omega) (X6 _ _ _) (show 0<Yt 24 by decide) (WJ _) (fun x hx=>by cases hx))) (Zf _)) (Ze _) 20) (QK _ _) rfl rfl hr ?_
 have e1:∀ x y:Int,x≠y→(x==y)=false:=fun x y h=>beq_eq_false_iff_ne.2 h
 simp(disch:=decide) only[rr, tt, inS,Qg fr b hb,Qh fr b hb,Qi fr b hb,Qj fr b hb,Qe fr b hb,Qk fr b hb,Ql fr b hb,Qm fr b hb,Zo fr b hb,Zq fr b hb,Qg fr a ha,Qh fr a ha,Qi fr a ha,Qj fr a ha,Qe fr a ha,Qk fr a ha,Ql fr a ha,Qm fr a ha,Zo fr a ha,Zq fr a ha,Y6,z0,z1,z2,z3,v1,v2,u1,u2,Int.toNat_natCast,Bool.and_self,cond_true,and_true,true_and,and_self,Nat.le_refl,decide_true,e1,beq_self_eq_true,bne_iff_ne.2 ht',kV]
theorem ZmG (fr:Nat→Cp) (a b c:Nat) (m:Int) (zs:List UInt8) (f:Nat→Bool) (N g n:Nat) (h:ArOk zs N g n) (hfr:Wp fr) (ha0:a<16) (hb0:b<16) (kV:(fr a).V=false) (ht:Ya fr 24 a b m N≠0):ConOk Tryz.prog 37 3 (Y8 fr (inS 24 a b c m) J2 (Ya fr 24 a b m N) zs f N g n)∧FlatC (Y8 fr (inS 24 a b c m) J2 (Ya fr 24 a b m N) zs f N g n):=by
 have ha:a<17:=by omega
 have hb:b<17:=by omega
 have z0:decide ((0:Int)≤(b:Int))=true:=decide_eq_true (by omega)
 have z1:decide ((b:Int)<16)=true:=decide_eq_true (by omega)
 have z2:decide ((0:Int)≤(a:Int))=true:=decide_eq_true (by omega)
 have z3:decide ((a:Int)<16)=true:=decide_eq_true (by omega)
 have v1:∀ (f:Nat→Bool) (σ:Nat→Nat),(v64 (Za f n)).map (rnV σ 3)=v64 (Za f n):=fun f σ=>Zp (Zr _)
 have v2:∀ (f:Nat→Bool) (p:Nat→Bool),(v64 (Za f n)).all (okV p 3)=true:=fun f p=>Zn (Zr _)
 have u1:∀ (zs:List UInt8) (p:Nat→Bool),(u8s zs).all (okV p 3)=true:=fun zs p=>Zn (Zm _)
 have u2:∀ (zs:List UInt8) (σ:Nat→Nat),(u8s zs).map (rnV σ 3)=u8s zs:=fun zs σ=>Zp (Zm _)
 have hneed:Y7 fr 24 a=2:=by unfold Y7; simp only[rr, tt, kV,if_true,if_false,Bool.false_eq_true,reduceIte]
 have hmt:Ya fr 24 a b m N=J3 (fr b) (atS fr b m) (Yt 24) 2 N:=by unfold Ya; rw[hneed]
 have hr:=Zmy (inS 24 a b c m) fr (fr b) (Yt 24) (atS fr b m) (Ya fr 24 a b m N) zs f N g n
 have ht':((Ya fr 24 a b m N:Nat):Int)≠0:=by omega
 refine Yx (Zt (L:=100) Zg (Zs (Zj (X7 (i:=inS 24 a b c m) rfl hmt h (hfr b) (by omega) (X6 _ _ _) (show 0<Yt 24 by decide) (WJ _) (fun x hx=>by cases hx))) (Zf _)) (Ze _) 20) (QK _ _) rfl rfl hr ?_
 have e1:∀ x y:Int,x≠y→(x==y)=false:=fun x y h=>beq_eq_false_iff_ne.2 h
 simp(disch:=decide) only[rr, tt, inS,Qg fr b hb,Qh fr b hb,Qi fr b hb,Qj fr b hb,Qe fr b hb,Qk fr b hb,Ql fr b hb,Qm fr b hb,Zo fr b hb,Zq fr b hb,Qg fr a ha,Qh fr a ha,Qi fr a ha,Qj fr a ha,Qe fr a ha,Qk fr a ha,Ql fr a ha,Qm fr a ha,Zo fr a ha,Zq fr a ha,Y6,z0,z1,z2,z3,v1,v2,u1,u2,Int.toNat_natCast,Bool.and_self,cond_true,and_true,true_and,and_self,Nat.le_refl,decide_true,e1,beq_self_eq_true,bne_iff_ne.2 ht',kV]
theorem ZiD (fr:Nat→Cp) (op:Int) (a b c:Nat) (m:Int) (zs:List UInt8) (f:Nat→Bool) (N g n:Nat) (h:ArOk zs N g n) (hfr:Wp fr) (ha0:a<16) (hb0:b<16) (k24:¬ op=24) (k20:¬ op=20) (k21:¬ op=21) (k22:¬ op=22) (hw:0<Yt op) (k23:¬ op=23) (hw2:Yt op=1∨Yt op=2∨Yt op=4) (ht:Ya fr op a b m N=0):ConOk Tryz.prog 37 3 (Y8 fr (inS op a b c m) (KJ (ZjK (Yt op) zs (atS fr b m))) 0 zs f N g n)∧FlatC (Y8 fr (inS op a b c m) (KJ (ZjK (Yt op) zs (atS fr b m))) 0 zs f N g n):=by
 have ha:a<17:=by omega
 have hb:b<17:=by omega
 have z0:decide ((0:Int)≤(b:Int))=true:=decide_eq_true (by omega)
 have z1:decide ((b:Int)<16)=true:=decide_eq_true (by omega)
 have z2:decide ((0:Int)≤(a:Int))=true:=decide_eq_true (by omega)
 have z3:decide ((a:Int)<16)=true:=decide_eq_true (by omega)
 have v1:∀ (f:Nat→Bool) (σ:Nat→Nat),(v64 (Za f n)).map (rnV σ 3)=v64 (Za f n):=fun f σ=>Zp (Zr _)
 have v2:∀ (f:Nat→Bool) (p:Nat→Bool),(v64 (Za f n)).all (okV p 3)=true:=fun f p=>Zn (Zr _)
 have u1:∀ (zs:List UInt8) (p:Nat→Bool),(u8s zs).all (okV p 3)=true:=fun zs p=>Zn (Zm _)
 have u2:∀ (zs:List UInt8) (σ:Nat→Nat),(u8s zs).map (rnV σ 3)=u8s zs:=fun zs σ=>Zp (Zm _)
 have hneed:Y7 fr op a=1:=by unfold Y7; simp only[rr, tt, k24,k20,k21,k22,or_self,if_false]
 have hmt:Ya fr op a b m N=J3 (fr b) (atS fr b m) (Yt op) 1 N:=by unfold Ya; rw[hneed]
 have hr:=Zmz (inS op a b c m) fr (fr b) (Yt op) (atS fr b m) (Ya fr op a b m N) zs f N g n (ZjK (Yt op) zs (atS fr b m))
 obtain⟨hin,_⟩:=VJ (hmt.symm.trans ht)
 have ht':(((Ya fr op a b m N:Nat):Int) !=0)=false:=by rw[ht]; rfl
 refine Yx (Zt (L:=100) Zg (Zs (Zj (X7 (i:=inS op a b c m) rfl hmt h (hfr b) (by omega) (X6 _ _ _) hw (WJ _) (fun x hx => ?_))) (Zf _)) (Ze _) 20) (QK _ _) rfl rfl hr ?_
 ·obtain rfl:=List.mem_singleton.1 hx
  exact ZiB (Yt op) (atS fr b m) zs f N g n h hw2 hin
 simp only[rr, tt, inS,Qg fr b hb,Qh fr b hb,Qi fr b hb,Qj fr b hb,Qe fr b hb,Qk fr b hb,Ql fr b hb,Qm fr b hb,Zo fr b hb,Zq fr b hb,Qg fr a ha,Qh fr a ha,Qi fr a ha,Qj fr a ha,Qe fr a ha,Qk fr a ha,Ql fr a ha,Qm fr a ha,Zo fr a ha,Zq fr a ha,Y6,z0,z1,z2,z3,v1,v2,u1,u2,Int.toNat_natCast,Bool.and_self,cond_true,and_true,true_and,and_self,Nat.le_refl,decide_true,QR k24,QR k20,QR k21,QR k22,QR k23,ht']
def lcV (x:Cp) (p:Nat):Cp:={ x with V:=x.V&&decide (p&&&8≠0) }
def lcC (a:Nat) (x:Cp) (zs:List UInt8) (f:Nat→Bool) (N m n:Nat):Con:=ZdC [.pointer (some ⟨67,0,none⟩),.int .u32 (a:Nat)] (.tuple ⟨[x.val,.bool true]⟩) zs f N m n
theorem ZmH (fr:Nat→Cp) (a b c:Nat) (m:Int) (zs:List UInt8) (f:Nat→Bool) (N g n:Nat) (h:ArOk zs N g n) (hfr:Wp fr) (ha0:a<16) (hb0:b<16) (x:Cp) (hx:ConOk Tryz.prog 48 3 (lcC (atS fr b m) x zs f N g n)) (ht:Ya fr 23 a b m N=0):ConOk Tryz.prog 37 3 (Y8 fr (inS 23 a b c m) (lcV x (fr b).P) 0 zs f N g n)∧FlatC (Y8 fr (inS 23 a b c m) (lcV x (fr b).P) 0 zs f N g n):=by
 have ha:a<17:=by omega
 have hb:b<17:=by omega
 have z0:decide ((0:Int)≤(b:Int))=true:=decide_eq_true (by omega)
 have z1:decide ((b:Int)<16)=true:=decide_eq_true (by omega)
 have z2:decide ((0:Int)≤(a:Int))=true:=decide_eq_true (by omega)
 have z3:decide ((a:Int)<16)=true:=decide_eq_true (by omega)
 have v1:∀ (f:Nat→Bool) (σ:Nat→Nat),(v64 (Za f n)).map (rnV σ 3)=v64 (Za f n):=fun f σ=>Zp (Zr _)
 have v2:∀ (f:Nat→Bool) (p:Nat→Bool),(v64 (Za f n)).all (okV p 3)=true:=fun f p=>Zn (Zr _)
 have u1:∀ (zs:List UInt8) (p:Nat→Bool),(u8s zs).all (okV p 3)=true:=fun zs p=>Zn (Zm _)
 have u2:∀ (zs:List UInt8) (σ:Nat→Nat),(u8s zs).map (rnV σ 3)=u8s zs:=fun zs σ=>Zp (Zm _)
 have hneed:Y7 fr 23 a=1:=by unfold Y7; simp
 have hmt:Ya fr 23 a b m N=J3 (fr b) (atS fr b m) (Yt 23) 1 N:=by unfold Ya; rw[hneed]
 have ht':(((Ya fr 23 a b m N:Nat):Int) !=0)=false:=by rw[ht]; rfl
 have e1:∀ x y:Int,x≠y→(x==y)=false:=fun x y h=>beq_eq_false_iff_ne.2 h
 have hb2:∀ {L:Sy.Steps},(L=[(74,48,lcC (atS fr b m) x zs f N g n,[64,65,66,67])])→∀ y∈L,ConOk Tryz.prog y.2.1 3 y.2.2.1∧FlatC y.2.2.1:=fun hL y hy=>by
  subst hL
  obtain rfl:=List.mem_singleton.1 hy
  exact⟨hx,⟨fun x hx=>by cases hx⟩⟩
 have hP:(fr b).P<65536:=(hfr b).2.2.2.2.1
 have hbit:(bits BinOp.and u16 ((fr b).P:Int) (8:Int) !=(0:Int))=decide ((fr b).P&&&8≠0):=by
  rw[show(8:Int)=((8:Nat):Int) from rfl,u16_and_nat _ 8 hP (by omega),Zah]
 cases hxv:x.V
 ·have hr:=ZmB (inS 23 a b c m) fr (fr b) (Yt 23) (atS fr b m) (Ya fr 23 a b m N) zs f N g n x
  have ev:(lcV x (fr b).P).val = .agg ⟨[.int .u32 x.C,.int .u8 x.E,.int .u16 x.B,.int .u16 x.T,.int .u16 x.P,.int .u16 x.Y,.int .u32 x.R,.bool false]⟩:=by unfold lcV Cp.val Cp.cs; simp only[rr, tt, hxv,Bool.false_and]
  unfold Y8
  rw[ev]
  refine Yx (Zt (L:=100) Zg (Zs (Zj (X7 (i:=inS 23 a b c m) rfl hmt h (hfr b) (by omega) (X6 _ _ _) (show 0<Yt 23 by decide) (WJ _) (hb2 rfl))) (Zf _)) (Ze _) 20) (QK _ _) rfl rfl hr ?_
  simp(disch:=decide) only[rr, tt, inS,Qg fr b hb,Qh fr b hb,Qi fr b hb,Qj fr b hb,Qe fr b hb,Qk fr b hb,Ql fr b hb,Qm fr b hb,Zo fr b hb,Zq fr b hb,Qg fr a ha,Qh fr a ha,Qi fr a ha,Qj fr a ha,Qe fr a ha,Qk fr a ha,Ql fr a ha,Qm fr a ha,Zo fr a ha,Zq fr a ha,Y6,z0,z1,z2,z3,v1,v2,u1,u2,Int.toNat_natCast,Bool.and_self,cond_true,and_true,true_and,and_self,Nat.le_refl,decide_true,e1,beq_self_eq_true,ht',hxv]
 ·have hr:=ZmA (inS 23 a b c m) fr (fr b) (Yt 23) (atS fr b m) (Ya fr 23 a b m N) zs f N g n x
  have ev:(lcV x (fr b).P).val = .agg ⟨[.int .u32 x.C,.int .u8 x.E,.int .u16 x.B,.int .u16 x.T,.int .u16 x.P,.int .u16 x.Y,.int .u32 x.R,.bool (bits BinOp.and u16 ((fr b).P:Int) (8:Int) !=(0:Int))]⟩:=by unfold lcV Cp.val Cp.cs; simp only[rr, tt, hxv,Bool.true_and,hbit]
  unfold Y8
  rw[ev]
  simp only[rr, tt, inS,Int.toNat_natCast,Qe fr b hb] at hr
  refine Yx (Zt (L:=100) Zg (Zs (Zj (X7 (i:=inS 23 a b c m) rfl hmt h (hfr b) (by omega) (X6 _ _ _) (show 0<Yt 23 by decide) (WJ _) (hb2 rfl))) (Zf _)) (Ze _) 20) (QK _ _) rfl rfl hr ?_
  simp(disch:=decide) only[rr, tt, inS,Qg fr b hb,Qh fr b hb,Qi fr b hb,Qj fr b hb,Qe fr b hb,Qk fr b hb,Ql fr b hb,Qm fr b hb,Zo fr b hb,Zq fr b hb,Qg fr a ha,Qh fr a ha,Qi fr a ha,Qj fr a ha,Qe fr a ha,Qk fr a ha,Ql fr a ha,Qm fr a ha,Zo fr a ha,Zq fr a ha,Y6,z0,z1,z2,z3,v1,v2,u1,u2,Int.toNat_natCast,Bool.and_self,cond_true,and_true,true_and,and_self,Nat.le_refl,decide_true,e1,beq_self_eq_true,ht',hxv]
theorem Zkv (fr:Nat→Cp) (a b c:Nat) (m:Int) (zs:List UInt8) (f:Nat→Bool) (N g n:Nat) (h:ArOk zs N g n) (hfr:Wp fr) (ha0:a<16) (hb0:b<16) (ht:Ya fr 20 a b m N=0):ConOk Tryz.prog 37 3 (Zbi (mvA fr (inS 20 a b c m)) (.tuple ⟨[(fr a).val,.int .i64 0]⟩) zs (QW (atS fr b m) (leW 1 (fr a).C) zs) f (Qr f (atS fr b m/16) false) N g n)∧FlatC (Zbi (mvA fr (inS 20 a b c m)) (.tuple ⟨[(fr a).val,.int .i64 0]⟩) zs (QW (atS fr b m) (leW 1 (fr a).C) zs) f (Qr f (atS fr b m/16) false) N g n):=by
 have ha:a<17:=by omega
 have hb:b<17:=by omega
 have z0:decide ((0:Int)≤(b:Int))=true:=decide_eq_true (by omega)
 have z1:decide ((b:Int)<16)=true:=decide_eq_true (by omega)
 have z2:decide ((0:Int)≤(a:Int))=true:=decide_eq_true (by omega)
 have z3:decide ((a:Int)<16)=true:=decide_eq_true (by omega)
 have v1:∀ (f:Nat→Bool) (σ:Nat→Nat),(v64 (Za f n)).map (rnV σ 3)=v64 (Za f n):=fun f σ=>Zp (Zr _)
 have v2:∀ (f:Nat→Bool) (p:Nat→Bool),(v64 (Za f n)).all (okV p 3)=true:=fun f p=>Zn (Zr _)
 have u1:∀ (zs:List UInt8) (p:Nat→Bool),(u8s zs).all (okV p 3)=true:=fun zs p=>Zn (Zm _)
 have u2:∀ (zs:List UInt8) (σ:Nat→Nat),(u8s zs).map (rnV σ 3)=u8s zs:=fun zs σ=>Zp (Zm _)
 have hneed:Y7 fr 20 a=2:=by unfold Y7; simp
 have hmt:Ya fr 20 a b m N=J3 (fr b) (atS fr b m) 1 2 N:=by unfold Ya; rw[hneed]; rfl
 have hr:=Zkp (inS 20 a b c m) fr (fr b) 1 (atS fr b m) (Ya fr 20 a b m N) zs f N g n (fr a).C (QW (atS fr b m) (leW 1 (fr a).C) zs) (Qr f (atS fr b m/16) false)
 obtain⟨hin,hal,_⟩:=VJ (hmt.symm.trans ht)
 have ht':(((Ya fr 20 a b m N:Nat):Int) !=0)=false:=by rw[ht]; rfl
 have e1:∀ x y:Int,x≠y→(x==y)=false:=fun x y h=>beq_eq_false_iff_ne.2 h
 simp only[rr, tt, inS,Int.toNat_natCast,Qg fr b hb,Qh fr b hb,Qi fr b hb,Qj fr b hb,Qe fr b hb,Qk fr b hb,Ql fr b hb,Qm fr b hb,Zo fr b hb,Zq fr b hb,Qg fr a ha,Qh fr a ha,Qi fr a ha,Qj fr a ha,Qe fr a ha,Qk fr a ha,Ql fr a ha,Qm fr a ha,Zo fr a ha,Zq fr a ha,Y6] at hr
 refine JN (Zt (L:=100) Zg (Zs (Zj (X7 (i:=inS 20 a b c m) rfl hmt h (hfr b) (by omega) (X6 _ _ _) (show 0<Yt 20 by decide) (show Yt 20≤16 by decide) (fun x hx => ?_))) (Zf _)) (Ze _) 20) (QK _ _) rfl rfl hr ?_ (YN _ _ N g n _ _ rfl rfl rfl rfl rfl rfl) ⟨⟨rfl,Nat.le_refl _⟩,⟨rfl,Nat.le_refl _⟩,trivial⟩
 ·obtain rfl:=List.mem_singleton.1 hx
  exact Zag 1 (atS fr b m) (fr a).C zs f N g n h (by omega) (hfr a).1 hal hin
 simp(disch:=decide) only[rr, tt, inS,Qg fr b hb,Qh fr b hb,Qi fr b hb,Qj fr b hb,Qe fr b hb,Qk fr b hb,Ql fr b hb,Qm fr b hb,Zo fr b hb,Zq fr b hb,Qg fr a ha,Qh fr a ha,Qi fr a ha,Qj fr a ha,Qe fr a ha,Qk fr a ha,Ql fr a ha,Qm fr a ha,Zo fr a ha,Zq fr a ha,Y6,z0,z1,z2,z3,v1,v2,u1,u2,Int.toNat_natCast,Bool.and_self,cond_true,and_true,true_and,and_self,Nat.le_refl,decide_true,e1,beq_self_eq_true,ht']
theorem Zkw (fr:Nat→Cp) (a b c:Nat) (m:Int) (zs:List UInt8) (f:Nat→Bool) (N g n:Nat) (h:ArOk zs N g n) (hfr:Wp fr) (ha0:a<16) (hb0:b<16) (ht:Ya fr 21 a b m N=0):ConOk Tryz.prog 37 3 (Zbi (mvA fr (inS 21 a b c m)) (.tuple ⟨[(fr a).val,.int .i64 0]⟩) zs (QW (atS fr b m) (leW 2 (fr a).C) zs) f (Qr f (atS fr b m/16) false) N g n)∧FlatC (Zbi (mvA fr (inS 21 a b c m)) (.tuple ⟨[(fr a).val,.int .i64 0]⟩) zs (QW (atS fr b m) (leW 2 (fr a).C) zs) f (Qr f (atS fr b m/16) false) N g n):=by
 have ha:a<17:=by omega
 have hb:b<17:=by omega
 have z0:decide ((0:Int)≤(b:Int))=true:=decide_eq_true (by omega)
 have z1:decide ((b:Int)<16)=true:=decide_eq_true (by omega)
 have z2:decide ((0:Int)≤(a:Int))=true:=decide_eq_true (by omega)
 have z3:decide ((a:Int)<16)=true:=decide_eq_true (by omega)
 have v1:∀ (f:Nat→Bool) (σ:Nat→Nat),(v64 (Za f n)).map (rnV σ 3)=v64 (Za f n):=fun f σ=>Zp (Zr _)
 have v2:∀ (f:Nat→Bool) (p:Nat→Bool),(v64 (Za f n)).all (okV p 3)=true:=fun f p=>Zn (Zr _)
 have u1:∀ (zs:List UInt8) (p:Nat→Bool),(u8s zs).all (okV p 3)=true:=fun zs p=>Zn (Zm _)
 have u2:∀ (zs:List UInt8) (σ:Nat→Nat),(u8s zs).map (rnV σ 3)=u8s zs:=fun zs σ=>Zp (Zm _)
 have hneed:Y7 fr 21 a=2:=by unfold Y7; simp
 have hmt:Ya fr 21 a b m N=J3 (fr b) (atS fr b m) 2 2 N:=by unfold Ya; rw[hneed]; rfl
 have hr:=Zkq (inS 21 a b c m) fr (fr b) 2 (atS fr b m) (Ya fr 21 a b m N) zs f N g n (fr a).C (QW (atS fr b m) (leW 2 (fr a).C) zs) (Qr f (atS fr b m/16) false)
 obtain⟨hin,hal,_⟩:=VJ (hmt.symm.trans ht)
 have ht':(((Ya fr 21 a b m N:Nat):Int) !=0)=false:=by rw[ht]; rfl
 have e1:∀ x y:Int,x≠y→(x==y)=false:=fun x y h=>beq_eq_false_iff_ne.2 h
 simp only[rr, tt, inS,Int.toNat_natCast,Qg fr b hb,Qh fr b hb,Qi fr b hb,Qj fr b hb,Qe fr b hb,Qk fr b hb,Ql fr b hb,Qm fr b hb,Zo fr b hb,Zq fr b hb,Qg fr a ha,Qh fr a ha,Qi fr a ha,Qj fr a ha,Qe fr a ha,Qk fr a ha,Ql fr a ha,Qm fr a ha,Zo fr a ha,Zq fr a ha,Y6] at hr
 refine JN (Zt (L:=100) Zg (Zs (Zj (X7 (i:=inS 21 a b c m) rfl hmt h (hfr b) (by omega) (X6 _ _ _) (show 0<Yt 21 by decide) (show Yt 21≤16 by decide) (fun x hx => ?_))) (Zf _)) (Ze _) 20) (QK _ _) rfl rfl hr ?_ (YN _ _ N g n _ _ rfl rfl rfl rfl rfl rfl) ⟨⟨rfl,Nat.le_refl _⟩,⟨rfl,Nat.le_refl _⟩,trivial⟩
 ·obtain rfl:=List.mem_singleton.1 hx
  exact Zag 2 (atS fr b m) (fr a).C zs f N g n h (by omega) (hfr a).1 hal hin
 simp(disch:=decide) only[rr, tt, inS,Qg fr b hb,Qh fr b hb,Qi fr b hb,Qj fr b hb,Qe fr b hb,Qk fr b hb,Ql fr b hb,Qm fr b hb,Zo fr b hb,Zq fr b hb,Qg fr a ha,Qh fr a ha,Qi fr a ha,Qj fr a ha,Qe fr a ha,Qk fr a ha,Ql fr a ha,Qm fr a ha,Zo fr a ha,Zq fr a ha,Y6,z0,z1,z2,z3,v1,v2,u1,u2,Int.toNat_natCast,Bool.and_self,cond_true,and_true,true_and,and_self,Nat.le_refl,decide_true,e1,beq_self_eq_true,ht']
theorem Zkx (fr:Nat→Cp) (a b c:Nat) (m:Int) (zs:List UInt8) (f:Nat→Bool) (N g n:Nat) (h:ArOk zs N g n) (hfr:Wp fr) (ha0:a<16) (hb0:b<16) (ht:Ya fr 22 a b m N=0):ConOk Tryz.prog 37 3 (Zbi (mvA fr (inS 22 a b c m)) (.tuple ⟨[(fr a).val,.int .i64 0]⟩) zs (QW (atS fr b m) (leW 4 (fr a).C) zs) f (Qr f (atS fr b m/16) false) N g n)∧FlatC (Zbi (mvA fr (inS 22 a b c m)) (.tuple ⟨[(fr a).val,.int .i64 0]⟩) zs (QW (atS fr b m) (leW 4 (fr a).C) zs) f (Qr f (atS fr b m/16) false) N g n):=by
 have ha:a<17:=by omega
 have hb:b<17:=by omega
 have z0:decide ((0:Int)≤(b:Int))=true:=decide_eq_true (by omega)
 have z1:decide ((b:Int)<16)=true:=decide_eq_true (by omega)
 have z2:decide ((0:Int)≤(a:Int))=true:=decide_eq_true (by omega)
 have z3:decide ((a:Int)<16)=true:=decide_eq_true (by omega)
 have v1:∀ (f:Nat→Bool) (σ:Nat→Nat),(v64 (Za f n)).map (rnV σ 3)=v64 (Za f n):=fun f σ=>Zp (Zr _)
 have v2:∀ (f:Nat→Bool) (p:Nat→Bool),(v64 (Za f n)).all (okV p 3)=true:=fun f p=>Zn (Zr _)
 have u1:∀ (zs:List UInt8) (p:Nat→Bool),(u8s zs).all (okV p 3)=true:=fun zs p=>Zn (Zm _)
 have u2:∀ (zs:List UInt8) (σ:Nat→Nat),(u8s zs).map (rnV σ 3)=u8s zs:=fun zs σ=>Zp (Zm _)
 have hneed:Y7 fr 22 a=2:=by unfold Y7; simp
 have hmt:Ya fr 22 a b m N=J3 (fr b) (atS fr b m) 4 2 N:=by unfold Ya; rw[hneed]; rfl
 have hr:=Zkr (inS 22 a b c m) fr (fr b) 4 (atS fr b m) (Ya fr 22 a b m N) zs f N g n (fr a).C (QW (atS fr b m) (leW 4 (fr a).C) zs) (Qr f (atS fr b m/16) false)
 obtain⟨hin,hal,_⟩:=VJ (hmt.symm.trans ht)
 have ht':(((Ya fr 22 a b m N:Nat):Int) !=0)=false:=by rw[ht]; rfl
 have e1:∀ x y:Int,x≠y→(x==y)=false:=fun x y h=>beq_eq_false_iff_ne.2 h
 simp only[rr, tt, inS,Int.toNat_natCast,Qg fr b hb,Qh fr b hb,Qi fr b hb,Qj fr b hb,Qe fr b hb,Qk fr b hb,Ql fr b hb,Qm fr b hb,Zo fr b hb,Zq fr b hb,Qg fr a ha,Qh fr a ha,Qi fr a ha,Qj fr a ha,Qe fr a ha,Qk fr a ha,Ql fr a ha,Qm fr a ha,Zo fr a ha,Zq fr a ha,Y6] at hr
 refine JN (Zt (L:=100) Zg (Zs (Zj (X7 (i:=inS 22 a b c m) rfl hmt h (hfr b) (by omega) (X6 _ _ _) (show 0<Yt 22 by decide) (show Yt 22≤16 by decide) (fun x hx => ?_))) (Zf _)) (Ze _) 20) (QK _ _) rfl rfl hr ?_ (YN _ _ N g n _ _ rfl rfl rfl rfl rfl rfl) ⟨⟨rfl,Nat.le_refl _⟩,⟨rfl,Nat.le_refl _⟩,trivial⟩
 ·obtain rfl:=List.mem_singleton.1 hx
  exact Zag 4 (atS fr b m) (fr a).C zs f N g n h (by omega) (hfr a).1 hal hin
 simp(disch:=decide) only[rr, tt, inS,Qg fr b hb,Qh fr b hb,Qi fr b hb,Qj fr b hb,Qe fr b hb,Qk fr b hb,Ql fr b hb,Qm fr b hb,Zo fr b hb,Zq fr b hb,Qg fr a ha,Qh fr a ha,Qi fr a ha,Qj fr a ha,Qe fr a ha,Qk fr a ha,Ql fr a ha,Qm fr a ha,Zo fr a ha,Zq fr a ha,Y6,z0,z1,z2,z3,v1,v2,u1,u2,Int.toNat_natCast,Bool.and_self,cond_true,and_true,true_and,and_self,Nat.le_refl,decide_true,e1,beq_self_eq_true,ht']
theorem ZmI (fr:Nat→Cp) (a b c:Nat) (m:Int) (zs:List UInt8) (f:Nat→Bool) (N g n:Nat) (h:ArOk zs N g n) (hfr:Wp fr) (ha0:a<16) (hb0:b<16) (kV:(fr a).V=true) (ht:Ya fr 24 a b m N=0):ConOk Tryz.prog 37 3 (Zbi (mvA fr (inS 24 a b c m)) (.tuple ⟨[(fr a).val,.int .i64 0]⟩) zs (QW (atS fr b m) (cbL (fr a).C (fr a).E (fr a).B (fr a).T (fr a).P (fr a).Y (fr a).R) zs) f (Qr f (atS fr b m/16) ((fr a).V&&Yd (fr a).E (fr a).B (fr a).T (fr a).P (fr a).Y (fr a).R)) N g n)∧FlatC (Zbi (mvA fr (inS 24 a b c m)) (.tuple ⟨[(fr a).val,.int .i64 0]⟩) zs (QW (atS fr b m) (cbL (fr a).C (fr a).E (fr a).B (fr a).T (fr a).P (fr a).Y (fr a).R) zs) f (Qr f (atS fr b m/16) ((fr a).V&&Yd (fr a).E (fr a).B (fr a).T (fr a).P (fr a).Y (fr a).R)) N g n):=by
 have ha:a<17:=by omega
 have hb:b<17:=by omega
 have z0:decide ((0:Int)≤(b:Int))=true:=decide_eq_true (by omega)
 have z1:decide ((b:Int)<16)=true:=decide_eq_true (by omega)
 have z2:decide ((0:Int)≤(a:Int))=true:=decide_eq_true (by omega)
 have z3:decide ((a:Int)<16)=true:=decide_eq_true (by omega)
 have v1:∀ (f:Nat→Bool) (σ:Nat→Nat),(v64 (Za f n)).map (rnV σ 3)=v64 (Za f n):=fun f σ=>Zp (Zr _)
 have v2:∀ (f:Nat→Bool) (p:Nat→Bool),(v64 (Za f n)).all (okV p 3)=true:=fun f p=>Zn (Zr _)
 have u1:∀ (zs:List UInt8) (p:Nat→Bool),(u8s zs).all (okV p 3)=true:=fun zs p=>Zn (Zm _)
 have u2:∀ (zs:List UInt8) (σ:Nat→Nat),(u8s zs).map (rnV σ 3)=u8s zs:=fun zs σ=>Zp (Zm _)
 have hneed:Y7 fr 24 a=18:=by unfold Y7; simp only[rr, tt, kV,if_true,if_false,Bool.false_eq_true,reduceIte]
 have hmt:Ya fr 24 a b m N=J3 (fr b) (atS fr b m) 16 18 N:=by unfold Ya; rw[hneed]; rfl
 have hr:=ZmC (inS 24 a b c m) fr (fr b) 16 (atS fr b m) (Ya fr 24 a b m N) zs f N g n (fr a) (QW (atS fr b m) (cbL (fr a).C (fr a).E (fr a).B (fr a).T (fr a).P (fr a).Y (fr a).R) zs) (Qr f (atS fr b m/16) ((fr a).V&&Yd (fr a).E (fr a).B (fr a).T (fr a).P (fr a).Y (fr a).R))
 obtain⟨hin,hal,_⟩:=VJ (hmt.symm.trans ht)
 have ht':(((Ya fr 24 a b m N:Nat):Int) !=0)=false:=by rw[ht]; rfl
 have e1:∀ x y:Int,x≠y→(x==y)=false:=fun x y h=>beq_eq_false_iff_ne.2 h
 have hcp:CpB (fr a).C (fr a).E (fr a).B (fr a).T (fr a).P (fr a).Y (fr a).R:=by obtain⟨h1,h2,h3,h4,h5,h6,h7⟩:=hfr a; exact⟨h1,h2,h3,h4,h5,h6,h7⟩
 simp only[rr, tt, inS,Int.toNat_natCast,Qg fr b hb,Qh fr b hb,Qi fr b hb,Qj fr b hb,Qe fr b hb,Qk fr b hb,Ql fr b hb,Qm fr b hb,Zo fr b hb,Zq fr b hb,Qg fr a ha,Qh fr a ha,Qi fr a ha,Qj fr a ha,Qe fr a ha,Qk fr a ha,Ql fr a ha,Qm fr a ha,Zo fr a ha,Zq fr a ha,Y6] at hr
 refine JN (Zt (L:=100) Zg (Zs (Zj (X7 (i:=inS 24 a b c m) rfl hmt h (hfr b) (by omega) (X6 _ _ _) (show 0<Yt 24 by decide) (show Yt 24≤16 by decide) (fun x hx => ?_))) (Zf _)) (Ze _) 20) (QK _ _) rfl rfl hr ?_ (YN _ _ N g n _ _ rfl rfl rfl rfl rfl rfl) ⟨⟨rfl,Nat.le_refl _⟩,⟨rfl,Nat.le_refl _⟩,trivial⟩
 ·obtain rfl:=List.mem_singleton.1 hx
  exact ZbX (atS fr b m) (fr a).C (fr a).E (fr a).B (fr a).T (fr a).P (fr a).Y (fr a).R (fr a).V zs f N g n h hcp hal hin
 simp(disch:=decide) only[rr, tt, inS,Qg fr b hb,Qh fr b hb,Qi fr b hb,Qj fr b hb,Qe fr b hb,Qk fr b hb,Ql fr b hb,Qm fr b hb,Zo fr b hb,Zq fr b hb,Qg fr a ha,Qh fr a ha,Qi fr a ha,Qj fr a ha,Qe fr a ha,Qk fr a ha,Ql fr a ha,Qm fr a ha,Zo fr a ha,Zq fr a ha,Y6,z0,z1,z2,z3,v1,v2,u1,u2,Int.toNat_natCast,Bool.and_self,cond_true,and_true,true_and,and_self,Nat.le_refl,decide_true,e1,beq_self_eq_true,ht',kV]
theorem ZmJ (fr:Nat→Cp) (a b c:Nat) (m:Int) (zs:List UInt8) (f:Nat→Bool) (N g n:Nat) (h:ArOk zs N g n) (hfr:Wp fr) (ha0:a<16) (hb0:b<16) (kV:(fr a).V=false) (ht:Ya fr 24 a b m N=0):ConOk Tryz.prog 37 3 (Zbi (mvA fr (inS 24 a b c m)) (.tuple ⟨[(fr a).val,.int .i64 0]⟩) zs (QW (atS fr b m) (cbL (fr a).C (fr a).E (fr a).B (fr a).T (fr a).P (fr a).Y (fr a).R) zs) f (Qr f (atS fr b m/16) ((fr a).V&&Yd (fr a).E (fr a).B (fr a).T (fr a).P (fr a).Y (fr a).R)) N g n)∧FlatC (Zbi (mvA fr (inS 24 a b c m)) (.tuple ⟨[(fr a).val,.int .i64 0]⟩) zs (QW (atS fr b m) (cbL (fr a).C (fr a).E (fr a).B (fr a).T (fr a).P (fr a).Y (fr a).R) zs) f (Qr f (atS fr b m/16) ((fr a).V&&Yd (fr a).E (fr a).B (fr a).T (fr a).P (fr a).Y (fr a).R)) N g n):=by
 have ha:a<17:=by omega
 have hb:b<17:=by omega
 have z0:decide ((0:Int)≤(b:Int))=true:=decide_eq_true (by omega)
 have z1:decide ((b:Int)<16)=true:=decide_eq_true (by omega)
 have z2:decide ((0:Int)≤(a:Int))=true:=decide_eq_true (by omega)
 have z3:decide ((a:Int)<16)=true:=decide_eq_true (by omega)
 have v1:∀ (f:Nat→Bool) (σ:Nat→Nat),(v64 (Za f n)).map (rnV σ 3)=v64 (Za f n):=fun f σ=>Zp (Zr _)
 have v2:∀ (f:Nat→Bool) (p:Nat→Bool),(v64 (Za f n)).all (okV p 3)=true:=fun f p=>Zn (Zr _)
 have u1:∀ (zs:List UInt8) (p:Nat→Bool),(u8s zs).all (okV p 3)=true:=fun zs p=>Zn (Zm _)
 have u2:∀ (zs:List UInt8) (σ:Nat→Nat),(u8s zs).map (rnV σ 3)=u8s zs:=fun zs σ=>Zp (Zm _)
 have hneed:Y7 fr 24 a=2:=by unfold Y7; simp only[rr, tt, kV,if_true,if_false,Bool.false_eq_true,reduceIte]
 have hmt:Ya fr 24 a b m N=J3 (fr b) (atS fr b m) 16 2 N:=by unfold Ya; rw[hneed]; rfl
 have hr:=ZmD (inS 24 a b c m) fr (fr b) 16 (atS fr b m) (Ya fr 24 a b m N) zs f N g n (fr a) (QW (atS fr b m) (cbL (fr a).C (fr a).E (fr a).B (fr a).T (fr a).P (fr a).Y (fr a).R) zs) (Qr f (atS fr b m/16) ((fr a).V&&Yd (fr a).E (fr a).B (fr a).T (fr a).P (fr a).Y (fr a).R))
 obtain⟨hin,hal,_⟩:=VJ (hmt.symm.trans ht)
 have ht':(((Ya fr 24 a b m N:Nat):Int) !=0)=false:=by rw[ht]; rfl
 have e1:∀ x y:Int,x≠y→(x==y)=false:=fun x y h=>beq_eq_false_iff_ne.2 h
 have hcp:CpB (fr a).C (fr a).E (fr a).B (fr a).T (fr a).P (fr a).Y (fr a).R:=by obtain⟨h1,h2,h3,h4,h5,h6,h7⟩:=hfr a; exact⟨h1,h2,h3,h4,h5,h6,h7⟩
 simp only[rr, tt, inS,Int.toNat_natCast,Qg fr b hb,Qh fr b hb,Qi fr b hb,Qj fr b hb,Qe fr b hb,Qk fr b hb,Ql fr b hb,Qm fr b hb,Zo fr b hb,Zq fr b hb,Qg fr a ha,Qh fr a ha,Qi fr a ha,Qj fr a ha,Qe fr a ha,Qk fr a ha,Ql fr a ha,Qm fr a ha,Zo fr a ha,Zq fr a ha,Y6] at hr
 refine JN (Zt (L:=100) Zg (Zs (Zj (X7 (i:=inS 24 a b c m) rfl hmt h (hfr b) (by omega) (X6 _ _ _) (show 0<Yt 24 by decide) (show Yt 24≤16 by decide) (fun x hx => ?_))) (Zf _)) (Ze _) 20) (QK _ _) rfl rfl hr ?_ (YN _ _ N g n _ _ rfl rfl rfl rfl rfl rfl) ⟨⟨rfl,Nat.le_refl _⟩,⟨rfl,Nat.le_refl _⟩,trivial⟩
 ·obtain rfl:=List.mem_singleton.1 hx
  exact ZbX (atS fr b m) (fr a).C (fr a).E (fr a).B (fr a).T (fr a).P (fr a).Y (fr a).R (fr a).V zs f N g n h hcp hal hin
 simp(disch:=decide) only[rr, tt, inS,Qg fr b hb,Qh fr b hb,Qi fr b hb,Qj fr b hb,Qe fr b hb,Qk fr b hb,Ql fr b hb,Qm fr b hb,Zo fr b hb,Zq fr b hb,Qg fr a ha,Qh fr a ha,Qi fr a ha,Qj fr a ha,Qe fr a ha,Qk fr a ha,Ql fr a ha,Qm fr a ha,Zo fr a ha,Zq fr a ha,Y6,z0,z1,z2,z3,v1,v2,u1,u2,Int.toNat_natCast,Bool.and_self,cond_true,and_true,true_and,and_self,Nat.le_refl,decide_true,e1,beq_self_eq_true,ht',kV]
end Go.Proofs.YtagacmljbgkmoaaGreatDoor
namespace Go.Proofs.YtagacmljbgkmoaaGreatDoor
open Go.IntKind (u8 u16 u32 u64 i64)
open Go.ChangeShapes Go.WideShapes Go.ChangeAt Go.RowKit
open Go.ChangeMaps (open_string shut_string)
theorem own:ownKnob Tryz.prog.godebug=none:=by kernel_rfl
theorem Ze6:laidOutB Tryz.prog=true:=by kernel_rfl
section
variable {H:Type} {enc:TypeId×Value→H} {P:Program}
theorem Ki {f:Func} {s:ChangeSpec} {apart fresh handsOn again:Bool} {W W':World} {args:Array Value} {v:Value} {ds gs:List (DataW H)} {before pa pv:List MemPlace}
  (hW:DataW.Whole enc P f.params.toList s.vars apart W args.toList ds gs before)
  (hres:∀ (b:Nat) (sp:Nat→Bool) (hd:Bool),DataW.TrodAll enc P W' b sp hd f.resultTypes.toList (v.resultList f.resultTypes.size) (s.fn H (ds++gs)).results [])
  (hargs:∀ sp:Nat→Bool,(∀ p∈before,sp p.block=true)→DataW.TrodAll enc P W' 0 sp true f.params.toList args.toList (s.fn H (ds++gs)).args pa)
  (hvars:∀ sp:Nat→Bool,(∀ p∈before,sp p.block=true)→DataW.TrodVars enc P W' sp s.vars (s.fn H (ds++gs)).vars pv)
  (hps:before=pa++pv) (hb:Below W.heap.size W W')
  (hok:∀ (j:Nat) (t:TypeId) (r:Value),f.resultTypes[j]? = some t→(v.resultList f.resultTypes.size)[j]? = some r→Value.okWide P W' .any 0 t r) :
  s.post enc P f apart fresh handsOn again W args v W':=by
 have hlt:∀ p∈before,p.block<W.heap.size:=fun p hp=>hW.lt p hp
 have hold:∀ p∈before,(fun b=>decide (b<W.heap.size)) p.block=true:=fun p hp=>by simpa using hlt p hp
 refine⟨ds,gs,before,[],pa,pv,hW,hres _ _ _,hargs _ hold,hvars _ hold,World.keptBut_mono (fun p hp=>⟨hp,?_⟩) (hb.frame (· ∈ before)),fun _ => ?_⟩
 ·rw[hps,List.mem_append] at hp
  exact Or.inr hp
 ·obtain⟨_,_,_,_,_,hz,hn⟩:=hW
  refine⟨hok,_,_,([]++pa)++pv,⟨[]++pa,pv,trodAll_append (hargs _ (fun _ _=>rfl)) (hres _ _ _),hvars _ (fun _ _=>rfl),rfl,?_,?_⟩,?_⟩
  ·intro b off hp
   have hin:MemPlace.cell b off∈before:=by rw[hps]; simpa using hp
   rw[hb.frozen (hlt _ hin)]
   exact hz b off hin
  ·intro ha
   have:=hn ha
   rw[hps] at this
   simpa using this
  ·intro p hp _
   rw[hps]
   simpa using hp
theorem WK (hl:laidOutB P=true) {W W':World} (hb:Below W.heap.size W W') {sp:Nat→Bool}:∀ (ts:List TypeId) (vs:List Value) (ds:List (DataW H)) (ps:List MemPlace),
  (∀ t∈ts,P.readableRec t=true∧t<P.types.size)→DataW.TrodAll enc P W 0 (fun _=>true) true ts vs ds ps→(∀ x∈ps,x.block<W.heap.size)→(∀ x∈ps,sp x.block=true) →
  DataW.TrodAll enc P W' 0 sp true ts vs ds ps
 | [],[],[],_,_,h,_,_=>h
 | t::ts,v::vs,d::ds,ps,ht,h,hlt,hs=>by
  obtain⟨p,q,h1,h2,rfl⟩:=h
  refine⟨p,q,?_,WK hl hb ts vs ds q (fun u hu=>ht u (List.mem_cons_of_mem _ hu)) h2 (fun x hx=>hlt x (List.mem_append_right _ hx)) (fun x hx=>hs x (List.mem_append_right _ hx)),rfl⟩
  exact WideElems.Trod_stays hl (ht t (List.mem_cons_self ..)).1 (ht t (List.mem_cons_self ..)).2 h1 (fun x hx=>hb.same (hlt x (List.mem_append_left _ hx))) (fun x hx=>hs x (List.mem_append_left _ hx))
 | [],[],_::_,_,_,h,_,_=>h.elim
 | [],_::_,_,_,_,h,_,_=>h.elim
 | _::_,[],_,_,_,h,_,_=>h.elim
 | _::_,_::_,[],_,_,h,_,_=>h.elim
theorem Wc {W:World} {base:Nat} {sp:Nat→Bool} {hd:Bool}:∀ (ts:List TypeId) (vs:List Value) (ds:List (DataW H)) (ps:List MemPlace),DataW.TrodAll enc P W base sp hd ts vs ds ps→ds.length=ts.length
 | [],[],[],_,_=>rfl
 | _::ts,_::vs,_::ds,_,h=>by
  obtain⟨_,_,_,h2,_⟩:=h
  simp[Wc ts vs ds _ h2]
 | [],[],_::_,_,h=>h.elim
 | [],_::_,_,_,h=>h.elim
 | _::_,[],_,_,h=>h.elim
 | _::_,_::_,[],_,h=>h.elim
end
theorem Zky {n:Int} (h:(Lit.int .u32 n).wf=true):0≤n∧n<4294967296:=by
 have:=bounds_u32 h; omega
theorem ZmK {n:Int} (h:(Lit.int .u8 n).wf=true):0≤n∧n<256:=by
 have:=bounds_u8 h; omega
theorem Zkz {n:Int} (h:(Lit.int .u16 n).wf=true):0≤n∧n<65536:=by
 have:=bounds_u16 h; omega
end Go.Proofs.YtagacmljbgkmoaaGreatDoor
namespace Go.Proofs.YtagacmljbgkmoaaGreatDoor
open Go.IntKind (u8 u16 u32 u64 i64)
open Go.ChangeShapes Go.WideShapes Go.ChangeAt Go.RowKit
abbrev ZbZ:List (String×DataW Unit):=[("fallow/isa.rows",Rows.laid_fallow_isa_rows)]
def ZcQ (f:FuncId) (fn:Func):Prop :=
 ∀ (H:Type) (enc:TypeId×Value→H) (W:World) (base:Nat) (args:Array Value) (ds:List (DataW H)) (p:List MemPlace),laidMetH Tryz.prog ZbZ W →
  (∀ (j:Nat) t v,fn.params[j]? = some t→args[j]? = some v→Value.okWide Tryz.prog W .any base t v) →
  DataW.TrodAll enc Tryz.prog W 0 (fun _=>true) true fn.params.toList args.toList ds p →
  Calls Tryz.prog f args W fun e W'=>e = .returned (.bool true)∧Below W.heap.size W W'
set_option maxRecDepth 100000 in
theorem Zb0 (f:FuncId) (fn:Func) (s:ChangeSpec) (conds:List PathCond) (hfn:Tryz.prog.funcs[f]? = some fn) (noInit:Tryz.prog.inits.idxOf? f=none)
  (hres:fn.resultTypes = #[4])
  (hvars:s.vars=[]) (hspec:∀ (H:Type) (ds:List (DataW H)),ds.length=fn.params.toList.length→(s.fn H (ds++[])).results=[.lit (.bool true)]∧(s.fn H (ds++[])).args=ds∧(s.fn H (ds++[])).vars=[])
  (hts:∀ t∈fn.params.toList,Tryz.prog.readableRec t=true∧t<Tryz.prog.types.size)
  (walk:ZcQ f fn) (os:Os) (started:os.Started) (H:Type) (enc:TypeId×Value→H)
  (witness:∃ (w:World) (tape:Tape) (i:Input),w.os=os∧(w.forCall tape i).Shaped Tryz.checked.prog∧i.vars=[]∧Input.okWide Tryz.checked.prog (w.forCall tape i) .any w.heap.size f i ∧
   ((s.pre enc Tryz.checked.prog fn conds false (w.forCall tape i).memory i.args∧laidMetH Tryz.prog ZbZ (w.forCall tape i).memory)∧sizedMet enc Tryz.checked.prog fn (OpenSpec.ofChange s) false (w.forCall tape i).memory i.args) ∧
   ({}:Assume).holds Tryz.checked.prog (lone (Frame.enter Tryz.checked.prog f i.args .normal) [] (w.forCall tape i))) :
  ReturnsInHanded {} Tryz.checked os f .any (fun w args=>(s.pre enc Tryz.prog fn conds false w args∧laidMetH Tryz.prog ZbZ w)∧sizedMet enc Tryz.prog fn (OpenSpec.ofChange s) false w args) (s.post enc Tryz.prog fn false true false false):=by
 refine returnsInHanded_of_change_and (C:=Tryz.checked) (X:=fun w _=>laidMetH Tryz.prog ZbZ w) (fun _ _ _ hh h=>h.of_heap hh) own started noInit hfn witness ?_
 intro W base args ds gs before hval0 hW _ _ hL _
 have hW':=hW
 obtain⟨p,q,hA,hV,rfl,_,_⟩:=hW
 rw[hvars] at hV
 obtain⟨rfl,rfl⟩:=trodVars_none hV
 obtain⟨e1,e2,e3⟩:=hspec H ds (Wc _ _ _ _ hA)
 refine(walk H enc W base args ds p hL hval0 hA).mono fun e W' ⟨he,hg⟩ => ?_
 subst he
 refine⟨_,rfl,Ki (pa:=p) (pv:=[]) hW' (fun b sp hd => ?_) (fun sp hsp => ?_) (fun sp _ => ?_) rfl hg ?_⟩
 ·rw[e1,hres]
  exact trodAll_mk1 (shut_bool Tryz.underlying4 _)
 ·rw[e2]
  exact WK Ze6 hg _ _ _ _ hts hA (fun x hx=>hW'.lt x (List.mem_append_left _ hx)) (fun x hx=>hsp x (List.mem_append_left _ hx))
 ·rw[e3,hvars]; rfl
 ·exact ok_one hres rfl (okWide_bool_mk Tryz.underlying4 _)
theorem ZgD (os:Os) (args:Array Value):laidMetH Tryz.prog ZbZ ((World.doorLaid Tryz.prog 400 os).forCall (fun _ _=>0) ⟨#[],args,[]⟩).memory :=
 laidMetH_of_parts3 (fuel:=8) (laidMet_of_run' 8 (by kernel_rfl) (by kernel_rfl)) (by kernel_rfl) (by kernel_rfl)
end Go.Proofs.YtagacmljbgkmoaaGreatDoor
namespace Go.Proofs.YtagacmljbgkmoaaGreatDoor
open Go.IntKind (u8 u16 u32 u64 i64)
open Go.ChangeShapes Go.WideShapes Go.ChangeAt Go.RowKit
def ZjL (w:World) (g:Nat) (cs:List Value):Prop:=∃ (arr:Array Value) (ty:TypeId),w.heap[g]? = some (.cells arr ty (0,0))∧arr.toList=cs
def ZB:List Value:=[.string ⟨⟨[]⟩⟩,.string ⟨⟨[]⟩⟩,.string ⟨⟨[108,105]⟩⟩,.string ⟨⟨[97,105]⟩⟩,.string ⟨⟨[108,117,105]⟩⟩,.string ⟨⟨[97,106]⟩⟩,.string ⟨⟨[97,100,100]⟩⟩,.string ⟨⟨[97,98,99]⟩⟩,.string ⟨⟨[115,117,98]⟩⟩,.string ⟨⟨[97,98,99]⟩⟩,.string ⟨⟨[109,117,108]⟩⟩,.string ⟨⟨[97,98,99]⟩⟩,.string ⟨⟨[100,105,118]⟩⟩,.string ⟨⟨[97,98,99]⟩⟩,.string ⟨⟨[114,101,109]⟩⟩,.string ⟨⟨[97,98,99]⟩⟩,.string ⟨⟨[97,110,100]⟩⟩,.string ⟨⟨[97,98,99]⟩⟩,.string ⟨⟨[111,114]⟩⟩,.string ⟨⟨[97,98,99]⟩⟩,.string ⟨⟨[120,111,114]⟩⟩,.string ⟨⟨[97,98,99]⟩⟩,.string ⟨⟨[115,104,108]⟩⟩,.string ⟨⟨[97,98,99]⟩⟩,.string ⟨⟨[115,104,114]⟩⟩,.string ⟨⟨[97,98,99]⟩⟩,.string ⟨⟨[108,116]⟩⟩,.string ⟨⟨[97,98,99]⟩⟩,.string ⟨⟨[108,116,117]⟩⟩,.string ⟨⟨[97,98,99]⟩⟩,.string ⟨⟨[101,113]⟩⟩,.string ⟨⟨[97,98,99]⟩⟩,.string ⟨⟨[97,100,100,105]⟩⟩,.string ⟨⟨[97,98,105]⟩⟩,.string ⟨⟨[108,98]⟩⟩,.string ⟨⟨[97,98,105]⟩⟩,.string ⟨⟨[108,104]⟩⟩,.string ⟨⟨[97,98,105]⟩⟩,.string ⟨⟨[108,119]⟩⟩,.string ⟨⟨[97,98,105]⟩⟩,.string ⟨⟨[115,98]⟩⟩,.string ⟨⟨[97,98,105]⟩⟩,.string ⟨⟨[115,104]⟩⟩,.string ⟨⟨[97,98,105]⟩⟩,.string ⟨⟨[115,119]⟩⟩,.string ⟨⟨[97,98,105]⟩⟩,.string ⟨⟨[108,99]⟩⟩,.string ⟨⟨[97,98,105]⟩⟩,.string ⟨⟨[115,99]⟩⟩,.string ⟨⟨[97,98,105]⟩⟩,.string ⟨⟨[98,101,113]⟩⟩,.string ⟨⟨[97,98,105]⟩⟩,.string ⟨⟨[98,110,101]⟩⟩,.string ⟨⟨[97,98,105]⟩⟩,.string ⟨⟨[98,108,116]⟩⟩,.string ⟨⟨[97,98,105]⟩⟩,.string ⟨⟨[98,103,101]⟩⟩,.string ⟨⟨[97,98,105]⟩⟩,.string ⟨⟨[106,97,108]⟩⟩,.string ⟨⟨[97,106]⟩⟩,.string ⟨⟨[106,97,108,114]⟩⟩,.string ⟨⟨[97,98]⟩⟩,.string ⟨⟨[109,111,118,101]⟩⟩,.string ⟨⟨[97,98]⟩⟩,.string ⟨⟨[105,110,99]⟩⟩,.string ⟨⟨[97,98,99]⟩⟩,.string ⟨⟨[105,110,99,105]⟩⟩,.string ⟨⟨[97,98,105]⟩⟩,.string ⟨⟨[97,100,100,114]⟩⟩,.string ⟨⟨[97,98,99]⟩⟩,.string ⟨⟨[115,101,116]⟩⟩,.string ⟨⟨[97,98,99]⟩⟩,.string ⟨⟨[101,120,97,99,116]⟩⟩,.string ⟨⟨[97,98,99]⟩⟩,.string ⟨⟨[97,110,100,115]⟩⟩,.string ⟨⟨[97,98,99]⟩⟩,.string ⟨⟨[115,101,97,108]⟩⟩,.string ⟨⟨[97,98,99]⟩⟩,.string ⟨⟨[111,112,101,110]⟩⟩,.string ⟨⟨[97,98,99]⟩⟩,.string ⟨⟨[98,117,105,108,100]⟩⟩,.string ⟨⟨[97,98,99]⟩⟩,.string ⟨⟨[99,108,101,97,114]⟩⟩,.string ⟨⟨[97,98]⟩⟩,.string ⟨⟨[103,97,100,100,114]⟩⟩,.string ⟨⟨[97,98]⟩⟩,.string ⟨⟨[103,98,97,115,101]⟩⟩,.string ⟨⟨[97,98]⟩⟩,.string ⟨⟨[103,108,101,110]⟩⟩,.string ⟨⟨[97,98]⟩⟩,.string ⟨⟨[103,112,101,114,109]⟩⟩,.string ⟨⟨[97,98]⟩⟩,.string ⟨⟨[103,116,121,112,101]⟩⟩,.string ⟨⟨[97,98]⟩⟩,.string ⟨⟨[103,116,97,103]⟩⟩,.string ⟨⟨[97,98]⟩⟩,.string ⟨⟨[105,115,105,110,116]⟩⟩,.string ⟨⟨[97,98]⟩⟩,.string ⟨⟨[112,99]⟩⟩,.string ⟨⟨[97,106]⟩⟩,.string ⟨⟨[99,97,108,108]⟩⟩,.string ⟨⟨[97,98]⟩⟩,.string ⟨⟨[114,101,116]⟩⟩,.string ⟨⟨[]⟩⟩,.string ⟨⟨[101,99,97,108,108]⟩⟩,.string ⟨⟨[105]⟩⟩,.string ⟨⟨[116,114,97,112]⟩⟩,.string ⟨⟨[]⟩⟩]
def ZkA {H:Type}:DataW H→Value
 | .lit (.string b) => .string ⟨⟨b⟩⟩
 | _=>undef
def ZhH {H:Type}:DataW H→List Value
 | .agg [a,b]=>[ZkA a,ZkA b]
 | _=>[]
def Ze7 {H:Type}:DataW H→List (DataW H)
 | .agg l=>l
 | _=>[]
theorem ZgE:(Ze7 (Rows.laid_fallow_isa_rows (H:=Unit))).flatMap ZhH=ZB:=by kernel_rfl
theorem ZmL:Tryz.prog.globalNamed "fallow/isa.rows" = some 0:=by kernel_rfl
theorem ZmM:(Tryz.prog.globals[0]?).map (·.type)=some 204:=by kernel_rfl
theorem ZhI:∀ (L:List (List Value)) (cs:List Value),cs.length=L.length*2→(∀ i,i<L.length→(cs.drop (i*2)).take 2=L.getD i [])→cs=L.flatten
 | [],cs,h,_=>by simpa using h
 | x::L,cs,h,hi=>by
  have h0:=hi 0 (by simp)
  simp at h0
  rw[List.flatten_cons,← h0]
  have:=ZhI L (cs.drop 2) (by simp at h ⊢; omega) (fun i hl=>by
   have:=hi (i+1) (by simpa using hl)
   rw[List.drop_drop]
   simp only[rr, tt, List.getD_cons_succ] at this
   rw[← this]
   congr 2; omega)
  rw[← this]
  exact(List.take_append_drop 2 cs).symm
set_option maxRecDepth 100000 in
theorem Ze8 {W:World} (h:laidMetH Tryz.prog ZbZ W):ZjL W 0 ZB:=by
 rw[MakeChecks.laidMetH_plain _ _ _ (by kernel_rfl)] at h
 obtain⟨ps,⟨g0,t0,cs0,f0,p0,q0,hg0,ht0,hv0,hd0,_,hps⟩,_,hall⟩:=h
 obtain rfl:=Option.some.inj (ZmL.symm.trans hg0)
 obtain rfl:=Option.some.inj (ZmM.symm.trans ht0)
 obtain⟨xs,m,rfl,hx,hlen,hxl,hg⟩:=DataW.trod_array Tryz.underlying204 hd0
 have hL:Ze7 (Rows.laid_fallow_isa_rows (H:=Unit))=xs.map (·.1):=by
  have:=congrArg Prod.fst hx
  simp only at this
  rw[this]; rfl
 have hC:Tryz.prog.cellsOf 186=2:=by kernel_rfl
 have hsz:cs0.toList.length=108:=hlen.trans (by kernel_rfl)
 have each:∀ i,i<54→(cs0.toList.drop (i*2)).take 2=((xs.map (·.1)).map ZhH).getD i []:=by
  intro i hi
  have h1:=hg i hi
  rw[hC,List.getElem?_eq_getElem (by omega)] at h1
  obtain⟨ys,n,_,hy,hcl,hyl,hf⟩:=DataW.trod_struct Tryz.underlying186 h1
  have hcl:((cs0.toList.drop (i*2)).take 2).length=2:=hcl.trans hC
  have f0:=hf 0 _ rfl
  have f1:=hf 1 _ rfl
  match hc:(cs0.toList.drop (i*2)).take 2,hcl with
  | [a,b],_ =>
   rw[hc] at f0 f1
   match ys,hyl with
   | [y0,y1],_ =>
    obtain⟨s0,e0,d0,_⟩:=DataW.trod_string (x:=y0) Tryz.underlying9 f0
    obtain⟨s1,e1,d1,_⟩:=DataW.trod_string (x:=y1) Tryz.underlying9 f1
    have hS:Tryz.prog.cellsOf 9=1:=by kernel_rfl
    replace e0:List.take (Tryz.prog.cellsOf 9) [a,b]=[.string s0]:=e0
    replace e1:List.take (Tryz.prog.cellsOf 9) [b]=[.string s1]:=e1
    rw[hS] at e0 e1
    have e0:a = .string s0:=by simpa using e0
    have e1:b = .string s1:=by simpa using e1
    subst e0 e1 d0 d1
    have hx1:(xs[i]'(by omega)).1 = .agg [.lit (.string s0.data.toList),.lit (.string s1.data.toList)]:=congrArg Prod.fst hy
    rw[List.getD_eq_getElem?_getD,List.getElem?_map,List.getElem?_map,List.getElem?_eq_getElem (by omega)]
    simp only[rr, tt, Option.map_some,Option.getD_some,hx1]
    rfl
 have hcs:cs0.toList=ZB:=by
  rw[← ZgE,hL,List.flatMap_def]
  exact ZhI _ _ (by simp[hsz,hxl]) fun i hi=>each i (by simpa [hxl] using hi)
 have h0:MemPlace.cell 0 0∈ps:=by
  rw[hps]
  refine List.mem_append_left _ (List.mem_append_left _ ?_)
  have:cs0.size=108:=by simpa using hsz
  rw[this]
  simp[MemPlace.row,List.range_succ]
 obtain⟨c,ty,hb⟩:=(hall 0 0 h0).1
 refine⟨c,ty,hb,?_⟩
 unfold World.var? at hv0
 rw[hg0] at hv0
 simp only[rr, tt, Option.bind_some] at hv0
 rw[hb] at hv0
 cases hv0
 exact hcs
end Go.Proofs.YtagacmljbgkmoaaGreatDoor
namespace Go.Proofs.YtagacmljbgkmoaaGreatDoor
open Go.IntKind (u8 u16 u32 u64 i64)
open Go.RowKit
open Sy
set_option maxRecDepth 100000
def ZF (rc:List Value):Sy.Heap:=[(0,⟨false,none,rc,none⟩)]
def gwC (f:List Value) (rc:List Value) (v:Value):Con:=⟨f,64,ZF rc,[],v,64,[],[]⟩
def enL (i:In) (rc:List Value) (x:UInt8) (xs bs:List UInt8):Sy.Steps:=[(65,129,gwC [.int .i64 i.op] rc (.string ⟨⟨x::xs⟩⟩),[]),(67,123,gwC [.int .i64 i.op] rc (.string ⟨⟨bs⟩⟩),[])]
theorem ZiE (i:In) (x:UInt8) (xs:List UInt8) (rc:List Value):obs (evF Tryz.prog (Zz 3 (Zd (enL i rc x xs [(97:UInt8),(105:UInt8)])) Zk) Zh 100 20 70 [i.val] ⟨64,ZF rc,[],0,(tb 44 12976142),0,True⟩)=some (Value.tuple { toList:=[Value.int .u32 (bits BinOp.or u32 (bits BinOp.or u32 (u32.wrap (u32.wrap i.op*(16777216:Int))) (u32.wrap (bits BinOp.and u32 (u32.wrap i.a) (15:Int)*(1048576:Int)))) (u32.wrap (bits BinOp.and u32 (u32.wrap i.m) (4095:Int)*(1:Int)))),.int .i64 0] },(((((((((((((((((((((((((((((((((((((((((((((True∧True∧(rr (Value.int .i64 i.op)∧True)∧((tt∧rc.all (okV (fun l=>l.blt 64) 3)=true∧tt∧tt∧tt∧True∧rc=List.map (rnV (lift 64 65 []) 3) rc)∧True)∧True)∧Zl (x::xs) []=false)∧True∧(rr (Value.int .i64 i.op)∧True)∧((tt∧rc.all (okV (fun l=>l.blt 64) 3)=true∧tt∧tt∧tt∧True∧rc=List.map (rnV (lift 64 67 []) 3) rc)∧True)∧True)∧tt)∧tt)∧tt)∧rr false)∧rr false)∧rr false)∧rr false)∧rr false)∧rr false)∧rr false)∧decide (i.a<(0:Int))=false)∧decide (i.a<(0:Int))=false)∧decide (i.a<(0:Int))=false)∧decide (i.a<(0:Int))=false)∧decide (i.a<(0:Int))=false)∧decide (i.a<(0:Int))=false)∧tt)∧tt)∧rr false)∧rr false)∧rr false)∧tt)∧tt)∧decide (i.a≥(16:Int))=false)∧decide (i.a≥(16:Int))=false)∧decide (i.a≥(16:Int))=false)∧decide (i.a≥(16:Int))=false)∧decide (i.a≥(16:Int))=false)∧decide (i.a≥(16:Int))=false)∧decide (i.m<(-2048:Int))=false)∧decide (i.m<(-2048:Int))=false)∧decide (i.m<(-2048:Int))=false)∧decide (i.m<(-2048:Int))=false)∧decide (i.m<(-2048:Int))=false)∧decide (i.m<(-2048:Int))=false)∧rr false)∧rr false)∧decide (i.m≥(2048:Int))=false)∧decide (i.m≥(2048:Int))=false)∧decide (i.m≥(2048:Int))=false)∧decide (i.m≥(2048:Int))=false)∧decide (i.m≥(2048:Int))=false)∧(!(i.op==i.op&&(i.b==(0:Int)&&(i.c==(0:Int)&&true))))=false):=by kernel_rfl
theorem ZgF (i:In) (x:UInt8) (xs:List UInt8) (rc:List Value):obs (evF Tryz.prog (Zz 3 (Zd (enL i rc x xs [(97:UInt8),(105:UInt8)])) Zk) Zh 100 20 70 [i.val] ⟨64,ZF rc,[],0,(tb 44 17386023942158),0,True⟩)=some (Value.tuple { toList:=[Value.int .u32 0,.int .i64 2] },(((((((((((((((((((((((((((((((((((((((((((((True∧True∧(rr (Value.int .i64 i.op)∧True)∧((tt∧rc.all (okV (fun l=>l.blt 64) 3)=true∧tt∧tt∧tt∧True∧rc=List.map (rnV (lift 64 65 []) 3) rc)∧True)∧True)∧Zl (x::xs) []=false)∧True∧(rr (Value.int .i64 i.op)∧True)∧((tt∧rc.all (okV (fun l=>l.blt 64) 3)=true∧tt∧tt∧tt∧True∧rc=List.map (rnV (lift 64 67 []) 3) rc)∧True)∧True)∧tt)∧tt)∧tt)∧rr false)∧rr false)∧rr false)∧rr false)∧rr false)∧rr false)∧rr false)∧decide (i.a<(0:Int))=true)∧decide (i.a<(0:Int))=true)∧decide (i.a<(0:Int))=true)∧decide (i.a<(0:Int))=true)∧decide (i.a<(0:Int))=true)∧decide (i.a<(0:Int))=true)∧tt)∧tt)∧rr false)∧rr false)∧rr false)∧tt)∧tt)∧tt)∧tt)∧tt)∧tt)∧tt)∧tt)∧tt)∧tt)∧tt)∧tt)∧tt)∧tt)∧rr false)∧rr false)∧tt)∧tt)∧tt)∧tt)∧tt)∧tt):=by kernel_rfl
theorem ZgG (i:In) (x:UInt8) (xs:List UInt8) (rc:List Value):obs (evF Tryz.prog (Zz 3 (Zd (enL i rc x xs [(97:UInt8),(105:UInt8)])) Zk) Zh 100 20 70 [i.val] ⟨64,ZF rc,[],0,(tb 44 17386023813134),0,True⟩)=some (Value.tuple { toList:=[Value.int .u32 0,.int .i64 2] },(((((((((((((((((((((((((((((((((((((((((((((True∧True∧(rr (Value.int .i64 i.op)∧True)∧((tt∧rc.all (okV (fun l=>l.blt 64) 3)=true∧tt∧tt∧tt∧True∧rc=List.map (rnV (lift 64 65 []) 3) rc)∧True)∧True)∧Zl (x::xs) []=false)∧True∧(rr (Value.int .i64 i.op)∧True)∧((tt∧rc.all (okV (fun l=>l.blt 64) 3)=true∧tt∧tt∧tt∧True∧rc=List.map (rnV (lift 64 67 []) 3) rc)∧True)∧True)∧tt)∧tt)∧tt)∧rr false)∧rr false)∧rr false)∧rr false)∧rr false)∧rr false)∧rr false)∧decide (i.a<(0:Int))=false)∧decide (i.a<(0:Int))=false)∧decide (i.a<(0:Int))=false)∧decide (i.a<(0:Int))=false)∧decide (i.a<(0:Int))=false)∧decide (i.a<(0:Int))=false)∧tt)∧tt)∧rr false)∧rr false)∧rr false)∧tt)∧tt)∧decide (i.a≥(16:Int))=true)∧decide (i.a≥(16:Int))=true)∧decide (i.a≥(16:Int))=true)∧decide (i.a≥(16:Int))=true)∧decide (i.a≥(16:Int))=true)∧decide (i.a≥(16:Int))=true)∧tt)∧tt)∧tt)∧tt)∧tt)∧tt)∧rr false)∧rr false)∧tt)∧tt)∧tt)∧tt)∧tt)∧tt):=by kernel_rfl
theorem ZgH (i:In) (x:UInt8) (xs:List UInt8) (rc:List Value):obs (evF Tryz.prog (Zz 3 (Zd (enL i rc x xs [(97:UInt8),(105:UInt8)])) Zk) Zh 100 20 70 [i.val] ⟨64,ZF rc,[],0,(tb 44 17384966848526),0,True⟩)=some (Value.tuple { toList:=[Value.int .u32 0,.int .i64 2] },(((((((((((((((((((((((((((((((((((((((((((((True∧True∧(rr (Value.int .i64 i.op)∧True)∧((tt∧rc.all (okV (fun l=>l.blt 64) 3)=true∧tt∧tt∧tt∧True∧rc=List.map (rnV (lift 64 65 []) 3) rc)∧True)∧True)∧Zl (x::xs) []=false)∧True∧(rr (Value.int .i64 i.op)∧True)∧((tt∧rc.all (okV (fun l=>l.blt 64) 3)=true∧tt∧tt∧tt∧True∧rc=List.map (rnV (lift 64 67 []) 3) rc)∧True)∧True)∧tt)∧tt)∧tt)∧rr false)∧rr false)∧rr false)∧rr false)∧rr false)∧rr false)∧rr false)∧decide (i.a<(0:Int))=false)∧decide (i.a<(0:Int))=false)∧decide (i.a<(0:Int))=false)∧decide (i.a<(0:Int))=false)∧decide (i.a<(0:Int))=false)∧decide (i.a<(0:Int))=false)∧tt)∧tt)∧rr false)∧rr false)∧rr false)∧tt)∧tt)∧decide (i.a≥(16:Int))=false)∧decide (i.a≥(16:Int))=false)∧decide (i.a≥(16:Int))=false)∧decide (i.a≥(16:Int))=false)∧decide (i.a≥(16:Int))=false)∧decide (i.a≥(16:Int))=false)∧decide (i.m<(-2048:Int))=true)∧decide (i.m<(-2048:Int))=true)∧decide (i.m<(-2048:Int))=true)∧decide (i.m<(-2048:Int))=true)∧decide (i.m<(-2048:Int))=true)∧decide (i.m<(-2048:Int))=true)∧rr false)∧rr false)∧tt)∧tt)∧tt)∧tt)∧tt)∧tt):=by kernel_rfl
theorem ZgI (i:In) (x:UInt8) (xs:List UInt8) (rc:List Value):obs (evF Tryz.prog (Zz 3 (Zd (enL i rc x xs [(97:UInt8),(105:UInt8)])) Zk) Zh 100 20 70 [i.val] ⟨64,ZF rc,[],0,(tb 44 17317321113614),0,True⟩)=some (Value.tuple { toList:=[Value.int .u32 0,.int .i64 2] },(((((((((((((((((((((((((((((((((((((((((((((True∧True∧(rr (Value.int .i64 i.op)∧True)∧((tt∧rc.all (okV (fun l=>l.blt 64) 3)=true∧tt∧tt∧tt∧True∧rc=List.map (rnV (lift 64 65 []) 3) rc)∧True)∧True)∧Zl (x::xs) []=false)∧True∧(rr (Value.int .i64 i.op)∧True)∧((tt∧rc.all (okV (fun l=>l.blt 64) 3)=true∧tt∧tt∧tt∧True∧rc=List.map (rnV (lift 64 67 []) 3) rc)∧True)∧True)∧tt)∧tt)∧tt)∧rr false)∧rr false)∧rr false)∧rr false)∧rr false)∧rr false)∧rr false)∧decide (i.a<(0:Int))=false)∧decide (i.a<(0:Int))=false)∧decide (i.a<(0:Int))=false)∧decide (i.a<(0:Int))=false)∧decide (i.a<(0:Int))=false)∧decide (i.a<(0:Int))=false)∧tt)∧tt)∧rr false)∧rr false)∧rr false)∧tt)∧tt)∧decide (i.a≥(16:Int))=false)∧decide (i.a≥(16:Int))=false)∧decide (i.a≥(16:Int))=false)∧decide (i.a≥(16:Int))=false)∧decide (i.a≥(16:Int))=false)∧decide (i.a≥(16:Int))=false)∧decide (i.m<(-2048:Int))=false)∧decide (i.m<(-2048:Int))=false)∧decide (i.m<(-2048:Int))=false)∧decide (i.m<(-2048:Int))=false)∧decide (i.m<(-2048:Int))=false)∧decide (i.m<(-2048:Int))=false)∧rr false)∧rr false)∧decide (i.m≥(2048:Int))=true)∧decide (i.m≥(2048:Int))=true)∧decide (i.m≥(2048:Int))=true)∧decide (i.m≥(2048:Int))=true)∧decide (i.m≥(2048:Int))=true)∧tt):=by kernel_rfl
theorem ZiF (i:In) (x:UInt8) (xs:List UInt8) (rc:List Value):obs (evF Tryz.prog (Zz 3 (Zd (enL i rc x xs [(97:UInt8),(105:UInt8)])) Zk) Zh 100 20 70 [i.val] ⟨64,ZF rc,[],0,(tb 44 8796105998350),0,True⟩)=some (Value.tuple { toList:=[Value.int .u32 0,.int .i64 2] },(((((((((((((((((((((((((((((((((((((((((((((True∧True∧(rr (Value.int .i64 i.op)∧True)∧((tt∧rc.all (okV (fun l=>l.blt 64) 3)=true∧tt∧tt∧tt∧True∧rc=List.map (rnV (lift 64 65 []) 3) rc)∧True)∧True)∧Zl (x::xs) []=false)∧True∧(rr (Value.int .i64 i.op)∧True)∧((tt∧rc.all (okV (fun l=>l.blt 64) 3)=true∧tt∧tt∧tt∧True∧rc=List.map (rnV (lift 64 67 []) 3) rc)∧True)∧True)∧tt)∧tt)∧tt)∧rr false)∧rr false)∧rr false)∧rr false)∧rr false)∧rr false)∧rr false)∧decide (i.a<(0:Int))=false)∧decide (i.a<(0:Int))=false)∧decide (i.a<(0:Int))=false)∧decide (i.a<(0:Int))=false)∧decide (i.a<(0:Int))=false)∧decide (i.a<(0:Int))=false)∧tt)∧tt)∧rr false)∧rr false)∧rr false)∧tt)∧tt)∧decide (i.a≥(16:Int))=false)∧decide (i.a≥(16:Int))=false)∧decide (i.a≥(16:Int))=false)∧decide (i.a≥(16:Int))=false)∧decide (i.a≥(16:Int))=false)∧decide (i.a≥(16:Int))=false)∧decide (i.m<(-2048:Int))=false)∧decide (i.m<(-2048:Int))=false)∧decide (i.m<(-2048:Int))=false)∧decide (i.m<(-2048:Int))=false)∧decide (i.m<(-2048:Int))=false)∧decide (i.m<(-2048:Int))=false)∧rr false)∧rr false)∧decide (i.m≥(2048:Int))=false)∧decide (i.m≥(2048:Int))=false)∧decide (i.m≥(2048:Int))=false)∧decide (i.m≥(2048:Int))=false)∧decide (i.m≥(2048:Int))=false)∧(!(i.op==i.op&&(i.b==(0:Int)&&(i.c==(0:Int)&&true))))=true):=by kernel_rfl
theorem ZiG (i:In) (x:UInt8) (xs:List UInt8) (rc:List Value):obs (evF Tryz.prog (Zz 3 (Zd (enL i rc x xs [(97:UInt8),(106:UInt8)])) Zk) Zh 100 20 70 [i.val] ⟨64,ZF rc,[],0,(tb 45 25559054),0,True⟩)=some (Value.tuple { toList:=[Value.int .u32 (bits BinOp.or u32 (bits BinOp.or u32 (u32.wrap (u32.wrap i.op*(16777216:Int))) (u32.wrap (bits BinOp.and u32 (u32.wrap i.a) (15:Int)*(1048576:Int)))) (u32.wrap (bits BinOp.and u32 (u32.wrap i.m) (1048575:Int)*(1:Int)))),.int .i64 0] },((((((((((((((((((((((((((((((((((((((((((((((True∧True∧(rr (Value.int .i64 i.op)∧True)∧((tt∧rc.all (okV (fun l=>l.blt 64) 3)=true∧tt∧tt∧tt∧True∧rc=List.map (rnV (lift 64 65 []) 3) rc)∧True)∧True)∧Zl (x::xs) []=false)∧True∧(rr (Value.int .i64 i.op)∧True)∧((tt∧rc.all (okV (fun l=>l.blt 64) 3)=true∧tt∧tt∧tt∧True∧rc=List.map (rnV (lift 64 67 []) 3) rc)∧True)∧True)∧tt)∧tt)∧tt)∧rr false)∧rr false)∧rr false)∧rr false)∧rr false)∧rr false)∧rr false)∧decide (i.a<(0:Int))=false)∧decide (i.a<(0:Int))=false)∧decide (i.a<(0:Int))=false)∧decide (i.a<(0:Int))=false)∧decide (i.a<(0:Int))=false)∧decide (i.a<(0:Int))=false)∧tt)∧tt)∧rr false)∧rr false)∧rr false)∧rr false)∧tt)∧tt)∧decide (i.a≥(16:Int))=false)∧decide (i.a≥(16:Int))=false)∧decide (i.a≥(16:Int))=false)∧decide (i.a≥(16:Int))=false)∧decide (i.a≥(16:Int))=false)∧decide (i.a≥(16:Int))=false)∧decide (i.m<(-524288:Int))=false)∧decide (i.m<(-524288:Int))=false)∧decide (i.m<(-524288:Int))=false)∧decide (i.m<(-524288:Int))=false)∧decide (i.m<(-524288:Int))=false)∧decide (i.m<(-524288:Int))=false)∧rr false)∧rr false)∧decide (i.m≥(524288:Int))=false)∧decide (i.m≥(524288:Int))=false)∧decide (i.m≥(524288:Int))=false)∧decide (i.m≥(524288:Int))=false)∧decide (i.m≥(524288:Int))=false)∧(!(i.op==i.op&&(i.b==(0:Int)&&(i.c==(0:Int)&&true))))=false):=by kernel_rfl
theorem ZgJ (i:In) (x:UInt8) (xs:List UInt8) (rc:List Value):obs (evF Tryz.prog (Zz 3 (Zd (enL i rc x xs [(97:UInt8),(106:UInt8)])) Zk) Zh 100 20 70 [i.val] ⟨64,ZF rc,[],0,(tb 45 34772047362062),0,True⟩)=some (Value.tuple { toList:=[Value.int .u32 0,.int .i64 2] },((((((((((((((((((((((((((((((((((((((((((((((True∧True∧(rr (Value.int .i64 i.op)∧True)∧((tt∧rc.all (okV (fun l=>l.blt 64) 3)=true∧tt∧tt∧tt∧True∧rc=List.map (rnV (lift 64 65 []) 3) rc)∧True)∧True)∧Zl (x::xs) []=false)∧True∧(rr (Value.int .i64 i.op)∧True)∧((tt∧rc.all (okV (fun l=>l.blt 64) 3)=true∧tt∧tt∧tt∧True∧rc=List.map (rnV (lift 64 67 []) 3) rc)∧True)∧True)∧tt)∧tt)∧tt)∧rr false)∧rr false)∧rr false)∧rr false)∧rr false)∧rr false)∧rr false)∧decide (i.a<(0:Int))=true)∧decide (i.a<(0:Int))=true)∧decide (i.a<(0:Int))=true)∧decide (i.a<(0:Int))=true)∧decide (i.a<(0:Int))=true)∧decide (i.a<(0:Int))=true)∧tt)∧tt)∧rr false)∧rr false)∧rr false)∧rr false)∧tt)∧tt)∧tt)∧tt)∧tt)∧tt)∧tt)∧tt)∧tt)∧tt)∧tt)∧tt)∧tt)∧tt)∧rr false)∧rr false)∧tt)∧tt)∧tt)∧tt)∧tt)∧tt):=by kernel_rfl
theorem ZgK (i:In) (x:UInt8) (xs:List UInt8) (rc:List Value):obs (evF Tryz.prog (Zz 3 (Zd (enL i rc x xs [(97:UInt8),(106:UInt8)])) Zk) Zh 100 20 70 [i.val] ⟨64,ZF rc,[],0,(tb 45 34772047233038),0,True⟩)=some (Value.tuple { toList:=[Value.int .u32 0,.int .i64 2] },((((((((((((((((((((((((((((((((((((((((((((((True∧True∧(rr (Value.int .i64 i.op)∧True)∧((tt∧rc.all (okV (fun l=>l.blt 64) 3)=true∧tt∧tt∧tt∧True∧rc=List.map (rnV (lift 64 65 []) 3) rc)∧True)∧True)∧Zl (x::xs) []=false)∧True∧(rr (Value.int .i64 i.op)∧True)∧((tt∧rc.all (okV (fun l=>l.blt 64) 3)=true∧tt∧tt∧tt∧True∧rc=List.map (rnV (lift 64 67 []) 3) rc)∧True)∧True)∧tt)∧tt)∧tt)∧rr false)∧rr false)∧rr false)∧rr false)∧rr false)∧rr false)∧rr false)∧decide (i.a<(0:Int))=false)∧decide (i.a<(0:Int))=false)∧decide (i.a<(0:Int))=false)∧decide (i.a<(0:Int))=false)∧decide (i.a<(0:Int))=false)∧decide (i.a<(0:Int))=false)∧tt)∧tt)∧rr false)∧rr false)∧rr false)∧rr false)∧tt)∧tt)∧decide (i.a≥(16:Int))=true)∧decide (i.a≥(16:Int))=true)∧decide (i.a≥(16:Int))=true)∧decide (i.a≥(16:Int))=true)∧decide (i.a≥(16:Int))=true)∧decide (i.a≥(16:Int))=true)∧tt)∧tt)∧tt)∧tt)∧tt)∧tt)∧rr false)∧rr false)∧tt)∧tt)∧tt)∧tt)∧tt)∧tt):=by kernel_rfl
theorem ZgL (i:In) (x:UInt8) (xs:List UInt8) (rc:List Value):obs (evF Tryz.prog (Zz 3 (Zd (enL i rc x xs [(97:UInt8),(106:UInt8)])) Zk) Zh 100 20 70 [i.val] ⟨64,ZF rc,[],0,(tb 45 34769933303822),0,True⟩)=some (Value.tuple { toList:=[Value.int .u32 0,.int .i64 2] },((((((((((((((((((((((((((((((((((((((((((((((True∧True∧(rr (Value.int .i64 i.op)∧True)∧((tt∧rc.all (okV (fun l=>l.blt 64) 3)=true∧tt∧tt∧tt∧True∧rc=List.map (rnV (lift 64 65 []) 3) rc)∧True)∧True)∧Zl (x::xs) []=false)∧True∧(rr (Value.int .i64 i.op)∧True)∧((tt∧rc.all (okV (fun l=>l.blt 64) 3)=true∧tt∧tt∧tt∧True∧rc=List.map (rnV (lift 64 67 []) 3) rc)∧True)∧True)∧tt)∧tt)∧tt)∧rr false)∧rr false)∧rr false)∧rr false)∧rr false)∧rr false)∧rr false)∧decide (i.a<(0:Int))=false)∧decide (i.a<(0:Int))=false)∧decide (i.a<(0:Int))=false)∧decide (i.a<(0:Int))=false)∧decide (i.a<(0:Int))=false)∧decide (i.a<(0:Int))=false)∧tt)∧tt)∧rr false)∧rr false)∧rr false)∧rr false)∧tt)∧tt)∧decide (i.a≥(16:Int))=false)∧decide (i.a≥(16:Int))=false)∧decide (i.a≥(16:Int))=false)∧decide (i.a≥(16:Int))=false)∧decide (i.a≥(16:Int))=false)∧decide (i.a≥(16:Int))=false)∧decide (i.m<(-524288:Int))=true)∧decide (i.m<(-524288:Int))=true)∧decide (i.m<(-524288:Int))=true)∧decide (i.m<(-524288:Int))=true)∧decide (i.m<(-524288:Int))=true)∧decide (i.m<(-524288:Int))=true)∧rr false)∧rr false)∧tt)∧tt)∧tt)∧tt)∧tt)∧tt):=by kernel_rfl
theorem ZgM (i:In) (x:UInt8) (xs:List UInt8) (rc:List Value):obs (evF Tryz.prog (Zz 3 (Zd (enL i rc x xs [(97:UInt8),(106:UInt8)])) Zk) Zh 100 20 70 [i.val] ⟨64,ZF rc,[],0,(tb 45 34634641833998),0,True⟩)=some (Value.tuple { toList:=[Value.int .u32 0,.int .i64 2] },((((((((((((((((((((((((((((((((((((((((((((((True∧True∧(rr (Value.int .i64 i.op)∧True)∧((tt∧rc.all (okV (fun l=>l.blt 64) 3)=true∧tt∧tt∧tt∧True∧rc=List.map (rnV (lift 64 65 []) 3) rc)∧True)∧True)∧Zl (x::xs) []=false)∧True∧(rr (Value.int .i64 i.op)∧True)∧((tt∧rc.all (okV (fun l=>l.blt 64) 3)=true∧tt∧tt∧tt∧True∧rc=List.map (rnV (lift 64 67 []) 3) rc)∧True)∧True)∧tt)∧tt)∧tt)∧rr false)∧rr false)∧rr false)∧rr false)∧rr false)∧rr false)∧rr false)∧decide (i.a<(0:Int))=false)∧decide (i.a<(0:Int))=false)∧decide (i.a<(0:Int))=false)∧decide (i.a<(0:Int))=false)∧decide (i.a<(0:Int))=false)∧decide (i.a<(0:Int))=false)∧tt)∧tt)∧rr false)∧rr false)∧rr false)∧rr false)∧tt)∧tt)∧decide (i.a≥(16:Int))=false)∧decide (i.a≥(16:Int))=false)∧decide (i.a≥(16:Int))=false)∧decide (i.a≥(16:Int))=false)∧decide (i.a≥(16:Int))=false)∧decide (i.a≥(16:Int))=false)∧decide (i.m<(-524288:Int))=false)∧decide (i.m<(-524288:Int))=false)∧decide (i.m<(-524288:Int))=false)∧decide (i.m<(-524288:Int))=false)∧decide (i.m<(-524288:Int))=false)∧decide (i.m<(-524288:Int))=false)∧rr false)∧rr false)∧decide (i.m≥(524288:Int))=true)∧decide (i.m≥(524288:Int))=true)∧decide (i.m≥(524288:Int))=true)∧decide (i.m≥(524288:Int))=true)∧decide (i.m≥(524288:Int))=true)∧tt):=by kernel_rfl
theorem ZiH (i:In) (x:UInt8) (xs:List UInt8) (rc:List Value):obs (evF Tryz.prog (Zz 3 (Zd (enL i rc x xs [(97:UInt8),(106:UInt8)])) Zk) Zh 100 20 70 [i.val] ⟨64,ZF rc,[],0,(tb 45 17592211603470),0,True⟩)=some (Value.tuple { toList:=[Value.int .u32 0,.int .i64 2] },((((((((((((((((((((((((((((((((((((((((((((((True∧True∧(rr (Value.int .i64 i.op)∧True)∧((tt∧rc.all (okV (fun l=>l.blt 64) 3)=true∧tt∧tt∧tt∧True∧rc=List.map (rnV (lift 64 65 []) 3) rc)∧True)∧True)∧Zl (x::xs) []=false)∧True∧(rr (Value.int .i64 i.op)∧True)∧((tt∧rc.all (okV (fun l=>l.blt 64) 3)=true∧tt∧tt∧tt∧True∧rc=List.map (rnV (lift 64 67 []) 3) rc)∧True)∧True)∧tt)∧tt)∧tt)∧rr false)∧rr false)∧rr false)∧rr false)∧rr false)∧rr false)∧rr false)∧decide (i.a<(0:Int))=false)∧decide (i.a<(0:Int))=false)∧decide (i.a<(0:Int))=false)∧decide (i.a<(0:Int))=false)∧decide (i.a<(0:Int))=false)∧decide (i.a<(0:Int))=false)∧tt)∧tt)∧rr false)∧rr false)∧rr false)∧rr false)∧tt)∧tt)∧decide (i.a≥(16:Int))=false)∧decide (i.a≥(16:Int))=false)∧decide (i.a≥(16:Int))=false)∧decide (i.a≥(16:Int))=false)∧decide (i.a≥(16:Int))=false)∧decide (i.a≥(16:Int))=false)∧decide (i.m<(-524288:Int))=false)∧decide (i.m<(-524288:Int))=false)∧decide (i.m<(-524288:Int))=false)∧decide (i.m<(-524288:Int))=false)∧decide (i.m<(-524288:Int))=false)∧decide (i.m<(-524288:Int))=false)∧rr false)∧rr false)∧decide (i.m≥(524288:Int))=false)∧decide (i.m≥(524288:Int))=false)∧decide (i.m≥(524288:Int))=false)∧decide (i.m≥(524288:Int))=false)∧decide (i.m≥(524288:Int))=false)∧(!(i.op==i.op&&(i.b==(0:Int)&&(i.c==(0:Int)&&true))))=true):=by kernel_rfl
theorem ZgN (i:In) (x:UInt8) (xs:List UInt8) (rc:List Value):obs (evF Tryz.prog (Zz 3 (Zd (enL i rc x xs [(97:UInt8),(98:UInt8),(99:UInt8)])) Zk) Zh 100 20 70 [i.val] ⟨64,ZF rc,[],0,(tb 60 326418956302),0,True⟩)=some (Value.tuple { toList:=[Value.int .u32 (bits BinOp.or u32 (bits BinOp.or u32 (bits BinOp.or u32 (u32.wrap (u32.wrap i.op*(16777216:Int))) (u32.wrap (bits BinOp.and u32 (u32.wrap i.a) (15:Int)*(1048576:Int)))) (u32.wrap (bits BinOp.and u32 (u32.wrap i.b) (15:Int)*(65536:Int)))) (u32.wrap (bits BinOp.and u32 (u32.wrap i.c) (15:Int)*(4096:Int)))),.int .i64 0] },(((((((((((((((((((((((((((((((((((((((((((((((((((((((((((((True∧True∧(rr (Value.int .i64 i.op)∧True)∧((tt∧rc.all (okV (fun l=>l.blt 64) 3)=true∧tt∧tt∧tt∧True∧rc=List.map (rnV (lift 64 65 []) 3) rc)∧True)∧True)∧Zl (x::xs) []=false)∧True∧(rr (Value.int .i64 i.op)∧True)∧((tt∧rc.all (okV (fun l=>l.blt 64) 3)=true∧tt∧tt∧tt∧True∧rc=List.map (rnV (lift 64 67 []) 3) rc)∧True)∧True)∧tt)∧tt)∧tt)∧rr false)∧rr false)∧rr false)∧rr false)∧rr false)∧rr false)∧rr false)∧decide (i.a<(0:Int))=false)∧decide (i.a<(0:Int))=false)∧decide (i.a<(0:Int))=false)∧decide (i.a<(0:Int))=false)∧decide (i.a<(0:Int))=false)∧decide (i.a<(0:Int))=false)∧tt)∧tt)∧rr false)∧tt)∧rr false)∧decide (i.a≥(16:Int))=false)∧decide (i.a≥(16:Int))=false)∧decide (i.a≥(16:Int))=false)∧decide (i.a≥(16:Int))=false)∧decide (i.a≥(16:Int))=false)∧decide (i.a≥(16:Int))=false)∧decide (i.b<(0:Int))=false)∧decide (i.b<(0:Int))=false)∧decide (i.b<(0:Int))=false)∧decide (i.b<(0:Int))=false)∧decide (i.b<(0:Int))=false)∧decide (i.b<(0:Int))=false)∧tt)∧tt)∧rr false)∧rr false)∧tt)∧rr false)∧decide (i.b≥(16:Int))=false)∧decide (i.b≥(16:Int))=false)∧decide (i.b≥(16:Int))=false)∧decide (i.b≥(16:Int))=false)∧decide (i.b≥(16:Int))=false)∧decide (i.b≥(16:Int))=false)∧decide (i.c<(0:Int))=false)∧decide (i.c<(0:Int))=false)∧decide (i.c<(0:Int))=false)∧decide (i.c<(0:Int))=false)∧decide (i.c<(0:Int))=false)∧decide (i.c<(0:Int))=false)∧rr false)∧rr false)∧decide (i.c≥(16:Int))=false)∧decide (i.c≥(16:Int))=false)∧decide (i.c≥(16:Int))=false)∧decide (i.c≥(16:Int))=false)∧decide (i.c≥(16:Int))=false)∧(!(i.op==i.op&&(i.m==(0:Int)&&true)))=false):=by kernel_rfl
theorem Ze9 (i:In) (x:UInt8) (xs:List UInt8) (rc:List Value):obs (evF Tryz.prog (Zz 3 (Zd (enL i rc x xs [(97:UInt8),(98:UInt8),(99:UInt8)])) Zk) Zh 100 20 70 [i.val] ⟨64,ZF rc,[],0,(tb 60 1139409949807867918),0,True⟩)=some (Value.tuple { toList:=[Value.int .u32 0,.int .i64 2] },(((((((((((((((((((((((((((((((((((((((((((((((((((((((((((((True∧True∧(rr (Value.int .i64 i.op)∧True)∧((tt∧rc.all (okV (fun l=>l.blt 64) 3)=true∧tt∧tt∧tt∧True∧rc=List.map (rnV (lift 64 65 []) 3) rc)∧True)∧True)∧Zl (x::xs) []=false)∧True∧(rr (Value.int .i64 i.op)∧True)∧((tt∧rc.all (okV (fun l=>l.blt 64) 3)=true∧tt∧tt∧tt∧True∧rc=List.map (rnV (lift 64 67 []) 3) rc)∧True)∧True)∧tt)∧tt)∧tt)∧rr false)∧rr false)∧rr false)∧rr false)∧rr false)∧rr false)∧rr false)∧decide (i.a<(0:Int))=true)∧decide (i.a<(0:Int))=true)∧decide (i.a<(0:Int))=true)∧decide (i.a<(0:Int))=true)∧decide (i.a<(0:Int))=true)∧decide (i.a<(0:Int))=true)∧tt)∧tt)∧rr false)∧tt)∧rr false)∧tt)∧tt)∧tt)∧tt)∧tt)∧tt)∧tt)∧tt)∧tt)∧tt)∧tt)∧tt)∧tt)∧tt)∧rr false)∧rr false)∧tt)∧rr false)∧tt)∧tt)∧tt)∧tt)∧tt)∧tt)∧tt)∧tt)∧tt)∧tt)∧tt)∧tt)∧rr false)∧rr false)∧tt)∧tt)∧tt)∧tt)∧tt)∧tt):=by kernel_rfl
theorem Zfa (i:In) (x:UInt8) (xs:List UInt8) (rc:List Value):obs (evF Tryz.prog (Zz 3 (Zd (enL i rc x xs [(97:UInt8),(98:UInt8),(99:UInt8)])) Zk) Zh 100 20 70 [i.val] ⟨64,ZF rc,[],0,(tb 60 1139409949807738894),0,True⟩)=some (Value.tuple { toList:=[Value.int .u32 0,.int .i64 2] },(((((((((((((((((((((((((((((((((((((((((((((((((((((((((((((True∧True∧(rr (Value.int .i64 i.op)∧True)∧((tt∧rc.all (okV (fun l=>l.blt 64) 3)=true∧tt∧tt∧tt∧True∧rc=List.map (rnV (lift 64 65 []) 3) rc)∧True)∧True)∧Zl (x::xs) []=false)∧True∧(rr (Value.int .i64 i.op)∧True)∧((tt∧rc.all (okV (fun l=>l.blt 64) 3)=true∧tt∧tt∧tt∧True∧rc=List.map (rnV (lift 64 67 []) 3) rc)∧True)∧True)∧tt)∧tt)∧tt)∧rr false)∧rr false)∧rr false)∧rr false)∧rr false)∧rr false)∧rr false)∧decide (i.a<(0:Int))=false)∧decide (i.a<(0:Int))=false)∧decide (i.a<(0:Int))=false)∧decide (i.a<(0:Int))=false)∧decide (i.a<(0:Int))=false)∧decide (i.a<(0:Int))=false)∧tt)∧tt)∧rr false)∧tt)∧rr false)∧decide (i.a≥(16:Int))=true)∧decide (i.a≥(16:Int))=true)∧decide (i.a≥(16:Int))=true)∧decide (i.a≥(16:Int))=true)∧decide (i.a≥(16:Int))=true)∧decide (i.a≥(16:Int))=true)∧tt)∧tt)∧tt)∧tt)∧tt)∧tt)∧tt)∧tt)∧rr false)∧rr false)∧tt)∧rr false)∧tt)∧tt)∧tt)∧tt)∧tt)∧tt)∧tt)∧tt)∧tt)∧tt)∧tt)∧tt)∧rr false)∧rr false)∧tt)∧tt)∧tt)∧tt)∧tt)∧tt):=by kernel_rfl
theorem Zfb (i:In) (x:UInt8) (xs:List UInt8) (rc:List Value):obs (evF Tryz.prog (Zz 3 (Zd (enL i rc x xs [(97:UInt8),(98:UInt8),(99:UInt8)])) Zk) Zh 100 20 70 [i.val] ⟨64,ZF rc,[],0,(tb 60 1139409949543497742),0,True⟩)=some (Value.tuple { toList:=[Value.int .u32 0,.int .i64 2] },(((((((((((((((((((((((((((((((((((((((((((((((((((((((((((((True∧True∧(rr (Value.int .i64 i.op)∧True)∧((tt∧rc.all (okV (fun l=>l.blt 64) 3)=true∧tt∧tt∧tt∧True∧rc=List.map (rnV (lift 64 65 []) 3) rc)∧True)∧True)∧Zl (x::xs) []=false)∧True∧(rr (Value.int .i64 i.op)∧True)∧((tt∧rc.all (okV (fun l=>l.blt 64) 3)=true∧tt∧tt∧tt∧True∧rc=List.map (rnV (lift 64 67 []) 3) rc)∧True)∧True)∧tt)∧tt)∧tt)∧rr false)∧rr false)∧rr false)∧rr false)∧rr false)∧rr false)∧rr false)∧decide (i.a<(0:Int))=false)∧decide (i.a<(0:Int))=false)∧decide (i.a<(0:Int))=false)∧decide (i.a<(0:Int))=false)∧decide (i.a<(0:Int))=false)∧decide (i.a<(0:Int))=false)∧tt)∧tt)∧rr false)∧tt)∧rr false)∧decide (i.a≥(16:Int))=false)∧decide (i.a≥(16:Int))=false)∧decide (i.a≥(16:Int))=false)∧decide (i.a≥(16:Int))=false)∧decide (i.a≥(16:Int))=false)∧decide (i.a≥(16:Int))=false)∧decide (i.b<(0:Int))=true)∧decide (i.b<(0:Int))=true)∧decide (i.b<(0:Int))=true)∧decide (i.b<(0:Int))=true)∧decide (i.b<(0:Int))=true)∧decide (i.b<(0:Int))=true)∧tt)∧tt)∧rr false)∧rr false)∧tt)∧rr false)∧tt)∧tt)∧tt)∧tt)∧tt)∧tt)∧tt)∧tt)∧tt)∧tt)∧tt)∧tt)∧rr false)∧rr false)∧tt)∧tt)∧tt)∧tt)∧tt)∧tt):=by kernel_rfl
theorem Zfc (i:In) (x:UInt8) (xs:List UInt8) (rc:List Value):obs (evF Tryz.prog (Zz 3 (Zd (enL i rc x xs [(97:UInt8),(98:UInt8),(99:UInt8)])) Zk) Zh 100 20 70 [i.val] ⟨64,ZF rc,[],0,(tb 60 1139409932632064014),0,True⟩)=some (Value.tuple { toList:=[Value.int .u32 0,.int .i64 2] },(((((((((((((((((((((((((((((((((((((((((((((((((((((((((((((True∧True∧(rr (Value.int .i64 i.op)∧True)∧((tt∧rc.all (okV (fun l=>l.blt 64) 3)=true∧tt∧tt∧tt∧True∧rc=List.map (rnV (lift 64 65 []) 3) rc)∧True)∧True)∧Zl (x::xs) []=false)∧True∧(rr (Value.int .i64 i.op)∧True)∧((tt∧rc.all (okV (fun l=>l.blt 64) 3)=true∧tt∧tt∧tt∧True∧rc=List.map (rnV (lift 64 67 []) 3) rc)∧True)∧True)∧tt)∧tt)∧tt)∧rr false)∧rr false)∧rr false)∧rr false)∧rr false)∧rr false)∧rr false)∧decide (i.a<(0:Int))=false)∧decide (i.a<(0:Int))=false)∧decide (i.a<(0:Int))=false)∧decide (i.a<(0:Int))=false)∧decide (i.a<(0:Int))=false)∧decide (i.a<(0:Int))=false)∧tt)∧tt)∧rr false)∧tt)∧rr false)∧decide (i.a≥(16:Int))=false)∧decide (i.a≥(16:Int))=false)∧decide (i.a≥(16:Int))=false)∧decide (i.a≥(16:Int))=false)∧decide (i.a≥(16:Int))=false)∧decide (i.a≥(16:Int))=false)∧decide (i.b<(0:Int))=false)∧decide (i.b<(0:Int))=false)∧decide (i.b<(0:Int))=false)∧decide (i.b<(0:Int))=false)∧decide (i.b<(0:Int))=false)∧decide (i.b<(0:Int))=false)∧tt)∧tt)∧rr false)∧rr false)∧tt)∧rr false)∧decide (i.b≥(16:Int))=true)∧decide (i.b≥(16:Int))=true)∧decide (i.b≥(16:Int))=true)∧decide (i.b≥(16:Int))=true)∧decide (i.b≥(16:Int))=true)∧decide (i.b≥(16:Int))=true)∧tt)∧tt)∧tt)∧tt)∧tt)∧tt)∧rr false)∧rr false)∧tt)∧tt)∧tt)∧tt)∧tt)∧tt):=by kernel_rfl
theorem Zfd (i:In) (x:UInt8) (xs:List UInt8) (rc:List Value):obs (evF Tryz.prog (Zz 3 (Zd (enL i rc x xs [(97:UInt8),(98:UInt8),(99:UInt8)])) Zk) Zh 100 20 70 [i.val] ⟨64,ZF rc,[],0,(tb 60 1139340663399514126),0,True⟩)=some (Value.tuple { toList:=[Value.int .u32 0,.int .i64 2] },(((((((((((((((((((((((((((((((((((((((((((((((((((((((((((((True∧True∧(rr (Value.int .i64 i.op)∧True)∧((tt∧rc.all (okV (fun l=>l.blt 64) 3)=true∧tt∧tt∧tt∧True∧rc=List.map (rnV (lift 64 65 []) 3) rc)∧True)∧True)∧Zl (x::xs) []=false)∧True∧(rr (Value.int .i64 i.op)∧True)∧((tt∧rc.all (okV (fun l=>l.blt 64) 3)=true∧tt∧tt∧tt∧True∧rc=List.map (rnV (lift 64 67 []) 3) rc)∧True)∧True)∧tt)∧tt)∧tt)∧rr false)∧rr false)∧rr false)∧rr false)∧rr false)∧rr false)∧rr false)∧decide (i.a<(0:Int))=false)∧decide (i.a<(0:Int))=false)∧decide (i.a<(0:Int))=false)∧decide (i.a<(0:Int))=false)∧decide (i.a<(0:Int))=false)∧decide (i.a<(0:Int))=false)∧tt)∧tt)∧rr false)∧tt)∧rr false)∧decide (i.a≥(16:Int))=false)∧decide (i.a≥(16:Int))=false)∧decide (i.a≥(16:Int))=false)∧decide (i.a≥(16:Int))=false)∧decide (i.a≥(16:Int))=false)∧decide (i.a≥(16:Int))=false)∧decide (i.b<(0:Int))=false)∧decide (i.b<(0:Int))=false)∧decide (i.b<(0:Int))=false)∧decide (i.b<(0:Int))=false)∧decide (i.b<(0:Int))=false)∧decide (i.b<(0:Int))=false)∧tt)∧tt)∧rr false)∧rr false)∧tt)∧rr false)∧decide (i.b≥(16:Int))=false)∧decide (i.b≥(16:Int))=false)∧decide (i.b≥(16:Int))=false)∧decide (i.b≥(16:Int))=false)∧decide (i.b≥(16:Int))=false)∧decide (i.b≥(16:Int))=false)∧decide (i.c<(0:Int))=true)∧decide (i.c<(0:Int))=true)∧decide (i.c<(0:Int))=true)∧decide (i.c<(0:Int))=true)∧decide (i.c<(0:Int))=true)∧decide (i.c<(0:Int))=true)∧rr false)∧rr false)∧tt)∧tt)∧tt)∧tt)∧tt)∧tt):=by kernel_rfl
theorem Zfe (i:In) (x:UInt8) (xs:List UInt8) (rc:List Value):obs (evF Tryz.prog (Zz 3 (Zd (enL i rc x xs [(97:UInt8),(98:UInt8),(99:UInt8)])) Zk) Zh 100 20 70 [i.val] ⟨64,ZF rc,[],0,(tb 60 1134907432516321294),0,True⟩)=some (Value.tuple { toList:=[Value.int .u32 0,.int .i64 2] },(((((((((((((((((((((((((((((((((((((((((((((((((((((((((((((True∧True∧(rr (Value.int .i64 i.op)∧True)∧((tt∧rc.all (okV (fun l=>l.blt 64) 3)=true∧tt∧tt∧tt∧True∧rc=List.map (rnV (lift 64 65 []) 3) rc)∧True)∧True)∧Zl (x::xs) []=false)∧True∧(rr (Value.int .i64 i.op)∧True)∧((tt∧rc.all (okV (fun l=>l.blt 64) 3)=true∧tt∧tt∧tt∧True∧rc=List.map (rnV (lift 64 67 []) 3) rc)∧True)∧True)∧tt)∧tt)∧tt)∧rr false)∧rr false)∧rr false)∧rr false)∧rr false)∧rr false)∧rr false)∧decide (i.a<(0:Int))=false)∧decide (i.a<(0:Int))=false)∧decide (i.a<(0:Int))=false)∧decide (i.a<(0:Int))=false)∧decide (i.a<(0:Int))=false)∧decide (i.a<(0:Int))=false)∧tt)∧tt)∧rr false)∧tt)∧rr false)∧decide (i.a≥(16:Int))=false)∧decide (i.a≥(16:Int))=false)∧decide (i.a≥(16:Int))=false)∧decide (i.a≥(16:Int))=false)∧decide (i.a≥(16:Int))=false)∧decide (i.a≥(16:Int))=false)∧decide (i.b<(0:Int))=false)∧decide (i.b<(0:Int))=false)∧decide (i.b<(0:Int))=false)∧decide (i.b<(0:Int))=false)∧decide (i.b<(0:Int))=false)∧decide (i.b<(0:Int))=false)∧tt)∧tt)∧rr false)∧rr false)∧tt)∧rr false)∧decide (i.b≥(16:Int))=false)∧decide (i.b≥(16:Int))=false)∧decide (i.b≥(16:Int))=false)∧decide (i.b≥(16:Int))=false)∧decide (i.b≥(16:Int))=false)∧decide (i.b≥(16:Int))=false)∧decide (i.c<(0:Int))=false)∧decide (i.c<(0:Int))=false)∧decide (i.c<(0:Int))=false)∧decide (i.c<(0:Int))=false)∧decide (i.c<(0:Int))=false)∧decide (i.c<(0:Int))=false)∧rr false)∧rr false)∧decide (i.c≥(16:Int))=true)∧decide (i.c≥(16:Int))=true)∧decide (i.c≥(16:Int))=true)∧decide (i.c≥(16:Int))=true)∧decide (i.c≥(16:Int))=true)∧tt):=by kernel_rfl
theorem ZgO (i:In) (x:UInt8) (xs:List UInt8) (rc:List Value):obs (evF Tryz.prog (Zz 3 (Zd (enL i rc x xs [(97:UInt8),(98:UInt8),(99:UInt8)])) Zk) Zh 100 20 70 [i.val] ⟨64,ZF rc,[],0,(tb 60 576461078722379790),0,True⟩)=some (Value.tuple { toList:=[Value.int .u32 0,.int .i64 2] },(((((((((((((((((((((((((((((((((((((((((((((((((((((((((((((True∧True∧(rr (Value.int .i64 i.op)∧True)∧((tt∧rc.all (okV (fun l=>l.blt 64) 3)=true∧tt∧tt∧tt∧True∧rc=List.map (rnV (lift 64 65 []) 3) rc)∧True)∧True)∧Zl (x::xs) []=false)∧True∧(rr (Value.int .i64 i.op)∧True)∧((tt∧rc.all (okV (fun l=>l.blt 64) 3)=true∧tt∧tt∧tt∧True∧rc=List.map (rnV (lift 64 67 []) 3) rc)∧True)∧True)∧tt)∧tt)∧tt)∧rr false)∧rr false)∧rr false)∧rr false)∧rr false)∧rr false)∧rr false)∧decide (i.a<(0:Int))=false)∧decide (i.a<(0:Int))=false)∧decide (i.a<(0:Int))=false)∧decide (i.a<(0:Int))=false)∧decide (i.a<(0:Int))=false)∧decide (i.a<(0:Int))=false)∧tt)∧tt)∧rr false)∧tt)∧rr false)∧decide (i.a≥(16:Int))=false)∧decide (i.a≥(16:Int))=false)∧decide (i.a≥(16:Int))=false)∧decide (i.a≥(16:Int))=false)∧decide (i.a≥(16:Int))=false)∧decide (i.a≥(16:Int))=false)∧decide (i.b<(0:Int))=false)∧decide (i.b<(0:Int))=false)∧decide (i.b<(0:Int))=false)∧decide (i.b<(0:Int))=false)∧decide (i.b<(0:Int))=false)∧decide (i.b<(0:Int))=false)∧tt)∧tt)∧rr false)∧rr false)∧tt)∧rr false)∧decide (i.b≥(16:Int))=false)∧decide (i.b≥(16:Int))=false)∧decide (i.b≥(16:Int))=false)∧decide (i.b≥(16:Int))=false)∧decide (i.b≥(16:Int))=false)∧decide (i.b≥(16:Int))=false)∧decide (i.c<(0:Int))=false)∧decide (i.c<(0:Int))=false)∧decide (i.c<(0:Int))=false)∧decide (i.c<(0:Int))=false)∧decide (i.c<(0:Int))=false)∧decide (i.c<(0:Int))=false)∧rr false)∧rr false)∧decide (i.c≥(16:Int))=false)∧decide (i.c≥(16:Int))=false)∧decide (i.c≥(16:Int))=false)∧decide (i.c≥(16:Int))=false)∧decide (i.c≥(16:Int))=false)∧(!(i.op==i.op&&(i.m==(0:Int)&&true)))=true):=by kernel_rfl
theorem ZgP (i:In) (x:UInt8) (xs:List UInt8) (rc:List Value):obs (evF Tryz.prog (Zz 3 (Zd (enL i rc x xs [(97:UInt8),(98:UInt8),(105:UInt8)])) Zk) Zh 100 20 70 [i.val] ⟨64,ZF rc,[],0,(tb 61 1700808491022),0,True⟩)=some (Value.tuple { toList:=[Value.int .u32 (bits BinOp.or u32 (bits BinOp.or u32 (bits BinOp.or u32 (u32.wrap (u32.wrap i.op*(16777216:Int))) (u32.wrap (bits BinOp.and u32 (u32.wrap i.a) (15:Int)*(1048576:Int)))) (u32.wrap (bits BinOp.and u32 (u32.wrap i.b) (15:Int)*(65536:Int)))) (u32.wrap (bits BinOp.and u32 (u32.wrap i.m) (4095:Int)*(1:Int)))),.int .i64 0] },((((((((((((((((((((((((((((((((((((((((((((((((((((((((((((((True∧True∧(rr (Value.int .i64 i.op)∧True)∧((tt∧rc.all (okV (fun l=>l.blt 64) 3)=true∧tt∧tt∧tt∧True∧rc=List.map (rnV (lift 64 65 []) 3) rc)∧True)∧True)∧Zl (x::xs) []=false)∧True∧(rr (Value.int .i64 i.op)∧True)∧((tt∧rc.all (okV (fun l=>l.blt 64) 3)=true∧tt∧tt∧tt∧True∧rc=List.map (rnV (lift 64 67 []) 3) rc)∧True)∧True)∧tt)∧tt)∧tt)∧rr false)∧rr false)∧rr false)∧rr false)∧rr false)∧rr false)∧rr false)∧decide (i.a<(0:Int))=false)∧decide (i.a<(0:Int))=false)∧decide (i.a<(0:Int))=false)∧decide (i.a<(0:Int))=false)∧decide (i.a<(0:Int))=false)∧decide (i.a<(0:Int))=false)∧tt)∧tt)∧rr false)∧tt)∧rr false)∧decide (i.a≥(16:Int))=false)∧decide (i.a≥(16:Int))=false)∧decide (i.a≥(16:Int))=false)∧decide (i.a≥(16:Int))=false)∧decide (i.a≥(16:Int))=false)∧decide (i.a≥(16:Int))=false)∧decide (i.b<(0:Int))=false)∧decide (i.b<(0:Int))=false)∧decide (i.b<(0:Int))=false)∧decide (i.b<(0:Int))=false)∧decide (i.b<(0:Int))=false)∧decide (i.b<(0:Int))=false)∧tt)∧tt)∧rr false)∧rr false)∧rr false)∧tt)∧tt)∧decide (i.b≥(16:Int))=false)∧decide (i.b≥(16:Int))=false)∧decide (i.b≥(16:Int))=false)∧decide (i.b≥(16:Int))=false)∧decide (i.b≥(16:Int))=false)∧decide (i.b≥(16:Int))=false)∧decide (i.m<(-2048:Int))=false)∧decide (i.m<(-2048:Int))=false)∧decide (i.m<(-2048:Int))=false)∧decide (i.m<(-2048:Int))=false)∧decide (i.m<(-2048:Int))=false)∧decide (i.m<(-2048:Int))=false)∧rr false)∧rr false)∧decide (i.m≥(2048:Int))=false)∧decide (i.m≥(2048:Int))=false)∧decide (i.m≥(2048:Int))=false)∧decide (i.m≥(2048:Int))=false)∧decide (i.m≥(2048:Int))=false)∧(!(i.op==i.op&&(i.c==(0:Int)&&true)))=false):=by kernel_rfl
theorem Zff (i:In) (x:UInt8) (xs:List UInt8) (rc:List Value):obs (evF Tryz.prog (Zz 3 (Zd (enL i rc x xs [(97:UInt8),(98:UInt8),(105:UInt8)])) Zk) Zh 100 20 70 [i.val] ⟨64,ZF rc,[],0,(tb 61 2278820930410510350),0,True⟩)=some (Value.tuple { toList:=[Value.int .u32 0,.int .i64 2] },((((((((((((((((((((((((((((((((((((((((((((((((((((((((((((((True∧True∧(rr (Value.int .i64 i.op)∧True)∧((tt∧rc.all (okV (fun l=>l.blt 64) 3)=true∧tt∧tt∧tt∧True∧rc=List.map (rnV (lift 64 65 []) 3) rc)∧True)∧True)∧Zl (x::xs) []=false)∧True∧(rr (Value.int .i64 i.op)∧True)∧((tt∧rc.all (okV (fun l=>l.blt 64) 3)=true∧tt∧tt∧tt∧True∧rc=List.map (rnV (lift 64 67 []) 3) rc)∧True)∧True)∧tt)∧tt)∧tt)∧rr false)∧rr false)∧rr false)∧rr false)∧rr false)∧rr false)∧rr false)∧decide (i.a<(0:Int))=true)∧decide (i.a<(0:Int))=true)∧decide (i.a<(0:Int))=true)∧decide (i.a<(0:Int))=true)∧decide (i.a<(0:Int))=true)∧decide (i.a<(0:Int))=true)∧tt)∧tt)∧rr false)∧tt)∧rr false)∧tt)∧tt)∧tt)∧tt)∧tt)∧tt)∧tt)∧tt)∧tt)∧tt)∧tt)∧tt)∧tt)∧tt)∧rr false)∧rr false)∧rr false)∧tt)∧tt)∧tt)∧tt)∧tt)∧tt)∧tt)∧tt)∧tt)∧tt)∧tt)∧tt)∧tt)∧tt)∧rr false)∧rr false)∧tt)∧tt)∧tt)∧tt)∧tt)∧tt):=by kernel_rfl
theorem Zfg (i:In) (x:UInt8) (xs:List UInt8) (rc:List Value):obs (evF Tryz.prog (Zz 3 (Zd (enL i rc x xs [(97:UInt8),(98:UInt8),(105:UInt8)])) Zk) Zh 100 20 70 [i.val] ⟨64,ZF rc,[],0,(tb 61 2278820930410381326),0,True⟩)=some (Value.tuple { toList:=[Value.int .u32 0,.int .i64 2] },((((((((((((((((((((((((((((((((((((((((((((((((((((((((((((((True∧True∧(rr (Value.int .i64 i.op)∧True)∧((tt∧rc.all (okV (fun l=>l.blt 64) 3)=true∧tt∧tt∧tt∧True∧rc=List.map (rnV (lift 64 65 []) 3) rc)∧True)∧True)∧Zl (x::xs) []=false)∧True∧(rr (Value.int .i64 i.op)∧True)∧((tt∧rc.all (okV (fun l=>l.blt 64) 3)=true∧tt∧tt∧tt∧True∧rc=List.map (rnV (lift 64 67 []) 3) rc)∧True)∧True)∧tt)∧tt)∧tt)∧rr false)∧rr false)∧rr false)∧rr false)∧rr false)∧rr false)∧rr false)∧decide (i.a<(0:Int))=false)∧decide (i.a<(0:Int))=false)∧decide (i.a<(0:Int))=false)∧decide (i.a<(0:Int))=false)∧decide (i.a<(0:Int))=false)∧decide (i.a<(0:Int))=false)∧tt)∧tt)∧rr false)∧tt)∧rr false)∧decide (i.a≥(16:Int))=true)∧decide (i.a≥(16:Int))=true)∧decide (i.a≥(16:Int))=true)∧decide (i.a≥(16:Int))=true)∧decide (i.a≥(16:Int))=true)∧decide (i.a≥(16:Int))=true)∧tt)∧tt)∧tt)∧tt)∧tt)∧tt)∧tt)∧tt)∧rr false)∧rr false)∧rr false)∧tt)∧tt)∧tt)∧tt)∧tt)∧tt)∧tt)∧tt)∧tt)∧tt)∧tt)∧tt)∧tt)∧tt)∧rr false)∧rr false)∧tt)∧tt)∧tt)∧tt)∧tt)∧tt):=by kernel_rfl
theorem Zfh (i:In) (x:UInt8) (xs:List UInt8) (rc:List Value):obs (evF Tryz.prog (Zz 3 (Zd (enL i rc x xs [(97:UInt8),(98:UInt8),(105:UInt8)])) Zk) Zh 100 20 70 [i.val] ⟨64,ZF rc,[],0,(tb 61 2278820930146140174),0,True⟩)=some (Value.tuple { toList:=[Value.int .u32 0,.int .i64 2] },((((((((((((((((((((((((((((((((((((((((((((((((((((((((((((((True∧True∧(rr (Value.int .i64 i.op)∧True)∧((tt∧rc.all (okV (fun l=>l.blt 64) 3)=true∧tt∧tt∧tt∧True∧rc=List.map (rnV (lift 64 65 []) 3) rc)∧True)∧True)∧Zl (x::xs) []=false)∧True∧(rr (Value.int .i64 i.op)∧True)∧((tt∧rc.all (okV (fun l=>l.blt 64) 3)=true∧tt∧tt∧tt∧True∧rc=List.map (rnV (lift 64 67 []) 3) rc)∧True)∧True)∧tt)∧tt)∧tt)∧rr false)∧rr false)∧rr false)∧rr false)∧rr false)∧rr false)∧rr false)∧decide (i.a<(0:Int))=false)∧decide (i.a<(0:Int))=false)∧decide (i.a<(0:Int))=false)∧decide (i.a<(0:Int))=false)∧decide (i.a<(0:Int))=false)∧decide (i.a<(0:Int))=false)∧tt)∧tt)∧rr false)∧tt)∧rr false)∧decide (i.a≥(16:Int))=false)∧decide (i.a≥(16:Int))=false)∧decide (i.a≥(16:Int))=false)∧decide (i.a≥(16:Int))=false)∧decide (i.a≥(16:Int))=false)∧decide (i.a≥(16:Int))=false)∧decide (i.b<(0:Int))=true)∧decide (i.b<(0:Int))=true)∧decide (i.b<(0:Int))=true)∧decide (i.b<(0:Int))=true)∧decide (i.b<(0:Int))=true)∧decide (i.b<(0:Int))=true)∧tt)∧tt)∧rr false)∧rr false)∧rr false)∧tt)∧tt)∧tt)∧tt)∧tt)∧tt)∧tt)∧tt)∧tt)∧tt)∧tt)∧tt)∧tt)∧tt)∧rr false)∧rr false)∧tt)∧tt)∧tt)∧tt)∧tt)∧tt):=by kernel_rfl
theorem Zfi (i:In) (x:UInt8) (xs:List UInt8) (rc:List Value):obs (evF Tryz.prog (Zz 3 (Zd (enL i rc x xs [(97:UInt8),(98:UInt8),(105:UInt8)])) Zk) Zh 100 20 70 [i.val] ⟨64,ZF rc,[],0,(tb 61 2278820913234706446),0,True⟩)=some (Value.tuple { toList:=[Value.int .u32 0,.int .i64 2] },((((((((((((((((((((((((((((((((((((((((((((((((((((((((((((((True∧True∧(rr (Value.int .i64 i.op)∧True)∧((tt∧rc.all (okV (fun l=>l.blt 64) 3)=true∧tt∧tt∧tt∧True∧rc=List.map (rnV (lift 64 65 []) 3) rc)∧True)∧True)∧Zl (x::xs) []=false)∧True∧(rr (Value.int .i64 i.op)∧True)∧((tt∧rc.all (okV (fun l=>l.blt 64) 3)=true∧tt∧tt∧tt∧True∧rc=List.map (rnV (lift 64 67 []) 3) rc)∧True)∧True)∧tt)∧tt)∧tt)∧rr false)∧rr false)∧rr false)∧rr false)∧rr false)∧rr false)∧rr false)∧decide (i.a<(0:Int))=false)∧decide (i.a<(0:Int))=false)∧decide (i.a<(0:Int))=false)∧decide (i.a<(0:Int))=false)∧decide (i.a<(0:Int))=false)∧decide (i.a<(0:Int))=false)∧tt)∧tt)∧rr false)∧tt)∧rr false)∧decide (i.a≥(16:Int))=false)∧decide (i.a≥(16:Int))=false)∧decide (i.a≥(16:Int))=false)∧decide (i.a≥(16:Int))=false)∧decide (i.a≥(16:Int))=false)∧decide (i.a≥(16:Int))=false)∧decide (i.b<(0:Int))=false)∧decide (i.b<(0:Int))=false)∧decide (i.b<(0:Int))=false)∧decide (i.b<(0:Int))=false)∧decide (i.b<(0:Int))=false)∧decide (i.b<(0:Int))=false)∧tt)∧tt)∧rr false)∧rr false)∧rr false)∧tt)∧tt)∧decide (i.b≥(16:Int))=true)∧decide (i.b≥(16:Int))=true)∧decide (i.b≥(16:Int))=true)∧decide (i.b≥(16:Int))=true)∧decide (i.b≥(16:Int))=true)∧decide (i.b≥(16:Int))=true)∧tt)∧tt)∧tt)∧tt)∧tt)∧tt)∧rr false)∧rr false)∧tt)∧tt)∧tt)∧tt)∧tt)∧tt):=by kernel_rfl
theorem Zfj (i:In) (x:UInt8) (xs:List UInt8) (rc:List Value):obs (evF Tryz.prog (Zz 3 (Zd (enL i rc x xs [(97:UInt8),(98:UInt8),(105:UInt8)])) Zk) Zh 100 20 70 [i.val] ⟨64,ZF rc,[],0,(tb 61 2278682374769606670),0,True⟩)=some (Value.tuple { toList:=[Value.int .u32 0,.int .i64 2] },((((((((((((((((((((((((((((((((((((((((((((((((((((((((((((((True∧True∧(rr (Value.int .i64 i.op)∧True)∧((tt∧rc.all (okV (fun l=>l.blt 64) 3)=true∧tt∧tt∧tt∧True∧rc=List.map (rnV (lift 64 65 []) 3) rc)∧True)∧True)∧Zl (x::xs) []=false)∧True∧(rr (Value.int .i64 i.op)∧True)∧((tt∧rc.all (okV (fun l=>l.blt 64) 3)=true∧tt∧tt∧tt∧True∧rc=List.map (rnV (lift 64 67 []) 3) rc)∧True)∧True)∧tt)∧tt)∧tt)∧rr false)∧rr false)∧rr false)∧rr false)∧rr false)∧rr false)∧rr false)∧decide (i.a<(0:Int))=false)∧decide (i.a<(0:Int))=false)∧decide (i.a<(0:Int))=false)∧decide (i.a<(0:Int))=false)∧decide (i.a<(0:Int))=false)∧decide (i.a<(0:Int))=false)∧tt)∧tt)∧rr false)∧tt)∧rr false)∧decide (i.a≥(16:Int))=false)∧decide (i.a≥(16:Int))=false)∧decide (i.a≥(16:Int))=false)∧decide (i.a≥(16:Int))=false)∧decide (i.a≥(16:Int))=false)∧decide (i.a≥(16:Int))=false)∧decide (i.b<(0:Int))=false)∧decide (i.b<(0:Int))=false)∧decide (i.b<(0:Int))=false)∧decide (i.b<(0:Int))=false)∧decide (i.b<(0:Int))=false)∧decide (i.b<(0:Int))=false)∧tt)∧tt)∧rr false)∧rr false)∧rr false)∧tt)∧tt)∧decide (i.b≥(16:Int))=false)∧decide (i.b≥(16:Int))=false)∧decide (i.b≥(16:Int))=false)∧decide (i.b≥(16:Int))=false)∧decide (i.b≥(16:Int))=false)∧decide (i.b≥(16:Int))=false)∧decide (i.m<(-2048:Int))=true)∧decide (i.m<(-2048:Int))=true)∧decide (i.m<(-2048:Int))=true)∧decide (i.m<(-2048:Int))=true)∧decide (i.m<(-2048:Int))=true)∧decide (i.m<(-2048:Int))=true)∧rr false)∧rr false)∧tt)∧tt)∧tt)∧tt)∧tt)∧tt):=by kernel_rfl
theorem Zfk (i:In) (x:UInt8) (xs:List UInt8) (rc:List Value):obs (evF Tryz.prog (Zz 3 (Zd (enL i rc x xs [(97:UInt8),(98:UInt8),(105:UInt8)])) Zk) Zh 100 20 70 [i.val] ⟨64,ZF rc,[],0,(tb 61 2269815913003221006),0,True⟩)=some (Value.tuple { toList:=[Value.int .u32 0,.int .i64 2] },((((((((((((((((((((((((((((((((((((((((((((((((((((((((((((((True∧True∧(rr (Value.int .i64 i.op)∧True)∧((tt∧rc.all (okV (fun l=>l.blt 64) 3)=true∧tt∧tt∧tt∧True∧rc=List.map (rnV (lift 64 65 []) 3) rc)∧True)∧True)∧Zl (x::xs) []=false)∧True∧(rr (Value.int .i64 i.op)∧True)∧((tt∧rc.all (okV (fun l=>l.blt 64) 3)=true∧tt∧tt∧tt∧True∧rc=List.map (rnV (lift 64 67 []) 3) rc)∧True)∧True)∧tt)∧tt)∧tt)∧rr false)∧rr false)∧rr false)∧rr false)∧rr false)∧rr false)∧rr false)∧decide (i.a<(0:Int))=false)∧decide (i.a<(0:Int))=false)∧decide (i.a<(0:Int))=false)∧decide (i.a<(0:Int))=false)∧decide (i.a<(0:Int))=false)∧decide (i.a<(0:Int))=false)∧tt)∧tt)∧rr false)∧tt)∧rr false)∧decide (i.a≥(16:Int))=false)∧decide (i.a≥(16:Int))=false)∧decide (i.a≥(16:Int))=false)∧decide (i.a≥(16:Int))=false)∧decide (i.a≥(16:Int))=false)∧decide (i.a≥(16:Int))=false)∧decide (i.b<(0:Int))=false)∧decide (i.b<(0:Int))=false)∧decide (i.b<(0:Int))=false)∧decide (i.b<(0:Int))=false)∧decide (i.b<(0:Int))=false)∧decide (i.b<(0:Int))=false)∧tt)∧tt)∧rr false)∧rr false)∧rr false)∧tt)∧tt)∧decide (i.b≥(16:Int))=false)∧decide (i.b≥(16:Int))=false)∧decide (i.b≥(16:Int))=false)∧decide (i.b≥(16:Int))=false)∧decide (i.b≥(16:Int))=false)∧decide (i.b≥(16:Int))=false)∧decide (i.m<(-2048:Int))=false)∧decide (i.m<(-2048:Int))=false)∧decide (i.m<(-2048:Int))=false)∧decide (i.m<(-2048:Int))=false)∧decide (i.m<(-2048:Int))=false)∧decide (i.m<(-2048:Int))=false)∧rr false)∧rr false)∧decide (i.m≥(2048:Int))=true)∧decide (i.m≥(2048:Int))=true)∧decide (i.m≥(2048:Int))=true)∧decide (i.m≥(2048:Int))=true)∧decide (i.m≥(2048:Int))=true)∧tt):=by kernel_rfl
theorem ZgQ (i:In) (x:UInt8) (xs:List UInt8) (rc:List Value):obs (evF Tryz.prog (Zz 3 (Zd (enL i rc x xs [(97:UInt8),(98:UInt8),(105:UInt8)])) Zk) Zh 100 20 70 [i.val] ⟨64,ZF rc,[],0,(tb 61 1152923205415337998),0,True⟩)=some (Value.tuple { toList:=[Value.int .u32 0,.int .i64 2] },((((((((((((((((((((((((((((((((((((((((((((((((((((((((((((((True∧True∧(rr (Value.int .i64 i.op)∧True)∧((tt∧rc.all (okV (fun l=>l.blt 64) 3)=true∧tt∧tt∧tt∧True∧rc=List.map (rnV (lift 64 65 []) 3) rc)∧True)∧True)∧Zl (x::xs) []=false)∧True∧(rr (Value.int .i64 i.op)∧True)∧((tt∧rc.all (okV (fun l=>l.blt 64) 3)=true∧tt∧tt∧tt∧True∧rc=List.map (rnV (lift 64 67 []) 3) rc)∧True)∧True)∧tt)∧tt)∧tt)∧rr false)∧rr false)∧rr false)∧rr false)∧rr false)∧rr false)∧rr false)∧decide (i.a<(0:Int))=false)∧decide (i.a<(0:Int))=false)∧decide (i.a<(0:Int))=false)∧decide (i.a<(0:Int))=false)∧decide (i.a<(0:Int))=false)∧decide (i.a<(0:Int))=false)∧tt)∧tt)∧rr false)∧tt)∧rr false)∧decide (i.a≥(16:Int))=false)∧decide (i.a≥(16:Int))=false)∧decide (i.a≥(16:Int))=false)∧decide (i.a≥(16:Int))=false)∧decide (i.a≥(16:Int))=false)∧decide (i.a≥(16:Int))=false)∧decide (i.b<(0:Int))=false)∧decide (i.b<(0:Int))=false)∧decide (i.b<(0:Int))=false)∧decide (i.b<(0:Int))=false)∧decide (i.b<(0:Int))=false)∧decide (i.b<(0:Int))=false)∧tt)∧tt)∧rr false)∧rr false)∧rr false)∧tt)∧tt)∧decide (i.b≥(16:Int))=false)∧decide (i.b≥(16:Int))=false)∧decide (i.b≥(16:Int))=false)∧decide (i.b≥(16:Int))=false)∧decide (i.b≥(16:Int))=false)∧decide (i.b≥(16:Int))=false)∧decide (i.m<(-2048:Int))=false)∧decide (i.m<(-2048:Int))=false)∧decide (i.m<(-2048:Int))=false)∧decide (i.m<(-2048:Int))=false)∧decide (i.m<(-2048:Int))=false)∧decide (i.m<(-2048:Int))=false)∧rr false)∧rr false)∧decide (i.m≥(2048:Int))=false)∧decide (i.m≥(2048:Int))=false)∧decide (i.m≥(2048:Int))=false)∧decide (i.m≥(2048:Int))=false)∧decide (i.m≥(2048:Int))=false)∧(!(i.op==i.op&&(i.c==(0:Int)&&true)))=true):=by kernel_rfl
theorem ZiI (i:In) (x:UInt8) (xs:List UInt8) (rc:List Value):obs (evF Tryz.prog (Zz 3 (Zd (enL i rc x xs [(97:UInt8),(98:UInt8)])) Zk) Zh 100 20 70 [i.val] ⟨64,ZF rc,[],0,(tb 42 1441806),0,True⟩)=some (Value.tuple { toList:=[Value.int .u32 (bits BinOp.or u32 (bits BinOp.or u32 (u32.wrap (u32.wrap i.op*(16777216:Int))) (u32.wrap (bits BinOp.and u32 (u32.wrap i.a) (15:Int)*(1048576:Int)))) (u32.wrap (bits BinOp.and u32 (u32.wrap i.b) (15:Int)*(65536:Int)))),.int .i64 0] },(((((((((((((((((((((((((((((((((((((((((((True∧True∧(rr (Value.int .i64 i.op)∧True)∧((tt∧rc.all (okV (fun l=>l.blt 64) 3)=true∧tt∧tt∧tt∧True∧rc=List.map (rnV (lift 64 65 []) 3) rc)∧True)∧True)∧Zl (x::xs) []=false)∧True∧(rr (Value.int .i64 i.op)∧True)∧((tt∧rc.all (okV (fun l=>l.blt 64) 3)=true∧tt∧tt∧tt∧True∧rc=List.map (rnV (lift 64 67 []) 3) rc)∧True)∧True)∧tt)∧tt)∧tt)∧rr false)∧rr false)∧rr false)∧rr false)∧rr false)∧rr false)∧rr false)∧decide (i.a<(0:Int))=false)∧decide (i.a<(0:Int))=false)∧decide (i.a<(0:Int))=false)∧decide (i.a<(0:Int))=false)∧decide (i.a<(0:Int))=false)∧decide (i.a<(0:Int))=false)∧tt)∧tt)∧rr false)∧tt)∧rr false)∧decide (i.a≥(16:Int))=false)∧decide (i.a≥(16:Int))=false)∧decide (i.a≥(16:Int))=false)∧decide (i.a≥(16:Int))=false)∧decide (i.a≥(16:Int))=false)∧decide (i.a≥(16:Int))=false)∧decide (i.b<(0:Int))=false)∧decide (i.b<(0:Int))=false)∧decide (i.b<(0:Int))=false)∧decide (i.b<(0:Int))=false)∧decide (i.b<(0:Int))=false)∧decide (i.b<(0:Int))=false)∧rr false)∧rr false)∧decide (i.b≥(16:Int))=false)∧decide (i.b≥(16:Int))=false)∧decide (i.b≥(16:Int))=false)∧decide (i.b≥(16:Int))=false)∧decide (i.b≥(16:Int))=false)∧(!(i.op==i.op&&(i.c==(0:Int)&&(i.m==(0:Int)&&true))))=false):=by kernel_rfl
theorem ZgR (i:In) (x:UInt8) (xs:List UInt8) (rc:List Value):obs (evF Tryz.prog (Zz 3 (Zd (enL i rc x xs [(97:UInt8),(98:UInt8)])) Zk) Zh 100 20 70 [i.val] ⟨64,ZF rc,[],0,(tb 42 4346504280078),0,True⟩)=some (Value.tuple { toList:=[Value.int .u32 0,.int .i64 2] },(((((((((((((((((((((((((((((((((((((((((((True∧True∧(rr (Value.int .i64 i.op)∧True)∧((tt∧rc.all (okV (fun l=>l.blt 64) 3)=true∧tt∧tt∧tt∧True∧rc=List.map (rnV (lift 64 65 []) 3) rc)∧True)∧True)∧Zl (x::xs) []=false)∧True∧(rr (Value.int .i64 i.op)∧True)∧((tt∧rc.all (okV (fun l=>l.blt 64) 3)=true∧tt∧tt∧tt∧True∧rc=List.map (rnV (lift 64 67 []) 3) rc)∧True)∧True)∧tt)∧tt)∧tt)∧rr false)∧rr false)∧rr false)∧rr false)∧rr false)∧rr false)∧rr false)∧decide (i.a<(0:Int))=true)∧decide (i.a<(0:Int))=true)∧decide (i.a<(0:Int))=true)∧decide (i.a<(0:Int))=true)∧decide (i.a<(0:Int))=true)∧decide (i.a<(0:Int))=true)∧tt)∧tt)∧rr false)∧tt)∧rr false)∧tt)∧tt)∧tt)∧tt)∧tt)∧tt)∧tt)∧tt)∧tt)∧tt)∧tt)∧tt)∧rr false)∧rr false)∧tt)∧tt)∧tt)∧tt)∧tt)∧tt):=by kernel_rfl
theorem ZgS (i:In) (x:UInt8) (xs:List UInt8) (rc:List Value):obs (evF Tryz.prog (Zz 3 (Zd (enL i rc x xs [(97:UInt8),(98:UInt8)])) Zk) Zh 100 20 70 [i.val] ⟨64,ZF rc,[],0,(tb 42 4346504151054),0,True⟩)=some (Value.tuple { toList:=[Value.int .u32 0,.int .i64 2] },(((((((((((((((((((((((((((((((((((((((((((True∧True∧(rr (Value.int .i64 i.op)∧True)∧((tt∧rc.all (okV (fun l=>l.blt 64) 3)=true∧tt∧tt∧tt∧True∧rc=List.map (rnV (lift 64 65 []) 3) rc)∧True)∧True)∧Zl (x::xs) []=false)∧True∧(rr (Value.int .i64 i.op)∧True)∧((tt∧rc.all (okV (fun l=>l.blt 64) 3)=true∧tt∧tt∧tt∧True∧rc=List.map (rnV (lift 64 67 []) 3) rc)∧True)∧True)∧tt)∧tt)∧tt)∧rr false)∧rr false)∧rr false)∧rr false)∧rr false)∧rr false)∧rr false)∧decide (i.a<(0:Int))=false)∧decide (i.a<(0:Int))=false)∧decide (i.a<(0:Int))=false)∧decide (i.a<(0:Int))=false)∧decide (i.a<(0:Int))=false)∧decide (i.a<(0:Int))=false)∧tt)∧tt)∧rr false)∧tt)∧rr false)∧decide (i.a≥(16:Int))=true)∧decide (i.a≥(16:Int))=true)∧decide (i.a≥(16:Int))=true)∧decide (i.a≥(16:Int))=true)∧decide (i.a≥(16:Int))=true)∧decide (i.a≥(16:Int))=true)∧tt)∧tt)∧tt)∧tt)∧tt)∧tt)∧rr false)∧rr false)∧tt)∧tt)∧tt)∧tt)∧tt)∧tt):=by kernel_rfl
theorem ZgT (i:In) (x:UInt8) (xs:List UInt8) (rc:List Value):obs (evF Tryz.prog (Zz 3 (Zd (enL i rc x xs [(97:UInt8),(98:UInt8)])) Zk) Zh 100 20 70 [i.val] ⟨64,ZF rc,[],0,(tb 42 4346239909902),0,True⟩)=some (Value.tuple { toList:=[Value.int .u32 0,.int .i64 2] },(((((((((((((((((((((((((((((((((((((((((((True∧True∧(rr (Value.int .i64 i.op)∧True)∧((tt∧rc.all (okV (fun l=>l.blt 64) 3)=true∧tt∧tt∧tt∧True∧rc=List.map (rnV (lift 64 65 []) 3) rc)∧True)∧True)∧Zl (x::xs) []=false)∧True∧(rr (Value.int .i64 i.op)∧True)∧((tt∧rc.all (okV (fun l=>l.blt 64) 3)=true∧tt∧tt∧tt∧True∧rc=List.map (rnV (lift 64 67 []) 3) rc)∧True)∧True)∧tt)∧tt)∧tt)∧rr false)∧rr false)∧rr false)∧rr false)∧rr false)∧rr false)∧rr false)∧decide (i.a<(0:Int))=false)∧decide (i.a<(0:Int))=false)∧decide (i.a<(0:Int))=false)∧decide (i.a<(0:Int))=false)∧decide (i.a<(0:Int))=false)∧decide (i.a<(0:Int))=false)∧tt)∧tt)∧rr false)∧tt)∧rr false)∧decide (i.a≥(16:Int))=false)∧decide (i.a≥(16:Int))=false)∧decide (i.a≥(16:Int))=false)∧decide (i.a≥(16:Int))=false)∧decide (i.a≥(16:Int))=false)∧decide (i.a≥(16:Int))=false)∧decide (i.b<(0:Int))=true)∧decide (i.b<(0:Int))=true)∧decide (i.b<(0:Int))=true)∧decide (i.b<(0:Int))=true)∧decide (i.b<(0:Int))=true)∧decide (i.b<(0:Int))=true)∧rr false)∧rr false)∧tt)∧tt)∧tt)∧tt)∧tt)∧tt):=by kernel_rfl
theorem ZgU (i:In) (x:UInt8) (xs:List UInt8) (rc:List Value):obs (evF Tryz.prog (Zz 3 (Zd (enL i rc x xs [(97:UInt8),(98:UInt8)])) Zk) Zh 100 20 70 [i.val] ⟨64,ZF rc,[],0,(tb 42 4329328476174),0,True⟩)=some (Value.tuple { toList:=[Value.int .u32 0,.int .i64 2] },(((((((((((((((((((((((((((((((((((((((((((True∧True∧(rr (Value.int .i64 i.op)∧True)∧((tt∧rc.all (okV (fun l=>l.blt 64) 3)=true∧tt∧tt∧tt∧True∧rc=List.map (rnV (lift 64 65 []) 3) rc)∧True)∧True)∧Zl (x::xs) []=false)∧True∧(rr (Value.int .i64 i.op)∧True)∧((tt∧rc.all (okV (fun l=>l.blt 64) 3)=true∧tt∧tt∧tt∧True∧rc=List.map (rnV (lift 64 67 []) 3) rc)∧True)∧True)∧tt)∧tt)∧tt)∧rr false)∧rr false)∧rr false)∧rr false)∧rr false)∧rr false)∧rr false)∧decide (i.a<(0:Int))=false)∧decide (i.a<(0:Int))=false)∧decide (i.a<(0:Int))=false)∧decide (i.a<(0:Int))=false)∧decide (i.a<(0:Int))=false)∧decide (i.a<(0:Int))=false)∧tt)∧tt)∧rr false)∧tt)∧rr false)∧decide (i.a≥(16:Int))=false)∧decide (i.a≥(16:Int))=false)∧decide (i.a≥(16:Int))=false)∧decide (i.a≥(16:Int))=false)∧decide (i.a≥(16:Int))=false)∧decide (i.a≥(16:Int))=false)∧decide (i.b<(0:Int))=false)∧decide (i.b<(0:Int))=false)∧decide (i.b<(0:Int))=false)∧decide (i.b<(0:Int))=false)∧decide (i.b<(0:Int))=false)∧decide (i.b<(0:Int))=false)∧rr false)∧rr false)∧decide (i.b≥(16:Int))=true)∧decide (i.b≥(16:Int))=true)∧decide (i.b≥(16:Int))=true)∧decide (i.b≥(16:Int))=true)∧decide (i.b≥(16:Int))=true)∧tt):=by kernel_rfl
theorem ZiJ (i:In) (x:UInt8) (xs:List UInt8) (rc:List Value):obs (evF Tryz.prog (Zz 3 (Zd (enL i rc x xs [(97:UInt8),(98:UInt8)])) Zk) Zh 100 20 70 [i.val] ⟨64,ZF rc,[],0,(tb 42 2199024697358),0,True⟩)=some (Value.tuple { toList:=[Value.int .u32 0,.int .i64 2] },(((((((((((((((((((((((((((((((((((((((((((True∧True∧(rr (Value.int .i64 i.op)∧True)∧((tt∧rc.all (okV (fun l=>l.blt 64) 3)=true∧tt∧tt∧tt∧True∧rc=List.map (rnV (lift 64 65 []) 3) rc)∧True)∧True)∧Zl (x::xs) []=false)∧True∧(rr (Value.int .i64 i.op)∧True)∧((tt∧rc.all (okV (fun l=>l.blt 64) 3)=true∧tt∧tt∧tt∧True∧rc=List.map (rnV (lift 64 67 []) 3) rc)∧True)∧True)∧tt)∧tt)∧tt)∧rr false)∧rr false)∧rr false)∧rr false)∧rr false)∧rr false)∧rr false)∧decide (i.a<(0:Int))=false)∧decide (i.a<(0:Int))=false)∧decide (i.a<(0:Int))=false)∧decide (i.a<(0:Int))=false)∧decide (i.a<(0:Int))=false)∧decide (i.a<(0:Int))=false)∧tt)∧tt)∧rr false)∧tt)∧rr false)∧decide (i.a≥(16:Int))=false)∧decide (i.a≥(16:Int))=false)∧decide (i.a≥(16:Int))=false)∧decide (i.a≥(16:Int))=false)∧decide (i.a≥(16:Int))=false)∧decide (i.a≥(16:Int))=false)∧decide (i.b<(0:Int))=false)∧decide (i.b<(0:Int))=false)∧decide (i.b<(0:Int))=false)∧decide (i.b<(0:Int))=false)∧decide (i.b<(0:Int))=false)∧decide (i.b<(0:Int))=false)∧rr false)∧rr false)∧decide (i.b≥(16:Int))=false)∧decide (i.b≥(16:Int))=false)∧decide (i.b≥(16:Int))=false)∧decide (i.b≥(16:Int))=false)∧decide (i.b≥(16:Int))=false)∧(!(i.op==i.op&&(i.c==(0:Int)&&(i.m==(0:Int)&&true))))=true):=by kernel_rfl
theorem ZkB (i:In) (x:UInt8) (xs:List UInt8) (rc:List Value):obs (evF Tryz.prog (Zz 3 (Zd (enL i rc x xs [])) Zk) Zh 100 20 70 [i.val] ⟨64,ZF rc,[],0,(tb 9 0),0,True⟩)=some (Value.tuple { toList:=[Value.int .u32 (u32.wrap (u32.wrap i.op*(16777216:Int))),.int .i64 0] },((((((((((True∧True∧(rr (Value.int .i64 i.op)∧True)∧((tt∧rc.all (okV (fun l=>l.blt 64) 3)=true∧tt∧tt∧tt∧True∧rc=List.map (rnV (lift 64 65 []) 3) rc)∧True)∧True)∧Zl (x::xs) []=false)∧True∧(rr (Value.int .i64 i.op)∧True)∧((tt∧rc.all (okV (fun l=>l.blt 64) 3)=true∧tt∧tt∧tt∧True∧rc=List.map (rnV (lift 64 67 []) 3) rc)∧True)∧True)∧rr false)∧rr false)∧rr false)∧rr false)∧rr false)∧rr false)∧rr false)∧(!(i.op==i.op&&(i.a==(0:Int)&&(i.b==(0:Int)&&(i.c==(0:Int)&&(i.m==(0:Int)&&true))))))=false):=by kernel_rfl
theorem ZkC (i:In) (x:UInt8) (xs:List UInt8) (rc:List Value):obs (evF Tryz.prog (Zz 3 (Zd (enL i rc x xs [])) Zk) Zh 100 20 70 [i.val] ⟨64,ZF rc,[],0,(tb 9 256),0,True⟩)=some (Value.tuple { toList:=[Value.int .u32 0,.int .i64 2] },((((((((((True∧True∧(rr (Value.int .i64 i.op)∧True)∧((tt∧rc.all (okV (fun l=>l.blt 64) 3)=true∧tt∧tt∧tt∧True∧rc=List.map (rnV (lift 64 65 []) 3) rc)∧True)∧True)∧Zl (x::xs) []=false)∧True∧(rr (Value.int .i64 i.op)∧True)∧((tt∧rc.all (okV (fun l=>l.blt 64) 3)=true∧tt∧tt∧tt∧True∧rc=List.map (rnV (lift 64 67 []) 3) rc)∧True)∧True)∧rr false)∧rr false)∧rr false)∧rr false)∧rr false)∧rr false)∧rr false)∧(!(i.op==i.op&&(i.a==(0:Int)&&(i.b==(0:Int)&&(i.c==(0:Int)&&(i.m==(0:Int)&&true))))))=true):=by kernel_rfl
theorem ZkD (i:In) (x:UInt8) (xs:List UInt8) (rc:List Value):obs (evF Tryz.prog (Zz 3 (Zd (enL i rc x xs [(105:UInt8)])) Zk) Zh 100 20 70 [i.val] ⟨64,ZF rc,[],0,(tb 28 198),0,True⟩)=some (Value.tuple { toList:=[Value.int .u32 (bits BinOp.or u32 (u32.wrap (u32.wrap i.op*(16777216:Int))) (u32.wrap (bits BinOp.and u32 (u32.wrap i.m) (4095:Int)*(1:Int)))),.int .i64 0] },(((((((((((((((((((((((((((((True∧True∧(rr (Value.int .i64 i.op)∧True)∧((tt∧rc.all (okV (fun l=>l.blt 64) 3)=true∧tt∧tt∧tt∧True∧rc=List.map (rnV (lift 64 65 []) 3) rc)∧True)∧True)∧Zl (x::xs) []=false)∧True∧(rr (Value.int .i64 i.op)∧True)∧((tt∧rc.all (okV (fun l=>l.blt 64) 3)=true∧tt∧tt∧tt∧True∧rc=List.map (rnV (lift 64 67 []) 3) rc)∧True)∧True)∧tt)∧tt)∧rr false)∧rr false)∧rr false)∧tt)∧tt)∧rr false)∧rr false)∧rr false)∧rr false)∧rr false)∧rr false)∧decide (i.m<(-2048:Int))=false)∧decide (i.m<(-2048:Int))=false)∧decide (i.m<(-2048:Int))=false)∧decide (i.m<(-2048:Int))=false)∧decide (i.m<(-2048:Int))=false)∧decide (i.m<(-2048:Int))=false)∧rr false)∧rr false)∧decide (i.m≥(2048:Int))=false)∧decide (i.m≥(2048:Int))=false)∧decide (i.m≥(2048:Int))=false)∧decide (i.m≥(2048:Int))=false)∧decide (i.m≥(2048:Int))=false)∧(!(i.op==i.op&&(i.a==(0:Int)&&(i.b==(0:Int)&&(i.c==(0:Int)&&true)))))=false):=by kernel_rfl
theorem ZiK (i:In) (x:UInt8) (xs:List UInt8) (rc:List Value):obs (evF Tryz.prog (Zz 3 (Zd (enL i rc x xs [(105:UInt8)])) Zk) Zh 100 20 70 [i.val] ⟨64,ZF rc,[],0,(tb 28 265273542),0,True⟩)=some (Value.tuple { toList:=[Value.int .u32 0,.int .i64 2] },(((((((((((((((((((((((((((((True∧True∧(rr (Value.int .i64 i.op)∧True)∧((tt∧rc.all (okV (fun l=>l.blt 64) 3)=true∧tt∧tt∧tt∧True∧rc=List.map (rnV (lift 64 65 []) 3) rc)∧True)∧True)∧Zl (x::xs) []=false)∧True∧(rr (Value.int .i64 i.op)∧True)∧((tt∧rc.all (okV (fun l=>l.blt 64) 3)=true∧tt∧tt∧tt∧True∧rc=List.map (rnV (lift 64 67 []) 3) rc)∧True)∧True)∧tt)∧tt)∧rr false)∧rr false)∧rr false)∧tt)∧tt)∧rr false)∧rr false)∧rr false)∧rr false)∧rr false)∧rr false)∧decide (i.m<(-2048:Int))=true)∧decide (i.m<(-2048:Int))=true)∧decide (i.m<(-2048:Int))=true)∧decide (i.m<(-2048:Int))=true)∧decide (i.m<(-2048:Int))=true)∧decide (i.m<(-2048:Int))=true)∧rr false)∧rr false)∧tt)∧tt)∧tt)∧tt)∧tt)∧tt):=by kernel_rfl
theorem ZiL (i:In) (x:UInt8) (xs:List UInt8) (rc:List Value):obs (evF Tryz.prog (Zz 3 (Zd (enL i rc x xs [(105:UInt8)])) Zk) Zh 100 20 70 [i.val] ⟨64,ZF rc,[],0,(tb 28 264241350),0,True⟩)=some (Value.tuple { toList:=[Value.int .u32 0,.int .i64 2] },(((((((((((((((((((((((((((((True∧True∧(rr (Value.int .i64 i.op)∧True)∧((tt∧rc.all (okV (fun l=>l.blt 64) 3)=true∧tt∧tt∧tt∧True∧rc=List.map (rnV (lift 64 65 []) 3) rc)∧True)∧True)∧Zl (x::xs) []=false)∧True∧(rr (Value.int .i64 i.op)∧True)∧((tt∧rc.all (okV (fun l=>l.blt 64) 3)=true∧tt∧tt∧tt∧True∧rc=List.map (rnV (lift 64 67 []) 3) rc)∧True)∧True)∧tt)∧tt)∧rr false)∧rr false)∧rr false)∧tt)∧tt)∧rr false)∧rr false)∧rr false)∧rr false)∧rr false)∧rr false)∧decide (i.m<(-2048:Int))=false)∧decide (i.m<(-2048:Int))=false)∧decide (i.m<(-2048:Int))=false)∧decide (i.m<(-2048:Int))=false)∧decide (i.m<(-2048:Int))=false)∧decide (i.m<(-2048:Int))=false)∧rr false)∧rr false)∧decide (i.m≥(2048:Int))=true)∧decide (i.m≥(2048:Int))=true)∧decide (i.m≥(2048:Int))=true)∧decide (i.m≥(2048:Int))=true)∧decide (i.m≥(2048:Int))=true)∧tt):=by kernel_rfl
theorem ZkE (i:In) (x:UInt8) (xs:List UInt8) (rc:List Value):obs (evF Tryz.prog (Zz 3 (Zd (enL i rc x xs [(105:UInt8)])) Zk) Zh 100 20 70 [i.val] ⟨64,ZF rc,[],0,(tb 28 134217926),0,True⟩)=some (Value.tuple { toList:=[Value.int .u32 0,.int .i64 2] },(((((((((((((((((((((((((((((True∧True∧(rr (Value.int .i64 i.op)∧True)∧((tt∧rc.all (okV (fun l=>l.blt 64) 3)=true∧tt∧tt∧tt∧True∧rc=List.map (rnV (lift 64 65 []) 3) rc)∧True)∧True)∧Zl (x::xs) []=false)∧True∧(rr (Value.int .i64 i.op)∧True)∧((tt∧rc.all (okV (fun l=>l.blt 64) 3)=true∧tt∧tt∧tt∧True∧rc=List.map (rnV (lift 64 67 []) 3) rc)∧True)∧True)∧tt)∧tt)∧rr false)∧rr false)∧rr false)∧tt)∧tt)∧rr false)∧rr false)∧rr false)∧rr false)∧rr false)∧rr false)∧decide (i.m<(-2048:Int))=false)∧decide (i.m<(-2048:Int))=false)∧decide (i.m<(-2048:Int))=false)∧decide (i.m<(-2048:Int))=false)∧decide (i.m<(-2048:Int))=false)∧decide (i.m<(-2048:Int))=false)∧rr false)∧rr false)∧decide (i.m≥(2048:Int))=false)∧decide (i.m≥(2048:Int))=false)∧decide (i.m≥(2048:Int))=false)∧decide (i.m≥(2048:Int))=false)∧decide (i.m≥(2048:Int))=false)∧(!(i.op==i.op&&(i.a==(0:Int)&&(i.b==(0:Int)&&(i.c==(0:Int)&&true)))))=true):=by kernel_rfl
theorem ZmN (i:In):obs (evF Tryz.prog Zk Zh 100 20 70 [{ op:=(0:Int),a:=i.a,b:=i.b,c:=i.c,m:=i.m:In }.val] ⟨64,ZF ZB,[],0,(tb 5 16),0,True⟩)=some (Value.tuple { toList:=[Value.int .u32 0,.int .i64 2] },((((True∧rr false)∧rr false)∧rr false)∧rr false)∧tt):=by kernel_rfl
theorem ZmO (i:In) (rc:List Value):obs (evF Tryz.prog Zk Zh 100 20 70 [i.val] ⟨64,ZF rc,[],0,(tb 5 31),0,True⟩)=some (Value.tuple { toList:=[Value.int .u32 0,.int .i64 2] },((((True∧decide (i.op<(0:Int))=true)∧decide (i.op<(0:Int))=true)∧decide (i.op<(0:Int))=true)∧tt)∧tt):=by kernel_rfl
theorem ZmP (i:In) (rc:List Value):obs (evF Tryz.prog Zk Zh 100 20 70 [i.val] ⟨64,ZF rc,[],0,(tb 5 24),0,True⟩)=some (Value.tuple { toList:=[Value.int .u32 0,.int .i64 2] },((((True∧decide (i.op<(0:Int))=false)∧decide (i.op<(0:Int))=false)∧decide (i.op<(0:Int))=false)∧decide (i.op>(53:Int))=true)∧tt):=by kernel_rfl
theorem nm_r (op:Int) (rc:List Value):obs (evF Tryz.prog Zk Zh 100 20 129 [Value.int .i64 op] ⟨64,ZF rc,[],0,(tb 4 0),0,True⟩)=some (Value.string (Zav (Zc undef rc (0+op.toNat*2))),bif ZI (0+op.toNat*2+2) rc&&Zi [Value.string { data:=#[]:ByteArray },.string { data:=#[]:ByteArray }] rc (0+op.toNat*2) then bif decide ((0:Int)≤op)&&decide (op<(54:Int)) then(((True∧decide (op<(0:Int))=false)∧decide (op<(0:Int))=false)∧decide (op<(0:Int))=false)∧decide (op>(53:Int))=false else False else False):=by kernel_rfl
theorem fm_r (op:Int) (rc:List Value):obs (evF Tryz.prog Zk Zh 100 20 123 [Value.int .i64 op] ⟨64,ZF rc,[],0,(tb 4 0),0,True⟩)=some (Value.string (Zav (Zc undef rc (0+op.toNat*2+1))),bif ZI (0+op.toNat*2+2) rc&&Zi [Value.string { data:=#[]:ByteArray },.string { data:=#[]:ByteArray }] rc (0+op.toNat*2) then bif decide ((0:Int)≤op)&&decide (op<(54:Int)) then(((True∧decide (op<(0:Int))=false)∧decide (op<(0:Int))=false)∧decide (op<(0:Int))=false)∧decide (op>(53:Int))=false else False else False):=by kernel_rfl
theorem ma_a (i:In) (w e:Int) (rc:List Value):obs (evF Tryz.prog (Zz 3 (Zd [(65,70,gwC [i.val] rc (Value.tuple { toList:=[Value.int .u32 w,.int .i64 e] }),[])]) Zk) Zh 100 20 33 [i.val] ⟨64,ZF rc,[],0,[],0,True⟩)=some (Value.bool (e==(0:Int)),True∧True∧(rr (Value.agg ⟨[.int .i64 i.op,.int .i64 i.a,.int .i64 i.b,.int .i64 i.c,.int .i64 i.m]⟩)∧True)∧((tt∧rc.all (okV (fun l=>l.blt 64) 3)=true∧tt∧tt∧tt∧True∧rc=List.map (rnV (lift 64 65 []) 3) rc)∧True)∧True):=by kernel_rfl
def Zfl:List Nat:=[0,1,2,3,3,3,3,3,3,3,3,3,3,3,3,3,4,4,4,4,4,4,4,4,4,4,4,4,4,2,5,5,3,4,3,3,3,3,3,3,3,5,5,5,5,5,5,5,5,2,5,6,7,6]
def KY (op:Int):Nat:=if 1≤op∧op≤53 then Zfl.getD op.toNat 0 else 0
def J4:Nat→List UInt8
 | 1=>[97,105]
 | 2=>[97,106]
 | 3=>[97,98,99]
 | 4=>[97,98,105]
 | 5=>[97,98]
 | 6=>[]
 | 7=>[105]
 | _=>[]
def XN (v lo hi:Int):Bool:=!decide (v<lo) && !decide (v≥hi)
def Xw:Nat→In→Bool
 | 1,i=>XN i.a (0:Int) (16:Int)&&(XN i.m (-2048:Int) (2048:Int)&&(i.op==i.op&&(i.b==0&&(i.c==0&&(true)))))
 | 2,i=>XN i.a (0:Int) (16:Int)&&(XN i.m (-524288:Int) (524288:Int)&&(i.op==i.op&&(i.b==0&&(i.c==0&&(true)))))
 | 3,i=>XN i.a (0:Int) (16:Int)&&(XN i.b (0:Int) (16:Int)&&(XN i.c (0:Int) (16:Int)&&(i.op==i.op&&(i.m==0&&(true)))))
 | 4,i=>XN i.a (0:Int) (16:Int)&&(XN i.b (0:Int) (16:Int)&&(XN i.m (-2048:Int) (2048:Int)&&(i.op==i.op&&(i.c==0&&(true)))))
 | 5,i=>XN i.a (0:Int) (16:Int)&&(XN i.b (0:Int) (16:Int)&&(i.op==i.op&&(i.c==0&&(i.m==0&&(true)))))
 | 6,i=>i.op==i.op&&(i.a==0&&(i.b==0&&(i.c==0&&(i.m==0&&(true)))))
 | 7,i=>XN i.m (-2048:Int) (2048:Int)&&(i.op==i.op&&(i.a==0&&(i.b==0&&(i.c==0&&(true)))))
 | _,_=>false
def XO (i:In):Bool:=Xw (KY i.op) i
def ZdD (w v mask mul:Int):Int:=bits BinOp.or u32 w (u32.wrap (bits BinOp.and u32 (u32.wrap v) mask*mul))
def opE (i:In):Int:=u32.wrap (u32.wrap i.op*(16777216:Int))
def encC:Nat→In→Int
 | 1,i=>ZdD (ZdD (opE i) i.a 15 1048576) i.m 4095 1
 | 2,i=>ZdD (ZdD (opE i) i.a 15 1048576) i.m 1048575 1
 | 3,i=>ZdD (ZdD (ZdD (opE i) i.a 15 1048576) i.b 15 65536) i.c 15 4096
 | 4,i=>ZdD (ZdD (ZdD (opE i) i.a 15 1048576) i.b 15 65536) i.m 4095 1
 | 5,i=>ZdD (ZdD (opE i) i.a 15 1048576) i.b 15 65536
 | 6,i=>opE i
 | 7,i=>ZdD (opE i) i.m 4095 1
 | _,_=>0
def ZdE (i:In):Int:=if XO i=true then encC (KY i.op) i else 0
def VL (i:In):Int:=if XO i=true then 0 else 2
theorem W6:∀ v∈ZB,ZP v=true:=fun v hv=>List.all_eq_true.1 (show ZB.all ZP=true by kernel_rfl) v hv
theorem Zfm {q:Nat→Bool} (h:∀ l,l<64→q l=true):OkH q (ZF ZB):=⟨⟨h _ (by show(0:Nat)<64; omega),rfl,Qf W6⟩,trivial⟩
theorem W7 {call:Z1} (hc:Zx Tryz.prog call) {fn:FuncId} {args:List Value} {v:Value} {T:List (Nat×Bool)} {q:Prop} (ha:args.all (okV (fun l=>Nat.blt l 64) 3)=true) (hv:Ym v=true) (hu:isU v=false) (h:obs (call fn args ⟨64,ZF ZB,[],0,T,0,True⟩)=some (v,q)) (hq:q):ConOk Tryz.prog fn 3 (gwC args ZB v)∧FlatC (gwC args ZB v):=by
 unfold obs at h
 obtain⟨⟨v',s'⟩,h1,h2⟩:=oM h
 simp only[rr, tt, Prod.mk.injEq] at h2
 obtain⟨rfl,rfl⟩:=h2
 refine⟨ZZ hc ⟨by show 64≤64; omega,Nat.le_refl _,Zfm (fun l hl=>QY hl),rfl,rfl,rfl,ha,QB hv 1,fun x hx=>by cases hx⟩ h1 hq (p:=fun l=>Nat.blt l 64) (σ:=id) ?_,⟨fun x hx=>by cases hx⟩⟩
 exact⟨fun _ _=>rfl,trivial,rfl,trivial,⟨QB hv 1,by rw[XY]; rfl⟩,hu,trivial,rfl,Q6 _ hv,fun x hx=>by cases hx⟩
theorem ZkF:∀ k:Nat,k≤53→Zav (Zc undef ZB (0+k*2+1))=⟨⟨J4 (Zfl.getD k 0)⟩⟩∧(1≤k→∃ x xs,Zav (Zc undef ZB (0+k*2))=⟨⟨x::xs⟩⟩)
 | 0,_=>⟨rfl,fun h=>absurd h (by decide)⟩
 | 1,_=>⟨rfl,fun _=>⟨_,_,rfl⟩⟩
 | 2,_=>⟨rfl,fun _=>⟨_,_,rfl⟩⟩
 | 3,_=>⟨rfl,fun _=>⟨_,_,rfl⟩⟩
 | 4,_=>⟨rfl,fun _=>⟨_,_,rfl⟩⟩
 | 5,_=>⟨rfl,fun _=>⟨_,_,rfl⟩⟩
 | 6,_=>⟨rfl,fun _=>⟨_,_,rfl⟩⟩
 | 7,_=>⟨rfl,fun _=>⟨_,_,rfl⟩⟩
 | 8,_=>⟨rfl,fun _=>⟨_,_,rfl⟩⟩
 | 9,_=>⟨rfl,fun _=>⟨_,_,rfl⟩⟩
 | 10,_=>⟨rfl,fun _=>⟨_,_,rfl⟩⟩
 | 11,_=>⟨rfl,fun _=>⟨_,_,rfl⟩⟩
 | 12,_=>⟨rfl,fun _=>⟨_,_,rfl⟩⟩
 | 13,_=>⟨rfl,fun _=>⟨_,_,rfl⟩⟩
 | 14,_=>⟨rfl,fun _=>⟨_,_,rfl⟩⟩
 | 15,_=>⟨rfl,fun _=>⟨_,_,rfl⟩⟩
 | 16,_=>⟨rfl,fun _=>⟨_,_,rfl⟩⟩
 | 17,_=>⟨rfl,fun _=>⟨_,_,rfl⟩⟩
 | 18,_=>⟨rfl,fun _=>⟨_,_,rfl⟩⟩
 | 19,_=>⟨rfl,fun _=>⟨_,_,rfl⟩⟩
 | 20,_=>⟨rfl,fun _=>⟨_,_,rfl⟩⟩
 | 21,_=>⟨rfl,fun _=>⟨_,_,rfl⟩⟩
 | 22,_=>⟨rfl,fun _=>⟨_,_,rfl⟩⟩
 | 23,_=>⟨rfl,fun _=>⟨_,_,rfl⟩⟩
 | 24,_=>⟨rfl,fun _=>⟨_,_,rfl⟩⟩
 | 25,_=>⟨rfl,fun _=>⟨_,_,rfl⟩⟩
 | 26,_=>⟨rfl,fun _=>⟨_,_,rfl⟩⟩
 | 27,_=>⟨rfl,fun _=>⟨_,_,rfl⟩⟩
 | 28,_=>⟨rfl,fun _=>⟨_,_,rfl⟩⟩
 | 29,_=>⟨rfl,fun _=>⟨_,_,rfl⟩⟩
 | 30,_=>⟨rfl,fun _=>⟨_,_,rfl⟩⟩
 | 31,_=>⟨rfl,fun _=>⟨_,_,rfl⟩⟩
 | 32,_=>⟨rfl,fun _=>⟨_,_,rfl⟩⟩
 | 33,_=>⟨rfl,fun _=>⟨_,_,rfl⟩⟩
 | 34,_=>⟨rfl,fun _=>⟨_,_,rfl⟩⟩
 | 35,_=>⟨rfl,fun _=>⟨_,_,rfl⟩⟩
 | 36,_=>⟨rfl,fun _=>⟨_,_,rfl⟩⟩
 | 37,_=>⟨rfl,fun _=>⟨_,_,rfl⟩⟩
 | 38,_=>⟨rfl,fun _=>⟨_,_,rfl⟩⟩
 | 39,_=>⟨rfl,fun _=>⟨_,_,rfl⟩⟩
 | 40,_=>⟨rfl,fun _=>⟨_,_,rfl⟩⟩
 | 41,_=>⟨rfl,fun _=>⟨_,_,rfl⟩⟩
 | 42,_=>⟨rfl,fun _=>⟨_,_,rfl⟩⟩
 | 43,_=>⟨rfl,fun _=>⟨_,_,rfl⟩⟩
 | 44,_=>⟨rfl,fun _=>⟨_,_,rfl⟩⟩
 | 45,_=>⟨rfl,fun _=>⟨_,_,rfl⟩⟩
 | 46,_=>⟨rfl,fun _=>⟨_,_,rfl⟩⟩
 | 47,_=>⟨rfl,fun _=>⟨_,_,rfl⟩⟩
 | 48,_=>⟨rfl,fun _=>⟨_,_,rfl⟩⟩
 | 49,_=>⟨rfl,fun _=>⟨_,_,rfl⟩⟩
 | 50,_=>⟨rfl,fun _=>⟨_,_,rfl⟩⟩
 | 51,_=>⟨rfl,fun _=>⟨_,_,rfl⟩⟩
 | 52,_=>⟨rfl,fun _=>⟨_,_,rfl⟩⟩
 | 53,_=>⟨rfl,fun _=>⟨_,_,rfl⟩⟩
 | k+54,h=>absurd h (by omega)
theorem ZcR:∀ k:Nat,k≤53→ZI (0+k*2+2) ZB=true∧Zi [Value.string { data:=#[]:ByteArray },Value.string { data:=#[]:ByteArray }] ZB (0+k*2)=true
 | 0,_=>⟨rfl,rfl⟩
 | 1,_=>⟨rfl,rfl⟩
 | 2,_=>⟨rfl,rfl⟩
 | 3,_=>⟨rfl,rfl⟩
 | 4,_=>⟨rfl,rfl⟩
 | 5,_=>⟨rfl,rfl⟩
 | 6,_=>⟨rfl,rfl⟩
 | 7,_=>⟨rfl,rfl⟩
 | 8,_=>⟨rfl,rfl⟩
 | 9,_=>⟨rfl,rfl⟩
 | 10,_=>⟨rfl,rfl⟩
 | 11,_=>⟨rfl,rfl⟩
 | 12,_=>⟨rfl,rfl⟩
 | 13,_=>⟨rfl,rfl⟩
 | 14,_=>⟨rfl,rfl⟩
 | 15,_=>⟨rfl,rfl⟩
 | 16,_=>⟨rfl,rfl⟩
 | 17,_=>⟨rfl,rfl⟩
 | 18,_=>⟨rfl,rfl⟩
 | 19,_=>⟨rfl,rfl⟩
 | 20,_=>⟨rfl,rfl⟩
 | 21,_=>⟨rfl,rfl⟩
 | 22,_=>⟨rfl,rfl⟩
 | 23,_=>⟨rfl,rfl⟩
 | 24,_=>⟨rfl,rfl⟩
 | 25,_=>⟨rfl,rfl⟩
 | 26,_=>⟨rfl,rfl⟩
 | 27,_=>⟨rfl,rfl⟩
 | 28,_=>⟨rfl,rfl⟩
 | 29,_=>⟨rfl,rfl⟩
 | 30,_=>⟨rfl,rfl⟩
 | 31,_=>⟨rfl,rfl⟩
 | 32,_=>⟨rfl,rfl⟩
 | 33,_=>⟨rfl,rfl⟩
 | 34,_=>⟨rfl,rfl⟩
 | 35,_=>⟨rfl,rfl⟩
 | 36,_=>⟨rfl,rfl⟩
 | 37,_=>⟨rfl,rfl⟩
 | 38,_=>⟨rfl,rfl⟩
 | 39,_=>⟨rfl,rfl⟩
 | 40,_=>⟨rfl,rfl⟩
 | 41,_=>⟨rfl,rfl⟩
 | 42,_=>⟨rfl,rfl⟩
 | 43,_=>⟨rfl,rfl⟩
 | 44,_=>⟨rfl,rfl⟩
 | 45,_=>⟨rfl,rfl⟩
 | 46,_=>⟨rfl,rfl⟩
 | 47,_=>⟨rfl,rfl⟩
 | 48,_=>⟨rfl,rfl⟩
 | 49,_=>⟨rfl,rfl⟩
 | 50,_=>⟨rfl,rfl⟩
 | 51,_=>⟨rfl,rfl⟩
 | 52,_=>⟨rfl,rfl⟩
 | 53,_=>⟨rfl,rfl⟩
 | k+54,h=>absurd h (by omega)
theorem JO (op:Int) (h1:1≤op) (h2:op≤53):∃ (x:UInt8) (xs:List UInt8),ConOk Tryz.prog 129 3 (gwC [.int .i64 op] ZB (.string ⟨⟨x::xs⟩⟩))∧FlatC (gwC [.int .i64 op] ZB (.string ⟨⟨x::xs⟩⟩)):=by
 obtain⟨k,rfl⟩:=Int.eq_ofNat_of_zero_le (show 0≤op by omega)
 have hr:=nm_r (k:Int) ZB
 obtain⟨_,x,xs,hx⟩:_∧_:=⟨trivial,(ZkF k (by omega)).2 (by omega)⟩
 obtain⟨g1,g2⟩:=ZcR k (by omega)
 simp only[rr, tt, Int.toNat_natCast] at hr
 rw[hx] at hr
 refine⟨x,xs,W7 (Zt (L:=100) Zg (Zf _) (Ze _) 20) rfl rfl rfl hr ?_⟩
 have d1:decide ((0:Int)≤(k:Int))=true:=decide_eq_true (by omega)
 have d2:decide ((k:Int)<54)=true:=decide_eq_true (by omega)
 have d3:decide ((k:Int)<0)=false:=decide_eq_false (by omega)
 have d4:decide ((k:Int)>53)=false:=decide_eq_false (by omega)
 simp only[rr, tt, g1,g2,d1,d2,d3,d4,Bool.and_self,cond_true,and_self]
theorem JP (op:Int) (h1:1≤op) (h2:op≤53):ConOk Tryz.prog 123 3 (gwC [.int .i64 op] ZB (.string ⟨⟨J4 (KY op)⟩⟩))∧FlatC (gwC [.int .i64 op] ZB (.string ⟨⟨J4 (KY op)⟩⟩)):=by
 obtain⟨k,rfl⟩:=Int.eq_ofNat_of_zero_le (show 0≤op by omega)
 have hr:=fm_r (k:Int) ZB
 have hx:=(ZkF k (by omega)).1
 obtain⟨g1,g2⟩:=ZcR k (by omega)
 have hc:KY (k:Int)=Zfl.getD k 0:=by unfold KY; rw[if_pos ⟨h1,h2⟩,Int.toNat_natCast]
 simp only[rr, tt, Int.toNat_natCast] at hr
 rw[hx,← hc] at hr
 refine W7 (Zt (L:=100) Zg (Zf _) (Ze _) 20) rfl rfl rfl hr ?_
 have d1:decide ((0:Int)≤(k:Int))=true:=decide_eq_true (by omega)
 have d2:decide ((k:Int)<54)=true:=decide_eq_true (by omega)
 have d3:decide ((k:Int)<0)=false:=decide_eq_false (by omega)
 have d4:decide ((k:Int)>53)=false:=decide_eq_false (by omega)
 simp only[rr, tt, g1,g2,d1,d2,d3,d4,Bool.and_self,cond_true,and_self]
theorem ZX (x:UInt8) (xs:List UInt8):Zl (x::xs) []=false:=rfl
def Wr (i:In) (w e:Int):Prop:=ConOk Tryz.prog 70 3 (gwC [i.val] ZB (.tuple ⟨[.int .u32 w,.int .i64 e]⟩))∧FlatC (gwC [i.val] ZB (.tuple ⟨[.int .u32 w,.int .i64 e]⟩))
theorem Qv {i:In} (h:Wr i 0 2) (hm:XO i=false):Wr i (ZdE i) (VL i):=by
 unfold ZdE VL; rw[hm]; exact h
theorem VM {i:In} {c:Nat} (h:Wr i (encC c i) 0) (hc:KY i.op=c) (hm:XO i=true):Wr i (ZdE i) (VL i):=by
 unfold ZdE VL; rw[hm,if_pos rfl,if_pos rfl,hc]; exact h
theorem ZE (p:Nat→Bool):ZB.all (okV p 3)=true:=Zn W6
theorem Zw (σ:Nat→Nat):ZB.map (rnV σ 3)=ZB:=Zp W6
theorem ZiM (i:In) (h1:1≤i.op) (h2:i.op≤53) (hc:KY i.op=1):Wr i (ZdE i) (VL i):=by
 obtain⟨x,xs,hn,hnf⟩:=JO i.op h1 h2
 obtain⟨hf,hff⟩:=JP i.op h1 h2
 rw[hc] at hf hff
 have hb:∀ y∈enL i ZB x xs (J4 1),ConOk Tryz.prog y.2.1 3 y.2.2.1∧FlatC y.2.2.1:=fun y hy=>by
  simp only[rr, tt, enL,List.mem_cons,List.not_mem_nil,or_false] at hy
  rcases hy with rfl|rfl
  ·exact⟨hn,hnf⟩
  ·exact⟨hf,hff⟩
 have hs:=fun {T:List (Nat×Bool)} {w e:Int} {q:Prop} (h:obs (evF Tryz.prog (Zz 3 (Zd (enL i ZB x xs [97,105])) Zk) Zh 100 20 70 [i.val] ⟨64,ZF ZB,[],0,T,0,True⟩)=some (.tuple ⟨[.int .u32 w,.int .i64 e]⟩,q)) (hq:q)=>(W7 (Zt (L:=100) Zg (Zs (Zj hb) (Zf _)) (Ze _) 20) rfl rfl rfl h hq:Wr i w e)
 have hm:XO i=Xw 1 i:=by unfold XO; rw[hc]
 by_cases la:i.a<(0:Int)
 ·have da:decide (i.a<(0:Int))=true:=decide_eq_true la
  refine Qv (hs (ZgF i x xs ZB) (by simp only[rr, tt, da,ZX,ZE,Zw,Bool.not_false,Bool.not_true,and_true,true_and,and_self])) ?_
  rw[hm]; simp only[rr, tt, Xw,XN,da,Bool.not_true,Bool.false_and,Bool.and_false]
 have da:decide (i.a<(0:Int))=false:=decide_eq_false la
 by_cases ka:i.a≥(16:Int)
 ·have ea:decide (i.a≥(16:Int))=true:=decide_eq_true ka
  refine Qv (hs (ZgG i x xs ZB) (by simp only[rr, tt, da,ea,ZX,ZE,Zw,Bool.not_false,Bool.not_true,and_true,true_and,and_self])) ?_
  rw[hm]; simp only[rr, tt, Xw,XN,ea,Bool.not_true,Bool.false_and,Bool.and_false]
 have ea:decide (i.a≥(16:Int))=false:=decide_eq_false ka
 by_cases li:i.m<(-2048:Int)
 ·have di:decide (i.m<(-2048:Int))=true:=decide_eq_true li
  refine Qv (hs (ZgH i x xs ZB) (by simp only[rr, tt, di,da,ea,ZX,ZE,Zw,Bool.not_false,Bool.not_true,and_true,true_and,and_self])) ?_
  rw[hm]; simp only[rr, tt, Xw,XN,di,Bool.not_true,Bool.false_and,Bool.and_false]
 have di:decide (i.m<(-2048:Int))=false:=decide_eq_false li
 by_cases ki:i.m≥(2048:Int)
 ·have ei:decide (i.m≥(2048:Int))=true:=decide_eq_true ki
  refine Qv (hs (ZgI i x xs ZB) (by simp only[rr, tt, di,ei,da,ea,ZX,ZE,Zw,Bool.not_false,Bool.not_true,and_true,true_and,and_self])) ?_
  rw[hm]; simp only[rr, tt, Xw,XN,ei,Bool.not_true,Bool.false_and,Bool.and_false]
 have ei:decide (i.m≥(2048:Int))=false:=decide_eq_false ki
 cases hz:(i.op==i.op&&(i.b==(0:Int)&&(i.c==(0:Int)&&(true))))
 ·refine Qv (hs (ZiF i x xs ZB) (by simp only[rr, tt, hz,da,ea,di,ei,ZX,ZE,Zw,Bool.not_false,Bool.not_true,and_true,true_and,and_self])) ?_
  rw[hm]; simp only[rr, tt, Xw]; rw[hz]; simp only[rr, tt, Bool.and_false]
 ·refine VM (hs (ZiE i x xs ZB) (by simp only[rr, tt, hz,da,ea,di,ei,ZX,ZE,Zw,Bool.not_false,Bool.not_true,and_true,true_and,and_self])) hc ?_
  rw[hm]; simp only[rr, tt, Xw]; rw[hz]; simp only[rr, tt, XN,da,ea,di,ei,Bool.not_false,Bool.and_self]
theorem ZiN (i:In) (h1:1≤i.op) (h2:i.op≤53) (hc:KY i.op=2):Wr i (ZdE i) (VL i):=by
 obtain⟨x,xs,hn,hnf⟩:=JO i.op h1 h2
 obtain⟨hf,hff⟩:=JP i.op h1 h2
 rw[hc] at hf hff
 have hb:∀ y∈enL i ZB x xs (J4 2),ConOk Tryz.prog y.2.1 3 y.2.2.1∧FlatC y.2.2.1:=fun y hy=>by
  simp only[rr, tt, enL,List.mem_cons,List.not_mem_nil,or_false] at hy
  rcases hy with rfl|rfl
  ·exact⟨hn,hnf⟩
  ·exact⟨hf,hff⟩
 have hs:=fun {T:List (Nat×Bool)} {w e:Int} {q:Prop} (h:obs (evF Tryz.prog (Zz 3 (Zd (enL i ZB x xs [97,106])) Zk) Zh 100 20 70 [i.val] ⟨64,ZF ZB,[],0,T,0,True⟩)=some (.tuple ⟨[.int .u32 w,.int .i64 e]⟩,q)) (hq:q)=>(W7 (Zt (L:=100) Zg (Zs (Zj hb) (Zf _)) (Ze _) 20) rfl rfl rfl h hq:Wr i w e)
 have hm:XO i=Xw 2 i:=by unfold XO; rw[hc]
 by_cases la:i.a<(0:Int)
 ·have da:decide (i.a<(0:Int))=true:=decide_eq_true la
  refine Qv (hs (ZgJ i x xs ZB) (by simp only[rr, tt, da,ZX,ZE,Zw,Bool.not_false,Bool.not_true,and_true,true_and,and_self])) ?_
  rw[hm]; simp only[rr, tt, Xw,XN,da,Bool.not_true,Bool.false_and,Bool.and_false]
 have da:decide (i.a<(0:Int))=false:=decide_eq_false la
 by_cases ka:i.a≥(16:Int)
 ·have ea:decide (i.a≥(16:Int))=true:=decide_eq_true ka
  refine Qv (hs (ZgK i x xs ZB) (by simp only[rr, tt, da,ea,ZX,ZE,Zw,Bool.not_false,Bool.not_true,and_true,true_and,and_self])) ?_
  rw[hm]; simp only[rr, tt, Xw,XN,ea,Bool.not_true,Bool.false_and,Bool.and_false]
 have ea:decide (i.a≥(16:Int))=false:=decide_eq_false ka
 by_cases lj:i.m<(-524288:Int)
 ·have dj:decide (i.m<(-524288:Int))=true:=decide_eq_true lj
  refine Qv (hs (ZgL i x xs ZB) (by simp only[rr, tt, dj,da,ea,ZX,ZE,Zw,Bool.not_false,Bool.not_true,and_true,true_and,and_self])) ?_
  rw[hm]; simp only[rr, tt, Xw,XN,dj,Bool.not_true,Bool.false_and,Bool.and_false]
 have dj:decide (i.m<(-524288:Int))=false:=decide_eq_false lj
 by_cases kj:i.m≥(524288:Int)
 ·have ej:decide (i.m≥(524288:Int))=true:=decide_eq_true kj
  refine Qv (hs (ZgM i x xs ZB) (by simp only[rr, tt, dj,ej,da,ea,ZX,ZE,Zw,Bool.not_false,Bool.not_true,and_true,true_and,and_self])) ?_
  rw[hm]; simp only[rr, tt, Xw,XN,ej,Bool.not_true,Bool.false_and,Bool.and_false]
 have ej:decide (i.m≥(524288:Int))=false:=decide_eq_false kj
 cases hz:(i.op==i.op&&(i.b==(0:Int)&&(i.c==(0:Int)&&(true))))
 ·refine Qv (hs (ZiH i x xs ZB) (by simp only[rr, tt, hz,da,ea,dj,ej,ZX,ZE,Zw,Bool.not_false,Bool.not_true,and_true,true_and,and_self])) ?_
  rw[hm]; simp only[rr, tt, Xw]; rw[hz]; simp only[rr, tt, Bool.and_false]
 ·refine VM (hs (ZiG i x xs ZB) (by simp only[rr, tt, hz,da,ea,dj,ej,ZX,ZE,Zw,Bool.not_false,Bool.not_true,and_true,true_and,and_self])) hc ?_
  rw[hm]; simp only[rr, tt, Xw]; rw[hz]; simp only[rr, tt, XN,da,ea,dj,ej,Bool.not_false,Bool.and_self]
theorem ZgV (i:In) (h1:1≤i.op) (h2:i.op≤53) (hc:KY i.op=3):Wr i (ZdE i) (VL i):=by
 obtain⟨x,xs,hn,hnf⟩:=JO i.op h1 h2
 obtain⟨hf,hff⟩:=JP i.op h1 h2
 rw[hc] at hf hff
 have hb:∀ y∈enL i ZB x xs (J4 3),ConOk Tryz.prog y.2.1 3 y.2.2.1∧FlatC y.2.2.1:=fun y hy=>by
  simp only[rr, tt, enL,List.mem_cons,List.not_mem_nil,or_false] at hy
  rcases hy with rfl|rfl
  ·exact⟨hn,hnf⟩
  ·exact⟨hf,hff⟩
 have hs:=fun {T:List (Nat×Bool)} {w e:Int} {q:Prop} (h:obs (evF Tryz.prog (Zz 3 (Zd (enL i ZB x xs [97,98,99])) Zk) Zh 100 20 70 [i.val] ⟨64,ZF ZB,[],0,T,0,True⟩)=some (.tuple ⟨[.int .u32 w,.int .i64 e]⟩,q)) (hq:q)=>(W7 (Zt (L:=100) Zg (Zs (Zj hb) (Zf _)) (Ze _) 20) rfl rfl rfl h hq:Wr i w e)
 have hm:XO i=Xw 3 i:=by unfold XO; rw[hc]
 by_cases la:i.a<(0:Int)
 ·have da:decide (i.a<(0:Int))=true:=decide_eq_true la
  refine Qv (hs (Ze9 i x xs ZB) (by simp only[rr, tt, da,ZX,ZE,Zw,Bool.not_false,Bool.not_true,and_true,true_and,and_self])) ?_
  rw[hm]; simp only[rr, tt, Xw,XN,da,Bool.not_true,Bool.false_and,Bool.and_false]
 have da:decide (i.a<(0:Int))=false:=decide_eq_false la
 by_cases ka:i.a≥(16:Int)
 ·have ea:decide (i.a≥(16:Int))=true:=decide_eq_true ka
  refine Qv (hs (Zfa i x xs ZB) (by simp only[rr, tt, da,ea,ZX,ZE,Zw,Bool.not_false,Bool.not_true,and_true,true_and,and_self])) ?_
  rw[hm]; simp only[rr, tt, Xw,XN,ea,Bool.not_true,Bool.false_and,Bool.and_false]
 have ea:decide (i.a≥(16:Int))=false:=decide_eq_false ka
 by_cases lb:i.b<(0:Int)
 ·have db:decide (i.b<(0:Int))=true:=decide_eq_true lb
  refine Qv (hs (Zfb i x xs ZB) (by simp only[rr, tt, db,da,ea,ZX,ZE,Zw,Bool.not_false,Bool.not_true,and_true,true_and,and_self])) ?_
  rw[hm]; simp only[rr, tt, Xw,XN,db,Bool.not_true,Bool.false_and,Bool.and_false]
 have db:decide (i.b<(0:Int))=false:=decide_eq_false lb
 by_cases kb:i.b≥(16:Int)
 ·have eb:decide (i.b≥(16:Int))=true:=decide_eq_true kb
  refine Qv (hs (Zfc i x xs ZB) (by simp only[rr, tt, db,eb,da,ea,ZX,ZE,Zw,Bool.not_false,Bool.not_true,and_true,true_and,and_self])) ?_
  rw[hm]; simp only[rr, tt, Xw,XN,eb,Bool.not_true,Bool.false_and,Bool.and_false]
 have eb:decide (i.b≥(16:Int))=false:=decide_eq_false kb
 by_cases lc:i.c<(0:Int)
 ·have dc:decide (i.c<(0:Int))=true:=decide_eq_true lc
  refine Qv (hs (Zfd i x xs ZB) (by simp only[rr, tt, dc,da,ea,db,eb,ZX,ZE,Zw,Bool.not_false,Bool.not_true,and_true,true_and,and_self])) ?_
  rw[hm]; simp only[rr, tt, Xw,XN,dc,Bool.not_true,Bool.false_and,Bool.and_false]
 have dc:decide (i.c<(0:Int))=false:=decide_eq_false lc
 by_cases kc:i.c≥(16:Int)
 ·have ec:decide (i.c≥(16:Int))=true:=decide_eq_true kc
  refine Qv (hs (Zfe i x xs ZB) (by simp only[rr, tt, dc,ec,da,ea,db,eb,ZX,ZE,Zw,Bool.not_false,Bool.not_true,and_true,true_and,and_self])) ?_
  rw[hm]; simp only[rr, tt, Xw,XN,ec,Bool.not_true,Bool.false_and,Bool.and_false]
 have ec:decide (i.c≥(16:Int))=false:=decide_eq_false kc
 cases hz:(i.op==i.op&&(i.m==(0:Int)&&(true)))
 ·refine Qv (hs (ZgO i x xs ZB) (by simp only[rr, tt, hz,da,ea,db,eb,dc,ec,ZX,ZE,Zw,Bool.not_false,Bool.not_true,and_true,true_and,and_self])) ?_
  rw[hm]; simp only[rr, tt, Xw]; rw[hz]; simp only[rr, tt, Bool.and_false]
 ·refine VM (hs (ZgN i x xs ZB) (by simp only[rr, tt, hz,da,ea,db,eb,dc,ec,ZX,ZE,Zw,Bool.not_false,Bool.not_true,and_true,true_and,and_self])) hc ?_
  rw[hm]; simp only[rr, tt, Xw]; rw[hz]; simp only[rr, tt, XN,da,ea,db,eb,dc,ec,Bool.not_false,Bool.and_self]
theorem ZgW (i:In) (h1:1≤i.op) (h2:i.op≤53) (hc:KY i.op=4):Wr i (ZdE i) (VL i):=by
 obtain⟨x,xs,hn,hnf⟩:=JO i.op h1 h2
 obtain⟨hf,hff⟩:=JP i.op h1 h2
 rw[hc] at hf hff
 have hb:∀ y∈enL i ZB x xs (J4 4),ConOk Tryz.prog y.2.1 3 y.2.2.1∧FlatC y.2.2.1:=fun y hy=>by
  simp only[rr, tt, enL,List.mem_cons,List.not_mem_nil,or_false] at hy
  rcases hy with rfl|rfl
  ·exact⟨hn,hnf⟩
  ·exact⟨hf,hff⟩
 have hs:=fun {T:List (Nat×Bool)} {w e:Int} {q:Prop} (h:obs (evF Tryz.prog (Zz 3 (Zd (enL i ZB x xs [97,98,105])) Zk) Zh 100 20 70 [i.val] ⟨64,ZF ZB,[],0,T,0,True⟩)=some (.tuple ⟨[.int .u32 w,.int .i64 e]⟩,q)) (hq:q)=>(W7 (Zt (L:=100) Zg (Zs (Zj hb) (Zf _)) (Ze _) 20) rfl rfl rfl h hq:Wr i w e)
 have hm:XO i=Xw 4 i:=by unfold XO; rw[hc]
 by_cases la:i.a<(0:Int)
 ·have da:decide (i.a<(0:Int))=true:=decide_eq_true la
  refine Qv (hs (Zff i x xs ZB) (by simp only[rr, tt, da,ZX,ZE,Zw,Bool.not_false,Bool.not_true,and_true,true_and,and_self])) ?_
  rw[hm]; simp only[rr, tt, Xw,XN,da,Bool.not_true,Bool.false_and,Bool.and_false]
 have da:decide (i.a<(0:Int))=false:=decide_eq_false la
 by_cases ka:i.a≥(16:Int)
 ·have ea:decide (i.a≥(16:Int))=true:=decide_eq_true ka
  refine Qv (hs (Zfg i x xs ZB) (by simp only[rr, tt, da,ea,ZX,ZE,Zw,Bool.not_false,Bool.not_true,and_true,true_and,and_self])) ?_
  rw[hm]; simp only[rr, tt, Xw,XN,ea,Bool.not_true,Bool.false_and,Bool.and_false]
 have ea:decide (i.a≥(16:Int))=false:=decide_eq_false ka
 by_cases lb:i.b<(0:Int)
 ·have db:decide (i.b<(0:Int))=true:=decide_eq_true lb
  refine Qv (hs (Zfh i x xs ZB) (by simp only[rr, tt, db,da,ea,ZX,ZE,Zw,Bool.not_false,Bool.not_true,and_true,true_and,and_self])) ?_
  rw[hm]; simp only[rr, tt, Xw,XN,db,Bool.not_true,Bool.false_and,Bool.and_false]
 have db:decide (i.b<(0:Int))=false:=decide_eq_false lb
 by_cases kb:i.b≥(16:Int)
 ·have eb:decide (i.b≥(16:Int))=true:=decide_eq_true kb
  refine Qv (hs (Zfi i x xs ZB) (by simp only[rr, tt, db,eb,da,ea,ZX,ZE,Zw,Bool.not_false,Bool.not_true,and_true,true_and,and_self])) ?_
  rw[hm]; simp only[rr, tt, Xw,XN,eb,Bool.not_true,Bool.false_and,Bool.and_false]
 have eb:decide (i.b≥(16:Int))=false:=decide_eq_false kb
 by_cases li:i.m<(-2048:Int)
 ·have di:decide (i.m<(-2048:Int))=true:=decide_eq_true li
  refine Qv (hs (Zfj i x xs ZB) (by simp only[rr, tt, di,da,ea,db,eb,ZX,ZE,Zw,Bool.not_false,Bool.not_true,and_true,true_and,and_self])) ?_
  rw[hm]; simp only[rr, tt, Xw,XN,di,Bool.not_true,Bool.false_and,Bool.and_false]
 have di:decide (i.m<(-2048:Int))=false:=decide_eq_false li
 by_cases ki:i.m≥(2048:Int)
 ·have ei:decide (i.m≥(2048:Int))=true:=decide_eq_true ki
  refine Qv (hs (Zfk i x xs ZB) (by simp only[rr, tt, di,ei,da,ea,db,eb,ZX,ZE,Zw,Bool.not_false,Bool.not_true,and_true,true_and,and_self])) ?_
  rw[hm]; simp only[rr, tt, Xw,XN,ei,Bool.not_true,Bool.false_and,Bool.and_false]
 have ei:decide (i.m≥(2048:Int))=false:=decide_eq_false ki
 cases hz:(i.op==i.op&&(i.c==(0:Int)&&(true)))
 ·refine Qv (hs (ZgQ i x xs ZB) (by simp only[rr, tt, hz,da,ea,db,eb,di,ei,ZX,ZE,Zw,Bool.not_false,Bool.not_true,and_true,true_and,and_self])) ?_
  rw[hm]; simp only[rr, tt, Xw]; rw[hz]; simp only[rr, tt, Bool.and_false]
 ·refine VM (hs (ZgP i x xs ZB) (by simp only[rr, tt, hz,da,ea,db,eb,di,ei,ZX,ZE,Zw,Bool.not_false,Bool.not_true,and_true,true_and,and_self])) hc ?_
  rw[hm]; simp only[rr, tt, Xw]; rw[hz]; simp only[rr, tt, XN,da,ea,db,eb,di,ei,Bool.not_false,Bool.and_self]
theorem ZiO (i:In) (h1:1≤i.op) (h2:i.op≤53) (hc:KY i.op=5):Wr i (ZdE i) (VL i):=by
 obtain⟨x,xs,hn,hnf⟩:=JO i.op h1 h2
 obtain⟨hf,hff⟩:=JP i.op h1 h2
 rw[hc] at hf hff
 have hb:∀ y∈enL i ZB x xs (J4 5),ConOk Tryz.prog y.2.1 3 y.2.2.1∧FlatC y.2.2.1:=fun y hy=>by
  simp only[rr, tt, enL,List.mem_cons,List.not_mem_nil,or_false] at hy
  rcases hy with rfl|rfl
  ·exact⟨hn,hnf⟩
  ·exact⟨hf,hff⟩
 have hs:=fun {T:List (Nat×Bool)} {w e:Int} {q:Prop} (h:obs (evF Tryz.prog (Zz 3 (Zd (enL i ZB x xs [97,98])) Zk) Zh 100 20 70 [i.val] ⟨64,ZF ZB,[],0,T,0,True⟩)=some (.tuple ⟨[.int .u32 w,.int .i64 e]⟩,q)) (hq:q)=>(W7 (Zt (L:=100) Zg (Zs (Zj hb) (Zf _)) (Ze _) 20) rfl rfl rfl h hq:Wr i w e)
 have hm:XO i=Xw 5 i:=by unfold XO; rw[hc]
 by_cases la:i.a<(0:Int)
 ·have da:decide (i.a<(0:Int))=true:=decide_eq_true la
  refine Qv (hs (ZgR i x xs ZB) (by simp only[rr, tt, da,ZX,ZE,Zw,Bool.not_false,Bool.not_true,and_true,true_and,and_self])) ?_
  rw[hm]; simp only[rr, tt, Xw,XN,da,Bool.not_true,Bool.false_and,Bool.and_false]
 have da:decide (i.a<(0:Int))=false:=decide_eq_false la
 by_cases ka:i.a≥(16:Int)
 ·have ea:decide (i.a≥(16:Int))=true:=decide_eq_true ka
  refine Qv (hs (ZgS i x xs ZB) (by simp only[rr, tt, da,ea,ZX,ZE,Zw,Bool.not_false,Bool.not_true,and_true,true_and,and_self])) ?_
  rw[hm]; simp only[rr, tt, Xw,XN,ea,Bool.not_true,Bool.false_and,Bool.and_false]
 have ea:decide (i.a≥(16:Int))=false:=decide_eq_false ka
 by_cases lb:i.b<(0:Int)
 ·have db:decide (i.b<(0:Int))=true:=decide_eq_true lb
  refine Qv (hs (ZgT i x xs ZB) (by simp only[rr, tt, db,da,ea,ZX,ZE,Zw,Bool.not_false,Bool.not_true,and_true,true_and,and_self])) ?_
  rw[hm]; simp only[rr, tt, Xw,XN,db,Bool.not_true,Bool.false_and,Bool.and_false]
 have db:decide (i.b<(0:Int))=false:=decide_eq_false lb
 by_cases kb:i.b≥(16:Int)
 ·have eb:decide (i.b≥(16:Int))=true:=decide_eq_true kb
  refine Qv (hs (ZgU i x xs ZB) (by simp only[rr, tt, db,eb,da,ea,ZX,ZE,Zw,Bool.not_false,Bool.not_true,and_true,true_and,and_self])) ?_
  rw[hm]; simp only[rr, tt, Xw,XN,eb,Bool.not_true,Bool.false_and,Bool.and_false]
 have eb:decide (i.b≥(16:Int))=false:=decide_eq_false kb
 cases hz:(i.op==i.op&&(i.c==(0:Int)&&(i.m==(0:Int)&&(true))))
 ·refine Qv (hs (ZiJ i x xs ZB) (by simp only[rr, tt, hz,da,ea,db,eb,ZX,ZE,Zw,Bool.not_false,Bool.not_true,and_true,true_and,and_self])) ?_
  rw[hm]; simp only[rr, tt, Xw]; rw[hz]; simp only[rr, tt, Bool.and_false]
 ·refine VM (hs (ZiI i x xs ZB) (by simp only[rr, tt, hz,da,ea,db,eb,ZX,ZE,Zw,Bool.not_false,Bool.not_true,and_true,true_and,and_self])) hc ?_
  rw[hm]; simp only[rr, tt, Xw]; rw[hz]; simp only[rr, tt, XN,da,ea,db,eb,Bool.not_false,Bool.and_self]
theorem ZkG (i:In) (h1:1≤i.op) (h2:i.op≤53) (hc:KY i.op=6):Wr i (ZdE i) (VL i):=by
 obtain⟨x,xs,hn,hnf⟩:=JO i.op h1 h2
 obtain⟨hf,hff⟩:=JP i.op h1 h2
 rw[hc] at hf hff
 have hb:∀ y∈enL i ZB x xs (J4 6),ConOk Tryz.prog y.2.1 3 y.2.2.1∧FlatC y.2.2.1:=fun y hy=>by
  simp only[rr, tt, enL,List.mem_cons,List.not_mem_nil,or_false] at hy
  rcases hy with rfl|rfl
  ·exact⟨hn,hnf⟩
  ·exact⟨hf,hff⟩
 have hs:=fun {T:List (Nat×Bool)} {w e:Int} {q:Prop} (h:obs (evF Tryz.prog (Zz 3 (Zd (enL i ZB x xs [])) Zk) Zh 100 20 70 [i.val] ⟨64,ZF ZB,[],0,T,0,True⟩)=some (.tuple ⟨[.int .u32 w,.int .i64 e]⟩,q)) (hq:q)=>(W7 (Zt (L:=100) Zg (Zs (Zj hb) (Zf _)) (Ze _) 20) rfl rfl rfl h hq:Wr i w e)
 have hm:XO i=Xw 6 i:=by unfold XO; rw[hc]
 cases hz:(i.op==i.op&&(i.a==(0:Int)&&(i.b==(0:Int)&&(i.c==(0:Int)&&(i.m==(0:Int)&&(true))))))
 ·refine Qv (hs (ZkC i x xs ZB) (by simp only[rr, tt, hz,ZX,ZE,Zw,Bool.not_false,Bool.not_true,and_true,true_and,and_self])) ?_
  rw[hm]; simp only[rr, tt, Xw]; rw[hz]
 ·refine VM (hs (ZkB i x xs ZB) (by simp only[rr, tt, hz,ZX,ZE,Zw,Bool.not_false,Bool.not_true,and_true,true_and,and_self])) hc ?_
  rw[hm]; simp only[rr, tt, Xw]; rw[hz]
theorem ZkH (i:In) (h1:1≤i.op) (h2:i.op≤53) (hc:KY i.op=7):Wr i (ZdE i) (VL i):=by
 obtain⟨x,xs,hn,hnf⟩:=JO i.op h1 h2
 obtain⟨hf,hff⟩:=JP i.op h1 h2
 rw[hc] at hf hff
 have hb:∀ y∈enL i ZB x xs (J4 7),ConOk Tryz.prog y.2.1 3 y.2.2.1∧FlatC y.2.2.1:=fun y hy=>by
  simp only[rr, tt, enL,List.mem_cons,List.not_mem_nil,or_false] at hy
  rcases hy with rfl|rfl
  ·exact⟨hn,hnf⟩
  ·exact⟨hf,hff⟩
 have hs:=fun {T:List (Nat×Bool)} {w e:Int} {q:Prop} (h:obs (evF Tryz.prog (Zz 3 (Zd (enL i ZB x xs [105])) Zk) Zh 100 20 70 [i.val] ⟨64,ZF ZB,[],0,T,0,True⟩)=some (.tuple ⟨[.int .u32 w,.int .i64 e]⟩,q)) (hq:q)=>(W7 (Zt (L:=100) Zg (Zs (Zj hb) (Zf _)) (Ze _) 20) rfl rfl rfl h hq:Wr i w e)
 have hm:XO i=Xw 7 i:=by unfold XO; rw[hc]
 by_cases li:i.m<(-2048:Int)
 ·have di:decide (i.m<(-2048:Int))=true:=decide_eq_true li
  refine Qv (hs (ZiK i x xs ZB) (by simp only[rr, tt, di,ZX,ZE,Zw,Bool.not_false,Bool.not_true,and_true,true_and,and_self])) ?_
  rw[hm]; simp only[rr, tt, Xw,XN,di,Bool.not_true,Bool.false_and,Bool.and_false]
 have di:decide (i.m<(-2048:Int))=false:=decide_eq_false li
 by_cases ki:i.m≥(2048:Int)
 ·have ei:decide (i.m≥(2048:Int))=true:=decide_eq_true ki
  refine Qv (hs (ZiL i x xs ZB) (by simp only[rr, tt, di,ei,ZX,ZE,Zw,Bool.not_false,Bool.not_true,and_true,true_and,and_self])) ?_
  rw[hm]; simp only[rr, tt, Xw,XN,ei,Bool.not_true,Bool.false_and,Bool.and_false]
 have ei:decide (i.m≥(2048:Int))=false:=decide_eq_false ki
 cases hz:(i.op==i.op&&(i.a==(0:Int)&&(i.b==(0:Int)&&(i.c==(0:Int)&&(true)))))
 ·refine Qv (hs (ZkE i x xs ZB) (by simp only[rr, tt, hz,di,ei,ZX,ZE,Zw,Bool.not_false,Bool.not_true,and_true,true_and,and_self])) ?_
  rw[hm]; simp only[rr, tt, Xw]; rw[hz]; simp only[rr, tt, Bool.and_false]
 ·refine VM (hs (ZkD i x xs ZB) (by simp only[rr, tt, hz,di,ei,ZX,ZE,Zw,Bool.not_false,Bool.not_true,and_true,true_and,and_self])) hc ?_
  rw[hm]; simp only[rr, tt, Xw]; rw[hz]; simp only[rr, tt, XN,di,ei,Bool.not_false,Bool.and_self]
theorem Uq (op:Int) (h1:1≤op) (h2:op≤53):KY op=1∨KY op=2∨KY op=3∨KY op=4∨KY op=5∨KY op=6∨KY op=7:=by
 obtain⟨k,rfl⟩:=Int.eq_ofNat_of_zero_le (show 0≤op by omega)
 have hc:KY (k:Int)=Zfl.getD k 0:=by unfold KY; rw[if_pos ⟨h1,h2⟩,Int.toNat_natCast]
 rw[hc]
 have hk:∀ k:Fin 54,1≤k.val→Zfl.getD k.val 0=1∨Zfl.getD k.val 0=2∨Zfl.getD k.val 0=3∨Zfl.getD k.val 0=4∨Zfl.getD k.val 0=5∨Zfl.getD k.val 0=6∨Zfl.getD k.val 0=7:=by decide
 exact hk ⟨k,by omega⟩ (by show 1≤k; omega)
theorem ZiP (i:In):Wr i (ZdE i) (VL i):=by
 have hs:=fun {T:List (Nat×Bool)} {w e:Int} {q:Prop} (h:obs (evF Tryz.prog Zk Zh 100 20 70 [i.val] ⟨64,ZF ZB,[],0,T,0,True⟩)=some (.tuple ⟨[.int .u32 w,.int .i64 e]⟩,q)) (hq:q)=>(W7 (Zt (L:=100) Zg (Zf _) (Ze _) 20) rfl rfl rfl h hq:Wr i w e)
 have hno:∀ h:¬ (1≤i.op∧i.op≤53),XO i=false:=fun h=>by unfold XO KY; rw[if_neg h]; rfl
 by_cases l0:i.op<0
 ·have d0:decide (i.op<0)=true:=decide_eq_true l0
  exact Qv (hs (ZmO i ZB) (by simp only[rr, tt, d0,and_self])) (hno (by omega))
 have d0:decide (i.op<0)=false:=decide_eq_false l0
 by_cases l1:i.op>53
 ·have d1:decide (i.op>53)=true:=decide_eq_true l1
  exact Qv (hs (ZmP i ZB) (by simp only[rr, tt, d0,d1,and_self])) (hno (by omega))
 by_cases l2:i.op=0
 ·obtain⟨op,a,b,c,m⟩:=i
  simp only at l2
  subst l2
  exact Qv (hs (ZmN ⟨0,a,b,c,m⟩) (by simp only[rr, tt, and_self])) (hno (by show ¬ ((1:Int)≤0∧(0:Int)≤53); omega))
 have h1:1≤i.op:=by omega
 have h2:i.op≤53:=by omega
 rcases Uq i.op h1 h2 with h|h|h|h|h|h|h
 ·exact ZiM i h1 h2 h
 ·exact ZiN i h1 h2 h
 ·exact ZgV i h1 h2 h
 ·exact ZgW i h1 h2 h
 ·exact ZiO i h1 h2 h
 ·exact ZkG i h1 h2 h
 ·exact ZkH i h1 h2 h
theorem ZiQ (i:In):ConOk Tryz.prog 33 3 (gwC [i.val] ZB (.bool (XO i)))∧FlatC (gwC [i.val] ZB (.bool (XO i))):=by
 have hr:=ma_a i (ZdE i) (VL i) ZB
 have e:(VL i==(0:Int))=XO i:=by
  unfold VL
  cases XO i<;>rfl
 rw[e] at hr
 refine W7 (Zt (L:=100) Zg (Zs (Zj fun x hx => ?_) (Zf _)) (Ze _) 20) rfl rfl rfl hr ?_
 ·obtain rfl:=List.mem_singleton.1 hx
  exact ZiP i
 ·simp only[rr, tt, ZE,Zw,and_true,true_and,and_self]
theorem Zfn {i:In} (h:XO i=true):0≤i.a∧i.a<16∧0≤i.b∧i.b<16∧0≤i.c∧i.c<16∧1≤i.op∧i.op≤53:=by
 have h0:1≤i.op∧i.op≤53:=by
  by_cases hh:1≤i.op∧i.op≤53
  ·exact hh
  ·unfold XO KY at h; rw[if_neg hh] at h; cases h
 obtain⟨h1,h2⟩:=h0
 unfold XO at h
 rcases Uq i.op h1 h2 with e|e|e|e|e|e|e<;>rw[e] at h<;>simp only[rr, tt, Xw,XN,Bool.and_eq_true,Bool.not_eq_true',decide_eq_false_iff_not,beq_iff_eq] at h<;>omega
end Go.Proofs.YtagacmljbgkmoaaGreatDoor
