/-
  LoaderLoads: part 3 of the proof.
-/
import Derived.Below
import Derived.BigQuiet
import Derived.Calls
import Derived.Deep.AppendLies
import Derived.Deep.DrawnRows
import Derived.Deep.Draws
import Derived.Deep.QuietTactic
import Derived.Deep.RegionHeld3
import Derived.Deep.RegionWith
import Derived.IntWalk
import Derived.KernelRfl
import Derived.Laws.Bits64
import Derived.Laws.BitsAllLaws
import Derived.Laws.BytesArg
import Derived.Laws.Concat
import Derived.Laws.EntriesVeiled
import Derived.Laws.IdiomStrings
import Derived.Laws.OwnMore
import Derived.Laws.Rows
import Derived.Laws.Strings
import Derived.Laws.Strings2
import Derived.Laws.StructEq
import Derived.Lib.Hide
import Derived.Outline
import Derived.OwnWalk
import Derived.Test.YtliidiceljdgmaaGreatChecked
import Derived.Test.YtliidiceljdgmaaGreatProg
import Derived.Test.YtliidiceljdgmaaGreatQLoaderLoadsB
import Derived.Test.YtliidiceljdgmaaGreatRows
import Derived.WalkKit
import Derived.WalkLawsBesides
import Derived.WalkSpells
set_option linter.unusedSimpArgs false
set_option linter.unusedVariables false
set_option linter.unusedSectionVars false
namespace Go.Proofs.YtliidiceljdgmaaGreat
open Go.IntKind (u8 u16 u32 u64 i64)
open Go.RowKit
open Sy
set_option maxRecDepth 100000
theorem Zn:VH Tryz.prog=true:=by kernel_rfl
def z64 (n:Nat):List Value:=List.replicate n (.int .u64 0)
def mpH (m n:Nat):Sy.Heap:=[(66,⟨false,none,[.int .i64 (m:Nat),.slice (some ⟨65,0,none⟩) n (big+65)],none⟩),(65,⟨true,some (65,1),z64 n,none⟩)]
def mcI (x y:Int) (m n:Nat) (k:Int):Sf:=⟨68,[(0,.pointer (some ⟨66,0,none⟩)),(1,.int .i64 x),(2,.int .i64 y),(7,.int .i64 0),(8,.int .i64 k)],mpH m n,[(65,n)]⟩
def ZbX:WH:=fun f _ _=>bif Nat.beq f 104 then some (Con.pure [.int .u64 0] (.int .i64 0),[],True) else none
theorem ZmL (p:Int):evF Tryz.prog ZD Zf 100 40 10 [Value.int .i64 p] ⟨64,[],[],0,(tb 6 0),0,True⟩=some (Value.tuple { toList:=[Value.pointer (some ⟨67,0,none⟩),.int .i64 0] },{ n:=68,h:=[(67,⟨true,none,[Value.pointer (some ⟨66,0,none⟩),.slice (some ⟨64,0,none⟩) (i64.wrap (p*(256:Int))).toNat 9223372036854775872],none⟩),(66,⟨true,none,[Value.int .i64 (i64.wrap ((i64.wrap (p*(256:Int))).tdiv (16:Int))),.slice (some ⟨65,0,none⟩) (i64.wrap ((i64.wrap (i64.wrap (i64.wrap ((i64.wrap (p*(256:Int))).tdiv (16:Int))+(64:Int))-(1:Int))).tdiv (64:Int))).toNat 9223372036854775873],none⟩),(65,⟨true,some (65,1),K7 (i64.wrap ((i64.wrap (i64.wrap (i64.wrap ((i64.wrap (p*(256:Int))).tdiv (16:Int))+(64:Int))-(1:Int))).tdiv (64:Int))).toNat [Value.int .u64 0],none⟩),(64,⟨true,some (64,1),K7 (i64.wrap (p*(256:Int))).toNat [Value.int .u8 0],none⟩)],lo:=[(65,(i64.wrap ((i64.wrap (i64.wrap (i64.wrap ((i64.wrap (p*(256:Int))).tdiv (16:Int))+(64:Int))-(1:Int))).tdiv (64:Int))).toNat),(64,(i64.wrap (p*(256:Int))).toNat)],esc:=0,T:=[],k:=6,O:=bif decide ((0:Int)≤i64.wrap ((i64.wrap (i64.wrap (i64.wrap ((i64.wrap (p*(256:Int))).tdiv (16:Int))+(64:Int))-(1:Int))).tdiv (64:Int)))&&decide (i64.wrap ((i64.wrap (i64.wrap (i64.wrap ((i64.wrap (p*(256:Int))).tdiv (16:Int))+(64:Int))-(1:Int))).tdiv (64:Int))≤i64.wrap ((i64.wrap (i64.wrap (i64.wrap ((i64.wrap (p*(256:Int))).tdiv (16:Int))+(64:Int))-(1:Int))).tdiv (64:Int)))&&decide ((8:Int)*i64.wrap ((i64.wrap (i64.wrap (i64.wrap ((i64.wrap (p*(256:Int))).tdiv (16:Int))+(64:Int))-(1:Int))).tdiv (64:Int))≤(140737488355328:Int))&&decide (i64.wrap ((i64.wrap (i64.wrap (i64.wrap ((i64.wrap (p*(256:Int))).tdiv (16:Int))+(64:Int))-(1:Int))).tdiv (64:Int))<(9223372036854775808:Int)) then((((bif decide ((0:Int)≤i64.wrap (p*(256:Int)))&&decide (i64.wrap (p*(256:Int))≤i64.wrap (p*(256:Int)))&&decide ((1:Int)*i64.wrap (p*(256:Int))≤(140737488355328:Int))&&decide (i64.wrap (p*(256:Int))<(9223372036854775808:Int)) then(True∧decide (p<(16:Int))=false)∧decide (p>(1024:Int))=false else False)∧decide (i64.wrap ((i64.wrap (p*(256:Int))).tdiv (16:Int))<(0:Int))=false)∧decide (i64.wrap ((i64.wrap (p*(256:Int))).tdiv (16:Int))<(0:Int))=false)∧decide (i64.wrap ((i64.wrap (p*(256:Int))).tdiv (16:Int))<(0:Int))=false)∧decide (i64.wrap ((i64.wrap (p*(256:Int))).tdiv (16:Int))>(1048576:Int))=false else False:St }):=by kernel_rfl
theorem cl_a (x:Int) (y:Int) (m:Nat) (n:Nat) (k:Int):evC Tryz.prog (evF Tryz.prog (ZH 3 ZbX) Zf 100 5) (Zf 78) 56 100 (ZB Tryz.prog 78 0) (Sf.frT 56 (mcI x y m n k) [(0,true),(1,false)])=some (Exit.normal,{ e:=[[Value.pointer (some ⟨66,0,none⟩),.int .i64 x,.int .i64 y,unk,unk,unk,unk,.int .i64 0,.int .i64 (i64.wrap (k+(1:Int))),.int .u64 (u64.wrap (Int.fdiv (18446744073709551615:Int) ((2:Int)^min (i64.wrap ((64:Int)-i64.wrap ((if(64:Int)<i64.wrap (y-i64.wrap (k*(64:Int))) then(64:Int) else i64.wrap (y-i64.wrap (k*(64:Int))))-if(0:Int)>i64.wrap (x-i64.wrap (k*(64:Int))) then(0:Int) else i64.wrap (x-i64.wrap (k*(64:Int)))))).toNat 64)*(2:Int)^min (if(0:Int)>i64.wrap (x-i64.wrap (k*(64:Int))) then(0:Int) else i64.wrap (x-i64.wrap (k*(64:Int)))).toNat 64)),unk,unk,unk,unk,unk,unk],[unk,unk,unk,unk,unk,unk,.int .i64 k,.int .i64 (i64.wrap (k*(64:Int))),.int .i64 y,.bool (decide (i64.wrap (k*(64:Int))<y)),.int .i64 k,.int .i64 (i64.wrap (k+(1:Int))),.pointer (some ⟨66,0,none⟩),.int .i64 k,.int .i64 x,.int .i64 y],[Value.int .u64 (u64.wrap (Int.fdiv (18446744073709551615:Int) ((2:Int)^min (i64.wrap ((64:Int)-i64.wrap ((if(64:Int)<i64.wrap (y-i64.wrap (k*(64:Int))) then(64:Int) else i64.wrap (y-i64.wrap (k*(64:Int))))-if(0:Int)>i64.wrap (x-i64.wrap (k*(64:Int))) then(0:Int) else i64.wrap (x-i64.wrap (k*(64:Int)))))).toNat 64)*(2:Int)^min (if(0:Int)>i64.wrap (x-i64.wrap (k*(64:Int))) then(0:Int) else i64.wrap (x-i64.wrap (k*(64:Int)))).toNat 64)),.int .i64 0,.pointer (some ⟨66,0,none⟩),.pointer (some ⟨66,0,none⟩),.pointer (some { block:=66,off:=1 }),.slice (some ⟨65,0,none⟩) n 9223372036854775873,.int .i64 k,.pointer (some { block:=65,off:=0+k.toNat*1 }),.int .u64 (Zb (Zd undef (z64 n) (0+k.toNat*1))),.int .u64 (u64.wrap (Int.fdiv (18446744073709551615:Int) ((2:Int)^min (i64.wrap ((64:Int)-i64.wrap ((if(64:Int)<i64.wrap (y-i64.wrap (k*(64:Int))) then(64:Int) else i64.wrap (y-i64.wrap (k*(64:Int))))-if(0:Int)>i64.wrap (x-i64.wrap (k*(64:Int))) then(0:Int) else i64.wrap (x-i64.wrap (k*(64:Int)))))).toNat 64)*(2:Int)^min (if(0:Int)>i64.wrap (x-i64.wrap (k*(64:Int))) then(0:Int) else i64.wrap (x-i64.wrap (k*(64:Int)))).toNat 64)),.int .u64 (bits BinOp.and u64 (Zb (Zd undef (z64 n) (0+k.toNat*1))) (u64.wrap (Int.fdiv (18446744073709551615:Int) ((2:Int)^min (i64.wrap ((64:Int)-i64.wrap ((if(64:Int)<i64.wrap (y-i64.wrap (k*(64:Int))) then(64:Int) else i64.wrap (y-i64.wrap (k*(64:Int))))-if(0:Int)>i64.wrap (x-i64.wrap (k*(64:Int))) then(0:Int) else i64.wrap (x-i64.wrap (k*(64:Int)))))).toNat 64)*(2:Int)^min (if(0:Int)>i64.wrap (x-i64.wrap (k*(64:Int))) then(0:Int) else i64.wrap (x-i64.wrap (k*(64:Int)))).toNat 64))),.int .i64 0,.int .i64 0,.pointer (some ⟨66,0,none⟩),.pointer (some ⟨66,0,none⟩),.pointer (some { block:=66,off:=1 })],[Value.slice (some ⟨65,0,none⟩) n 9223372036854775873,.int .i64 k,.pointer (some { block:=65,off:=0+k.toNat*1 }),.int .u64 (Zb (Zd undef (z64 n) (0+k.toNat*1))),.int .u64 (u64.wrap (Int.fdiv (18446744073709551615:Int) ((2:Int)^min (i64.wrap ((64:Int)-i64.wrap ((if(64:Int)<i64.wrap (y-i64.wrap (k*(64:Int))) then(64:Int) else i64.wrap (y-i64.wrap (k*(64:Int))))-if(0:Int)>i64.wrap (x-i64.wrap (k*(64:Int))) then(0:Int) else i64.wrap (x-i64.wrap (k*(64:Int)))))).toNat 64)*(2:Int)^min (if(0:Int)>i64.wrap (x-i64.wrap (k*(64:Int))) then(0:Int) else i64.wrap (x-i64.wrap (k*(64:Int)))).toNat 64)),.int .u64 (bits BinOp.andNot u64 (Zb (Zd undef (z64 n) (0+k.toNat*1))) (u64.wrap (Int.fdiv (18446744073709551615:Int) ((2:Int)^min (i64.wrap ((64:Int)-i64.wrap ((if(64:Int)<i64.wrap (y-i64.wrap (k*(64:Int))) then(64:Int) else i64.wrap (y-i64.wrap (k*(64:Int))))-if(0:Int)>i64.wrap (x-i64.wrap (k*(64:Int))) then(0:Int) else i64.wrap (x-i64.wrap (k*(64:Int)))))).toNat 64)*(2:Int)^min (if(0:Int)>i64.wrap (x-i64.wrap (k*(64:Int))) then(0:Int) else i64.wrap (x-i64.wrap (k*(64:Int)))).toNat 64))),.pointer (some { block:=65,off:=0+k.toNat*1 }),unk,unk,unk,unk,unk,unk,unk,unk,unk]],s:={ n:=68,h:=[(66,⟨false,none,[Value.int .i64 (↑m),.slice (some ⟨65,0,none⟩) n 9223372036854775873],none⟩),(65,⟨true,some (65,1),QL (0+k.toNat*1) [Value.int .u64 (bits BinOp.andNot u64 (Zb (Zd undef (z64 n) (0+k.toNat*1))) (u64.wrap (Int.fdiv (18446744073709551615:Int) ((2:Int)^min (i64.wrap ((64:Int)-i64.wrap ((if(64:Int)<i64.wrap (y-i64.wrap (k*(64:Int))) then(64:Int) else i64.wrap (y-i64.wrap (k*(64:Int))))-if(0:Int)>i64.wrap (x-i64.wrap (k*(64:Int))) then(0:Int) else i64.wrap (x-i64.wrap (k*(64:Int)))))).toNat 64)*(2:Int)^min (if(0:Int)>i64.wrap (x-i64.wrap (k*(64:Int))) then(0:Int) else i64.wrap (x-i64.wrap (k*(64:Int)))).toNat 64)))] (z64 n),none⟩)],lo:=[(65,n)],esc:=0,T:=[],k:=2,O:=bif Qc (0+k.toNat*1+1) (z64 n)&&true&&true then bif decide ((0:Int)≤k)&&decide (k<(↑n:Int)) then bif Qc (0+k.toNat*1+1) (z64 n)&&Zs [Value.int .u64 0] (z64 n) (0+k.toNat*1) then bif decide ((0:Int)≤k)&&decide (k<(↑n:Int)) then(bif Qc (0+k.toNat*1+1) (z64 n)&&Zs [Value.int .u64 0] (z64 n) (0+k.toNat*1) then bif decide ((0:Int)≤k)&&decide (k<(↑n:Int)) then bif decide ((0:Int)≤if(0:Int)>i64.wrap (x-i64.wrap (k*(64:Int))) then(0:Int) else i64.wrap (x-i64.wrap (k*(64:Int)))) then bif decide ((0:Int)≤i64.wrap ((64:Int)-i64.wrap ((if(64:Int)<i64.wrap (y-i64.wrap (k*(64:Int))) then(64:Int) else i64.wrap (y-i64.wrap (k*(64:Int))))-if(0:Int)>i64.wrap (x-i64.wrap (k*(64:Int))) then(0:Int) else i64.wrap (x-i64.wrap (k*(64:Int)))))) then(True∧decide (i64.wrap (k*(64:Int))<y)=true)∧decide ((if(0:Int)>i64.wrap (x-i64.wrap (k*(64:Int))) then(0:Int) else i64.wrap (x-i64.wrap (k*(64:Int))))≥if(64:Int)<i64.wrap (y-i64.wrap (k*(64:Int))) then(64:Int) else i64.wrap (y-i64.wrap (k*(64:Int))))=false else False else False else False else False)∧True∧(Value.int .u64 (bits BinOp.and u64 (Zb (Zd undef (z64 n) (0+k.toNat*1))) (u64.wrap (Int.fdiv (18446744073709551615:Int) ((2:Int)^min (i64.wrap ((64:Int)-i64.wrap ((if(64:Int)<i64.wrap (y-i64.wrap (k*(64:Int))) then(64:Int) else i64.wrap (y-i64.wrap (k*(64:Int))))-if(0:Int)>i64.wrap (x-i64.wrap (k*(64:Int))) then(0:Int) else i64.wrap (x-i64.wrap (k*(64:Int)))))).toNat 64)*(2:Int)^min (if(0:Int)>i64.wrap (x-i64.wrap (k*(64:Int))) then(0:Int) else i64.wrap (x-i64.wrap (k*(64:Int)))).toNat 64)))=Value.int .u64 0∧True)∧True∧True else False else False else False else False:St }:Fr }):=by kernel_rfl
theorem cl_e (x:Int) (y:Int) (m:Nat) (n:Nat) (k:Int):evC Tryz.prog (evF Tryz.prog (ZH 3 ZbX) Zf 100 5) (Zf 78) 56 100 (ZB Tryz.prog 78 0) (Sf.frT 56 (mcI x y m n k) [(0,false)])=some (Exit.exit 0,{ e:=mkE 56 [(0,Value.pointer (some ⟨66,0,none⟩)),(1,.int .i64 x),(2,.int .i64 y),(7,.int .i64 0),(8,.int .i64 k),(22,.int .i64 k),(23,.int .i64 (i64.wrap (k*(64:Int)))),(24,.int .i64 y),(25,.bool (decide (i64.wrap (k*(64:Int))<y)))],s:={ n:=68,h:=[(66,⟨false,none,[Value.int .i64 (↑m),.slice (some ⟨65,0,none⟩) n 9223372036854775873],none⟩),(65,⟨true,some (65,1),z64 n,none⟩)],lo:=[(65,n)],esc:=0,T:=[],k:=1,O:=True∧decide (i64.wrap (k*(64:Int))<y)=false:St }:Fr }):=by kernel_rfl
theorem ZcO (v:Value):∀ (n i:Nat),i<n→Zd undef (List.replicate n v) i=v
 | 0,_,h=>by omega
 | n+1,0,_=>rfl
 | n+1,i+1,h=>ZcO v n i (by omega)
theorem ZdR (v:Value):∀ (n i:Nat),i<n→QL i [v] (List.replicate n v)=List.replicate n v
 | 0,_,h=>by omega
 | 0+1,0,_=>rfl
 | n+1+1,0,_=>by simp only[rr, tt, List.replicate_succ,QL]
 | n+1,i+1,h=>by
  have:=ZdR v n i (by omega)
  simp only[rr, tt, List.replicate_succ,QL,this]
theorem ZmM (n i:Nat) (h:i<n):Zb (Zd undef (z64 n) i)=0:=by
 unfold z64; rw[ZcO _ n i h]; rfl
theorem ZkQ (n i:Nat) (h:i<n):QL i [.int .u64 0] (z64 n)=z64 n:=ZdR _ n i h
theorem ZkR (n k:Nat):Qc k (z64 n)=decide (k≤n):=by
 rw[Bool.eq_iff_iff,QM]; simp[z64]
theorem Zig (n i:Nat) (h:i<n):Zs [.int .u64 0] (z64 n) i=true:=by
 simp only[rr, tt, Zs,Bool.and_true]
 unfold z64
 rw[ZcO _ n i h]; rfl
theorem Qu (n:Nat):∀ v∈z64 n,ZP v=true:=fun v hv=>by rw[(List.mem_replicate.1 hv).2]; rfl
theorem and0 (w:Int):bits .and .u64 (0:Int) w=0:=by
 show u64.wrap ((BitVec.ofInt 64 0&&&BitVec.ofInt 64 w).toNat:Int)=0
 simp
 rfl
theorem Zoz (w:Int):bits .andNot .u64 (0:Int) w=0:=by
 show u64.wrap ((BitVec.ofInt 64 0 &&& ~~~ BitVec.ofInt 64 w).toNat:Int)=0
 simp
 rfl
theorem ZkS:obs (evF Tryz.prog ZD Zf 100 5 104 [.int .u64 0] (stT []))=some (.int .i64 0,True):=by kernel_rfl
theorem ZkT:ConOk Tryz.prog 104 3 (Con.pure [.int .u64 0] (.int .i64 0)) :=
 WD (d:=1) (Zu (L:=100) Zn (Zx _) (Zj _) 5) ZkS trivial rfl rfl
theorem ZbY:YN Tryz.prog 3 ZbX:=by
 intro f args s c ρ q h hq
 unfold ZbX at h
 obtain⟨h2,h3⟩:=ZL h
 have h2:=eB h2
 subst h2
 cases h3
 exact ZkT
def mcF (n:Nat):Sf:=⟨68,[(7,.int .i64 0)],[(65,⟨true,some (65,1),z64 n,none⟩)],[(65,n)]⟩
theorem ZmN (x y:Int) (m n:Nat) (k:Int):(mcI x y m n k).Wf :=
 ⟨by show 64≤68; omega,⟨⟨rfl,rfl,fun v hv=>ZM 3 v (List.all_eq_true.1 (show([.int .i64 (m:Nat),.slice (some ⟨65,0,none⟩) n (big+65)]:List Value).all (okV (fun l=>Nat.blt l 68) 3)=true from by kernel_rfl) v hv)⟩,⟨rfl,rfl,Zv (Qu n)⟩,trivial⟩,rfl,fun x hx=>ZM 3 _ (by
  simp only[rr, tt, mcI,List.mem_cons,List.not_mem_nil,or_false] at hx
  rcases hx with rfl|rfl|rfl|rfl|rfl<;>rfl)⟩
theorem ZjH (n:Nat):(mcF n).Ok (Z3 68 68 id (fun l=>Nat.blt l 68)) :=
 ⟨⟨⟨rfl,rfl,Zv (Qu n)⟩,trivial⟩,rfl,fun x hx=>ZM 3 _ (by
  simp only[rr, tt, mcF,List.mem_cons,List.not_mem_nil,or_false] at hx
  rcases hx with rfl; rfl)⟩
def Zf8 (x y:Int) (m n:Nat):Prop:=0≤x∧x<y∧y≤m∧m≤64*n∧n≤100000
theorem ZkU (x y:Int) (m n:Nat) (h:Zf8 x y m n):∀ k:{ k:Nat // x<64*k+64∧k≤n },Qj Tryz.prog 56 (ZB Tryz.prog 78 0) ((mcI x y m n (k.1:Int)).fr 56) (.exit 0) ((mcF n).fr 56):=by
 obtain⟨h1,h2,h3,h4,h5⟩:=h
 refine Yc (L:=100) (Zu (L:=100) Zn (Z1 ZbY) (Zj _) 5) (ZU _ _ 78) (fun _ h=>h) (X:={ k:Nat // x<64*k+64∧k≤n }) (fun k=>mcI x y m n (k.1:Int)) (fun _=>mcF n) (fun _ => .exit 0) (fun k=>100000-k.1) (fun k=>ZmN x y m n _) ?_
 rintro⟨k,hk,hkn⟩
 by_cases hc:(k:Int)*64<y
 ·have hr:=cl_a x y m n (k:Int)
  have w1:i64.wrap ((k:Int)*(64:Int))=(k:Int)*64:=wrap_i64 (by omega) (by omega)
  have w2:i64.wrap ((k:Int)+(1:Int))=((k+1:Nat):Int):=ZQ k (by omega)
  have w3:i64.wrap (y-(k:Int)*64)=y-(k:Int)*64:=wrap_i64 (by omega) (by omega)
  have w4:i64.wrap (x-(k:Int)*64)=x-(k:Int)*64:=wrap_i64 (by omega) (by omega)
  obtain⟨hi,hH⟩:∃ hi,(if(64:Int)<y-(k:Int)*64 then(64:Int) else y-(k:Int)*64)=hi:=⟨_,rfl⟩
  obtain⟨lo,hL⟩:∃ lo,(if(0:Int)>x-(k:Int)*64 then(0:Int) else x-(k:Int)*64)=lo:=⟨_,rfl⟩
  have hb:0≤lo∧lo<hi∧hi≤64:=by
   rw[← hH,← hL]
   split<;>split<;>omega
  have w5:i64.wrap (hi-lo)=hi-lo:=wrap_i64 (by omega) (by omega)
  have w6:i64.wrap ((64:Int)-(hi-lo))=64-(hi-lo):=wrap_i64 (by omega) (by omega)
  simp(disch:=omega) only[rr, tt, w1,w2,w3,w4,hH,hL,w5,w6,Int.toNat_natCast,Nat.zero_add,Nat.mul_one,ZmM,and0,Zoz,ZkQ] at hr
  refine⟨_,.normal,_,3,fun l=>Nat.blt l 68,id,hr,?_,.inl ⟨rfl,⟨k+1,by omega,by omega⟩,by show 100000-(k+1)<100000-k; omega,rfl,rfl,?_⟩⟩
  ·simp(disch:=omega) only[rr, tt, ZkR,Zig,decide_eq_true,decide_eq_false,Bool.and_self,cond_true,and_self,ge_iff_le]
  ·refine⟨fun _ _=>rfl,⟨⟨rfl,by kernel_rfl,rfl,rfl,rfl,trivial,by kernel_rfl⟩,⟨rfl,Zh (Qu n),rfl,rfl,rfl,trivial,(Zi (Qu n)).symm⟩,trivial⟩,rfl,⟨⟨rfl,Nat.le_refl _⟩,trivial⟩,⟨⟨by kernel_rfl,by kernel_rfl⟩,⟨by kernel_rfl,by kernel_rfl⟩,⟨by kernel_rfl,by kernel_rfl⟩,⟨by kernel_rfl,by kernel_rfl⟩,⟨by kernel_rfl,by kernel_rfl⟩,trivial⟩,Nat.le_refl _,fun l hl=>ZN hl,ZjH n,fun x _ _ => .inl rfl⟩
 ·have hr:=cl_e x y m n (k:Int)
  have w1:i64.wrap ((k:Int)*(64:Int))=(k:Int)*64:=wrap_i64 (by omega) (by omega)
  simp only[rr, tt, w1] at hr
  refine⟨_,.exit 0,_,3,fun l=>Nat.blt l 68,id,hr,?_,.inr ⟨by simp,rfl,?_⟩⟩
  ·exact⟨trivial,decide_eq_false hc⟩
  ·exact⟨fun _ _=>rfl,⟨⟨rfl,Zh (Qu n),rfl,rfl,rfl,trivial,(Zi (Qu n)).symm⟩,trivial⟩,rfl,⟨⟨rfl,Nat.le_refl _⟩,trivial⟩,⟨⟨by kernel_rfl,by kernel_rfl⟩,trivial⟩,Nat.le_refl _,fun l hl=>ZN hl,ZjH n,fun x _ _ => .inl rfl⟩
def ZoA (x y:Int) (m n:Nat) (h:Zf8 x y m n):Ent Tryz.prog :=
 Vl Tryz.prog 78 0 56 (mcI x y m n ((x.toNat/64:Nat):Int)) (.exit 0) (mcF n) (by kernel_rfl) (by kernel_rfl) (ZkU x y m n h ⟨x.toNat/64,by obtain⟨h1,h2,h3,h4,h5⟩:=h; omega,by obtain⟨h1,h2,h3,h4,h5⟩:=h; omega⟩)
theorem cl_c (x y:Int) (m n:Nat) (h:Zf8 x y m n):evF Tryz.prog (ZH 3 ZbX) (YD [ZoA x y m n h]) 100 40 78 [Value.pointer (some ⟨66,0,none⟩),.int .i64 x,.int .i64 y] ⟨68,mpH m n,[(65,n)],0,[(0,false),(1,false)],0,True⟩=some (Value.int .i64 0,{ n:=68,h:=[(65,⟨true,some (65,1),z64 n,none⟩),(66,⟨false,none,[Value.int .i64 (↑m),.slice (some ⟨65,0,none⟩) n 9223372036854775873],none⟩)],lo:=[(65,n),(65,n)],esc:=0,T:=[],k:=2,O:=((True∧rr false)∧decide ((if(0:Int)>x then(0:Int) else x)≥if(↑m:Int)<y then(↑m:Int) else y)=false)∧(rr (Value.pointer (some ⟨66,0,none⟩))∧Value.int .i64 (if(0:Int)>x then(0:Int) else x)=Value.int .i64 x∧Value.int .i64 (if(↑m:Int)<y then(↑m:Int) else y)=Value.int .i64 y∧rr (Value.int .i64 0)∧Value.int .i64 (i64.wrap ((if(0:Int)>x then(0:Int) else x).tdiv (64:Int)))=Value.int .i64 (↑(x.toNat/64))∧True)∧((tt∧tt∧True∧rr [Value.int .i64 (↑m),.slice (some ⟨65,0,none⟩) n 9223372036854775873])∧(tt∧tt∧True∧rr (z64 n))∧True)∧(n≤n∧True)∧True:St }):=by kernel_rfl
def clzC (x y:Int) (m n:Nat):Con:=⟨[.pointer (some ⟨66,0,none⟩),.int .i64 x,.int .i64 y],68,mpH m n,[(65,n)],.int .i64 0,68,[(65,⟨true,some (65,1),z64 n,none⟩)],[]⟩
theorem Zf9 {q:Nat→Bool} (h:∀ l,l<68→q l=true) (m n:Nat):∀ v∈([.int .i64 (m:Nat),.slice (some ⟨65,0,none⟩) n (big+65)]:List Value),okV q 3 v=true:=by
 intro v hv
 have h5:=h 65 (by omega)
 simp only[rr, tt, List.mem_cons,List.not_mem_nil,or_false] at hv
 rcases hv with rfl|rfl<;>simp[okV,QP,h5,ZP]
theorem ZaF:∀ l,l<68→(fun l=>Nat.blt l 68) l=true:=fun l hl=>Zt hl
theorem Zga (l:Nat) (h:l<68):Z3 68 68 id (fun l=>Nat.blt l 68) l=true:=by
 unfold Z3
 simp only[rr, tt, Zt h,cond_true,id,Nat.beq_refl,Bool.and_self,Bool.or_true]
theorem ZkV (x y:Int) (m n:Nat) (h:Zf8 x y m n):ConOk Tryz.prog 78 3 (clzC x y m n):=by
 have h':=h
 obtain⟨h1,h2,h3,h4,h5⟩:=h'
 have hr:=cl_c x y m n h
 have e1:(if(0:Int)>x then(0:Int) else x)=x:=if_neg (by omega)
 have e2:(if(m:Int)<y then(m:Int) else y)=y:=if_neg (by omega)
 have e3:i64.wrap (x.tdiv (64:Int))=((x.toNat/64:Nat):Int):=by
  obtain⟨z,rfl⟩:=Int.eq_ofNat_of_zero_le h1
  rw[show(z:Int).tdiv (64:Int)=((z/64:Nat):Int) from(Int.ofNat_tdiv z 64).symm,wrap_i64 (by omega) (by omega)]
  rfl
 simp only[rr, tt, e1,e2,e3] at hr
 refine ZF (Zu (L:=100) Zn (Z1 ZbY) (Z5 _) 40) ⟨by show 64≤68; omega,Nat.le_refl _,⟨⟨rfl,rfl,fun v hv=>ZM 3 v (Zf9 ZaF m n v hv)⟩,⟨rfl,rfl,Zv (Qu n)⟩,trivial⟩,rfl,rfl,rfl,rfl,rfl,fun x hx v hv => ?_⟩ hr ?_ (p:=fun l=>Nat.blt l 68) (σ:=id) ?_
 ·obtain rfl:=List.mem_singleton.1 hx
  exact ZS (Qu n v hv) 3
 ·simp only[rr, tt, and_true,true_and,and_self,Nat.le_refl]
  exact decide_eq_false (by omega)
 ·exact⟨fun _ _=>rfl,⟨⟨rfl,Zh (Qu n),rfl,rfl,rfl,trivial,(Zi (Qu n)).symm⟩,trivial⟩,rfl,trivial,⟨rfl,by rw[Yd]; rfl⟩,rfl,⟨⟨rfl,rfl,Zv (Qu n)⟩,trivial⟩,rfl,Zz _ rfl,fun x _ _ => .inl rfl⟩
def leW:Nat→Nat→List UInt8
 | 0,_=>[]
 | w+1,n=>UInt8.ofNat (n%256)::leW w (n/256)
def putZ (w v:Int):Con:=Con.pure [.string ⟨⟨[]⟩⟩,.int .i64 w,.int .u32 v] (.string ⟨⟨leW w.toNat v.toNat⟩⟩)
def ZjI (w v:Int):Prop:=w=4∧0≤v∧v<4294967296
def Zgb (m n:Nat):WH:=fun f args _=>bif Nat.beq f 43 then
 match args with
 | [_,.int .i64 w,.int .u32 v]=>some (putZ w v,[],ZjI w v)
 | _=>none
 else bif Nat.beq f 78 then
 match args with
 | [_,.int .i64 x,.int .i64 y]=>some (clzC x y m n,[64,65,66,67],Zf8 x y m n)
 | _=>none
 else none
def arL (rw:Bool) (zs:List UInt8) (N m n:Nat):Sy.Heap:=[(67,⟨rw,none,[.pointer (some ⟨66,0,none⟩),.slice (some ⟨64,0,none⟩) N (big+64)],none⟩),(66,⟨rw,none,[.int .i64 (m:Nat),.slice (some ⟨65,0,none⟩) n (big+65)],none⟩),(65,⟨rw,some (65,1),z64 n,none⟩),(64,⟨rw,some (64,1),u8s zs,none⟩)]
def arO (N n:Nat):List (Nat×Nat):=[(65,n),(64,N)]
theorem ZoB (at_ v:Int) (zs:List UInt8) (N m n:Nat):evF Tryz.prog (ZH 3 (Zgb m n)) Zf 100 40 11 [Value.pointer (some ⟨67,0,none⟩),.int .u32 at_,.int .i64 4,.int .u32 v] ⟨68,arL true zs N m n,arO N n,0,(tb 32 3758096257),0,True⟩=some (Value.bool true,{ n:=70,h:=[(65,⟨true,some (65,1),List.map (rnV (lift 68 70 [64,65,66,67]) 3) (z64 n),none⟩),(67,⟨true,none,[Value.pointer (some ⟨66,0,none⟩),.slice (some ⟨64,0,none⟩) N 9223372036854775872],none⟩),(66,⟨true,none,[Value.int .i64 (↑m),.slice (some ⟨65,0,none⟩) n 9223372036854775873],none⟩),(64,⟨true,some (64,1),QL (0+at_.toNat*1) (List.take (Nat.min 4 (N-at_.toNat)*1) [Value.int .u8 (↑(UInt8.ofNat (v.toNat%256)).toNat:Int),.int .u8 (↑(UInt8.ofNat (v.toNat/256%256)).toNat:Int),.int .u8 (↑(UInt8.ofNat (v.toNat/256/256%256)).toNat:Int),.int .u8 (↑(UInt8.ofNat (v.toNat/256/256/256%256)).toNat:Int)]) (u8s zs),none⟩)],lo:=[(69,N-at_.toNat),(68,4),(65,n),(64,N)],esc:=0,T:=[],k:=32,O:=((bif Qc (0+at_.toNat*1+Zr (List.take (Nat.min 4 (N-at_.toNat)*1) [Value.int .u8 (↑(UInt8.ofNat (v.toNat%256)).toNat:Int),.int .u8 (↑(UInt8.ofNat (v.toNat/256%256)).toNat:Int),.int .u8 (↑(UInt8.ofNat (v.toNat/256/256%256)).toNat:Int),.int .u8 (↑(UInt8.ofNat (v.toNat/256/256/256%256)).toNat:Int)])) (u8s zs)&&UE (List.take (Nat.min 4 (N-at_.toNat)*1) [Value.int .u8 (↑(UInt8.ofNat (v.toNat%256)).toNat:Int),.int .u8 (↑(UInt8.ofNat (v.toNat/256%256)).toNat:Int),.int .u8 (↑(UInt8.ofNat (v.toNat/256/256%256)).toNat:Int),.int .u8 (↑(UInt8.ofNat (v.toNat/256/256/256%256)).toNat:Int)])&&(List.take (Nat.min 4 (N-at_.toNat)*1) [Value.int .u8 (↑(UInt8.ofNat (v.toNat%256)).toNat:Int),.int .u8 (↑(UInt8.ofNat (v.toNat/256%256)).toNat:Int),.int .u8 (↑(UInt8.ofNat (v.toNat/256/256%256)).toNat:Int),.int .u8 (↑(UInt8.ofNat (v.toNat/256/256/256%256)).toNat:Int)]).all ZP then bif (Zr (List.take (Nat.min 4 (N-at_.toNat)*1) [Value.int .u8 (↑(UInt8.ofNat (v.toNat%256)).toNat:Int),.int .u8 (↑(UInt8.ofNat (v.toNat/256%256)).toNat:Int),.int .u8 (↑(UInt8.ofNat (v.toNat/256/256%256)).toNat:Int),.int .u8 (↑(UInt8.ofNat (v.toNat/256/256/256%256)).toNat:Int)])).beq (Nat.min 4 (N-at_.toNat)*1) then bif Qc (0+Nat.min 4 (N-at_.toNat)*1) [Value.int .u8 (↑(UInt8.ofNat (v.toNat%256)).toNat:Int),.int .u8 (↑(UInt8.ofNat (v.toNat/256%256)).toNat:Int),.int .u8 (↑(UInt8.ofNat (v.toNat/256/256%256)).toNat:Int),.int .u8 (↑(UInt8.ofNat (v.toNat/256/256/256%256)).toNat:Int)] then(bif decide ((0:Int)≤at_)&&decide (at_≤(↑N:Int)) then((((((((((((((((((((((((((((((True∧(rr ((4:Int))∧(0:Int)≤v∧v<(4294967296:Int))∧(Value.string { data:=#[]:ByteArray }=Value.string ⟨⟨[]⟩⟩∧rr (Value.int .i64 4)∧rr (Value.int .u32 v)∧True)∧True∧True)∧tt)∧rr false)∧rr false)∧rr false)∧rr false)∧rr false)∧rr false)∧tt)∧tt)∧tt)∧tt)∧tt)∧tt)∧tt)∧tt)∧tt)∧tt)∧tt)∧decide ((4:Int)≤(↑N:Int))=true)∧decide ((4:Int)≤(↑N:Int))=true)∧decide ((4:Int)≤(↑N:Int))=true)∧decide ((4:Int)≤(↑N:Int))=true)∧decide ((4:Int)≤(↑N:Int))=true)∧decide ((4:Int)≤(↑N:Int))=true)∧decide ((4:Int)≤(↑N:Int))=true)∧decide ((4:Int)≤(↑N:Int))=true)∧decide ((4:Int)≤(↑N:Int))=true)∧decide ((4:Int)≤(↑N:Int))=true)∧decide ((4:Int)≤(↑N:Int))=true)∧(!decide (i64.wrap at_≤i64.wrap ((↑N:Int)-(4:Int))))=false else False)∧at_.toNat.blt N=true else False else False else False)∧tt)∧((0:Int)≤i64.wrap ((i64.wrap at_).tdiv (16:Int))∧i64.wrap ((i64.wrap at_).tdiv (16:Int))<i64.wrap (i64.wrap ((i64.wrap (i64.wrap (i64.wrap at_+(4:Int))-(1:Int))).tdiv (16:Int))+(1:Int))∧i64.wrap (i64.wrap ((i64.wrap (i64.wrap (i64.wrap at_+(4:Int))-(1:Int))).tdiv (16:Int))+(1:Int))≤(↑m:Int)∧m≤64*n∧n≤100000)∧(rr (Value.pointer (some ⟨66,0,none⟩))∧rr (Value.int .i64 (i64.wrap ((i64.wrap at_).tdiv (16:Int))))∧rr (Value.int .i64 (i64.wrap (i64.wrap ((i64.wrap (i64.wrap (i64.wrap at_+(4:Int))-(1:Int))).tdiv (16:Int))+(1:Int))))∧True)∧((tt∧tt∧tt∧tt∧tt∧True∧rr [Value.int .i64 (↑m),.slice (some ⟨65,0,none⟩) n 9223372036854775873])∧(tt∧(z64 n).all (okV (fun l=>l.blt 68) 3)=true∧tt∧tt∧tt∧True∧z64 n=List.map (rnV (lift 68 70 [64,65,66,67]) 3) (z64 n))∧True)∧(tt∧n≤n)∧True:St }):=by kernel_rfl
theorem ZoC (at_:Int) (d zs:List UInt8) (N m n:Nat):evF Tryz.prog (ZH 3 (Zgb m n)) Zf 100 40 12 [Value.pointer (some ⟨67,0,none⟩),.int .u32 at_,.string ⟨⟨d⟩⟩] ⟨68,arL true zs N m n,arO N n,0,(tb 31 1879048128),0,True⟩=some (Value.bool true,{ n:=70,h:=[(65,⟨true,some (65,1),List.map (rnV (lift 68 70 [64,65,66,67]) 3) (z64 n),none⟩),(67,⟨true,none,[Value.pointer (some ⟨66,0,none⟩),.slice (some ⟨64,0,none⟩) N 9223372036854775872],none⟩),(66,⟨true,none,[Value.int .i64 (↑m),.slice (some ⟨65,0,none⟩) n 9223372036854775873],none⟩),(64,⟨true,some (64,1),QL (0+at_.toNat*1) (List.take ((Zr d).min (N-at_.toNat)*1) (List.drop 0 (List.map (fun c=>Value.int .u8 (↑c.toNat)) d))) (u8s zs),none⟩)],lo:=[(69,N-at_.toNat),(68,Zr d),(65,n),(64,N)],esc:=0,T:=[],k:=31,O:=((bif Qc (0+at_.toNat*1+Zr (List.take ((Zr d).min (N-at_.toNat)*1) (List.drop 0 (List.map (fun c=>Value.int .u8 (↑c.toNat)) d)))) (u8s zs)&&UE (List.take ((Zr d).min (N-at_.toNat)*1) (List.drop 0 (List.map (fun c=>Value.int .u8 (↑c.toNat)) d)))&&(List.take ((Zr d).min (N-at_.toNat)*1) (List.drop 0 (List.map (fun c=>Value.int .u8 (↑c.toNat)) d))).all ZP then bif (Zr (List.take ((Zr d).min (N-at_.toNat)*1) (List.drop 0 (List.map (fun c=>Value.int .u8 (↑c.toNat)) d)))).beq ((Zr d).min (N-at_.toNat)*1) then bif Qc (0+(Zr d).min (N-at_.toNat)*1) (List.map (fun c=>Value.int .u8 (↑c.toNat)) d) then(bif decide ((0:Int)≤at_)&&decide (at_≤(↑N:Int)) then((((((((((((((((((((((((((((True∧rr false)∧rr false)∧rr false)∧rr false)∧rr false)∧rr false)∧tt)∧tt)∧tt)∧decide ((↑(Zr d):Int)≥(0:Int))=true)∧decide ((↑(Zr d):Int)≥(0:Int))=true)∧decide ((↑(Zr d):Int)≥(0:Int))=true)∧decide ((↑(Zr d):Int)≥(0:Int))=true)∧decide ((↑(Zr d):Int)≥(0:Int))=true)∧decide ((↑(Zr d):Int)≥(0:Int))=true)∧decide ((↑(Zr d):Int)≥(0:Int))=true)∧decide ((↑(Zr d):Int)≥(0:Int))=true)∧decide ((↑(Zr d):Int)≤(↑N:Int))=true)∧decide ((↑(Zr d):Int)≤(↑N:Int))=true)∧decide ((↑(Zr d):Int)≤(↑N:Int))=true)∧decide ((↑(Zr d):Int)≤(↑N:Int))=true)∧decide ((↑(Zr d):Int)≤(↑N:Int))=true)∧decide ((↑(Zr d):Int)≤(↑N:Int))=true)∧decide ((↑(Zr d):Int)≤(↑N:Int))=true)∧decide ((↑(Zr d):Int)≤(↑N:Int))=true)∧decide ((↑(Zr d):Int)≤(↑N:Int))=true)∧decide ((↑(Zr d):Int)≤(↑N:Int))=true)∧decide ((↑(Zr d):Int)≤(↑N:Int))=true)∧(!decide (i64.wrap at_≤i64.wrap ((↑N:Int)-(↑(Zr d):Int))))=false else False)∧at_.toNat.blt N=true else False else False else False)∧decide ((↑(Zr d):Int)>(0:Int))=true)∧((0:Int)≤i64.wrap ((i64.wrap at_).tdiv (16:Int))∧i64.wrap ((i64.wrap at_).tdiv (16:Int))<i64.wrap (i64.wrap ((i64.wrap (i64.wrap (i64.wrap at_+(↑(Zr d):Int))-(1:Int))).tdiv (16:Int))+(1:Int))∧i64.wrap (i64.wrap ((i64.wrap (i64.wrap (i64.wrap at_+(↑(Zr d):Int))-(1:Int))).tdiv (16:Int))+(1:Int))≤(↑m:Int)∧m≤64*n∧n≤100000)∧(rr (Value.pointer (some ⟨66,0,none⟩))∧rr (Value.int .i64 (i64.wrap ((i64.wrap at_).tdiv (16:Int))))∧rr (Value.int .i64 (i64.wrap (i64.wrap ((i64.wrap (i64.wrap (i64.wrap at_+(↑(Zr d):Int))-(1:Int))).tdiv (16:Int))+(1:Int))))∧True)∧((tt∧tt∧tt∧tt∧tt∧True∧rr [Value.int .i64 (↑m),.slice (some ⟨65,0,none⟩) n 9223372036854775873])∧(tt∧(z64 n).all (okV (fun l=>l.blt 68) 3)=true∧tt∧tt∧tt∧True∧z64 n=List.map (rnV (lift 68 70 [64,65,66,67]) 3) (z64 n))∧True)∧(tt∧n≤n)∧True:St }):=by kernel_rfl
theorem ZoD (at_:Int) (d zs:List UInt8) (N m n:Nat):evF Tryz.prog (ZH 3 (Zgb m n)) Zf 100 40 12 [Value.pointer (some ⟨67,0,none⟩),.int .u32 at_,.string ⟨⟨d⟩⟩] ⟨68,arL true zs N m n,arO N n,0,(tb 31 805306304),0,True⟩=some (Value.bool true,{ n:=70,h:=[(67,⟨true,none,[Value.pointer (some ⟨66,0,none⟩),.slice (some ⟨64,0,none⟩) N 9223372036854775872],none⟩),(66,⟨true,none,[Value.int .i64 (↑m),.slice (some ⟨65,0,none⟩) n 9223372036854775873],none⟩),(65,⟨true,some (65,1),z64 n,none⟩),(64,⟨true,some (64,1),QL (0+at_.toNat*1) (List.take ((Zr d).min (N-at_.toNat)*1) (List.drop 0 (List.map (fun c=>Value.int .u8 (↑c.toNat)) d))) (u8s zs),none⟩)],lo:=[(69,N-at_.toNat),(68,Zr d),(65,n),(64,N)],esc:=0,T:=[],k:=31,O:=(bif Qc (0+at_.toNat*1+Zr (List.take ((Zr d).min (N-at_.toNat)*1) (List.drop 0 (List.map (fun c=>Value.int .u8 (↑c.toNat)) d)))) (u8s zs)&&UE (List.take ((Zr d).min (N-at_.toNat)*1) (List.drop 0 (List.map (fun c=>Value.int .u8 (↑c.toNat)) d)))&&(List.take ((Zr d).min (N-at_.toNat)*1) (List.drop 0 (List.map (fun c=>Value.int .u8 (↑c.toNat)) d))).all ZP then bif (Zr (List.take ((Zr d).min (N-at_.toNat)*1) (List.drop 0 (List.map (fun c=>Value.int .u8 (↑c.toNat)) d)))).beq ((Zr d).min (N-at_.toNat)*1) then bif Qc (0+(Zr d).min (N-at_.toNat)*1) (List.map (fun c=>Value.int .u8 (↑c.toNat)) d) then(bif decide ((0:Int)≤at_)&&decide (at_≤(↑N:Int)) then((((((((((((((((((((((((((((True∧rr false)∧rr false)∧rr false)∧rr false)∧rr false)∧rr false)∧tt)∧tt)∧tt)∧decide ((↑(Zr d):Int)≥(0:Int))=true)∧decide ((↑(Zr d):Int)≥(0:Int))=true)∧decide ((↑(Zr d):Int)≥(0:Int))=true)∧decide ((↑(Zr d):Int)≥(0:Int))=true)∧decide ((↑(Zr d):Int)≥(0:Int))=true)∧decide ((↑(Zr d):Int)≥(0:Int))=true)∧decide ((↑(Zr d):Int)≥(0:Int))=true)∧decide ((↑(Zr d):Int)≥(0:Int))=true)∧decide ((↑(Zr d):Int)≤(↑N:Int))=true)∧decide ((↑(Zr d):Int)≤(↑N:Int))=true)∧decide ((↑(Zr d):Int)≤(↑N:Int))=true)∧decide ((↑(Zr d):Int)≤(↑N:Int))=true)∧decide ((↑(Zr d):Int)≤(↑N:Int))=true)∧decide ((↑(Zr d):Int)≤(↑N:Int))=true)∧decide ((↑(Zr d):Int)≤(↑N:Int))=true)∧decide ((↑(Zr d):Int)≤(↑N:Int))=true)∧decide ((↑(Zr d):Int)≤(↑N:Int))=true)∧decide ((↑(Zr d):Int)≤(↑N:Int))=true)∧decide ((↑(Zr d):Int)≤(↑N:Int))=true)∧(!decide (i64.wrap at_≤i64.wrap ((↑N:Int)-(↑(Zr d):Int))))=false else False)∧at_.toNat.blt N=true else False else False else False)∧decide ((↑(Zr d):Int)>(0:Int))=false:St }):=by kernel_rfl
theorem Zp (xs:List UInt8):∀ v∈u8s xs,ZP v=true:=fun v hv=>by
 obtain⟨b,_,rfl⟩:=List.mem_map.1 hv; rfl
theorem Kf (zs:List UInt8):(u8s zs).length=zs.length:=by simp[u8s]
theorem XR (a:List UInt8) (n:Nat):Qc n (u8s a)=decide (n≤a.length):=by
 rw[Bool.eq_iff_iff,QM]; simp[u8s]
def QK (i:Nat) (bs zs:List UInt8):List UInt8:=zs.take i++bs++zs.drop (i+bs.length)
theorem Kg (i:Nat) (bs zs:List UInt8) (h:i+bs.length≤zs.length):(QK i bs zs).length=zs.length:=by
 simp[QK]; omega
theorem Vg (i:Nat) (bs zs:List UInt8) (h:i+bs.length≤zs.length) (j:Nat):(QK i bs zs)[j]? = if i≤j∧j<i+bs.length then bs[j-i]? else zs[j]?:=by
 unfold QK
 by_cases h1:j<i
 ·rw[if_neg (by omega),List.append_assoc,List.getElem?_append_left (by simp; omega),List.getElem?_take_of_lt h1]
 ·by_cases h2:j<i+bs.length
  ·rw[if_pos ⟨by omega,h2⟩,List.append_assoc,List.getElem?_append_right (by simp; omega),List.getElem?_append_left (by simp; omega)]
   congr 1; simp; omega
  ·rw[if_neg (by omega),List.getElem?_append_right (by simp; omega),List.getElem?_drop]
   congr 1; simp; omega
theorem JY (i:Nat) (bs zs:List UInt8) (vs:List Value) (hv:vs=u8s bs) (h:i+bs.length≤zs.length):QL i vs (u8s zs)=u8s (QK i bs zs):=by
 subst hv
 apply List.ext_getElem?
 intro j
 rw[Yv _ _ _ _ (by simpa [u8s] using h)]
 simp only[rr, tt, u8s,List.getElem?_map,List.length_map]
 rw[Vg i bs zs h]
 split<;>rfl
theorem Xe:∀ (w n:Nat),(leW w n).length=w
 | 0,_=>rfl
 | w+1,n=>by simp[leW,Xe w]
theorem fdA (n k:Nat):(n:Int).fdiv (k:Int)=((n/k:Nat):Int):=by
 rw[Int.fdiv_eq_ediv_of_nonneg _ (by omega)]; rfl
theorem w8A (n:Nat):(u8.wrap (n:Int)).toNat=n%256:=by rw[IntKind.wrap_u8]; omega
theorem YR (n:Nat) (h:n<4294967296):u32.wrap (n:Int)=(n:Int):=by simp only[rr, tt, IntKind.wrap_u32]; omega
theorem XS (n:Nat) (h:n<9000000000000000000):i64.wrap (n:Int)=(n:Int):=wrap_i64 (by omega) (by omega)
theorem put4 (s:List UInt8) (v:Int):obs (evF Tryz.prog ZD Zf 100 10 43 [Value.string ⟨⟨s⟩⟩,.int .i64 4,.int .u32 v] (stT []))=some (Value.string ⟨⟨s++[UInt8.ofNat (u8.wrap (v.fdiv (1:Int))).toNat,UInt8.ofNat (u8.wrap (v.fdiv (256:Int))).toNat,UInt8.ofNat (u8.wrap (v.fdiv (65536:Int))).toNat,UInt8.ofNat (u8.wrap (v.fdiv (16777216:Int))).toNat]⟩⟩,bif (Zr s+4).blt 9223372036854775808 then True else False):=by kernel_rfl
theorem Zih (w v:Int) (h:ZjI w v):ConOk Tryz.prog 43 3 (putZ w v):=by
 obtain⟨rfl,h1,h2⟩:=h
 obtain⟨n,rfl⟩:=Int.eq_ofNat_of_zero_le h1
 have hn:n<4294967296:=by omega
 have m1:=YR (n/256) (by omega)
 have m2:=YR (n/256/256) (by omega)
 have m3:=YR (n/256/256/256) (by omega)
 have fd0:(n:Int).fdiv (1:Int)=((n/1:Nat):Int):=fdA n 1
 have fd1:∀ n:Nat,(n:Int).fdiv (256:Int)=((n/256:Nat):Int):=fun n=>fdA n 256
 have fd2:(n:Int).fdiv (65536:Int)=((n/65536:Nat):Int):=fdA n 65536
 have fd3:(n:Int).fdiv (16777216:Int)=((n/16777216:Nat):Int):=fdA n 16777216
 have td1:∀ n:Nat,(n:Int).tdiv (256:Int)=((n/256:Nat):Int):=fun n=>(Int.ofNat_tdiv n 256).symm
 have tm1:∀ n:Nat,(n:Int).tmod (256:Int)=((n%256:Nat):Int):=fun n=>(Int.ofNat_tmod n 256).symm
 have dd2:n/65536=n/256/256:=by omega
 have dd3:n/16777216=n/256/256/256:=by omega
 have hr:=put4 [] (n:Int)
 simp only[rr, tt, fd0,fd1,fd2,fd3,td1,tm1,m1,m2,m3,w8A,dd2,dd3,Nat.div_one,Nat.mod_mod,List.append_assoc,List.cons_append,List.nil_append] at hr
 exact WD (Zu Zn (Zx _) (Zj _) 10) (v:=.string ⟨⟨leW 4 n⟩⟩) hr (by
  simp only[rr, tt, Zq,List.length_append,List.length_cons,List.length_nil]
  repeat (first|exact trivial|refine Qi (Zt (by omega)) ?_)) rfl rfl
theorem ZaG (m n:Nat):YN Tryz.prog 3 (Zgb m n):=by
 intro f args s c ρ q h hq
 unfold Zgb at h
 cases h1:Nat.beq f 43<;>rw[h1] at h
 ·simp only[rr, tt, cond_false] at h
  obtain⟨h2,h3⟩:=ZL h
  have h2:=eB h2
  subst h2
  split at h3
  ·cases h3; exact ZkV _ _ _ _ hq
  ·cases h3
 ·have h2:=eB h1
  subst h2
  simp only[rr, tt, cond_true] at h
  split at h
  ·cases h; exact Zih _ _ hq
  ·cases h
structure ArOk (zs:List UInt8) (N m n:Nat):Prop where
 len:zs.length=N
 tags:N≤16*m
 words:m≤64*n
 few:n≤100000
 big:N≤1000000
theorem QO {q:Nat→Bool} (h:∀ l,l<68→q l=true) (N m n:Nat):(∀ v∈([.pointer (some ⟨66,0,none⟩),.slice (some ⟨64,0,none⟩) N (big+64)]:List Value),okV q 3 v=true)∧∀ v∈([.int .i64 (m:Nat),.slice (some ⟨65,0,none⟩) n (big+65)]:List Value),okV q 3 v=true:=by
 have h4:=h 64 (by omega)
 have h5:=h 65 (by omega)
 have h6:=h 66 (by omega)
 constructor<;>intro v hv<;>simp only[rr, tt, List.mem_cons,List.not_mem_nil,or_false] at hv<;>rcases hv with rfl|rfl<;>simp[okV,QP,h4,h5,h6,ZP]
theorem ZaH {q:Nat→Bool} (h:∀ l,l<68→q l=true) (rw:Bool) (zs:List UInt8) (N m n:Nat):OkH q (arL rw zs N m n) :=
 ⟨⟨h 67 (by omega),rfl,fun v hv=>ZM 3 v ((QO h N m n).1 v hv)⟩,⟨h 66 (by omega),rfl,fun v hv=>ZM 3 v ((QO h N m n).2 v hv)⟩,⟨h 65 (by omega),h 65 (by omega),Zv (Qu n)⟩,⟨h 64 (by omega),h 64 (by omega),Zv (Zp zs)⟩,trivial⟩
theorem Zgc (rw:Bool) (zs:List UInt8) (N m n:Nat):∀ x∈arL rw zs N m n,∀ v∈x.2.cells,okV (fun l=>Nat.blt l 68) 3 v=true:=fun x hx v hv=>by
 simp only[rr, tt, arL,List.mem_cons,List.not_mem_nil,or_false] at hx
 rcases hx with rfl|rfl|rfl|rfl
 ·exact(QO ZaF N m n).1 v hv
 ·exact(QO ZaF N m n).2 v hv
 ·exact ZS (Qu n v hv) 3
 ·exact ZS (Zp zs v hv) 3
theorem Jl (rw:Bool) (zs:List UInt8) (N m n:Nat):∀ x∈arL rw zs N m n,x.2.op≠none→∀ v∈x.2.cells,ZP v=true:=fun x hx hne=>by
 simp only[rr, tt, arL,List.mem_cons,List.not_mem_nil,or_false] at hx
 rcases hx with rfl|rfl|rfl|rfl
 ·exact absurd rfl hne
 ·exact absurd rfl hne
 ·exact Qu n
 ·exact Zp zs
theorem Qr (σ:Nat→Nat) (hs:σ=id) (l:List Value):l.map (rnV σ 3)=l:=by
 subst hs; rw[List.map_congr_left (fun v _=>Yd 3 v)]; simp
theorem Jm {s':Sy.St} (zs:List UInt8) (N m n:Nat) (cs ws:List Value) (h67:Sy.look s'.h 67=some ⟨true,none,[.pointer (some ⟨66,0,none⟩),.slice (some ⟨64,0,none⟩) N (big+64)],none⟩) (h66:Sy.look s'.h 66=some ⟨true,none,[.int .i64 (m:Nat),.slice (some ⟨65,0,none⟩) n (big+65)],none⟩)
  (h65:Sy.look s'.h 65=some ⟨true,some (65,1),ws,none⟩) (h64:Sy.look s'.h 64=some ⟨true,some (64,1),cs,none⟩) (hw:ws=z64 n) (hc:cs=u8s zs):Ya 3 (fun l=>Nat.blt l 68) id s'.h (arL true zs N m n):=by
 refine⟨⟨rfl,List.all_eq_true.2 (QO ZaF N m n).1,rfl,?_⟩,⟨rfl,List.all_eq_true.2 (QO ZaF N m n).2,rfl,?_⟩,⟨rfl,Zh (Qu n),rfl,?_⟩,⟨rfl,Zh (Zp zs),rfl,?_⟩,trivial⟩
 ·simp only[rr, tt, id,h67]; exact⟨rfl,rfl,trivial,(Qr _ rfl _).symm⟩
 ·simp only[rr, tt, id,h66]; exact⟨rfl,rfl,trivial,(Qr _ rfl _).symm⟩
 ·simp only[rr, tt, id,h65]; exact⟨rfl,rfl,trivial,by rw[Qr _ rfl,hw]⟩
 ·simp only[rr, tt, id,h64]; exact⟨rfl,rfl,trivial,by rw[Qr _ rfl,hc]⟩
def Zii (args:List Value) (i:Nat) (bs zs:List UInt8) (N m n:Nat):Con:=⟨args,68,arL true zs N m n,arO N n,.bool true,68,arL true (QK i bs zs) N m n,arO N n⟩
theorem ZcP {args:List Value} (ha:args.all (okV (fun l=>Nat.blt l 68) 3)=true) (i:Nat) (bs zs:List UInt8) (N m n:Nat):(Zii args i bs zs N m n).Wf 3 :=
 ⟨by show 64≤68; omega,Nat.le_refl _,ZaH ZaF true zs N m n,rfl,rfl,rfl,ha,rfl,Zgc true _ N m n⟩
theorem JZ {args:List Value} {i:Nat} {bs zs:List UInt8} {N m n:Nat} {s':Sy.St} (h1:Ya 3 (fun l=>Nat.blt l 68) id s'.h (arL true (QK i bs zs) N m n)) (h2:WY (fun l=>Nat.blt l 68) id s'.lo (arO N n)):(Zii args i bs zs N m n).Ends 3 (fun l=>Nat.blt l 68) id (.bool true) s' :=
 ⟨fun _ _=>rfl,h1,rfl,h2,⟨rfl,rfl⟩,rfl,ZaH Zga true _ N m n,rfl,Zz _ rfl,fun x _ _ => .inl rfl⟩
theorem Wm (n:Nat):(n:Int).tdiv (16:Int)=((n/16:Nat):Int):=(Int.ofNat_tdiv n 16).symm
theorem ZaI (n k:Nat):(n:Int)+(k:Int)=((n+k:Nat):Int):=by omega
theorem ZjJ (n:Nat):(n:Int)+(4:Int)=((n+4:Nat):Int):=by omega
theorem ZdS (n:Nat):(n:Int)+(1:Int)=((n+1:Nat):Int):=by omega
theorem ZdT (n:Nat) (h:1≤n):(n:Int)-(1:Int)=((n-1:Nat):Int):=by omega
theorem ZjK (n:Nat) (h:4≤n):(n:Int)-(4:Int)=((n-4:Nat):Int):=by omega
theorem ZeV (n k:Nat) (h:k≤n):(n:Int)-(k:Int)=((n-k:Nat):Int):=by omega
theorem Zij (k n:Nat) (h:k≤n):Nat.min k n=k:=Nat.min_eq_left h
theorem Zik {a b:Nat} (h:a=b):Nat.beq a b=true:=by rw[h,Nat.beq_refl]
theorem ZcQ {a b:Nat} (h:a<b):Nat.blt a b=true:=Zt h
theorem QV (p:Nat→Bool) (n:Nat):(z64 n).all (okV p 3)=true:=Zh (Qu n)
theorem Qn (σ:Nat→Nat) (n:Nat):(z64 n).map (rnV σ 3)=z64 n:=Zi (Qu n)
def ZoE (a v:Nat) (zs:List UInt8) (N m n:Nat):Con:=Zii [.pointer (some ⟨67,0,none⟩),.int .u32 (a:Nat),.int .i64 4,.int .u32 (v:Nat)] a (leW 4 v) zs N m n
theorem ZkW (a v:Nat) (zs:List UInt8) (N m n:Nat) (h:ArOk zs N m n) (hv:v<4294967296) (ha:a+4≤N):ConOk Tryz.prog 11 3 (ZoE a v zs N m n)∧FlatC (ZoE a v zs N m n):=by
 obtain⟨hl,h1,h2,h3,h4⟩:=h
 have hr:=ZoB (a:Int) (v:Int) zs N m n
 simp(disch:=omega) only[rr, tt, XS,Wm,ZjJ,ZdS,ZdT,ZjK,Int.toNat_natCast,Zij,Nat.zero_add,Nat.mul_one,Qn] at hr
 refine⟨ZF (Zu (L:=100) Zn (Z1 (ZaG m n)) (Zj _) 40) (ZcP rfl a (leW 4 v) zs N m n) hr ?_ (p:=fun l=>Nat.blt l 68) (σ:=id) (JZ (Jm _ N m n _ _ rfl rfl rfl rfl rfl (JY _ _ _ _ rfl (by rw[Xe]; omega))) ⟨⟨rfl,Nat.le_refl _⟩,⟨rfl,Nat.le_refl _⟩,trivial⟩),⟨Jl _ _ _ _ _⟩⟩
 simp only[rr, tt, Zq,List.length_cons,List.length_nil,List.take_succ_cons,List.take_zero,XR,hl,QV,Qn]
 simp(disch:=omega) only[rr, tt, Zik,ZcQ]
 simp(disch:=omega) only[rr, tt, decide_eq_true,decide_eq_false,UE,ZP,Qc,List.all_cons,List.all_nil,Bool.and_self,Bool.true_and,Bool.and_true,Bool.not_true,Bool.not_false,cond_true,and_true,true_and,and_self]
 exact⟨(show _∧_ from⟨by omega,by omega⟩),⟨by omega,by omega,by omega,by omega,by omega⟩,by omega⟩
def ZmO (a:Nat) (d zs:List UInt8) (N m n:Nat):Con:=Zii [.pointer (some ⟨67,0,none⟩),.int .u32 (a:Nat),.string ⟨⟨d⟩⟩] a d zs N m n
theorem ZaJ (d:List UInt8):List.map (fun c=>Value.int .u8 (c.toNat:Int)) d=u8s d:=rfl
theorem ZaK (d:List UInt8):UE (u8s d)=true:=List.all_eq_true.2 fun v hv=>QY (Zp d v hv)
theorem ZaL (d:List UInt8):(u8s d).all ZP=true:=List.all_eq_true.2 (Zp d)
theorem Zil (d:List UInt8):List.take d.length (u8s d)=u8s d:=List.take_of_length_le (by rw[Kf]; exact Nat.le_refl _)
theorem ZaM (a:Nat) (d zs:List UInt8) (N m n:Nat) (h:ArOk zs N m n) (ha:a+d.length≤N) (hlt:a<N):ConOk Tryz.prog 12 3 (ZmO a d zs N m n)∧FlatC (ZmO a d zs N m n):=by
 obtain⟨hl,h1,h2,h3,h4⟩:=h
 by_cases hd:0<d.length
 ·have hr:=ZoC (a:Int) d zs N m n
  simp only[rr, tt, Zq,ZaJ,List.drop_zero] at hr
  simp(disch:=omega) only[rr, tt, XS,Wm,ZaI,ZdS,ZdT,ZeV,Int.toNat_natCast,Zij,Nat.zero_add,Nat.mul_one,Qn,Zil] at hr
  refine⟨ZF (Zu (L:=100) Zn (Z1 (ZaG m n)) (Zj _) 40) (ZcP rfl a d zs N m n) hr ?_ (p:=fun l=>Nat.blt l 68) (σ:=id) (JZ (Jm _ N m n _ _ rfl rfl rfl rfl rfl (JY _ _ _ _ rfl (by omega))) ⟨⟨rfl,Nat.le_refl _⟩,⟨rfl,Nat.le_refl _⟩,trivial⟩),⟨Jl _ _ _ _ _⟩⟩
  simp only[rr, tt, XR,hl,QV,Qn,Kf,ZaK,ZaL,Zq]
  simp(disch:=omega) only[rr, tt, Zik,ZcQ]
  simp(disch:=omega) only[rr, tt, decide_eq_true,decide_eq_false,Bool.and_self,Bool.true_and,Bool.and_true,Bool.not_true,Bool.not_false,cond_true,and_true,true_and,and_self]
  exact⟨⟨by omega,by omega,by omega,by omega,by omega⟩,by omega⟩
 ·have hd0:d=[]:=List.length_eq_zero_iff.1 (by omega)
  subst hd0
  have hr:=ZoD (a:Int) [] zs N m n
  simp only[rr, tt, Zq,ZaJ,List.drop_zero,List.length_nil] at hr
  simp(disch:=omega) only[rr, tt, XS,Wm,ZeV,Int.toNat_natCast,Zij,Nat.zero_add,Nat.mul_one,Qn,List.take_zero,Nat.zero_mul] at hr
  refine⟨ZF (Zu (L:=100) Zn (Z1 (ZaG m n)) (Zj _) 40) (ZcP rfl a [] zs N m n) hr ?_ (p:=fun l=>Nat.blt l 68) (σ:=id) (JZ (Jm _ N m n _ _ rfl rfl rfl rfl rfl (JY _ [] _ _ rfl (by simp; omega))) ⟨⟨rfl,Nat.le_refl _⟩,⟨rfl,Nat.le_refl _⟩,trivial⟩),⟨Jl _ _ _ _ _⟩⟩
  simp only[rr, tt, XR,hl,QV,Qn,Kf,ZaK,ZaL,Zq]
  have e1:UE []=true:=rfl
  simp(disch:=omega) only[rr, tt, List.length_nil,Nat.add_zero,Nat.sub_zero,Zik,ZcQ,e1,List.all_nil,Int.natCast_zero,Int.ofNat_zero]
  simp(disch:=omega) only[rr, tt, decide_eq_true,decide_eq_false,Bool.and_self,Bool.true_and,Bool.and_true,Bool.not_true,Bool.not_false,cond_true,and_true,true_and,and_self]
theorem ZaN (l:List UInt8):(u8s l).map Zmn=l:=by
 unfold u8s
 rw[List.map_map]
 conv=>rhs; rw[← List.map_id l]
 apply List.map_congr_left
 intro x _
 show UInt8.ofNat ((x.toNat:Int)).toNat=x
 simp
theorem Zgd (zs:List UInt8) (a k:Nat):List.take k (List.drop a (u8s zs))=u8s ((zs.drop a).take k):=by
 unfold u8s; rw[List.map_take,List.map_drop]
theorem J0 (zs:List UInt8):(u8s zs).all Zjt=true:=List.all_eq_true.2 fun v hv=>by
 obtain⟨b,_,rfl⟩:=List.mem_map.1 hv; rfl
theorem ZaO (v:Value):∀ n:Nat,K7 n [v]=List.replicate n v
 | 0=>rfl
 | n+1=>by
  have:=ZaO v n
  simp only[rr, tt, K7,List.replicate_succ,List.cons_append,List.nil_append,this]
theorem Zge (n:Nat):List.replicate n (Value.int .u8 0)=u8s (List.replicate n 0):=by
 unfold u8s; rw[List.map_replicate]; rfl
def ZE (p:Nat):Nat:=p*256/16
def Zl (p:Nat):Nat:=(ZE p+63)/64
def Zmq (p:Nat):Con:=⟨[.int .i64 (p:Nat)],64,[],[],.tuple ⟨[.pointer (some ⟨67,0,none⟩),.int .i64 0]⟩,68,arL true (List.replicate (p*256) 0) (p*256) (ZE p) (Zl p),arO (p*256) (Zl p)⟩
theorem Qt (p:Nat) (h1:16≤p) (h2:p≤1024):ArOk (List.replicate (p*256) 0) (p*256) (ZE p) (Zl p) :=
 ⟨List.length_replicate,by unfold ZE; omega,by unfold Zl; omega,by unfold Zl ZE; omega,by omega⟩
theorem Jn (p:Nat) (h1:16≤p) (h2:p≤1024):ConOk Tryz.prog 10 3 (Zmq p)∧FlatC (Zmq p):=by
 have hr:=ZmL (p:Int)
 have e1:(p:Int)*(256:Int)=((p*256:Nat):Int):=by omega
 have e2:∀ n:Nat,(n:Int)+(64:Int)=((n+64:Nat):Int):=fun n=>by omega
 have e3:∀ n:Nat,(n:Int).tdiv (64:Int)=((n/64:Nat):Int):=fun n=>(Int.ofNat_tdiv n 64).symm
 simp(disch:=omega) only[rr, tt, e1,XS,Wm,e2,ZdT,e3,Int.toNat_natCast,ZaO,Zge] at hr
 have e4:(p*256/16+64-1)/64=Zl p:=by unfold Zl ZE; omega
 have e5:p*256/16=ZE p:=rfl
 have e6:p*256/16+64-1=ZE p+63:=by unfold ZE; omega
 have e7:(ZE p+63)/64=Zl p:=rfl
 simp only[rr, tt, e4] at hr
 simp only[rr, tt, e5,e6,e7] at hr
 have hc:okV (fun l=>Nat.blt l 68) 3 (Zmq p).res=true:=rfl
 refine⟨ZF (Zu (L:=100) Zn (Zx _) (Zj _) 40) ⟨Nat.le_refl _,by show 64≤68; omega,trivial,rfl,rfl,rfl,rfl,rfl,Zgc true _ _ _ _⟩ hr ?_ (p:=fun l=>Nat.blt l 68) (σ:=id) ?_,⟨Jl _ _ _ _ _⟩⟩
 ·have b1:Zl p≤100000:=by unfold Zl ZE; omega
  have b2:ZE p≤100000:=by unfold ZE; omega
  simp(disch:=omega) only[rr, tt, decide_eq_true,decide_eq_false,Bool.and_self,Bool.true_and,Bool.and_true,Bool.not_true,Bool.not_false,cond_true,and_true,true_and,and_self]
 ·have hk:∀ l,l<68→Z3 64 68 id (fun l=>Nat.blt l 68) l=true:=fun l hl=>by
   show(Nat.blt l NG||(bif Nat.blt l 64 then(Nat.beq l l&&Nat.blt l 68) else Nat.blt l 68))=true
   rw[Zt hl,Nat.beq_refl]
   cases Nat.blt l NG<;>cases Nat.blt l 64<;>rfl
  exact⟨fun _ _=>rfl,Jm _ _ _ _ _ _ rfl rfl rfl rfl rfl rfl,rfl,⟨⟨rfl,Nat.le_refl _⟩,⟨rfl,Nat.le_refl _⟩,trivial⟩,⟨hc,by rw[Yd]; rfl⟩,rfl,ZaH hk true _ _ _ _,rfl,ZM 3 _ rfl,fun x _ _ => .inl rfl⟩
theorem oc_x (x:Int):obs (evF Tryz.prog ZD Zf 100 5 104 [Value.int .u64 x] (stT []))=some (Value.int .i64 (bits BinOp.and i64 (i64.wrap (u64.wrap (u64.wrap (u64.wrap (bits BinOp.and u64 (u64.wrap ((u64.wrap (bits BinOp.and u64 ((u64.wrap (bits BinOp.and u64 (x.fdiv (2:Int)) (6148914691236517205:Int)+bits BinOp.and u64 x (6148914691236517205:Int))).fdiv (4:Int)) (3689348814741910323:Int)+bits BinOp.and u64 (u64.wrap (bits BinOp.and u64 (x.fdiv (2:Int)) (6148914691236517205:Int)+bits BinOp.and u64 x (6148914691236517205:Int))) (3689348814741910323:Int))).fdiv (16:Int)+u64.wrap (bits BinOp.and u64 ((u64.wrap (bits BinOp.and u64 (x.fdiv (2:Int)) (6148914691236517205:Int)+bits BinOp.and u64 x (6148914691236517205:Int))).fdiv (4:Int)) (3689348814741910323:Int)+bits BinOp.and u64 (u64.wrap (bits BinOp.and u64 (x.fdiv (2:Int)) (6148914691236517205:Int)+bits BinOp.and u64 x (6148914691236517205:Int))) (3689348814741910323:Int)))) (1085102592571150095:Int)+(bits BinOp.and u64 (u64.wrap ((u64.wrap (bits BinOp.and u64 ((u64.wrap (bits BinOp.and u64 (x.fdiv (2:Int)) (6148914691236517205:Int)+bits BinOp.and u64 x (6148914691236517205:Int))).fdiv (4:Int)) (3689348814741910323:Int)+bits BinOp.and u64 (u64.wrap (bits BinOp.and u64 (x.fdiv (2:Int)) (6148914691236517205:Int)+bits BinOp.and u64 x (6148914691236517205:Int))) (3689348814741910323:Int))).fdiv (16:Int)+u64.wrap (bits BinOp.and u64 ((u64.wrap (bits BinOp.and u64 (x.fdiv (2:Int)) (6148914691236517205:Int)+bits BinOp.and u64 x (6148914691236517205:Int))).fdiv (4:Int)) (3689348814741910323:Int)+bits BinOp.and u64 (u64.wrap (bits BinOp.and u64 (x.fdiv (2:Int)) (6148914691236517205:Int)+bits BinOp.and u64 x (6148914691236517205:Int))) (3689348814741910323:Int)))) (1085102592571150095:Int)).fdiv (256:Int))+(u64.wrap (bits BinOp.and u64 (u64.wrap ((u64.wrap (bits BinOp.and u64 ((u64.wrap (bits BinOp.and u64 (x.fdiv (2:Int)) (6148914691236517205:Int)+bits BinOp.and u64 x (6148914691236517205:Int))).fdiv (4:Int)) (3689348814741910323:Int)+bits BinOp.and u64 (u64.wrap (bits BinOp.and u64 (x.fdiv (2:Int)) (6148914691236517205:Int)+bits BinOp.and u64 x (6148914691236517205:Int))) (3689348814741910323:Int))).fdiv (16:Int)+u64.wrap (bits BinOp.and u64 ((u64.wrap (bits BinOp.and u64 (x.fdiv (2:Int)) (6148914691236517205:Int)+bits BinOp.and u64 x (6148914691236517205:Int))).fdiv (4:Int)) (3689348814741910323:Int)+bits BinOp.and u64 (u64.wrap (bits BinOp.and u64 (x.fdiv (2:Int)) (6148914691236517205:Int)+bits BinOp.and u64 x (6148914691236517205:Int))) (3689348814741910323:Int)))) (1085102592571150095:Int)+(bits BinOp.and u64 (u64.wrap ((u64.wrap (bits BinOp.and u64 ((u64.wrap (bits BinOp.and u64 (x.fdiv (2:Int)) (6148914691236517205:Int)+bits BinOp.and u64 x (6148914691236517205:Int))).fdiv (4:Int)) (3689348814741910323:Int)+bits BinOp.and u64 (u64.wrap (bits BinOp.and u64 (x.fdiv (2:Int)) (6148914691236517205:Int)+bits BinOp.and u64 x (6148914691236517205:Int))) (3689348814741910323:Int))).fdiv (16:Int)+u64.wrap (bits BinOp.and u64 ((u64.wrap (bits BinOp.and u64 (x.fdiv (2:Int)) (6148914691236517205:Int)+bits BinOp.and u64 x (6148914691236517205:Int))).fdiv (4:Int)) (3689348814741910323:Int)+bits BinOp.and u64 (u64.wrap (bits BinOp.and u64 (x.fdiv (2:Int)) (6148914691236517205:Int)+bits BinOp.and u64 x (6148914691236517205:Int))) (3689348814741910323:Int)))) (1085102592571150095:Int)).fdiv (256:Int))).fdiv (65536:Int))+(u64.wrap (u64.wrap (bits BinOp.and u64 (u64.wrap ((u64.wrap (bits BinOp.and u64 ((u64.wrap (bits BinOp.and u64 (x.fdiv (2:Int)) (6148914691236517205:Int)+bits BinOp.and u64 x (6148914691236517205:Int))).fdiv (4:Int)) (3689348814741910323:Int)+bits BinOp.and u64 (u64.wrap (bits BinOp.and u64 (x.fdiv (2:Int)) (6148914691236517205:Int)+bits BinOp.and u64 x (6148914691236517205:Int))) (3689348814741910323:Int))).fdiv (16:Int)+u64.wrap (bits BinOp.and u64 ((u64.wrap (bits BinOp.and u64 (x.fdiv (2:Int)) (6148914691236517205:Int)+bits BinOp.and u64 x (6148914691236517205:Int))).fdiv (4:Int)) (3689348814741910323:Int)+bits BinOp.and u64 (u64.wrap (bits BinOp.and u64 (x.fdiv (2:Int)) (6148914691236517205:Int)+bits BinOp.and u64 x (6148914691236517205:Int))) (3689348814741910323:Int)))) (1085102592571150095:Int)+(bits BinOp.and u64 (u64.wrap ((u64.wrap (bits BinOp.and u64 ((u64.wrap (bits BinOp.and u64 (x.fdiv (2:Int)) (6148914691236517205:Int)+bits BinOp.and u64 x (6148914691236517205:Int))).fdiv (4:Int)) (3689348814741910323:Int)+bits BinOp.and u64 (u64.wrap (bits BinOp.and u64 (x.fdiv (2:Int)) (6148914691236517205:Int)+bits BinOp.and u64 x (6148914691236517205:Int))) (3689348814741910323:Int))).fdiv (16:Int)+u64.wrap (bits BinOp.and u64 ((u64.wrap (bits BinOp.and u64 (x.fdiv (2:Int)) (6148914691236517205:Int)+bits BinOp.and u64 x (6148914691236517205:Int))).fdiv (4:Int)) (3689348814741910323:Int)+bits BinOp.and u64 (u64.wrap (bits BinOp.and u64 (x.fdiv (2:Int)) (6148914691236517205:Int)+bits BinOp.and u64 x (6148914691236517205:Int))) (3689348814741910323:Int)))) (1085102592571150095:Int)).fdiv (256:Int))+(u64.wrap (bits BinOp.and u64 (u64.wrap ((u64.wrap (bits BinOp.and u64 ((u64.wrap (bits BinOp.and u64 (x.fdiv (2:Int)) (6148914691236517205:Int)+bits BinOp.and u64 x (6148914691236517205:Int))).fdiv (4:Int)) (3689348814741910323:Int)+bits BinOp.and u64 (u64.wrap (bits BinOp.and u64 (x.fdiv (2:Int)) (6148914691236517205:Int)+bits BinOp.and u64 x (6148914691236517205:Int))) (3689348814741910323:Int))).fdiv (16:Int)+u64.wrap (bits BinOp.and u64 ((u64.wrap (bits BinOp.and u64 (x.fdiv (2:Int)) (6148914691236517205:Int)+bits BinOp.and u64 x (6148914691236517205:Int))).fdiv (4:Int)) (3689348814741910323:Int)+bits BinOp.and u64 (u64.wrap (bits BinOp.and u64 (x.fdiv (2:Int)) (6148914691236517205:Int)+bits BinOp.and u64 x (6148914691236517205:Int))) (3689348814741910323:Int)))) (1085102592571150095:Int)+(bits BinOp.and u64 (u64.wrap ((u64.wrap (bits BinOp.and u64 ((u64.wrap (bits BinOp.and u64 (x.fdiv (2:Int)) (6148914691236517205:Int)+bits BinOp.and u64 x (6148914691236517205:Int))).fdiv (4:Int)) (3689348814741910323:Int)+bits BinOp.and u64 (u64.wrap (bits BinOp.and u64 (x.fdiv (2:Int)) (6148914691236517205:Int)+bits BinOp.and u64 x (6148914691236517205:Int))) (3689348814741910323:Int))).fdiv (16:Int)+u64.wrap (bits BinOp.and u64 ((u64.wrap (bits BinOp.and u64 (x.fdiv (2:Int)) (6148914691236517205:Int)+bits BinOp.and u64 x (6148914691236517205:Int))).fdiv (4:Int)) (3689348814741910323:Int)+bits BinOp.and u64 (u64.wrap (bits BinOp.and u64 (x.fdiv (2:Int)) (6148914691236517205:Int)+bits BinOp.and u64 x (6148914691236517205:Int))) (3689348814741910323:Int)))) (1085102592571150095:Int)).fdiv (256:Int))).fdiv (65536:Int))).fdiv (4294967296:Int)))) (127:Int)),True):=by kernel_rfl
def Zmr (x:Int):Int:=(bits BinOp.and i64 (i64.wrap (u64.wrap (u64.wrap (u64.wrap (bits BinOp.and u64 (u64.wrap ((u64.wrap (bits BinOp.and u64 ((u64.wrap (bits BinOp.and u64 (x.fdiv (2:Int)) (6148914691236517205:Int)+bits BinOp.and u64 x (6148914691236517205:Int))).fdiv (4:Int)) (3689348814741910323:Int)+bits BinOp.and u64 (u64.wrap (bits BinOp.and u64 (x.fdiv (2:Int)) (6148914691236517205:Int)+bits BinOp.and u64 x (6148914691236517205:Int))) (3689348814741910323:Int))).fdiv (16:Int)+u64.wrap (bits BinOp.and u64 ((u64.wrap (bits BinOp.and u64 (x.fdiv (2:Int)) (6148914691236517205:Int)+bits BinOp.and u64 x (6148914691236517205:Int))).fdiv (4:Int)) (3689348814741910323:Int)+bits BinOp.and u64 (u64.wrap (bits BinOp.and u64 (x.fdiv (2:Int)) (6148914691236517205:Int)+bits BinOp.and u64 x (6148914691236517205:Int))) (3689348814741910323:Int)))) (1085102592571150095:Int)+(bits BinOp.and u64 (u64.wrap ((u64.wrap (bits BinOp.and u64 ((u64.wrap (bits BinOp.and u64 (x.fdiv (2:Int)) (6148914691236517205:Int)+bits BinOp.and u64 x (6148914691236517205:Int))).fdiv (4:Int)) (3689348814741910323:Int)+bits BinOp.and u64 (u64.wrap (bits BinOp.and u64 (x.fdiv (2:Int)) (6148914691236517205:Int)+bits BinOp.and u64 x (6148914691236517205:Int))) (3689348814741910323:Int))).fdiv (16:Int)+u64.wrap (bits BinOp.and u64 ((u64.wrap (bits BinOp.and u64 (x.fdiv (2:Int)) (6148914691236517205:Int)+bits BinOp.and u64 x (6148914691236517205:Int))).fdiv (4:Int)) (3689348814741910323:Int)+bits BinOp.and u64 (u64.wrap (bits BinOp.and u64 (x.fdiv (2:Int)) (6148914691236517205:Int)+bits BinOp.and u64 x (6148914691236517205:Int))) (3689348814741910323:Int)))) (1085102592571150095:Int)).fdiv (256:Int))+(u64.wrap (bits BinOp.and u64 (u64.wrap ((u64.wrap (bits BinOp.and u64 ((u64.wrap (bits BinOp.and u64 (x.fdiv (2:Int)) (6148914691236517205:Int)+bits BinOp.and u64 x (6148914691236517205:Int))).fdiv (4:Int)) (3689348814741910323:Int)+bits BinOp.and u64 (u64.wrap (bits BinOp.and u64 (x.fdiv (2:Int)) (6148914691236517205:Int)+bits BinOp.and u64 x (6148914691236517205:Int))) (3689348814741910323:Int))).fdiv (16:Int)+u64.wrap (bits BinOp.and u64 ((u64.wrap (bits BinOp.and u64 (x.fdiv (2:Int)) (6148914691236517205:Int)+bits BinOp.and u64 x (6148914691236517205:Int))).fdiv (4:Int)) (3689348814741910323:Int)+bits BinOp.and u64 (u64.wrap (bits BinOp.and u64 (x.fdiv (2:Int)) (6148914691236517205:Int)+bits BinOp.and u64 x (6148914691236517205:Int))) (3689348814741910323:Int)))) (1085102592571150095:Int)+(bits BinOp.and u64 (u64.wrap ((u64.wrap (bits BinOp.and u64 ((u64.wrap (bits BinOp.and u64 (x.fdiv (2:Int)) (6148914691236517205:Int)+bits BinOp.and u64 x (6148914691236517205:Int))).fdiv (4:Int)) (3689348814741910323:Int)+bits BinOp.and u64 (u64.wrap (bits BinOp.and u64 (x.fdiv (2:Int)) (6148914691236517205:Int)+bits BinOp.and u64 x (6148914691236517205:Int))) (3689348814741910323:Int))).fdiv (16:Int)+u64.wrap (bits BinOp.and u64 ((u64.wrap (bits BinOp.and u64 (x.fdiv (2:Int)) (6148914691236517205:Int)+bits BinOp.and u64 x (6148914691236517205:Int))).fdiv (4:Int)) (3689348814741910323:Int)+bits BinOp.and u64 (u64.wrap (bits BinOp.and u64 (x.fdiv (2:Int)) (6148914691236517205:Int)+bits BinOp.and u64 x (6148914691236517205:Int))) (3689348814741910323:Int)))) (1085102592571150095:Int)).fdiv (256:Int))).fdiv (65536:Int))+(u64.wrap (u64.wrap (bits BinOp.and u64 (u64.wrap ((u64.wrap (bits BinOp.and u64 ((u64.wrap (bits BinOp.and u64 (x.fdiv (2:Int)) (6148914691236517205:Int)+bits BinOp.and u64 x (6148914691236517205:Int))).fdiv (4:Int)) (3689348814741910323:Int)+bits BinOp.and u64 (u64.wrap (bits BinOp.and u64 (x.fdiv (2:Int)) (6148914691236517205:Int)+bits BinOp.and u64 x (6148914691236517205:Int))) (3689348814741910323:Int))).fdiv (16:Int)+u64.wrap (bits BinOp.and u64 ((u64.wrap (bits BinOp.and u64 (x.fdiv (2:Int)) (6148914691236517205:Int)+bits BinOp.and u64 x (6148914691236517205:Int))).fdiv (4:Int)) (3689348814741910323:Int)+bits BinOp.and u64 (u64.wrap (bits BinOp.and u64 (x.fdiv (2:Int)) (6148914691236517205:Int)+bits BinOp.and u64 x (6148914691236517205:Int))) (3689348814741910323:Int)))) (1085102592571150095:Int)+(bits BinOp.and u64 (u64.wrap ((u64.wrap (bits BinOp.and u64 ((u64.wrap (bits BinOp.and u64 (x.fdiv (2:Int)) (6148914691236517205:Int)+bits BinOp.and u64 x (6148914691236517205:Int))).fdiv (4:Int)) (3689348814741910323:Int)+bits BinOp.and u64 (u64.wrap (bits BinOp.and u64 (x.fdiv (2:Int)) (6148914691236517205:Int)+bits BinOp.and u64 x (6148914691236517205:Int))) (3689348814741910323:Int))).fdiv (16:Int)+u64.wrap (bits BinOp.and u64 ((u64.wrap (bits BinOp.and u64 (x.fdiv (2:Int)) (6148914691236517205:Int)+bits BinOp.and u64 x (6148914691236517205:Int))).fdiv (4:Int)) (3689348814741910323:Int)+bits BinOp.and u64 (u64.wrap (bits BinOp.and u64 (x.fdiv (2:Int)) (6148914691236517205:Int)+bits BinOp.and u64 x (6148914691236517205:Int))) (3689348814741910323:Int)))) (1085102592571150095:Int)).fdiv (256:Int))+(u64.wrap (bits BinOp.and u64 (u64.wrap ((u64.wrap (bits BinOp.and u64 ((u64.wrap (bits BinOp.and u64 (x.fdiv (2:Int)) (6148914691236517205:Int)+bits BinOp.and u64 x (6148914691236517205:Int))).fdiv (4:Int)) (3689348814741910323:Int)+bits BinOp.and u64 (u64.wrap (bits BinOp.and u64 (x.fdiv (2:Int)) (6148914691236517205:Int)+bits BinOp.and u64 x (6148914691236517205:Int))) (3689348814741910323:Int))).fdiv (16:Int)+u64.wrap (bits BinOp.and u64 ((u64.wrap (bits BinOp.and u64 (x.fdiv (2:Int)) (6148914691236517205:Int)+bits BinOp.and u64 x (6148914691236517205:Int))).fdiv (4:Int)) (3689348814741910323:Int)+bits BinOp.and u64 (u64.wrap (bits BinOp.and u64 (x.fdiv (2:Int)) (6148914691236517205:Int)+bits BinOp.and u64 x (6148914691236517205:Int))) (3689348814741910323:Int)))) (1085102592571150095:Int)+(bits BinOp.and u64 (u64.wrap ((u64.wrap (bits BinOp.and u64 ((u64.wrap (bits BinOp.and u64 (x.fdiv (2:Int)) (6148914691236517205:Int)+bits BinOp.and u64 x (6148914691236517205:Int))).fdiv (4:Int)) (3689348814741910323:Int)+bits BinOp.and u64 (u64.wrap (bits BinOp.and u64 (x.fdiv (2:Int)) (6148914691236517205:Int)+bits BinOp.and u64 x (6148914691236517205:Int))) (3689348814741910323:Int))).fdiv (16:Int)+u64.wrap (bits BinOp.and u64 ((u64.wrap (bits BinOp.and u64 (x.fdiv (2:Int)) (6148914691236517205:Int)+bits BinOp.and u64 x (6148914691236517205:Int))).fdiv (4:Int)) (3689348814741910323:Int)+bits BinOp.and u64 (u64.wrap (bits BinOp.and u64 (x.fdiv (2:Int)) (6148914691236517205:Int)+bits BinOp.and u64 x (6148914691236517205:Int))) (3689348814741910323:Int)))) (1085102592571150095:Int)).fdiv (256:Int))).fdiv (65536:Int))).fdiv (4294967296:Int)))) (127:Int))
def ZhR (x:Int):Nat:=(Zmr x).toNat
theorem ZkX (x:Int):Zmr x=(ZhR x:Int):=by
 unfold ZhR
 have h:0≤Zmr x:=by
  unfold Zmr
  generalize i64.wrap _=a
  show 0≤i64.wrap ((BitVec.ofInt 64 a&&&BitVec.ofInt 64 127).toNat:Int)
  have hb:(BitVec.ofInt 64 a&&&BitVec.ofInt 64 127).toNat≤127:=by
   rw[BitVec.toNat_and]
   exact Nat.and_le_right
  rw[wrap_i64 (by omega) (by omega)]
  omega
 omega
theorem ZkY (x:Int):ConOk Tryz.prog 104 3 (Con.pure [.int .u64 x] (.int .i64 (ZhR x:Nat))):=by
 have hr:=oc_x x
 rw[show(Value.int .i64 (ZhR x:Nat)) = .int .i64 (Zmr x) by rw[ZkX]]
 exact WD (d:=1) (Zu (L:=100) Zn (Zx _) (Zj _) 5) (T:=[]) (v:=.int .i64 (Zmr x)) hr trivial rfl rfl
def v64 (ws:List Nat):List Value:=ws.map fun w => .int .u64 (w:Nat)
def mpW (rw:Bool) (m:Nat) (ws:List Nat):Sy.Heap:=[(66,⟨false,none,[.int .i64 (m:Nat),.slice (some ⟨65,0,none⟩) ws.length (big+65)],none⟩),(65,⟨rw,some (65,1),v64 ws,none⟩)]
def J1 (r:Int→Nat):WH:=fun f args _=>bif Nat.beq f 104 then(match args with|[.int .u64 x]=>some (Con.pure [.int .u64 x] (.int .i64 (r x:Nat)),[],True)|_=>none) else none
theorem cw_a (r:Int→Nat) (x y:Int) (m:Nat) (ws:List Nat):evF Tryz.prog (ZH 3 (J1 r)) Zf 100 40 78 [Value.pointer (some ⟨66,0,none⟩),.int .i64 x,.int .i64 y] ⟨68,mpW true m ws,[(65,ws.length)],0,(tb 5 4),0,True⟩=some (Value.int .i64 (i64.wrap ((0:Int)+(↑(r (bits BinOp.and u64 (Zb (Zd undef (v64 ws) (0+(i64.wrap ((if(0:Int)>x then(0:Int) else x).tdiv (64:Int))).toNat*1))) (u64.wrap (Int.fdiv (18446744073709551615:Int) ((2:Int)^min (i64.wrap ((64:Int)-i64.wrap ((if(64:Int)<i64.wrap ((if(↑m:Int)<y then(↑m:Int) else y)-i64.wrap (i64.wrap ((if(0:Int)>x then(0:Int) else x).tdiv (64:Int))*(64:Int))) then(64:Int) else i64.wrap ((if(↑m:Int)<y then(↑m:Int) else y)-i64.wrap (i64.wrap ((if(0:Int)>x then(0:Int) else x).tdiv (64:Int))*(64:Int))))-if(0:Int)>i64.wrap ((if(0:Int)>x then(0:Int) else x)-i64.wrap (i64.wrap ((if(0:Int)>x then(0:Int) else x).tdiv (64:Int))*(64:Int))) then(0:Int) else i64.wrap ((if(0:Int)>x then(0:Int) else x)-i64.wrap (i64.wrap ((if(0:Int)>x then(0:Int) else x).tdiv (64:Int))*(64:Int)))))).toNat 64)*(2:Int)^min (if(0:Int)>i64.wrap ((if(0:Int)>x then(0:Int) else x)-i64.wrap (i64.wrap ((if(0:Int)>x then(0:Int) else x).tdiv (64:Int))*(64:Int))) then(0:Int) else i64.wrap ((if(0:Int)>x then(0:Int) else x)-i64.wrap (i64.wrap ((if(0:Int)>x then(0:Int) else x).tdiv (64:Int))*(64:Int)))).toNat 64)))):Int))),{ n:=68,h:=[(66,⟨false,none,[Value.int .i64 (↑m),.slice (some ⟨65,0,none⟩) ws.length 9223372036854775873],none⟩),(65,⟨true,some (65,1),QL (0+(i64.wrap ((if(0:Int)>x then(0:Int) else x).tdiv (64:Int))).toNat*1) [Value.int .u64 (bits BinOp.andNot u64 (Zb (Zd undef (v64 ws) (0+(i64.wrap ((if(0:Int)>x then(0:Int) else x).tdiv (64:Int))).toNat*1))) (u64.wrap (Int.fdiv (18446744073709551615:Int) ((2:Int)^min (i64.wrap ((64:Int)-i64.wrap ((if(64:Int)<i64.wrap ((if(↑m:Int)<y then(↑m:Int) else y)-i64.wrap (i64.wrap ((if(0:Int)>x then(0:Int) else x).tdiv (64:Int))*(64:Int))) then(64:Int) else i64.wrap ((if(↑m:Int)<y then(↑m:Int) else y)-i64.wrap (i64.wrap ((if(0:Int)>x then(0:Int) else x).tdiv (64:Int))*(64:Int))))-if(0:Int)>i64.wrap ((if(0:Int)>x then(0:Int) else x)-i64.wrap (i64.wrap ((if(0:Int)>x then(0:Int) else x).tdiv (64:Int))*(64:Int))) then(0:Int) else i64.wrap ((if(0:Int)>x then(0:Int) else x)-i64.wrap (i64.wrap ((if(0:Int)>x then(0:Int) else x).tdiv (64:Int))*(64:Int)))))).toNat 64)*(2:Int)^min (if(0:Int)>i64.wrap ((if(0:Int)>x then(0:Int) else x)-i64.wrap (i64.wrap ((if(0:Int)>x then(0:Int) else x).tdiv (64:Int))*(64:Int))) then(0:Int) else i64.wrap ((if(0:Int)>x then(0:Int) else x)-i64.wrap (i64.wrap ((if(0:Int)>x then(0:Int) else x).tdiv (64:Int))*(64:Int)))).toNat 64)))] (v64 ws),none⟩)],lo:=[(65,ws.length)],esc:=0,T:=[],k:=5,O:=(bif Qc (0+(i64.wrap ((if(0:Int)>x then(0:Int) else x).tdiv (64:Int))).toNat*1+1) (v64 ws)&&true&&true then bif decide ((0:Int)≤i64.wrap ((if(0:Int)>x then(0:Int) else x).tdiv (64:Int)))&&decide (i64.wrap ((if(0:Int)>x then(0:Int) else x).tdiv (64:Int))<(↑ws.length:Int)) then bif Qc (0+(i64.wrap ((if(0:Int)>x then(0:Int) else x).tdiv (64:Int))).toNat*1+1) (v64 ws)&&Zs [Value.int .u64 0] (v64 ws) (0+(i64.wrap ((if(0:Int)>x then(0:Int) else x).tdiv (64:Int))).toNat*1) then bif decide ((0:Int)≤i64.wrap ((if(0:Int)>x then(0:Int) else x).tdiv (64:Int)))&&decide (i64.wrap ((if(0:Int)>x then(0:Int) else x).tdiv (64:Int))<(↑ws.length:Int)) then(bif Qc (0+(i64.wrap ((if(0:Int)>x then(0:Int) else x).tdiv (64:Int))).toNat*1+1) (v64 ws)&&Zs [Value.int .u64 0] (v64 ws) (0+(i64.wrap ((if(0:Int)>x then(0:Int) else x).tdiv (64:Int))).toNat*1) then bif decide ((0:Int)≤i64.wrap ((if(0:Int)>x then(0:Int) else x).tdiv (64:Int)))&&decide (i64.wrap ((if(0:Int)>x then(0:Int) else x).tdiv (64:Int))<(↑ws.length:Int)) then bif decide ((0:Int)≤if(0:Int)>i64.wrap ((if(0:Int)>x then(0:Int) else x)-i64.wrap (i64.wrap ((if(0:Int)>x then(0:Int) else x).tdiv (64:Int))*(64:Int))) then(0:Int) else i64.wrap ((if(0:Int)>x then(0:Int) else x)-i64.wrap (i64.wrap ((if(0:Int)>x then(0:Int) else x).tdiv (64:Int))*(64:Int)))) then bif decide ((0:Int)≤i64.wrap ((64:Int)-i64.wrap ((if(64:Int)<i64.wrap ((if(↑m:Int)<y then(↑m:Int) else y)-i64.wrap (i64.wrap ((if(0:Int)>x then(0:Int) else x).tdiv (64:Int))*(64:Int))) then(64:Int) else i64.wrap ((if(↑m:Int)<y then(↑m:Int) else y)-i64.wrap (i64.wrap ((if(0:Int)>x then(0:Int) else x).tdiv (64:Int))*(64:Int))))-if(0:Int)>i64.wrap ((if(0:Int)>x then(0:Int) else x)-i64.wrap (i64.wrap ((if(0:Int)>x then(0:Int) else x).tdiv (64:Int))*(64:Int))) then(0:Int) else i64.wrap ((if(0:Int)>x then(0:Int) else x)-i64.wrap (i64.wrap ((if(0:Int)>x then(0:Int) else x).tdiv (64:Int))*(64:Int)))))) then(((True∧rr false)∧decide ((if(0:Int)>x then(0:Int) else x)≥if(↑m:Int)<y then(↑m:Int) else y)=false)∧decide (i64.wrap (i64.wrap ((if(0:Int)>x then(0:Int) else x).tdiv (64:Int))*(64:Int))<if(↑m:Int)<y then(↑m:Int) else y)=true)∧decide ((if(0:Int)>i64.wrap ((if(0:Int)>x then(0:Int) else x)-i64.wrap (i64.wrap ((if(0:Int)>x then(0:Int) else x).tdiv (64:Int))*(64:Int))) then(0:Int) else i64.wrap ((if(0:Int)>x then(0:Int) else x)-i64.wrap (i64.wrap ((if(0:Int)>x then(0:Int) else x).tdiv (64:Int))*(64:Int))))≥if(64:Int)<i64.wrap ((if(↑m:Int)<y then(↑m:Int) else y)-i64.wrap (i64.wrap ((if(0:Int)>x then(0:Int) else x).tdiv (64:Int))*(64:Int))) then(64:Int) else i64.wrap ((if(↑m:Int)<y then(↑m:Int) else y)-i64.wrap (i64.wrap ((if(0:Int)>x then(0:Int) else x).tdiv (64:Int))*(64:Int))))=false else False else False else False else False)∧True∧(rr (Value.int .u64 (bits BinOp.and u64 (Zb (Zd undef (v64 ws) (0+(i64.wrap ((if(0:Int)>x then(0:Int) else x).tdiv (64:Int))).toNat*1))) (u64.wrap (Int.fdiv (18446744073709551615:Int) ((2:Int)^min (i64.wrap ((64:Int)-i64.wrap ((if(64:Int)<i64.wrap ((if(↑m:Int)<y then(↑m:Int) else y)-i64.wrap (i64.wrap ((if(0:Int)>x then(0:Int) else x).tdiv (64:Int))*(64:Int))) then(64:Int) else i64.wrap ((if(↑m:Int)<y then(↑m:Int) else y)-i64.wrap (i64.wrap ((if(0:Int)>x then(0:Int) else x).tdiv (64:Int))*(64:Int))))-if(0:Int)>i64.wrap ((if(0:Int)>x then(0:Int) else x)-i64.wrap (i64.wrap ((if(0:Int)>x then(0:Int) else x).tdiv (64:Int))*(64:Int))) then(0:Int) else i64.wrap ((if(0:Int)>x then(0:Int) else x)-i64.wrap (i64.wrap ((if(0:Int)>x then(0:Int) else x).tdiv (64:Int))*(64:Int)))))).toNat 64)*(2:Int)^min (if(0:Int)>i64.wrap ((if(0:Int)>x then(0:Int) else x)-i64.wrap (i64.wrap ((if(0:Int)>x then(0:Int) else x).tdiv (64:Int))*(64:Int))) then(0:Int) else i64.wrap ((if(0:Int)>x then(0:Int) else x)-i64.wrap (i64.wrap ((if(0:Int)>x then(0:Int) else x).tdiv (64:Int))*(64:Int)))).toNat 64))))∧True)∧True∧True else False else False else False else False)∧decide (i64.wrap (i64.wrap (i64.wrap ((if(0:Int)>x then(0:Int) else x).tdiv (64:Int))+(1:Int))*(64:Int))<if(↑m:Int)<y then(↑m:Int) else y)=false:St }):=by kernel_rfl
theorem pw_t (r:Int→Nat) (x:Int) (m:Nat) (ws:List Nat):evF Tryz.prog (ZH 3 (J1 r)) Zf 100 40 47 [Value.pointer (some ⟨66,0,none⟩),.int .i64 x,.bool true] ⟨68,mpW true m ws,[(65,ws.length)],0,(tb 12 3071),0,True⟩=some (Value.bool true,{ n:=68,h:=[(66,⟨false,none,[Value.int .i64 (↑m),.slice (some ⟨65,0,none⟩) ws.length 9223372036854775873],none⟩),(65,⟨true,some (65,1),QL (0+(i64.wrap (x.tdiv (64:Int))).toNat*1) [Value.int .u64 (bits BinOp.or u64 (Zb (Zd undef (v64 ws) (0+(i64.wrap (x.tdiv (64:Int))).toNat*1))) (u64.wrap ((1:Int)*(2:Int)^min (x.tmod (64:Int)).toNat 64)))] (v64 ws),none⟩)],lo:=[(65,ws.length)],esc:=0,T:=[],k:=12,O:=bif Qc (0+(i64.wrap (x.tdiv (64:Int))).toNat*1+1) (v64 ws)&&true&&true then bif decide ((0:Int)≤i64.wrap (x.tdiv (64:Int)))&&decide (i64.wrap (x.tdiv (64:Int))<(↑ws.length:Int)) then bif Qc (0+(i64.wrap (x.tdiv (64:Int))).toNat*1+1) (v64 ws)&&Zs [Value.int .u64 0] (v64 ws) (0+(i64.wrap (x.tdiv (64:Int))).toNat*1) then bif decide ((0:Int)≤i64.wrap (x.tdiv (64:Int)))&&decide (i64.wrap (x.tdiv (64:Int))<(↑ws.length:Int)) then(bif decide ((0:Int)≤x.tmod (64:Int)) then((((((((((True∧tt)∧tt)∧tt)∧decide (x≥(0:Int))=true)∧decide (x≥(0:Int))=true)∧decide (x≥(0:Int))=true)∧decide (x≥(0:Int))=true)∧decide (x≥(0:Int))=true)∧decide (x≥(0:Int))=true)∧decide (x≥(0:Int))=true)∧(!decide (x<(↑m:Int)))=false else False)∧true=true else False else False else False else False:St }):=by kernel_rfl
theorem pw_f (r:Int→Nat) (x:Int) (m:Nat) (ws:List Nat):evF Tryz.prog (ZH 3 (J1 r)) Zf 100 40 47 [Value.pointer (some ⟨66,0,none⟩),.int .i64 x,.bool false] ⟨68,mpW true m ws,[(65,ws.length)],0,(tb 12 1023),0,True⟩=some (Value.bool true,{ n:=68,h:=[(66,⟨false,none,[Value.int .i64 (↑m),.slice (some ⟨65,0,none⟩) ws.length 9223372036854775873],none⟩),(65,⟨true,some (65,1),QL (0+(i64.wrap (x.tdiv (64:Int))).toNat*1) [Value.int .u64 (bits BinOp.andNot u64 (Zb (Zd undef (v64 ws) (0+(i64.wrap (x.tdiv (64:Int))).toNat*1))) (u64.wrap ((1:Int)*(2:Int)^min (x.tmod (64:Int)).toNat 64)))] (v64 ws),none⟩)],lo:=[(65,ws.length)],esc:=0,T:=[],k:=12,O:=bif Qc (0+(i64.wrap (x.tdiv (64:Int))).toNat*1+1) (v64 ws)&&true&&true then bif decide ((0:Int)≤i64.wrap (x.tdiv (64:Int)))&&decide (i64.wrap (x.tdiv (64:Int))<(↑ws.length:Int)) then bif Qc (0+(i64.wrap (x.tdiv (64:Int))).toNat*1+1) (v64 ws)&&Zs [Value.int .u64 0] (v64 ws) (0+(i64.wrap (x.tdiv (64:Int))).toNat*1) then bif decide ((0:Int)≤i64.wrap (x.tdiv (64:Int)))&&decide (i64.wrap (x.tdiv (64:Int))<(↑ws.length:Int)) then(bif decide ((0:Int)≤x.tmod (64:Int)) then((((((((((True∧tt)∧tt)∧tt)∧decide (x≥(0:Int))=true)∧decide (x≥(0:Int))=true)∧decide (x≥(0:Int))=true)∧decide (x≥(0:Int))=true)∧decide (x≥(0:Int))=true)∧decide (x≥(0:Int))=true)∧decide (x≥(0:Int))=true)∧(!decide (x<(↑m:Int)))=false else False)∧false=false else False else False else False else False:St }):=by kernel_rfl
theorem gw_a (r:Int→Nat) (x:Int) (m:Nat) (ws:List Nat):obs (evF Tryz.prog (ZH 3 (J1 r)) Zf 100 40 68 [Value.pointer (some ⟨66,0,none⟩),.int .i64 x] ⟨68,mpW false m ws,[(65,ws.length)],0,(tb 24 16777215),0,True⟩)=some (Value.bool (bits BinOp.and u64 ((Zb (Zd undef (v64 ws) (0+(i64.wrap (x.tdiv (64:Int))).toNat*1))).fdiv ((2:Int)^min (x.tmod (64:Int)).toNat 64)) (1:Int)==(1:Int)),(((bif decide ((0:Int)≤x.tmod (64:Int)) then(((bif Qc (0+(i64.wrap (x.tdiv (64:Int))).toNat*1+1) (v64 ws)&&Zs [Value.int .u64 0] (v64 ws) (0+(i64.wrap (x.tdiv (64:Int))).toNat*1) then(bif decide ((0:Int)≤i64.wrap (x.tdiv (64:Int)))&&decide (i64.wrap (x.tdiv (64:Int))<(↑ws.length:Int)) then((((((((((((((((True∧tt)∧tt)∧tt)∧decide (x≥(0:Int))=true)∧decide (x≥(0:Int))=true)∧decide (x≥(0:Int))=true)∧decide (x≥(0:Int))=true)∧decide (x≥(0:Int))=true)∧decide (x≥(0:Int))=true)∧decide (x≥(0:Int))=true)∧decide (x<(↑m:Int))=true)∧decide (x<(↑m:Int))=true)∧decide (x<(↑m:Int))=true)∧decide (x<(↑m:Int))=true)∧decide (x<(↑m:Int))=true)∧decide (x<(↑m:Int))=true)∧decide (x<(↑m:Int))=true else False)∧decide (x<(↑m:Int))=true else False)∧decide (x<(↑m:Int))=true)∧decide (x<(↑m:Int))=true)∧decide (x<(↑m:Int))=true else False)∧decide (x<(↑m:Int))=true)∧decide (x<(↑m:Int))=true)∧decide (x<(↑m:Int))=true):=by kernel_rfl
def bn (f:Nat→Bool):Nat→Nat
 | 0=>0
 | n+1=>(f 0).toNat+2*bn (fun i=>f (i+1)) n
theorem KV:∀ (n:Nat) (f:Nat→Bool) (i:Nat),(bn f n).testBit i=(decide (i<n)&&f i)
 | 0,f,i=>by simp[bn]
 | n+1,f,0=>by
  simp only[rr, tt, bn,Nat.testBit_zero]
  cases f 0<;>simp<;>omega
 | n+1,f,i+1=>by
  rw[Nat.testBit_succ]
  have:bn f (n+1)/2=bn (fun i=>f (i+1)) n:=by
   simp only[rr, tt, bn]; cases f 0<;>simp<;>omega
  rw[this,KV n (fun i=>f (i+1)) i]
  simp
theorem Zgf:∀ (n:Nat) (f:Nat→Bool),bn f n<2^n
 | 0,f=>by simp[bn]
 | n+1,f=>by
  have:=Zgf n (fun i=>f (i+1))
  simp only[rr, tt, bn,Nat.pow_succ]
  cases f 0<;>simp<;>omega
theorem ZjL (f g:Nat→Bool) (n:Nat) (h:∀ i,i<n→f i=g i):bn f n=bn g n:=by
 apply Nat.eq_of_testBit_eq
 intro i
 rw[KV,KV]
 by_cases hi:i<n
 ·simp[hi,h i hi]
 ·simp[hi]
def XH (f:Nat→Bool) (g:Nat) (b:Bool):Nat→Bool:=fun i=>if i=g then b else f i
theorem Zgg (n:Nat) (h:n<18446744073709551616):u64.wrap (n:Int)=(n:Int):=by
 show(n:Int)%18446744073709551616=n
 omega
theorem ZmP (f:Nat→Bool) (j:Nat) (hj:j<64):bits .or .u64 ((bn f 64:Nat):Int) ((2^j:Nat):Int)=((bn (XH f j true) 64:Nat):Int):=by
 have h1:=Zgf 64 f
 show u64.wrap ((BitVec.ofInt 64 ((bn f 64:Nat):Int)|||BitVec.ofInt 64 ((2^j:Nat):Int)).toNat:Int)=_
 have he:(BitVec.ofInt 64 ((bn f 64:Nat):Int)|||BitVec.ofInt 64 ((2^j:Nat):Int)).toNat=bn (XH f j true) 64:=by
  apply Nat.eq_of_testBit_eq
  intro i
  rw[BitVec.testBit_toNat,BitVec.getLsbD_or,BitVec.ofInt_natCast,BitVec.ofInt_natCast,BitVec.getLsbD_ofNat,BitVec.getLsbD_ofNat,KV,KV,Nat.testBit_two_pow]
  by_cases hi:i<64
  ·by_cases h:i=j
   ·subst h; simp[hi,XH]
   ·have:¬ j=i:=fun e=>h e.symm
    simp[hi,XH,h,this]
  ·simp[hi]
 rw[he,Zgg _ (by have:=Zgf 64 (XH f j true); simpa using this)]
theorem UT (f:Nat→Bool) (j:Nat) (hj:j<64):bits .andNot .u64 ((bn f 64:Nat):Int) ((2^j:Nat):Int)=((bn (XH f j false) 64:Nat):Int):=by
 show u64.wrap ((BitVec.ofInt 64 ((bn f 64:Nat):Int) &&& ~~~ BitVec.ofInt 64 ((2^j:Nat):Int)).toNat:Int)=_
 have he:(BitVec.ofInt 64 ((bn f 64:Nat):Int) &&& ~~~ BitVec.ofInt 64 ((2^j:Nat):Int)).toNat=bn (XH f j false) 64:=by
  apply Nat.eq_of_testBit_eq
  intro i
  rw[BitVec.testBit_toNat,BitVec.getLsbD_and,BitVec.getLsbD_not,BitVec.ofInt_natCast,BitVec.ofInt_natCast,BitVec.getLsbD_ofNat,BitVec.getLsbD_ofNat,KV,KV,Nat.testBit_two_pow]
  by_cases hi:i<64
  ·by_cases h:i=j
   ·subst h; simp[hi,XH]
   ·have:¬ j=i:=fun e=>h e.symm
    simp[hi,XH,h,this]
  ·simp[hi]
 rw[he,Zgg _ (by have:=Zgf 64 (XH f j false); simpa using this)]
theorem ZkZ (f:Nat→Bool) (j:Nat) (hj:j<64):(bits .and .u64 (((bn f 64:Nat):Int).fdiv ((2:Int)^j)) (1:Int)==(1:Int))=f j:=by
 have e2:(2:Int)^j=((2^j:Nat):Int):=by rw[Int.natCast_pow]; rfl
 rw[e2,fdA]
 have h1:=Zgf 64 f
 have hlt:bn f 64/2^j<2^64:=Nat.lt_of_le_of_lt (Nat.div_le_self _ _) h1
 have hb:bits .and .u64 ((bn f 64/2^j:Nat):Int) (1:Int)=((bn f 64/2^j%2:Nat):Int):=by
  show u64.wrap ((BitVec.ofInt 64 ((bn f 64/2^j:Nat):Int)&&&BitVec.ofInt 64 ((1:Nat):Int)).toNat:Int)=_
  rw[BitVec.ofInt_natCast,BitVec.ofInt_natCast,BitVec.toNat_and,BitVec.toNat_ofNat,BitVec.toNat_ofNat,Nat.mod_eq_of_lt hlt,Nat.mod_eq_of_lt (by omega:1<2^64),Nat.and_one_is_mod,Zgg _ (by omega)]
 rw[hb]
 have ht:(bn f 64).testBit j=f j:=by rw[KV]; simp[hj]
 rw[Nat.testBit_eq_decide_div_mod_eq] at ht
 rw[← ht]
 have:bn f 64/2^j%2=0∨bn f 64/2^j%2=1:=by omega
 rcases this with h|h<;>rw[h]<;>rfl
def Zm (f:Nat→Bool) (n:Nat):List Nat:=(List.range n).map fun k=>bn (fun i=>f (64*k+i)) 64
theorem Qm (f:Nat→Bool) (n:Nat):(Zm f n).length=n:=by simp[Zm]
theorem ZdU (f:Nat→Bool) (n k:Nat) (h:k<n):Zb (Zd undef (v64 (Zm f n)) k)=((bn (fun i=>f (64*k+i)) 64:Nat):Int):=by
 unfold v64
 rw[YY _ _ (0:Nat),if_pos (by rw[Qm]; exact h)]
 show(((Zm f n).getD k 0:Nat):Int)=_
 rw[List.getD_eq_getElem?_getD]
 simp[Zm,h]
theorem Jo (f:Nat→Bool) (n k:Nat) (h:k<n):Zs [.int .u64 0] (v64 (Zm f n)) k=true:=by
 simp only[rr, tt, Zs,Bool.and_true]
 unfold v64
 rw[YY _ _ (0:Nat),if_pos (by rw[Qm]; exact h)]
 rfl
theorem ZaP (ws:List Nat) (k:Nat):Qc k (v64 ws)=decide (k≤ws.length):=by
 rw[Bool.eq_iff_iff,QM]; simp[v64]
theorem Z4 (ws:List Nat):∀ v∈v64 ws,ZP v=true:=fun v hv=>by
 obtain⟨b,_,rfl⟩:=List.mem_map.1 hv; rfl
theorem ZcR (f g:Nat→Bool) (n k:Nat) (h:k<n) (he:∀ i,i/64≠k→f i=g i) (v:Nat) (hv:v=bn (fun i=>g (64*k+i)) 64):QL k [.int .u64 (v:Nat)] (v64 (Zm f n))=v64 (Zm g n):=by
 apply List.ext_getElem?
 intro j
 rw[Yv _ _ _ _ (by simp[v64,Qm]; omega)]
 simp only[rr, tt, v64,List.getElem?_map,List.length_singleton]
 by_cases hj:k≤j∧j<k+1
 ·have:j=k:=by omega
  subst this
  rw[if_pos hj]
  simp[Zm,h,hv]
 ·rw[if_neg hj]
  by_cases hn:j<n
  ·simp only[rr, tt, Zm,List.getElem?_map,List.getElem?_range hn,Option.map_some]
   rw[ZjL (fun i=>f (64*j+i)) (fun i=>g (64*j+i)) 64 (fun i hi=>he _ (by omega))]
  ·simp only[rr, tt, Zm,List.getElem?_map]
   have hnone:(List.range n)[j]? = none:=List.getElem?_eq_none (by simp; omega)
   simp only[rr, tt, hnone,Option.map_none]
theorem ZbZ:YN Tryz.prog 3 (J1 ZhR):=by
 intro f args s c ρ q h hq
 unfold J1 at h
 obtain⟨h2,h3⟩:=ZL h
 have h2:=eB h2
 subst h2
 split at h3
 ·cases h3; exact ZkY _
 ·cases h3
theorem Zgh {q:Nat→Bool} (h:∀ l,l<68→q l=true) (rw:Bool) (m:Nat) (ws:List Nat):OkH q (mpW rw m ws) :=
 ⟨⟨h 66 (by omega),rfl,fun v hv=>ZM 3 v (Zf9 h m ws.length v hv)⟩,⟨h 65 (by omega),h 65 (by omega),Zv (Z4 ws)⟩,trivial⟩
def ZoF (args:List Value) (v:Value) (m n:Nat) (f g:Nat→Bool):Con:=⟨args,68,mpW true m (Zm f n),[(65,n)],v,68,[(65,⟨true,some (65,1),v64 (Zm g n),none⟩)],[]⟩
theorem ZcS {fn:FuncId} {args:List Value} {v:Value} {m n:Nat} {f g:Nat→Bool} {T:List (Nat×Bool)} {s':Sy.St} (ha:args.all (okV (fun l=>Nat.blt l 68) 3)=true) (hv:Yr v=true) (hu:isU v=false)
  (hr:evF Tryz.prog (ZH 3 (J1 ZhR)) Zf 100 40 fn args ⟨68,mpW true m (Zm f n),[(65,n)],0,T,0,True⟩=some (v,s')) (hO:s'.O) (h65:Sy.look s'.h 65=some ⟨true,some (65,1),v64 (Zm g n),none⟩):ConOk Tryz.prog fn 3 (ZoF args v m n f g):=by
 refine ZF (Zu (L:=100) Zn (Z1 ZbZ) (Zj _) 40) ⟨by show 64≤68; omega,Nat.le_refl _,Zgh ZaF true m _,rfl,rfl,rfl,ha,Qy hv 1,fun x hx v hv => ?_⟩ hr hO (p:=fun l=>Nat.blt l 68) (σ:=id) ?_
 ·obtain rfl:=List.mem_singleton.1 hx
  exact ZS (Z4 _ v hv) 3
 ·refine⟨fun _ _=>rfl,⟨⟨rfl,Zh (Z4 _),rfl,?_⟩,trivial⟩,rfl,trivial,⟨Qy hv 1,by rw[Yd]; rfl⟩,hu,⟨⟨rfl,rfl,Zv (Z4 _)⟩,trivial⟩,rfl,Yb _ hv,fun x _ _ => .inl rfl⟩
  simp only[rr, tt, id,h65]
  exact⟨rfl,rfl,trivial,(Qr _ rfl _).symm⟩
def ZoG (g m n:Nat) (f:Nat→Bool) (v:Int):Con:=ZoF [.pointer (some ⟨66,0,none⟩),.int .i64 (g:Nat),.int .i64 ((g:Nat)+1:Nat)] (.int .i64 v) m n f (XH f g false)
def ZoH (g m n:Nat) (f:Nat→Bool) (b:Bool):Con:=ZoF [.pointer (some ⟨66,0,none⟩),.int .i64 (g:Nat),.bool b] (.bool true) m n f (XH f g b)
theorem ZaQ (f:Nat→Bool) (g:Nat) (b:Bool):∀ i,i/64≠g/64→f i=XH f g b i:=fun i hi=>by
 unfold XH
 rw[if_neg (fun e=>hi (by rw[e]))]
theorem J2 (f:Nat→Bool) (g:Nat) (b:Bool):bn (XH (fun i=>f (64*(g/64)+i)) (g%64) b) 64=bn (fun i=>XH f g b (64*(g/64)+i)) 64:=by
 refine ZjL _ _ 64 fun i hi => ?_
 unfold XH
 by_cases h:i=g%64
 ·rw[if_pos h,if_pos (by omega)]
 ·rw[if_neg h,if_neg (by omega)]
theorem Zk0 (g m n:Nat) (f:Nat→Bool) (b:Bool) (hg:g<m) (hm:m≤64*n) (hn:n≤100000):ConOk Tryz.prog 47 3 (ZoH g m n f b):=by
 have hk:g/64<n:=by omega
 have e1:i64.wrap ((g:Int).tdiv (64:Int))=((g/64:Nat):Int):=by rw[show(g:Int).tdiv (64:Int)=((g/64:Nat):Int) from(Int.ofNat_tdiv g 64).symm,XS _ (by omega)]
 have e2:(g:Int).tmod (64:Int)=((g%64:Nat):Int):=(Int.ofNat_tmod g 64).symm
 have e3:min (g%64) 64=g%64:=Nat.min_eq_left (by omega)
 have hp:2^(g%64)≤2^63:=Nat.pow_le_pow_right (by omega) (by omega)
 have e4:u64.wrap ((1:Int)*(2:Int)^(g%64))=((2^(g%64):Nat):Int):=by
  rw[Int.one_mul,show(2:Int)^(g%64)=((2^(g%64):Nat):Int) by rw[Int.natCast_pow]; rfl,Zgg _ (by omega)]
 cases b
 ·have hr:=pw_f ZhR (g:Int) m (Zm f n)
  simp only[rr, tt, Qm] at hr
  simp(disch:=omega) only[rr, tt, e1,e2,e3,e4,Int.toNat_natCast,Nat.zero_add,Nat.mul_one,ZdU,UT] at hr
  rw[ZcR f (XH f g false) n (g/64) hk (ZaQ f g false) _ (J2 f g false)] at hr
  refine ZcS rfl rfl rfl hr ?_ rfl
  simp(disch:=omega) only[rr, tt, ZaP,Jo,Qm,decide_eq_true,decide_eq_false,Bool.and_self,Bool.not_true,Bool.not_false,cond_true,and_true,true_and,and_self,ge_iff_le]
 ·have hr:=pw_t ZhR (g:Int) m (Zm f n)
  simp only[rr, tt, Qm] at hr
  simp(disch:=omega) only[rr, tt, e1,e2,e3,e4,Int.toNat_natCast,Nat.zero_add,Nat.mul_one,ZdU,ZmP] at hr
  rw[ZcR f (XH f g true) n (g/64) hk (ZaQ f g true) _ (J2 f g true)] at hr
  refine ZcS rfl rfl rfl hr ?_ rfl
  simp(disch:=omega) only[rr, tt, ZaP,Jo,Qm,decide_eq_true,decide_eq_false,Bool.and_self,Bool.not_true,Bool.not_false,cond_true,and_true,true_and,and_self,ge_iff_le]
theorem Zk1 (g m n:Nat) (f:Nat→Bool) (hg:g<m) (hm:m≤64*n) (hn:n≤100000):∃ v:Int,ConOk Tryz.prog 78 3 (ZoG g m n f v):=by
 have hk:g/64<n:=by omega
 have hr:=cw_a ZhR (g:Int) ((g+1:Nat):Int) m (Zm f n)
 have x1:(if(0:Int)>(g:Int) then(0:Int) else(g:Int))=(g:Int):=if_neg (by omega)
 have x2:(if(m:Int)<((g+1:Nat):Int) then(m:Int) else((g+1:Nat):Int))=((g+1:Nat):Int):=if_neg (by omega)
 have e1:i64.wrap ((g:Int).tdiv (64:Int))=((g/64:Nat):Int):=by rw[show(g:Int).tdiv (64:Int)=((g/64:Nat):Int) from(Int.ofNat_tdiv g 64).symm,XS _ (by omega)]
 have x3:i64.wrap (((g/64:Nat):Int)*(64:Int))=((g/64*64:Nat):Int):=by rw[show((g/64:Nat):Int)*(64:Int)=((g/64*64:Nat):Int) by omega,XS _ (by omega)]
 have x4:i64.wrap (((g/64:Nat):Int)+(1:Int))=((g/64+1:Nat):Int):=ZQ _ (by omega)
 have x5:i64.wrap (((g/64+1:Nat):Int)*(64:Int))=(((g/64+1)*64:Nat):Int):=by rw[show((g/64+1:Nat):Int)*(64:Int)=(((g/64+1)*64:Nat):Int) by omega,XS _ (by omega)]
 have x6:i64.wrap ((g:Int)-((g/64*64:Nat):Int))=((g%64:Nat):Int):=by rw[show(g:Int)-((g/64*64:Nat):Int)=((g%64:Nat):Int) by omega,XS _ (by omega)]
 have x7:i64.wrap (((g+1:Nat):Int)-((g/64*64:Nat):Int))=((g%64+1:Nat):Int):=by rw[show((g+1:Nat):Int)-((g/64*64:Nat):Int)=((g%64+1:Nat):Int) by omega,XS _ (by omega)]
 have x8:(if(64:Int)<((g%64+1:Nat):Int) then(64:Int) else((g%64+1:Nat):Int))=((g%64+1:Nat):Int):=if_neg (by omega)
 have x9:(if(0:Int)>((g%64:Nat):Int) then(0:Int) else((g%64:Nat):Int))=((g%64:Nat):Int):=if_neg (by omega)
 have y1:i64.wrap (((g%64+1:Nat):Int)-((g%64:Nat):Int))=(1:Int):=by rw[show((g%64+1:Nat):Int)-((g%64:Nat):Int)=((1:Nat):Int) by omega,XS _ (by omega)]; rfl
 have y2:i64.wrap ((64:Int)-(1:Int))=(63:Int):=by kernel_rfl
 have y3:Int.fdiv (18446744073709551615:Int) ((2:Int)^min (63:Int).toNat 64)=1:=by kernel_rfl
 have e3:min (g%64) 64=g%64:=Nat.min_eq_left (by omega)
 have hp:2^(g%64)≤2^63:=Nat.pow_le_pow_right (by omega) (by omega)
 have e4:u64.wrap ((1:Int)*(2:Int)^(g%64))=((2^(g%64):Nat):Int):=by
  rw[Int.one_mul,show(2:Int)^(g%64)=((2^(g%64):Nat):Int) by rw[Int.natCast_pow]; rfl,Zgg _ (by omega)]
 simp only[rr, tt, Qm] at hr
 simp(disch:=omega) only[rr, tt, x1,x2,e1,x3,x4,x5,x6,x7,x8,x9,y1,y2,y3,e3,e4,Int.toNat_natCast,Nat.zero_add,Nat.mul_one,ZdU,UT] at hr
 rw[ZcR f (XH f g false) n (g/64) hk (ZaQ f g false) _ (J2 f g false)] at hr
 refine⟨_,ZcS rfl rfl rfl hr ?_ rfl⟩
 simp(disch:=omega) only[rr, tt, ZaP,Jo,Qm,decide_eq_true,decide_eq_false,Bool.and_self,Bool.not_true,Bool.not_false,cond_true,and_true,true_and,and_self,ge_iff_le]
def gtwC (g m n:Nat) (f:Nat→Bool):Con:=⟨[.pointer (some ⟨66,0,none⟩),.int .i64 (g:Nat)],68,mpW false m (Zm f n),[(65,n)],.bool (f g),68,[],[]⟩
theorem Zk2 (g m n:Nat) (f:Nat→Bool) (hg:g<m) (hm:m≤64*n) (hn:n≤100000):ConOk Tryz.prog 68 3 (gtwC g m n f):=by
 have hk:g/64<n:=by omega
 have e1:i64.wrap ((g:Int).tdiv (64:Int))=((g/64:Nat):Int):=by rw[show(g:Int).tdiv (64:Int)=((g/64:Nat):Int) from(Int.ofNat_tdiv g 64).symm,XS _ (by omega)]
 have e2:(g:Int).tmod (64:Int)=((g%64:Nat):Int):=(Int.ofNat_tmod g 64).symm
 have e3:min (g%64) 64=g%64:=Nat.min_eq_left (by omega)
 have hr:=gw_a ZhR (g:Int) m (Zm f n)
 simp only[rr, tt, Qm] at hr
 simp(disch:=omega) only[rr, tt, e1,e2,e3,Int.toNat_natCast,Nat.zero_add,Nat.mul_one,ZdU,ZkZ] at hr
 have hfg:f (64*(g/64)+g%64)=f g:=by rw[show 64*(g/64)+g%64=g by omega]
 rw[hfg] at hr
 unfold obs at hr
 obtain⟨⟨v',s'⟩,h1,h2⟩:=oM hr
 simp only[rr, tt, Prod.mk.injEq] at h2
 obtain⟨rfl,hq⟩:=h2
 refine ZF (Zu (L:=100) Zn (Z1 ZbZ) (Zj _) 40) ⟨by show 64≤68; omega,Nat.le_refl _,Zgh ZaF false m _,rfl,rfl,rfl,rfl,rfl,fun x hx=>by cases hx⟩ h1 ?_ (p:=fun l=>Nat.blt l 68) (σ:=id) ?_
 ·rw[hq]
  simp(disch:=omega) only[rr, tt, ZaP,Jo,Qm,decide_eq_true,decide_eq_false,Bool.and_self,Bool.not_true,Bool.not_false,cond_true,and_true,true_and,and_self,ge_iff_le]
 ·exact⟨fun _ _=>rfl,trivial,rfl,trivial,⟨rfl,by rw[Yd]; rfl⟩,rfl,trivial,rfl,Zz _ rfl,fun x hx=>by cases hx⟩
def bls (f:Nat→Bool) (m:Nat):List Value:=(List.range m).map fun i => .bool (f i)
def arR (rw:Bool) (zs:List UInt8) (f:Nat→Bool) (N m:Nat):Sy.Heap:=[(66,⟨rw,none,[.slice (some ⟨64,0,none⟩) N (big+64),.slice (some ⟨65,0,none⟩) m (big+65)],none⟩),(65,⟨rw,some (65,1),bls f m,none⟩),(64,⟨rw,some (64,1),u8s zs,none⟩)]
def Zb0 (N m:Nat):List (Nat×Nat):=[(65,m),(64,N)]
def rwE (a:Nat) (d:List UInt8):List (Nat×Value):=[(0,.pointer (some ⟨66,0,none⟩)),(1,.int .u32 (a:Nat)),(2,.string ⟨⟨d⟩⟩),(6,.bool false)]
def rwI (a:Nat) (d zs:List UInt8) (f:Nat→Bool) (N m:Nat) (k:Nat):Sf:=⟨67,rwE a d++[(7,.int .i64 (k:Nat))],arR true zs f N m,Zb0 N m⟩
theorem ZoI (p:Int):evF Tryz.prog ZD Zf 100 40 17 [Value.int .i64 p] ⟨64,[],[],0,[(0,false),(1,false)],0,True⟩=some (Value.tuple { toList:=[Value.pointer (some ⟨66,0,none⟩),.int .i64 0] },{ n:=67,h:=[(66,⟨true,none,[Value.slice (some ⟨64,0,none⟩) (i64.wrap (p*(256:Int))).toNat 9223372036854775872,.slice (some ⟨65,0,none⟩) (i64.wrap ((i64.wrap (p*(256:Int))).tdiv (16:Int))).toNat 9223372036854775873],none⟩),(65,⟨true,some (65,1),K7 (i64.wrap ((i64.wrap (p*(256:Int))).tdiv (16:Int))).toNat [Value.bool false],none⟩),(64,⟨true,some (64,1),K7 (i64.wrap (p*(256:Int))).toNat [Value.int .u8 0],none⟩)],lo:=[(65,(i64.wrap ((i64.wrap (p*(256:Int))).tdiv (16:Int))).toNat),(64,(i64.wrap (p*(256:Int))).toNat)],esc:=0,T:=[],k:=2,O:=bif decide ((0:Int)≤i64.wrap ((i64.wrap (p*(256:Int))).tdiv (16:Int)))&&decide (i64.wrap ((i64.wrap (p*(256:Int))).tdiv (16:Int))≤i64.wrap ((i64.wrap (p*(256:Int))).tdiv (16:Int)))&&decide ((1:Int)*i64.wrap ((i64.wrap (p*(256:Int))).tdiv (16:Int))≤(140737488355328:Int))&&decide (i64.wrap ((i64.wrap (p*(256:Int))).tdiv (16:Int))<(9223372036854775808:Int)) then bif decide ((0:Int)≤i64.wrap (p*(256:Int)))&&decide (i64.wrap (p*(256:Int))≤i64.wrap (p*(256:Int)))&&decide ((1:Int)*i64.wrap (p*(256:Int))≤(140737488355328:Int))&&decide (i64.wrap (p*(256:Int))<(9223372036854775808:Int)) then(True∧decide (p<(16:Int))=false)∧decide (p>(1024:Int))=false else False else False:St }):=by kernel_rfl
theorem ZoJ (a:Nat) (d:List UInt8) (zs:List UInt8) (f:Nat→Bool) (N:Nat) (m:Nat) (k:Nat):evC Tryz.prog (evF Tryz.prog ZD Zf 100 20) (Zf 19) 42 100 (ZB Tryz.prog 19 0) (Sf.frT 42 (rwI a d zs f N m k) [(0,true)])=some (Exit.normal,{ e:=[[Value.pointer (some ⟨66,0,none⟩),.int .u32 (↑a),.string ⟨⟨d⟩⟩,unk,unk,unk,.bool false,.int .i64 (i64.wrap ((↑k:Int)+(1:Int))),unk,unk,unk,unk,unk,unk,.int .i64 (↑k),.string ⟨⟨d⟩⟩],[Value.int .i64 (↑(Zr d)),.bool (decide ((↑k:Int)<(↑(Zr d):Int))),.int .i64 (↑k),.int .i64 (i64.wrap ((↑k:Int)+(1:Int))),.pointer (some ⟨66,0,none⟩),.pointer (some ⟨66,0,none⟩),.pointer (some ⟨66,0,none⟩),.slice (some ⟨64,0,none⟩) N 9223372036854775872,.int .u32 (↑a),.int .i64 (i64.wrap (↑a)),.int .i64 (↑k),.int .i64 (i64.wrap (i64.wrap (↑a)+(↑k:Int))),.string ⟨⟨d⟩⟩,.int .i64 (↑k),.int .u8 (↑(d.getD (↑k:Int).toNat (0:UInt8)).toNat:Int),.pointer (some { block:=64,off:=0+(i64.wrap (i64.wrap (↑a)+(↑k:Int))).toNat*1 })],[Value.pointer (some ⟨66,0,none⟩),.pointer (some ⟨66,0,none⟩),.pointer (some { block:=66,off:=1 }),.slice (some ⟨65,0,none⟩) m 9223372036854775873,.int .u32 (↑a),.int .i64 (i64.wrap (↑a)),.int .i64 (↑k),.int .i64 (i64.wrap (i64.wrap (↑a)+(↑k:Int))),.int .i64 (i64.wrap ((i64.wrap (i64.wrap (↑a)+(↑k:Int))).tdiv (16:Int))),.pointer (some { block:=65,off:=0+(i64.wrap ((i64.wrap (i64.wrap (↑a)+(↑k:Int))).tdiv (16:Int))).toNat*1 }),unk,unk,unk,unk,unk,unk]],s:={ n:=67,h:=[(66,⟨true,none,[Value.slice (some ⟨64,0,none⟩) N 9223372036854775872,.slice (some ⟨65,0,none⟩) m 9223372036854775873],none⟩),(65,⟨true,some (65,1),QL (0+(i64.wrap ((i64.wrap (i64.wrap (↑a)+(↑k:Int))).tdiv (16:Int))).toNat*1) [Value.bool false] (bls f m),none⟩),(64,⟨true,some (64,1),QL (0+(i64.wrap (i64.wrap (↑a)+(↑k:Int))).toNat*1) [Value.int .u8 (↑(d.getD (↑k:Int).toNat (0:UInt8)).toNat:Int)] (u8s zs),none⟩)],lo:=[(65,m),(64,N)],esc:=0,T:=[],k:=1,O:=bif Qc (0+(i64.wrap ((i64.wrap (i64.wrap (↑a)+(↑k:Int))).tdiv (16:Int))).toNat*1+1) (bls f m)&&true&&true then bif decide ((0:Int)≤i64.wrap ((i64.wrap (i64.wrap (↑a)+(↑k:Int))).tdiv (16:Int)))&&decide (i64.wrap ((i64.wrap (i64.wrap (↑a)+(↑k:Int))).tdiv (16:Int))<(↑m:Int)) then bif Qc (0+(i64.wrap (i64.wrap (↑a)+(↑k:Int))).toNat*1+1) (u8s zs)&&true&&true then bif decide ((0:Int)≤i64.wrap (i64.wrap (↑a)+(↑k:Int)))&&decide (i64.wrap (i64.wrap (↑a)+(↑k:Int))<(↑N:Int)) then bif decide ((0:Int)≤(↑k:Int))&&decide ((↑k:Int)<(↑(Zr d):Int)) then True∧decide ((↑k:Int)<(↑(Zr d):Int))=true else False else False else False else False else False:St }:Fr }):=by kernel_rfl
theorem ZoK (a:Nat) (d:List UInt8) (zs:List UInt8) (f:Nat→Bool) (N:Nat) (m:Nat) (k:Nat):evC Tryz.prog (evF Tryz.prog ZD Zf 100 20) (Zf 19) 42 100 (ZB Tryz.prog 19 0) (Sf.frT 42 (rwI a d zs f N m k) [(0,false)])=some (Exit.exit 0,{ e:=mkE 42 [(0,Value.pointer (some ⟨66,0,none⟩)),(1,.int .u32 (↑a)),(2,.string ⟨⟨d⟩⟩),(6,.bool false),(7,.int .i64 (↑k)),(14,.int .i64 (↑k)),(15,.string ⟨⟨d⟩⟩),(16,Value.int .i64 (↑(Zr d))),(17,.bool (decide ((↑k:Int)<(↑(Zr d):Int))))],s:={ n:=67,h:=[(66,⟨true,none,[Value.slice (some ⟨64,0,none⟩) N 9223372036854775872,.slice (some ⟨65,0,none⟩) m 9223372036854775873],none⟩),(65,⟨true,some (65,1),bls f m,none⟩),(64,⟨true,some (64,1),u8s zs,none⟩)],lo:=[(65,m),(64,N)],esc:=0,T:=[],k:=1,O:=True∧decide ((↑k:Int)<(↑(Zr d):Int))=false:St }:Fr }):=by kernel_rfl
theorem Z8 (f:Nat→Bool) (m:Nat):∀ v∈bls f m,ZP v=true:=fun v hv=>by
 obtain⟨b,_,rfl⟩:=List.mem_map.1 hv; rfl
theorem Zgi (f:Nat→Bool) (m:Nat):(bls f m).length=m:=by simp[bls]
theorem ZcT (f:Nat→Bool) (m n:Nat):Qc n (bls f m)=decide (n≤m):=by
 rw[Bool.eq_iff_iff,QM,Zgi]; simp
theorem Zgj (f:Nat→Bool) (m g:Nat) (b:Bool) (h:g<m):QL g [.bool b] (bls f m)=bls (XH f g b) m:=by
 apply List.ext_getElem?
 intro j
 rw[Yv _ _ _ _ (by simp[Zgi]; omega)]
 simp only[rr, tt, bls,List.getElem?_map,List.length_singleton]
 by_cases hj:g≤j∧j<g+1
 ·have:j=g:=by omega
  subst this
  rw[if_pos hj,List.getElem?_range h]
  simp[XH]
 ·rw[if_neg hj]
  by_cases hn:j<m
  ·rw[List.getElem?_range hn]
   simp only[rr, tt, Option.map_some,XH]
   rw[if_neg (by omega)]
  ·rw[List.getElem?_eq_none (by simp; omega)]; rfl
theorem Zgk (f:Nat→Bool) (g:Nat) (h:f g=false):XH f g false=f:=by
 funext i; unfold XH; split
 ·rename_i e; rw[e,h]
 ·rfl
theorem Zgl (f:Nat→Bool) (m i:Nat) (h:i<m):Zd undef (bls f m) i = .bool (f i):=by
 unfold bls
 rw[YY _ _ (0:Nat),if_pos (by simpa using h)]
 simp[List.getD_eq_getElem?_getD,h]
theorem Zgm (a k:Nat) (d zs:List UInt8) (h:a+d.length≤zs.length) (hk:k<d.length):QK (a+k) [d.getD k 0] (QK a (d.take k) zs)=QK a (d.take (k+1)) zs:=by
 have hl1:(d.take k).length=k:=by simp; omega
 have hl2:(d.take (k+1)).length=k+1:=by simp; omega
 have hp:(QK a (d.take k) zs).length=zs.length:=Kg _ _ _ (by omega)
 apply List.ext_getElem?
 intro j
 rw[Vg _ _ _ (by rw[hp]; simp; omega),Vg _ _ _ (by omega),Vg _ _ _ (by omega),hl1,hl2]
 simp only[rr, tt, List.length_singleton]
 by_cases h1:j=a+k
 ·subst h1
  rw[if_pos ⟨by omega,by omega⟩,if_pos ⟨by omega,by omega⟩,show a+k-(a+k)=0 by omega,show a+k-a=k by omega,List.getElem?_take_of_lt (by omega),List.getD_eq_getElem?_getD,List.getElem?_eq_getElem hk]
  rfl
 ·rw[if_neg (by omega)]
  by_cases h2:a≤j∧j<a+k
  ·rw[if_pos h2,if_pos ⟨h2.1,by omega⟩,List.getElem?_take_of_lt (by omega),List.getElem?_take_of_lt (by omega)]
  ·rw[if_neg h2,if_neg (by omega)]
theorem Zim (a:Nat) (zs:List UInt8):QK a [] zs=zs:=by simp[QK]
structure ArK (zs:List UInt8) (N m:Nat):Prop where
 len:zs.length=N
 tags:N≤16*m
 big:m≤100000
 big2:N≤1000000
theorem Kh {q:Nat→Bool} (h4:q 64=true) (h5:q 65=true) (N m:Nat):∀ v∈([.slice (some ⟨64,0,none⟩) N (big+64),.slice (some ⟨65,0,none⟩) m (big+65)]:List Value),okV q 3 v=true:=by
 intro v hv
 simp only[rr, tt, List.mem_cons,List.not_mem_nil,or_false] at hv
 rcases hv with rfl|rfl<;>simp[okV,QP,h4,h5,ZP,big]
theorem KO {q:Nat→Bool} (h:∀ l,l<67→q l=true) (rw:Bool) (zs:List UInt8) (f:Nat→Bool) (N m:Nat) {l:Sy.Heap} (hl:OkH q l):OkH q (arR rw zs f N m++l) :=
 ⟨⟨h 66 (by omega),rfl,fun v hv=>ZM 3 v (Kh (h 64 (by omega)) (h 65 (by omega)) N m v hv)⟩,⟨h 65 (by omega),h 65 (by omega),Zv (Z8 f m)⟩,⟨h 64 (by omega),h 64 (by omega),Zv (Zp zs)⟩,hl⟩
theorem Zgn {q:Nat→Bool} (h:∀ l,l<67→q l=true) (rw:Bool) (zs:List UInt8) (f:Nat→Bool) (N m:Nat):∀ x∈arR rw zs f N m,∀ v∈x.2.cells,okV q 3 v=true:=fun x hx v hv=>by
 simp only[rr, tt, arR,List.mem_cons,List.not_mem_nil,or_false] at hx
 rcases hx with rfl|rfl|rfl
 ·exact Kh (h 64 (by omega)) (h 65 (by omega)) N m v hv
 ·exact ZS (Z8 f m v hv) 3
 ·exact ZS (Zp zs v hv) 3
theorem ZdV (rw:Bool) (zs:List UInt8) (f:Nat→Bool) (N m:Nat):∀ x∈arR rw zs f N m,x.2.op≠none→∀ v∈x.2.cells,ZP v=true:=fun x hx hne=>by
 simp only[rr, tt, arR,List.mem_cons,List.not_mem_nil,or_false] at hx
 rcases hx with rfl|rfl|rfl
 ·exact absurd rfl hne
 ·exact Z8 f m
 ·exact Zp zs
theorem Jp {h1:Sy.Heap} {p:Nat→Bool} (hp:∀ l,l<67→p l=true) (zs:List UInt8) (f:Nat→Bool) (N m:Nat) (cs bs:List Value) {l:Sy.Heap} (h66:Sy.look h1 66=some ⟨true,none,[.slice (some ⟨64,0,none⟩) N (big+64),.slice (some ⟨65,0,none⟩) m (big+65)],none⟩) (h65:Sy.look h1 65=some ⟨true,some (65,1),bs,none⟩) (h64:Sy.look h1 64=some ⟨true,some (64,1),cs,none⟩) (hb:bs=bls f m) (hc:cs=u8s zs) (hl:Ya 3 p id h1 l):Ya 3 p id h1 (arR true zs f N m++l):=by
 refine⟨⟨hp 66 (by omega),List.all_eq_true.2 (Kh (hp 64 (by omega)) (hp 65 (by omega)) N m),rfl,?_⟩,⟨hp 65 (by omega),Zh (Z8 f m),hp 65 (by omega),?_⟩,⟨hp 64 (by omega),Zh (Zp zs),hp 64 (by omega),?_⟩,hl⟩
 ·simp only[rr, tt, id,h66]; exact⟨rfl,rfl,trivial,(Qr _ rfl _).symm⟩
 ·simp only[rr, tt, id,h65]; exact⟨rfl,rfl,trivial,by rw[Qr _ rfl,hb]⟩
 ·simp only[rr, tt, id,h64]; exact⟨rfl,rfl,trivial,by rw[Qr _ rfl,hc]⟩
theorem ltZ (n:Nat):∀ l,l<n→(fun l=>Nat.blt l n) l=true:=fun l hl=>Zt hl
theorem UU (n:Nat):∀ l,l<n→Z3 n n id (fun l=>Nat.blt l n) l=true:=fun l hl=>by
 show(Nat.blt l NG||(bif Nat.blt l n then(Nat.beq l l&&Nat.blt l n) else Nat.blt l n))=true
 rw[Zt hl,Nat.beq_refl]
 cases Nat.blt l NG<;>rfl
theorem ZjM {q:Nat→Bool} (a:Nat) (d:List UInt8) (h:q 66=true):∀ x∈rwE a d,okV q 3 x.2=true:=fun x hx=>by
 simp only[rr, tt, rwE,List.mem_cons,List.not_mem_nil,or_false] at hx
 rcases hx with rfl|rfl|rfl|rfl<;>simp[okV,QP,h,ZP]
def rwF (a:Nat) (d zs:List UInt8) (f:Nat→Bool) (N m:Nat):Sf:=⟨67,rwE a d,arR true zs f N m,Zb0 N m⟩
theorem Zk3 (a:Nat) (d zs:List UInt8) (f:Nat→Bool) (N m:Nat) (h:ArK zs N m) (ha:a+d.length≤N) (hf:∀ i,i<d.length→f ((a+i)/16)=false) :
  ∀ k:{ k:Nat // k≤d.length },Qj Tryz.prog 42 (ZB Tryz.prog 19 0) ((rwI a d (QK a (d.take k.1) zs) f N m k.1).fr 42) (.exit 0) ((rwF a d (QK a d zs) f N m).fr 42):=by
 obtain⟨hl,h1,h2,h3⟩:=h
 refine Xn (L:=100) (ZU _ _ 19) (fun _ h=>h) (X:={ k:Nat // k≤d.length }) (fun k=>rwI a d (QK a (d.take k.1) zs) f N m k.1) (fun _=>rwF a d (QK a d zs) f N m) (fun _ => .exit 0) (fun k=>d.length-k.1) (fun k => ?_) ?_
 ·exact⟨by show 64≤67; omega,Sf.Ok.mk' 3 (by have:=KO (ltZ 67) true (QK a (d.take k.1) zs) f N m (l:=[]) trivial; rwa [List.append_nil] at this) rfl (fun x hx=>by
   rcases List.mem_append.1 (show x∈rwE a d++[(7,.int .i64 (k.1:Nat))] from hx) with hx|hx
   ·exact ZjM a d rfl x hx
   ·obtain rfl:=List.mem_singleton.1 hx; rfl)⟩
 rintro⟨k,hk⟩
 have hF:(rwF a d (QK a d zs) f N m).Ok (Z3 67 67 id (fun l=>Nat.blt l 67)) :=
  Sf.Ok.mk' 3 (by have:=KO (UU 67) true (QK a d zs) f N m (l:=[]) trivial; rwa [List.append_nil] at this) rfl (ZjM a d rfl)
 by_cases hlt:k<d.length
 ·have hpl:(QK a (d.take k) zs).length=N:=by rw[Kg _ _ _ (by simp; omega),hl]
  have hr:=ZoJ a d (QK a (d.take k) zs) f N m k
  have e1:i64.wrap (i64.wrap (a:Int)+(k:Int))=((a+k:Nat):Int):=by rw[XS a (by omega),ZaI,XS _ (by omega)]
  have e2:i64.wrap (((a+k:Nat):Int).tdiv (16:Int))=(((a+k)/16:Nat):Int):=by rw[Wm,XS _ (by omega)]
  have e5:i64.wrap ((k:Int)+(1:Int))=((k+1:Nat):Int):=ZQ k (by omega)
  simp only[rr, tt, e1,e2,e5,Int.toNat_natCast,Nat.zero_add,Nat.mul_one] at hr
  have hset:QL (a+k) [Value.int .u8 (((d.getD k 0).toNat:Nat):Int)] (u8s (QK a (d.take k) zs))=u8s (QK a (d.take (k+1)) zs):=by
   rw[← Zgm a k d zs (by omega) hlt]
   exact JY (a+k) [d.getD k 0] _ _ rfl (by rw[hpl]; simp; omega)
  rw[Zgj f m _ false (by omega),Zgk f _ (hf k hlt),hset] at hr
  refine⟨_,_,.normal,_,3,fun l=>Nat.blt l 67,id,Zu (L:=100) Zn (Zx _) (Zj _) 20,hr,?_,.inl ⟨rfl,⟨k+1,by omega⟩,by show d.length-(k+1)<d.length-k; omega,rfl,rfl,?_⟩⟩
  ·simp(disch:=omega) only[rr, tt, ZcT,XR,hpl,Zq,decide_eq_true,decide_eq_false,Bool.and_self,Bool.and_true,cond_true,and_true,true_and,and_self]
  ·have hs:=Jp (l:=[]) (ltZ 67) (QK a (d.take (k+1)) zs) f N m _ _ (h1:=[(66,⟨true,none,[.slice (some ⟨64,0,none⟩) N (big+64),.slice (some ⟨65,0,none⟩) m (big+65)],none⟩),(65,⟨true,some (65,1),bls f m,none⟩),(64,⟨true,some (64,1),u8s (QK a (d.take (k+1)) zs),none⟩)]) rfl rfl rfl rfl rfl trivial
   rw[List.append_nil] at hs
   exact⟨fun _ _=>rfl,hs,rfl,⟨⟨rfl,Nat.le_refl _⟩,⟨rfl,Nat.le_refl _⟩,trivial⟩,⟨⟨by kernel_rfl,by kernel_rfl⟩,⟨by kernel_rfl,by kernel_rfl⟩,⟨by kernel_rfl,by kernel_rfl⟩,⟨by kernel_rfl,by kernel_rfl⟩,⟨by kernel_rfl,by kernel_rfl⟩,trivial⟩,Nat.le_refl _,fun l hl=>ZN hl,hF,fun x _ _ => .inl rfl⟩
 ·have hkk:k=d.length:=by omega
  subst hkk
  have hr:=ZoK a d (QK a (d.take d.length) zs) f N m d.length
  rw[List.take_length] at hr
  refine⟨_,_,.exit 0,_,3,fun l=>Nat.blt l 67,id,Zu (L:=100) Zn (Zx _) (Zj _) 20,(by rw[List.take_length]; exact hr),?_,.inr ⟨by simp,rfl,?_⟩⟩
  ·exact⟨trivial,by rw[Zq]; exact decide_eq_false (by omega)⟩
  ·have hs:=Jp (l:=[]) (ltZ 67) (QK a d zs) f N m _ _ (h1:=arR true (QK a d zs) f N m) rfl rfl rfl rfl rfl trivial
   rw[List.append_nil] at hs
   exact⟨fun _ _=>rfl,hs,rfl,⟨⟨rfl,Nat.le_refl _⟩,⟨rfl,Nat.le_refl _⟩,trivial⟩,⟨⟨by kernel_rfl,by kernel_rfl⟩,⟨by kernel_rfl,by kernel_rfl⟩,⟨by kernel_rfl,by kernel_rfl⟩,⟨by kernel_rfl,by kernel_rfl⟩,trivial⟩,Nat.le_refl _,fun l hl=>ZN hl,hF,fun x _ _ => .inl rfl⟩
def ZoL (a:Nat) (d zs:List UInt8) (f:Nat→Bool) (N m:Nat) (h:ArK zs N m) (ha:a+d.length≤N) (hf:∀ i,i<d.length→f ((a+i)/16)=false):Ent Tryz.prog :=
 Vl Tryz.prog 19 0 42 (rwI a d zs f N m 0) (.exit 0) (rwF a d (QK a d zs) f N m) (by kernel_rfl) (by kernel_rfl) (by
  have:=Zk3 a d zs f N m h ha hf ⟨0,Nat.zero_le _⟩
  rw[List.take_zero,Zim] at this
  exact this)
theorem ZoM (a:Nat) (d zs:List UInt8) (f:Nat→Bool) (N m:Nat) (h:ArK zs N m) (ha:a+d.length≤N) (hf:∀ (i:Nat),i<d.length→f ((a+i)/16)=false):evF Tryz.prog ZD (YD [ZoL a d zs f N m h ha hf]) 100 20 19 [Value.pointer (some ⟨66,0,none⟩),.int .u32 (↑a),.string ⟨⟨d⟩⟩] ⟨67,arR true zs f N m,Zb0 N m,0,(tb 20 524287),0,True⟩=some (Value.bool true,{ n:=67,h:=[(66,⟨true,none,[Value.slice (some ⟨64,0,none⟩) N 9223372036854775872,.slice (some ⟨65,0,none⟩) m 9223372036854775873],none⟩),(65,⟨true,some (65,1),bls f m,none⟩),(64,⟨true,some (64,1),u8s (QK a d zs),none⟩)],lo:=[(65,m),(64,N),(65,m),(64,N)],esc:=0,T:=[],k:=20,O:=((((((((((((((((((((True∧decide ((↑(Zr d):Int)≥(0:Int))=true)∧decide ((↑(Zr d):Int)≥(0:Int))=true)∧decide ((↑(Zr d):Int)≥(0:Int))=true)∧decide ((↑(Zr d):Int)≥(0:Int))=true)∧decide ((↑(Zr d):Int)≥(0:Int))=true)∧decide ((↑(Zr d):Int)≥(0:Int))=true)∧decide ((↑(Zr d):Int)≥(0:Int))=true)∧decide ((↑(Zr d):Int)≥(0:Int))=true)∧decide ((↑(Zr d):Int)≤(↑N:Int))=true)∧decide ((↑(Zr d):Int)≤(↑N:Int))=true)∧decide ((↑(Zr d):Int)≤(↑N:Int))=true)∧decide ((↑(Zr d):Int)≤(↑N:Int))=true)∧decide ((↑(Zr d):Int)≤(↑N:Int))=true)∧decide ((↑(Zr d):Int)≤(↑N:Int))=true)∧decide ((↑(Zr d):Int)≤(↑N:Int))=true)∧decide ((↑(Zr d):Int)≤(↑N:Int))=true)∧decide ((↑(Zr d):Int)≤(↑N:Int))=true)∧decide ((↑(Zr d):Int)≤(↑N:Int))=true)∧decide ((↑(Zr d):Int)≤(↑N:Int))=true)∧(!decide (i64.wrap (↑a)≤i64.wrap ((↑N:Int)-(↑(Zr d):Int))))=false)∧(rr (Value.pointer (some ⟨66,0,none⟩))∧rr (Value.int .u32 (↑a))∧rr (Value.string ⟨⟨d⟩⟩)∧rr (Value.bool false)∧rr (Value.int .i64 0)∧True)∧((tt∧tt∧True∧rr [Value.slice (some ⟨64,0,none⟩) N 9223372036854775872,.slice (some ⟨65,0,none⟩) m 9223372036854775873])∧(tt∧tt∧True∧rr (bls f m))∧(tt∧tt∧True∧rr (u8s zs))∧True)∧(m≤m∧N≤N∧True)∧True:St }):=by kernel_rfl
structure Box (p:Prop):Prop where
 out:p
theorem QS {p:Prop} (h:p):Hid p:=h
theorem KW (a:Addr) (n:Nat):(a.add n).block=a.block:=by unfold Addr.add; split<;>rfl
theorem ZeW (a:Addr) (i j:Nat):(a.add i).add j=a.add (i+j):=by
 unfold Addr.add
 by_cases hi:i=0<;>by_cases hj:j=0<;>simp[hi,hj,Nat.add_assoc]
def Yo (w:World) (B size:Nat) (A:Option Addr) (n:Nat) (xs:List Value):Prop :=
 xs.length=n*size∧(0<n→∃ ad,A=some ad∧ad.block<B∧∀ j u,xs[j]? = some u→w.cell? (ad.add j)=some u)
section
variable {w w':World} {B B' size n:Nat} {A:Option Addr} {xs:List Value}
theorem Yo.at_ {k:Nat} (h:Yo w B 1 A n xs) (hk:k<n):∃ ad u,A=some ad∧ad.block<B∧xs[k]? = some u∧w.cell? (ad.add k)=some u:=by
 obtain⟨ad,e,hb,hc⟩:=h.2 (by omega)
 have hl:k<xs.length:=by have:=h.1; omega
 exact⟨ad,xs[k],e,hb,List.getElem?_eq_getElem hl,hc k _ (List.getElem?_eq_getElem hl)⟩
theorem Yo.keep (h:Yo w B size A n xs) (hk:∀ p:Addr,p.block<B→w'.cell? p=w.cell? p):Yo w' B size A n xs :=
 ⟨h.1,fun hn=>by
  obtain⟨ad,e,hb,hc⟩:=h.2 hn
  exact⟨ad,e,hb,fun j u hu=>(hk _ (by rw[KW]; exact hb)).trans (hc j u hu)⟩⟩
theorem Yo.more (h:Yo w B size A n xs) (hB:B≤B'):Yo w B' size A n xs :=
 ⟨h.1,fun hn=>by
  obtain⟨ad,e,hb,hc⟩:=h.2 hn
  exact⟨ad,e,by omega,hc⟩⟩
theorem Yo.below (h:Yo w B size A n xs) (hb:Below B w w'):Yo w' B size A n xs:=h.keep fun _ hp=>hb.cell hp
theorem Yo.drew (h:Yo w B size A n xs):Yo w.drew B size A n xs:=h
theorem Yo.drewN (h:Yo w B size A n xs) (k:Nat):Yo (w.drewN k) B size A n xs:=h
theorem Yo.alloc (h:Yo w B size A n xs) (hB:B≤w.heap.size) (o:Obj):Yo (w.alloc o) B size A n xs:=h.keep fun p hp=>World.cell?_alloc_lt w o p (by omega)
theorem Yo.setCell (h:Yo w B size A n xs) {p:Addr} (hB:B≤p.block) (u:Value):Yo (w.setCell p u) B size A n xs :=
 h.keep fun q hq=>World.cell?_setCell_other w p q u (fun e=>by subst e; omega)
theorem Yo.cut (h:Yo w B size A n xs) {k cap:Nat} (hk:k≤n) (hc:n≤cap) :
  Yo w B size (if cap=k then A else A.map (·.add (k*size))) (n-k) (xs.drop (k*size)):=by
 refine⟨by rw[List.length_drop,h.1,Nat.sub_mul],fun hn => ?_⟩
 obtain⟨ad,rfl,hb,hcell⟩:=h.2 (by omega)
 rw[if_neg (by omega)]
 refine⟨ad.add (k*size),rfl,by rw[KW]; exact hb,fun j u hu => ?_⟩
 rw[ZeW]
 exact hcell _ u (by rw[← hu,List.getElem?_drop])
end
def Blk (w:World) (g:Nat) (t:TypeId) (cs:Array Value):Prop:=w.heap[g]? = some (.cells cs t (0,0))
section
variable {w w':World} {g:Nat} {t:TypeId} {cs:Array Value}
theorem Blk.lt (h:Blk w g t cs):g<w.heap.size:=by
 rcases Nat.lt_or_ge g w.heap.size with hlt|hge
 ·exact hlt
 ·unfold Blk at h; rw[Array.getElem?_eq_none hge] at h; cases h
theorem Blk.cell (h:Blk w g t cs) (i:Nat):w.cell? ⟨g,i,none⟩=cs[i]?:=cell_of_row w g i cs t (0,0) h
theorem Blk.frozen (h:Blk w g t cs) (i:Nat):w.frozen? ⟨g,i,none⟩=false:=by
 unfold Blk at h
 simp[World.frozen?,h]
theorem Blk.new (w:World) (t:TypeId) (cs:Array Value):Blk (w.alloc (.cells cs t)) w.heap.size t cs:=heap_alloc_new w _
theorem Blk.drew (h:Blk w g t cs):Blk w.drew g t cs:=h
theorem Blk.drewN (h:Blk w g t cs) (n:Nat):Blk (w.drewN n) g t cs:=h
theorem Blk.alloc (h:Blk w g t cs) (o:Obj):Blk (w.alloc o) g t cs:=(Below.heap_alloc w o g h.lt).trans h
theorem Blk.set_ (h:Blk w g t cs) (i:Nat) (u:Value):Blk (w.setCell ⟨g,i,none⟩ u) g t (cs.setIfInBounds i u):=by
 unfold Blk at h ⊢
 simp[World.setCell,Array.getElem?_modify,h]
theorem Blk.far (h:Blk w g t cs) {p:Addr} (hp:g≠p.block) (u:Value):Blk (w.setCell p u) g t cs:=(Below.heap_setCell w p u g hp).trans h
theorem Blk.below {B:Nat} (h:Blk w g t cs) (hb:Below B w w') (hg:g<B):Blk w' g t cs:=(hb.block g hg).trans h
end
def Row (w:World) (B:Nat) (A:Option Addr) (xs:List Value):Prop :=
 xs=[]∨∃ g off,A=some ⟨g,off,none⟩∧g<B∧∀ j u,xs[j]? = some u→w.cell? ⟨g,off+j,none⟩=some u
section
variable {w w':World} {B B':Nat} {A:Option Addr} {xs:List Value}
theorem Row.keep (h:Row w B A xs) (hk:∀ p:Addr,p.block<B→w'.cell? p=w.cell? p):Row w' B A xs:=by
 rcases h with h|⟨g,off,e,hb,hc⟩
 ·exact .inl h
 ·exact .inr ⟨g,off,e,hb,fun j u hu=>(hk _ hb).trans (hc j u hu)⟩
theorem Row.more (h:Row w B A xs) (hB:B≤B'):Row w B' A xs:=by
 rcases h with h|⟨g,off,e,hb,hc⟩
 ·exact .inl h
 ·exact .inr ⟨g,off,e,by omega,hc⟩
theorem Row.below (h:Row w B A xs) (hb:Below B w w'):Row w' B A xs:=h.keep fun _ hp=>hb.cell hp
theorem Row.drew (h:Row w B A xs):Row w.drew B A xs:=h
theorem Row.drewN (h:Row w B A xs) (k:Nat):Row (w.drewN k) B A xs:=h
theorem Row.alloc (h:Row w B A xs) (hB:B≤w.heap.size) (o:Obj):Row (w.alloc o) B A xs:=h.keep fun p hp=>World.cell?_alloc_lt w o p (by omega)
theorem Row.setCell (h:Row w B A xs) {p:Addr} (hB:B≤p.block) (u:Value):Row (w.setCell p u) B A xs :=
 h.keep fun q hq=>World.cell?_setCell_other w p q u (fun e=>by subst e; omega)
theorem Row.cut (h:Row w B A xs) {k cap:Nat} (hk:k≤xs.length) (hc:xs.length≤cap) :
  Row w B (if cap=k then A else A.map (·.add (k*1))) (xs.drop k):=by
 rcases Nat.lt_or_ge k xs.length with hlt|hge
 ·rcases h with h|⟨g,off,rfl,hb,hcell⟩
  ·subst h; simp at hlt
  ·rw[if_neg (by omega)]
   refine .inr ⟨g,off+k,?_,hb,fun j u hu => ?_⟩
   ·simp only[rr, tt, Option.map_some,Nat.mul_one,Addr.add]; split
    ·rename_i h0; subst h0; rfl
    ·rfl
   ·rw[List.getElem?_drop] at hu
    rw[Nat.add_assoc]; exact hcell _ u hu
 ·left; exact List.drop_eq_nil_of_le hge
theorem Row.take (h:Row w B A xs) (k:Nat):Row w B A (xs.take k):=by
 rcases h with h|⟨g,off,e,hb,hc⟩
 ·exact .inl (by simp[h])
 ·exact .inr ⟨g,off,e,hb,fun j u hu=>hc j u (by
   rw[List.getElem?_take] at hu; split at hu
   ·exact hu
   ·cases hu)⟩
theorem Row.place (h:Row w B A xs) (hx:0<xs.length):∃ g off,A=some ⟨g,off,none⟩∧g<B∧∀ j u,xs[j]? = some u→w.cell? ⟨g,off+j,none⟩=some u:=by
 rcases h with h|h
 ·subst h; simp at hx
 ·exact h
end
def bs (l:List UInt8):ByteArray:=⟨l.toArray⟩
@[go_sem] theorem bs_size (l:List UInt8):(bs l).size=l.length:=by simp[bs,ByteArray.size]
@[go_sem] theorem bs_toList (l:List UInt8):(bs l).toList=l:=ByteArray.toList_mk l
@[go_sem] theorem bs_append (a b:List UInt8):bs a++bs b=bs (a++b):=ByteArray.mk_append_mk a b
@[go_sem] theorem bs_extract (l:List UInt8) (a b:Nat):(bs l).extract a b=bs ((l.drop a).take (b-a)):=ByteArray.extract_mk l a b
@[go_sem] theorem bs_get (l:List UInt8) (i:Nat) (h:i<(bs l).size):(bs l)[i]'h=l[i]'(by simpa [bs_size] using h):=by
 simp[bs,ByteArray.getElem_eq_getElem_data]
theorem ZaR {k:IntKind} {a b:Int} (h:a=b):Ending.returned (.int k a) = .returned (.int k b):=by rw[h]
theorem Xo {a b:Bool} (h:a=b):Ending.returned (.bool a) = .returned (.bool b):=by rw[h]
theorem Xp {B:Nat} {w w':World} (h:Below B w.drew w'):Below B w w':=⟨h.os,h.tape,h.output,h.size,h.block⟩
theorem ZI {B:Nat} {a w:World} (h:Below B a w) (n:Nat):Below B a (w.drewN n):=⟨h.os,h.tape,h.output,h.size,h.block⟩
theorem ZmQ {W w1:World} (hb:Below W.heap.size W w1):(∀ b o,b<W.heap.size→w1.cell? ⟨b,o,none⟩=W.cell? ⟨b,o,none⟩)∧(∀ b o,b<W.heap.size→w1.frozen? ⟨b,o,none⟩=W.frozen? ⟨b,o,none⟩) :=
 ⟨fun b o h=>hb.cell (p:=⟨b,o,none⟩) h,fun b o h=>hb.frozen (p:=⟨b,o,none⟩) h⟩
theorem ZeX {P:Program} {f:FuncId} {args:Array Value} {w:World} {n:Nat} {v:Value}
  (h:Calls P f args (w.drewN n) fun e w'=>e = .returned v∧w.drewN n=w'):Calls P f args (w.drewN n) fun e w''=>e = .returned v∧∃ m,w''=w.drewN m :=
 h.mono fun _ _ ⟨he,hm⟩=>⟨he,n,hm.symm⟩
def Xf (x edge:Nat):Nat:=if x<edge then 1 else 0
theorem WE (x edge:Nat):Xf x edge≤1:=by unfold Xf; split<;>omega
def WL (b:Nat):Nat:=(b+3072)%4096
def Ja (e b c:Nat):Int:=((c/2^e/4096:Nat):Int)-(Xf (c/2^e%4096) (WL b):Nat)
def ofN (e b c x:Nat):Int:=((Ja e b c+(Xf x (WL b):Nat))*4096+x)*2^e
def Zb1 (e b t:Nat):Bool:=decide (e≤21)&&decide (b<4096)&&decide (t<4096)
def Yp (e b t c:Nat):Int:=if Zb1 e b t then ofN e b c b else 0
def Yy (e b t c:Nat):Int:=if Zb1 e b t then ofN e b c t else 0
def QW (e b t c:Nat):Bool:=Zb1 e b t&&decide (0≤Yp e b t c)&&decide (Yp e b t c≤Yy e b t c)&&decide (Yy e b t c≤4294967296)
theorem Zb2 {e b t:Nat} (h:Zb1 e b t=true):e≤21∧b<4096∧t<4096:=by
 simp only[rr, tt, Zb1,Bool.and_eq_true,decide_eq_true_eq] at h; exact⟨h.1.1,h.1.2,h.2⟩
theorem ZaS {e b t:Nat} (h1:e≤21) (h2:b<4096) (h3:t<4096):Zb1 e b t=true:=by simp[Zb1,h1,h2,h3]
theorem Q1 {e:Nat} (h:e≤21):2^e≤2097152:=by
 have:=Nat.pow_le_pow_right (n:=2) (by omega) h
 simpa using this
theorem Qz (e:Nat):0<2^e:=Nat.pow_pos (by omega)
theorem Zgo {e b c:Nat} (hc:c<4294967296) : -1≤Ja e b c∧Ja e b c≤1048575:=by
 unfold Ja
 have h1:=WE (c/2^e%4096) (WL b)
 have h2:c/2^e≤c:=Nat.div_le_self _ _
 generalize c/2^e=q at h1 h2 ⊢
 have h3:q/4096≤1048575:=by omega
 omega
theorem ZeY {e:Nat} (he:e≤21) (y:Int) (h1 : -8589934592≤y) (h2:y≤8589934592) : -9223372036854775808≤y*2^e∧y*2^e≤9223372036854775807:=by
 have hp:=Q1 he
 have h0:=Qz e
 have e1:((2:Int)^e)=((2^e:Nat):Int):=by simp
 rw[e1]
 generalize 2^e=u at hp h0
 have a1:y*(u:Int)≤8589934592*(u:Int):=Int.mul_le_mul_of_nonneg_right h2 (by omega)
 have a2 : -8589934592*(u:Int)≤y*(u:Int):=Int.mul_le_mul_of_nonneg_right h1 (by omega)
 omega
theorem ZoN {e b c x:Nat} (hc:c<4294967296) (hx:x<65536) : -8589934592≤(Ja e b c+(Xf x (WL b):Nat))*4096+x∧(Ja e b c+(Xf x (WL b):Nat))*4096+x≤8589934592:=by
 have h1:=WE x (WL b)
 have h2:=Zgo (e:=e) (b:=b) hc
 omega
def dnN (x e:Nat):Nat:=x/2^e*2^e
def upN (x e:Nat):Nat:=(x+(2^e-1))/2^e*2^e
def YP (b t e:Nat):Bool:=decide (upN t e-dnN b e≤2048*2^e)
def Qv (b t:Nat):Nat→Nat→Nat
 | 0,e=>e
 | n+1,e=>if YP b t e then e else Qv b t n (e+1)
def Z2 (b t:Nat):Nat:=Qv b t 21 0
theorem ZcU (x e:Nat):dnN x e≤x:=Nat.div_mul_le_self _ _
theorem ZcV (x e:Nat):x≤upN x e:=by
 unfold upN
 have h0:=Qz e
 have h1:=Nat.div_add_mod (x+(2^e-1)) (2^e)
 have h2:=Nat.mod_lt (x+(2^e-1)) h0
 rw[Nat.mul_comm] at h1
 omega
theorem ZeZ (x e:Nat):upN x e<x+2^e:=by
 unfold upN
 have h0:=Qz e
 have h1:=Nat.div_mul_le_self (x+(2^e-1)) (2^e)
 omega
theorem ZaT {x e k:Nat} (h:x≤k*2^e):upN x e≤k*2^e:=by
 unfold upN
 have h0:=Qz e
 have:(x+(2^e-1))/2^e≤k:=by
  have h1:(x+(2^e-1))/2^e<k+1:=(Nat.div_lt_iff_lt_mul h0).2 (by rw[Nat.add_mul,Nat.one_mul]; omega)
  omega
 exact Nat.mul_le_mul_right _ this
theorem Ki {t e:Nat} (he:e≤21) (ht:t≤4294967296):upN t e≤4294967296:=by
 have hd:2^e*2^(32-e)=4294967296:=by rw[← Nat.pow_add,show e+(32-e)=32 by omega]
 have:=ZaT (x:=t) (e:=e) (k:=2^(32-e)) (by rw[Nat.mul_comm,hd]; exact ht)
 rw[Nat.mul_comm,hd] at this
 exact this
theorem ZcW {b t:Nat} (ht:t≤4294967296):YP b t 21=true:=by
 unfold YP
 have:=Ki (e:=21) (by omega) ht
 simp only[rr, tt, decide_eq_true_eq]
 omega
theorem ZcX (b t:Nat):∀ n e,Qv b t n e≤e+n:=by
 intro n
 induction n with
 | zero=>intro e; exact Nat.le_refl _
 | succ n ih =>
  intro e
  unfold Qv
  split
  ·omega
  ·have:=ih (e+1); omega
theorem VJ (b t:Nat):Z2 b t≤21:=by
 have:=ZcX b t 21 0
 unfold Z2; omega
theorem Kj (b t:Nat):∀ n e,(Qv b t n e=e+n∨YP b t (Qv b t n e)=true)∧∀ j,e≤j→j<Qv b t n e→YP b t j=false:=by
 intro n
 induction n with
 | zero=>intro e; exact⟨.inl rfl,fun j h1 h2=>by simp[Qv] at h2; omega⟩
 | succ n ih =>
  intro e
  unfold Qv
  split
  ·rename_i h; exact⟨.inr h,fun j h1 h2=>by omega⟩
  ·rename_i h
   obtain⟨h1,h2⟩:=ih (e+1)
   refine⟨?_,fun j hj1 hj2 => ?_⟩
   ·rcases h1 with h1|h1
    ·left; omega
    ·exact .inr h1
   ·rcases Nat.lt_or_ge j (e+1) with hj|hj
    ·obtain rfl:j=e:=by omega
     simpa using h
    ·exact h2 j hj hj2
theorem Wn {b t j:Nat} (h:j<Z2 b t):YP b t j=false:=(Kj b t 21 0).2 j (by omega) h
theorem Zin (a e:Nat) (ha:a<18446744073709551616) (he:e≤64):a&&&(18446744073709551615-(2^e-1))=a/2^e*2^e:=by
 have h0:=Qz e
 have h1:18446744073709551615-(2^e-1)=2^64-((2^e-1)+1):=by
  have:2^e≤2^64:=Nat.pow_le_pow_right (by omega) he
  omega
 rw[h1]
 apply Nat.eq_of_testBit_eq
 intro i
 have h2:2^e≤2^64:=Nat.pow_le_pow_right (by omega) he
 rw[Nat.testBit_and,Nat.testBit_two_pow_sub_succ (by omega),Nat.testBit_two_pow_sub_one,Nat.testBit_mul_two_pow,Nat.testBit_div_two_pow]
 by_cases hi:e≤i
 ·rw[Nat.sub_add_cancel hi]
  have e1:decide (i<e)=false:=by simp; omega
  have e2:decide (e≤i)=true:=by simpa using hi
  rw[e1,e2]
  by_cases h64:i<64
  ·have e3:decide (i<64)=true:=by simpa using h64
   rw[e3]; simp
  ·have:a.testBit i=false:=Nat.testBit_lt_two_pow (Nat.lt_of_lt_of_le ha (Nat.pow_le_pow_right (n:=2) (by omega) (show 64≤i by omega)))
   rw[this]; simp
 ·have e1:decide (i<e)=true:=by simp; omega
  have e2:decide (e≤i)=false:=by simpa using hi
  rw[e1,e2]; simp
theorem Zgp (b:Nat) (_hb:b<4096):bits .and .u16 (u16.wrap ((b:Int)-1024)) 4095=((WL b:Nat):Int):=by
 have e:u16.wrap ((b:Int)-1024)=(((b+64512)%65536:Nat):Int):=by rw[IntKind.wrap_u16]; omega
 rw[e]
 have:=u16_and_nat ((b+64512)%65536) 4095 (by omega) (by omega)
 rw[nat_mask12] at this
 rw[show((4095:Int))=((4095:Nat):Int) from rfl,this]
 unfold WL; omega
theorem Zio (q:Nat) (hq:q<4294967296):bits .and .i64 (q:Int) 4095=((q%4096:Nat):Int):=by
 have h1:(BitVec.ofInt 64 (q:Int)).toNat=q:=by
  rw[BitVec.ofInt_natCast,BitVec.toNat_ofNat]; exact Nat.mod_eq_of_lt (by omega)
 show i64.wrap ((BitVec.ofInt 64 (q:Int)&&&BitVec.ofInt 64 (4095:Int)).toNat:Int)=_
 rw[BitVec.toNat_and,h1,show(BitVec.ofInt 64 (4095:Int)).toNat=4095 from rfl,nat_mask12,IntKind.wrap_i64]
 omega
theorem Zip {e:Nat} (he:e≤21):u64.wrap (u64.wrap ((2:Int)^e)-1)=((2^e-1:Nat):Int):=by
 have hp:=Q1 he
 have h0:=Qz e
 have e1:((2:Int)^e)=((2^e:Nat):Int):=by simp
 rw[e1,IntKind.wrap_u64,IntKind.wrap_u64]
 generalize 2^e=u at hp h0
 omega
theorem Zb3 (x e:Nat) (hx:x<18446744073709551616) (he:e≤21):bits .andNot .u64 (x:Int) ((2^e-1:Nat):Int)=((x/2^e*2^e:Nat):Int):=by
 have hp:=Q1 he
 rw[u64_andNot_nat x (2^e-1) hx (by omega),Zin x e hx (by omega)]
theorem UV (x:Nat) (hx:x<18446744073709551616):bits .and .u64 (x:Int) 4095=((x%4096:Nat):Int):=by
 have:=u64_and_nat x 4095 hx (by omega)
 rw[nat_mask12] at this
 exact this
theorem ZjN (b e:Nat):dnN b e/2^e=b/2^e:=by
 unfold dnN; exact Nat.mul_div_cancel _ (Qz e)
def Qg (b t:Nat):Bool:=decide (b≤t)&&decide (t≤4294967296)
theorem J3 {k k':IntKind} {a b c d:Int} (h:a=b) (h':c=d):Ending.returned (.tuple #[.int k a,.int k' c]) = .returned (.tuple #[.int k b,.int k' d]):=by rw[h,h']
theorem ZdW (x edge:Nat) (a:Addr) (w:World) (hc:w.cell? a=some (.int .u16 edge)) :
  Calls Tryz.prog 113 #[.int .u16 x,.pointer (some a)] w fun e w'=>e = .returned (.int .i64 (Xf x edge:Nat))∧w=w':=by
 by_cases h:(x:Int)<edge
 ·have e:Xf x edge=1:=by unfold Xf; rw[if_pos (by omega)]
  rw[e]
  go_enter Tryz.func113,Tryz.ntmps113
  go_wp2
  go_ret
  exact⟨rfl,rfl⟩
 ·have e:Xf x edge=0:=by unfold Xf; rw[if_neg (by omega)]
  rw[e]
  go_enter Tryz.func113,Tryz.ntmps113
  go_wp2
  go_ret
  exact⟨rfl,rfl⟩
theorem Zgq (x edge:Int) (w:World) :
  Calls Tryz.prog 110 #[.int .i64 x,.int .i64 edge] w fun e w'=>e = .returned (.int .i64 (if x<edge then 1 else 0))∧w=w':=by
 by_cases h:x<edge
 ·rw[if_pos h]
  go_enter Tryz.func110,Tryz.ntmps110
  go_wp2
  go_ret
  exact⟨rfl,rfl⟩
 ·rw[if_neg h]
  go_enter Tryz.func110,Tryz.ntmps110
  go_wp2
  go_ret
  exact⟨rfl,rfl⟩
theorem ZjO (x b e c:Nat) (high r:Int) (edge:Nat) (hr:ofN e b c x=r) (hi:Ja e b c=high) (hed:WL b=edge) (ah at_ ae ed:Addr) (w:World) (hx:x<65536) (he:e≤21) (hc:c<4294967296)
  (h1:w.cell? ah=some (.int .i64 high)) (h2:w.cell? at_=some (.func (.func 113) #[] #[.pointer (some ed)])) (h3:w.cell? ae=some (.int .u8 e)) (h4:w.cell? ed=some (.int .u16 edge)) :
  Calls Tryz.prog 114 #[.int .u16 x,.pointer (some ah),.pointer (some at_),.pointer (some ae)] w fun e' w'=>e' = .returned (.int .i64 r)∧∃ m,w'=w.drewN m:=by
 have hh:=Zgo (e:=e) (b:=b) hc
 have ho:=ZoN (e:=e) (b:=b) (x:=x) hc hx
 have ht:=WE x (WL b)
 have hw:=ZeY he _ ho.1 ho.2
 have HO:Hid (wrap64 (((Ja e b c+(Xf x (WL b):Nat))*4096+x)*2^e)=r):=by
  show _=_
  rw[IntWalk.wrap64_in _ hw]; exact hr
 rw[hed] at ho ht HO
 rw[hi] at hh ho HO
 clear hw hed hi hr
 have ht2:(0:Int)≤(Xf x edge:Nat)∧((Xf x edge:Nat):Int)≤1:=by omega
 go_enter Tryz.func114,Tryz.ntmps114
 go_wp2_with fail
 go_quiet ((go_at_call 113; refine ZeX (ZdW x edge _ _ ?_); exact h4))
 go_wp2
 go_ret
 exact⟨ZaR HO.out,_,rfl⟩
theorem Zk4 (e b t c:Nat) (w:World) (h:Zb1 e b t=false) (hb:b<65536) (ht:t<65536) (he:e<256) :
  Calls Tryz.prog 106 #[.int .u8 e,.int .u16 b,.int .u16 t,.int .u32 c] w fun e' w'=>e' = .returned (.tuple #[.agg #[.int .i64 0,.int .i64 0],.bool false])∧Below w.heap.size w w':=by
 have hcase:(21:Int)<e∨((e:Int)≤21∧(4095:Int)<b)∨((e:Int)≤21∧(b:Int)≤4095∧(4095:Int)<t):=by
  by_cases h1:e≤21
  ·by_cases h2:b<4096
   ·by_cases h3:t<4096
    ·rw[ZaS h1 h2 h3] at h; cases h
    ·omega
   ·omega
  ·omega
 have H:=QS h; clear h
 rcases hcase with h1|⟨h1,h2⟩|⟨h1,h2,h3⟩
 ·go_enter Tryz.func106,Tryz.ntmps106
  go_wp2
  refine bodyPost_ret (v:=.tuple #[.agg #[.int .i64 0,.int .i64 0],.bool false]) (by simp[results,Tryz.results106,go_sem]<;>rfl) rfl ⟨rfl,?_⟩
  (repeat (first|exact Below.refl _ _|refine Below.drew ?_|refine ZI ?_ _|refine Below.alloc ?_ (by simp<;>omega) _|refine Below.setCell ?_ (by simp<;>omega) _))
 ·have d1:decide ((21:Int)<e)=false:=by simp; omega
  go_enter Tryz.func106,Tryz.ntmps106
  go_wp2
  refine bodyPost_ret (v:=.tuple #[.agg #[.int .i64 0,.int .i64 0],.bool false]) (by simp[results,Tryz.results106,go_sem]<;>rfl) rfl ⟨rfl,?_⟩
  (repeat (first|exact Below.refl _ _|refine Below.drew ?_|refine ZI ?_ _|refine Below.alloc ?_ (by simp<;>omega) _|refine Below.setCell ?_ (by simp<;>omega) _))
 ·have d1:decide ((21:Int)<e)=false:=by simp; omega
  have d2:decide ((4095:Int)<b)=false:=by simp; omega
  go_enter Tryz.func106,Tryz.ntmps106
  go_wp2
  refine bodyPost_ret (v:=.tuple #[.agg #[.int .i64 0,.int .i64 0],.bool false]) (by simp[results,Tryz.results106,go_sem]<;>rfl) rfl ⟨rfl,?_⟩
  (repeat (first|exact Below.refl _ _|refine Below.drew ?_|refine ZI ?_ _|refine Below.alloc ?_ (by simp<;>omega) _|refine Below.setCell ?_ (by simp<;>omega) _))
set_option maxHeartbeats 1000000 in
theorem Ziq (e b t c:Nat) (w:World) (he:e≤21) (hb:b<4096) (ht0:t<4096) (hc:c<4294967296) :
  Calls Tryz.prog 106 #[.int .u8 e,.int .u16 b,.int .u16 t,.int .u32 c] w fun e' w'=>e' = .returned (.tuple #[.agg #[.int .i64 (Yp e b t c),.int .i64 (Yy e b t c)],.bool (QW e b t c)])∧Below w.heap.size w w':=by
 obtain⟨B,hB⟩:∃ B,ofN e b c b=B:=⟨_,rfl⟩
 obtain⟨T,hT⟩:∃ T,ofN e b c t=T:=⟨_,rfl⟩
 have hmay:=ZaS he hb ht0
 have hok:QW e b t c=(decide (0≤B)&&decide (B≤T)&&decide (T≤4294967296)):=by
  unfold QW Yp Yy
  rw[hmay,if_pos rfl,if_pos rfl,hB,hT]; rfl
 have hB2:Yp e b t c=B:=by unfold Yp; rw[if_pos hmay,hB]
 have hT2:Yy e b t c=T:=by unfold Yy; rw[if_pos hmay,hT]
 rw[hok,hB2,hT2]
 clear hmay hok hB2 hT2
 have HB:=QS hB; clear hB
 have HT:=QS hT; clear hT
 have d1:decide ((21:Int)<e)=false:=by simp; omega
 have d2:decide ((4095:Int)<b)=false:=by simp; omega
 have d3:decide ((4095:Int)<t)=false:=by simp; omega
 obtain⟨q,hq⟩:∃ q,c/2^e=q:=⟨_,rfl⟩
 have hql:q<4294967296:=by rw[← hq]; exact Nat.lt_of_le_of_lt (Nat.div_le_self _ _) hc
 have hqi:(c:Int)/2^e=(q:Int):=by rw[← hq]; simp
 have hmb:=Zio q hql
 obtain⟨m,hm⟩:∃ m,q%4096=m:=⟨_,rfl⟩
 have hml:m<4096:=by omega
 have heb:=Zgp b hb
 obtain⟨edge,hed⟩:∃ k,WL b=k:=⟨_,rfl⟩
 have hel:edge<4096:=by rw[← hed]; unfold WL; omega
 have ht:=WE m edge
 have HH:Hid (Ja e b c=(q:Int)/4096-(Xf m edge:Nat)):=by
  show _=_
  unfold Ja; rw[hq,hm,hed]; omega
 rw[hm] at hmb
 rw[hed] at heb
 have HQ:=QS hq; clear hq
 have HM:=QS hm; clear hm
 have HE:=QS hed; clear hed
 have ht2:(0:Int)≤(Xf m edge:Nat)∧((Xf m edge:Nat):Int)≤1:=by omega
 go_enter Tryz.func106,Tryz.ntmps106
 go_wp2_with fail
 refine(ZdW m edge _ _ (by simp[go_sem])).mono ?_
 rintro e' w' ⟨rfl,rfl⟩
 go_wp2_with fail
 refine(ZjO b b e c _ B edge HB.out HH.out HE.out _ _ _ ⟨w.heap.size+1+1,0,none⟩ _ (by omega) he hc ?_ ?_ ?_ ?_).mono ?_
 ·simp[go_sem]
 ·simp[go_sem]
 ·simp[go_sem]
 ·simp[go_sem]
 rintro e' w' ⟨rfl,m1,rfl⟩
 go_wp2_with fail
 refine(ZjO t b e c _ T edge HT.out HH.out HE.out _ _ _ ⟨w.heap.size+1+1,0,none⟩ _ (by omega) he hc ?_ ?_ ?_ ?_).mono ?_
 ·simp[go_sem]
 ·simp[go_sem]
 ·simp[go_sem]
 ·simp[go_sem]
 rintro e' w' ⟨rfl,m2,rfl⟩
 go_wp2_with fail
 by_cases c1:0≤B
 ·by_cases c2:B≤T
  ·go_region
   go_wp2
   refine bodyPost_ret (v:=.tuple #[.agg #[.int .i64 B,.int .i64 T],.bool (decide (T≤4294967296))]) (by simp[results,Tryz.results106,go_sem]<;>rfl) rfl ⟨?_,?_⟩
   ·simp[c1,c2]
   ·(repeat (first|exact Below.refl _ _|refine Below.drew ?_|refine ZI ?_ _|refine Below.alloc ?_ (by simp<;>omega) _|refine Below.setCell ?_ (by simp<;>omega) _))
  ·have d4:decide (B≤T)=false:=by simpa using c2
   go_region
   go_wp2
   refine bodyPost_ret (v:=.tuple #[.agg #[.int .i64 B,.int .i64 T],.bool false]) (by simp[results,Tryz.results106,go_sem]<;>rfl) rfl ⟨?_,?_⟩
   ·simp
   ·(repeat (first|exact Below.refl _ _|refine Below.drew ?_|refine ZI ?_ _|refine Below.alloc ?_ (by simp<;>omega) _|refine Below.setCell ?_ (by simp<;>omega) _))
 ·have d4:decide (0≤B)=false:=by simpa using c1
  go_region
  go_wp2
  refine bodyPost_ret (v:=.tuple #[.agg #[.int .i64 B,.int .i64 T],.bool false]) (by simp[results,Tryz.results106,go_sem]<;>rfl) rfl ⟨?_,?_⟩
  ·simp
  ·(repeat (first|exact Below.refl _ _|refine Below.drew ?_|refine ZI ?_ _|refine Below.alloc ?_ (by simp<;>omega) _|refine Below.setCell ?_ (by simp<;>omega) _))
theorem ZaU (e b t c:Nat) (w:World) (he:e<256) (hb:b<65536) (ht:t<65536) (hc:c<4294967296) :
  Calls Tryz.prog 106 #[.int .u8 e,.int .u16 b,.int .u16 t,.int .u32 c] w fun e' w'=>e' = .returned (.tuple #[.agg #[.int .i64 (Yp e b t c),.int .i64 (Yy e b t c)],.bool (QW e b t c)])∧Below w.heap.size w w':=by
 by_cases h:Zb1 e b t=true
 ·obtain⟨h1,h2,h3⟩:=Zb2 h
  exact Ziq e b t c w h1 h2 h3 hc
 ·have h':Zb1 e b t=false:=by simpa using h
  have e1:Yp e b t c=0:=by unfold Yp; rw[if_neg h]
  have e2:Yy e b t c=0:=by unfold Yy; rw[if_neg h]
  have e3:QW e b t c=false:=by unfold QW; rw[h']; rfl
  rw[e1,e2,e3]
  exact Zk4 e b t c w h' hb ht he
theorem Zb4 {a b c d:Value} {x y:Bool} (h:x=y):Ending.returned (.tuple #[a,b,c,.bool x,d]) = .returned (.tuple #[a,b,c,.bool y,d]):=by rw[h]
theorem ZdX (u t:Nat):((u:Int)==(t:Int))=decide (u=t):=by
 rw[Bool.eq_iff_iff]; simp; omega
theorem Ye {fn:Func} {t u v x y:Tmp} (h:fn.results = #[.tmp t,.tmp u,.tmp v,.tmp x,.tmp y]) (tmps:Array Value) (P:Program) (w:World) :
  (results fn tmps).run P w = .ok (.tuple #[tmps.getD t undef,tmps.getD u undef,tmps.getD v undef,tmps.getD x undef,tmps.getD y undef]) w:=by simp[results,h]
theorem VK (b t e:Nat) (w:World) (hb:b<4294967296) (ht:t≤4294967296) (he:e≤21) :
  Calls Tryz.prog 101 #[.int .u32 b,.int .u64 t,.int .i64 e] w fun e' w'=>e' = .returned (.tuple #[.int .u64 (dnN b e),.int .u64 (upN t e)])∧w=w':=by
 have hp:=Q1 he
 have h0:=Qz e
 have hlw:=Zip he
 have a1:=Zb3 b e (by omega) he
 have a2:=Zb3 (t+(2^e-1)) e (by omega) he
 obtain⟨lo,hlo⟩:∃ lo,2^e-1=lo:=⟨_,rfl⟩
 have hlb:lo≤2097151:=by omega
 unfold dnN upN
 rw[hlo] at hlw a1 a2 ⊢
 have A1:=QS a1
 have A2:=QS a2
 clear a1 a2 hlo hp h0
 go_enter Tryz.func101,Tryz.ntmps101
 go_wp2
 go_ret2
 exact⟨J3 A1.out A2.out,rfl⟩
theorem Zir (b t:Nat) (w:World) (hb:b<4294967296) (ht:t<18446744073709551616) (h:Qg b t=false) :
  Calls Tryz.prog 99 #[.int .u32 b,.int .u64 t] w fun e' w'=>e' = .returned (.bool false)∧w=w':=by
 have hcase:(t:Int)<b∨((b:Int)≤t∧(4294967296:Int)<t):=by
  simp only[rr, tt, Qg,Bool.and_eq_false_iff,decide_eq_false_iff_not] at h; omega
 rcases hcase with h1|⟨h1,h2⟩
 ·have d1:decide ((b:Int)≤t)=false:=by simp; omega
  go_enter Tryz.func99,Tryz.ntmps99
  go_wp2
  go_ret
  exact⟨rfl,rfl⟩
 ·have d1:decide ((t:Int)≤4294967296)=false:=by simp; omega
  go_enter Tryz.func99,Tryz.ntmps99
  go_wp2
  go_ret
  exact⟨rfl,rfl⟩
theorem Zb5 (b t:Nat) (w:World) (h1:b≤t) (h2:t≤4294967296) :
  Calls Tryz.prog 99 #[.int .u32 b,.int .u64 t] w fun e' w'=>e' = .returned (.bool true)∧w=w':=by
 have d1:(b:Int)≤t:=by omega
 have d2:(t:Int)≤4294967296:=by omega
 have d3:decide ((t:Int)≤4294967296)=true:=by simpa using d2
 go_enter Tryz.func99,Tryz.ntmps99
 go_wp2
 go_ret
 exact⟨by first|rfl|simp[d2],rfl⟩
theorem KX (b t:Nat) (w:World) (hb:b<4294967296) (hbt:b≤t) (ht:t≤4294967296) :
  Calls Tryz.prog 100 #[.int .u32 b,.int .u64 t] w fun e' w'=>e' = .returned (.int .i64 (Z2 b t))∧w=w':=by
 go_enter Tryz.func100,Tryz.ntmps100
 go_wp2
 go_loop [8] (fun i=>∃ k:Nat,k≤21∧i = .int .i64 k∧Hid (Z2 b t=Qv b t (21-k) k)) (fun i=>(21-intOf i).toNat)
 case atStart=>exact⟨0,by omega,rfl,rfl⟩
 case round =>
  obtain⟨k,hk,rfl,HE⟩:=hrel
  by_cases h0:k<21
  ·have hd1:=ZcU b k
   have hd2:=ZcV t k
   have hd3:=ZeZ t k
   have hp:=Q1 hk
   have hle:dnN b k≤upN t k:=by omega
   have hul:upN t k≤4294967296+2097152:=by omega
   have hpw:u64.wrap ((2048:Int)*2^k)=((2048*2^k:Nat):Int):=by
    rw[IntKind.wrap_u64,show((2:Int)^k)=((2^k:Nat):Int) by simp]; omega
   obtain⟨p,hpp⟩:∃ p,2048*2^k=p:=⟨_,rfl⟩
   obtain⟨d,hd⟩:∃ d,dnN b k=d:=⟨_,rfl⟩
   obtain⟨u,hu⟩:∃ u,upN t k=u:=⟨_,rfl⟩
   have hra:=fun W=>VK b t k W hb ht hk
   have HF:Hid (YP b t k=decide (u-d≤p)):=by show _=_; unfold YP; rw[hpp,hd,hu]
   rw[hd,hu] at hra hle
   rw[hu] at hul
   rw[hpp] at hpw
   have HRA:=QS hra
   clear hra hpp hd hu hd1 hd2 hd3 hp
   by_cases hf:(u:Int)-d≤p
   ·go_wp2_with (go_at_call 101; refine(HRA.out _).mono ?_; rintro e' w' ⟨rfl,rfl⟩)
    go_ret
    refine⟨ZaR ?_,rfl⟩
    have hft:YP b t k=true:=by rw[HF.out]; simp; omega
    rw[HE.out,show 21-k=(20-k)+1 by omega,Qv,if_pos hft]
   ·go_wp2_with (go_at_call 101; refine(HRA.out _).mono ?_; rintro e' w' ⟨rfl,rfl⟩)
    have hft:YP b t k=false:=by rw[HF.out]; simp; omega
    have HT:Hid (Z2 b t=Qv b t (21-(k+1)) (k+1)):=by
     show _=_
     rw[HE.out,show 21-k=(21-(k+1))+1 by omega,Qv,hft]; rfl
    go_round
    case rel=>exact⟨k+1,by omega,by go_num,HT⟩
    case measure=>simp[intOf]; omega
  ·go_wp2
   go_ret
   obtain rfl:k=21:=by omega
   exact⟨ZaR (by rw[HE.out]; rfl),rfl⟩
def KP (b t:Nat):Nat:=if Qg b t then Z2 b t else 0
def KY (b t:Nat):Nat:=if Qg b t then b/2^Z2 b t%4096 else 0
def KZ (b t:Nat):Nat:=if Qg b t then upN t (Z2 b t)/2^Z2 b t%4096 else 0
def KA (b t:Nat):Bool:=Qg b t&&decide (dnN b (Z2 b t)=b)&&decide (upN t (Z2 b t)=t)
theorem J4 {b t:Nat} (h:Qg b t=true):b≤t∧t≤4294967296:=by
 simpa [Qg] using h
theorem UW (b t:Nat) (w:World) (hb:b<4294967296) (ht:t<18446744073709551616) :
  Calls Tryz.prog 75 #[.int .u32 b,.int .u64 t] w fun e' w'=>e' = .returned (.tuple #[.int .u8 (KP b t),.int .u16 (KY b t),.int .u16 (KZ b t),.bool (KA b t),.bool (Qg b t)])∧∃ m,w'=w.drewN m:=by
 by_cases hr:Qg b t=true
 ·obtain⟨h1,h2⟩:=J4 hr
  unfold KP KY KZ KA
  rw[hr,if_pos rfl,if_pos rfl,if_pos rfl]
  have hex:=fun W=>KX b t W hb h1 h2
  have hk:=VJ b t
  have hra:=fun W=>VK b t (Z2 b t) W hb h2 hk
  obtain⟨k,hkk⟩:∃ k,Z2 b t=k:=⟨_,rfl⟩
  rw[hkk] at hk hex hra ⊢
  have hd1:=ZcU b k
  have hd3:=ZeZ t k
  have hp:=Q1 hk
  obtain⟨x,hx⟩:∃ x,b/2^k=x:=⟨_,rfl⟩
  have hdx:=ZjN b k
  rw[hx] at hdx ⊢
  obtain⟨d,hd⟩:∃ d,dnN b k=d:=⟨_,rfl⟩
  obtain⟨u,hu⟩:∃ u,upN t k=u:=⟨_,rfl⟩
  rw[hd] at hdx hd1 hra ⊢
  rw[hu] at hd3 hra ⊢
  obtain⟨y,hy⟩:∃ y,u/2^k=y:=⟨_,rfl⟩
  rw[hy]
  have hxl:x<4294967296:=by rw[← hx]; exact Nat.lt_of_le_of_lt (Nat.div_le_self _ _) hb
  have hyl:y≤4297064448:=by rw[← hy]; exact Nat.le_trans (Nat.div_le_self _ _) (by omega)
  have i1:(d:Int)/2^k=(x:Int):=by rw[← hdx]; simp
  have i2:(u:Int)/2^k=(y:Int):=by rw[← hy]; simp
  have i3:=UV x (by omega)
  have i4:=UV y (by omega)
  obtain⟨xm,hxm⟩:∃ m,x%4096=m:=⟨_,rfl⟩
  obtain⟨ym,hym⟩:∃ m,y%4096=m:=⟨_,rfl⟩
  have hxml:xm<4096:=by omega
  have hyml:ym<4096:=by omega
  rw[hxm] at i3 ⊢
  rw[hym] at i4 ⊢
  have HX:=QS hex
  have HRA:=QS hra
  clear hkk hx hdx hd hu hy hxl hyl hxm hym hp hd1 hd3 hex hra hr
  by_cases c1:d=b
  ·have d1:((d:Int)==b)=true:=by rw[c1]; simp
   have C1:=QS c1
   clear c1
   go_enter Tryz.func75,Tryz.ntmps75
   go_wp2_with (first
    | (go_at_call 99; refine(Zb5 b t _ h1 h2).mono ?_; rintro e' w' ⟨rfl,rfl⟩)
    | (go_at_call 100; refine(HX.out _).mono ?_; rintro e' w' ⟨rfl,rfl⟩)
    | (go_at_call 101; refine(HRA.out _).mono ?_; rintro e' w' ⟨rfl,rfl⟩))
   go_quiet (fail)
   go_wp2
   refine bodyPost_ret (Ye rfl _ _ _) rfl ⟨?_,_,rfl⟩
   have c:=C1.out
   simp only[rr, tt, c,decide_true,Bool.true_and]
   exact Zb4 (ZdX u t)
  ·have d1:((d:Int)==b)=false:=by simp; omega
   have C1:=QS c1
   clear c1
   go_enter Tryz.func75,Tryz.ntmps75
   go_wp2_with (first
    | (go_at_call 99; refine(Zb5 b t _ h1 h2).mono ?_; rintro e' w' ⟨rfl,rfl⟩)
    | (go_at_call 100; refine(HX.out _).mono ?_; rintro e' w' ⟨rfl,rfl⟩)
    | (go_at_call 101; refine(HRA.out _).mono ?_; rintro e' w' ⟨rfl,rfl⟩))
   go_quiet (fail)
   go_wp2
   refine bodyPost_ret (Ye rfl _ _ _) rfl ⟨?_,_,rfl⟩
   have c:=C1.out
   simp only[rr, tt, c,decide_false,Bool.and_false,Bool.false_and]
   rfl
 ·have hr':Qg b t=false:=by simpa using hr
  unfold KP KY KZ KA
  rw[hr',if_neg (by simp),if_neg (by simp),if_neg (by simp)]
  have HR:=QS hr'
  clear hr hr'
  go_enter Tryz.func75,Tryz.ntmps75
  go_wp2_with (go_at_call 99; refine(Zir b t _ hb ht HR.out).mono ?_; rintro e' w' ⟨rfl,rfl⟩)
  refine bodyPost_ret (Ye rfl _ _ _) rfl ⟨rfl,0,rfl⟩
def Zgr (s:Nat):Nat:=if upN s (Z2 0 s)=4294967296 then 0 else upN s (Z2 0 s)
def Ze0 (s:Nat):Nat:=if upN s (Z2 0 s)=4294967296 then 0 else 2^Z2 0 s
theorem Zk5 (s:Nat) (w:World) (hs:s<4294967296) :
  Calls Tryz.prog 98 #[.int .u32 s] w fun e' w'=>e' = .returned (.tuple #[.int .u32 (Zgr s),.int .u32 (Ze0 s)])∧∃ m,w'=w.drewN m:=by
 have hex:=fun W=>KX 0 s W (by omega) (by omega) (by omega)
 have hk:=VJ 0 s
 have hra:=fun W=>VK 0 s (Z2 0 s) W (by omega) (by omega) hk
 have hd0:dnN 0 (Z2 0 s)=0:=by unfold dnN; simp
 unfold Zgr Ze0
 obtain⟨k,hkk⟩:∃ k,Z2 0 s=k:=⟨_,rfl⟩
 rw[hkk] at hk hex hra hd0 ⊢
 have hw:=Ki (t:=s) hk (by omega)
 have hp:=Q1 hk
 obtain⟨u,hu⟩:∃ u,upN s k=u:=⟨_,rfl⟩
 rw[hd0] at hra
 rw[hu] at hra hw ⊢
 have hpw:u32.wrap ((2:Int)^k)=((2^k:Nat):Int):=by
  rw[IntKind.wrap_u32,show((2:Int)^k)=((2^k:Nat):Int) by simp]
  generalize 2^k=z at hp
  omega
 obtain⟨p,hpp⟩:∃ p,2^k=p:=⟨_,rfl⟩
 rw[hpp] at hpw ⊢
 have HX:=QS hex
 have HRA:=QS hra
 clear hkk hex hra hu hd0 hpp hp
 by_cases c1:u=4294967296
 ·rw[if_pos c1,if_pos c1]
  have d1:((u:Int)==4294967296)=true:=by rw[c1]; rfl
  clear c1
  go_enter Tryz.func98,Tryz.ntmps98
  go_wp2_with (first
    | (go_at_call 100; refine(HX.out _).mono ?_; rintro e' w' ⟨rfl,rfl⟩)
    | (go_at_call 101; refine(HRA.out _).mono ?_; rintro e' w' ⟨rfl,rfl⟩))
  go_ret2
  exact⟨rfl,0,rfl⟩
 ·rw[if_neg c1,if_neg c1]
  have d1:((u:Int)==4294967296)=false:=by simp; omega
  have d2:(u:Int)<4294967296:=by omega
  clear c1
  go_enter Tryz.func98,Tryz.ntmps98
  go_wp2_with (first
    | (go_at_call 100; refine(HX.out _).mono ?_; rintro e' w' ⟨rfl,rfl⟩)
    | (go_at_call 101; refine(HRA.out _).mono ?_; rintro e' w' ⟨rfl,rfl⟩))
  go_quiet (fail)
  go_wp2
  go_ret2
  exact⟨rfl,_,rfl⟩
theorem Jb {P:Program} (d:Nat) (t e:TypeId) (i:TypeInfo) (k k':IntKind) (ht:P.underlying t=some (.array 2 e)) (he:P.underlying e=some (.int k')) (hi:P.info? e=some i) (hsz:i.size=1) (a b c f:Int) (w:World) :
  (Op.equalIn (d+2) t (.agg #[.int k a,.int k b]) (.agg #[.int k c,.int k f])).run P w = .ok (a==c&&b==f) w:=by
 have hp1:∀ (x y:Value) W,(part e #[x,y] 0).run P W = .ok x W:=fun x y W=>by simp[part,isAgg,run_underlying he]
 have hp2:∀ (x y:Value) W,(part e #[x,y] 1).run P W = .ok y W:=fun x y W=>by simp[part,isAgg,run_underlying he]
 have he2:∀ (x y:Int) W,(Op.equalIn (d+1) e (.int k x) (.int k y)).run P W = .ok (x==y) W:=fun x y W=>run_equalIn_int W d e k k' x y he
 unfold Op.equalIn
 simp only[rr, tt, Sem.run_bind,run_underlying ht,Result.andThen_ok,sizeOf,typeInfo,Std.Legacy.Range.forIn_eq_forIn_range',Std.Legacy.Range.size]
 simp[hi,hsz,List.range',hp1,hp2,he2]
 by_cases h1:a=c<;>by_cases h2:b=f<;>simp[h1,h2]
theorem Zis:(Tryz.prog.info? 2).map (fun i=>(i.zero,i.size,i.bytes))=some (some (.int .i64 0),1,8):=by kernel_rfl
def W0 (e b t c n:Nat):Bool:=QW e b t c&&decide (Yp e b t c=Yp e b t n)&&decide (Yy e b t c=Yy e b t n)
theorem Zgs (e b t c n:Nat) (w:World) (he:e<256) (hb:b<65536) (ht:t<65536) (hc:c<4294967296) (hn:n<4294967296) :
  Calls Tryz.prog 86 #[.int .u8 e,.int .u16 b,.int .u16 t,.int .u32 c,.int .u32 n] w fun e' w'=>e' = .returned (.bool (W0 e b t c n))∧Below w.heap.size w w':=by
 have hta:=fun W=>ZaU e b t c W he hb ht hc
 have htb:=fun W=>ZaU e b t n W he hb ht hn
 unfold W0
 obtain⟨B,hB⟩:∃ B,Yp e b t c=B:=⟨_,rfl⟩
 obtain⟨T,hT⟩:∃ T,Yy e b t c=T:=⟨_,rfl⟩
 obtain⟨B',hB'⟩:∃ B,Yp e b t n=B:=⟨_,rfl⟩
 obtain⟨T',hT'⟩:∃ T,Yy e b t n=T:=⟨_,rfl⟩
 obtain⟨k,hk⟩:∃ k,QW e b t c=k:=⟨_,rfl⟩
 obtain⟨k',hk'⟩:∃ k,QW e b t n=k:=⟨_,rfl⟩
 rw[hB,hT,hk] at hta
 rw[hB',hT',hk'] at htb
 rw[hB,hT,hB',hT',hk]
 have HTA:=QS hta
 have HTB:=QS htb
 obtain⟨i0,hi,hz0,hz1,hz2⟩:=info_parts Zis
 have heq:=fun(x y:Int) W=>Jb (P:=Tryz.prog) 9998 167 2 i0 .i64 .i64 Tryz.underlying167 Tryz.underlying2 hi hz1 B T x y W
 clear hz0 hz1 hz2 hi
 clear hta htb hB hT hB' hT' hk hk'
 rcases k with _|_
 ·go_enter Tryz.func86,Tryz.ntmps86
  go_wp2_with fail
  refine(HTA.out _).mono ?_
  rintro e' w1 ⟨rfl,hb1⟩
  have HB1:=QS hb1; clear hb1
  go_wp2_with fail
  refine(HTB.out _).mono ?_
  rintro e' w2 ⟨rfl,hb2⟩
  have HB2:=QS hb2; clear hb2
  go_wp2
  go_ret
  exact⟨rfl,(((HB1.out.alloc HB1.out.size _).trans (HB2.out.mono (by have:=HB1.out.size; simp; omega))).alloc (by have:=HB1.out.size; have:=HB2.out.size; simp at this; omega) _)⟩
 ·go_enter Tryz.func86,Tryz.ntmps86
  go_wp2_with fail
  refine(HTA.out _).mono ?_
  rintro e' w1 ⟨rfl,hb1⟩
  have HB1:=QS hb1; clear hb1
  go_wp2_with fail
  refine(HTB.out _).mono ?_
  rintro e' w2 ⟨rfl,hb2⟩
  have f0:w2.cell? ⟨w1.heap.size,0,none⟩=some (.int .i64 B):=(hb2.cell (p:=⟨w1.heap.size,0,none⟩) (by simp)).trans (cell_of_row _ _ 0 _ _ _ (heap_alloc_new w1 _))
  have f1:w2.cell? ⟨w1.heap.size,1,none⟩=some (.int .i64 T):=(hb2.cell (p:=⟨w1.heap.size,1,none⟩) (by simp)).trans (cell_of_row _ _ 1 _ _ _ (heap_alloc_new w1 _))
  have hs:w1.heap.size<w2.heap.size:=by have:=hb2.size; simp at this; omega
  have HB2:=QS hb2; clear hb2
  go_wp2
  go_ret
  refine⟨Xo ?_,(((HB1.out.alloc HB1.out.size _).trans (HB2.out.mono (by have:=HB1.out.size; simp; omega))).alloc (by have:=HB1.out.size; have:=HB2.out.size; simp at this; omega) _)⟩
  simp[Bool.beq_eq_decide_eq]
theorem Blk.new2 (w:World) (o:Obj) (t:TypeId) (cs:Array Value):Blk ((w.alloc o).alloc (.cells cs t)) (w.heap.size+1) t cs:=by
 have:=Blk.new (w.alloc o) t cs
 rwa [show(w.alloc o).heap.size=w.heap.size+1 by simp] at this
theorem Blk.new1 (w:World) (o:Obj) (t:TypeId) (cs:Array Value):Blk ((w.alloc (.cells cs t)).alloc o) w.heap.size t cs:=(Blk.new w t cs).alloc o
def inN (b t l h:Nat):Bool:=decide (t≤b)||(decide (l≤b)&&decide (t≤h))
def Zgt (aC aE aB aT aP aY aR:Nat):Prop:=aC<4294967296∧aE<256∧aB<65536∧aT<65536∧aP<65536∧aY<65536∧aR<4294967296
theorem ZhS:Tryz.prog.stoodInHeld 38=false:=by kernel_rfl
attribute [local go_sem ↓] Go.wp_at_zero Go.wp_at_succ
theorem J5 (a s:Nat) (w:World) (ha:a<4294967296) (hs:s<4294967296) :
  Calls Tryz.prog 105 #[.agg #[.int .u32 a,.int .u32 s]] w fun e' w'=>e' = .returned (.int .u64 ((a:Int)+s))∧Below w.heap.size w w':=by
 go_enter Tryz.func105,Tryz.ntmps105
 go_wp2
 go_ret
 exact⟨rfl,by(repeat (first|exact Below.refl _ _|refine Below.drew ?_|refine ZI ?_ _|refine Below.alloc ?_ (by simp<;>omega) _|refine Below.setCell ?_ (by simp<;>omega) _))⟩
attribute [local go_sem ↓] Go.wp_at_zero Go.wp_at_succ
def Yz (a s p:Nat):Bool:=decide (p≤255)&&(decide (a+s≤4294967296)&&KA a (a+s))
theorem UX (a s:Nat) (w:World) (ha:a<4294967296) (_hs:s<4294967296) (h:a+s≤4294967296) :
  Calls Tryz.prog 75 #[.int .u32 a,.int .u64 ((a:Int)+s)] w fun e' w'=>e' = .returned (.tuple #[.int .u8 (KP a (a+s)),.int .u16 (KY a (a+s)),.int .u16 (KZ a (a+s)),.bool (KA a (a+s)),.bool true])∧∃ m,w'=w.drewN m:=by
 have:=UW a (a+s) w ha (by omega)
 rw[show Qg a (a+s)=true by simp[Qg,h],show((a+s:Nat):Int)=(a:Int)+s by omega] at this
 exact this
attribute [local go_sem ↓] Go.wp_at_zero Go.wp_at_succ
theorem Zit (a s p:Nat) (w:World) (ha:a<4294967296) (hs:s<4294967296) (h1:¬ (255:Int)<p) (h2:(4294967296:Int)<(a:Int)+s) :
  Calls Tryz.prog 81 #[.agg #[.int .u32 a,.int .u32 s],.int .u16 p] w fun e' w'=>e' = .returned (.tuple #[.agg #[.int .u32 0,.int .u8 0,.int .u16 0,.int .u16 0,.int .u16 0,.int .u16 0,.int .u32 0,.bool false],.bool false])∧Below w.heap.size w w':=by
 go_enter Tryz.func81,Tryz.ntmps81
 go_wp2_with fail
 refine(J5 a s _ ha hs).mono ?_
 rintro e' w1 ⟨rfl,hb1⟩
 have hz1:=hb1.size
 simp at hz1
 obtain⟨hc1,hf1⟩:=ZmQ hb1
 have HB1:=QS hb1; clear hb1
 go_wp2
 refine bodyPost_ret (v:=.tuple #[.agg #[.int .u32 0,.int .u8 0,.int .u16 0,.int .u16 0,.int .u16 0,.int .u16 0,.int .u32 0,.bool false],.bool false]) (by simp[results,Tryz.results81,go_sem,hc1]) rfl ⟨rfl,?_⟩
 have hS:w.heap.size≤w1.heap.size:=by omega
 repeat (refine Below.setCell ?_ (by simp<;>omega) _)
 exact(((Below.refl _ _).alloc (Nat.le_refl _) _).alloc (by simp) _).trans (HB1.out.mono (by simp; omega))
theorem Zgu (a s p:Nat) (w:World) (h1:(255:Int)<p) :
  Calls Tryz.prog 81 #[.agg #[.int .u32 a,.int .u32 s],.int .u16 p] w fun e' w'=>e' = .returned (.tuple #[.agg #[.int .u32 0,.int .u8 0,.int .u16 0,.int .u16 0,.int .u16 0,.int .u16 0,.int .u32 0,.bool false],.bool false])∧Below w.heap.size w w':=by
 go_enter Tryz.func81,Tryz.ntmps81
 go_wp2
 refine bodyPost_ret (v:=.tuple #[.agg #[.int .u32 0,.int .u8 0,.int .u16 0,.int .u16 0,.int .u16 0,.int .u16 0,.int .u32 0,.bool false],.bool false]) (by simp[results,Tryz.results81,go_sem]) rfl ⟨rfl,by(repeat (first|exact Below.refl _ _|refine Below.drew ?_|refine ZI ?_ _|refine Below.alloc ?_ (by simp<;>omega) _|refine Below.setCell ?_ (by simp<;>omega) _))⟩
set_option maxHeartbeats 1000000 in
theorem Ziu (a s p e b t:Nat) (w:World) (ha:a<4294967296) (hs:s<4294967296) (h1:¬ (255:Int)<p) (h2:decide ((4294967296:Int)<(a:Int)+s)=false)
  (HE:Hid (∀ W,Calls Tryz.prog 75 #[.int .u32 a,.int .u64 ((a:Int)+s)] W fun e' w'=>e' = .returned (.tuple #[.int .u8 e,.int .u16 b,.int .u16 t,.bool true,.bool true])∧∃ m,w'=W.drewN m)) :
  Calls Tryz.prog 81 #[.agg #[.int .u32 a,.int .u32 s],.int .u16 p] w fun e' w'=>e' = .returned (.tuple #[.agg #[.int .u32 a,.int .u8 e,.int .u16 b,.int .u16 t,.int .u16 p,.int .u16 0,.int .u32 0,.bool true],.bool true])∧Below w.heap.size w w':=by
 go_enter Tryz.func81,Tryz.ntmps81
 go_wp2_with fail
 refine(J5 a s _ ha hs).mono ?_
 rintro e' w1 ⟨rfl,hb1⟩
 have hz1:=hb1.size
 simp at hz1
 have hk1:=(Blk.new1 w _ _ _).below hb1 (by simp; omega)
 have hk2:=(Blk.new2 w _ _ _).below hb1 (by simp)
 have f0:w1.cell? ⟨w.heap.size,0,none⟩=some (.int .u32 a):=hk1.cell 0
 have f1:w1.cell? ⟨w.heap.size,1,none⟩=some (.int .u32 s):=hk1.cell 1
 have HK1:=QS hk1
 have HK2:=QS hk2
 have HB1:=QS hb1; clear hb1 hk1 hk2
 go_wp2_with fail
 have KK:Hid (∀ W,Below w1.heap.size w1 W→W.cell? ⟨w.heap.size,0,none⟩=some (.int .u32 a)∧W.cell? ⟨w.heap.size,1,none⟩=some (.int .u32 s)):=fun W hW=>⟨(hW.cell (p:=⟨w.heap.size,0,none⟩) (by show w.heap.size<_; omega)).trans f0,(hW.cell (p:=⟨w.heap.size,1,none⟩) (by show w.heap.size<_; omega)).trans f1⟩
 go_region_held3 (fun w'=>w'.cell? ⟨w.heap.size,0,none⟩=some (.int .u32 a)∧w'.cell? ⟨w.heap.size,1,none⟩=some (.int .u32 s)) ((refine KK.out _ ?_; repeat (first|exact Below.refl _ _|exact Xp hb2|refine Below.drew ?_|refine ZI ?_ _)))
  (first
   | (go_at_call 105; refine(J5 a s _ ha hs).mono ?_; rintro e' w2 ⟨rfl,hb2⟩)
   | (go_at_call 75; refine(HE.out _).mono ?_; rintro e' w3 ⟨rfl,m,rfl⟩))
 all_goals
  have hb3:Below w1.heap.size w1 w2:=Xp hb2
  have hz2:=hb3.size
  have hk1:=HK1.out.below hb3 (by omega)
  have hk2:=HK2.out.below hb3 (by omega)
  have g0:w2.cell? ⟨w.heap.size,0,none⟩=some (.int .u32 a):=hk1.cell 0
  have c0:=hk2.cell 0
  have d0:=hk2.frozen 0
  have c1:=hk2.cell 1
  have d1:=hk2.frozen 1
  have c2:=hk2.cell 2
  have d2:=hk2.frozen 2
  have c3:=hk2.cell 3
  have d3:=hk2.frozen 3
  have c4:=hk2.cell 4
  have d4:=hk2.frozen 4
  have c5:=hk2.cell 5
  have d5:=hk2.frozen 5
  have c6:=hk2.cell 6
  have d6:=hk2.frozen 6
  have c7:=hk2.cell 7
  have d7:=hk2.frozen 7
  simp at c0 c1 c2 c3 c4 c5 c6 c7
  have HB2:=QS hb3; clear hb2 hb3 hk1 hk2
  go_wp2
  refine bodyPost_ret (v:=.tuple #[.agg #[.int .u32 a,.int .u8 e,.int .u16 b,.int .u16 t,.int .u16 p,.int .u16 0,.int .u32 0,.bool true],.bool true]) (by simp[results,Tryz.results81,go_sem,c0,c1,c2,c3,c4,c5,c6,c7]) rfl ⟨rfl,?_⟩
  repeat (first|refine Below.setCell ?_ (by simp<;>omega) _|refine ZI ?_ _)
  exact((((Below.refl _ _).alloc (Nat.le_refl _) _).alloc (by simp) _).trans (HB1.out.mono (by simp; omega))).trans (HB2.out.mono (by omega))
set_option maxHeartbeats 1000000 in
theorem Zk6 (a s p e b t:Nat) (w:World) (ha:a<4294967296) (hs:s<4294967296) (h1:¬ (255:Int)<p) (h2:decide ((4294967296:Int)<(a:Int)+s)=false)
  (HE:Hid (∀ W,Calls Tryz.prog 75 #[.int .u32 a,.int .u64 ((a:Int)+s)] W fun e' w'=>e' = .returned (.tuple #[.int .u8 e,.int .u16 b,.int .u16 t,.bool false,.bool true])∧∃ m,w'=W.drewN m)) :
  Calls Tryz.prog 81 #[.agg #[.int .u32 a,.int .u32 s],.int .u16 p] w fun e' w'=>e' = .returned (.tuple #[.agg #[.int .u32 0,.int .u8 0,.int .u16 0,.int .u16 0,.int .u16 0,.int .u16 0,.int .u32 0,.bool false],.bool false])∧Below w.heap.size w w':=by
 go_enter Tryz.func81,Tryz.ntmps81
 go_wp2_with fail
 refine(J5 a s _ ha hs).mono ?_
 rintro e' w1 ⟨rfl,hb1⟩
 have hz1:=hb1.size
 simp at hz1
 have hk1:=(Blk.new1 w _ _ _).below hb1 (by simp; omega)
 have hk2:=(Blk.new2 w _ _ _).below hb1 (by simp)
 have f0:w1.cell? ⟨w.heap.size,0,none⟩=some (.int .u32 a):=hk1.cell 0
 have f1:w1.cell? ⟨w.heap.size,1,none⟩=some (.int .u32 s):=hk1.cell 1
 have HK1:=QS hk1
 have HK2:=QS hk2
 have HB1:=QS hb1; clear hb1 hk1 hk2
 go_wp2_with fail
 have KK:Hid (∀ W,Below w1.heap.size w1 W→W.cell? ⟨w.heap.size,0,none⟩=some (.int .u32 a)∧W.cell? ⟨w.heap.size,1,none⟩=some (.int .u32 s)):=fun W hW=>⟨(hW.cell (p:=⟨w.heap.size,0,none⟩) (by show w.heap.size<_; omega)).trans f0,(hW.cell (p:=⟨w.heap.size,1,none⟩) (by show w.heap.size<_; omega)).trans f1⟩
 go_region_held3 (fun w'=>w'.cell? ⟨w.heap.size,0,none⟩=some (.int .u32 a)∧w'.cell? ⟨w.heap.size,1,none⟩=some (.int .u32 s)) ((refine KK.out _ ?_; repeat (first|exact Below.refl _ _|exact Xp hb2|refine Below.drew ?_|refine ZI ?_ _)))
  (first
   | (go_at_call 105; refine(J5 a s _ ha hs).mono ?_; rintro e' w2 ⟨rfl,hb2⟩)
   | (go_at_call 75; refine(HE.out _).mono ?_; rintro e' w3 ⟨rfl,m,rfl⟩))
 all_goals
  have hb3:Below w1.heap.size w1 w2:=Xp hb2
  have hz2:=hb3.size
  have hk1:=HK1.out.below hb3 (by omega)
  have hk2:=HK2.out.below hb3 (by omega)
  have g0:w2.cell? ⟨w.heap.size,0,none⟩=some (.int .u32 a):=hk1.cell 0
  have c0:=hk2.cell 0
  have d0:=hk2.frozen 0
  have c1:=hk2.cell 1
  have d1:=hk2.frozen 1
  have c2:=hk2.cell 2
  have d2:=hk2.frozen 2
  have c3:=hk2.cell 3
  have d3:=hk2.frozen 3
  have c4:=hk2.cell 4
  have d4:=hk2.frozen 4
  have c5:=hk2.cell 5
  have d5:=hk2.frozen 5
  have c6:=hk2.cell 6
  have d6:=hk2.frozen 6
  have c7:=hk2.cell 7
  have d7:=hk2.frozen 7
  simp at c0 c1 c2 c3 c4 c5 c6 c7
  have HB2:=QS hb3; clear hb2 hb3 hk1 hk2
  go_wp2
  refine bodyPost_ret (v:=.tuple #[.agg #[.int .u32 0,.int .u8 0,.int .u16 0,.int .u16 0,.int .u16 0,.int .u16 0,.int .u32 0,.bool false],.bool false]) (by simp[results,Tryz.results81,go_sem,c0,c1,c2,c3,c4,c5,c6,c7]) rfl ⟨rfl,?_⟩
  repeat (first|refine Below.setCell ?_ (by simp<;>omega) _|refine ZI ?_ _)
  exact((((Below.refl _ _).alloc (Nat.le_refl _) _).alloc (by simp) _).trans (HB1.out.mono (by simp; omega))).trans (HB2.out.mono (by omega))
theorem J6 {a s p:Nat} (h:Yz a s p=true):p≤255∧a+s≤4294967296∧KA a (a+s)=true:=by
 simp only[rr, tt, Yz,Bool.and_eq_true,decide_eq_true_eq] at h; exact h
theorem ZmR (a s p:Nat) (w:World) (ha:a<4294967296) (hs:s<4294967296) (h:Yz a s p=true) :
  Calls Tryz.prog 81 #[.agg #[.int .u32 a,.int .u32 s],.int .u16 p] w fun e' w'=>e' = .returned (.tuple #[.agg #[.int .u32 a,.int .u8 (KP a (a+s)),.int .u16 (KY a (a+s)),.int .u16 (KZ a (a+s)),.int .u16 p,.int .u16 0,.int .u32 0,.bool true],.bool true])∧Below w.heap.size w w':=by
 obtain⟨h1,h2,h3⟩:=J6 h
 refine Ziu a s p _ _ _ w ha hs (by omega) (by simp; omega) (fun W => ?_)
 have:=UX a s W ha hs h2
 rwa [h3] at this
theorem ZmS (a s p:Nat) (w:World) (ha:a<4294967296) (hs:s<4294967296) (h:Yz a s p=false) :
  Calls Tryz.prog 81 #[.agg #[.int .u32 a,.int .u32 s],.int .u16 p] w fun e' w'=>e' = .returned (.tuple #[.agg #[.int .u32 0,.int .u8 0,.int .u16 0,.int .u16 0,.int .u16 0,.int .u16 0,.int .u32 0,.bool false],.bool false])∧Below w.heap.size w w':=by
 by_cases h1:(255:Int)<p
 ·exact Zgu a s p w h1
 ·by_cases h2:(4294967296:Int)<(a:Int)+s
  ·exact Zit a s p w ha hs h1 h2
  ·have h3:KA a (a+s)=false:=by
    simp only[rr, tt, Yz,Bool.and_eq_false_iff,decide_eq_false_iff_not] at h
    rcases h with h|h|h
    ·omega
    ·omega
    ·exact h
   refine Zk6 a s p (KP a (a+s)) (KY a (a+s)) (KZ a (a+s)) w ha hs h1 (by simp; omega) (fun W => ?_)
   have:=UX a s W ha hs (by omega)
   rwa [h3] at this
theorem Zk7 (e b t:Nat) (w:World) (he:e<256) (hb:b<65536) (ht:t<65536) :
  Calls Tryz.prog 109 #[.int .u8 e,.int .u16 b,.int .u16 t] w fun e' w'=>e' = .returned (.bool (Zb1 e b t))∧w=w':=by
 have hm:Zb1 e b t=(decide ((e:Int)≤21)&&decide ((b:Int)<4096)&&decide ((t:Int)<4096)):=by
  unfold Zb1
  have e1:decide (e≤21)=decide ((e:Int)≤21):=by rw[decide_eq_decide]; omega
  have e2:decide (b<4096)=decide ((b:Int)<4096):=by rw[decide_eq_decide]; omega
  have e3:decide (t<4096)=decide ((t:Int)<4096):=by rw[decide_eq_decide]; omega
  rw[e1,e2,e3]
 rw[hm]
 by_cases h1:(e:Int)≤21
 ·by_cases h2:(b:Int)<4096
  ·have d1:decide ((e:Int)≤21)=true:=by simpa using h1
   have d2:decide ((b:Int)<4096)=true:=by simpa using h2
   go_enter Tryz.func109,Tryz.ntmps109
   go_wp2
   go_ret
   exact⟨Xo (by simp[h1,h2]),rfl⟩
  ·have d2:decide ((b:Int)<4096)=false:=by simpa using h2
   go_enter Tryz.func109,Tryz.ntmps109
   go_wp2
   go_ret
   exact⟨Xo (by simp),rfl⟩
 ·have d1:decide ((e:Int)≤21)=false:=by simpa using h1
  go_enter Tryz.func109,Tryz.ntmps109
  go_wp2
  go_ret
  exact⟨Xo (by simp),rfl⟩
theorem ZdY (e b t:Nat) (k:Bool) (w:World) (he:e<256) (hb:b<65536) (ht:t<65536) (hk:Zb1 e b t=k) :
  Calls Tryz.prog 109 #[.int .u8 e,.int .u16 b,.int .u16 t] w fun e' w'=>e' = .returned (.bool k)∧w=w':=by
 rw[← hk]; exact Zk7 e b t w he hb ht
theorem J7 {a b:Value} {x y:Bool} (h:x=y):Ending.returned (.tuple #[a,b,.bool x]) = .returned (.tuple #[a,b,.bool y]):=by rw[h]
theorem Xq (x edge k:Nat) (w:World) (h:Xf x edge=k) :
  Calls Tryz.prog 110 #[.int .i64 x,.int .i64 edge] w fun e' w'=>e' = .returned (.int .i64 k)∧w=w':=by
 have e:(if(x:Int)<edge then 1 else 0:Int)=(k:Int):=by rw[← h]; unfold Xf; split<;>split<;>omega
 have:=Zgq x edge w
 rwa [e] at this
theorem ZaV {U:Nat} (hp:U≤2097152) (z:Int) (h1 : -2≤z) (h2:z≤2097152) : -4398046511104≤z*U∧z*U≤4398046511104:=by
 have a1:z*(U:Int)≤2097152*(U:Int):=Int.mul_le_mul_of_nonneg_right h2 (by omega)
 have a2 : -2*(U:Int)≤z*(U:Int):=Int.mul_le_mul_of_nonneg_right h1 (by omega)
 omega
theorem ZmT (h tm tx x U:Int):((h-tm+tx)*4096+x)*U=(h+tx-tm)*U*4096+x*U:=by
 rw[Int.add_mul,show h-tm+tx=h+tx-tm by omega,Int.mul_right_comm]
set_option maxHeartbeats 1000000 in
theorem Zgv (e b t c:Nat) (w:World) (he:e≤21) (hb:b<4096) (ht0:t<4096) (hc:c<4294967296) :
  Calls Tryz.prog 92 #[.int .u8 e,.int .u16 b,.int .u16 t,.int .u32 c] w fun e' w'=>e' = .returned (.tuple #[.int .i64 (Yp e b t c),.int .i64 (Yy e b t c),.bool (QW e b t c)])∧w=w':=by
 have hmay:=ZaS he hb ht0
 have hp:=Q1 he
 have h0:=Qz e
 have hpw:wrap64 ((2:Int)^e)=((2^e:Nat):Int):=by
  rw[show((2:Int)^e)=((2^e:Nat):Int) by simp]; exact IntWalk.wrap64_in _ (by omega)
 have hB0:Yp e b t c=ofN e b c b:=by unfold Yp; rw[if_pos hmay]
 have hT0:Yy e b t c=ofN e b c t:=by unfold Yy; rw[if_pos hmay]
 have hok:QW e b t c=(decide (0≤Yp e b t c)&&decide (Yp e b t c≤Yy e b t c)&&decide (Yy e b t c≤4294967296)):=by
  unfold QW; rw[hmay]; rfl
 have hmI:((2:Int)^e)=((2^e:Nat):Int):=by simp
 rw[hok,hB0,hT0]
 unfold ofN Ja
 rw[hmI]
 obtain⟨U,hU⟩:∃ U,2^e=U:=⟨_,rfl⟩
 rw[hU] at hp h0 hpw ⊢
 obtain⟨q,hq⟩:∃ q,c/U=q:=⟨_,rfl⟩
 obtain⟨h,hh⟩:∃ h,q/4096=h:=⟨_,rfl⟩
 obtain⟨m,hm⟩:∃ m,q%4096=m:=⟨_,rfl⟩
 obtain⟨edge,hed⟩:∃ k,WL b=k:=⟨_,rfl⟩
 obtain⟨tm,htm⟩:∃ k,Xf m edge=k:=⟨_,rfl⟩
 obtain⟨tb,htb⟩:∃ k,Xf b edge=k:=⟨_,rfl⟩
 obtain⟨tt,htt⟩:∃ k,Xf t edge=k:=⟨_,rfl⟩
 have ht1:=WE m edge
 have ht2:=WE b edge
 have ht3:=WE t edge
 rw[hq,hh,hm,hed,htm,htb,htt,ZmT,ZmT]
 rw[htm] at ht1
 rw[htb] at ht2
 rw[htt] at ht3
 have hql:q≤4294967295:=by rw[← hq]; exact Nat.le_trans (Nat.div_le_self _ _) (by omega)
 have hhl:h≤1048575:=by omega
 have r1:(c:Int)/((U:Int)*4096)=(h:Int):=by
  rw[← hh,← hq,Nat.div_div_eq_div_mul]; simp
 have r2:(c:Int)/(U:Int)=(q:Int):=by rw[← hq]; simp
 have r3:(q:Int)%4096=(m:Int):=by rw[← hm]; simp
 have r4:((b:Int)+3072)%4096=(edge:Int):=by rw[← hed]; unfold WL; simp
 have b1:=ZaV hp ((h:Int)+tb-tm) (by omega) (by omega)
 have b2:=ZaV hp ((h:Int)+tt-tm) (by omega) (by omega)
 have b3:=ZaV hp (b:Int) (by omega) (by omega)
 have b4:=ZaV hp (t:Int) (by omega) (by omega)
 obtain⟨pb,hpb⟩:∃ x:Int,((h:Int)+tb-tm)*U=x:=⟨_,rfl⟩
 obtain⟨pt,hpt⟩:∃ x:Int,((h:Int)+tt-tm)*U=x:=⟨_,rfl⟩
 obtain⟨qb,hqb⟩:∃ x:Int,(b:Int)*U=x:=⟨_,rfl⟩
 obtain⟨qt,hqt⟩:∃ x:Int,(t:Int)*U=x:=⟨_,rfl⟩
 rw[hpb] at b1 ⊢
 rw[hpt] at b2 ⊢
 rw[hqb] at b3 ⊢
 rw[hqt] at b4 ⊢
 have HM:=QS hmay
 have HTM:=QS htm
 have HTB:=QS htb
 have HTT:=QS htt
 clear hmay hB0 hT0 hok hmI hU hq hh hm hed htm htb htt
 by_cases c1:0≤pb*4096+qb
 ·by_cases c2:pb*4096+qb≤pt*4096+qt
  ·go_enter Tryz.func92,Tryz.ntmps92
   go_wp2_with fail
   refine(ZdY e b t true _ (by omega) (by omega) (by omega) HM.out).mono ?_
   rintro e' w' ⟨rfl,rfl⟩
   go_wp2_with (first
    | (go_at_call_of 110 (Value.int .i64 (m:Int)); refine(Xq m edge tm _ HTM.out).mono ?_; rintro e' w' ⟨rfl,rfl⟩)
    | (go_at_call_of 110 (Value.int .i64 (b:Int)); refine(Xq b edge tb _ HTB.out).mono ?_; rintro e' w' ⟨rfl,rfl⟩)
    | (go_at_call_of 110 (Value.int .i64 (t:Int)); refine(Xq t edge tt _ HTT.out).mono ?_; rintro e' w' ⟨rfl,rfl⟩))
   go_ret3
   exact⟨J7 (by simp[c1,c2]),rfl⟩
  ·have d1:decide (pb*4096+qb≤pt*4096+qt)=false:=by simp; omega
   go_enter Tryz.func92,Tryz.ntmps92
   go_wp2_with fail
   refine(ZdY e b t true _ (by omega) (by omega) (by omega) HM.out).mono ?_
   rintro e' w' ⟨rfl,rfl⟩
   go_wp2_with (first
    | (go_at_call_of 110 (Value.int .i64 (m:Int)); refine(Xq m edge tm _ HTM.out).mono ?_; rintro e' w' ⟨rfl,rfl⟩)
    | (go_at_call_of 110 (Value.int .i64 (b:Int)); refine(Xq b edge tb _ HTB.out).mono ?_; rintro e' w' ⟨rfl,rfl⟩)
    | (go_at_call_of 110 (Value.int .i64 (t:Int)); refine(Xq t edge tt _ HTT.out).mono ?_; rintro e' w' ⟨rfl,rfl⟩))
   go_ret3
   exact⟨J7 (by simp[d1]),rfl⟩
 ·have d1:decide (0≤pb*4096+qb)=false:=by simp; omega
  go_enter Tryz.func92,Tryz.ntmps92
  go_wp2_with fail
  refine(ZdY e b t true _ (by omega) (by omega) (by omega) HM.out).mono ?_
  rintro e' w' ⟨rfl,rfl⟩
  go_wp2_with (first
   | (go_at_call_of 110 (Value.int .i64 (m:Int)); refine(Xq m edge tm _ HTM.out).mono ?_; rintro e' w' ⟨rfl,rfl⟩)
   | (go_at_call_of 110 (Value.int .i64 (b:Int)); refine(Xq b edge tb _ HTB.out).mono ?_; rintro e' w' ⟨rfl,rfl⟩)
   | (go_at_call_of 110 (Value.int .i64 (t:Int)); refine(Xq t edge tt _ HTT.out).mono ?_; rintro e' w' ⟨rfl,rfl⟩))
  go_ret3
  exact⟨J7 (by simp[d1]),rfl⟩
theorem Zb6 (e b t c:Nat) (w:World) (he:e<256) (hb:b<65536) (ht:t<65536) (hc:c<4294967296) :
  Calls Tryz.prog 92 #[.int .u8 e,.int .u16 b,.int .u16 t,.int .u32 c] w fun e' w'=>e' = .returned (.tuple #[.int .i64 (Yp e b t c),.int .i64 (Yy e b t c),.bool (QW e b t c)])∧w=w':=by
 by_cases h:Zb1 e b t=true
 ·obtain⟨h1,h2,h3⟩:=Zb2 h
  exact Zgv e b t c w h1 h2 h3 hc
 ·have h':Zb1 e b t=false:=by simpa using h
  have e1:Yp e b t c=0:=by unfold Yp; rw[if_neg h]
  have e2:Yy e b t c=0:=by unfold Yy; rw[if_neg h]
  have e3:QW e b t c=false:=by unfold QW; rw[h']; rfl
  rw[e1,e2,e3]
  have HM:=QS h'
  clear h h' e1 e2 e3
  go_enter Tryz.func92,Tryz.ntmps92
  go_wp2_with (go_at_call 109; refine(ZdY e b t false _ he hb ht HM.out).mono ?_; rintro e' w' ⟨rfl,rfl⟩)
  go_ret3
  exact⟨rfl,rfl⟩
theorem Ze1 (e b t c n:Nat) (w:World) (he:e<256) (hb:b<65536) (ht:t<65536) (hc:c<4294967296) (hn:n<4294967296) :
  Calls Tryz.prog 63 #[.int .u8 e,.int .u16 b,.int .u16 t,.int .u32 c,.int .u32 n] w fun e' w'=>e' = .returned (.bool (W0 e b t c n))∧w=w':=by
 have hta:=fun W=>Zb6 e b t c W he hb ht hc
 have htb:=fun W=>Zb6 e b t n W he hb ht hn
 unfold W0
 obtain⟨B,hB⟩:∃ B,Yp e b t c=B:=⟨_,rfl⟩
 obtain⟨T,hT⟩:∃ T,Yy e b t c=T:=⟨_,rfl⟩
 obtain⟨B',hB'⟩:∃ B,Yp e b t n=B:=⟨_,rfl⟩
 obtain⟨T',hT'⟩:∃ T,Yy e b t n=T:=⟨_,rfl⟩
 obtain⟨k,hk⟩:∃ k,QW e b t c=k:=⟨_,rfl⟩
 obtain⟨k',hk'⟩:∃ k,QW e b t n=k:=⟨_,rfl⟩
 rw[hB,hT,hk] at hta
 rw[hB',hT',hk'] at htb
 rw[hB,hT,hB',hT',hk]
 have HTA:=QS hta
 have HTB:=QS htb
 clear hta htb hB hT hB' hT' hk hk'
 rcases k with _|_
 ·go_enter Tryz.func63,Tryz.ntmps63
  go_wp2_with fail
  refine(HTA.out _).mono ?_
  rintro e' w1 ⟨rfl,rfl⟩
  go_wp2_with fail
  refine(HTB.out _).mono ?_
  rintro e' w2 ⟨rfl,rfl⟩
  go_wp2
  go_ret
  exact⟨rfl,rfl⟩
 ·by_cases c1:B=B'
  ·have d1:(B==B')=true:=by simpa using c1
   have C1:=QS c1
   clear c1
   go_enter Tryz.func63,Tryz.ntmps63
   go_wp2_with fail
   refine(HTA.out _).mono ?_
   rintro e' w1 ⟨rfl,rfl⟩
   go_wp2_with fail
   refine(HTB.out _).mono ?_
   rintro e' w2 ⟨rfl,rfl⟩
   go_wp2
   go_ret
   exact⟨Xo (by rw[C1.out]; simp[Bool.beq_eq_decide_eq]),rfl⟩
  ·have d1:(B==B')=false:=by simpa using c1
   have C1:=QS c1
   clear c1
   go_enter Tryz.func63,Tryz.ntmps63
   go_wp2_with fail
   refine(HTA.out _).mono ?_
   rintro e' w1 ⟨rfl,rfl⟩
   go_wp2_with fail
   refine(HTB.out _).mono ?_
   rintro e' w2 ⟨rfl,rfl⟩
   go_wp2
   go_ret
   exact⟨Xo (by rw[decide_eq_false C1.out]; rfl),rfl⟩
theorem W1 (b t e:Nat) (w:World) (hb:b<4294967296) (ht:t≤4294967296) (he:e≤21) :
  Calls Tryz.prog 116 #[.int .u32 b,.int .u64 t,.int .u8 e] w fun e' w'=>e' = .returned (.tuple #[.int .u64 (dnN b e),.int .u64 (upN t e)])∧∃ m,w'=w.drewN m:=by
 have hp:=Q1 he
 have h0:=Qz e
 have hd1:=ZcU b e
 have hd3:=ZeZ t e
 have hpw:u64.wrap ((2:Int)^e)=((2^e:Nat):Int):=by
  rw[IntKind.wrap_u64,show((2:Int)^e)=((2^e:Nat):Int) by simp]
  generalize 2^e=z at hp
  omega
 unfold dnN at hd1 ⊢
 unfold upN at hd3 ⊢
 obtain⟨U,hU⟩:∃ U,2^e=U:=⟨_,rfl⟩
 rw[hU] at hp h0 hpw hd1 hd3 ⊢
 obtain⟨x,hx⟩:∃ x,b/U=x:=⟨_,rfl⟩
 obtain⟨y,hy⟩:∃ y,(t+(U-1))/U=y:=⟨_,rfl⟩
 rw[hx] at hd1 ⊢
 rw[hy] at hd3 ⊢
 obtain⟨d,hd⟩:∃ d,x*U=d:=⟨_,rfl⟩
 obtain⟨u,hu⟩:∃ u,y*U=u:=⟨_,rfl⟩
 rw[hd] at hd1 ⊢
 rw[hu] at hd3 ⊢
 have r1:(b:Int)/(U:Int)=(x:Int):=by rw[← hx]; simp
 have r2:(t:Int)+U-1=((t+(U-1):Nat):Int):=by omega
 have r3:u64.wrap ((t:Int)+U)=(t:Int)+U:=by rw[IntKind.wrap_u64]; omega
 have r4:u64.wrap ((t:Int)+U-1)=((t+(U-1):Nat):Int):=by rw[IntKind.wrap_u64]; omega
 obtain⟨s,hs⟩:∃ s,t+(U-1)=s:=⟨_,rfl⟩
 rw[hs] at r2 r4 hy
 have r5:(s:Int)/(U:Int)=(y:Int):=by rw[← hy]; simp
 have r6:(x:Int)*(U:Int)=(d:Int):=by rw[← hd]; simp
 have r7:(y:Int)*(U:Int)=(u:Int):=by rw[← hu]; simp
 have r8:u64.wrap (d:Int)=(d:Int):=by rw[IntKind.wrap_u64]; omega
 have r9:u64.wrap (u:Int)=(u:Int):=by rw[IntKind.wrap_u64]; omega
 have hne:((U:Int)==0)=false:=by simp; omega
 have hxl:x≤4294967295:=by rw[← hx]; exact Nat.le_trans (Nat.div_le_self _ _) (by omega)
 have hyl:y≤4297064448:=by rw[← hy]; exact Nat.le_trans (Nat.div_le_self _ _) (by omega)
 clear hx hy hd hu hU hs
 go_enter Tryz.func116,Tryz.ntmps116
 go_wp2
 go_quiet (fail)
 go_wp2
 go_ret2
 exact⟨rfl,_,rfl⟩
theorem Zb7 {b t k:Nat} (hk:k≤21) (hE:Z2 b t=Qv b t (21-k) k) (hf:YP b t k=true):Z2 b t=k:=by
 rw[hE]
 rcases Nat.lt_or_ge k 21 with h|h
 ·rw[show 21-k=(20-k)+1 by omega,Qv,if_pos hf]
 ·rw[show 21-k=0 by omega]; rfl
theorem ZaW (b t:Nat) (w:World) (hb:b<4294967296) (hbt:b≤t) (ht:t≤4294967296) :
  Calls Tryz.prog 115 #[.int .u32 b,.int .u64 t] w fun e' w'=>e' = .returned (.int .u8 (Z2 b t))∧∃ m,w'=w.drewN m:=by
 go_enter Tryz.func115,Tryz.ntmps115
 go_wp2
 go_loopw [5] (fun i wr=>∃ k m:Nat,k≤21∧i = .int .u8 k∧Hid (Z2 b t=Qv b t (21-k) k)∧wr=w.drewN m) (fun i _=>(21-intOf i).toNat)
 case atStart=>exact⟨0,0,by omega,rfl,rfl,rfl⟩
 case round =>
  obtain⟨k,m,hk,rfl,HE,rfl⟩:=hrel
  have hd1:=ZcU b k
  have hd2:=ZcV t k
  have hd3:=ZeZ t k
  have hp:=Q1 hk
  have hle:dnN b k≤upN t k:=by omega
  have hul:upN t k≤4294967296+2097152:=by omega
  have hpw:u64.wrap ((2048:Int)*2^k)=((2048*2^k:Nat):Int):=by
   rw[IntKind.wrap_u64,show((2:Int)^k)=((2^k:Nat):Int) by simp]
   generalize 2^k=z at hp
   omega
  obtain⟨p,hpp⟩:∃ p,2048*2^k=p:=⟨_,rfl⟩
  obtain⟨d,hd⟩:∃ d,dnN b k=d:=⟨_,rfl⟩
  obtain⟨u,hu⟩:∃ u,upN t k=u:=⟨_,rfl⟩
  have hra:=fun W=>W1 b t k W hb ht hk
  have HF:Hid (YP b t k=decide (u-d≤p)):=by show _=_; unfold YP; rw[hpp,hd,hu]
  rw[hd,hu] at hra hle
  rw[hu] at hul
  rw[hpp] at hpw
  have HRA:=QS hra
  clear hra hpp hd hu hd1 hd2 hd3 hp
  by_cases hf:(u:Int)-d≤p
  ·go_wp2_with (go_at_call 116; refine(HRA.out _).mono ?_; rintro e' w' ⟨rfl,m2,rfl⟩)
   go_ret
   have hft:YP b t k=true:=by rw[HF.out]; simp; omega
   exact⟨ZaR (by rw[Zb7 hk HE.out hft]),_,rfl⟩
  ·have hft:YP b t k=false:=by rw[HF.out]; simp; omega
   have h21:k<21:=by
    rcases Nat.lt_or_ge k 21 with h|h
    ·exact h
    ·obtain rfl:k=21:=by omega
     rw[ZcW ht] at hft; cases hft
   have HT:Hid (Z2 b t=Qv b t (21-(k+1)) (k+1)):=by
    show _=_
    rw[HE.out,show 21-k=(21-(k+1))+1 by omega,Qv,hft]; rfl
   clear hft
   go_wp2_with (go_at_call 116; refine(HRA.out _).mono ?_; rintro e' w' ⟨rfl,m2,rfl⟩)
   go_roundw
   case rel=>exact⟨k+1,_,by omega,by go_num,HT,rfl⟩
   case measure=>simp[intOf]; omega
theorem J8 (b t:Nat) (w:World) (hb:b<4294967296) (ht:t<18446744073709551616) :
  Calls Tryz.prog 107 #[.int .u32 b,.int .u64 t] w fun e' w'=>e' = .returned (.tuple #[.int .u8 (KP b t),.int .u16 (KY b t),.int .u16 (KZ b t),.bool (KA b t),.bool (Qg b t)])∧∃ m,w'=w.drewN m:=by
 by_cases hr:Qg b t=true
 ·obtain⟨h1,h2⟩:=J4 hr
  unfold KP KY KZ KA
  rw[hr,if_pos rfl,if_pos rfl,if_pos rfl]
  have hex:=fun W=>ZaW b t W hb h1 h2
  have hk:=VJ b t
  have hra:=fun W=>W1 b t (Z2 b t) W hb h2 hk
  obtain⟨k,hkk⟩:∃ k,Z2 b t=k:=⟨_,rfl⟩
  rw[hkk] at hk hex hra ⊢
  have hd1:=ZcU b k
  have hd3:=ZeZ t k
  have hp:=Q1 hk
  have h0:=Qz k
  have hpw:u64.wrap ((2:Int)^k)=((2^k:Nat):Int):=by
   rw[IntKind.wrap_u64,show((2:Int)^k)=((2^k:Nat):Int) by simp]
   generalize 2^k=z at hp
   omega
  obtain⟨x,hx⟩:∃ x,b/2^k=x:=⟨_,rfl⟩
  have hdx:=ZjN b k
  rw[hx] at hdx ⊢
  obtain⟨d,hd⟩:∃ d,dnN b k=d:=⟨_,rfl⟩
  obtain⟨u,hu⟩:∃ u,upN t k=u:=⟨_,rfl⟩
  rw[hd] at hdx hd1 hra ⊢
  rw[hu] at hd3 hra ⊢
  obtain⟨y,hy⟩:∃ y,u/2^k=y:=⟨_,rfl⟩
  rw[hy]
  obtain⟨U,hU⟩:∃ U,2^k=U:=⟨_,rfl⟩
  rw[hU] at hp h0 hpw hdx hy hx hd3
  have hxl:x<4294967296:=by rw[← hx]; exact Nat.lt_of_le_of_lt (Nat.div_le_self _ _) hb
  have hyl:y≤4297064448:=by rw[← hy]; exact Nat.le_trans (Nat.div_le_self _ _) (by omega)
  have i1:(d:Int)/(U:Int)=(x:Int):=by rw[← hdx]; simp
  have i2:(u:Int)/(U:Int)=(y:Int):=by rw[← hy]; simp
  have hne:((U:Int)==0)=false:=by simp; omega
  obtain⟨xm,hxm⟩:∃ m,x%4096=m:=⟨_,rfl⟩
  obtain⟨ym,hym⟩:∃ m,y%4096=m:=⟨_,rfl⟩
  have hxml:xm<4096:=by omega
  have hyml:ym<4096:=by omega
  have i3:(x:Int)%4096=(xm:Int):=by rw[← hxm]; simp
  have i4:(y:Int)%4096=(ym:Int):=by rw[← hym]; simp
  rw[hxm,hym]
  have HX:=QS hex
  have HRA:=QS hra
  clear hkk hx hdx hd hu hy hxm hym hd1 hd3 hex hra hr hU
  have g1:decide ((t:Int)<b)=false:=by simp; omega
  have g2:decide ((4294967296:Int)<t)=false:=by simp; omega
  by_cases c1:d=b
  ·have d1:((d:Int)==b)=true:=by rw[c1]; simp
   have C1:=QS c1
   clear c1
   go_enter Tryz.func107,Tryz.ntmps107
   go_wp2_with (first
    | (go_at_call 115; refine(HX.out _).mono ?_; rintro e' w' ⟨rfl,m1,rfl⟩)
    | (go_at_call 116; refine(HRA.out _).mono ?_; rintro e' w' ⟨rfl,m2,rfl⟩))
   go_quiet (fail)
   go_wp2
   refine bodyPost_ret (Ye rfl _ _ _) rfl ⟨?_,_,World.drewN_drewN _ _ _⟩
   have c:=C1.out
   simp only[rr, tt, c,decide_true,Bool.true_and]
   exact Zb4 (ZdX u t)
  ·have d1:((d:Int)==b)=false:=by simp; omega
   have C1:=QS c1
   clear c1
   go_enter Tryz.func107,Tryz.ntmps107
   go_wp2_with (first
    | (go_at_call 115; refine(HX.out _).mono ?_; rintro e' w' ⟨rfl,m1,rfl⟩)
    | (go_at_call 116; refine(HRA.out _).mono ?_; rintro e' w' ⟨rfl,m2,rfl⟩))
   go_quiet (fail)
   go_wp2
   refine bodyPost_ret (Ye rfl _ _ _) rfl ⟨?_,_,World.drewN_drewN _ _ _⟩
   have c:=C1.out
   simp only[rr, tt, c,decide_false,Bool.and_false,Bool.false_and]
   rfl
 ·have hr':Qg b t=false:=by simpa using hr
  unfold KP KY KZ KA
  rw[hr',if_neg (by simp),if_neg (by simp),if_neg (by simp)]
  have hcase:(t:Int)<b∨((b:Int)≤t∧(4294967296:Int)<t):=by
   simp only[rr, tt, Qg,Bool.and_eq_false_iff,decide_eq_false_iff_not] at hr'; omega
  clear hr hr'
  rcases hcase with h1|⟨h1,h2⟩
  ·go_enter Tryz.func107,Tryz.ntmps107
   go_wp2
   exact bodyPost_ret (Ye rfl _ _ _) rfl ⟨rfl,0,rfl⟩
  ·have g1:decide ((t:Int)<b)=false:=by simp; omega
   go_enter Tryz.func107,Tryz.ntmps107
   go_wp2
   exact bodyPost_ret (Ye rfl _ _ _) rfl ⟨rfl,0,rfl⟩
theorem J9 (s k:Nat):YP 0 s k=decide (upN s k≤2048*2^k):=by
 unfold YP
 have:dnN 0 k=0:=by unfold dnN; simp
 rw[this,Nat.sub_zero]
theorem Ziv (s:Nat) (w:World) (hs:s<4294967296) :
  Calls Tryz.prog 108 #[.int .u32 s] w fun e' w'=>e' = .returned (.tuple #[.int .u32 (Zgr s),.int .u32 (Ze0 s)])∧∃ m,w'=w.drewN m:=by
 go_enter Tryz.func108,Tryz.ntmps108
 go_wp2
 go_loopw [4] (fun i wr=>∃ k m:Nat,k≤21∧i = .int .u8 k∧Hid (Z2 0 s=Qv 0 s (21-k) k)∧wr=w.drewN m) (fun i _=>(21-intOf i).toNat)
 case atStart=>exact⟨0,0,by omega,rfl,rfl,rfl⟩
 case round =>
  obtain⟨k,m,hk,rfl,HE,rfl⟩:=hrel
  have hd3:=Ki (t:=s) hk (by omega)
  have hp:=Q1 hk
  have hpw:u64.wrap ((2048:Int)*2^k)=((2048*2^k:Nat):Int):=by
   rw[IntKind.wrap_u64,show((2:Int)^k)=((2^k:Nat):Int) by simp]
   generalize 2^k=z at hp
   omega
  have hpw2:u32.wrap ((2:Int)^k)=((2^k:Nat):Int):=by
   rw[IntKind.wrap_u32,show((2:Int)^k)=((2^k:Nat):Int) by simp]
   generalize 2^k=z at hp
   omega
  have hz:=J9 s k
  obtain⟨p,hpp⟩:∃ p,2048*2^k=p:=⟨_,rfl⟩
  obtain⟨U,hU⟩:∃ U,2^k=U:=⟨_,rfl⟩
  obtain⟨u,hu⟩:∃ u,upN s k=u:=⟨_,rfl⟩
  have hra:=fun W=>W1 0 s k W (by omega) (by omega) hk
  rw[hpp,hu] at hz
  rw[hu] at hra hd3
  rw[show dnN 0 k=0 by unfold dnN; simp] at hra
  rw[hpp] at hpw
  rw[hU] at hpw2
  have HRA:=QS hra
  have HZ:=QS hz
  have HU:=QS hU
  have HU2:=QS hu
  clear hra hpp hu hU hz hp
  by_cases hf:(u:Int)≤p
  ·have hft:YP 0 s k=true:=by rw[HZ.out]; simp; omega
   have hEk:=Zb7 hk HE.out hft
   have HK:Hid (Zgr s=(if u=4294967296 then 0 else u)∧Ze0 s=(if u=4294967296 then 0 else U)):=by
    show _∧_
    unfold Zgr Ze0; rw[hEk,HU2.out,HU.out]; exact⟨rfl,rfl⟩
   clear hft hEk
   by_cases c1:u=4294967296
   ·have d1:((u:Int)==4294967296)=true:=by rw[c1]; rfl
    have C1:=QS c1
    clear c1
    go_wp2_with (go_at_call 116; refine(HRA.out _).mono ?_; rintro e' w' ⟨rfl,m2,rfl⟩)
    go_ret2
    refine⟨J3 ?_ ?_,_,rfl⟩
    ·rw[HK.out.1,if_pos C1.out]; rfl
    ·rw[HK.out.2,if_pos C1.out]; rfl
   ·have d1:((u:Int)==4294967296)=false:=by simp; omega
    have d2:(u:Int)<4294967296:=by omega
    have C1:=QS c1
    clear c1
    go_wp2_with (go_at_call 116; refine(HRA.out _).mono ?_; rintro e' w' ⟨rfl,m2,rfl⟩)
    go_ret2
    refine⟨J3 ?_ ?_,_,rfl⟩
    ·rw[HK.out.1,if_neg C1.out]
    ·rw[HK.out.2,if_neg C1.out]
  ·have hft:YP 0 s k=false:=by rw[HZ.out]; simp; omega
   have h21:k<21:=by
    rcases Nat.lt_or_ge k 21 with h|h
    ·exact h
    ·obtain rfl:k=21:=by omega
     rw[ZcW (by omega)] at hft; cases hft
   have HT:Hid (Z2 0 s=Qv 0 s (21-(k+1)) (k+1)):=by
    show _=_
    rw[HE.out,show 21-k=(21-(k+1))+1 by omega,Qv,hft]; rfl
   clear hft
   go_wp2_with (go_at_call 116; refine(HRA.out _).mono ?_; rintro e' w' ⟨rfl,m2,rfl⟩)
   go_roundw
   case rel=>exact⟨k+1,_,by omega,by go_num,HT,rfl⟩
   case measure=>simp[intOf]; omega
attribute [local go_sem ↓] Go.wp_at_zero Go.wp_at_succ
theorem Zgw (a s p e b t:Nat) (w:World) (ha:a<4294967296) (hs:s<4294967296) (h1:¬ (255:Int)<p) (h2:decide ((4294967296:Int)<(a:Int)+s)=false)
  (HE:Hid (∀ W,Calls Tryz.prog 107 #[.int .u32 a,.int .u64 ((a:Int)+s)] W fun e' w'=>e' = .returned (.tuple #[.int .u8 e,.int .u16 b,.int .u16 t,.bool true,.bool true])∧∃ m,w'=W.drewN m)) :
  Calls Tryz.prog 91 #[.agg #[.int .u32 a,.int .u32 s],.int .u16 p] w fun e' w'=>e' = .returned (.tuple #[.agg #[.int .u32 a,.int .u8 e,.int .u16 b,.int .u16 t,.int .u16 p,.int .u16 0,.int .u32 0,.bool true],.bool true])∧Below w.heap.size w w':=by
 go_enter Tryz.func91,Tryz.ntmps91
 go_wp2_with fail
 refine(HE.out _).mono ?_
 rintro e' w1 ⟨rfl,m,rfl⟩
 go_wp2
 refine bodyPost_ret (v:=.tuple #[.agg #[.int .u32 a,.int .u8 e,.int .u16 b,.int .u16 t,.int .u16 p,.int .u16 0,.int .u32 0,.bool true],.bool true]) (by simp[results,Tryz.results91,go_sem]) rfl ⟨rfl,?_⟩
 (repeat (first|(with_reducible exact Below.refl _ _)|(with_reducible refine Below.drew ?_)|(with_reducible refine ZI ?_ _)|(with_reducible refine Below.alloc ?_ (by simp<;>omega) _)|(with_reducible refine Below.setCell ?_ (by simp<;>omega) _)))
theorem Ziw (a s p e b t:Nat) (w:World) (ha:a<4294967296) (hs:s<4294967296) (h1:¬ (255:Int)<p) (h2:decide ((4294967296:Int)<(a:Int)+s)=false)
  (HE:Hid (∀ W,Calls Tryz.prog 107 #[.int .u32 a,.int .u64 ((a:Int)+s)] W fun e' w'=>e' = .returned (.tuple #[.int .u8 e,.int .u16 b,.int .u16 t,.bool false,.bool true])∧∃ m,w'=W.drewN m)) :
  Calls Tryz.prog 91 #[.agg #[.int .u32 a,.int .u32 s],.int .u16 p] w fun e' w'=>e' = .returned (.tuple #[.agg #[.int .u32 0,.int .u8 0,.int .u16 0,.int .u16 0,.int .u16 0,.int .u16 0,.int .u32 0,.bool false],.bool false])∧Below w.heap.size w w':=by
 go_enter Tryz.func91,Tryz.ntmps91
 go_wp2_with fail
 refine(HE.out _).mono ?_
 rintro e' w1 ⟨rfl,m,rfl⟩
 go_wp2
 refine bodyPost_ret (v:=.tuple #[.agg #[.int .u32 0,.int .u8 0,.int .u16 0,.int .u16 0,.int .u16 0,.int .u16 0,.int .u32 0,.bool false],.bool false]) (by simp[results,Tryz.results91,go_sem]) rfl ⟨rfl,?_⟩
 (repeat (first|(with_reducible exact Below.refl _ _)|(with_reducible refine Below.drew ?_)|(with_reducible refine ZI ?_ _)|(with_reducible refine Below.alloc ?_ (by simp<;>omega) _)|(with_reducible refine Below.setCell ?_ (by simp<;>omega) _)))
theorem Zgx (a s p:Nat) (w:World) (ha:a<4294967296) (hs:s<4294967296) (h1:¬ (255:Int)<p) (h2:(4294967296:Int)<(a:Int)+s) :
  Calls Tryz.prog 91 #[.agg #[.int .u32 a,.int .u32 s],.int .u16 p] w fun e' w'=>e' = .returned (.tuple #[.agg #[.int .u32 0,.int .u8 0,.int .u16 0,.int .u16 0,.int .u16 0,.int .u16 0,.int .u32 0,.bool false],.bool false])∧Below w.heap.size w w':=by
 go_enter Tryz.func91,Tryz.ntmps91
 go_wp2
 refine bodyPost_ret (v:=.tuple #[.agg #[.int .u32 0,.int .u8 0,.int .u16 0,.int .u16 0,.int .u16 0,.int .u16 0,.int .u32 0,.bool false],.bool false]) (by simp[results,Tryz.results91,go_sem]) rfl ⟨rfl,?_⟩
 (repeat (first|(with_reducible exact Below.refl _ _)|(with_reducible refine Below.drew ?_)|(with_reducible refine ZI ?_ _)|(with_reducible refine Below.alloc ?_ (by simp<;>omega) _)|(with_reducible refine Below.setCell ?_ (by simp<;>omega) _)))
theorem Ze2 (a s p:Nat) (w:World) (ha:a<4294967296) (hs:s<4294967296) (h1:(255:Int)<p) :
  Calls Tryz.prog 91 #[.agg #[.int .u32 a,.int .u32 s],.int .u16 p] w fun e' w'=>e' = .returned (.tuple #[.agg #[.int .u32 0,.int .u8 0,.int .u16 0,.int .u16 0,.int .u16 0,.int .u16 0,.int .u32 0,.bool false],.bool false])∧Below w.heap.size w w':=by
 go_enter Tryz.func91,Tryz.ntmps91
 go_wp2
 refine bodyPost_ret (v:=.tuple #[.agg #[.int .u32 0,.int .u8 0,.int .u16 0,.int .u16 0,.int .u16 0,.int .u16 0,.int .u32 0,.bool false],.bool false]) (by simp[results,Tryz.results91,go_sem]) rfl ⟨rfl,?_⟩
 (repeat (first|(with_reducible exact Below.refl _ _)|(with_reducible refine Below.drew ?_)|(with_reducible refine ZI ?_ _)|(with_reducible refine Below.alloc ?_ (by simp<;>omega) _)|(with_reducible refine Below.setCell ?_ (by simp<;>omega) _)))
theorem Ua (a s:Nat) (w:World) (ha:a<4294967296) (h:a+s≤4294967296) :
  Calls Tryz.prog 107 #[.int .u32 a,.int .u64 ((a:Int)+s)] w fun e' w'=>e' = .returned (.tuple #[.int .u8 (KP a (a+s)),.int .u16 (KY a (a+s)),.int .u16 (KZ a (a+s)),.bool (KA a (a+s)),.bool true])∧∃ m,w'=w.drewN m:=by
 have:=J8 a (a+s) w ha (by omega)
 rw[show Qg a (a+s)=true by simp[Qg,h],show((a+s:Nat):Int)=(a:Int)+s by omega] at this
 exact this
theorem Zk8 (a s p:Nat) (w:World) (ha:a<4294967296) (hs:s<4294967296) (h:Yz a s p=true) :
  Calls Tryz.prog 91 #[.agg #[.int .u32 a,.int .u32 s],.int .u16 p] w fun e' w'=>e' = .returned (.tuple #[.agg #[.int .u32 a,.int .u8 (KP a (a+s)),.int .u16 (KY a (a+s)),.int .u16 (KZ a (a+s)),.int .u16 p,.int .u16 0,.int .u32 0,.bool true],.bool true])∧Below w.heap.size w w':=by
 obtain⟨h1,h2,h3⟩:=J6 h
 refine Zgw a s p _ _ _ w ha hs (by omega) (by simp; omega) (fun W => ?_)
 have:=Ua a s W ha h2
 rwa [h3] at this
theorem Zk9 (a s p:Nat) (w:World) (ha:a<4294967296) (hs:s<4294967296) (h:Yz a s p=false) :
  Calls Tryz.prog 91 #[.agg #[.int .u32 a,.int .u32 s],.int .u16 p] w fun e' w'=>e' = .returned (.tuple #[.agg #[.int .u32 0,.int .u8 0,.int .u16 0,.int .u16 0,.int .u16 0,.int .u16 0,.int .u32 0,.bool false],.bool false])∧Below w.heap.size w w':=by
 by_cases h1:(255:Int)<p
 ·exact Ze2 a s p w ha hs h1
 ·by_cases h2:(4294967296:Int)<(a:Int)+s
  ·exact Zgx a s p w ha hs h1 h2
  ·have h3:KA a (a+s)=false:=by
    simp only[rr, tt, Yz,Bool.and_eq_false_iff,decide_eq_false_iff_not] at h
    rcases h with h|h|h
    ·omega
    ·omega
    ·exact h
   refine Ziw a s p (KP a (a+s)) (KY a (a+s)) (KZ a (a+s)) w ha hs h1 (by simp; omega) (fun W => ?_)
   have:=Ua a s W ha (by omega)
   rwa [h3] at this
attribute [local go_sem ↓] Go.wp_at_zero Go.wp_at_succ
def Xa (e b t p y r:Nat):Bool:=decide (e<22)&&decide (b<4096)&&decide (t<4096)&&decide (p<256)&&decide (y<4096)&&decide (r<16777216)
def Ub (f:Nat→Nat) (n:Nat):Bool:=decide (∀ k,k<n→f (2*k)<f (2*k+1))
def BelA (w wr:World) (f:Nat→Nat) (i:Value):Prop:=∃ k:Nat,k≤6∧i = .int .i64 (2*(k:Int))∧(∀ j,j<k→f (2*j)<f (2*j+1))∧∃ m,wr=w.drewN m
theorem Zgy (g:Nat) (f:Nat→Nat) (w:World) (hc:∀ j,j<12→w.cell? ⟨g,j,none⟩=some (.int .u32 (f j))) :
  Calls Tryz.prog 80 #[.slice (some ⟨g,0,none⟩) 12 12] w fun e w'=>e = .returned (.bool (Ub f 6))∧∃ m,w'=w.drewN m:=by
 have HC:=QS hc; clear hc
 go_enter Tryz.func80,Tryz.ntmps80
 go_wp2
 go_loopw [3] (fun i wr=>BelA w wr f i) (fun i _=>12-(intOf i).toNat)
 case atStart=>exact⟨0,by omega,rfl,fun j hj=>absurd hj (by omega),0,rfl⟩
 case round =>
  obtain⟨k,hk,rfl,hall,m,rfl⟩:=hrel
  have HA:=QS hall; clear hall
  by_cases hlt:k<6
  ·have i1:2*(k:Int)+1<12:=by omega
   have i0:0≤2*(k:Int):=by omega
   have c0:=HC.out (2*k) (by omega)
   have c1:=HC.out (2*k+1) (by omega)
   obtain⟨x,hx⟩:∃ x,f (2*k)=x:=⟨_,rfl⟩
   obtain⟨y,hy⟩:∃ y,f (2*k+1)=y:=⟨_,rfl⟩
   rw[hx] at c0
   rw[hy] at c1
   have e0:(2*(k:Int)).toNat=2*k:=by omega
   have e1:(2*(k:Int)+1).toNat=2*k+1:=by omega
   have e2:i64.wrap (2*(k:Int)+1)=2*(k:Int)+1:=IntWalk.i64_in _ (by omega)
   have e3:0≤2*(k:Int)+1:=by omega
   have HX:=QS hx
   have HY:=QS hy
   clear hx hy
   by_cases hxy:x<y
   ·have d1:decide (y≤x)=false:=by simp; omega
    go_wp2_with fail
    go_quiet (fail)
    go_wp2
    go_roundw
    case rel=>exact⟨k+1,by omega,by first|rfl|(congr 1; omega),fun j hj=>by
      by_cases h:j<k
      ·exact HA.out j h
      ·obtain rfl:j=k:=by omega
       rw[HX.out,HY.out]; exact hxy,_,rfl⟩
    case measure=>simp[intOf]; omega
   ·have d1:decide (y≤x)=true:=by simp; omega
    go_wp2_with fail
    go_quiet (fail)
    go_wp2
    go_ret
    refine⟨Xo ?_,_,World.drewN_drewN _ _ _⟩
    unfold Ub
    symm
    rw[decide_eq_false_iff_not]
    intro h
    have:=h k hlt
    rw[HX.out,HY.out] at this
    exact hxy this
  ·obtain rfl:k=6:=by omega
   go_wp2
   go_ret
   refine⟨Xo ?_,_,rfl⟩
   unfold Ub
   symm
   rw[decide_eq_true_eq]
   exact HA.out
theorem ZcY (e b t p y r:Nat) (f:Nat→Nat) (h0:f 0=e) (h1:f 1=22) (h2:f 2=b) (h3:f 3=4096) (h4:f 4=t) (h5:f 5=4096) (h6:f 6=p) (h7:f 7=256) (h8:f 8=y) (h9:f 9=4096) (h10:f 10=r) (h11:f 11=16777216) :
  Ub f 6=Xa e b t p y r:=by
 rw[Bool.eq_iff_iff]
 unfold Ub Xa
 simp only[rr, tt, decide_eq_true_eq,Bool.and_eq_true]
 constructor
 ·intro h
  have a0:=h 0 (by omega)
  have a1:=h 1 (by omega)
  have a2:=h 2 (by omega)
  have a3:=h 3 (by omega)
  have a4:=h 4 (by omega)
  have a5:=h 5 (by omega)
  simp only[rr, tt, Nat.mul_zero,Nat.zero_add,Nat.mul_one,Nat.reduceMul,Nat.reduceAdd] at a0 a1 a2 a3 a4 a5
  omega
 ·intro h k hk
  have hk':k=0∨k=1∨k=2∨k=3∨k=4∨k=5:=by omega
  rcases hk' with rfl|rfl|rfl|rfl|rfl|rfl<;>simp only[rr, tt, Nat.mul_zero,Nat.zero_add,Nat.mul_one,Nat.reduceMul,Nat.reduceAdd]<;>omega
theorem Zgz (cC cE cB cT cP cY cR:Nat) (cV:Bool) (w:World) (cl:Zgt cC cE cB cT cP cY cR) :
  Calls Tryz.prog 48 #[.agg #[.int .u32 cC,.int .u8 cE,.int .u16 cB,.int .u16 cT,.int .u16 cP,.int .u16 cY,.int .u32 cR,.bool cV]] w fun e' w'=>e' = .returned (.bool (Xa cE cB cT cP cY cR))∧Below w.heap.size w w':=by
 obtain⟨cCl,cEl,cBl,cTl,cPl,cYl,cRl⟩:=cl
 obtain⟨f,hf⟩:∃ f:Nat→Nat,f=fun j=>[cE,22,cB,4096,cT,4096,cP,256,cY,4096,cR,16777216].getD j 0:=⟨_,rfl⟩
 have hps:=ZcY cE cB cT cP cY cR f (by rw[hf]; rfl) (by rw[hf]; rfl) (by rw[hf]; rfl) (by rw[hf]; rfl) (by rw[hf]; rfl) (by rw[hf]; rfl) (by rw[hf]; rfl) (by rw[hf]; rfl) (by rw[hf]; rfl) (by rw[hf]; rfl) (by rw[hf]; rfl) (by rw[hf]; rfl)
 have HPS:=QS hps
 have HF:Hid (∀ W g,Blk W g 35 #[.int .u32 cE,.int .u32 22,.int .u32 cB,.int .u32 4096,.int .u32 cT,.int .u32 4096,.int .u32 cP,.int .u32 256,.int .u32 cY,.int .u32 4096,.int .u32 cR,.int .u32 16777216]→∀ j,j<12→W.cell? ⟨g,j,none⟩=some (.int .u32 (f j))):=fun W g hb j hj=>by
  have hj':j=0∨j=1∨j=2∨j=3∨j=4∨j=5∨j=6∨j=7∨j=8∨j=9∨j=10∨j=11:=by omega
  rcases hj' with rfl|rfl|rfl|rfl|rfl|rfl|rfl|rfl|rfl|rfl|rfl|rfl<;>(rw[hf]; exact hb.cell _)
 clear hps hf
 go_enter Tryz.func48,Tryz.ntmps48
 go_wp2_with fail
 refine(Zgy _ f _ (HF.out _ _ (Blk.new2 w _ _ _))).mono ?_
 rintro e' w1 ⟨rfl,m,rfl⟩
 go_wp2
 go_ret
 exact⟨Xo HPS.out,by(repeat (first|(with_reducible exact Below.refl _ _)|(with_reducible refine Below.drew ?_)|(with_reducible refine ZI ?_ _)|(with_reducible refine Below.alloc ?_ (by simp<;>omega) _)|(with_reducible refine Below.setCell ?_ (by simp<;>omega) _)))⟩
theorem Ze3 (cC cE cB cT cP cY cR:Nat) (cV:Bool) (w:World) (cl:Zgt cC cE cB cT cP cY cR) :
  Calls Tryz.prog 60 #[.agg #[.int .u32 cC,.int .u8 cE,.int .u16 cB,.int .u16 cT,.int .u16 cP,.int .u16 cY,.int .u32 cR,.bool cV]] w fun e' w'=>e' = .returned (.bool (Xa cE cB cT cP cY cR))∧Below w.heap.size w w':=by
 obtain⟨cCl,cEl,cBl,cTl,cPl,cYl,cRl⟩:=cl
 have hs:Xa cE cB cT cP cY cR=(decide ((cE:Int)≤21)&&(decide ((cB:Int)<4096)&&(decide ((cT:Int)<4096)&&(decide ((cP:Int)≤255)&&(decide ((cY:Int)<4096)&&decide ((cR:Int)<16777216)))))):=by
  unfold Xa
  rw[Bool.eq_iff_iff]
  simp only[rr, tt, Bool.and_eq_true,decide_eq_true_eq]
  omega
 rw[hs]
 clear hs
 by_cases c1:(cE:Int)≤21
 ·by_cases c2:(cB:Int)<4096
  ·by_cases c3:(cT:Int)<4096
   ·by_cases c4:(cP:Int)≤255
    ·by_cases c5:(cY:Int)<4096
     ·rw[decide_eq_true c1,decide_eq_true c2,decide_eq_true c3,decide_eq_true c4,decide_eq_true c5]
      simp only[rr, tt, Bool.true_and]
      go_enter Tryz.func60,Tryz.ntmps60
      go_wp2
      go_ret
      exact⟨rfl,by(repeat (first|(with_reducible exact Below.refl _ _)|(with_reducible refine Below.drew ?_)|(with_reducible refine ZI ?_ _)|(with_reducible refine Below.alloc ?_ (by simp<;>omega) _)|(with_reducible refine Below.setCell ?_ (by simp<;>omega) _)))⟩
     ·have d:decide ((cY:Int)<4096)=false:=by simpa using c5
      rw[d,decide_eq_true c1,decide_eq_true c2,decide_eq_true c3,decide_eq_true c4]
      simp only[rr, tt, Bool.true_and,Bool.false_and]
      go_enter Tryz.func60,Tryz.ntmps60
      go_wp2
      go_ret
      exact⟨rfl,by(repeat (first|(with_reducible exact Below.refl _ _)|(with_reducible refine Below.drew ?_)|(with_reducible refine ZI ?_ _)|(with_reducible refine Below.alloc ?_ (by simp<;>omega) _)|(with_reducible refine Below.setCell ?_ (by simp<;>omega) _)))⟩
    ·have d:decide ((cP:Int)≤255)=false:=by simpa using c4
     rw[d,decide_eq_true c1,decide_eq_true c2,decide_eq_true c3]
     simp only[rr, tt, Bool.true_and,Bool.false_and]
     go_enter Tryz.func60,Tryz.ntmps60
     go_wp2
     go_ret
     exact⟨rfl,by(repeat (first|(with_reducible exact Below.refl _ _)|(with_reducible refine Below.drew ?_)|(with_reducible refine ZI ?_ _)|(with_reducible refine Below.alloc ?_ (by simp<;>omega) _)|(with_reducible refine Below.setCell ?_ (by simp<;>omega) _)))⟩
   ·have d:decide ((cT:Int)<4096)=false:=by simpa using c3
    rw[d,decide_eq_true c1,decide_eq_true c2]
    simp only[rr, tt, Bool.true_and,Bool.false_and]
    go_enter Tryz.func60,Tryz.ntmps60
    go_wp2
    go_ret
    exact⟨rfl,by(repeat (first|(with_reducible exact Below.refl _ _)|(with_reducible refine Below.drew ?_)|(with_reducible refine ZI ?_ _)|(with_reducible refine Below.alloc ?_ (by simp<;>omega) _)|(with_reducible refine Below.setCell ?_ (by simp<;>omega) _)))⟩
  ·have d:decide ((cB:Int)<4096)=false:=by simpa using c2
   rw[d,decide_eq_true c1]
   simp only[rr, tt, Bool.true_and,Bool.false_and]
   go_enter Tryz.func60,Tryz.ntmps60
   go_wp2
   go_ret
   exact⟨rfl,by(repeat (first|(with_reducible exact Below.refl _ _)|(with_reducible refine Below.drew ?_)|(with_reducible refine ZI ?_ _)|(with_reducible refine Below.alloc ?_ (by simp<;>omega) _)|(with_reducible refine Below.setCell ?_ (by simp<;>omega) _)))⟩
 ·have d:decide ((cE:Int)≤21)=false:=by simpa using c1
  rw[d]
  simp only[rr, tt, Bool.false_and]
  go_enter Tryz.func60,Tryz.ntmps60
  go_wp2
  go_ret
  exact⟨rfl,by(repeat (first|(with_reducible exact Below.refl _ _)|(with_reducible refine Below.drew ?_)|(with_reducible refine ZI ?_ _)|(with_reducible refine Below.alloc ?_ (by simp<;>omega) _)|(with_reducible refine Below.setCell ?_ (by simp<;>omega) _)))⟩
attribute [local go_sem ↓] Go.wp_at_zero Go.wp_at_succ
def ZjP (b:Nat→Bool):Nat→Bool
 | 0=>true
 | k+1=>ZjP b k&&b k
structure Asked (w:World) (g n:Nat) (F:Nat→FuncId) (fi ca:Nat→Array Value) (b:Nat→Bool):Prop where
 cell:∀ j,j<n→w.cell? ⟨g,j,none⟩=some (.func (.func (F j)) (fi j) (ca j))
 calls:∀ j,j<n→∀ W,Below w.heap.size w W→Calls Tryz.prog (F j) (fi j++ca j) W fun e W'=>e = .returned (.bool (b j))∧Below W.heap.size W W'
 runs:∀ j,j<n→∀ W,(callFunc (F j) (fi j++ca j)).run Tryz.prog W = .ok (.enter (F j) (fi j++ca j)) W
 lt:g<w.heap.size
def ZoO (w wr:World) (cC cE cB cT cP cY cR:Nat) (n:Nat) (b:Nat→Bool) (i:Value):Prop :=
 ∃ k:Nat,k≤n∧i = .int .i64 k∧Blk wr w.heap.size 38 #[.int .u32 cC,.int .u8 cE,.int .u16 cB,.int .u16 cT,.int .u16 cP,.int .u16 cY,.int .u32 cR,.bool (ZjP b k)] ∧
  Blk wr (w.heap.size+1) 38 #[.int .u32 0,.int .u8 0,.int .u16 0,.int .u16 0,.int .u16 0,.int .u16 0,.int .u32 0,.bool false]∧Below w.heap.size w wr
set_option maxHeartbeats 1000000 in
theorem ZaX (cC cE cB cT cP cY cR:Nat) (cV:Bool) (g n:Nat) (F:Nat→FuncId) (fi ca:Nat→Array Value) (b:Nat→Bool) (w:World) (hn:n≤1000) (h:Asked w g n F fi ca b) :
  Calls Tryz.prog 83 #[.agg #[.int .u32 cC,.int .u8 cE,.int .u16 cB,.int .u16 cT,.int .u16 cP,.int .u16 cY,.int .u32 cR,.bool cV],.slice (some ⟨g,0,none⟩) n n] w fun e w'=>e = .returned (.agg #[.int .u32 cC,.int .u8 cE,.int .u16 cB,.int .u16 cT,.int .u16 cP,.int .u16 cY,.int .u32 cR,.bool (ZjP b n)])∧Below w.heap.size w w':=by
 have H:=QS h; clear h
 go_enter Tryz.func83,Tryz.ntmps83
 go_wp2
 go_loopw [10] (fun i wr=>ZoO w wr cC cE cB cT cP cY cR n b i) (fun i _=>n-(intOf i).toNat)
 case atStart=>exact⟨0,by omega,rfl,Blk.new1 w _ _ _,Blk.new2 w _ _ _,((Below.refl _ _).alloc (Nat.le_refl _) _).alloc (by simp) _⟩
 case round =>
  obtain⟨k,hk,rfl,hq1,hq2,hb⟩:=hrel
  have f7:=hq1.cell 7
  have z7:=hq1.frozen 7
  have HQ1:=QS hq1
  have HQ2:=QS hq2
  have HB:=QS hb
  simp at f7
  by_cases hlt:k<n
  ·have cg:=(hb.cell (p:=⟨g,k,none⟩) H.out.lt).trans (H.out.cell k hlt)
   have hrun:=H.out.runs k hlt
   have HC:=QS (H.out.calls k hlt wr hb)
   clear hq1 hq2 hb
   obtain⟨acc,hacc⟩:∃ a,ZjP b k=a:=⟨_,rfl⟩
   have HA:Hid (ZjP b (k+1)=(acc&&b k)):=by show _=_; rw[ZjP,hacc]
   rw[hacc] at f7 HQ1
   clear hacc
   have i1:(k:Int)<n:=by omega
   cases acc with
   | true =>
    go_wp2_with fail
    refine HC.out.mono ?_
    rintro e w2 ⟨rfl,hb2⟩
    have q1:=HQ1.out.below hb2 HQ1.out.lt
    have q2:=HQ2.out.below hb2 HQ2.out.lt
    have k2:=HB.out.trans (hb2.mono HB.out.size)
    have g7:=q1.cell 7
    have y7:=q1.frozen 7
    simp at g7
    rw[Bool.true_and] at HA
    obtain⟨r,hr⟩:∃ r,b k=r:=⟨_,rfl⟩
    rw[hr] at HA ⊢
    have R1:Hid (Blk (w2.setCell ⟨w.heap.size,7,none⟩ (.bool r)) w.heap.size 38 #[.int .u32 cC,.int .u8 cE,.int .u16 cB,.int .u16 cT,.int .u16 cP,.int .u16 cY,.int .u32 cR,.bool r]):=q1.set_ 7 _
    have R2:Hid (Blk (w2.setCell ⟨w.heap.size,7,none⟩ (.bool r)) (w.heap.size+1) 38 #[.int .u32 0,.int .u8 0,.int .u16 0,.int .u16 0,.int .u16 0,.int .u16 0,.int .u32 0,.bool false]):=q2.far (p:=⟨w.heap.size,7,none⟩) (show w.heap.size+1≠w.heap.size by omega) _
    have R3:Hid (Below w.heap.size w (w2.setCell ⟨w.heap.size,7,none⟩ (.bool r))):=k2.setCell (p:=⟨w.heap.size,7,none⟩) (Nat.le_refl _) _
    clear hb2 q1 q2 k2 hr hrun
    go_wp2
    go_roundw
    case rel=>exact⟨k+1,by omega,by go_num,by rw[HA.out]; exact R1.out,R2.out,R3.out⟩
    case measure=>simp[intOf]; omega
   | false =>
    rw[Bool.false_and] at HA
    have R1:Hid (Blk (wr.setCell ⟨w.heap.size,7,none⟩ (.bool false)) w.heap.size 38 #[.int .u32 cC,.int .u8 cE,.int .u16 cB,.int .u16 cT,.int .u16 cP,.int .u16 cY,.int .u32 cR,.bool false]):=HQ1.out.set_ 7 _
    have R2:Hid (Blk (wr.setCell ⟨w.heap.size,7,none⟩ (.bool false)) (w.heap.size+1) 38 #[.int .u32 0,.int .u8 0,.int .u16 0,.int .u16 0,.int .u16 0,.int .u16 0,.int .u32 0,.bool false]):=HQ2.out.far (p:=⟨w.heap.size,7,none⟩) (show w.heap.size+1≠w.heap.size by omega) _
    have R3:Hid (Below w.heap.size w (wr.setCell ⟨w.heap.size,7,none⟩ (.bool false))):=HB.out.setCell (p:=⟨w.heap.size,7,none⟩) (Nat.le_refl _) _
    clear hrun
    go_wp2
    go_roundw
    case rel=>exact⟨k+1,by omega,by go_num,by rw[HA.out]; exact R1.out,R2.out,R3.out⟩
    case measure=>simp[intOf]; omega
  ·obtain rfl:k=n:=by omega
   obtain⟨acc,hacc⟩:∃ a,ZjP b k=a:=⟨_,rfl⟩
   rw[hacc] at HQ1 f7
   have HACC:=QS hacc
   have q1:=HQ1.out
   have q2:=HQ2.out
   clear hq1 hq2 hb hacc
   have c0:=q1.cell 0
   have d0:=q2.cell 0
   have z0:=q2.frozen 0
   have c1:=q1.cell 1
   have d1:=q2.cell 1
   have z1:=q2.frozen 1
   have c2:=q1.cell 2
   have d2:=q2.cell 2
   have z2:=q2.frozen 2
   have c3:=q1.cell 3
   have d3:=q2.cell 3
   have z3:=q2.frozen 3
   have c4:=q1.cell 4
   have d4:=q2.cell 4
   have z4:=q2.frozen 4
   have c5:=q1.cell 5
   have d5:=q2.cell 5
   have z5:=q2.frozen 5
   have c6:=q1.cell 6
   have d6:=q2.cell 6
   have z6:=q2.frozen 6
   have c7:=q1.cell 7
   have d7:=q2.cell 7
   have z7:=q2.frozen 7
   simp at c0 c1 c2 c3 c4 c5 c6 c7 d0 d1 d2 d3 d4 d5 d6 d7
   clear q1 q2
   go_wp2
   refine bodyPost_ret (v:=.agg #[.int .u32 cC,.int .u8 cE,.int .u16 cB,.int .u16 cT,.int .u16 cP,.int .u16 cY,.int .u32 cR,.bool acc]) (by simp[results,Tryz.results83,go_sem,d0,d1,d2,d3,d4,d5,d6,d7]) rfl ⟨by rw[HACC.out],?_⟩
   repeat (refine Below.setCell ?_ (by simp<;>omega) _)
   exact HB.out
attribute [local go_sem ↓] Go.wp_at_zero Go.wp_at_succ
def XI (cY:Nat) (cV:Bool):Bool:=cV&&decide (cY=0)
theorem ZdZ (cC cE cB cT cP cY cR:Nat) (cV:Bool) (w:World) :
  Calls Tryz.prog 82 #[.agg #[.int .u32 cC,.int .u8 cE,.int .u16 cB,.int .u16 cT,.int .u16 cP,.int .u16 cY,.int .u32 cR,.bool cV]] w fun e w'=>e = .returned (.bool (XI cY cV))∧Below w.heap.size w w':=by
 have hf:XI cY cV=(cV&&((cY:Int)==0)):=by
  unfold XI
  rw[show decide (cY=0)=((cY:Int)==0) by rw[Bool.eq_iff_iff]; simp]
 rw[hf]
 clear hf
 cases cV with
 | false =>
  rw[Bool.false_and]
  go_enter Tryz.func82,Tryz.ntmps82
  go_wp2
  go_ret
  exact⟨rfl,by(repeat (first|(with_reducible exact Below.refl _ _)|(with_reducible refine Below.drew ?_)|(with_reducible refine ZI ?_ _)|(with_reducible refine Below.alloc ?_ (by simp<;>omega) _)|(with_reducible refine Below.setCell ?_ (by simp<;>omega) _)))⟩
 | true =>
  rw[Bool.true_and]
  go_enter Tryz.func82,Tryz.ntmps82
  go_wp2
  go_ret
  exact⟨rfl,by(repeat (first|(with_reducible exact Below.refl _ _)|(with_reducible refine Below.drew ?_)|(with_reducible refine ZI ?_ _)|(with_reducible refine Below.alloc ?_ (by simp<;>omega) _)|(with_reducible refine Below.setCell ?_ (by simp<;>omega) _)))⟩
theorem Blk.newAt {W:World} {g:Nat} (h:W.heap.size=g) (t:TypeId) (cs:Array Value):Blk (W.alloc (.cells cs t)) g t cs:=by subst h; exact Blk.new W t cs
attribute [local go_sem ↓] Go.wp_at_zero Go.wp_at_succ
theorem ZoP (cC cE cB cT cP cY cR:Nat) (cV:Bool) (w:World) (g:Nat) (f1 f2:FuncId) (i1 a1 i2 a2:Array Value) (b1 b2:Bool) (h:Blk w g 34 #[.func (.func f1) i1 a1,.func (.func f2) i2 a2])
  (r1:∀ W,(callFunc f1 (i1++a1)).run Tryz.prog W = .ok (.enter f1 (i1++a1)) W) (r2:∀ W,(callFunc f2 (i2++a2)).run Tryz.prog W = .ok (.enter f2 (i2++a2)) W)
  (c1:∀ W,Below w.heap.size w W→Calls Tryz.prog f1 (i1++a1) W fun e W'=>e = .returned (.bool b1)∧Below W.heap.size W W')
  (c2:∀ W,Below w.heap.size w W→Calls Tryz.prog f2 (i2++a2) W fun e W'=>e = .returned (.bool b2)∧Below W.heap.size W W') :
  Calls Tryz.prog 83 #[.agg #[.int .u32 cC,.int .u8 cE,.int .u16 cB,.int .u16 cT,.int .u16 cP,.int .u16 cY,.int .u32 cR,.bool cV],.slice (some ⟨g,0,none⟩) 2 2] w fun e w'=>e = .returned (.agg #[.int .u32 cC,.int .u8 cE,.int .u16 cB,.int .u16 cT,.int .u16 cP,.int .u16 cY,.int .u32 cR,.bool (b1&&b2)])∧Below w.heap.size w w':=by
 have:=ZaX cC cE cB cT cP cY cR cV g 2 (fun j=>if j=0 then f1 else f2) (fun j=>if j=0 then i1 else i2) (fun j=>if j=0 then a1 else a2) (fun j=>if j=0 then b1 else b2) w (by omega)
  ⟨fun j hj=>by
   have hj':j=0∨j=1:=by omega
   rcases hj' with rfl|rfl
   ·exact h.cell 0
   ·exact h.cell 1,
     fun j hj W hW=>by
   have hj':j=0∨j=1:=by omega
   rcases hj' with rfl|rfl
   ·exact c1 W hW
   ·exact c2 W hW,
     fun j hj W=>by
   have hj':j=0∨j=1:=by omega
   rcases hj' with rfl|rfl
   ·exact r1 W
   ·exact r2 W,h.lt⟩
 exact this
theorem ZgA (cC cE cB cT cP cY cR:Nat) (cV:Bool) (gf gc:Nat) (w:World) (hf:Blk w gf 139 #[.func (.func 82) #[] #[]]) (hc:Blk w gc 38 #[.int .u32 cC,.int .u8 cE,.int .u16 cB,.int .u16 cT,.int .u16 cP,.int .u16 cY,.int .u32 cR,.bool cV]) :
  Calls Tryz.prog 84 #[.pointer (some ⟨gf,0,none⟩),.pointer (some ⟨gc,0,none⟩)] w fun e w'=>e = .returned (.bool (XI cY cV))∧Below w.heap.size w w':=by
 have c0:=hf.cell 0
 simp at c0
 have d0:=hc.cell 0
 have d1:=hc.cell 1
 have d2:=hc.cell 2
 have d3:=hc.cell 3
 have d4:=hc.cell 4
 have d5:=hc.cell 5
 have d6:=hc.cell 6
 have d7:=hc.cell 7
 simp at d0 d1 d2 d3 d4 d5 d6 d7
 clear hf hc
 go_enter Tryz.func84,Tryz.ntmps84
 go_wp2_with fail
 refine(ZdZ cC cE cB cT cP cY cR cV _).mono ?_
 rintro e w1 ⟨rfl,hb1⟩
 have HB1:=QS hb1; clear hb1
 go_wp2
 go_ret
 exact⟨rfl,HB1.out⟩
theorem ZgB (cC cE cB cT cP cY cR:Nat) (cV:Bool) (to gc gt:Nat) (w:World) (cl:Zgt cC cE cB cT cP cY cR) (hto:to<4294967296) (hc:Blk w gc 38 #[.int .u32 cC,.int .u8 cE,.int .u16 cB,.int .u16 cT,.int .u16 cP,.int .u16 cY,.int .u32 cR,.bool cV]) (ht:Blk w gt 35 #[.int .u32 to]) :
  Calls Tryz.prog 85 #[.pointer (some ⟨gc,0,none⟩),.pointer (some ⟨gt,0,none⟩)] w fun e w'=>e = .returned (.bool (W0 cE cB cT cC to))∧Below w.heap.size w w':=by
 have hk:=fun W=>Zgs cE cB cT cC to W cl.2.1 cl.2.2.1 cl.2.2.2.1 cl.1 hto
 generalize W0 cE cB cT cC to=k at *
 have HK:=QS hk
 have c0:=ht.cell 0
 simp at c0
 have d0:=hc.cell 0
 have d1:=hc.cell 1
 have d2:=hc.cell 2
 have d3:=hc.cell 3
 simp at d0 d1 d2 d3
 clear hk ht hc
 go_enter Tryz.func85,Tryz.ntmps85
 go_wp2_with fail
 refine(HK.out _).mono ?_
 rintro e w1 ⟨rfl,hb1⟩
 have HB1:=QS hb1; clear hb1
 go_wp2
 go_ret
 exact⟨rfl,HB1.out⟩
theorem Zix (cC cE cB cT cP cY cR:Nat) (cV:Bool) (to:Nat) (w:World) (cl:Zgt cC cE cB cT cP cY cR) (hto:to<4294967296) :
  Calls Tryz.prog 50 #[.agg #[.int .u32 cC,.int .u8 cE,.int .u16 cB,.int .u16 cT,.int .u16 cP,.int .u16 cY,.int .u32 cR,.bool cV],.int .u32 to] w fun e w'=>e = .returned (.agg #[.int .u32 to,.int .u8 cE,.int .u16 cB,.int .u16 cT,.int .u16 cP,.int .u16 cY,.int .u32 cR,.bool (XI cY cV&&W0 cE cB cT cC to)])∧Below w.heap.size w w':=by
 go_enter Tryz.func50,Tryz.ntmps50
 go_wp2_with fail
 refine(ZoP to cE cB cT cP cY cR cV _ _ 84 85 #[] #[.pointer (some ⟨w.heap.size+1+1+1+1,0,none⟩),.pointer (some ⟨w.heap.size,0,none⟩)] #[] #[.pointer (some ⟨w.heap.size,0,none⟩),.pointer (some ⟨w.heap.size+1,0,none⟩)] (XI cY cV) (W0 cE cB cT cC to) (Blk.newAt (by simp) _ _) (fun W=>by kernel_rfl) (fun W=>by kernel_rfl)
  (fun W hW=>ZgA cC cE cB cT cP cY cR cV (w.heap.size+1+1+1+1) w.heap.size W (Blk.below (by(repeat (first|(with_reducible exact Blk.new _ _ _)|(with_reducible refine Blk.drewN ?_ _)|(with_reducible refine Blk.drew ?_)|exact Blk.newAt (by simp) _ _|(with_reducible refine Blk.alloc ?_ _)))) hW (by first|(simp; done)|(simp; omega))) (Blk.below (by(repeat (first|(with_reducible exact Blk.new _ _ _)|(with_reducible refine Blk.drewN ?_ _)|(with_reducible refine Blk.drew ?_)|exact Blk.newAt (by simp) _ _|(with_reducible refine Blk.alloc ?_ _)))) hW (by first|(simp; done)|(simp; omega))))
  (fun W hW=>ZgB cC cE cB cT cP cY cR cV to w.heap.size (w.heap.size+1) W cl hto (Blk.below (by(repeat (first|(with_reducible exact Blk.new _ _ _)|(with_reducible refine Blk.drewN ?_ _)|(with_reducible refine Blk.drew ?_)|exact Blk.newAt (by simp) _ _|(with_reducible refine Blk.alloc ?_ _)))) hW (by first|(simp; done)|(simp; omega))) (Blk.below (by(repeat (first|(with_reducible exact Blk.new _ _ _)|(with_reducible refine Blk.drewN ?_ _)|(with_reducible refine Blk.drew ?_)|exact Blk.newAt (by simp) _ _|(with_reducible refine Blk.alloc ?_ _)))) hW (by first|(simp; done)|(simp; omega))))).mono ?_
 rintro e w2 ⟨rfl,hb2⟩
 obtain⟨hc2,hf2⟩:=ZmQ hb2
 have hz2:=hb2.size
 simp at hz2
 have HB2:=QS hb2; clear hb2
 go_wp2
 refine bodyPost_ret (v:=.agg #[.int .u32 to,.int .u8 cE,.int .u16 cB,.int .u16 cT,.int .u16 cP,.int .u16 cY,.int .u32 cR,.bool (XI cY cV&&W0 cE cB cT cC to)]) (by simp[results,Tryz.results50,go_sem,hc2]) rfl ⟨rfl,?_⟩
 repeat (refine Below.setCell ?_ (by simp<;>omega) _)
 exact(Below.trans (by(repeat (first|(with_reducible exact Below.refl _ _)|(with_reducible refine Below.drew ?_)|(with_reducible refine ZI ?_ _)|(with_reducible refine Below.alloc ?_ (by simp<;>omega) _)|(with_reducible refine Below.setCell ?_ (by simp<;>omega) _)))) (HB2.out.mono (by simp; omega)))
theorem ZgC (a k j:Nat) (h:j≤k):upN (a*2^k) j=a*2^k:=by
 refine Nat.le_antisymm ?_ (ZcV _ _)
 have e:a*2^k=a*2^(k-j)*2^j:=by rw[Nat.mul_assoc,← Nat.pow_add,Nat.sub_add_cancel h]
 rw[e]
 exact ZaT (Nat.le_refl _)
def mA (a s p:Nat):Nat:=if Yz a s p then a else 0
def mE (a s p:Nat):Nat:=if Yz a s p then KP a (a+s) else 0
def mB (a s p:Nat):Nat:=if Yz a s p then KY a (a+s) else 0
def mT (a s p:Nat):Nat:=if Yz a s p then KZ a (a+s) else 0
def mP (a s p:Nat):Nat:=if Yz a s p then p else 0
def mV (a s p:Nat):Bool:=Yz a s p
def ZgD (a s p:Nat):Value:=.tuple ⟨[.agg ⟨[.int .u32 (mA a s p:Nat),.int .u8 (mE a s p:Nat),.int .u16 (mB a s p:Nat),.int .u16 (mT a s p:Nat),.int .u16 (mP a s p:Nat),.int .u16 0,.int .u32 0,.bool (mV a s p)]⟩,.bool (mV a s p)]⟩
def Ze4 (a s p:Int):Con:=Con.pure [.agg ⟨[.int .u32 a,.int .u32 s]⟩,.int .u16 p] (ZgD a.toNat s.toNat p.toNat)
def Uc (a s p:Int):Prop:=0≤a∧a<4294967296∧0≤s∧s<4294967296∧0≤p
theorem Zd0 (a s p:Int) (h:Uc a s p):ConOk Tryz.prog 81 3 (Ze4 a s p):=by
 obtain⟨h1,h2,h3,h4,h5⟩:=h
 obtain⟨a,rfl⟩:=Int.eq_ofNat_of_zero_le h1
 obtain⟨s,rfl⟩:=Int.eq_ofNat_of_zero_le h3
 obtain⟨p,rfl⟩:=Int.eq_ofNat_of_zero_le h5
 refine Q4 (d:=1) (YO Zn (by kernel_rfl)) (fun u hu => ?_) rfl fun w => ?_
 ·simp only[rr, tt, List.mem_cons,List.not_mem_nil,or_false] at hu
  rcases hu with rfl|rfl<;>rfl
 ·cases hm:Yz a s p
  ·have:=ZmS a s p w (by omega) (by omega) hm
   simp only[rr, tt, ZgD,mA,mE,mB,mT,mP,mV,Int.toNat_natCast,hm,Bool.false_eq_true,if_false]
   exact this
  ·have:=ZmR a s p w (by omega) (by omega) hm
   simp only[rr, tt, ZgD,mA,mE,mB,mT,mP,mV,Int.toNat_natCast,hm,if_true]
   exact this
def adV (c e b t y:Nat) (v:Bool) (to:Nat):Bool:=XI y v&&W0 e b t c to
def ZgE (c e b t p y r:Int) (v:Bool) (to:Int):Con:=Con.pure [.agg ⟨[.int .u32 c,.int .u8 e,.int .u16 b,.int .u16 t,.int .u16 p,.int .u16 y,.int .u32 r,.bool v]⟩,.int .u32 to] (.agg ⟨[.int .u32 to,.int .u8 e,.int .u16 b,.int .u16 t,.int .u16 p,.int .u16 y,.int .u32 r,.bool (adV c.toNat e.toNat b.toNat t.toNat y.toNat v to.toNat)]⟩)
def ZaY (c e b t p y r to:Int):Prop:=0≤c∧c<4294967296∧0≤e∧e<256∧0≤b∧b<65536∧0≤t∧t<65536∧0≤p∧p<65536∧0≤y∧y<65536∧0≤r∧r<4294967296∧0≤to∧to<4294967296
theorem Zd1 (c e b t p y r:Int) (v:Bool) (to:Int) (h:ZaY c e b t p y r to):ConOk Tryz.prog 50 3 (ZgE c e b t p y r v to):=by
 obtain⟨h1,h2,h3,h4,h5,h6,h7,h8,h9,h10,h11,h12,h13,h14,h15,h16⟩:=h
 obtain⟨c,rfl⟩:=Int.eq_ofNat_of_zero_le h1
 obtain⟨e,rfl⟩:=Int.eq_ofNat_of_zero_le h3
 obtain⟨b,rfl⟩:=Int.eq_ofNat_of_zero_le h5
 obtain⟨t,rfl⟩:=Int.eq_ofNat_of_zero_le h7
 obtain⟨p,rfl⟩:=Int.eq_ofNat_of_zero_le h9
 obtain⟨y,rfl⟩:=Int.eq_ofNat_of_zero_le h11
 obtain⟨r,rfl⟩:=Int.eq_ofNat_of_zero_le h13
 obtain⟨to,rfl⟩:=Int.eq_ofNat_of_zero_le h15
 refine Q4 (d:=1) (YO Zn (by kernel_rfl)) (fun u hu => ?_) rfl fun w => ?_
 ·simp only[rr, tt, List.mem_cons,List.not_mem_nil,or_false] at hu
  rcases hu with rfl|rfl<;>rfl
 ·exact Zix c e b t p y r v to w (by unfold Zgt; omega) (by omega)
theorem ZgF (a s p:Nat):mE a s p<256:=by
 unfold mE KP
 split
 ·split
  ·have:=VJ a (a+s); omega
  ·omega
 ·omega
theorem ZgG (a s p:Nat):mB a s p<65536:=by
 unfold mB KY
 split
 ·split
  ·omega
  ·omega
 ·omega
theorem ZgH (a s p:Nat):mT a s p<65536:=by
 unfold mT KZ
 split
 ·split
  ·omega
  ·omega
 ·omega
theorem ZgI (a s p:Nat):mP a s p≤p:=by
 unfold mP; split<;>omega
theorem ZgJ (a s p:Nat):mA a s p≤a:=by
 unfold mA; split<;>omega
def cpV (c e b t p y r:Nat) (v:Bool):Value:=.agg ⟨[.int .u32 (c:Nat),.int .u8 (e:Nat),.int .u16 (b:Nat),.int .u16 (t:Nat),.int .u16 (p:Nat),.int .u16 (y:Nat),.int .u32 (r:Nat),.bool v]⟩
theorem ZoQ (c e b t p y r:Int) (v:Bool):obs (evF Tryz.prog ZD Zf 100 20 46 [Value.agg ⟨[.int .u32 c,.int .u8 e,.int .u16 b,.int .u16 t,.int .u16 p,.int .u16 y,.int .u32 r,.bool v]⟩] (stT []))=some (Value.string ⟨⟨[UInt8.ofNat (u8.wrap (c.fdiv (1:Int))).toNat,UInt8.ofNat (u8.wrap (c.fdiv (256:Int))).toNat,UInt8.ofNat (u8.wrap (c.fdiv (65536:Int))).toNat,UInt8.ofNat (u8.wrap (c.fdiv (16777216:Int))).toNat,UInt8.ofNat (u8.wrap ((u32.wrap e).fdiv (1:Int))).toNat,UInt8.ofNat (u8.wrap ((u32.wrap b).fdiv (1:Int))).toNat,UInt8.ofNat (u8.wrap ((u32.wrap b).fdiv (256:Int))).toNat,UInt8.ofNat (u8.wrap ((u32.wrap t).fdiv (1:Int))).toNat,UInt8.ofNat (u8.wrap ((u32.wrap t).fdiv (256:Int))).toNat,UInt8.ofNat (u8.wrap ((u32.wrap p).fdiv (1:Int))).toNat,UInt8.ofNat (u8.wrap ((u32.wrap p).fdiv (256:Int))).toNat,UInt8.ofNat (u8.wrap ((u32.wrap y).fdiv (1:Int))).toNat,UInt8.ofNat (u8.wrap ((u32.wrap y).fdiv (256:Int))).toNat,UInt8.ofNat (u8.wrap ((bits BinOp.and u32 r (65535:Int)).fdiv (1:Int))).toNat,UInt8.ofNat (u8.wrap ((bits BinOp.and u32 r (65535:Int)).fdiv (256:Int))).toNat,UInt8.ofNat (u8.wrap ((bits BinOp.and u32 (r.fdiv (65536:Int)) (255:Int)).fdiv (1:Int))).toNat]⟩⟩,True):=by kernel_rfl
def cbL (c e b t p y r:Nat):List UInt8:=leW 4 c++(leW 1 e++(leW 2 b++(leW 2 t++(leW 2 p++(leW 2 y++(leW 2 r++leW 1 (r/65536)))))))
theorem ZaZ (c e b t p y r:Nat):(cbL c e b t p y r).length=16:=by simp[cbL,Xe]
structure CpB (c e b t p y r:Nat):Prop where
 c:c<4294967296
 e:e<256
 b:b<65536
 t:t<65536
 p:p<65536
 y:y<65536
 r:r<4294967296
theorem andA (n k:Nat) (h:n<4294967296) (hk:k≤32):bits .and .u32 (n:Int) ((2^k-1:Nat):Int)=((n%2^k:Nat):Int):=by
 show u32.wrap ((BitVec.ofInt 32 (n:Int)&&&BitVec.ofInt 32 ((2^k-1:Nat):Int)).toNat:Int)=_
 have h1:2^k≤2^32:=Nat.pow_le_pow_right (by omega) hk
 have h0:0<2^k:=Nat.two_pow_pos k
 rw[BitVec.toNat_and,BitVec.ofInt_natCast,BitVec.ofInt_natCast,BitVec.toNat_ofNat,BitVec.toNat_ofNat,Nat.mod_eq_of_lt (by omega),Nat.mod_eq_of_lt (by omega),Nat.and_two_pow_sub_one_eq_mod]
 have:=Nat.mod_le n (2^k)
 exact YR _ (by omega)
def ZoR (c e b t p y r:Nat) (v:Bool):Con:=Con.pure [cpV c e b t p y r v] (.string ⟨⟨cbL c e b t p y r⟩⟩)
theorem Zla (c e b t p y r:Nat) (v:Bool) (h:CpB c e b t p y r):ConOk Tryz.prog 46 3 (ZoR c e b t p y r v):=by
 obtain⟨h1,h2,h3,h4,h5,h6,h7⟩:=h
 have hr:=ZoQ (c:Int) (e:Int) (b:Int) (t:Int) (p:Int) (y:Int) (r:Int) v
 have fd0:∀ n:Nat,(n:Int).fdiv (1:Int)=((n:Nat):Int):=fun n=>by rw[show(1:Int)=((1:Nat):Int) from rfl,fdA,Nat.div_one]
 have fd1:∀ n:Nat,(n:Int).fdiv (256:Int)=((n/256:Nat):Int):=fun n=>fdA n 256
 have fd2:∀ n:Nat,(n:Int).fdiv (65536:Int)=((n/65536:Nat):Int):=fun n=>fdA n 65536
 have fd3:∀ n:Nat,(n:Int).fdiv (16777216:Int)=((n/16777216:Nat):Int):=fun n=>fdA n 16777216
 have a1:∀ n:Nat,n<4294967296→bits .and .u32 (n:Int) (65535:Int)=((n%65536:Nat):Int):=fun n hn=>andA n 16 hn (by omega)
 have a2:∀ n:Nat,n<4294967296→bits .and .u32 (n:Int) (255:Int)=((n%256:Nat):Int):=fun n hn=>andA n 8 hn (by omega)
 simp(disch:=omega) only[rr, tt, fd0,fd1,fd2,fd3,a1,a2,YR,w8A] at hr
 have d2:∀ n:Nat,n/65536=n/256/256:=fun n=>by omega
 have d3:∀ n:Nat,n/16777216=n/256/256/256:=fun n=>by omega
 have m1:r%65536%256=r%256:=by omega
 have m2:r%65536/256%256=r/256%256:=by omega
 simp only[rr, tt, m1,m2,d2,d3,Nat.mod_mod] at hr
 have hl:cbL c e b t p y r=[UInt8.ofNat (c%256),UInt8.ofNat (c/256%256),UInt8.ofNat (c/256/256%256),UInt8.ofNat (c/256/256/256%256),UInt8.ofNat (e%256),UInt8.ofNat (b%256),UInt8.ofNat (b/256%256),UInt8.ofNat (t%256),UInt8.ofNat (t/256%256),UInt8.ofNat (p%256),UInt8.ofNat (p/256%256),UInt8.ofNat (y%256),UInt8.ofNat (y/256%256),UInt8.ofNat (r%256),UInt8.ofNat (r/256%256),UInt8.ofNat (r/256/256%256)]:=by
  simp only[rr, tt, cbL,leW,List.cons_append,List.nil_append,d2]
 unfold ZoR
 rw[hl]
 exact WD (d:=1) (Zu (L:=100) Zn (Zx _) (Zj _) 20) hr trivial rfl rfl
def sndC (c e b t p y r:Nat) (v:Bool):Con:=Con.pure [cpV c e b t p y r v] (.bool (Xa e b t p y r))
theorem Zlb (c e b t p y r:Nat) (v:Bool) (h:CpB c e b t p y r):ConOk Tryz.prog 48 3 (sndC c e b t p y r v):=by
 obtain⟨h1,h2,h3,h4,h5,h6,h7⟩:=h
 refine Q4 (d:=1) (YO Zn (by kernel_rfl)) (fun u hu => ?_) rfl fun w => ?_
 ·obtain rfl:=List.mem_singleton.1 hu; rfl
 ·exact Zgz c e b t p y r v w (by unfold Zgt; omega)
def Zms (a:Nat) (d zs:List UInt8) (f:Nat→Bool) (N m:Nat):Con:=⟨[.pointer (some ⟨66,0,none⟩),.int .u32 (a:Nat),.string ⟨⟨d⟩⟩],67,arR true zs f N m,Zb0 N m,.bool true,67,arR true (QK a d zs) f N m,Zb0 N m⟩
def rstL (a:Nat) (d zs:List UInt8) (f:Nat→Bool) (N m:Nat):Sy.Steps:=[(68,19,Zms a d zs f N m,[64,65,66]),(69,19,Zms a d zs f N m,[64,65,66])]
def rscL (a:Nat) (d zs:List UInt8) (f:Nat→Bool) (N m:Nat) (c e b t p y:Nat) (k:Bool):Sy.Steps:=[(68,59,Con.pure [cpV c e b t p y 0 true] (.string ⟨⟨d⟩⟩),[]),(68,19,Zms a d zs f N m,[64,65,66]),(68,60,Con.pure [cpV c e b t p y 0 true] (.bool k),[])]
theorem ZmU (c e b t p y:Int) (v:Bool):obs (evF Tryz.prog ZD Zf 100 20 59 [Value.agg ⟨[.int .u32 c,.int .u8 e,.int .u16 b,.int .u16 t,.int .u16 p,.int .u16 y,.int .u32 0,.bool v]⟩] (stT []))=some (Value.string ⟨⟨[UInt8.ofNat (u8.wrap (c.fdiv (1:Int))).toNat,UInt8.ofNat (u8.wrap (c.fdiv (256:Int))).toNat,UInt8.ofNat (u8.wrap (c.fdiv (65536:Int))).toNat,UInt8.ofNat (u8.wrap (c.fdiv (16777216:Int))).toNat,UInt8.ofNat (u8.wrap ((u32.wrap e).fdiv (1:Int))).toNat,UInt8.ofNat (u8.wrap ((u32.wrap b).fdiv (1:Int))).toNat,UInt8.ofNat (u8.wrap ((u32.wrap b).fdiv (256:Int))).toNat,UInt8.ofNat (u8.wrap ((u32.wrap t).fdiv (1:Int))).toNat,UInt8.ofNat (u8.wrap ((u32.wrap t).fdiv (256:Int))).toNat,UInt8.ofNat (u8.wrap ((u32.wrap p).fdiv (1:Int))).toNat,UInt8.ofNat (u8.wrap ((u32.wrap p).fdiv (256:Int))).toNat,UInt8.ofNat (u8.wrap ((u32.wrap y).fdiv (1:Int))).toNat,UInt8.ofNat (u8.wrap ((u32.wrap y).fdiv (256:Int))).toNat,(0:UInt8),(0:UInt8),(0:UInt8)]⟩⟩,True):=by kernel_rfl
theorem ZoS (a v:Nat) (d zs:List UInt8) (f:Nat→Bool) (N m:Nat):evF Tryz.prog (QA 3 (ZT (rstL a d zs f N m)) ZD) Zf 100 20 18 [Value.pointer (some ⟨66,0,none⟩),.int .u32 (↑a),.int .i64 4,.int .u32 (↑v)] ⟨67,arR true zs f N m,Zb0 N m,0,[],0,True⟩=some (Value.bool true,{ n:=68,h:=[(66,⟨true,none,[Value.slice (some ⟨64,0,none⟩) N 9223372036854775872,.slice (some ⟨65,0,none⟩) m 9223372036854775873],none⟩),(65,⟨true,some (65,1),bls f m,none⟩),(64,⟨true,some (64,1),u8s (QK a d zs),none⟩)],lo:=[(65,m),(64,N),(67,4),(65,m),(64,N)],esc:=0,T:=[],k:=0,O:=True∧True∧(rr (Value.pointer (some ⟨66,0,none⟩))∧rr (Value.int .u32 (↑a))∧Value.string ⟨⟨[UInt8.ofNat (u8.wrap ((↑v:Int).fdiv (1:Int))).toNat,UInt8.ofNat (u8.wrap ((↑v:Int).fdiv (256:Int))).toNat,UInt8.ofNat (u8.wrap ((↑v:Int).fdiv (65536:Int))).toNat,UInt8.ofNat (u8.wrap ((↑v:Int).fdiv (16777216:Int))).toNat]⟩⟩=Value.string ⟨⟨d⟩⟩∧True)∧((tt∧tt∧tt∧tt∧tt∧True∧rr [Value.slice (some ⟨64,0,none⟩) N 9223372036854775872,.slice (some ⟨65,0,none⟩) m 9223372036854775873])∧(tt∧(bls f m).all (okV (fun l=>l.blt 67) 3)=true∧tt∧tt∧tt∧True∧bls f m=List.map (rnV (lift 67 68 [64,65,66]) 3) (bls f m))∧(tt∧(u8s zs).all (okV (fun l=>l.blt 67) 3)=true∧tt∧tt∧tt∧True∧u8s zs=List.map (rnV (lift 67 68 [64,65,66]) 3) (u8s zs))∧True)∧(tt∧m≤m)∧(tt∧N≤N)∧True:St }):=by kernel_rfl
theorem ZoT (a:Nat) (d zs:List UInt8) (f:Nat→Bool) (N m c e b t p y:Nat) (k:Bool):evF Tryz.prog (QA 3 (ZT (rscL a d zs f N m c e b t p y k)) ZD) Zf 100 20 20 [Value.pointer (some ⟨66,0,none⟩),.int .u32 (↑a),cpV c e b t p y 0 true] ⟨67,arR true zs f N m,Zb0 N m,0,(tb 28 239075320),0,True⟩=some (Value.bool true,{ n:=68,h:=[(65,⟨true,some (65,1),QL (0+(u32.wrap ((↑a:Int).tdiv (16:Int))).toNat*1) [Value.bool k] (bls f m),none⟩),(64,⟨true,some (64,1),u8s (QK a d zs),none⟩),(66,⟨true,none,[Value.slice (some ⟨64,0,none⟩) N 9223372036854775872,.slice (some ⟨65,0,none⟩) m 9223372036854775873],none⟩)],lo:=[(65,m),(64,N),(65,m),(64,N)],esc:=0,T:=[],k:=28,O:=bif Qc (0+(u32.wrap ((↑a:Int).tdiv (16:Int))).toNat*1+1) (bls f m)&&true&&true then bif decide ((0:Int)≤u32.wrap ((↑a:Int).tdiv (16:Int)))&&decide (u32.wrap ((↑a:Int).tdiv (16:Int))<(↑m:Int)) then((((((((((((((((((((((((((((((True∧((↑a:Int).tmod (16:Int) !=(0:Int))=false)∧((↑a:Int).tmod (16:Int) !=(0:Int))=false)∧((↑a:Int).tmod (16:Int) !=(0:Int))=false)∧tt)∧tt)∧tt)∧tt)∧tt)∧tt)∧tt)∧tt)∧decide ((16:Int)≤(↑N:Int))=true)∧decide ((16:Int)≤(↑N:Int))=true)∧decide ((16:Int)≤(↑N:Int))=true)∧decide ((16:Int)≤(↑N:Int))=true)∧decide ((16:Int)≤(↑N:Int))=true)∧decide ((16:Int)≤(↑N:Int))=true)∧decide ((16:Int)≤(↑N:Int))=true)∧decide ((16:Int)≤(↑N:Int))=true)∧decide ((16:Int)≤(↑N:Int))=true)∧decide ((16:Int)≤(↑N:Int))=true)∧decide ((16:Int)≤(↑N:Int))=true)∧((↑a:Int).tmod (16:Int) !=(0:Int))=false)∧((↑a:Int).tmod (16:Int) !=(0:Int))=false)∧(!decide (i64.wrap (↑a)≤i64.wrap ((↑N:Int)-(16:Int))))=false)∧True∧(rr (Value.agg ⟨[.int .u32 (↑c),.int .u8 (↑e),.int .u16 (↑b),.int .u16 (↑t),.int .u16 (↑p),.int .u16 (↑y),.int .u32 0,.bool true]⟩)∧True)∧True∧True)∧True∧(rr (Value.pointer (some ⟨66,0,none⟩))∧rr (Value.int .u32 (↑a))∧rr (Value.string ⟨⟨d⟩⟩)∧True)∧((tt∧tt∧tt∧tt∧tt∧True∧rr [Value.slice (some ⟨64,0,none⟩) N 9223372036854775872,.slice (some ⟨65,0,none⟩) m 9223372036854775873])∧(tt∧(bls f m).all (okV (fun l=>l.blt 67) 3)=true∧tt∧tt∧tt∧True∧bls f m=List.map (rnV (lift 67 68 [64,65,66]) 3) (bls f m))∧(tt∧(u8s zs).all (okV (fun l=>l.blt 67) 3)=true∧tt∧tt∧tt∧True∧u8s zs=List.map (rnV (lift 67 68 [64,65,66]) 3) (u8s zs))∧True)∧(tt∧m≤m)∧(tt∧N≤N)∧True)∧tt)∧tt)∧True∧(rr (Value.agg ⟨[.int .u32 (↑c),.int .u8 (↑e),.int .u16 (↑b),.int .u16 (↑t),.int .u16 (↑p),.int .u16 (↑y),.int .u32 0,.bool true]⟩)∧True)∧True∧True)∧true=true else False else False:St }):=by kernel_rfl
theorem ZgK {h1:Sy.Heap} {p:Nat→Bool} (hp:∀ l,l<67→p l=true) (zs:List UInt8) (f:Nat→Bool) (N m:Nat) (cs bs:List Value) (h66:Sy.look h1 66=some ⟨true,none,[.slice (some ⟨64,0,none⟩) N (big+64),.slice (some ⟨65,0,none⟩) m (big+65)],none⟩) (h65:Sy.look h1 65=some ⟨true,some (65,1),bs,none⟩) (h64:Sy.look h1 64=some ⟨true,some (64,1),cs,none⟩) (hb:bs=bls f m) (hc:cs=u8s zs):Ya 3 p id h1 (arR true zs f N m):=by
 have:=Jp (l:=[]) hp zs f N m cs bs h66 h65 h64 hb hc trivial
 rwa [List.append_nil] at this
def Ziy (args:List Value) (zs zs':List UInt8) (f f':Nat→Bool) (N m:Nat):Con:=⟨args,67,arR true zs f N m,Zb0 N m,.bool true,67,arR true zs' f' N m,Zb0 N m⟩
theorem Za0 {call:Qb} (hc:ZA Tryz.prog call) {fn:FuncId} {args:List Value} {zs zs':List UInt8} {f f':Nat→Bool} {N m:Nat} {T:List (Nat×Bool)} {s':Sy.St} {cs bs:List Value} (ha:args.all (okV (fun l=>Nat.blt l 67) 3)=true) (hr:call fn args ⟨67,arR true zs f N m,Zb0 N m,0,T,0,True⟩=some (.bool true,s')) (hO:s'.O)
  (h66:Sy.look s'.h 66=some ⟨true,none,[.slice (some ⟨64,0,none⟩) N (big+64),.slice (some ⟨65,0,none⟩) m (big+65)],none⟩) (h65:Sy.look s'.h 65=some ⟨true,some (65,1),bs,none⟩) (h64:Sy.look s'.h 64=some ⟨true,some (64,1),cs,none⟩) (hb:bs=bls f' m) (hcs:cs=u8s zs') (hlo:WX s'.lo 65 m∧WX s'.lo 64 N) :
  ConOk Tryz.prog fn 3 (Ziy args zs zs' f f' N m)∧FlatC (Ziy args zs zs' f f' N m):=by
 have h0:=KO (ltZ 67) true zs f N m (l:=[]) trivial
 have h1:=KO (UU 67) true zs' f' N m (l:=[]) trivial
 have h2:=Jp (l:=[]) (ltZ 67) zs' f' N m cs bs h66 h65 h64 hb hcs trivial
 rw[List.append_nil] at h0 h1 h2
 exact⟨ZF hc ⟨by show 64≤67; omega,Nat.le_refl _,h0,rfl,rfl,rfl,ha,rfl,Zgn (ltZ 67) true _ _ N m⟩ hr hO (p:=fun l=>Nat.blt l 67) (σ:=id) ⟨fun _ _=>rfl,h2,rfl,⟨⟨rfl,hlo.1⟩,⟨rfl,hlo.2⟩,trivial⟩,⟨rfl,rfl⟩,rfl,h1,rfl,Zz _ rfl,fun x _ _ => .inl rfl⟩,⟨ZdV _ _ _ _ _⟩⟩
theorem ZcZ (a:Nat) (d zs:List UInt8) (f:Nat→Bool) (N m:Nat) (h:ArK zs N m) (ha:a+d.length≤N) (hf:∀ i,i<d.length→f ((a+i)/16)=false):ConOk Tryz.prog 19 3 (Zms a d zs f N m)∧FlatC (Zms a d zs f N m):=by
 have hr:=ZoM a d zs f N m h ha hf
 have hb:=h.big2
 have e1:i64.wrap ((N:Int)-((d.length:Nat):Int))=((N-d.length:Nat):Int):=by rw[ZeV _ _ (by omega),XS _ (by omega)]
 have e2:=XS a (by omega)
 refine Za0 (Zu (L:=100) Zn (Zx _) (Z5 _) 20) rfl hr ?_ rfl rfl rfl rfl rfl ⟨Nat.le_refl _,Nat.le_refl _⟩
 simp(disch:=omega) only[rr, tt, Zq,e1,e2,decide_eq_true,decide_eq_false,ge_iff_le,Bool.not_true,and_true,true_and,and_self,Nat.le_refl]
theorem Ziz (c e b t p y:Nat) (v:Bool) (h:CpB c e b t p y 0):ConOk Tryz.prog 59 3 (Con.pure [cpV c e b t p y 0 v] (.string ⟨⟨cbL c e b t p y 0⟩⟩)):=by
 obtain⟨h1,h2,h3,h4,h5,h6,h7⟩:=h
 have hr:=ZmU (c:Int) (e:Int) (b:Int) (t:Int) (p:Int) (y:Int) v
 have fd0:∀ n:Nat,(n:Int).fdiv (1:Int)=((n:Nat):Int):=fun n=>by rw[show(1:Int)=((1:Nat):Int) from rfl,fdA,Nat.div_one]
 have fd1:∀ n:Nat,(n:Int).fdiv (256:Int)=((n/256:Nat):Int):=fun n=>fdA n 256
 have fd2:∀ n:Nat,(n:Int).fdiv (65536:Int)=((n/65536:Nat):Int):=fun n=>fdA n 65536
 have fd3:∀ n:Nat,(n:Int).fdiv (16777216:Int)=((n/16777216:Nat):Int):=fun n=>fdA n 16777216
 simp(disch:=omega) only[rr, tt, fd0,fd1,fd2,fd3,YR,w8A] at hr
 have d2:∀ n:Nat,n/65536=n/256/256:=fun n=>by omega
 have d3:∀ n:Nat,n/16777216=n/256/256/256:=fun n=>by omega
 simp only[rr, tt, d2,d3,Nat.mod_mod] at hr
 have hl:cbL c e b t p y 0=[UInt8.ofNat (c%256),UInt8.ofNat (c/256%256),UInt8.ofNat (c/256/256%256),UInt8.ofNat (c/256/256/256%256),UInt8.ofNat (e%256),UInt8.ofNat (b%256),UInt8.ofNat (b/256%256),UInt8.ofNat (t%256),UInt8.ofNat (t/256%256),UInt8.ofNat (p%256),UInt8.ofNat (p/256%256),UInt8.ofNat (y%256),UInt8.ofNat (y/256%256),0,0,0]:=by
  simp only[rr, tt, cbL,leW,List.cons_append,List.nil_append]; rfl
 rw[hl]
 exact WD (d:=1) (Zu (L:=100) Zn (Zx _) (Zj _) 20) hr trivial rfl rfl
theorem ZiA (c e b t p y:Nat) (v:Bool) (h:CpB c e b t p y 0):ConOk Tryz.prog 60 3 (Con.pure [cpV c e b t p y 0 v] (.bool (Xa e b t p y 0))):=by
 obtain⟨h1,h2,h3,h4,h5,h6,h7⟩:=h
 refine Q4 (d:=1) (YO Zn (by kernel_rfl)) (fun u hu => ?_) rfl fun w => ?_
 ·obtain rfl:=List.mem_singleton.1 hu; rfl
 ·exact Ze3 c e b t p y 0 v w (by unfold Zgt; omega)
def ZoU (a v:Nat) (zs:List UInt8) (f:Nat→Bool) (N m:Nat):Con:=Ziy [.pointer (some ⟨66,0,none⟩),.int .u32 (a:Nat),.int .i64 4,.int .u32 (v:Nat)] zs (QK a (leW 4 v) zs) f f N m
theorem Zlc (a v:Nat) (zs:List UInt8) (f:Nat→Bool) (N m:Nat) (h:ArK zs N m) (hv:v<4294967296) (ha:a+4≤N) (hf:∀ i,i<4→f ((a+i)/16)=false):ConOk Tryz.prog 18 3 (ZoU a v zs f N m)∧FlatC (ZoU a v zs f N m):=by
 have hw:=ZcZ a (leW 4 v) zs f N m h (by rw[Xe]; exact ha) (fun i hi=>hf i (by rw[Xe] at hi; exact hi))
 have hr:=ZoS a v (leW 4 v) zs f N m
 have fd0:∀ n:Nat,(n:Int).fdiv (1:Int)=((n:Nat):Int):=fun n=>by rw[show(1:Int)=((1:Nat):Int) from rfl,fdA,Nat.div_one]
 have fd1:∀ n:Nat,(n:Int).fdiv (256:Int)=((n/256:Nat):Int):=fun n=>fdA n 256
 have fd2:∀ n:Nat,(n:Int).fdiv (65536:Int)=((n/65536:Nat):Int):=fun n=>fdA n 65536
 have fd3:∀ n:Nat,(n:Int).fdiv (16777216:Int)=((n/16777216:Nat):Int):=fun n=>fdA n 16777216
 have d2:v/65536=v/256/256:=by omega
 have d3:v/16777216=v/256/256/256:=by omega
 have hl:leW 4 v=[UInt8.ofNat (v%256),UInt8.ofNat (v/256%256),UInt8.ofNat (v/256/256%256),UInt8.ofNat (v/256/256/256%256)]:=rfl
 have f1:∀ (zs:List UInt8) (p:Nat→Bool),(u8s zs).all (okV p 3)=true:=fun zs p=>Zh (Zp _)
 have f2:∀ (zs:List UInt8) (σ:Nat→Nat),(u8s zs).map (rnV σ 3)=u8s zs:=fun zs σ=>Zi (Zp _)
 have f5:∀ (p:Nat→Bool),(bls f m).all (okV p 3)=true:=fun p=>Zh (Z8 f m)
 have f6:∀ (σ:Nat→Nat),(bls f m).map (rnV σ 3)=bls f m:=fun σ=>Zi (Z8 f m)
 refine Za0 (Zu (L:=100) Zn (Qe (ZW fun x hx => ?_) (Zx _)) (Zj _) 20) rfl hr ?_ rfl rfl rfl rfl rfl ⟨Nat.le_refl _,Nat.le_refl _⟩
 ·simp only[rr, tt, rstL,List.mem_cons,List.not_mem_nil,or_false] at hx
  rcases hx with rfl|rfl<;>exact hw
 ·simp only[rr, tt, fd0,fd1,fd2,fd3,w8A,d2,d3,← hl,f1,f2,f5,f6,and_true,true_and,and_self,Nat.le_refl]
def ZmV (a c e b t p y:Nat) (zs:List UInt8) (f:Nat→Bool) (N m:Nat):Con:=Ziy [.pointer (some ⟨66,0,none⟩),.int .u32 (a:Nat),cpV c e b t p y 0 true] zs (QK a (cbL c e b t p y 0) zs) f (XH f (a/16) true) N m
theorem Zld (a c e b t p y:Nat) (zs:List UInt8) (f:Nat→Bool) (N m:Nat) (h:ArK zs N m) (hcp:CpB c e b t p y 0) (hs:Xa e b t p y 0=true) (ha:a%16=0) (ha2:a+16≤N) (hf:f (a/16)=false):ConOk Tryz.prog 20 3 (ZmV a c e b t p y zs f N m)∧FlatC (ZmV a c e b t p y zs f N m):=by
 have hb:=h.big2; have ht:=h.tags
 have hw:=ZcZ a (cbL c e b t p y 0) zs f N m h (by rw[ZaZ]; exact ha2) (fun i hi=>by
  rw[ZaZ] at hi
  rw[show(a+i)/16=a/16 by omega]; exact hf)
 have hr:=ZoT a (cbL c e b t p y 0) zs f N m c e b t p y true
 have et:(a:Int).tmod (16:Int)=((a%16:Nat):Int):=(Int.ofNat_tmod a 16).symm
 have e1:u32.wrap ((a:Int).tdiv (16:Int))=((a/16:Nat):Int):=by rw[Wm,YR _ (by omega)]
 have e2:=XS a (by omega)
 have e3:i64.wrap ((N:Int)-(16:Int))=((N-16:Nat):Int):=by rw[show(N:Int)-(16:Int)=((N-16:Nat):Int) by omega,XS _ (by omega)]
 have f1:∀ (zs:List UInt8) (p:Nat→Bool),(u8s zs).all (okV p 3)=true:=fun zs p=>Zh (Zp _)
 have f2:∀ (zs:List UInt8) (σ:Nat→Nat),(u8s zs).map (rnV σ 3)=u8s zs:=fun zs σ=>Zi (Zp _)
 have f5:∀ (p:Nat→Bool),(bls f m).all (okV p 3)=true:=fun p=>Zh (Z8 f m)
 have f6:∀ (σ:Nat→Nat),(bls f m).map (rnV σ 3)=bls f m:=fun σ=>Zi (Z8 f m)
 simp only[rr, tt, e1,Int.toNat_natCast,Nat.zero_add,Nat.mul_one] at hr
 refine Za0 (Zu (L:=100) Zn (Qe (ZW fun x hx => ?_) (Zx _)) (Zj _) 20) rfl hr ?_ rfl rfl rfl (Zgj f m _ true (by omega)) rfl ⟨Nat.le_refl _,Nat.le_refl _⟩
 ·simp only[rr, tt, rscL,List.mem_cons,List.not_mem_nil,or_false] at hx
  rcases hx with rfl|rfl|rfl
  ·exact⟨Ziz c e b t p y true hcp,⟨fun x hx=>by cases hx⟩⟩
  ·exact hw
  ·have:=ZiA c e b t p y true hcp
   rw[hs] at this
   exact⟨this,⟨fun x hx=>by cases hx⟩⟩
 ·simp(disch:=omega) only[rr, tt, et,ha,e2,e3,ZcT,f1,f2,f5,f6,decide_eq_true,decide_eq_false,Bool.and_self,Bool.and_true,Bool.not_true,cond_true,and_true,true_and,and_self,Nat.le_refl]
  try simp
def ZoV (p:Nat):Con:=⟨[.int .i64 (p:Nat)],64,[],[],.tuple ⟨[.pointer (some ⟨66,0,none⟩),.int .i64 0]⟩,67,arR true (List.replicate (p*256) 0) (fun _=>false) (p*256) (ZE p),Zb0 (p*256) (ZE p)⟩
theorem ZgL (n:Nat):List.replicate n (Value.bool false)=bls (fun _=>false) n:=by
 unfold bls; rw[List.map_const',List.length_range]
theorem ZiB (p:Nat) (h1:16≤p) (h2:p≤1024):ConOk Tryz.prog 17 3 (ZoV p)∧FlatC (ZoV p):=by
 have hr:=ZoI (p:Int)
 have e1:(p:Int)*(256:Int)=((p*256:Nat):Int):=by omega
 have e5:p*256/16=ZE p:=rfl
 simp(disch:=omega) only[rr, tt, e1,XS,Wm,Int.toNat_natCast,ZaO,Zge,ZgL,e5] at hr
 have hk:∀ l,l<67→Z3 64 67 id (fun l=>Nat.blt l 67) l=true:=fun l hl=>by
  show(Nat.blt l NG||(bif Nat.blt l 64 then(Nat.beq l l&&Nat.blt l 67) else Nat.blt l 67))=true
  rw[Zt hl,Nat.beq_refl]
  cases Nat.blt l NG<;>cases Nat.blt l 64<;>rfl
 have g1:=KO hk true (List.replicate (p*256) 0) (fun _=>false) (p*256) (ZE p) (l:=[]) trivial
 rw[List.append_nil] at g1
 refine⟨ZF (Zu (L:=100) Zn (Zx _) (Zj _) 40) ⟨Nat.le_refl _,by show 64≤67; omega,trivial,rfl,rfl,rfl,rfl,rfl,Zgn (ltZ 67) true _ _ _ _⟩ hr ?_ (p:=fun l=>Nat.blt l 67) (σ:=id) ⟨fun _ _=>rfl,?_,rfl,⟨⟨rfl,Nat.le_refl _⟩,⟨rfl,Nat.le_refl _⟩,trivial⟩,⟨rfl,by rw[Yd]; rfl⟩,rfl,g1,rfl,ZM 3 _ rfl,fun x _ _ => .inl rfl⟩,⟨ZdV _ _ _ _ _⟩⟩
 ·have b2:ZE p≤100000:=by unfold ZE; omega
  simp(disch:=omega) only[rr, tt, decide_eq_true,decide_eq_false,Bool.and_self,Bool.true_and,Bool.and_true,Bool.not_true,Bool.not_false,cond_true,and_true,true_and,and_self]
 ·exact ZgK (ltZ 67) _ _ _ _ _ _ rfl rfl rfl rfl rfl
attribute [local go_sem ↓] Go.wp_at_zero Go.wp_at_succ
theorem Zb8 (cC cE cB cT cP cY cR:Nat) (cV:Bool) (w:World) :
  Calls Tryz.prog 62 #[.agg #[.int .u32 cC,.int .u8 cE,.int .u16 cB,.int .u16 cT,.int .u16 cP,.int .u16 cY,.int .u32 cR,.bool cV]] w fun e w'=>e = .returned (.bool (XI cY cV))∧Below w.heap.size w w':=by
 have hf:XI cY cV=(cV&&((cY:Int)==0)):=by
  unfold XI
  rw[show decide (cY=0)=((cY:Int)==0) by rw[Bool.eq_iff_iff]; simp]
 rw[hf]
 clear hf
 cases cV with
 | false =>
  rw[Bool.false_and]
  go_enter Tryz.func62,Tryz.ntmps62
  go_wp2
  go_ret
  exact⟨rfl,by(repeat (first|(with_reducible exact Below.refl _ _)|(with_reducible refine Below.drew ?_)|(with_reducible refine ZI ?_ _)|(with_reducible refine Below.alloc ?_ (by simp<;>omega) _)|(with_reducible refine Below.setCell ?_ (by simp<;>omega) _)))⟩
 | true =>
  rw[Bool.true_and]
  go_enter Tryz.func62,Tryz.ntmps62
  go_wp2
  go_ret
  exact⟨rfl,by(repeat (first|(with_reducible exact Below.refl _ _)|(with_reducible refine Below.drew ?_)|(with_reducible refine ZI ?_ _)|(with_reducible refine Below.alloc ?_ (by simp<;>omega) _)|(with_reducible refine Below.setCell ?_ (by simp<;>omega) _)))⟩
theorem Za1 (cC cE cB cT cP cY cR:Nat) (cV k:Bool) (w:World) :
  Calls Tryz.prog 64 #[.agg #[.int .u32 cC,.int .u8 cE,.int .u16 cB,.int .u16 cT,.int .u16 cP,.int .u16 cY,.int .u32 cR,.bool cV],.bool k] w fun e w'=>e = .returned (.agg #[.int .u32 cC,.int .u8 cE,.int .u16 cB,.int .u16 cT,.int .u16 cP,.int .u16 cY,.int .u32 cR,.bool k])∧Below w.heap.size w w':=by
 go_enter Tryz.func64,Tryz.ntmps64
 go_wp2
 refine bodyPost_ret (v:=.agg #[.int .u32 cC,.int .u8 cE,.int .u16 cB,.int .u16 cT,.int .u16 cP,.int .u16 cY,.int .u32 cR,.bool k]) (by simp[results,Tryz.results64,go_sem]) rfl ⟨rfl,?_⟩
 (repeat (first|(with_reducible exact Below.refl _ _)|(with_reducible refine Below.drew ?_)|(with_reducible refine ZI ?_ _)|(with_reducible refine Below.alloc ?_ (by simp<;>omega) _)|(with_reducible refine Below.setCell ?_ (by simp<;>omega) _)))
theorem Zle (cC cE cB cT cP cY cR:Nat) (cV:Bool) (to:Nat) (w:World) (h:XI cY cV=false) :
  Calls Tryz.prog 22 #[.agg #[.int .u32 cC,.int .u8 cE,.int .u16 cB,.int .u16 cT,.int .u16 cP,.int .u16 cY,.int .u32 cR,.bool cV],.int .u32 to] w fun e w'=>e = .returned (.agg #[.int .u32 to,.int .u8 cE,.int .u16 cB,.int .u16 cT,.int .u16 cP,.int .u16 cY,.int .u32 cR,.bool false])∧Below w.heap.size w w':=by
 have hfr:=fun W=>Zb8 cC cE cB cT cP cY cR cV W
 rw[h] at hfr
 have HF:=QS hfr
 clear hfr h
 have hq0:Blk ((w.alloc (.cells #[.int .u32 cC,.int .u8 cE,.int .u16 cB,.int .u16 cT,.int .u16 cP,.int .u16 cY,.int .u32 cR,.bool cV] 38)).alloc (.cells #[.int .u32 0,.int .u8 0,.int .u16 0,.int .u16 0,.int .u16 0,.int .u16 0,.int .u32 0,.bool false] 38)) (w.heap.size) 38 #[.int .u32 cC,.int .u8 cE,.int .u16 cB,.int .u16 cT,.int .u16 cP,.int .u16 cY,.int .u32 cR,.bool cV]:=by(repeat (first|(with_reducible exact Blk.new _ _ _)|(with_reducible refine Blk.drewN ?_ _)|(with_reducible refine Blk.drew ?_)|((with_reducible refine Blk.newAt ?_ _ _); (simp; done))|(with_reducible refine Blk.far ?_ (by first|(simp; done)|(simp; omega)) _)|(with_reducible refine Blk.alloc ?_ _)))
 have hq1:Blk ((w.alloc (.cells #[.int .u32 cC,.int .u8 cE,.int .u16 cB,.int .u16 cT,.int .u16 cP,.int .u16 cY,.int .u32 cR,.bool cV] 38)).alloc (.cells #[.int .u32 0,.int .u8 0,.int .u16 0,.int .u16 0,.int .u16 0,.int .u16 0,.int .u32 0,.bool false] 38)) (w.heap.size+1) 38 #[.int .u32 0,.int .u8 0,.int .u16 0,.int .u16 0,.int .u16 0,.int .u16 0,.int .u32 0,.bool false]:=by(repeat (first|(with_reducible exact Blk.new _ _ _)|(with_reducible refine Blk.drewN ?_ _)|(with_reducible refine Blk.drew ?_)|((with_reducible refine Blk.newAt ?_ _ _); (simp; done))|(with_reducible refine Blk.far ?_ (by first|(simp; done)|(simp; omega)) _)|(with_reducible refine Blk.alloc ?_ _)))
 have kb:Below w.heap.size w ((w.alloc (.cells #[.int .u32 cC,.int .u8 cE,.int .u16 cB,.int .u16 cT,.int .u16 cP,.int .u16 cY,.int .u32 cR,.bool cV] 38)).alloc (.cells #[.int .u32 0,.int .u8 0,.int .u16 0,.int .u16 0,.int .u16 0,.int .u16 0,.int .u32 0,.bool false] 38)):=by(repeat (first|(with_reducible exact Below.refl _ _)|(with_reducible refine Below.drew ?_)|(with_reducible refine ZI ?_ _)|(with_reducible refine Below.alloc ?_ (by simp<;>omega) _)|(with_reducible refine Below.setCell ?_ (by simp<;>omega) _)))
 have hsz:((w.alloc (.cells #[.int .u32 cC,.int .u8 cE,.int .u16 cB,.int .u16 cT,.int .u16 cP,.int .u16 cY,.int .u32 cR,.bool cV] 38)).alloc (.cells #[.int .u32 0,.int .u8 0,.int .u16 0,.int .u16 0,.int .u16 0,.int .u16 0,.int .u32 0,.bool false] 38)).heap.size=w.heap.size+1+1:=by simp
 go_enter Tryz.func22,Tryz.ntmps22
 go_wp2_with fail
 refine(HF.out _).mono ?_
 rintro e w1 ⟨rfl,hb1⟩
 have hq0:=hq0.below hb1 (by first|omega|(simp; done)|(simp; omega))
 have hq1:=hq1.below hb1 (by first|omega|(simp; done)|(simp; omega))
 have kb:=kb.trans (hb1.mono kb.size)
 have hsz1:w.heap.size+1+1≤w1.heap.size:=by have:=hb1.size; omega
 clear hb1
 have p0:=hq0.cell 0
 have pz0:=hq0.frozen 0
 have p1:=hq0.cell 1
 have pz1:=hq0.frozen 1
 have p2:=hq0.cell 2
 have pz2:=hq0.frozen 2
 have p3:=hq0.cell 3
 have pz3:=hq0.frozen 3
 have p4:=hq0.cell 4
 have pz4:=hq0.frozen 4
 have p5:=hq0.cell 5
 have pz5:=hq0.frozen 5
 have p6:=hq0.cell 6
 have pz6:=hq0.frozen 6
 have p7:=hq0.cell 7
 have pz7:=hq0.frozen 7
 simp at p0 p1 p2 p3 p4 p5 p6 p7
 have s0:=hq1.cell 0
 have sz0:=hq1.frozen 0
 have s1:=hq1.cell 1
 have sz1:=hq1.frozen 1
 have s2:=hq1.cell 2
 have sz2:=hq1.frozen 2
 have s3:=hq1.cell 3
 have sz3:=hq1.frozen 3
 have s4:=hq1.cell 4
 have sz4:=hq1.frozen 4
 have s5:=hq1.cell 5
 have sz5:=hq1.frozen 5
 have s6:=hq1.cell 6
 have sz6:=hq1.frozen 6
 have s7:=hq1.cell 7
 have sz7:=hq1.frozen 7
 simp at s0 s1 s2 s3 s4 s5 s6 s7
 have HK:=QS kb
 have H0:=QS hq0
 have H1:=QS hq1
 clear kb hq0 hq1
 go_wp2_with fail
 refine(Za1 to cE cB cT cP cY cR cV false _).mono ?_
 rintro e w2 ⟨rfl,hb2⟩
 have hq1:Blk w2 (w.heap.size+1) 38 #[.int .u32 0,.int .u8 0,.int .u16 0,.int .u16 0,.int .u16 0,.int .u16 0,.int .u32 0,.bool false]:=Blk.below (by repeat (first|exact H1.out|(with_reducible refine Blk.far ?_ (by first|(simp; done)|(simp; omega)) _))) hb2 (by first|omega|(simp; omega))
 have kb:Below w.heap.size w w2:=Below.trans (by repeat (first|exact HK.out|(with_reducible refine Below.setCell ?_ (by simp<;>omega) _))) (hb2.mono (by simp; have:=HK.out.size; omega))
 clear hb2 HK
 clear p0 pz0 p1 pz1 p2 pz2 p3 pz3 p4 pz4 p5 pz5 p6 pz6 p7 pz7 s0 sz0 s1 sz1 s2 sz2 s3 sz3 s4 sz4 s5 sz5 s6 sz6 s7 sz7
 have s0:=hq1.cell 0
 have sz0:=hq1.frozen 0
 have s1:=hq1.cell 1
 have sz1:=hq1.frozen 1
 have s2:=hq1.cell 2
 have sz2:=hq1.frozen 2
 have s3:=hq1.cell 3
 have sz3:=hq1.frozen 3
 have s4:=hq1.cell 4
 have sz4:=hq1.frozen 4
 have s5:=hq1.cell 5
 have sz5:=hq1.frozen 5
 have s6:=hq1.cell 6
 have sz6:=hq1.frozen 6
 have s7:=hq1.cell 7
 have sz7:=hq1.frozen 7
 simp at s0 s1 s2 s3 s4 s5 s6 s7
 have HK:=QS kb
 clear kb hq1
 go_wp2
 refine bodyPost_ret (v:=.agg #[.int .u32 to,.int .u8 cE,.int .u16 cB,.int .u16 cT,.int .u16 cP,.int .u16 cY,.int .u32 cR,.bool false]) (by simp[results,Tryz.results22,go_sem,s0,s1,s2,s3,s4,s5,s6,s7]) rfl ⟨rfl,?_⟩
 repeat (first|(with_reducible refine Below.setCell ?_ (by simp<;>omega) _))
 exact HK.out
theorem Zlf (cC cE cB cT cP cY cR:Nat) (cV:Bool) (to:Nat) (k:Bool) (w:World) (h:XI cY cV=true)
  (HKP:Hid (∀ W,Calls Tryz.prog 63 #[.int .u8 cE,.int .u16 cB,.int .u16 cT,.int .u32 cC,.int .u32 to] W fun e' w'=>e' = .returned (.bool k)∧W=w')) :
  Calls Tryz.prog 22 #[.agg #[.int .u32 cC,.int .u8 cE,.int .u16 cB,.int .u16 cT,.int .u16 cP,.int .u16 cY,.int .u32 cR,.bool cV],.int .u32 to] w fun e w'=>e = .returned (.agg #[.int .u32 to,.int .u8 cE,.int .u16 cB,.int .u16 cT,.int .u16 cP,.int .u16 cY,.int .u32 cR,.bool k])∧Below w.heap.size w w':=by
 have hfr:=fun W=>Zb8 cC cE cB cT cP cY cR cV W
 rw[h] at hfr
 have HF:=QS hfr
 clear hfr h
 have hq0:Blk ((w.alloc (.cells #[.int .u32 cC,.int .u8 cE,.int .u16 cB,.int .u16 cT,.int .u16 cP,.int .u16 cY,.int .u32 cR,.bool cV] 38)).alloc (.cells #[.int .u32 0,.int .u8 0,.int .u16 0,.int .u16 0,.int .u16 0,.int .u16 0,.int .u32 0,.bool false] 38)) (w.heap.size) 38 #[.int .u32 cC,.int .u8 cE,.int .u16 cB,.int .u16 cT,.int .u16 cP,.int .u16 cY,.int .u32 cR,.bool cV]:=by(repeat (first|(with_reducible exact Blk.new _ _ _)|(with_reducible refine Blk.drewN ?_ _)|(with_reducible refine Blk.drew ?_)|((with_reducible refine Blk.newAt ?_ _ _); (simp; done))|(with_reducible refine Blk.far ?_ (by first|(simp; done)|(simp; omega)) _)|(with_reducible refine Blk.alloc ?_ _)))
 have hq1:Blk ((w.alloc (.cells #[.int .u32 cC,.int .u8 cE,.int .u16 cB,.int .u16 cT,.int .u16 cP,.int .u16 cY,.int .u32 cR,.bool cV] 38)).alloc (.cells #[.int .u32 0,.int .u8 0,.int .u16 0,.int .u16 0,.int .u16 0,.int .u16 0,.int .u32 0,.bool false] 38)) (w.heap.size+1) 38 #[.int .u32 0,.int .u8 0,.int .u16 0,.int .u16 0,.int .u16 0,.int .u16 0,.int .u32 0,.bool false]:=by(repeat (first|(with_reducible exact Blk.new _ _ _)|(with_reducible refine Blk.drewN ?_ _)|(with_reducible refine Blk.drew ?_)|((with_reducible refine Blk.newAt ?_ _ _); (simp; done))|(with_reducible refine Blk.far ?_ (by first|(simp; done)|(simp; omega)) _)|(with_reducible refine Blk.alloc ?_ _)))
 have kb:Below w.heap.size w ((w.alloc (.cells #[.int .u32 cC,.int .u8 cE,.int .u16 cB,.int .u16 cT,.int .u16 cP,.int .u16 cY,.int .u32 cR,.bool cV] 38)).alloc (.cells #[.int .u32 0,.int .u8 0,.int .u16 0,.int .u16 0,.int .u16 0,.int .u16 0,.int .u32 0,.bool false] 38)):=by(repeat (first|(with_reducible exact Below.refl _ _)|(with_reducible refine Below.drew ?_)|(with_reducible refine ZI ?_ _)|(with_reducible refine Below.alloc ?_ (by simp<;>omega) _)|(with_reducible refine Below.setCell ?_ (by simp<;>omega) _)))
 have hsz:((w.alloc (.cells #[.int .u32 cC,.int .u8 cE,.int .u16 cB,.int .u16 cT,.int .u16 cP,.int .u16 cY,.int .u32 cR,.bool cV] 38)).alloc (.cells #[.int .u32 0,.int .u8 0,.int .u16 0,.int .u16 0,.int .u16 0,.int .u16 0,.int .u32 0,.bool false] 38)).heap.size=w.heap.size+1+1:=by simp
 go_enter Tryz.func22,Tryz.ntmps22
 go_wp2_with fail
 refine(HF.out _).mono ?_
 rintro e w1 ⟨rfl,hb1⟩
 have hq0:=hq0.below hb1 (by first|omega|(simp; done)|(simp; omega))
 have hq1:=hq1.below hb1 (by first|omega|(simp; done)|(simp; omega))
 have kb:=kb.trans (hb1.mono kb.size)
 have hsz1:w.heap.size+1+1≤w1.heap.size:=by have:=hb1.size; omega
 clear hb1
 have p0:=hq0.cell 0
 have pz0:=hq0.frozen 0
 have p1:=hq0.cell 1
 have pz1:=hq0.frozen 1
 have p2:=hq0.cell 2
 have pz2:=hq0.frozen 2
 have p3:=hq0.cell 3
 have pz3:=hq0.frozen 3
 have p4:=hq0.cell 4
 have pz4:=hq0.frozen 4
 have p5:=hq0.cell 5
 have pz5:=hq0.frozen 5
 have p6:=hq0.cell 6
 have pz6:=hq0.frozen 6
 have p7:=hq0.cell 7
 have pz7:=hq0.frozen 7
 simp at p0 p1 p2 p3 p4 p5 p6 p7
 have s0:=hq1.cell 0
 have sz0:=hq1.frozen 0
 have s1:=hq1.cell 1
 have sz1:=hq1.frozen 1
 have s2:=hq1.cell 2
 have sz2:=hq1.frozen 2
 have s3:=hq1.cell 3
 have sz3:=hq1.frozen 3
 have s4:=hq1.cell 4
 have sz4:=hq1.frozen 4
 have s5:=hq1.cell 5
 have sz5:=hq1.frozen 5
 have s6:=hq1.cell 6
 have sz6:=hq1.frozen 6
 have s7:=hq1.cell 7
 have sz7:=hq1.frozen 7
 simp at s0 s1 s2 s3 s4 s5 s6 s7
 have HK:=QS kb
 have H0:=QS hq0
 have H1:=QS hq1
 clear kb hq0 hq1
 go_wp2_with fail
 refine(HKP.out _).mono ?_
 rintro e w2 ⟨rfl,rfl⟩
 go_wp2_with fail
 refine(Za1 to cE cB cT cP cY cR cV k _).mono ?_
 rintro e w3 ⟨rfl,hb3⟩
 have hq1:Blk w3 (w.heap.size+1) 38 #[.int .u32 0,.int .u8 0,.int .u16 0,.int .u16 0,.int .u16 0,.int .u16 0,.int .u32 0,.bool false]:=Blk.below (by repeat (first|exact H1.out|(with_reducible refine Blk.far ?_ (by first|(simp; done)|(simp; omega)) _))) hb3 (by first|omega|(simp; omega))
 have kb:Below w.heap.size w w3:=Below.trans (by repeat (first|exact HK.out|(with_reducible refine Below.setCell ?_ (by simp<;>omega) _))) (hb3.mono (by simp; have:=HK.out.size; omega))
 clear hb3 HK
 clear p0 pz0 p1 pz1 p2 pz2 p3 pz3 p4 pz4 p5 pz5 p6 pz6 p7 pz7 s0 sz0 s1 sz1 s2 sz2 s3 sz3 s4 sz4 s5 sz5 s6 sz6 s7 sz7
 have s0:=hq1.cell 0
 have sz0:=hq1.frozen 0
 have s1:=hq1.cell 1
 have sz1:=hq1.frozen 1
 have s2:=hq1.cell 2
 have sz2:=hq1.frozen 2
 have s3:=hq1.cell 3
 have sz3:=hq1.frozen 3
 have s4:=hq1.cell 4
 have sz4:=hq1.frozen 4
 have s5:=hq1.cell 5
 have sz5:=hq1.frozen 5
 have s6:=hq1.cell 6
 have sz6:=hq1.frozen 6
 have s7:=hq1.cell 7
 have sz7:=hq1.frozen 7
 simp at s0 s1 s2 s3 s4 s5 s6 s7
 have HK:=QS kb
 clear kb hq1
 go_wp2
 refine bodyPost_ret (v:=.agg #[.int .u32 to,.int .u8 cE,.int .u16 cB,.int .u16 cT,.int .u16 cP,.int .u16 cY,.int .u32 cR,.bool k]) (by simp[results,Tryz.results22,go_sem,s0,s1,s2,s3,s4,s5,s6,s7]) rfl ⟨rfl,?_⟩
 repeat (first|(with_reducible refine Below.setCell ?_ (by simp<;>omega) _))
 exact HK.out
theorem ZgM (cC cE cB cT cP cY cR:Nat) (cV:Bool) (to:Nat) (w:World) (cl:Zgt cC cE cB cT cP cY cR) (hto:to<4294967296) :
  Calls Tryz.prog 22 #[.agg #[.int .u32 cC,.int .u8 cE,.int .u16 cB,.int .u16 cT,.int .u16 cP,.int .u16 cY,.int .u32 cR,.bool cV],.int .u32 to] w fun e w'=>e = .returned (.agg #[.int .u32 to,.int .u8 cE,.int .u16 cB,.int .u16 cT,.int .u16 cP,.int .u16 cY,.int .u32 cR,.bool (XI cY cV&&W0 cE cB cT cC to)])∧Below w.heap.size w w':=by
 by_cases h:XI cY cV=true
 ·rw[h,Bool.true_and]
  exact Zlf cC cE cB cT cP cY cR cV to _ w h (fun W=>Ze1 cE cB cT cC to W cl.2.1 cl.2.2.1 cl.2.2.2.1 cl.1 hto)
 ·have h':XI cY cV=false:=by simpa using h
  rw[h',Bool.false_and]
  exact Zle cC cE cB cT cP cY cR cV to w h'
def WF:WH:=fun f args _=>bif Nat.beq f 81 then
 match args with
 | [.agg ⟨[.int .u32 a,.int .u32 s]⟩,.int .u16 p]=>some (Ze4 a s p,[],Uc a s p)
 | _=>none
 else bif Nat.beq f 50 then
 match args with
 | [.agg ⟨[.int .u32 c,.int .u8 e,.int .u16 b,.int .u16 t,.int .u16 p,.int .u16 y,.int .u32 r,.bool v]⟩,.int .u32 to]=>some (ZgE c e b t p y r v to,[],ZaY c e b t p y r to)
 | _=>none
 else none
theorem XT:YN Tryz.prog 3 WF:=by
 intro f args s c ρ q h hq
 unfold WF at h
 cases h1:Nat.beq f 81<;>rw[h1] at h
 ·simp only[rr, tt, cond_false] at h
  obtain⟨h2,h3⟩:=ZL h
  have h2:=eB h2
  subst h2
  split at h3
  ·cases h3; exact Zd1 _ _ _ _ _ _ _ _ _ hq
  ·cases h3
 ·have h2:=eB h1
  subst h2
  simp only[rr, tt, cond_true] at h
  split at h
  ·cases h; exact Zd0 _ _ _ hq
  ·cases h
def soH (so:List Nat):Sy.Heap:=[(66,⟨false,some (0,0),Zk so,none⟩)]
def ZR (cs:List Nat):Nat→List UInt8→List UInt8
 | 0,zs=>zs
 | k+1,zs=>QK (4*k) (leW 4 (cs.getD k 0)) (ZR cs k zs)
theorem YA (cs:List Nat) (zs:List UInt8):∀ k,4*k≤zs.length→(ZR cs k zs).length=zs.length
 | 0,_=>rfl
 | k+1,h=>by
  have ih:=YA cs zs k (by omega)
  unfold ZR
  rw[Kg _ _ _ (by rw[Xe,ih]; omega),ih]
def z8:List Value:=[.int .u32 0,.int .u8 0,.int .u16 0,.int .u16 0,.int .u16 0,.int .u16 0,.int .u32 0,.bool false]
def c8 (a s p:Nat):List Value:=[.int .u32 (mA a s p:Nat),.int .u8 (mE a s p:Nat),.int .u16 (mB a s p:Nat),.int .u16 (mT a s p:Nat),.int .u16 (mP a s p:Nat),.int .u16 0,.int .u32 0,.bool (mV a s p)]
def pc8 (c to:Nat):List Value:=[.int .u32 (to:Nat),.int .u8 (mE 0 c 5:Nat),.int .u16 (mB 0 c 5:Nat),.int .u16 (mT 0 c 5:Nat),.int .u16 (mP 0 c 5:Nat),.int .u16 0,.int .u32 0,.bool (adV (mA 0 c 5) (mE 0 c 5) (mB 0 c 5) (mT 0 c 5) 0 (mV 0 c 5) to)]
def gA (b a s p:Nat):Nat:=if 0<b then mA a s p else 0
def gE (b a s p:Nat):Nat:=if 0<b then mE a s p else 0
def gB (b a s p:Nat):Nat:=if 0<b then mB a s p else 0
def gT (b a s p:Nat):Nat:=if 0<b then mT a s p else 0
def gP (b a s p:Nat):Nat:=if 0<b then mP a s p else 0
def gV (b a s p:Nat):Bool:=if 0<b then mV a s p else false
def g8 (b a s p:Nat):List Value:=[.int .u32 (gA b a s p:Nat),.int .u8 (gE b a s p:Nat),.int .u16 (gB b a s p:Nat),.int .u16 (gT b a s p:Nat),.int .u16 (gP b a s p:Nat),.int .u16 0,.int .u32 0,.bool (gV b a s p)]
def frC (c da ds sa s t:Nat) (so:List Nat) (k:Nat):List Value :=
 z8++(g8 ds da ds 27)++(g8 t 1 t 96)++z8++z8++z8++z8++z8++z8++z8++z8++z8++z8++z8++c8 (sa+k*s) s 27++z8++pc8 c (4*so.getD k 0)
theorem Zlg:z8.all ZP=true:=rfl
theorem Zlh (a s p:Nat):(c8 a s p).all ZP=true:=by simp only[rr, tt, c8,List.all_cons,List.all_nil,ZP,Bool.and_self]
theorem ZiC (c to:Nat):(pc8 c to).all ZP=true:=by simp only[rr, tt, pc8,List.all_cons,List.all_nil,ZP,Bool.and_self]
theorem Ud (b a s p:Nat):(g8 b a s p).all ZP=true:=by simp only[rr, tt, g8,List.all_cons,List.all_nil,ZP,Bool.and_self]
theorem Vq {b:Nat} (h:0<b) (a s p:Nat):g8 b a s p=c8 a s p:=by
 simp only[rr, tt, g8,c8,gA,gE,gB,gT,gP,gV,if_pos h]
theorem Vr {b:Nat} (h:¬ 0<b) (a s p:Nat):g8 b a s p=z8:=by
 simp only[rr, tt, g8,z8,gA,gE,gB,gT,gP,gV,if_neg h]; rfl
theorem Za2 (c da ds sa s t:Nat) (so:List Nat) (k:Nat):(frC c da ds sa s t so k).all ZP=true:=by
 unfold frC
 simp only[rr, tt, List.all_append,Zlg,Zlh,Ud,ZiC,Bool.and_self]
theorem Yf (xs:List Nat) (n:Nat):Qc n (Zk xs)=decide (n≤xs.length):=Q8 xs n
theorem ZjQ {q:Nat→Bool} (h:q 66=true) (so:List Nat) (h0:q 0=true):OkH q (soH so):=⟨⟨h,h0,Zv (Zg so)⟩,trivial⟩
end Go.Proofs.YtliidiceljdgmaaGreat
namespace Go.Proofs.YtliidiceljdgmaaGreat
open Go.IntKind (u8 u16 u32 u64 i64)
open Go.RowKit Sy
def Zd2 (bs:List Bool) (v:Bool) (cap k:Nat):Sf:=⟨65,[(0,.slice (some ⟨64,0,none⟩) bs.length cap),(1,.bool v),(7,.int .i64 (bs.length:Nat)),(8,.int .i64 (k:Nat))],[(64,⟨false,none,Y9 bs,none⟩)],[]⟩
structure Rl where
 at_:Nat
 code:Bool
 off:Nat
 size:Nat
 perms:Nat
 typ:Nat
def Zd3 (x:Rl):List Value:=[.int .u32 (x.at_:Int),.bool x.code,.int .u32 (x.off:Int),.int .u32 (x.size:Int),.int .u16 (x.perms:Int),.int .u16 (x.typ:Int)]
def rels (xs:List Rl):List Value:=xs.flatMap Zd3
def YE (Ze Zc types:Int) (nc nr ns:Nat) (data:List UInt8):Value :=
 .agg ⟨[.int .i64 Ze,.int .i64 Zc,.int .i64 types,.slice (some ⟨64,0,none⟩) nc (big+64),.string ⟨⟨data⟩⟩,.slice (some ⟨65,0,none⟩) nr (big+65),.slice (some ⟨66,0,none⟩) ns (big+66)]⟩
def Zli (rs:List Rl) (Za:List Nat) (T:List (Nat×Bool)):St:=⟨67,[(65,⟨false,some (0,0),rels rs,none⟩),(66,⟨false,some (0,0),Zk Za,none⟩)],[],0,T,0,True⟩
def ZjR (Ze Zc types:Int) (nc nr ns:Nat) (data:List UInt8):List Value :=
 [.int .i64 Ze,.int .i64 Zc,.int .i64 types,.slice (some ⟨64,0,none⟩) nc (big+64),.string ⟨⟨data⟩⟩,.slice (some ⟨65,0,none⟩) nr (big+65),.slice (some ⟨66,0,none⟩) ns (big+66)]
def stI (Ze Zc types:Int) (nc nr:Nat) (data:List UInt8) (Za:List Nat) (k:Nat):Sf :=
 ⟨71,[(0,.slice (some ⟨66,0,none⟩) Za.length (big+66)),(1,.func (.func 39) ⟨[]⟩ ⟨[.pointer (some ⟨67,0,none⟩)]⟩),(7,.int .i64 (Za.length:Nat)),(8,.int .i64 (k:Nat))],
  [(66,⟨false,some (0,0),Zk Za,none⟩),(67,⟨false,none,ZjR Ze Zc types nc nr Za.length data,none⟩)],[]⟩
def stF (j:Nat):Sf:=⟨71,[(4,.int .i64 (j:Nat))],[],[]⟩
def stN:Sf:=⟨71,[],[],[]⟩
end Go.Proofs.YtliidiceljdgmaaGreat
namespace Go.Proofs.YtliidiceljdgmaaGreat
open Go.IntKind (u8 u16 u32 u64 i64)
open Go.RowKit
open Sy
def rl0 (rs:List Rl) (k:Nat):Rl:=rs.getD k ⟨0,false,0,0,0,0⟩
theorem W2 (d:Value):∀ (a b:List Value) (i:Nat),Zd d (a++b) (a.length+i)=Zd d b i
 | [],b,i=>by simp
 | x::a,b,i=>by
  have:=W2 d a b i
  rw[show(x::a).length+i=(a.length+i)+1 by simp; omega]
  exact this
theorem Xb (x:Rl) (rs:List Rl):rels (x::rs)=Zd3 x++rels rs:=by simp[rels]
theorem Kk (rs:List Rl):(rels rs).length=rs.length*6:=by
 induction rs with
 | nil=>rfl
 | cons x rs ih=>rw[Xb,List.length_append,ih]; simp[Zd3]; omega
theorem Q9:∀ (rs:List Rl) (k j:Nat),k<rs.length→j<6→Zd undef (rels rs) (k*6+j)=Zd undef (Zd3 (rl0 rs k)) j
 | [],k,j,h,_=>by simp at h
 | x::rs,0,j,_,hj=>by
  rw[Xb]
  obtain rfl|rfl|rfl|rfl|rfl|rfl:j=0∨j=1∨j=2∨j=3∨j=4∨j=5:=by omega
  all_goals rfl
 | x::rs,k+1,j,h,hj=>by
  rw[Xb,show(k+1)*6+j=(Zd3 x).length+(k*6+j) by simp[Zd3]; omega,W2]
  exact Q9 rs k j (by simp at h; omega) hj
theorem K0 {rs:List Rl} {k:Nat} (h:k<rs.length):Zb (Zd undef (rels rs) (k*6))=((rl0 rs k).at_:Int):=by
 have:=Q9 rs k 0 h (by omega); rw[Nat.add_zero] at this; rw[this]; rfl
theorem Ue {rs:List Rl} {k:Nat} (h:k<rs.length):Zw (Zd undef (rels rs) (k*6+1))=(rl0 rs k).code:=by rw[Q9 rs k 1 h (by omega)]; rfl
theorem Uf {rs:List Rl} {k:Nat} (h:k<rs.length):Zb (Zd undef (rels rs) (k*6+2))=((rl0 rs k).off:Int):=by rw[Q9 rs k 2 h (by omega)]; rfl
theorem Ug {rs:List Rl} {k:Nat} (h:k<rs.length):Zb (Zd undef (rels rs) (k*6+3))=((rl0 rs k).size:Int):=by rw[Q9 rs k 3 h (by omega)]; rfl
theorem Uh {rs:List Rl} {k:Nat} (h:k<rs.length):Zb (Zd undef (rels rs) (k*6+4))=((rl0 rs k).perms:Int):=by rw[Q9 rs k 4 h (by omega)]; rfl
theorem Ui {rs:List Rl} {k:Nat} (h:k<rs.length):Zb (Zd undef (rels rs) (k*6+5))=((rl0 rs k).typ:Int):=by rw[Q9 rs k 5 h (by omega)]; rfl
theorem YZ {rs:List Rl} (n:Nat):Qc n (rels rs)=decide (n≤rs.length*6):=by
 rw[Bool.eq_iff_iff,QM,Kk]; simp
theorem XD {rs:List Rl} {k:Nat} (h:k<rs.length) (a c d e f:Int) (b:Bool):Zs [.int .u32 a,.bool b,.int .u32 c,.int .u32 d,.int .u16 e,.int .u16 f] (rels rs) (k*6)=true:=by
 have h0:=Q9 rs k 0 h (by omega)
 rw[Nat.add_zero] at h0
 simp only[rr, tt, Zs,Nat.add_assoc,Nat.reduceAdd,h0,Q9 rs k 1 h (by omega),Q9 rs k 2 h (by omega),Q9 rs k 3 h (by omega),Q9 rs k 4 h (by omega),Q9 rs k 5 h (by omega)]
 rfl
theorem UY {rs:List Rl} {k:Nat} (h:k<rs.length) (a:Int):Zs [.int .u32 a] (rels rs) (k*6)=true:=by
 have h0:=Q9 rs k 0 h (by omega)
 rw[Nat.add_zero] at h0
 simp only[rr, tt, Zs,h0]
 rfl
theorem ZC (rs:List Rl):∀ v∈rels rs,ZP v=true:=by
 intro v hv
 unfold rels at hv
 obtain⟨x,_,hx⟩:=List.mem_flatMap.1 hv
 simp only[rr, tt, Zd3,List.mem_cons,List.not_mem_nil,or_false] at hx
 rcases hx with rfl|rfl|rfl|rfl|rfl|rfl<;>rfl
set_option maxRecDepth 100000
structure Cp where
 a:Nat
 e:Nat
 b:Nat
 t:Nat
 p:Nat
 y:Nat
 v:Bool
def cpC (x:Cp):List Value:=[.int .u32 (x.a:Nat),.int .u8 (x.e:Nat),.int .u16 (x.b:Nat),.int .u16 (x.t:Nat),.int .u16 (x.p:Nat),.int .u16 (x.y:Nat),.int .u32 0,.bool x.v]
def cpL (l:List Cp):List Value:=l.flatMap cpC
def Jc (a s p y:Nat):Cp:=⟨mA a s p,mE a s p,mB a s p,mT a s p,mP a s p,y,mV a s p⟩
theorem Zd4 (x:Cp):∀ v∈cpC x,ZP v=true:=fun v hv=>by
 simp only[rr, tt, cpC,List.mem_cons,List.not_mem_nil,or_false] at hv
 rcases hv with rfl|rfl|rfl|rfl|rfl|rfl|rfl|rfl<;>rfl
theorem Z7 (l:List Cp):∀ v∈cpL l,ZP v=true:=fun v hv=>by
 obtain⟨x,_,hx⟩:=List.mem_flatMap.1 hv
 exact Zd4 x v hx
theorem KQ (l:List Cp):(cpL l).length=l.length*8:=by
 induction l with
 | nil=>rfl
 | cons x l ih=>rw[show cpL (x::l)=cpC x++cpL l from by simp[cpL],List.length_append,ih,List.length_cons,show(cpC x).length=8 from rfl]; omega
theorem Zb9 (a s p:Int) (h:Uc a s p):ConOk Tryz.prog 91 3 (Ze4 a s p):=by
 obtain⟨h1,h2,h3,h4,h5⟩:=h
 obtain⟨a,rfl⟩:=Int.eq_ofNat_of_zero_le h1
 obtain⟨s,rfl⟩:=Int.eq_ofNat_of_zero_le h3
 obtain⟨p,rfl⟩:=Int.eq_ofNat_of_zero_le h5
 refine Q4 (d:=1) (YO Zn (by kernel_rfl)) (fun u hu => ?_) rfl fun w => ?_
 ·simp only[rr, tt, List.mem_cons,List.not_mem_nil,or_false] at hu
  rcases hu with rfl|rfl<;>rfl
 ·cases hm:Yz a s p
  ·have:=Zk9 a s p w (by omega) (by omega) hm
   simp only[rr, tt, ZgD,mA,mE,mB,mT,mP,mV,Int.toNat_natCast,hm,Bool.false_eq_true,if_false]
   exact this
  ·have:=Zk8 a s p w (by omega) (by omega) hm
   simp only[rr, tt, ZgD,mA,mE,mB,mT,mP,mV,Int.toNat_natCast,hm,if_true]
   exact this
def arW (rw:Bool) (zs:List UInt8) (f:Nat→Bool) (N m n:Nat):Sy.Heap:=[(67,⟨rw,none,[.pointer (some ⟨66,0,none⟩),.slice (some ⟨64,0,none⟩) N (big+64)],none⟩),(66,⟨rw,none,[.int .i64 (m:Nat),.slice (some ⟨65,0,none⟩) n (big+65)],none⟩),(65,⟨rw,some (65,1),v64 (Zm f n),none⟩),(64,⟨rw,some (64,1),u8s zs,none⟩)]
def scL (g m n:Nat) (f:Nat→Bool) (cv:Int) (c e b t p y r:Nat) (k:Bool):Sy.Steps :=
 [(69,46,ZoR c e b t p y r true,[]),(71,78,ZoG g m n f cv,[64,65,66,67]),(71,48,sndC c e b t p y r true,[]),(71,47,ZoH g m n (XH f g false) k,[64,65,66,67])]
def gtD (x:Int) (m n:Nat) (f:Nat→Bool):Con:=⟨[.pointer (some ⟨66,0,none⟩),.int .i64 x],68,mpW false m (Zm f n),[(65,n)],.bool (f x.toNat),68,[],[]⟩
def Za3 (m n:Nat) (f:Nat→Bool):WH:=fun fn args _=>bif Nat.beq fn 68 then
 match args with
 | [_,.int .i64 x]=>some (gtD x m n f,[64,65,66,67],0≤x∧x<m)
 | _=>none
 else none
theorem sc_t (a g c e b t p y r:Nat) (zs:List UInt8) (f:Nat→Bool) (cv:Int) (N m n:Nat):evF Tryz.prog (QA 3 (ZT (scL g m n f cv c e b t p y r (Xa e b t p y r))) ZD) Zf 100 40 13 [Value.pointer (some ⟨67,0,none⟩),.int .u32 (↑a),cpV c e b t p y r true] ⟨68,arW true zs f N m n,arO N n,0,(tb 67 145268109035001871879),0,True⟩=some (Value.bool true,{ n:=71,h:=[(65,⟨true,some (65,1),v64 (Zm (XH (XH f g false) g (Xa e b t p y r)) n),none⟩),(66,⟨true,none,[Value.int .i64 (↑m),.slice (some ⟨65,0,none⟩) n 9223372036854775873],none⟩),(64,⟨true,some (64,1),QL (0+(↑a:Int).toNat*1) (List.take ((Zr (cbL c e b t p y r)).min (N-(↑a:Int).toNat)*1) (List.drop 0 (List.map (fun c=>Value.int .u8 (↑c.toNat)) (cbL c e b t p y r)))) (u8s zs),none⟩),(67,⟨true,none,[Value.pointer (some ⟨66,0,none⟩),.slice (some ⟨64,0,none⟩) N 9223372036854775872],none⟩)],lo:=[(70,N-(↑a:Int).toNat),(69,Zr (cbL c e b t p y r)),(65,n),(64,N)],esc:=0,T:=[],k:=67,O:=(((((((bif Qc (0+(↑a:Int).toNat*1+Zr (List.take ((Zr (cbL c e b t p y r)).min (N-(↑a:Int).toNat)*1) (List.drop 0 (List.map (fun c=>Value.int .u8 (↑c.toNat)) (cbL c e b t p y r))))) (u8s zs)&&UE (List.take ((Zr (cbL c e b t p y r)).min (N-(↑a:Int).toNat)*1) (List.drop 0 (List.map (fun c=>Value.int .u8 (↑c.toNat)) (cbL c e b t p y r))))&&(List.take ((Zr (cbL c e b t p y r)).min (N-(↑a:Int).toNat)*1) (List.drop 0 (List.map (fun c=>Value.int .u8 (↑c.toNat)) (cbL c e b t p y r)))).all ZP then bif (Zr (List.take ((Zr (cbL c e b t p y r)).min (N-(↑a:Int).toNat)*1) (List.drop 0 (List.map (fun c=>Value.int .u8 (↑c.toNat)) (cbL c e b t p y r))))).beq ((Zr (cbL c e b t p y r)).min (N-(↑a:Int).toNat)*1) then bif Qc (0+(Zr (cbL c e b t p y r)).min (N-(↑a:Int).toNat)*1) (List.map (fun c=>Value.int .u8 (↑c.toNat)) (cbL c e b t p y r)) then(bif decide ((0:Int)≤(↑a:Int))&&decide ((↑a:Int)≤(↑N:Int)) then((((((((((((((((((((((((((((((((((((((((((((((((((((((((((((((True∧((↑a:Int).tmod (16:Int)==(0:Int))=true)∧((↑a:Int).tmod (16:Int)==(0:Int))=true)∧((↑a:Int).tmod (16:Int)==(0:Int))=true)∧rr false)∧rr false)∧rr false)∧rr false)∧rr false)∧rr false)∧tt)∧tt)∧tt)∧tt)∧tt)∧tt)∧tt)∧tt)∧tt)∧tt)∧tt)∧decide ((16:Int)≤(↑N:Int))=true)∧decide ((16:Int)≤(↑N:Int))=true)∧decide ((16:Int)≤(↑N:Int))=true)∧decide ((16:Int)≤(↑N:Int))=true)∧decide ((16:Int)≤(↑N:Int))=true)∧decide ((16:Int)≤(↑N:Int))=true)∧decide ((16:Int)≤(↑N:Int))=true)∧decide ((16:Int)≤(↑N:Int))=true)∧decide ((16:Int)≤(↑N:Int))=true)∧decide ((16:Int)≤(↑N:Int))=true)∧decide ((16:Int)≤(↑N:Int))=true)∧((↑a:Int).tmod (16:Int)==(0:Int))=true)∧(!decide (i64.wrap (↑a)≤i64.wrap ((↑N:Int)-(16:Int))))=false)∧True∧(rr (Value.agg ⟨[.int .u32 (↑c),.int .u8 (↑e),.int .u16 (↑b),.int .u16 (↑t),.int .u16 (↑p),.int .u16 (↑y),.int .u32 (↑r),.bool true]⟩)∧True)∧True∧True)∧rr false)∧rr false)∧rr false)∧rr false)∧rr false)∧rr false)∧tt)∧tt)∧tt)∧decide ((↑(Zr (cbL c e b t p y r)):Int)≥(0:Int))=true)∧decide ((↑(Zr (cbL c e b t p y r)):Int)≥(0:Int))=true)∧decide ((↑(Zr (cbL c e b t p y r)):Int)≥(0:Int))=true)∧decide ((↑(Zr (cbL c e b t p y r)):Int)≥(0:Int))=true)∧decide ((↑(Zr (cbL c e b t p y r)):Int)≥(0:Int))=true)∧decide ((↑(Zr (cbL c e b t p y r)):Int)≥(0:Int))=true)∧decide ((↑(Zr (cbL c e b t p y r)):Int)≥(0:Int))=true)∧decide ((↑(Zr (cbL c e b t p y r)):Int)≥(0:Int))=true)∧decide ((↑(Zr (cbL c e b t p y r)):Int)≤(↑N:Int))=true)∧decide ((↑(Zr (cbL c e b t p y r)):Int)≤(↑N:Int))=true)∧decide ((↑(Zr (cbL c e b t p y r)):Int)≤(↑N:Int))=true)∧decide ((↑(Zr (cbL c e b t p y r)):Int)≤(↑N:Int))=true)∧decide ((↑(Zr (cbL c e b t p y r)):Int)≤(↑N:Int))=true)∧decide ((↑(Zr (cbL c e b t p y r)):Int)≤(↑N:Int))=true)∧decide ((↑(Zr (cbL c e b t p y r)):Int)≤(↑N:Int))=true)∧decide ((↑(Zr (cbL c e b t p y r)):Int)≤(↑N:Int))=true)∧decide ((↑(Zr (cbL c e b t p y r)):Int)≤(↑N:Int))=true)∧decide ((↑(Zr (cbL c e b t p y r)):Int)≤(↑N:Int))=true)∧decide ((↑(Zr (cbL c e b t p y r)):Int)≤(↑N:Int))=true)∧(!decide (i64.wrap (↑a)≤i64.wrap ((↑N:Int)-(↑(Zr (cbL c e b t p y r)):Int))))=false else False)∧(↑a:Int).toNat.blt N=true else False else False else False)∧decide ((↑(Zr (cbL c e b t p y r)):Int)>(0:Int))=true)∧True∧(rr (Value.pointer (some ⟨66,0,none⟩))∧Value.int .i64 (i64.wrap ((i64.wrap (↑a)).tdiv (16:Int)))=Value.int .i64 (↑g)∧Value.int .i64 (i64.wrap (i64.wrap ((i64.wrap (i64.wrap (i64.wrap (↑a)+(↑(Zr (cbL c e b t p y r)):Int))-(1:Int))).tdiv (16:Int))+(1:Int)))=Value.int .i64 (↑(g+1))∧True)∧((tt∧tt∧tt∧tt∧tt∧True∧[Value.int .i64 (↑m),.slice (some ⟨65,0,none⟩) n 9223372036854775873]=[Value.int .i64 (↑m),.slice (some ⟨65,0,none⟩) (Zm f n).length 9223372036854775873])∧(tt∧(v64 (Zm f n)).all (okV (fun l=>l.blt 68) 3)=true∧tt∧tt∧tt∧True∧v64 (Zm f n)=List.map (rnV (lift 68 71 [64,65,66,67]) 3) (v64 (Zm f n)))∧True)∧(tt∧n≤n)∧True)∧tt)∧tt)∧True∧(rr (Value.agg ⟨[.int .u32 (↑c),.int .u8 (↑e),.int .u16 (↑b),.int .u16 (↑t),.int .u16 (↑p),.int .u16 (↑y),.int .u32 (↑r),.bool true]⟩)∧True)∧True∧True)∧tt)∧True∧(rr (Value.pointer (some ⟨66,0,none⟩))∧Value.int .i64 (i64.wrap ((i64.wrap (↑a)).tdiv (16:Int)))=Value.int .i64 (↑g)∧rr (Value.bool (Xa e b t p y r))∧True)∧((tt∧tt∧tt∧tt∧tt∧True∧[Value.int .i64 (↑m),.slice (some ⟨65,0,none⟩) n 9223372036854775873]=[Value.int .i64 (↑m),.slice (some ⟨65,0,none⟩) (Zm (XH f g false) n).length 9223372036854775873])∧(tt∧(v64 (Zm (XH f g false) n)).all (okV (fun l=>l.blt 68) 3)=true∧tt∧tt∧tt∧True∧v64 (Zm (XH f g false) n)=List.map (rnV (lift 68 71 [64,65,66,67]) 3) (v64 (Zm (XH f g false) n)))∧True)∧(tt∧n≤n)∧True:St }):=by kernel_rfl
theorem rw_d (at_ k:Int) (zs:List UInt8) (f:Nat→Bool) (N m n:Nat):obs (evF Tryz.prog ZD Zf 100 40 34 [Value.pointer (some ⟨67,0,none⟩),.int .u32 at_,.int .i64 k] ⟨68,arW false zs f N m n,arO N n,0,(tb 30 805306304),0,True⟩)=some (Value.tuple { toList:=[Value.string ⟨⟨List.map Zmn (List.take ((i64.wrap (i64.wrap at_+k)).toNat-(i64.wrap at_).toNat) (List.drop (0+(i64.wrap at_).toNat*1) (u8s zs)))⟩⟩,.bool true] },bif (List.take ((i64.wrap (i64.wrap at_+k)).toNat-(i64.wrap at_).toNat) (List.drop (0+(i64.wrap at_).toNat*1) (u8s zs))).all Zjt then bif Qc (0+(i64.wrap at_).toNat*1+((i64.wrap (i64.wrap at_+k)).toNat-(i64.wrap at_).toNat)) (u8s zs) then(bif decide ((0:Int)≤i64.wrap at_)&&decide (i64.wrap at_≤(↑(i64.wrap (i64.wrap at_+k)).toNat:Int)) then bif decide ((0:Int)≤i64.wrap (i64.wrap at_+k))&&decide (i64.wrap (i64.wrap at_+k)≤(↑N:Int)) then((((((((((((((((((((((((((((True∧rr false)∧rr false)∧rr false)∧rr false)∧rr false)∧rr false)∧tt)∧tt)∧tt)∧decide (k≥(0:Int))=true)∧decide (k≥(0:Int))=true)∧decide (k≥(0:Int))=true)∧decide (k≥(0:Int))=true)∧decide (k≥(0:Int))=true)∧decide (k≥(0:Int))=true)∧decide (k≥(0:Int))=true)∧decide (k≥(0:Int))=true)∧decide (k≤(↑N:Int))=true)∧decide (k≤(↑N:Int))=true)∧decide (k≤(↑N:Int))=true)∧decide (k≤(↑N:Int))=true)∧decide (k≤(↑N:Int))=true)∧decide (k≤(↑N:Int))=true)∧decide (k≤(↑N:Int))=true)∧decide (k≤(↑N:Int))=true)∧decide (k≤(↑N:Int))=true)∧decide (k≤(↑N:Int))=true)∧decide (k≤(↑N:Int))=true)∧(!decide (i64.wrap at_≤i64.wrap ((↑N:Int)-k)))=false else False else False)∧(i64.wrap at_).toNat.blt N=true else False else False):=by kernel_rfl
theorem KR {q:Nat→Bool} (h:∀ l,l<68→q l=true) (rw:Bool) (zs:List UInt8) (f:Nat→Bool) (N m n:Nat):OkH q (arW rw zs f N m n) :=
 ⟨⟨h 67 (by omega),rfl,fun v hv=>ZM 3 v ((QO h N m n).1 v hv)⟩,⟨h 66 (by omega),rfl,fun v hv=>ZM 3 v ((QO h N m n).2 v hv)⟩,⟨h 65 (by omega),h 65 (by omega),Zv (Z4 _)⟩,⟨h 64 (by omega),h 64 (by omega),Zv (Zp zs)⟩,trivial⟩
theorem Zlj (rw:Bool) (zs:List UInt8) (f:Nat→Bool) (N m n:Nat):∀ x∈arW rw zs f N m n,∀ v∈x.2.cells,okV (fun l=>Nat.blt l 68) 3 v=true:=fun x hx v hv=>by
 simp only[rr, tt, arW,List.mem_cons,List.not_mem_nil,or_false] at hx
 rcases hx with rfl|rfl|rfl|rfl
 ·exact(QO ZaF N m n).1 v hv
 ·exact(QO ZaF N m n).2 v hv
 ·exact ZS (Z4 _ v hv) 3
 ·exact ZS (Zp zs v hv) 3
theorem ZiD (rw:Bool) (zs:List UInt8) (f:Nat→Bool) (N m n:Nat):∀ x∈arW rw zs f N m n,x.2.op≠none→∀ v∈x.2.cells,ZP v=true:=fun x hx hne=>by
 simp only[rr, tt, arW,List.mem_cons,List.not_mem_nil,or_false] at hx
 rcases hx with rfl|rfl|rfl|rfl
 ·exact absurd rfl hne
 ·exact absurd rfl hne
 ·exact Z4 _
 ·exact Zp zs
theorem ZiE {s':Sy.St} (zs:List UInt8) (f:Nat→Bool) (N m n:Nat) (cs ws:List Value) (h67:Sy.look s'.h 67=some ⟨true,none,[.pointer (some ⟨66,0,none⟩),.slice (some ⟨64,0,none⟩) N (big+64)],none⟩) (h66:Sy.look s'.h 66=some ⟨true,none,[.int .i64 (m:Nat),.slice (some ⟨65,0,none⟩) n (big+65)],none⟩)
  (h65:Sy.look s'.h 65=some ⟨true,some (65,1),ws,none⟩) (h64:Sy.look s'.h 64=some ⟨true,some (64,1),cs,none⟩) (hw:ws=v64 (Zm f n)) (hc:cs=u8s zs):Ya 3 (fun l=>Nat.blt l 68) id s'.h (arW true zs f N m n):=by
 refine⟨⟨rfl,List.all_eq_true.2 (QO ZaF N m n).1,rfl,?_⟩,⟨rfl,List.all_eq_true.2 (QO ZaF N m n).2,rfl,?_⟩,⟨rfl,Zh (Z4 _),rfl,?_⟩,⟨rfl,Zh (Zp zs),rfl,?_⟩,trivial⟩
 ·simp only[rr, tt, id,h67]; exact⟨rfl,rfl,trivial,(Qr _ rfl _).symm⟩
 ·simp only[rr, tt, id,h66]; exact⟨rfl,rfl,trivial,(Qr _ rfl _).symm⟩
 ·simp only[rr, tt, id,h65]; exact⟨rfl,rfl,trivial,by rw[Qr _ rfl,hw]⟩
 ·simp only[rr, tt, id,h64]; exact⟨rfl,rfl,trivial,by rw[Qr _ rfl,hc]⟩
def Zlk (args:List Value) (zs zs':List UInt8) (f f':Nat→Bool) (N m n:Nat):Con:=⟨args,68,arW true zs f N m n,arO N n,.bool true,68,arW true zs' f' N m n,arO N n⟩
theorem Zll {args:List Value} (ha:args.all (okV (fun l=>Nat.blt l 68) 3)=true) (zs zs':List UInt8) (f f':Nat→Bool) (N m n:Nat):(Zlk args zs zs' f f' N m n).Wf 3 :=
 ⟨by show 64≤68; omega,Nat.le_refl _,KR ZaF true zs f N m n,rfl,rfl,rfl,ha,rfl,Zlj true _ _ N m n⟩
theorem ZgN {args:List Value} {zs zs':List UInt8} {f f':Nat→Bool} {N m n:Nat} {s':Sy.St} (h1:Ya 3 (fun l=>Nat.blt l 68) id s'.h (arW true zs' f' N m n)) (h2:WY (fun l=>Nat.blt l 68) id s'.lo (arO N n)):(Zlk args zs zs' f f' N m n).Ends 3 (fun l=>Nat.blt l 68) id (.bool true) s' :=
 ⟨fun _ _=>rfl,h1,rfl,h2,⟨rfl,rfl⟩,rfl,KR Zga true _ _ N m n,rfl,Zz _ rfl,fun x _ _ => .inl rfl⟩
theorem ZgO (f:Nat→Bool) (g:Nat) (a b:Bool):XH (XH f g a) g b=XH f g b:=by
 funext i; unfold XH; split<;>rfl
theorem ZiF (g m n:Nat) (f:Nat→Bool) (v:Int):FlatC (ZoG g m n f v):=⟨fun x hx _=>by
 obtain rfl:=List.mem_singleton.1 hx
 exact Z4 _⟩
theorem ZiG (g m n:Nat) (f:Nat→Bool) (b:Bool):FlatC (ZoH g m n f b):=⟨fun x hx _=>by
 obtain rfl:=List.mem_singleton.1 hx
 exact Z4 _⟩
def scC (a c e b t p y r:Nat) (zs:List UInt8) (f:Nat→Bool) (N m n:Nat):Con:=Zlk [.pointer (some ⟨67,0,none⟩),.int .u32 (a:Nat),cpV c e b t p y r true] zs (QK a (cbL c e b t p y r) zs) f (XH f (a/16) true) N m n
theorem ZmW (a c e b t p y r:Nat) (zs:List UInt8) (f:Nat→Bool) (N m n:Nat) (h:ArOk zs N m n) (hcp:CpB c e b t p y r) (hs:Xa e b t p y r=true) (ha:a%16=0) (ha2:a+16≤N):ConOk Tryz.prog 13 3 (scC a c e b t p y r zs f N m n)∧FlatC (scC a c e b t p y r zs f N m n):=by
 obtain⟨hl,h1,h2,h3,h4⟩:=h
 have hg:a/16<m:=by omega
 obtain⟨cv,hcv⟩:=Zk1 (a/16) m n f hg h2 h3
 have hr:=sc_t a (a/16) c e b t p y r zs f cv N m n
 have e16:=ZaZ c e b t p y r
 simp only[rr, tt, Zq,ZaJ,List.drop_zero,e16] at hr
 have et:(a:Int).tmod (16:Int)=((a%16:Nat):Int):=(Int.ofNat_tmod a 16).symm
 have ht:List.take 16 (u8s (cbL c e b t p y r))=u8s (cbL c e b t p y r):=List.take_of_length_le (by rw[Kf,e16]; exact Nat.le_refl _)
 have hv1:∀ (f:Nat→Bool) (σ:Nat→Nat),(v64 (Zm f n)).map (rnV σ 3)=v64 (Zm f n):=fun f σ=>Zi (Z4 _)
 have hv2:∀ (f:Nat→Bool) (p:Nat→Bool),(v64 (Zm f n)).all (okV p 3)=true:=fun f p=>Zh (Z4 _)
 simp(disch:=omega) only[rr, tt, XS,Wm,et,ha,ZdS,ZdT,ZeV,Zij,Int.toNat_natCast,Nat.zero_add,Nat.mul_one,ht,hv1,hs,ZgO] at hr
 refine⟨ZF (Zu (L:=100) Zn (Qe (ZW fun x hx => ?_) (Zx _)) (Zj _) 40) (Zll rfl zs _ f _ N m n) hr ?_ (p:=fun l=>Nat.blt l 68) (σ:=id) (ZgN (ZiE _ _ N m n _ _ rfl rfl rfl rfl rfl (JY _ _ _ _ rfl (by rw[e16]; omega))) ⟨⟨rfl,Nat.le_refl _⟩,⟨rfl,Nat.le_refl _⟩,trivial⟩),⟨ZiD _ _ _ _ _ _⟩⟩
 ·simp only[rr, tt, scL,List.mem_cons,List.not_mem_nil,or_false] at hx
  rcases hx with rfl|rfl|rfl|rfl
  ·exact⟨Zla c e b t p y r true hcp,⟨fun x hx=>by cases hx⟩⟩
  ·exact⟨hcv,ZiF _ _ _ _ _⟩
  ·exact⟨Zlb c e b t p y r true hcp,⟨fun x hx=>by cases hx⟩⟩
  ·exact⟨Zk0 (a/16) m n _ true hg h2 h3,ZiG _ _ _ _ _⟩
 ·simp only[rr, tt, XR,hl,hv1,hv2,Kf,ZaK,ZaL,Zq,e16,Qm,ht]
  simp(disch:=omega) only[rr, tt, Zik,ZcQ]
  simp(disch:=omega) only[rr, tt, decide_eq_true,decide_eq_false,Bool.and_self,Bool.true_and,Bool.and_true,Bool.not_true,Bool.not_false,cond_true,and_true,true_and,and_self]
  have q1:i64.wrap ((N:Int)-(16:Int))=((N-16:Nat):Int):=by rw[show(N:Int)-(16:Int)=((N-16:Nat):Int) by omega,XS _ (by omega)]
  have q2:i64.wrap ((a:Int)+((16:Nat):Int))=((a+16:Nat):Int):=by rw[ZaI,XS _ (by omega)]
  have q3:i64.wrap (((a+16:Nat):Int)-(1:Int))=((a+15:Nat):Int):=by rw[show((a+16:Nat):Int)-(1:Int)=((a+15:Nat):Int) by omega,XS _ (by omega)]
  have q4:i64.wrap (i64.wrap (((a+15:Nat):Int).tdiv 16)+1)=((a/16+1:Nat):Int):=by
   rw[Wm,XS _ (by omega),ZdS,XS _ (by omega)]
   omega
  rw[q1,q2,q3,q4]
  refine⟨⟨⟨by simp,?_⟩,rfl,Nat.le_refl _⟩,Nat.le_refl _⟩
  rw[Bool.not_eq_false',decide_eq_true_eq]; omega
def ZmX (args:List Value) (v:Value) (zs:List UInt8) (f:Nat→Bool) (N m n:Nat):Con:=⟨args,68,arW false zs f N m n,arO N n,v,68,[],[]⟩
theorem Zc0 {call:Qb} (hc:ZA Tryz.prog call) {fn:FuncId} {args:List Value} {v:Value} {zs:List UInt8} {f:Nat→Bool} {N m n:Nat} {T:List (Nat×Bool)} {q:Prop} (ha:args.all (okV (fun l=>Nat.blt l 68) 3)=true) (hv:Yr v=true) (hu:isU v=false) (h:obs (call fn args ⟨68,arW false zs f N m n,arO N n,0,T,0,True⟩)=some (v,q)) (hq:q) :
  ConOk Tryz.prog fn 3 (ZmX args v zs f N m n)∧FlatC (ZmX args v zs f N m n):=by
 unfold obs at h
 obtain⟨⟨v',s'⟩,h1,h2⟩:=oM h
 simp only[rr, tt, Prod.mk.injEq] at h2
 obtain⟨rfl,rfl⟩:=h2
 refine⟨ZF hc ⟨by show 64≤68; omega,Nat.le_refl _,KR ZaF false zs f N m n,rfl,rfl,rfl,ha,Qy hv 1,fun x hx=>by cases hx⟩ h1 hq (p:=fun l=>Nat.blt l 68) (σ:=id) ?_,⟨fun x hx=>by cases hx⟩⟩
 exact⟨fun _ _=>rfl,trivial,rfl,trivial,⟨Qy hv 1,by rw[Yd]; rfl⟩,hu,trivial,rfl,Yb _ hv,fun x hx=>by cases hx⟩
def rwC (a k:Nat) (zs:List UInt8) (f:Nat→Bool) (N m n:Nat):Con:=ZmX [.pointer (some ⟨67,0,none⟩),.int .u32 (a:Nat),.int .i64 (k:Nat)] (.tuple ⟨[.string ⟨⟨(zs.drop a).take k⟩⟩,.bool true]⟩) zs f N m n
theorem ZmY (a k:Nat) (zs:List UInt8) (f:Nat→Bool) (N m n:Nat) (h:ArOk zs N m n) (ha:a+k≤N) (hlt:a<N):ConOk Tryz.prog 34 3 (rwC a k zs f N m n)∧FlatC (rwC a k zs f N m n):=by
 obtain⟨hl,h1,h2,h3,h4⟩:=h
 have hr:=rw_d (a:Int) (k:Int) zs f N m n
 have e1:a+k-a=k:=by omega
 simp(disch:=omega) only[rr, tt, XS,ZaI,ZeV,Int.toNat_natCast,Nat.zero_add,Nat.mul_one,Nat.add_zero,e1,Zgd,ZaN,J0] at hr
 refine Zc0 (Zu (L:=100) Zn (Zx _) (Zj _) 40) rfl rfl rfl hr ?_
 simp(disch:=omega) only[rr, tt, XR,hl,ZcQ,decide_eq_true,decide_eq_false,Bool.and_self,Bool.true_and,Bool.and_true,Bool.not_true,Bool.not_false,cond_true,and_true,true_and,and_self]
theorem Zd5 (m n:Nat) (f:Nat→Bool) (h2:m≤64*n) (h3:n≤100000):YN Tryz.prog 3 (Za3 m n f):=by
 intro fn args s c ρ q h hq
 unfold Za3 at h
 obtain⟨h4,h5⟩:=ZL h
 have h4:=eB h4
 subst h4
 split at h5
 ·rename_i x
  cases h5
  obtain⟨g,rfl⟩:=Int.eq_ofNat_of_zero_le hq.1
  exact Zk2 g m n f (by omega) h2 h3
 ·cases h5
def ZmZ (g:Nat) (zs:List UInt8) (f:Nat→Bool) (N m n:Nat):Con:=ZmX [.pointer (some ⟨67,0,none⟩),.int .i64 (g:Nat)] (.slice none 0 0) zs f N m n
def plQ (p s t:Int) (nc ns:Nat) (d:List UInt8) (a2:Option Addr) (n2 c2:Nat) (c da ds sa ss ha hs:Int):List Value :=
 [.int .i64 p,.int .i64 s,.int .i64 t,.slice (some ⟨64,0,none⟩) nc (big+64),.string ⟨⟨d⟩⟩,.slice a2 n2 c2,.slice (some ⟨66,0,none⟩) ns (big+66),.int .u32 0,.int .u32 c,.int .u32 da,.int .u32 ds,.int .u32 sa,.int .u32 ss,.int .u32 ha,.int .u32 hs]
theorem ZoW (p s t:Int) (nc ns:Nat) (d:List UInt8) (a2:Option Addr) (n2 c2:Nat) (c da ds sa ss ha hs:Int) (so:List Nat) (k:Int):obs (evF Tryz.prog (ZH 3 WF) Zf 100 20 15 [Value.agg { toList:=plQ p s t nc ns d a2 n2 c2 c da ds sa ss ha hs },.int .i64 k] ⟨67,soH so,[],0,(tb 18 126715),0,True⟩)=some (Value.agg ⟨[.int .u32 0,.int .u8 0,.int .u16 0,.int .u16 0,.int .u16 0,.int .u16 0,.int .u32 0,.bool false,.int .u32 (↑(mA da.toNat ds.toNat 27)),.int .u8 (↑(mE da.toNat ds.toNat 27)),.int .u16 (↑(mB da.toNat ds.toNat 27)),.int .u16 (↑(mT da.toNat ds.toNat 27)),.int .u16 (↑(mP da.toNat ds.toNat 27)),.int .u16 0,.int .u32 0,.bool (mV da.toNat ds.toNat 27),.int .u32 (↑(mA 1 (u32.wrap t).toNat 96):Int),.int .u8 (↑(mE 1 (u32.wrap t).toNat 96):Int),.int .u16 (↑(mB 1 (u32.wrap t).toNat 96):Int),.int .u16 (↑(mT 1 (u32.wrap t).toNat 96):Int),.int .u16 (↑(mP 1 (u32.wrap t).toNat 96):Int),.int .u16 0,.int .u32 0,.bool (mV 1 (u32.wrap t).toNat 96),.int .u32 0,.int .u8 0,.int .u16 0,.int .u16 0,.int .u16 0,.int .u16 0,.int .u32 0,.bool false,.int .u32 0,.int .u8 0,.int .u16 0,.int .u16 0,.int .u16 0,.int .u16 0,.int .u32 0,.bool false,.int .u32 0,.int .u8 0,.int .u16 0,.int .u16 0,.int .u16 0,.int .u16 0,.int .u32 0,.bool false,.int .u32 0,.int .u8 0,.int .u16 0,.int .u16 0,.int .u16 0,.int .u16 0,.int .u32 0,.bool false,.int .u32 0,.int .u8 0,.int .u16 0,.int .u16 0,.int .u16 0,.int .u16 0,.int .u32 0,.bool false,.int .u32 0,.int .u8 0,.int .u16 0,.int .u16 0,.int .u16 0,.int .u16 0,.int .u32 0,.bool false,.int .u32 0,.int .u8 0,.int .u16 0,.int .u16 0,.int .u16 0,.int .u16 0,.int .u32 0,.bool false,.int .u32 0,.int .u8 0,.int .u16 0,.int .u16 0,.int .u16 0,.int .u16 0,.int .u32 0,.bool false,.int .u32 0,.int .u8 0,.int .u16 0,.int .u16 0,.int .u16 0,.int .u16 0,.int .u32 0,.bool false,.int .u32 0,.int .u8 0,.int .u16 0,.int .u16 0,.int .u16 0,.int .u16 0,.int .u32 0,.bool false,.int .u32 0,.int .u8 0,.int .u16 0,.int .u16 0,.int .u16 0,.int .u16 0,.int .u32 0,.bool false,.int .u32 (↑(mA (u32.wrap (sa+u32.wrap (u32.wrap k*u32.wrap s))).toNat (u32.wrap s).toNat 27):Int),.int .u8 (↑(mE (u32.wrap (sa+u32.wrap (u32.wrap k*u32.wrap s))).toNat (u32.wrap s).toNat 27):Int),.int .u16 (↑(mB (u32.wrap (sa+u32.wrap (u32.wrap k*u32.wrap s))).toNat (u32.wrap s).toNat 27):Int),.int .u16 (↑(mT (u32.wrap (sa+u32.wrap (u32.wrap k*u32.wrap s))).toNat (u32.wrap s).toNat 27):Int),.int .u16 (↑(mP (u32.wrap (sa+u32.wrap (u32.wrap k*u32.wrap s))).toNat (u32.wrap s).toNat 27):Int),.int .u16 0,.int .u32 0,.bool (mV (u32.wrap (sa+u32.wrap (u32.wrap k*u32.wrap s))).toNat (u32.wrap s).toNat 27),.int .u32 0,.int .u8 0,.int .u16 0,.int .u16 0,.int .u16 0,.int .u16 0,.int .u32 0,.bool false,.int .u32 (u32.wrap ((4:Int)*Zb (Zd undef (Zk so) (0+k.toNat*1)))),.int .u8 (↑(mE 0 c.toNat 5)),.int .u16 (↑(mB 0 c.toNat 5)),.int .u16 (↑(mT 0 c.toNat 5)),.int .u16 (↑(mP 0 c.toNat 5)),.int .u16 0,.int .u32 0,.bool (adV (↑(mA 0 c.toNat 5):Int).toNat (↑(mE 0 c.toNat 5):Int).toNat (↑(mB 0 c.toNat 5):Int).toNat (↑(mT 0 c.toNat 5):Int).toNat 0 (mV 0 c.toNat 5) (u32.wrap ((4:Int)*Zb (Zd undef (Zk so) (0+k.toNat*1)))).toNat)]⟩,(((((((((((((((((((((((bif Qc (0+k.toNat*1+1) (Zk so)&&Zs [Value.int .u32 0] (Zk so) (0+k.toNat*1) then bif decide ((0:Int)≤k)&&decide (k<(↑ns:Int)) then True else False else False)∧tt)∧tt)∧rr false)∧((0:Int)≤(0:Int)∧(0:Int)<(4294967296:Int)∧(0:Int)≤c∧c<(4294967296:Int)∧(0:Int)≤(5:Int))∧(rr (Value.agg ⟨[.int .u32 0,.int .u32 c]⟩)∧rr (Value.int .u16 5)∧True)∧True∧True)∧((0:Int)≤(↑(mA 0 c.toNat 5):Int)∧(↑(mA 0 c.toNat 5):Int)<(4294967296:Int)∧(0:Int)≤(↑(mE 0 c.toNat 5):Int)∧(↑(mE 0 c.toNat 5):Int)<(256:Int)∧(0:Int)≤(↑(mB 0 c.toNat 5):Int)∧(↑(mB 0 c.toNat 5):Int)<(65536:Int)∧(0:Int)≤(↑(mT 0 c.toNat 5):Int)∧(↑(mT 0 c.toNat 5):Int)<(65536:Int)∧(0:Int)≤(↑(mP 0 c.toNat 5):Int)∧(↑(mP 0 c.toNat 5):Int)<(65536:Int)∧(0:Int)≤(0:Int)∧(0:Int)<(65536:Int)∧(0:Int)≤(0:Int)∧(0:Int)<(4294967296:Int)∧(0:Int)≤u32.wrap ((4:Int)*Zb (Zd undef (Zk so) (0+k.toNat*1)))∧u32.wrap ((4:Int)*Zb (Zd undef (Zk so) (0+k.toNat*1)))<(4294967296:Int))∧(rr (Value.agg ⟨[.int .u32 (↑(mA 0 c.toNat 5)),.int .u8 (↑(mE 0 c.toNat 5)),.int .u16 (↑(mB 0 c.toNat 5)),.int .u16 (↑(mT 0 c.toNat 5)),.int .u16 (↑(mP 0 c.toNat 5)),.int .u16 0,.int .u32 0,.bool (mV 0 c.toNat 5)]⟩)∧rr (Value.int .u32 (u32.wrap ((4:Int)*Zb (Zd undef (Zk so) (0+k.toNat*1)))))∧True)∧True∧True)∧decide (ds>(0:Int))=true)∧tt)∧tt)∧tt)∧tt)∧rr false)∧((0:Int)≤da∧da<(4294967296:Int)∧(0:Int)≤ds∧ds<(4294967296:Int)∧(0:Int)≤(27:Int))∧(rr (Value.agg ⟨[.int .u32 da,.int .u32 ds]⟩)∧rr (Value.int .u16 27)∧True)∧True∧True)∧decide (t>(0:Int))=true)∧tt)∧tt)∧rr false)∧((0:Int)≤(1:Int)∧(1:Int)<(4294967296:Int)∧(0:Int)≤u32.wrap t∧u32.wrap t<(4294967296:Int)∧(0:Int)≤(96:Int))∧(rr (Value.agg ⟨[.int .u32 1,.int .u32 (u32.wrap t)]⟩)∧rr (Value.int .u16 96)∧True)∧True∧True)∧tt)∧tt)∧tt)∧tt)∧rr false)∧((0:Int)≤u32.wrap (sa+u32.wrap (u32.wrap k*u32.wrap s))∧u32.wrap (sa+u32.wrap (u32.wrap k*u32.wrap s))<(4294967296:Int)∧(0:Int)≤u32.wrap s∧u32.wrap s<(4294967296:Int)∧(0:Int)≤(27:Int))∧(rr (Value.agg ⟨[.int .u32 (u32.wrap (sa+u32.wrap (u32.wrap k*u32.wrap s))),.int .u32 (u32.wrap s)]⟩)∧rr (Value.int .u16 27)∧True)∧True∧True):=by kernel_rfl
theorem ZoX (p s t:Int) (nc ns:Nat) (d:List UInt8) (a2:Option Addr) (n2 c2:Nat) (c da ds sa ss ha hs:Int) (so:List Nat) (k:Int):obs (evF Tryz.prog (ZH 3 WF) Zf 100 20 15 [Value.agg { toList:=plQ p s t nc ns d a2 n2 c2 c da ds sa ss ha hs },.int .i64 k] ⟨67,soH so,[],0,(tb 15 15611),0,True⟩)=some (Value.agg ⟨[.int .u32 0,.int .u8 0,.int .u16 0,.int .u16 0,.int .u16 0,.int .u16 0,.int .u32 0,.bool false,.int .u32 (↑(mA da.toNat ds.toNat 27)),.int .u8 (↑(mE da.toNat ds.toNat 27)),.int .u16 (↑(mB da.toNat ds.toNat 27)),.int .u16 (↑(mT da.toNat ds.toNat 27)),.int .u16 (↑(mP da.toNat ds.toNat 27)),.int .u16 0,.int .u32 0,.bool (mV da.toNat ds.toNat 27),.int .u32 0,.int .u8 0,.int .u16 0,.int .u16 0,.int .u16 0,.int .u16 0,.int .u32 0,.bool false,.int .u32 0,.int .u8 0,.int .u16 0,.int .u16 0,.int .u16 0,.int .u16 0,.int .u32 0,.bool false,.int .u32 0,.int .u8 0,.int .u16 0,.int .u16 0,.int .u16 0,.int .u16 0,.int .u32 0,.bool false,.int .u32 0,.int .u8 0,.int .u16 0,.int .u16 0,.int .u16 0,.int .u16 0,.int .u32 0,.bool false,.int .u32 0,.int .u8 0,.int .u16 0,.int .u16 0,.int .u16 0,.int .u16 0,.int .u32 0,.bool false,.int .u32 0,.int .u8 0,.int .u16 0,.int .u16 0,.int .u16 0,.int .u16 0,.int .u32 0,.bool false,.int .u32 0,.int .u8 0,.int .u16 0,.int .u16 0,.int .u16 0,.int .u16 0,.int .u32 0,.bool false,.int .u32 0,.int .u8 0,.int .u16 0,.int .u16 0,.int .u16 0,.int .u16 0,.int .u32 0,.bool false,.int .u32 0,.int .u8 0,.int .u16 0,.int .u16 0,.int .u16 0,.int .u16 0,.int .u32 0,.bool false,.int .u32 0,.int .u8 0,.int .u16 0,.int .u16 0,.int .u16 0,.int .u16 0,.int .u32 0,.bool false,.int .u32 0,.int .u8 0,.int .u16 0,.int .u16 0,.int .u16 0,.int .u16 0,.int .u32 0,.bool false,.int .u32 0,.int .u8 0,.int .u16 0,.int .u16 0,.int .u16 0,.int .u16 0,.int .u32 0,.bool false,.int .u32 (↑(mA (u32.wrap (sa+u32.wrap (u32.wrap k*u32.wrap s))).toNat (u32.wrap s).toNat 27):Int),.int .u8 (↑(mE (u32.wrap (sa+u32.wrap (u32.wrap k*u32.wrap s))).toNat (u32.wrap s).toNat 27):Int),.int .u16 (↑(mB (u32.wrap (sa+u32.wrap (u32.wrap k*u32.wrap s))).toNat (u32.wrap s).toNat 27):Int),.int .u16 (↑(mT (u32.wrap (sa+u32.wrap (u32.wrap k*u32.wrap s))).toNat (u32.wrap s).toNat 27):Int),.int .u16 (↑(mP (u32.wrap (sa+u32.wrap (u32.wrap k*u32.wrap s))).toNat (u32.wrap s).toNat 27):Int),.int .u16 0,.int .u32 0,.bool (mV (u32.wrap (sa+u32.wrap (u32.wrap k*u32.wrap s))).toNat (u32.wrap s).toNat 27),.int .u32 0,.int .u8 0,.int .u16 0,.int .u16 0,.int .u16 0,.int .u16 0,.int .u32 0,.bool false,.int .u32 (u32.wrap ((4:Int)*Zb (Zd undef (Zk so) (0+k.toNat*1)))),.int .u8 (↑(mE 0 c.toNat 5)),.int .u16 (↑(mB 0 c.toNat 5)),.int .u16 (↑(mT 0 c.toNat 5)),.int .u16 (↑(mP 0 c.toNat 5)),.int .u16 0,.int .u32 0,.bool (adV (↑(mA 0 c.toNat 5):Int).toNat (↑(mE 0 c.toNat 5):Int).toNat (↑(mB 0 c.toNat 5):Int).toNat (↑(mT 0 c.toNat 5):Int).toNat 0 (mV 0 c.toNat 5) (u32.wrap ((4:Int)*Zb (Zd undef (Zk so) (0+k.toNat*1)))).toNat)]⟩,(((((((((((((((((((bif Qc (0+k.toNat*1+1) (Zk so)&&Zs [Value.int .u32 0] (Zk so) (0+k.toNat*1) then bif decide ((0:Int)≤k)&&decide (k<(↑ns:Int)) then True else False else False)∧tt)∧tt)∧rr false)∧((0:Int)≤(0:Int)∧(0:Int)<(4294967296:Int)∧(0:Int)≤c∧c<(4294967296:Int)∧(0:Int)≤(5:Int))∧(rr (Value.agg ⟨[.int .u32 0,.int .u32 c]⟩)∧rr (Value.int .u16 5)∧True)∧True∧True)∧((0:Int)≤(↑(mA 0 c.toNat 5):Int)∧(↑(mA 0 c.toNat 5):Int)<(4294967296:Int)∧(0:Int)≤(↑(mE 0 c.toNat 5):Int)∧(↑(mE 0 c.toNat 5):Int)<(256:Int)∧(0:Int)≤(↑(mB 0 c.toNat 5):Int)∧(↑(mB 0 c.toNat 5):Int)<(65536:Int)∧(0:Int)≤(↑(mT 0 c.toNat 5):Int)∧(↑(mT 0 c.toNat 5):Int)<(65536:Int)∧(0:Int)≤(↑(mP 0 c.toNat 5):Int)∧(↑(mP 0 c.toNat 5):Int)<(65536:Int)∧(0:Int)≤(0:Int)∧(0:Int)<(65536:Int)∧(0:Int)≤(0:Int)∧(0:Int)<(4294967296:Int)∧(0:Int)≤u32.wrap ((4:Int)*Zb (Zd undef (Zk so) (0+k.toNat*1)))∧u32.wrap ((4:Int)*Zb (Zd undef (Zk so) (0+k.toNat*1)))<(4294967296:Int))∧(rr (Value.agg ⟨[.int .u32 (↑(mA 0 c.toNat 5)),.int .u8 (↑(mE 0 c.toNat 5)),.int .u16 (↑(mB 0 c.toNat 5)),.int .u16 (↑(mT 0 c.toNat 5)),.int .u16 (↑(mP 0 c.toNat 5)),.int .u16 0,.int .u32 0,.bool (mV 0 c.toNat 5)]⟩)∧rr (Value.int .u32 (u32.wrap ((4:Int)*Zb (Zd undef (Zk so) (0+k.toNat*1)))))∧True)∧True∧True)∧decide (ds>(0:Int))=true)∧tt)∧tt)∧tt)∧tt)∧rr false)∧((0:Int)≤da∧da<(4294967296:Int)∧(0:Int)≤ds∧ds<(4294967296:Int)∧(0:Int)≤(27:Int))∧(rr (Value.agg ⟨[.int .u32 da,.int .u32 ds]⟩)∧rr (Value.int .u16 27)∧True)∧True∧True)∧decide (t>(0:Int))=false)∧tt)∧tt)∧tt)∧tt)∧rr false)∧((0:Int)≤u32.wrap (sa+u32.wrap (u32.wrap k*u32.wrap s))∧u32.wrap (sa+u32.wrap (u32.wrap k*u32.wrap s))<(4294967296:Int)∧(0:Int)≤u32.wrap s∧u32.wrap s<(4294967296:Int)∧(0:Int)≤(27:Int))∧(rr (Value.agg ⟨[.int .u32 (u32.wrap (sa+u32.wrap (u32.wrap k*u32.wrap s))),.int .u32 (u32.wrap s)]⟩)∧rr (Value.int .u16 27)∧True)∧True∧True):=by kernel_rfl
theorem ZoY (p s t:Int) (nc ns:Nat) (d:List UInt8) (a2:Option Addr) (n2 c2:Nat) (c da ds sa ss ha hs:Int) (so:List Nat) (k:Int):obs (evF Tryz.prog (ZH 3 WF) Zf 100 20 15 [Value.agg { toList:=plQ p s t nc ns d a2 n2 c2 c da ds sa ss ha hs },.int .i64 k] ⟨67,soH so,[],0,(tb 13 3955),0,True⟩)=some (Value.agg ⟨[.int .u32 0,.int .u8 0,.int .u16 0,.int .u16 0,.int .u16 0,.int .u16 0,.int .u32 0,.bool false,.int .u32 0,.int .u8 0,.int .u16 0,.int .u16 0,.int .u16 0,.int .u16 0,.int .u32 0,.bool false,.int .u32 (↑(mA 1 (u32.wrap t).toNat 96):Int),.int .u8 (↑(mE 1 (u32.wrap t).toNat 96):Int),.int .u16 (↑(mB 1 (u32.wrap t).toNat 96):Int),.int .u16 (↑(mT 1 (u32.wrap t).toNat 96):Int),.int .u16 (↑(mP 1 (u32.wrap t).toNat 96):Int),.int .u16 0,.int .u32 0,.bool (mV 1 (u32.wrap t).toNat 96),.int .u32 0,.int .u8 0,.int .u16 0,.int .u16 0,.int .u16 0,.int .u16 0,.int .u32 0,.bool false,.int .u32 0,.int .u8 0,.int .u16 0,.int .u16 0,.int .u16 0,.int .u16 0,.int .u32 0,.bool false,.int .u32 0,.int .u8 0,.int .u16 0,.int .u16 0,.int .u16 0,.int .u16 0,.int .u32 0,.bool false,.int .u32 0,.int .u8 0,.int .u16 0,.int .u16 0,.int .u16 0,.int .u16 0,.int .u32 0,.bool false,.int .u32 0,.int .u8 0,.int .u16 0,.int .u16 0,.int .u16 0,.int .u16 0,.int .u32 0,.bool false,.int .u32 0,.int .u8 0,.int .u16 0,.int .u16 0,.int .u16 0,.int .u16 0,.int .u32 0,.bool false,.int .u32 0,.int .u8 0,.int .u16 0,.int .u16 0,.int .u16 0,.int .u16 0,.int .u32 0,.bool false,.int .u32 0,.int .u8 0,.int .u16 0,.int .u16 0,.int .u16 0,.int .u16 0,.int .u32 0,.bool false,.int .u32 0,.int .u8 0,.int .u16 0,.int .u16 0,.int .u16 0,.int .u16 0,.int .u32 0,.bool false,.int .u32 0,.int .u8 0,.int .u16 0,.int .u16 0,.int .u16 0,.int .u16 0,.int .u32 0,.bool false,.int .u32 0,.int .u8 0,.int .u16 0,.int .u16 0,.int .u16 0,.int .u16 0,.int .u32 0,.bool false,.int .u32 (↑(mA (u32.wrap (sa+u32.wrap (u32.wrap k*u32.wrap s))).toNat (u32.wrap s).toNat 27):Int),.int .u8 (↑(mE (u32.wrap (sa+u32.wrap (u32.wrap k*u32.wrap s))).toNat (u32.wrap s).toNat 27):Int),.int .u16 (↑(mB (u32.wrap (sa+u32.wrap (u32.wrap k*u32.wrap s))).toNat (u32.wrap s).toNat 27):Int),.int .u16 (↑(mT (u32.wrap (sa+u32.wrap (u32.wrap k*u32.wrap s))).toNat (u32.wrap s).toNat 27):Int),.int .u16 (↑(mP (u32.wrap (sa+u32.wrap (u32.wrap k*u32.wrap s))).toNat (u32.wrap s).toNat 27):Int),.int .u16 0,.int .u32 0,.bool (mV (u32.wrap (sa+u32.wrap (u32.wrap k*u32.wrap s))).toNat (u32.wrap s).toNat 27),.int .u32 0,.int .u8 0,.int .u16 0,.int .u16 0,.int .u16 0,.int .u16 0,.int .u32 0,.bool false,.int .u32 (u32.wrap ((4:Int)*Zb (Zd undef (Zk so) (0+k.toNat*1)))),.int .u8 (↑(mE 0 c.toNat 5)),.int .u16 (↑(mB 0 c.toNat 5)),.int .u16 (↑(mT 0 c.toNat 5)),.int .u16 (↑(mP 0 c.toNat 5)),.int .u16 0,.int .u32 0,.bool (adV (↑(mA 0 c.toNat 5):Int).toNat (↑(mE 0 c.toNat 5):Int).toNat (↑(mB 0 c.toNat 5):Int).toNat (↑(mT 0 c.toNat 5):Int).toNat 0 (mV 0 c.toNat 5) (u32.wrap ((4:Int)*Zb (Zd undef (Zk so) (0+k.toNat*1)))).toNat)]⟩,(((((((((((((((((bif Qc (0+k.toNat*1+1) (Zk so)&&Zs [Value.int .u32 0] (Zk so) (0+k.toNat*1) then bif decide ((0:Int)≤k)&&decide (k<(↑ns:Int)) then True else False else False)∧tt)∧tt)∧rr false)∧((0:Int)≤(0:Int)∧(0:Int)<(4294967296:Int)∧(0:Int)≤c∧c<(4294967296:Int)∧(0:Int)≤(5:Int))∧(rr (Value.agg ⟨[.int .u32 0,.int .u32 c]⟩)∧rr (Value.int .u16 5)∧True)∧True∧True)∧((0:Int)≤(↑(mA 0 c.toNat 5):Int)∧(↑(mA 0 c.toNat 5):Int)<(4294967296:Int)∧(0:Int)≤(↑(mE 0 c.toNat 5):Int)∧(↑(mE 0 c.toNat 5):Int)<(256:Int)∧(0:Int)≤(↑(mB 0 c.toNat 5):Int)∧(↑(mB 0 c.toNat 5):Int)<(65536:Int)∧(0:Int)≤(↑(mT 0 c.toNat 5):Int)∧(↑(mT 0 c.toNat 5):Int)<(65536:Int)∧(0:Int)≤(↑(mP 0 c.toNat 5):Int)∧(↑(mP 0 c.toNat 5):Int)<(65536:Int)∧(0:Int)≤(0:Int)∧(0:Int)<(65536:Int)∧(0:Int)≤(0:Int)∧(0:Int)<(4294967296:Int)∧(0:Int)≤u32.wrap ((4:Int)*Zb (Zd undef (Zk so) (0+k.toNat*1)))∧u32.wrap ((4:Int)*Zb (Zd undef (Zk so) (0+k.toNat*1)))<(4294967296:Int))∧(rr (Value.agg ⟨[.int .u32 (↑(mA 0 c.toNat 5)),.int .u8 (↑(mE 0 c.toNat 5)),.int .u16 (↑(mB 0 c.toNat 5)),.int .u16 (↑(mT 0 c.toNat 5)),.int .u16 (↑(mP 0 c.toNat 5)),.int .u16 0,.int .u32 0,.bool (mV 0 c.toNat 5)]⟩)∧rr (Value.int .u32 (u32.wrap ((4:Int)*Zb (Zd undef (Zk so) (0+k.toNat*1)))))∧True)∧True∧True)∧decide (ds>(0:Int))=false)∧decide (t>(0:Int))=true)∧tt)∧tt)∧rr false)∧((0:Int)≤(1:Int)∧(1:Int)<(4294967296:Int)∧(0:Int)≤u32.wrap t∧u32.wrap t<(4294967296:Int)∧(0:Int)≤(96:Int))∧(rr (Value.agg ⟨[.int .u32 1,.int .u32 (u32.wrap t)]⟩)∧rr (Value.int .u16 96)∧True)∧True∧True)∧tt)∧tt)∧tt)∧tt)∧rr false)∧((0:Int)≤u32.wrap (sa+u32.wrap (u32.wrap k*u32.wrap s))∧u32.wrap (sa+u32.wrap (u32.wrap k*u32.wrap s))<(4294967296:Int)∧(0:Int)≤u32.wrap s∧u32.wrap s<(4294967296:Int)∧(0:Int)≤(27:Int))∧(rr (Value.agg ⟨[.int .u32 (u32.wrap (sa+u32.wrap (u32.wrap k*u32.wrap s))),.int .u32 (u32.wrap s)]⟩)∧rr (Value.int .u16 27)∧True)∧True∧True):=by kernel_rfl
theorem ZoZ (p s t:Int) (nc ns:Nat) (d:List UInt8) (a2:Option Addr) (n2 c2:Nat) (c da ds sa ss ha hs:Int) (so:List Nat) (k:Int):obs (evF Tryz.prog (ZH 3 WF) Zf 100 20 15 [Value.agg { toList:=plQ p s t nc ns d a2 n2 c2 c da ds sa ss ha hs },.int .i64 k] ⟨67,soH so,[],0,(tb 10 483),0,True⟩)=some (Value.agg ⟨[.int .u32 0,.int .u8 0,.int .u16 0,.int .u16 0,.int .u16 0,.int .u16 0,.int .u32 0,.bool false,.int .u32 0,.int .u8 0,.int .u16 0,.int .u16 0,.int .u16 0,.int .u16 0,.int .u32 0,.bool false,.int .u32 0,.int .u8 0,.int .u16 0,.int .u16 0,.int .u16 0,.int .u16 0,.int .u32 0,.bool false,.int .u32 0,.int .u8 0,.int .u16 0,.int .u16 0,.int .u16 0,.int .u16 0,.int .u32 0,.bool false,.int .u32 0,.int .u8 0,.int .u16 0,.int .u16 0,.int .u16 0,.int .u16 0,.int .u32 0,.bool false,.int .u32 0,.int .u8 0,.int .u16 0,.int .u16 0,.int .u16 0,.int .u16 0,.int .u32 0,.bool false,.int .u32 0,.int .u8 0,.int .u16 0,.int .u16 0,.int .u16 0,.int .u16 0,.int .u32 0,.bool false,.int .u32 0,.int .u8 0,.int .u16 0,.int .u16 0,.int .u16 0,.int .u16 0,.int .u32 0,.bool false,.int .u32 0,.int .u8 0,.int .u16 0,.int .u16 0,.int .u16 0,.int .u16 0,.int .u32 0,.bool false,.int .u32 0,.int .u8 0,.int .u16 0,.int .u16 0,.int .u16 0,.int .u16 0,.int .u32 0,.bool false,.int .u32 0,.int .u8 0,.int .u16 0,.int .u16 0,.int .u16 0,.int .u16 0,.int .u32 0,.bool false,.int .u32 0,.int .u8 0,.int .u16 0,.int .u16 0,.int .u16 0,.int .u16 0,.int .u32 0,.bool false,.int .u32 0,.int .u8 0,.int .u16 0,.int .u16 0,.int .u16 0,.int .u16 0,.int .u32 0,.bool false,.int .u32 0,.int .u8 0,.int .u16 0,.int .u16 0,.int .u16 0,.int .u16 0,.int .u32 0,.bool false,.int .u32 (↑(mA (u32.wrap (sa+u32.wrap (u32.wrap k*u32.wrap s))).toNat (u32.wrap s).toNat 27):Int),.int .u8 (↑(mE (u32.wrap (sa+u32.wrap (u32.wrap k*u32.wrap s))).toNat (u32.wrap s).toNat 27):Int),.int .u16 (↑(mB (u32.wrap (sa+u32.wrap (u32.wrap k*u32.wrap s))).toNat (u32.wrap s).toNat 27):Int),.int .u16 (↑(mT (u32.wrap (sa+u32.wrap (u32.wrap k*u32.wrap s))).toNat (u32.wrap s).toNat 27):Int),.int .u16 (↑(mP (u32.wrap (sa+u32.wrap (u32.wrap k*u32.wrap s))).toNat (u32.wrap s).toNat 27):Int),.int .u16 0,.int .u32 0,.bool (mV (u32.wrap (sa+u32.wrap (u32.wrap k*u32.wrap s))).toNat (u32.wrap s).toNat 27),.int .u32 0,.int .u8 0,.int .u16 0,.int .u16 0,.int .u16 0,.int .u16 0,.int .u32 0,.bool false,.int .u32 (u32.wrap ((4:Int)*Zb (Zd undef (Zk so) (0+k.toNat*1)))),.int .u8 (↑(mE 0 c.toNat 5)),.int .u16 (↑(mB 0 c.toNat 5)),.int .u16 (↑(mT 0 c.toNat 5)),.int .u16 (↑(mP 0 c.toNat 5)),.int .u16 0,.int .u32 0,.bool (adV (↑(mA 0 c.toNat 5):Int).toNat (↑(mE 0 c.toNat 5):Int).toNat (↑(mB 0 c.toNat 5):Int).toNat (↑(mT 0 c.toNat 5):Int).toNat 0 (mV 0 c.toNat 5) (u32.wrap ((4:Int)*Zb (Zd undef (Zk so) (0+k.toNat*1)))).toNat)]⟩,(((((((((((((bif Qc (0+k.toNat*1+1) (Zk so)&&Zs [Value.int .u32 0] (Zk so) (0+k.toNat*1) then bif decide ((0:Int)≤k)&&decide (k<(↑ns:Int)) then True else False else False)∧tt)∧tt)∧rr false)∧((0:Int)≤(0:Int)∧(0:Int)<(4294967296:Int)∧(0:Int)≤c∧c<(4294967296:Int)∧(0:Int)≤(5:Int))∧(rr (Value.agg ⟨[.int .u32 0,.int .u32 c]⟩)∧rr (Value.int .u16 5)∧True)∧True∧True)∧((0:Int)≤(↑(mA 0 c.toNat 5):Int)∧(↑(mA 0 c.toNat 5):Int)<(4294967296:Int)∧(0:Int)≤(↑(mE 0 c.toNat 5):Int)∧(↑(mE 0 c.toNat 5):Int)<(256:Int)∧(0:Int)≤(↑(mB 0 c.toNat 5):Int)∧(↑(mB 0 c.toNat 5):Int)<(65536:Int)∧(0:Int)≤(↑(mT 0 c.toNat 5):Int)∧(↑(mT 0 c.toNat 5):Int)<(65536:Int)∧(0:Int)≤(↑(mP 0 c.toNat 5):Int)∧(↑(mP 0 c.toNat 5):Int)<(65536:Int)∧(0:Int)≤(0:Int)∧(0:Int)<(65536:Int)∧(0:Int)≤(0:Int)∧(0:Int)<(4294967296:Int)∧(0:Int)≤u32.wrap ((4:Int)*Zb (Zd undef (Zk so) (0+k.toNat*1)))∧u32.wrap ((4:Int)*Zb (Zd undef (Zk so) (0+k.toNat*1)))<(4294967296:Int))∧(rr (Value.agg ⟨[.int .u32 (↑(mA 0 c.toNat 5)),.int .u8 (↑(mE 0 c.toNat 5)),.int .u16 (↑(mB 0 c.toNat 5)),.int .u16 (↑(mT 0 c.toNat 5)),.int .u16 (↑(mP 0 c.toNat 5)),.int .u16 0,.int .u32 0,.bool (mV 0 c.toNat 5)]⟩)∧rr (Value.int .u32 (u32.wrap ((4:Int)*Zb (Zd undef (Zk so) (0+k.toNat*1)))))∧True)∧True∧True)∧decide (ds>(0:Int))=false)∧decide (t>(0:Int))=false)∧tt)∧tt)∧tt)∧tt)∧rr false)∧((0:Int)≤u32.wrap (sa+u32.wrap (u32.wrap k*u32.wrap s))∧u32.wrap (sa+u32.wrap (u32.wrap k*u32.wrap s))<(4294967296:Int)∧(0:Int)≤u32.wrap s∧u32.wrap s<(4294967296:Int)∧(0:Int)≤(27:Int))∧(rr (Value.agg ⟨[.int .u32 (u32.wrap (sa+u32.wrap (u32.wrap k*u32.wrap s))),.int .u32 (u32.wrap s)]⟩)∧rr (Value.int .u16 27)∧True)∧True∧True):=by kernel_rfl
theorem Zm0 {q:Nat→Bool} {a2:Option Addr} {n2 c2:Nat} (h:okV q 2 (.slice a2 n2 c2)=true) (h4:q 64=true) (h6:q 66=true) (p s t:Int) (nc ns:Nat) (d:List UInt8) (c da ds sa ss ha hs k:Int):([.agg ⟨plQ p s t nc ns d a2 n2 c2 c da ds sa ss ha hs⟩,.int .i64 k]:List Value).all (okV q 3)=true:=by
 show(List.all (plQ p s t nc ns d a2 n2 c2 c da ds sa ss ha hs) (okV q 2)&&(okV q 3 (.int .i64 k)&&true))=true
 simp only[rr, tt, plQ,List.all_cons,List.all_nil,h,Bool.and_true,Bool.true_and]
 simp[okV,QP,h4,h6,ZP,big]
def fqK (p s t nc ns:Nat) (d:List UInt8) (a2:Option Addr) (n2 c2:Nat) (c da ds sa ss ha hs:Nat) (so:List Nat) (k:Nat):Con:=⟨[.agg ⟨plQ (p:Nat) (s:Nat) (t:Nat) nc ns d a2 n2 c2 (c:Nat) (da:Nat) (ds:Nat) (sa:Nat) (ss:Nat) (ha:Nat) (hs:Nat)⟩,.int .i64 (k:Nat)],67,soH so,[],.agg ⟨frC c da ds sa s t so k⟩,67,[],[]⟩
theorem Zd6 {p s t nc ns:Nat} {d:List UInt8} {a2:Option Addr} {n2 c2:Nat} {c da ds sa ss ha hs:Nat} {so:List Nat} {k:Nat} {T:List (Nat×Bool)} {q:Prop} {v:Value} (hs2:okV (fun l=>Nat.blt l 67) 2 (.slice a2 n2 c2)=true) (hv:v = .agg ⟨frC c da ds sa s t so k⟩)
  (h:obs (evF Tryz.prog (ZH 3 WF) Zf 100 20 15 [.agg ⟨plQ (p:Nat) (s:Nat) (t:Nat) nc ns d a2 n2 c2 (c:Nat) (da:Nat) (ds:Nat) (sa:Nat) (ss:Nat) (ha:Nat) (hs:Nat)⟩,.int .i64 (k:Nat)] ⟨67,soH so,[],0,T,0,True⟩)=some (v,q)) (hq:q) :
  ConOk Tryz.prog 15 3 (fqK p s t nc ns d a2 n2 c2 c da ds sa ss ha hs so k)∧FlatC (fqK p s t nc ns d a2 n2 c2 c da ds sa ss ha hs so k):=by
 subst hv
 unfold obs at h
 obtain⟨⟨v',s'⟩,h1,h2⟩:=oM h
 simp only[rr, tt, Prod.mk.injEq] at h2
 obtain⟨rfl,rfl⟩:=h2
 have hr:∀ p,okV p 3 (.agg ⟨frC c da ds sa s t so k⟩)=true:=fun p=>List.all_eq_true.2 fun v hv=>ZS (List.all_eq_true.1 (Za2 c da ds sa s t so k) v hv) 2
 refine⟨ZF (Zu (L:=100) Zn (Z1 XT) (Zj _) 20) ⟨by show 64≤67; omega,Nat.le_refl _,ZjQ rfl so rfl,rfl,rfl,rfl,Zm0 hs2 rfl rfl _ _ _ _ _ _ _ _ _ _ _ _ _ _,hr _,fun x hx=>by cases hx⟩ h1 hq (p:=fun l=>Nat.blt l 67) (σ:=id) ?_,⟨fun x hx=>by cases hx⟩⟩
 exact⟨fun _ _=>rfl,trivial,rfl,trivial,⟨hr _,by rw[Yd]; rfl⟩,rfl,trivial,rfl,ZM 3 _ (hr _),fun x hx=>by cases hx⟩
theorem ZjS (p s t nc ns:Nat) (d:List UInt8) (a2:Option Addr) (n2 c2:Nat) (c da ds sa ss ha hs:Nat) (so:List Nat) (k:Nat) (hs2:okV (fun l=>Nat.blt l 67) 2 (.slice a2 n2 c2)=true) (hk:k<so.length) (hns:ns=so.length) (hs4:ns≤4) (hso:so.getD k 0≤4096) (hc:c<500000) (hda:da<500000) (hds:ds<500000) (hsa:sa<500000) (hs':s≤4096) (ht:t≤2048) :
  ConOk Tryz.prog 15 3 (fqK p s t nc ns d a2 n2 c2 c da ds sa ss ha hs so k)∧FlatC (fqK p s t nc ns d a2 n2 c2 c da ds sa ss ha hs so k):=by
 have e1:Zb (Zd undef (Zk so) k)=((so.getD k 0:Nat):Int):=Yn so k
 have e2:u32.wrap ((4:Int)*((so.getD k 0:Nat):Int))=((4*so.getD k 0:Nat):Int):=by rw[show(4:Int)*((so.getD k 0:Nat):Int)=((4*so.getD k 0:Nat):Int) by omega,YR _ (by omega)]
 have e3:u32.wrap (k:Int)=(k:Int):=YR k (by omega)
 have e4:u32.wrap (s:Int)=(s:Int):=YR s (by omega)
 have hks:k*s≤4*4096:=Nat.mul_le_mul (by omega) hs'
 have e5:u32.wrap ((k:Int)*(s:Int))=((k*s:Nat):Int):=by rw[show(k:Int)*(s:Int)=((k*s:Nat):Int) from(Int.natCast_mul k s).symm,YR _ (by omega)]
 have e6:u32.wrap ((sa:Int)+((k*s:Nat):Int))=((sa+k*s:Nat):Int):=by rw[show(sa:Int)+((k*s:Nat):Int)=((sa+k*s:Nat):Int) by omega,YR _ (by omega)]
 have e7:u32.wrap (t:Int)=(t:Int):=YR t (by omega)
 have b1:=ZgF 0 c 5
 have b2:=ZgG 0 c 5
 have b3:=ZgH 0 c 5
 have b4:=ZgI 0 c 5
 have b5:=ZgJ 0 c 5
 have hso':so.getD k 0<4294967296:=by omega
 have hcast:∀ n:Nat,((n:Nat):Int).toNat=n:=fun n=>Int.toNat_natCast n
 by_cases h1:0<ds<;>by_cases h2:0<t
 ·have hr:=ZoW (p:Int) (s:Int) (t:Int) nc ns d a2 n2 c2 (c:Int) (da:Int) (ds:Int) (sa:Int) (ss:Int) (ha:Int) (hs:Int) so (k:Int)
  simp only[rr, tt, hcast,Nat.zero_add,Nat.mul_one,e1,e2,e3,e4,e5,e6,e7] at hr
  refine Zd6 hs2 ?_ hr ?_
  ·unfold frC; rw[Vq h1,Vq h2]; simp only[rr, tt, z8,c8,pc8,List.cons_append,List.nil_append]
  ·simp(disch:=omega) only[rr, tt, Yf,Qd,decide_eq_true,decide_eq_false,Bool.and_self,Bool.true_and,Bool.and_true,Bool.not_true,Bool.not_false,cond_true,and_true,true_and,and_self]
   repeat' (with_reducible apply And.intro)
   all_goals omega
 ·have hr:=ZoX (p:Int) (s:Int) (t:Int) nc ns d a2 n2 c2 (c:Int) (da:Int) (ds:Int) (sa:Int) (ss:Int) (ha:Int) (hs:Int) so (k:Int)
  simp only[rr, tt, hcast,Nat.zero_add,Nat.mul_one,e1,e2,e3,e4,e5,e6,e7] at hr
  refine Zd6 hs2 ?_ hr ?_
  ·unfold frC; rw[Vq h1,Vr h2]; simp only[rr, tt, z8,c8,pc8,List.cons_append,List.nil_append]
  ·simp(disch:=omega) only[rr, tt, Yf,Qd,decide_eq_true,decide_eq_false,Bool.and_self,Bool.true_and,Bool.and_true,Bool.not_true,Bool.not_false,cond_true,and_true,true_and,and_self]
   repeat' (with_reducible apply And.intro)
   all_goals omega
 ·have hr:=ZoY (p:Int) (s:Int) (t:Int) nc ns d a2 n2 c2 (c:Int) (da:Int) (ds:Int) (sa:Int) (ss:Int) (ha:Int) (hs:Int) so (k:Int)
  simp only[rr, tt, hcast,Nat.zero_add,Nat.mul_one,e1,e2,e3,e4,e5,e6,e7] at hr
  refine Zd6 hs2 ?_ hr ?_
  ·unfold frC; rw[Vr h1,Vq h2]; simp only[rr, tt, z8,c8,pc8,List.cons_append,List.nil_append]
  ·simp(disch:=omega) only[rr, tt, Yf,Qd,decide_eq_true,decide_eq_false,Bool.and_self,Bool.true_and,Bool.and_true,Bool.not_true,Bool.not_false,cond_true,and_true,true_and,and_self]
   repeat' (with_reducible apply And.intro)
   all_goals omega
 ·have hr:=ZoZ (p:Int) (s:Int) (t:Int) nc ns d a2 n2 c2 (c:Int) (da:Int) (ds:Int) (sa:Int) (ss:Int) (ha:Int) (hs:Int) so (k:Int)
  simp only[rr, tt, hcast,Nat.zero_add,Nat.mul_one,e1,e2,e3,e4,e5,e6,e7] at hr
  refine Zd6 hs2 ?_ hr ?_
  ·unfold frC; rw[Vr h1,Vr h2]; simp only[rr, tt, z8,c8,pc8,List.cons_append,List.nil_append]
  ·simp(disch:=omega) only[rr, tt, Yf,Qd,decide_eq_true,decide_eq_false,Bool.and_self,Bool.true_and,Bool.and_true,Bool.not_true,Bool.not_false,cond_true,and_true,true_and,and_self]
   repeat' (with_reducible apply And.intro)
   all_goals omega
end Go.Proofs.YtliidiceljdgmaaGreat
