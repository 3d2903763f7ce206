/-
  CoreDoesCard: part 4 of the proof.
-/
import Derived.Below
import Derived.ChangeOld
import Derived.Deep.CutRange
import Derived.Deep.DeepCutAuto
import Derived.Deep.Fields
import Derived.Deep.LoopGhost
import Derived.Deep.Slices
import Derived.Handed
import Derived.LaidHandle
import Derived.LaidMore
import Derived.Laws.EntriesVeiled
import Derived.Laws.Pointers
import Derived.Lib.SmallJoins
import Derived.MakeChecks
import Derived.OpenShut
import Derived.ProofKit
import Derived.Recover
import Derived.ShutString
import Derived.Stop.Joined
import Derived.Test.YtagacmljbgkmoaaGreatDoorQCoreDoesCardC
import Derived.Test.YtagacmljbgkmoaaGreatDoorRows
import Derived.WalkKit
set_option linter.unusedSimpArgs false
set_option linter.unusedVariables false
set_option linter.unusedSectionVars false
namespace Go.Proofs.YtagacmljbgkmoaaGreatDoor
open Go.IntKind (u8 u16 u32 u64 i64)
open Go.RowKit
open Sy
set_option maxRecDepth 100000
def rxwC (a:Nat) (d zs:List UInt8) (f:Nat→Bool) (g N m:Nat):Con:=ZeT [.pointer (some ⟨66,0,none⟩),.int .u32 (a:Nat),.string ⟨⟨d⟩⟩] zs (Xt a d zs) f (YY f g false) N m
theorem Zun (a:Nat) (d zs:List UInt8) (f:Nat→Bool) (N m:Nat) (h:ArK zs N m) (ha:a+d.length≤N) (g:Nat) (hd:0<d.length) (hf:∀ i,i<d.length→(a+i)/16=g):ConOk Tryz.prog 89 3 (rxwC a d zs f g N m)∧FlatC (rxwC a d zs f g N m):=by
 have hr:=ZL3.v a d zs f N m h ha g hd hf
 have hb:=h.big2
 have e1:i64.wrap ((N:Int)-((d.length:Nat):Int))=((N-d.length:Nat):Int):=by rw[Zim _ _ (by omega),XL _ (by omega)]
 have e2:=XL a (by omega)
 refine UZ (Zm (L:=100) Zg (Zf _) (Wh _) 20) rfl hr ?_ rfl rfl rfl rfl rfl ⟨Nat.le_refl _,Nat.le_refl _⟩
 simp(disch:=omega) only[Qr,e1,e2,lR,dF,ge_iff_le,Bool.not_true,and_true,true_and,and_self,Nat.le_refl]
theorem Zxe (x:Cp) (h:x.Ok):ConOk Tryz.prog 95 3 (Con.pure [x.val] (.string ⟨⟨cbL x.C x.E x.B x.T x.P x.Y x.R⟩⟩)):=by
 obtain⟨c,e,b,t,p,y,r,v⟩:=x
 obtain⟨h1,h2,h3,h4,h5,h6,h7⟩:=h
 simp only at h1 h2 h3 h4 h5 h6 h7
 have hr:=ZFS.v (c:Int) (e:Int) (b:Int) (t:Int) (p:Int) (y:Int) (r:Int) v
 have fd0:∀ n:Nat,(n:Int).fdiv (1:Int)=((n:Nat):Int):=fun n=>by rw[show(1:Int)=((1:Nat):Int) from rfl,fdA,Nat.div_one]
 have fd1:∀ n:Nat,(n:Int).fdiv (256:Int)=((n/256:Nat):Int):=fun n=>fdA n 256
 have fd2:∀ n:Nat,(n:Int).fdiv (65536:Int)=((n/65536:Nat):Int):=fun n=>fdA n 65536
 have fd3:∀ n:Nat,(n:Int).fdiv (16777216:Int)=((n/16777216:Nat):Int):=fun n=>fdA n 16777216
 simp(disch:=omega) only[fd0,fd1,fd2,fd3,Kw,w8A] at hr
 have d2:∀ n:Nat,n/65536=n/256/256:=fun n=>by omega
 have d3:∀ n:Nat,n/16777216=n/256/256/256:=fun n=>by omega
 simp only[d2,d3,Nat.mod_mod] at hr
 have hl:cbL c e b t p y r=[UInt8.ofNat (c%256),UInt8.ofNat (c/256%256),UInt8.ofNat (c/256/256%256),UInt8.ofNat (c/256/256/256%256),UInt8.ofNat (e%256),UInt8.ofNat (b%256),UInt8.ofNat (b/256%256),UInt8.ofNat (t%256),UInt8.ofNat (t/256%256),UInt8.ofNat (p%256),UInt8.ofNat (p/256%256),UInt8.ofNat (y%256),UInt8.ofNat (y/256%256),UInt8.ofNat (r%256),UInt8.ofNat (r/256%256),UInt8.ofNat (r/256/256%256)]:=by
  simp only[cbL,leW,List.cons_append,List.nil_append,d2]
 rw[hl]
 exact Qj (d:=1) (Zm (L:=100) Zg (Zf _) (Zh _) 20) hr trivial rfl rfl
theorem Zl9 (x:Cp) (h:x.Ok):ConOk Tryz.prog 96 3 (Con.pure [x.val] (.bool (WO x.E x.B x.T x.P x.Y x.R))) :=
 QE (d:=1) (Q9 Zg (by kernel_rfl)) (ZrO rfl) rfl fun w=>ZkM x.C x.E x.B x.T x.P x.Y x.R x.V w h
def rs2C (w a v:Nat) (zs:List UInt8) (f:Nat→Bool) (N m:Nat):Con:=ZeT [.pointer (some ⟨66,0,none⟩),.int .u32 (a:Nat),.int .i64 (w:Nat),.int .u32 (v:Nat)] zs (Xt a (leW w v) zs) f (YY f (a/16) false) N m
theorem qU1 (zs:List UInt8) (p:Nat→Bool):(u8s zs).all (okV p 3)=true:=ZE (ZS _)
theorem qU2 (zs:List UInt8) (σ:Nat→Nat):(u8s zs).map (rnV σ 3)=u8s zs:=ZP (ZS _)
theorem Zma (w a v:Nat) (zs:List UInt8) (f:Nat→Bool) (N m:Nat) (h:ArK zs N m) (hw:w=1∨w=2∨w=4) (hv:v<4294967296) (ha:a%w=0) (ha2:a+w≤N):ConOk Tryz.prog 43 3 (rs2C w a v zs f N m)∧FlatC (rs2C w a v zs f N m):=by
 have hb:=h.big2; have ht:=h.tags
 have hwr:=Zun a (leW w v) zs f N m h (by rw[Vs]; exact ha2) (a/16) (by rw[Vs]; omega) (fun i hi=>by
  rw[Vs] at hi
  rcases hw with rfl|rfl|rfl<;>omega)
 have fd0:∀ n:Nat,(n:Int).fdiv (1:Int)=((n:Nat):Int):=fun n=>by rw[show(1:Int)=((1:Nat):Int) from rfl,fdA,Nat.div_one]
 have fd1:∀ n:Nat,(n:Int).fdiv (256:Int)=((n/256:Nat):Int):=fun n=>fdA n 256
 have fd2:∀ n:Nat,(n:Int).fdiv (65536:Int)=((n/65536:Nat):Int):=fun n=>fdA n 65536
 have fd3:∀ n:Nat,(n:Int).fdiv (16777216:Int)=((n/16777216:Nat):Int):=fun n=>fdA n 16777216
 have d2:v/65536=v/256/256:=by omega
 have d3:v/16777216=v/256/256/256:=by omega
 have f1:=qU1
 have f2:=qU2
 have f5:∀ (p:Nat→Bool),(bls f m).all (okV p 3)=true:=fun p=>ZE (Q4 f m)
 have f6:∀ (σ:Nat→Nat),(bls f m).map (rnV σ 3)=bls f m:=fun σ=>ZP (Q4 f m)
 rcases hw with rfl|rfl|rfl
 ·have hr:=ZMa.v a v (leW 1 v) zs (Xt a (leW 1 v) zs) f (YY f (a/16) false) N m
  have hl:leW 1 v=[UInt8.ofNat (v%256)]:=rfl
  refine UZ (Zm (L:=100) Zg (Zn (Zj fun x hx => ?_) (Zf _)) (Zh _) 20) rfl hr ?_ rfl rfl rfl rfl rfl ⟨Nat.le_refl _,Nat.le_refl _⟩
  ·simp only[rxL,List.mem_cons,List.not_mem_nil,or_false] at hx
   rcases hx with rfl|rfl<;>exact hwr
  ·simp only[fd0,fd1,fd2,fd3,w8A,d2,d3,← hl,f1,f2,f5,f6,and_true,true_and,and_self,Nat.le_refl]
 ·have hr:=ZMb.v a v (leW 2 v) zs (Xt a (leW 2 v) zs) f (YY f (a/16) false) N m
  have hl:leW 2 v=[UInt8.ofNat (v%256),UInt8.ofNat (v/256%256)]:=rfl
  refine UZ (Zm (L:=100) Zg (Zn (Zj fun x hx => ?_) (Zf _)) (Zh _) 20) rfl hr ?_ rfl rfl rfl rfl rfl ⟨Nat.le_refl _,Nat.le_refl _⟩
  ·simp only[rxL,List.mem_cons,List.not_mem_nil,or_false] at hx
   rcases hx with rfl|rfl<;>exact hwr
  ·simp only[fd0,fd1,fd2,fd3,w8A,d2,d3,← hl,f1,f2,f5,f6,and_true,true_and,and_self,Nat.le_refl]
 ·have hr:=ZMc.v a v (leW 4 v) zs (Xt a (leW 4 v) zs) f (YY f (a/16) false) N m
  have hl:leW 4 v=[UInt8.ofNat (v%256),UInt8.ofNat (v/256%256),UInt8.ofNat (v/256/256%256),UInt8.ofNat (v/256/256/256%256)]:=rfl
  refine UZ (Zm (L:=100) Zg (Zn (Zj fun x hx => ?_) (Zf _)) (Zh _) 20) rfl hr ?_ rfl rfl rfl rfl rfl ⟨Nat.le_refl _,Nat.le_refl _⟩
  ·simp only[rxL,List.mem_cons,List.not_mem_nil,or_false] at hx
   rcases hx with rfl|rfl<;>exact hwr
  ·simp only[fd0,fd1,fd2,fd3,w8A,d2,d3,← hl,f1,f2,f5,f6,and_true,true_and,and_self,Nat.le_refl]
def Cp.bs (x:Cp):List UInt8:=cbL x.C x.E x.B x.T x.P x.Y x.R
def Cp.snd (x:Cp):Bool:=WO x.E x.B x.T x.P x.Y x.R
def Zxf (a:Nat) (x:Cp) (zs:List UInt8) (f:Nat→Bool) (N m:Nat):Con:=ZeT [.pointer (some ⟨66,0,none⟩),.int .u32 (a:Nat),x.val] zs (Xt a x.bs zs) f (YY f (a/16) (x.V&&x.snd)) N m
theorem Zxg (f:Nat→Bool) (g:Nat) (a b:Bool):YY (YY f g a) g b=YY f g b:=by
 funext i; unfold YY; split<;>rfl
def qT4:=Bx.mk (aI @Bool.and_self (aI @and_true (aI @true_and (aI @and_self @Nat.le_refl))))
theorem Zmb (a:Nat) (x:Cp) (zs:List UInt8) (f:Nat→Bool) (N m:Nat) (h:ArK zs N m) (hx:x.Ok) (ha:a%16=0) (ha2:a+16≤N):ConOk Tryz.prog 45 3 (Zxf a x zs f N m)∧FlatC (Zxf a x zs f N m):=by
 have hb:=h.big2; have ht:=h.tags
 have e16:x.bs.length=16:=Zaq _ _ _ _ _ _ _
 have hwr:=Zun a x.bs zs f N m h (by rw[e16]; exact ha2) (a/16) (by rw[e16]; omega) (fun i hi=>by rw[e16] at hi; omega)
 have et:(a:Int).tmod (16:Int)=((a%16:Nat):Int):=(Int.ofNat_tmod a 16).symm
 have e1:u32.wrap ((a:Int).tdiv (16:Int))=((a/16:Nat):Int):=by rw[Vj,Kw _ (by omega)]
 have e2:=XL a (by omega)
 have e3:i64.wrap ((N:Int)-(16:Int))=((N-16:Nat):Int):=by rw[show(N:Int)-(16:Int)=((N-16:Nat):Int) by omega,XL _ (by omega)]
 have e0:(((0:Nat):Int) !=(0:Int))=false:=rfl
 have f1:=qU1
 have f2:=qU2
 have f5:∀ (p:Nat→Bool),(bls f m).all (okV p 3)=true:=fun p=>ZE (Q4 f m)
 have f6:∀ (σ:Nat→Nat),(bls f m).map (rnV σ 3)=bls f m:=fun σ=>ZP (Q4 f m)
 have hbase:∀ y∈rxL a x.bs zs (Xt a x.bs zs) f (YY f (a/16) false) N m++rxM x x.bs x.snd,ConOk Tryz.prog y.2.1 3 y.2.2.1∧FlatC y.2.2.1:=fun y hy=>by
  simp only[rxL,rxM,List.cons_append,List.nil_append,List.mem_cons,List.not_mem_nil,or_false] at hy
  rcases hy with rfl|rfl|rfl|rfl
  ·exact hwr
  ·exact hwr
  ·exact⟨Zxe x hx,⟨fun x hx=>by cases hx⟩⟩
  ·exact⟨Zl9 x hx,⟨fun x hx=>by cases hx⟩⟩
 have hset:=fun(k:Bool)=>(ZlY (YY f (a/16) false) m (a/16) k (by omega)).trans (congrArg (fun q=>bls q m) (Zxg f (a/16) false k))
 cases hv:x.V
 ·have hr:=ZFU.v a x x.bs zs (Xt a x.bs zs) f (YY f (a/16) false) x.snd N m
  simp only[e1,tN,Nat.zero_add,Nat.mul_one] at hr
  have ex:x.val=cpV x.C x.E x.B x.T x.P x.Y x.R false:=by unfold Cp.val Cp.cs cpV; rw[hv]
  unfold Zxf
  rw[ex,hv,Bool.false_and]
  refine UZ (Zm (L:=100) Zg (Zn (Zj hbase) (Zf _)) (Zh _) 20) rfl hr ?_ rfl rfl rfl (hset false) rfl ⟨Nat.le_refl _,Nat.le_refl _⟩
  simp(disch:=omega) only[et,ha,e0,e2,e3,hv,ZfM,f1,f2,f5,f6,lR,dF,qT4.v,Bool.and_true,Bool.not_true,cond_true]
 ·have hr:=ZFT.v a x x.bs zs (Xt a x.bs zs) f (YY f (a/16) false) x.snd N m
  simp only[e1,tN,Nat.zero_add,Nat.mul_one] at hr
  have ex:x.val=cpV x.C x.E x.B x.T x.P x.Y x.R true:=by unfold Cp.val Cp.cs cpV; rw[hv]
  unfold Zxf
  rw[ex,hv,Bool.true_and]
  refine UZ (Zm (L:=100) Zg (Zn (Zj hbase) (Zf _)) (Zh _) 20) rfl hr ?_ rfl rfl rfl (hset x.snd) rfl ⟨Nat.le_refl _,Nat.le_refl _⟩
  simp(disch:=omega) only[et,ha,e0,e2,e3,hv,ZfM,f1,f2,f5,f6,lR,dF,qT4.v,Bool.and_true,Bool.not_true,cond_true]
def U1:Cp:=⟨0,0,0,0,0,0,0,false⟩
def frN:Nat→Cp:=fun _=>U1
def frK (fr:Nat→Cp):Nat→Nat→List Value
 | _,0=>[]
 | k,n+1=>(fr k).cs++frK fr (k+1) n
def frL (fr:Nat→Cp):List Value:=(fr 0).cs++((fr 1).cs++((fr 2).cs++((fr 3).cs++((fr 4).cs++((fr 5).cs++((fr 6).cs++((fr 7).cs++((fr 8).cs++((fr 9).cs++((fr 10).cs++((fr 11).cs++((fr 12).cs++((fr 13).cs++((fr 14).cs++((fr 15).cs++((fr 16).cs))))))))))))))))
theorem Zfc (fr:Nat→Cp):frL fr=frK fr 0 17:=rfl
def frS (fr:Nat→Cp) (k:Nat) (c:Cp):Nat→Cp:=fun j=>if j=k then c else fr j
def frQ (fr:Nat→Cp) (l:List Value):List Value:=(fr 0).cs++((fr 1).cs++((fr 2).cs++((fr 3).cs++((fr 4).cs++((fr 5).cs++((fr 6).cs++((fr 7).cs++((fr 8).cs++((fr 9).cs++((fr 10).cs++((fr 11).cs++((fr 12).cs++((fr 13).cs++((fr 14).cs++((fr 15).cs++l)))))))))))))))
def frZ:List Value:=frL frN
def Xu (fr:Nat→Cp):Value:=.agg ⟨frL fr⟩
def YR (fr:Nat→Cp):Prop:=∀ k,(fr k).Ok
theorem ZgM (c:Cp):c.cs.length=8:=rfl
theorem ZfQ (fr:Nat→Cp):∀ k n,(frK fr k n).length=8*n
 | _,0=>rfl
 | k,n+1=>by
  show((fr k).cs++frK fr (k+1) n).length=_
  rw[List.length_append,ZfQ fr (k+1) n,ZgM]; omega
theorem Wn {α:Type} (d:α):∀ (l:List α) (n:Nat),Zt d l n=l.getD n d
 | [],n=>by cases n<;>rfl
 | _::_,0=>rfl
 | _::l,n+1=>by
  show Zt d l n=_
  rw[Wn d l n]; simp
theorem Zjw {α:Type} (d:α) (l m:List α) (n:Nat) (h:n<l.length):(l++m).getD n d=l.getD n d:=by
 simp only[List.getD]; rw[List.getElem?_append_left h]
theorem ZeO {α:Type} (d:α) (l m:List α) (n:Nat) (h:l.length≤n):(l++m).getD n d=m.getD (n-l.length) d:=by
 simp only[List.getD]; rw[List.getElem?_append_right h]
theorem Zuo (fr:Nat→Cp) (j:Nat) (hj:j<8):∀ (n k b:Nat),b<n→Zt undef (frK fr k n) (8*b+j)=Zt undef (fr (k+b)).cs j
 | 0,_,_,h=>absurd h (Nat.not_lt_zero _)
 | n+1,k,0,_=>by
  show Zt undef ((fr k).cs++frK fr (k+1) n) (8*0+j)=Zt undef (fr k).cs j
  rw[Wn,Wn,Nat.mul_zero,Nat.zero_add,Zjw _ _ _ _ (by rw[ZgM]; exact hj)]
 | n+1,k,b+1,h=>by
  show Zt undef ((fr k).cs++frK fr (k+1) n) (8*(b+1)+j)=_
  rw[Wn,ZeO _ _ _ _ (by rw[ZgM]; omega),ZgM,show 8*(b+1)+j-8=8*b+j by omega,← Wn,Zuo fr j hj n (k+1) b (by omega),show k+1+b=k+(b+1) by omega]
theorem Zo3 (fr:Nat→Cp) (b j:Nat) (hb:b<17) (hj:j<8):Zt undef (frL fr) (8*b+j)=Zt undef (fr b).cs j:=by
 rw[Zfc,Zuo fr j hj 17 0 b hb,Nat.zero_add]
theorem ZeP:∀ (xs ys vs:List Value) (n:Nat),YU (xs.length+n) vs (xs++ys)=xs++YU n vs ys
 | [],ys,vs,n=>by rw[List.length_nil,Nat.zero_add]; rfl
 | x::xs,ys,vs,n=>by
  rw[List.length_cons,show xs.length+1+n=(xs.length+n)+1 by omega]
  show x::YU (xs.length+n) vs (xs++ys)=x::(xs++YU n vs ys)
  rw[ZeP xs ys vs n]
theorem Zup (fr:Nat→Cp) (a:Nat) (c:Cp):∀ n k,a<k→frK (frS fr a c) k n=frK fr k n
 | 0,_,_=>rfl
 | n+1,k,h=>by
  show(frS fr a c k).cs++frK (frS fr a c) (k+1) n=(fr k).cs++frK fr (k+1) n
  rw[Zup fr a c n (k+1) (by omega)]
  unfold frS
  rw[if_neg (by omega)]
theorem Zuq (fr:Nat→Cp) (c:Cp):∀ (n k a:Nat),a<n→YU (8*a) c.cs (frK fr k n)=frK (frS fr (k+a) c) k n
 | 0,_,_,h=>absurd h (Nat.not_lt_zero _)
 | n+1,k,0,_=>by
  show YU 0 c.cs ((fr k).cs++frK fr (k+1) n)=(frS fr k c k).cs++frK (frS fr k c) (k+1) n
  rw[Zup fr k c n (k+1) (by omega)]
  unfold frS
  rw[if_pos rfl]
  cases frK fr (k+1) n<;>rfl
 | n+1,k,a+1,h=>by
  show YU (8*(a+1)) c.cs ((fr k).cs++frK fr (k+1) n)=(frS fr (k+(a+1)) c k).cs++frK (frS fr (k+(a+1)) c) (k+1) n
  have h1:frS fr (k+(a+1)) c k=fr k:=by unfold frS; rw[if_neg (by omega)]
  rw[h1,show 8*(a+1)=(fr k).cs.length+8*a by rw[ZgM]; omega,ZeP,Zuq fr c n (k+1) a (by omega),show k+1+a=k+(a+1) by omega]
theorem Zo4 (fr:Nat→Cp) (c:Cp) (a:Nat) (ha:a<17):YU (8*a) c.cs (frL fr)=frL (frS fr a c):=by
 rw[Zfc,Zfc,Zuq fr c 17 0 a ha,Nat.zero_add]
theorem U2:∀ (n:Nat) (l:List Value),n≤l.length→WK n l=true
 | 0,_,_=>rfl
 | n+1,[],h=>absurd h (by simp)
 | n+1,_::l,h=>U2 n l (by simpa using h)
def arW (rw:Bool) (zs:List UInt8) (f:Nat→Bool) (N m n:Nat):Sy.Heap:=[(67,⟨rw,none,[.pointer (some ⟨66,0,none⟩),.slice (some ⟨64,0,none⟩) N (big+64)],none⟩),(66,⟨rw,none,[.int .i64 (m:Nat),.slice (some ⟨65,0,none⟩) n (big+65)],none⟩),(65,⟨rw,some (65,1),v64 (Zd f n),none⟩),(64,⟨rw,some (64,1),u8s zs,none⟩)]
def scL (g m n:Nat) (f:Nat→Bool) (cv:Int) (c e b t p y r:Nat) (k:Bool):Sy.Steps :=
 [(69,92,ZLH c e b t p y r true,[]),(71,158,ZFE g m n f cv,[64,65,66,67]),(71,46,sndC c e b t p y r true,[]),(71,93,ZLF g m n (YY f g false) k,[64,65,66,67])]
def gtD (x:Int) (m n:Nat) (f:Nat→Bool):Con:=⟨[.pointer (some ⟨66,0,none⟩),.int .i64 x],68,mpW false m (Zd f n),[(65,n)],.bool (f x.toNat),68,[],[]⟩
def Zmc (m n:Nat) (f:Nat→Bool):Znb:=fun fn args _=>bif Nat.beq fn 98 then
 match args with
 | [_,.int .i64 x]=>some (gtD x m n f,[64,65,66,67],0≤x∧x<m)
 | _=>none
 else none
def ZdU (a:Nat→Bool) (b:Nat):=v64 (Zd a b)
def Ka (a:Prop):=V9 (V9 a)
def ZhR (a b:Nat) (c:List Nat) (d:Nat→Bool) (e:Nat):=Jk a b c (ZdU d e)
def Za4 (a:Prop):=V9 (Ka a)
def Jn (a b:Nat) (c:List Value):=List.take a (List.drop b c)
def Zur (a:List UInt8) (b:Nat):=(Yf a).min b
def Vy (a b c d e f g:Nat):=Ub (cbL a b c d e f g)
def Zus (a:Int) (b:Value):=VD a=b
def ZbX (a:Sy.Heap) (b c d e:Nat):=Zhy 68 a (arO b c) d e
def ZbY (a:Nat) (b:Int):=Zkf (Vu a) b
def Zut (a b:Nat):=ZcF a*b
def UJ (a b c d e:Nat) (f:Nat→Bool) (g:Nat):=ZhR 68 a [b,c,d,e] f g
def Zuu (a:Nat) (b:Nat→Bool) (c:Nat):=UJ a 64 65 66 67 b c
def Jo (a:Nat) (b:Nat→Bool) (c:Nat):=ZbN a (ZdU b c)
def Zuv (a b:Nat):=a+Zut b 1
def YZ (a:Nat):=Zuv 0 a
def ZhS (a:Int) (b:Nat):=Zus a (Z1 b)
def ZnF (a:Nat→Bool) (b:Nat) (c:List Value):=ZdU a b=c
def Zuw (a:Nat→Bool) (b:Nat) (c:Nat→Bool) (d e f:Prop) (g:Nat→Bool) (h:Nat) (i:List Value):=ZkN (ZrV (ZdU a b) c 3) d e f (ZnF g h i)
def Zjx (a:Int):=ZtE a Zr
def Zc4 (a b:Nat):=Vi (ZkF a b)
def ZgN (a b:Nat):=ZeS (QW a) b
def ZbZ (a b c:Bool) (d:Prop):=W8 a (ZaM b c d)
def Zux (a b:Nat) (c:List Value):=ZkF a b=c
def Zuy (a b:Prop):=Za4 a∧b
def Za5 (a b:Nat):=a-ZcF b
def Zar (a:List UInt8) (b c:Nat):=Zur a (Za5 b c)
def Jp (a b c:Prop):=ZlU (a∧b) c
def ZgO (a b:Nat):=ZhS (ZaY (Vu a)) b
def ZhT (a b:Nat):=(ZcF a).blt b
def Wb (a:Nat→Bool) (b:Nat) (c:Nat→Bool) (d:List Value):=Zuw a b c Ze Ze Ze a b d
def ZdV (a:Prop):=Q6 (WA a)
def Y0 (a b c:Nat) (d:Nat→Bool) (e:Nat) (f:Prop):=JO (ZkO Ze Ze Ze (Zux a b (ZkF c (Zd d e).length))) f
def VI (a:Prop):=Zuy a Ze
def ZcL (a:Prop):=ZdV (WA a)
def QP (a:Nat→Bool) (b:Nat) (c:Nat→Bool) (d:Nat):=Wb a b c (Zuu d a b)
def Zo:=Bx.mk (aI @ZdU.eq_1 (aI @Ka.eq_1 (aI @ZhR.eq_1 (aI @Za4.eq_1 (aI @Jn.eq_1 (aI @Zur.eq_1 (aI @Vy.eq_1 (aI @Zus.eq_1 (aI @ZbX.eq_1 (aI @ZbY.eq_1 (aI @Zut.eq_1 (aI @UJ.eq_1 (aI @Zuu.eq_1 (aI @Jo.eq_1 (aI @Zuv.eq_1 (aI @YZ.eq_1 (aI @ZhS.eq_1 (aI @ZnF.eq_1 (aI @Zuw.eq_1 (aI @Zjx.eq_1 (aI @Zc4.eq_1 (aI @ZgN.eq_1 (aI @ZbZ.eq_1 (aI @Zux.eq_1 (aI @Zuy.eq_1 (aI @Za5.eq_1 (aI @Zar.eq_1 (aI @Jp.eq_1 (aI @ZgO.eq_1 (aI @ZhT.eq_1 (aI @Wb.eq_1 (aI @ZdV.eq_1 (aI @Y0.eq_1 (aI @VI.eq_1 (aI @ZcL.eq_1 @QP.eq_1)))))))))))))))))))))))))))))))))))
theorem ZFV (a:Nat) (g:Nat) (c:Nat) (e:Nat) (b:Nat) (t:Nat) (p:Nat) (y:Nat) (r:Nat) (zs:List UInt8) (f:Nat→Bool) (cv:Int) (N:Nat) (m:Nat) (n:Nat):evF Tryz.prog (Zk 3 (Za (scL g m n f cv c e b t p y r (WO e b t p y r))) Zc) Zb 100 40 44 (Vm QG a (cpV c e b t p y r true)) (ZbX (arW true zs f N m n) N n 67 145268109035001871879)=JC QB 71 [(65,Jo 65 (YY (Zc2 f g) g (WO e b t p y r)) n),(66,Zc4 m n),(64,ZbP 64 (YZ a) (Jn (Zar (cbL c e b t p y r) N a*1) 0 (List.map (fun c=>Value.int u8 (↑c.toNat:Int)) (cbL c e b t p y r))) (u8s zs)),(67,ZbO N)] [(70,Za5 N a),(69,Yf (cbL c e b t p y r)),(65,n),(64,N)] 67 (Jp (XQ (Q6 (Jp (ZbZ (Zjh (YZ a+Yf (List.take (Zar (cbL c e b t p y r) N a*1) (List.drop 0 (List.map (fun c=>Value.int u8 (↑c.toNat:Int)) (cbL c e b t p y r))))) (u8s zs) (Zj8 (Jn (Zar (cbL c e b t p y r) N a*1) 0 (List.map (fun c=>Value.int u8 (↑c.toNat:Int)) (cbL c e b t p y r))))&&(List.take (Zar (cbL c e b t p y r) N a*1) (List.drop 0 (List.map (fun c=>Value.int u8 (↑c.toNat:Int)) (cbL c e b t p y r)))).all Qm) ((Yf (List.take (Zar (cbL c e b t p y r) N a*1) (List.drop 0 (List.map (fun c=>Value.int u8 (↑c.toNat:Int)) (cbL c e b t p y r))))).beq (Zar (cbL c e b t p y r) N a*1)) (WK (0+Zar (cbL c e b t p y r) N a*1) (List.map (fun c=>Value.int u8 (↑c.toNat:Int)) (cbL c e b t p y r))) (W8 (KQ a&&ZgN a N) (QF (Ue (Jh (WN (WN (Zbo (Jf (JN (Jf (Q6 (VI (Zju (Zc3 (Zfb (ZdS (Zc3 (ZcL (VI (WM ((ZbW a==Zr)=true)))) N N N N) N) N N) N N N N∧(ZbW a==Zr)=true) (!decide (Vu a≤VF N YD)) (ZM (Z6 c e b t p y r true) c e b t p y r true)))) (Vy c e b t p y r)) (Vy c e b t p y r)) (Vy c e b t p y r)) (Vy c e b t p y r)) (Vy c e b t p y r) N N N N) (Vy c e b t p y r) N N N N) (Vy c e b t p y r) N N) (Vy c e b t p y r) N) (!decide (Vu a≤VF N (Vy c e b t p y r))))∧ZhT a N=true)) (Zjx (Vy c e b t p y r)=true) (X4 (Vv (ZgO a g) (ZhS (ZdE (ZaY (Zja (ZbY a (Vy c e b t p y r)))) 1) (g+1))) (Y0 m n m f n (QP f n (fun l=>l.blt 68) 71)) (QO n)))) (ZM (Z6 c e b t p y r true) c e b t p y r true)) Ze (X4 (Vv (ZgO a g) (QR (Value.bool (WO e b t p y r)))) (Y0 m n m (Zc2 f g) n (QP (Zc2 f g) n (fun l=>l.blt 68) 71)) (QO n))):=by kernel_rfl
def sc_t:=Bx.mk (by have h:=@ZFV;simp(maxSteps:=99999999) only[Zx.v,ZD.v,ZO.v,ZU.v,ZR.v,Zp.v,Zw.v,ZH.v,Zl.v,ZB.v,Zo.v,-eq_self] at h;exact h)
def Vn (a:List Value) (b:Prop):=Wj (ZfK a) b
def Zjy (a b:Prop):=Y5 a∧b
def ZdW (a b c:Prop):=Zjy a b∧c
def UK (a b:Value) (c:Prop):=Vn [a,b] c
def ZkP (a b c d:Prop):=ZdW a b c∧d
def ZnG (a:List UInt8) (b:Nat→Bool) (c d e:Nat):=arW false a b c d e
def Zjz (a b:Int):=Zkf (i64.wrap a) b
def Zb0 (a:Value) (b:Prop):=UK a QB b
def KT (a:List UInt8) (b:Nat→Bool) (c d e f g h i:Nat):=ZbX (ZnG a b c d e) f g h i
def ZnH (a:Int) (b:Nat):=ZeS (i64.wrap a) b
def Zmd (a b c:Prop):=ZkP a b c c
def Zbq (a b:Prop):=Zmd a b b
def Zq:=Bx.mk (aI @Vn.eq_1 (aI @Zjy.eq_1 (aI @ZdW.eq_1 (aI @UK.eq_1 (aI @ZkP.eq_1 (aI @ZnG.eq_1 (aI @Zjz.eq_1 (aI @Zb0.eq_1 (aI @KT.eq_1 (aI @ZnH.eq_1 (aI @Zmd.eq_1 @Zbq.eq_1)))))))))))
theorem ZFW (at_:Int) (k:Int) (zs:List UInt8) (f:Nat→Bool) (N:Nat) (m:Nat) (n:Nat):obs (evF Tryz.prog Zc Zb 100 40 19 [QG,Ww at_,VD k] (KT zs f N m n N n 30 805306304))=Zb0 (YX (List.map ZAd (Jn ((Zjz at_ k).toNat-QZ at_) (0+QZ at_*1) (u8s zs)))) (ZaM ((Jn ((Zjz at_ k).toNat-QZ at_) (0+QZ at_*1) (u8s zs)).all Zwj) (WK (0+QZ at_*1+((Zjz at_ k).toNat-QZ at_)) (u8s zs)) (Jm (ZhG at_ (ZnH at_ (Zjz at_ k).toNat)) (Zjz at_ k) (ZeS (Zjz at_ k) N) (QF (Jh (Ue (Jh (WN (Jh (Jf (Zbo (JN (Jf (Zbq (Ka W0) Ze) k) k) k) k) k N N) k N N N N) k N N) k N) k N N) (!decide (i64.wrap at_≤VF N k)))∧(QZ at_).blt N=true)):=by kernel_rfl
def rw_d:=Bx.mk (by have h:=@ZFW;simp(maxSteps:=99999999) only[Zx.v,ZF.v,ZD.v,ZO.v,ZU.v,ZR.v,Zp.v,Zl.v,ZB.v,Zo.v,Zq.v,-eq_self] at h;exact h)
def Zki (a:Prop) (b c d e:Bool):=J5 (J5 a b c) d e
def Yh (a:Nat) (b:Int):=Ze2 (QW a) Yz YD b
def ZdX (a:Prop):=Y5 (Za4 a)
def ZhU (a b:Int):=Zus a (VD b)
def Zqy (a:Nat) (b:Int):=ZoQ (QW a) b
def UL (a:Nat) (b:Int):=(Yh a b).toNat
def W2:=Value.slice none 0 0
def ZjA (a b c:Prop) (d e:Int) (f g:Prop):=Za0 a b (JO c (ZhU d e)) f g
def Za6 (a:Prop) (b c d:Int) (e:Bool):=Zki a (Qf b) (Qf c) (Qf d) e
def Va (a:Nat→Bool) (b:Nat) (c:Nat→Bool) (d:Prop) (e:Nat→Bool) (f:Nat) (g:Nat→Bool) (h:Nat):=Zuw a b c d d d e f (Zuu 68 g h)
def XS (a:Prop) (b:Bool):=KP a b Ze
def Kb (a b c:Prop) (d:Nat) (e f:Int) (g:Prop) (h:Nat):=ZjA a b c (Yh d e) f g (QO h)
def Zy:=Bx.mk (aI @Zki.eq_1 (aI @Yh.eq_1 (aI @ZdX.eq_1 (aI @ZhU.eq_1 (aI @Zqy.eq_1 (aI @UL.eq_1 (aI @W2.eq_1 (aI @ZjA.eq_1 (aI @Za6.eq_1 (aI @Va.eq_1 (aI @XS.eq_1 @Kb.eq_1)))))))))))
theorem ZFX (g:Nat) (zs:List UInt8) (f:Nat→Bool) (N:Nat) (m:Nat) (n:Nat):obs (evF Tryz.prog (Zbn 3 (Zmc m n f)) Zb 100 40 47 [QG,Z1 g] (KT zs f N m n N n 47 23456248053760))=Wj W2 (Y5 (QF (Kb (XS (Kb (XS (Kb (XS (Kb (XS (Kb (XS (Kb (XS (Kb (XS (Kb (XS (Kb (XS (Kb (XS (Kb (XS (Kb (XS (Kb (XS (Kb (XS (Kb (XS (ZjA (ZL (Za6 (ZdX (Zbp (Qf (QW g)))) (QW g) (QW g) (QW g) (Zqy g (Znk (QW N) Yz)))) (Zr≤Zkf (Jb (QW g)) Zr∧Zkf (Jb (QW g)) Zr<QW m) Qc (Zkf (Jb (QW g)) Zr) (Zkf (Jb (QW g)) Zr) (Y0 m n m f n (Va f n (fun l=>l.blt 68) Ze f n f n)) (QO n)) (f (Zkf (Jb (QW g)) Zr).toNat)) (Zr≤Yh g 1∧Yh g 1<QW m) Qc g 1 (Yh g 1) (Y0 m n m f n (Va f n (fun l=>l.blt 68) Ze f n f n)) n) (f (UL g 1))) (Zr≤Yh g 2∧Yh g 2<QW m) Qc g 2 (Yh g 2) (Y0 m n m f n (Va f n (fun l=>l.blt 68) Ze f n f n)) n) (f (UL g 2))) (Zr≤Yh g 3∧Yh g 3<QW m) Qc g 3 (Yh g 3) (Y0 m n m f n (Va f n (fun l=>l.blt 68) Ze f n f n)) n) (f (UL g 3))) (Zr≤Yh g 4∧Yh g 4<QW m) Qc g 4 (Yh g 4) (Y0 m n m f n (Va f n (fun l=>l.blt 68) Ze f n f n)) n) (f (UL g 4))) (Zr≤Yh g 5∧Yh g 5<QW m) Qc g 5 (Yh g 5) (Y0 m n m f n (Va f n (fun l=>l.blt 68) Ze f n f n)) n) (f (UL g 5))) (Zr≤Yh g 6∧Yh g 6<QW m) Qc g 6 (Yh g 6) (Y0 m n m f n (Va f n (fun l=>l.blt 68) Ze f n f n)) n) (f (UL g 6))) (Zr≤Yh g 7∧Yh g 7<QW m) Qc g 7 (Yh g 7) (Y0 m n m f n (Va f n (fun l=>l.blt 68) Ze f n f n)) n) (f (UL g 7))) (Zr≤Yh g 8∧Yh g 8<QW m) Qc g 8 (Yh g 8) (Y0 m n m f n (Va f n (fun l=>l.blt 68) Ze f n f n)) n) (f (UL g 8))) (Zr≤Yh g 9∧Yh g 9<QW m) Qc g 9 (Yh g 9) (Y0 m n m f n (Va f n (fun l=>l.blt 68) Ze f n f n)) n) (f (UL g 9))) (Zr≤Yh g 10∧Yh g 10<QW m) Qc g 10 (Yh g 10) (Y0 m n m f n (Va f n (fun l=>l.blt 68) Ze f n f n)) n) (f (UL g 10))) (Zr≤Yh g 11∧Yh g 11<QW m) Qc g 11 (Yh g 11) (Y0 m n m f n (Va f n (fun l=>l.blt 68) Ze f n f n)) n) (f (UL g 11))) (Zr≤Yh g 12∧Yh g 12<QW m) Qc g 12 (Yh g 12) (Y0 m n m f n (Va f n (fun l=>l.blt 68) Ze f n f n)) n) (f (UL g 12))) (Zr≤Yh g 13∧Yh g 13<QW m) Qc g 13 (Yh g 13) (Y0 m n m f n (Va f n (fun l=>l.blt 68) Ze f n f n)) n) (f (UL g 13))) (Zr≤Yh g 14∧Yh g 14<QW m) Qc g 14 (Yh g 14) (Y0 m n m f n (Va f n (fun l=>l.blt 68) Ze f n f n)) n) (f (UL g 14))) (Zr≤Yh g 15∧Yh g 15<QW m) Qc g 15 (Yh g 15) (Y0 m n m f n (Va f n (fun l=>l.blt 68) Ze f n f n)) n) (f (UL g 15)))):=by kernel_rfl
def tg_0:=Bx.mk (by have h:=@ZFX;simp(maxSteps:=99999999) only[Zx.v,ZF.v,ZD.v,ZO.v,ZU.v,Zp.v,ZH.v,Zl.v,ZB.v,Zo.v,Zq.v,Zy.v,-eq_self] at h;exact h)
theorem Zas {q:Nat→Bool} (h:∀ l,l<68→q l=true) (rw:Bool) (zs:List UInt8) (f:Nat→Bool) (N m n:Nat):OkH q (arW rw zs f N m n) :=
 ⟨⟨h 67 (by omega),rfl,fun v hv=>Q5 3 v ((WI h N m n).1 v hv)⟩,⟨h 66 (by omega),rfl,fun v hv=>Q5 3 v ((WI h N m n).2 v hv)⟩,⟨h 65 (by omega),h 65 (by omega),ZY (Qp _)⟩,⟨h 64 (by omega),h 64 (by omega),ZY (ZS zs)⟩,trivial⟩
theorem Zo5 (rw:Bool) (zs:List UInt8) (f:Nat→Bool) (N m n:Nat):∀ x∈arW rw zs f N m n,∀ v∈x.2.cells,okV (fun l=>Nat.blt l 68) 3 v=true:=fun x hx v hv=>by
 simp only[arW,List.mem_cons,List.not_mem_nil,or_false] at hx
 rcases hx with rfl|rfl|rfl|rfl
 ·exact(WI ZhC N m n).1 v hv
 ·exact(WI ZhC N m n).2 v hv
 ·exact Yy (Qp _ v hv) 3
 ·exact Yy (ZS zs v hv) 3
theorem Za7 (rw:Bool) (zs:List UInt8) (f:Nat→Bool) (N m n:Nat):∀ x∈arW rw zs f N m n,x.2.op≠none→∀ v∈x.2.cells,Qm v=true:=fun x hx hne=>by
 simp only[arW,List.mem_cons,List.not_mem_nil,or_false] at hx
 rcases hx with rfl|rfl|rfl|rfl
 ·exact absurd rfl hne
 ·exact absurd rfl hne
 ·exact Qp _
 ·exact ZS zs
theorem Kx {s':Sy.St} (zs:List UInt8) (f:Nat→Bool) (N m n:Nat) (cs ws:List Value) (h67:Sy.look s'.h 67=some ⟨true,none,[.pointer (some ⟨66,0,none⟩),.slice (some ⟨64,0,none⟩) N (big+64)],none⟩) (h66:Sy.look s'.h 66=some ⟨true,none,[.int .i64 (m:Nat),.slice (some ⟨65,0,none⟩) n (big+65)],none⟩)
  (h65:Sy.look s'.h 65=some ⟨true,some (65,1),ws,none⟩) (h64:Sy.look s'.h 64=some ⟨true,some (64,1),cs,none⟩) (hw:ws=v64 (Zd f n)) (hc:cs=u8s zs):Vr 3 (fun l=>Nat.blt l 68) id s'.h (arW true zs f N m n):=by
 refine⟨⟨rfl,List.all_eq_true.2 (WI ZhC N m n).1,rfl,?_⟩,⟨rfl,List.all_eq_true.2 (WI ZhC N m n).2,rfl,?_⟩,⟨rfl,ZE (Qp _),rfl,?_⟩,⟨rfl,ZE (ZS zs),rfl,?_⟩,trivial⟩
 ·simp only[id,h67]; exact⟨rfl,rfl,trivial,(Wx _ rfl _).symm⟩
 ·simp only[id,h66]; exact⟨rfl,rfl,trivial,(Wx _ rfl _).symm⟩
 ·simp only[id,h65]; exact⟨rfl,rfl,trivial,by rw[Wx _ rfl,hw]⟩
 ·simp only[id,h64]; exact⟨rfl,rfl,trivial,by rw[Wx _ rfl,hc]⟩
def Ziq (args:List Value) (zs zs':List UInt8) (f f':Nat→Bool) (N m n:Nat):Con:=⟨args,68,arW true zs f N m n,arO N n,.bool true,68,arW true zs' f' N m n,arO N n⟩
theorem Zho {args:List Value} (ha:args.all (okV (fun l=>Nat.blt l 68) 3)=true) (zs zs':List UInt8) (f f':Nat→Bool) (N m n:Nat):(Ziq args zs zs' f f' N m n).Wf 3 :=
 ⟨by show 64≤68; omega,Nat.le_refl _,Zas ZhC true zs f N m n,rfl,rfl,rfl,ha,rfl,Zo5 true _ _ N m n⟩
theorem Zb1 {args:List Value} {zs zs':List UInt8} {f f':Nat→Bool} {N m n:Nat} {s':Sy.St} (h1:Vr 3 (fun l=>Nat.blt l 68) id s'.h (arW true zs' f' N m n)) (h2:ZbK (fun l=>Nat.blt l 68) id s'.lo (arO N n)):(Ziq args zs zs' f f' N m n).Ends 3 (fun l=>Nat.blt l 68) id (.bool true) s' :=
 ⟨fun _ _=>rfl,h1,rfl,h2,⟨rfl,rfl⟩,rfl,Zas ZlO true _ _ N m n,rfl,ZG _ rfl,fun x _ _ => .inl rfl⟩
theorem ZjB (f:Nat→Bool) (g:Nat) (a b:Bool):YY (YY f g a) g b=YY f g b:=by
 funext i; unfold YY; split<;>rfl
theorem ZeQ (g m n:Nat) (f:Nat→Bool) (v:Int):FlatC (ZFE g m n f v):=⟨fun x hx _=>by
 obtain rfl:=List.mem_singleton.1 hx
 exact Qp _⟩
theorem Zme (g m n:Nat) (f:Nat→Bool) (b:Bool):FlatC (ZLF g m n f b):=⟨fun x hx _=>by
 obtain rfl:=List.mem_singleton.1 hx
 exact Qp _⟩
def Zqz (args:List Value) (v:Value) (zs:List UInt8) (f:Nat→Bool) (N m n:Nat):Con:=⟨args,68,arW false zs f N m n,arO N n,v,68,[],[]⟩
theorem VJ {call:QM} (hc:Zs Tryz.prog call) {fn:FuncId} {args:List Value} {v:Value} {zs:List UInt8} {f:Nat→Bool} {N m n:Nat} {T:List (Nat×Bool)} {q:Prop} (ha:args.all (okV (fun l=>Nat.blt l 68) 3)=true) (hv:XD v=true) (hu:isU v=false) (h:obs (call fn args ⟨68,arW false zs f N m n,arO N n,0,T,0,True⟩)=some (v,q)) (hq:q) :
  ConOk Tryz.prog fn 3 (Zqz args v zs f N m n)∧FlatC (Zqz args v zs f N m n):=by
 unfold obs at h
 obtain⟨⟨v',s'⟩,h1,h2⟩:=oM h
 simp only[Prod.mk.injEq] at h2
 obtain⟨rfl,rfl⟩:=h2
 refine⟨Qn hc ⟨by show 64≤68; omega,Nat.le_refl _,Zas ZhC false zs f N m n,rfl,rfl,rfl,ha,Q8 hv 1,fun x hx=>by cases hx⟩ h1 hq (p:=fun l=>Nat.blt l 68) (σ:=id) ?_,⟨fun x hx=>by cases hx⟩⟩
 exact⟨fun _ _=>rfl,trivial,rfl,trivial,⟨Q8 hv 1,by rw[JB]; rfl⟩,hu,trivial,rfl,Xk _ hv,fun x hx=>by cases hx⟩
def rwC (a k:Nat) (zs:List UInt8) (f:Nat→Bool) (N m n:Nat):Con:=Zqz [.pointer (some ⟨67,0,none⟩),.int .u32 (a:Nat),.int .i64 (k:Nat)] (.tuple ⟨[.string ⟨⟨(zs.drop a).take k⟩⟩,.bool true]⟩) zs f N m n
theorem ZAw (a k:Nat) (zs:List UInt8) (f:Nat→Bool) (N m n:Nat) (h:ArOk zs N m n) (ha:a+k≤N) (hlt:a<N):ConOk Tryz.prog 19 3 (rwC a k zs f N m n)∧FlatC (rwC a k zs f N m n):=by
 obtain⟨hl,h1,h2,h3,h4⟩:=h
 have hr:=rw_d.v (a:Int) (k:Int) zs f N m n
 have e1:a+k-a=k:=by omega
 simp(disch:=omega) only[XL,ZfL,Zim,tN,Nat.zero_add,Nat.mul_one,Nat.add_zero,e1,ZlS,Zgx,ZdH] at hr
 refine VJ (Zm (L:=100) Zg (Zf _) (Zh _) 40) rfl rfl rfl hr ?_
 simp(disch:=omega) only[Y6,hl,ZdG,lR,dF,qT8.v,Bool.true_and,Bool.and_true,cond_true]
theorem ZqA (m n:Nat) (f:Nat→Bool) (h2:m≤64*n) (h3:n≤100000):Zi5 Tryz.prog 3 (Zmc m n f):=by
 intro fn args s c ρ q h hq
 unfold Zmc at h
 obtain⟨h4,h5⟩:=Qy h
 have h4:=eB h4
 subst h4
 split at h5
 ·rename_i x
  cases h5
  obtain⟨g,rfl⟩:=Int.eq_ofNat_of_zero_le hq.1
  exact ZoU g m n f (by omega) h2 h3
 ·cases h5
def ZLI (g:Nat) (zs:List UInt8) (f:Nat→Bool) (N m n:Nat):Con:=Zqz [.pointer (some ⟨67,0,none⟩),.int .i64 (g:Nat)] (.slice none 0 0) zs f N m n
theorem Zuz (g:Nat) (zs:List UInt8) (f:Nat→Bool) (N m n:Nat) (h:ArOk zs N m n) (hg:(g+1)*256≤N) (hf:∀ i,i<16→f (16*g+i)=false):ConOk Tryz.prog 47 3 (ZLI g zs f N m n)∧FlatC (ZLI g zs f N m n):=by
 obtain⟨hl,h1,h2,h3,h4⟩:=h
 have hr:=tg_0.v g zs f N m n
 have e1:∀ k:Nat,k<16→i64.wrap (i64.wrap ((i64.wrap ((g:Int)*(256:Int))).tdiv (16:Int))+(k:Int))=((16*g+k:Nat):Int):=fun k hk=>by
  rw[show(g:Int)*(256:Int)=((g*256:Nat):Int) by omega,XL _ (by omega),Vj,XL _ (by omega),ZfL,XL _ (by omega)]
  omega
 have e2:i64.wrap ((N:Int).tdiv (256:Int))=((N/256:Nat):Int):=by rw[show(N:Int).tdiv (256:Int)=((N/256:Nat):Int) from(Int.ofNat_tdiv N 256).symm,XL _ (by omega)]
 have hv1:∀ (σ:Nat→Nat),(v64 (Zd f n)).map (rnV σ 3)=v64 (Zd f n):=fun σ=>ZP (Qp _)
 have hv2:∀ (p:Nat→Bool),(v64 (Zd f n)).all (okV p 3)=true:=fun p=>ZE (Qp _)
 refine VJ (Zm (L:=100) Zg (JY (ZqA m n f h2 h3)) (Zh _) 40) rfl rfl rfl hr ?_
 have t0:i64.wrap (i64.wrap ((i64.wrap ((g:Int)*(256:Int))).tdiv (16:Int))+(0:Int))=((16*g+0:Nat):Int):=e1 0 (by omega)
 have t1:i64.wrap (i64.wrap ((i64.wrap ((g:Int)*(256:Int))).tdiv (16:Int))+(1:Int))=((16*g+1:Nat):Int):=e1 1 (by omega)
 have t2:i64.wrap (i64.wrap ((i64.wrap ((g:Int)*(256:Int))).tdiv (16:Int))+(2:Int))=((16*g+2:Nat):Int):=e1 2 (by omega)
 have t3:i64.wrap (i64.wrap ((i64.wrap ((g:Int)*(256:Int))).tdiv (16:Int))+(3:Int))=((16*g+3:Nat):Int):=e1 3 (by omega)
 have t4:i64.wrap (i64.wrap ((i64.wrap ((g:Int)*(256:Int))).tdiv (16:Int))+(4:Int))=((16*g+4:Nat):Int):=e1 4 (by omega)
 have t5:i64.wrap (i64.wrap ((i64.wrap ((g:Int)*(256:Int))).tdiv (16:Int))+(5:Int))=((16*g+5:Nat):Int):=e1 5 (by omega)
 have t6:i64.wrap (i64.wrap ((i64.wrap ((g:Int)*(256:Int))).tdiv (16:Int))+(6:Int))=((16*g+6:Nat):Int):=e1 6 (by omega)
 have t7:i64.wrap (i64.wrap ((i64.wrap ((g:Int)*(256:Int))).tdiv (16:Int))+(7:Int))=((16*g+7:Nat):Int):=e1 7 (by omega)
 have t8:i64.wrap (i64.wrap ((i64.wrap ((g:Int)*(256:Int))).tdiv (16:Int))+(8:Int))=((16*g+8:Nat):Int):=e1 8 (by omega)
 have t9:i64.wrap (i64.wrap ((i64.wrap ((g:Int)*(256:Int))).tdiv (16:Int))+(9:Int))=((16*g+9:Nat):Int):=e1 9 (by omega)
 have t10:i64.wrap (i64.wrap ((i64.wrap ((g:Int)*(256:Int))).tdiv (16:Int))+(10:Int))=((16*g+10:Nat):Int):=e1 10 (by omega)
 have t11:i64.wrap (i64.wrap ((i64.wrap ((g:Int)*(256:Int))).tdiv (16:Int))+(11:Int))=((16*g+11:Nat):Int):=e1 11 (by omega)
 have t12:i64.wrap (i64.wrap ((i64.wrap ((g:Int)*(256:Int))).tdiv (16:Int))+(12:Int))=((16*g+12:Nat):Int):=e1 12 (by omega)
 have t13:i64.wrap (i64.wrap ((i64.wrap ((g:Int)*(256:Int))).tdiv (16:Int))+(13:Int))=((16*g+13:Nat):Int):=e1 13 (by omega)
 have t14:i64.wrap (i64.wrap ((i64.wrap ((g:Int)*(256:Int))).tdiv (16:Int))+(14:Int))=((16*g+14:Nat):Int):=e1 14 (by omega)
 have t15:i64.wrap (i64.wrap ((i64.wrap ((g:Int)*(256:Int))).tdiv (16:Int))+(15:Int))=((16*g+15:Nat):Int):=e1 15 (by omega)
 simp only[t0,t1,t2,t3,t4,t5,t6,t7,t8,t9,t10,t11,t12,t13,t14,t15,e2,hv1,hv2,QN,tN,and_true,true_and,and_self,Nat.le_refl]
 have b1:∀ k:Nat,k<16→(0:Int)≤((16*g+k:Nat):Int)∧((16*g+k:Nat):Int)<(m:Int):=fun k hk=>by omega
 simp only[hf,b1,Nat.lt_irrefl,Nat.reduceLT,and_true,true_and,and_self]
 exact⟨dF (by omega),dF (by omega)⟩
def swL (w:Int) (v:Int) (g m n:Nat) (f:Nat→Bool) (cv:Int):Sy.Steps:=[(68,86,ZLE w v,[]),(70,158,ZFE g m n f cv,[64,65,66,67])]
def snL (g m n:Nat) (f:Nat→Bool) (cv:Int) (c e b t p y r:Nat):Sy.Steps :=
 [(69,92,ZLH c e b t p y r false,[]),(71,158,ZFE g m n f cv,[64,65,66,67]),(71,93,ZLF g m n (YY f g false) false,[64,65,66,67])]
theorem ZCa (s:List UInt8) (v:Int):obs (evF Tryz.prog Zc Zb 100 10 86 [YX s,Wm,Ww v] (stT []))=Wj (YX (s++[Km (v.fdiv Yg)])) (W8 (Zqd (Yf s+1)) True):=by kernel_rfl
def ZMd:=Bx.mk (by have h:=@ZCa;simp(maxSteps:=99999999) only[Zx.v,ZF.v,ZH.v,-eq_self] at h;exact h)
theorem ZCb (s:List UInt8) (v:Int):obs (evF Tryz.prog Zc Zb 100 10 86 [YX s,Jl,Ww v] (stT []))=Wj (YX (s++[Km (v.fdiv Yg),Km (v.fdiv Yz)])) (W8 (Zqd (Yf s+2)) True):=by kernel_rfl
def ZMe:=Bx.mk (by have h:=@ZCb;simp(maxSteps:=99999999) only[Zx.v,ZF.v,XB.v,-eq_self] at h;exact h)
def WP (a b:Nat):=leW a (ZcF b)
def ZhV (a:Prop):=Zfa (ZtI a)
def Vz (a b:Nat):=Ub (WP a b)
def Xv (a b c:Nat):=ZeS (Vz a b) c
def ZhW:=Value.string { data:=#[]:ByteArray }
def VZ (a b c d:Nat):=Zur (WP a b) (Za5 c d)
def Yi:=Bx.mk (aI @WP.eq_1 (aI @ZhV.eq_1 (aI @Vz.eq_1 (aI @Xv.eq_1 (aI @ZhW.eq_1 @VZ.eq_1)))))
theorem ZFY (a:Nat) (g:Nat) (v:Nat) (zs:List UInt8) (f:Nat→Bool) (cv:Int) (N:Nat) (m:Nat) (n:Nat):evF Tryz.prog (Zk 3 (Za (swL Yg (QW v) g m n f cv)) Zc) Zb 100 40 42 [QG,ZX a,Wm,ZX v] (ZbX (arW true zs f N m n) N n 32 3758096257)=JC QB 70 [(65,Jo 65 (Zc2 f g) n),(67,ZbO N),(66,Zc4 m n),(64,ZbP 64 (YZ a) (Jn (VZ 1 v N a*1) 0 (List.map (fun c=>Value.int u8 (↑c.toNat:Int)) (WP 1 v))) (u8s zs))] [(69,Za5 N a),(68,Yf (WP 1 v)),(65,n),(64,N)] 32 (Jp (ZbZ (Zjh (YZ a+Yf (List.take (VZ 1 v N a*1) (List.drop 0 (List.map (fun c=>Value.int u8 (↑c.toNat:Int)) (WP 1 v))))) (u8s zs) (Zj8 (Jn (VZ 1 v N a*1) 0 (List.map (fun c=>Value.int u8 (↑c.toNat:Int)) (WP 1 v))))&&(List.take (VZ 1 v N a*1) (List.drop 0 (List.map (fun c=>Value.int u8 (↑c.toNat:Int)) (WP 1 v)))).all Qm) ((Yf (List.take (VZ 1 v N a*1) (List.drop 0 (List.map (fun c=>Value.int u8 (↑c.toNat:Int)) (WP 1 v))))).beq (VZ 1 v N a*1)) (WK (0+VZ 1 v N a*1) (List.map (fun c=>Value.int u8 (↑c.toNat:Int)) (WP 1 v))) (W8 (KQ a&&ZgN a N) (QF (((((((((((JN (Jf (Zbo (Jf (Q6 (VI (ZhV (X4 (ZhW=YX []) (QR Wm) (Yl v))∧(!Zv (WP 1 v) [])=true))) (Vz 1 v)) (Vz 1 v)) (Vz 1 v)) (Vz 1 v)∧Xv 1 v N=true)∧Xv 1 v N=true)∧Xv 1 v N=true)∧Xv 1 v N=true)∧Xv 1 v N=true)∧Xv 1 v N=true)∧Xv 1 v N=true)∧Xv 1 v N=true)∧Xv 1 v N=true)∧Xv 1 v N=true)∧Xv 1 v N=true) (!decide (Vu a≤VF N (Vz 1 v))))∧ZhT a N=true)) (Zjx (Vz 1 v)=true) (X4 (Vv (ZgO a g) (ZhS (ZdE (ZaY (Zja (ZbY a (Vz 1 v)))) 1) (g+1))) (Y0 m n m f n (QP f n (fun l=>l.blt 68) 70)) (QO n))):=by kernel_rfl
def sw_1:=Bx.mk (by have h:=@ZFY;simp(maxSteps:=99999999) only[Zx.v,ZF.v,ZD.v,ZO.v,ZU.v,ZR.v,Zp.v,ZH.v,Zl.v,ZB.v,Zo.v,Yi.v,-eq_self] at h;exact h)
def Zc5 (a b:Int):=bits BinOp.or u32 a (u32.wrap b)
def Za8 (a b:Int):=ZdE (i64.wrap a) b
def Zat (a:Int):=Qf (i64.wrap a)
def ZnI (a:Prop) (b c d e f g:Bool):=J5 (Zki a b c d e) f g
def Ug (a b:Int):=(Za8 a b).toNat
def Uh (a:Int):=Zc5 Zr a
def ZqB (a b c d e:Prop):=ZkP a b c d∧e
def Zau (a:Nat) (b:List UInt8) (c:List Value) (d:List UInt8) (e:Nat):=Zqg a (u8s b) c (u8s d) e
def ZqC (a:Prop) (b c d e f:Bool):=ZnI a b c d d e f
def ZuA (a:Prop) (b c d:Bool):=ZqC a b b c c d
def ZqD (a b c d:Prop):=ZqB a b b c d
def ZnJ (a b c:Prop):=ZqD a b b c
def ZdY (a b:Prop):=ZnJ a b b
def Zbr (a:Prop) (b c:Bool):=ZuA a b b c
def ZcM (a:Prop):=ZdY a Ze
def ZdZ (a:Prop):=ZdV (ZcM a)
def Yj:=Bx.mk (aI @Zc5.eq_1 (aI @Za8.eq_1 (aI @Zat.eq_1 (aI @ZnI.eq_1 (aI @Ug.eq_1 (aI @Uh.eq_1 (aI @ZqB.eq_1 (aI @Zau.eq_1 (aI @ZqC.eq_1 (aI @ZuA.eq_1 (aI @ZqD.eq_1 (aI @ZnJ.eq_1 (aI @ZdY.eq_1 (aI @Zbr.eq_1 (aI @ZcM.eq_1 @ZdZ.eq_1)))))))))))))))
theorem ZFZ (at_:Int) (zs:List UInt8) (f:Nat→Bool) (N:Nat) (m:Nat) (n:Nat):obs (evF Tryz.prog Zc Zb 100 40 30 [QG,Ww at_,Wm] (KT zs f N m n N n 49 70402835480512))=Zb0 (Ww (Uh (JF (u8s zs) (0+QZ at_*1+0)))) (ZaM (Zau (0+QZ at_*1+0+1) zs J7 zs (0+QZ at_*1+0)) (YO Zr (Ug at_ 1-QZ at_)) (V9 (Jm (ZhG at_ (ZnH at_ (Ug at_ 1))) (Za8 at_ 1) (ZeS (Za8 at_ 1) (Ug at_ 1)) (W8 (UF (Za8 at_ 1) (ZeS (Za8 at_ 1) N)) (Zbr (XR (ZdT (ZL (WA (XS (WN (Jh (Ue (WN (ZL (ZdZ (Ka W0))) Yg N N N N) Yg N) Yg N N) Yg N N N N) (!decide (i64.wrap at_≤VF N Yg)))))) (Zat at_)) (Zat at_) (decide (i64.wrap at_>VF N Yg))))∧(QZ at_).blt (Ug at_ 1)=true))):=by kernel_rfl
def lw_1:=Bx.mk (by have h:=@ZFZ;simp(maxSteps:=99999999) only[Zx.v,ZF.v,ZD.v,ZO.v,ZU.v,ZR.v,Zp.v,ZH.v,Zl.v,ZB.v,Zo.v,Zq.v,Zy.v,Yj.v,-eq_self] at h;exact h)
theorem ZF0 (a:Nat) (g:Nat) (v:Nat) (zs:List UInt8) (f:Nat→Bool) (cv:Int) (N:Nat) (m:Nat) (n:Nat):evF Tryz.prog (Zk 3 (Za (swL ZW (QW v) g m n f cv)) Zc) Zb 100 40 42 [QG,ZX a,Jl,ZX v] (ZbX (arW true zs f N m n) N n 32 3758096257)=JC QB 70 [(65,Jo 65 (Zc2 f g) n),(67,ZbO N),(66,Zc4 m n),(64,ZbP 64 (YZ a) (Jn (VZ 2 v N a*1) 0 (List.map (fun c=>Value.int u8 (↑c.toNat:Int)) (WP 2 v))) (u8s zs))] [(69,Za5 N a),(68,Yf (WP 2 v)),(65,n),(64,N)] 32 (Jp (ZbZ (Zjh (YZ a+Yf (List.take (VZ 2 v N a*1) (List.drop 0 (List.map (fun c=>Value.int u8 (↑c.toNat:Int)) (WP 2 v))))) (u8s zs) (Zj8 (Jn (VZ 2 v N a*1) 0 (List.map (fun c=>Value.int u8 (↑c.toNat:Int)) (WP 2 v))))&&(List.take (VZ 2 v N a*1) (List.drop 0 (List.map (fun c=>Value.int u8 (↑c.toNat:Int)) (WP 2 v)))).all Qm) ((Yf (List.take (VZ 2 v N a*1) (List.drop 0 (List.map (fun c=>Value.int u8 (↑c.toNat:Int)) (WP 2 v))))).beq (VZ 2 v N a*1)) (WK (0+VZ 2 v N a*1) (List.map (fun c=>Value.int u8 (↑c.toNat:Int)) (WP 2 v))) (W8 (KQ a&&ZgN a N) (QF (((((((((((JN (Jf (Zbo (Jf (Q6 (VI (ZhV (X4 (ZhW=YX []) (QR Jl) (Yl v))∧(!Zv (WP 2 v) [])=true))) (Vz 2 v)) (Vz 2 v)) (Vz 2 v)) (Vz 2 v)∧Xv 2 v N=true)∧Xv 2 v N=true)∧Xv 2 v N=true)∧Xv 2 v N=true)∧Xv 2 v N=true)∧Xv 2 v N=true)∧Xv 2 v N=true)∧Xv 2 v N=true)∧Xv 2 v N=true)∧Xv 2 v N=true)∧Xv 2 v N=true) (!decide (Vu a≤VF N (Vz 2 v))))∧ZhT a N=true)) (Zjx (Vz 2 v)=true) (X4 (Vv (ZgO a g) (ZhS (ZdE (ZaY (Zja (ZbY a (Vz 2 v)))) 1) (g+1))) (Y0 m n m f n (QP f n (fun l=>l.blt 68) 70)) (QO n))):=by kernel_rfl
def sw_2:=Bx.mk (by have h:=@ZF0;simp(maxSteps:=99999999) only[Zx.v,ZF.v,V7.v,ZD.v,ZO.v,ZU.v,ZR.v,Zp.v,ZH.v,XB.v,Zl.v,ZB.v,Zo.v,Yi.v,-eq_self] at h;exact h)
def Zc6 (a:Prop) (b c d e f g h i:Bool):=Zki (Zki a b c d e) f g h i
def Zfd (a b c:Int):=Zc5 (Zc5 a b) c
def ZnK (a b c:Prop):=Zjy (a∧b) c
def Jq (a b c:Int):=Ww (Zfd a b c)
def Zc7 (a:List UInt8) (b:Nat):=u32.wrap (JF (u8s a) b)
def ZqE (a:Prop) (b c d e f g h:Bool):=Zc6 a b c d e f g g h
def QA:=Bx.mk (aI @Zc6.eq_1 (aI @Zfd.eq_1 (aI @ZnK.eq_1 (aI @Jq.eq_1 (aI @Zc7.eq_1 @ZqE.eq_1)))))
theorem ZF1 (at_:Int) (zs:List UInt8) (f:Nat→Bool) (N:Nat) (m:Nat) (n:Nat):obs (evF Tryz.prog Zc Zb 100 40 30 [QG,Ww at_,Jl] (KT zs f N m n N n 49 351874054094784))=Zb0 (Jq Zr (Zc7 zs (0+QZ at_*1+1)*Yz) (JF (u8s zs) (0+QZ at_*1+0))) (ZdJ (Zau (0+QZ at_*1+0+1) zs J7 zs (0+QZ at_*1+0)) (YO Zr (Ug at_ 2-QZ at_)) (Zau (0+QZ at_*1+1+1) zs J7 zs (0+QZ at_*1+1)) (YO Yg (Ug at_ 2-QZ at_)) (ZnK (W8 (ZhG at_ (ZnH at_ (Ug at_ 2))) (Jm (UF (Za8 at_ 2) (ZeS (Za8 at_ 2) (Ug at_ 2))) (Za8 at_ 2) (ZeS (Za8 at_ 2) N) (ZqE (ZdT (Zbq (V9 (QF (Ue (WN (WN (Jh (ZL (ZdZ (Ka W0))) ZW N N) ZW N N N N) ZW N N N N) ZW N) (!decide (i64.wrap at_≤VF N ZW)))) Ze)) (Zat at_) (Zat at_) (Zat at_) (Zat at_) (Zat at_) (Zat at_) (decide (i64.wrap at_>VF N ZW))))) ((QZ at_).blt (Ug at_ 2)=true) Ze)):=by kernel_rfl
def lw_2:=Bx.mk (by have h:=@ZF1;simp(maxSteps:=99999999) only[Zx.v,ZF.v,V7.v,ZD.v,ZO.v,ZU.v,ZR.v,Zp.v,XB.v,Zl.v,ZB.v,Zo.v,Zq.v,Zy.v,Yj.v,QA.v,-eq_self] at h;exact h)
theorem ZF2 (a:Nat) (g:Nat) (v:Nat) (zs:List UInt8) (f:Nat→Bool) (cv:Int) (N:Nat) (m:Nat) (n:Nat):evF Tryz.prog (Zk 3 (Za (swL VY (QW v) g m n f cv)) Zc) Zb 100 40 42 [QG,ZX a,Kn,ZX v] (ZbX (arW true zs f N m n) N n 32 3758096257)=JC QB 70 [(65,Jo 65 (Zc2 f g) n),(67,ZbO N),(66,Zc4 m n),(64,ZbP 64 (YZ a) (Jn (VZ 4 v N a*1) 0 (List.map (fun c=>Value.int u8 (↑c.toNat:Int)) (WP 4 v))) (u8s zs))] [(69,Za5 N a),(68,Yf (WP 4 v)),(65,n),(64,N)] 32 (Jp (ZbZ (Zjh (YZ a+Yf (List.take (VZ 4 v N a*1) (List.drop 0 (List.map (fun c=>Value.int u8 (↑c.toNat:Int)) (WP 4 v))))) (u8s zs) (Zj8 (Jn (VZ 4 v N a*1) 0 (List.map (fun c=>Value.int u8 (↑c.toNat:Int)) (WP 4 v))))&&(List.take (VZ 4 v N a*1) (List.drop 0 (List.map (fun c=>Value.int u8 (↑c.toNat:Int)) (WP 4 v)))).all Qm) ((Yf (List.take (VZ 4 v N a*1) (List.drop 0 (List.map (fun c=>Value.int u8 (↑c.toNat:Int)) (WP 4 v))))).beq (VZ 4 v N a*1)) (WK (0+VZ 4 v N a*1) (List.map (fun c=>Value.int u8 (↑c.toNat:Int)) (WP 4 v))) (W8 (KQ a&&ZgN a N) (QF (((((((((((JN (Jf (JN (Jf (JN (Q6 (VI (ZhV (X4 (ZhW=YX []) (QR Kn) (Yl v))∧(!Zv (WP 4 v) [])=true))) (Vz 4 v)) (Vz 4 v)) (Vz 4 v)) (Vz 4 v)) (Vz 4 v)∧Xv 4 v N=true)∧Xv 4 v N=true)∧Xv 4 v N=true)∧Xv 4 v N=true)∧Xv 4 v N=true)∧Xv 4 v N=true)∧Xv 4 v N=true)∧Xv 4 v N=true)∧Xv 4 v N=true)∧Xv 4 v N=true)∧Xv 4 v N=true) (!decide (Vu a≤VF N (Vz 4 v))))∧ZhT a N=true)) (Zjx (Vz 4 v)=true) (X4 (Vv (ZgO a g) (ZhS (ZdE (ZaY (Zja (ZbY a (Vz 4 v)))) 1) (g+1))) (Y0 m n m f n (QP f n (fun l=>l.blt 68) 70)) (QO n))):=by kernel_rfl
def sw_4:=Bx.mk (by have h:=@ZF2;simp(maxSteps:=99999999) only[Zx.v,ZF.v,V7.v,ZD.v,ZO.v,ZU.v,ZR.v,Zp.v,ZH.v,Zl.v,ZB.v,Zo.v,Yi.v,-eq_self] at h;exact h)
def X5 (a:Prop):=Ka (Ka a)
def Zc8 (a b:Int):=u32.wrap (a*b)
def YV:=Bx.mk (aI @X5.eq_1 @Zc8.eq_1)
theorem ZF3 (at_:Int) (zs:List UInt8) (f:Nat→Bool) (N:Nat) (m:Nat) (n:Nat):obs (evF Tryz.prog Zc Zb 100 40 30 [QG,Ww at_,Kn] (KT zs f N m n N n 48 211106500968384))=Zb0 (Ww (Zc5 (Zfd (Zc8 (Zc7 zs (0+QZ at_*1+3)) KO) (Zc7 zs (0+QZ at_*1+2)*Wk) (Zc7 zs (0+QZ at_*1+1)*Yz)) (JF (u8s zs) (0+QZ at_*1+0)))) (ZdJ (Zau (0+QZ at_*1+0+1) zs J7 zs (0+QZ at_*1+0)) (YO Zr (Ug at_ 4-QZ at_)) (Zau (0+QZ at_*1+1+1) zs J7 zs (0+QZ at_*1+1)) (YO Yg (Ug at_ 4-QZ at_)) (ZdJ (Zau (0+QZ at_*1+2+1) zs J7 zs (0+QZ at_*1+2)) (YO ZW (Ug at_ 4-QZ at_)) (Zau (0+QZ at_*1+3+1) zs J7 zs (0+QZ at_*1+3)) (YO (3:Int) (Ug at_ 4-QZ at_)) (ZL (W8 (ZhG at_ (ZnH at_ (Ug at_ 4))) (Jm (UF (Za8 at_ 4) (ZeS (Za8 at_ 4) (Ug at_ 4))) (Za8 at_ 4) (ZeS (Za8 at_ 4) N) (ZqE (Y5 (X5 (QF (Ue (WN (WN (Jh (ZL (ZdZ (Ka W0))) VY N N) VY N N N N) VY N N N N) VY N) (!decide (i64.wrap at_≤VF N VY))))) (Zat at_) (Zat at_) (Zat at_) (Zat at_) (Zat at_) (Zat at_) (decide (i64.wrap at_>VF N VY))))∧(QZ at_).blt (Ug at_ 4)=true)))):=by kernel_rfl
def lw_4:=Bx.mk (by have h:=@ZF3;simp(maxSteps:=99999999) only[Zx.v,ZF.v,V7.v,ZD.v,ZO.v,ZU.v,ZR.v,Zp.v,Zl.v,ZB.v,Zo.v,Zq.v,Zy.v,Yj.v,QA.v,YV.v,-eq_self] at h;exact h)
theorem ZF4 (a:Nat) (g:Nat) (c:Nat) (e:Nat) (b:Nat) (t:Nat) (p:Nat) (y:Nat) (r:Nat) (zs:List UInt8) (f:Nat→Bool) (cv:Int) (N:Nat) (m:Nat) (n:Nat):evF Tryz.prog (Zk 3 (Za (snL g m n f cv c e b t p y r)) Zc) Zb 100 40 44 (Vm QG a (cpV c e b t p y r false)) (ZbX (arW true zs f N m n) N n 67 16140900519035010567)=JC QB 71 [(65,Jo 65 (Zc2 (Zc2 f g) g) n),(66,Zc4 m n),(64,ZbP 64 (YZ a) (Jn (Zar (cbL c e b t p y r) N a*1) 0 (List.map (fun c=>Value.int u8 (↑c.toNat:Int)) (cbL c e b t p y r))) (u8s zs)),(67,ZbO N)] [(70,Za5 N a),(69,Yf (cbL c e b t p y r)),(65,n),(64,N)] 67 (ZlU (ZdT (Jp (ZbZ (Zjh (YZ a+Yf (List.take (Zar (cbL c e b t p y r) N a*1) (List.drop 0 (List.map (fun c=>Value.int u8 (↑c.toNat:Int)) (cbL c e b t p y r))))) (u8s zs) (Zj8 (Jn (Zar (cbL c e b t p y r) N a*1) 0 (List.map (fun c=>Value.int u8 (↑c.toNat:Int)) (cbL c e b t p y r))))&&(List.take (Zar (cbL c e b t p y r) N a*1) (List.drop 0 (List.map (fun c=>Value.int u8 (↑c.toNat:Int)) (cbL c e b t p y r)))).all Qm) ((Yf (List.take (Zar (cbL c e b t p y r) N a*1) (List.drop 0 (List.map (fun c=>Value.int u8 (↑c.toNat:Int)) (cbL c e b t p y r))))).beq (Zar (cbL c e b t p y r) N a*1)) (WK (0+Zar (cbL c e b t p y r) N a*1) (List.map (fun c=>Value.int u8 (↑c.toNat:Int)) (cbL c e b t p y r))) (W8 (KQ a&&ZgN a N) (QF (Ue (WN (Ue (WN (Ue (Jf (Zbo (JN (Jf (Q6 (VI (Zju (Zfb (ZdS (Zc3 (Zc3 (WA (ZdV (VI (WM ((ZbW a==Zr)=true))))) N N N N) N N N N) N) N N∧(ZbW a==Zr)=true) (!decide (Vu a≤VF N YD)) (ZM (Z6 c e b t p y r false) c e b t p y r false)))) (Vy c e b t p y r)) (Vy c e b t p y r)) (Vy c e b t p y r)) (Vy c e b t p y r)) (Vy c e b t p y r) N) (Vy c e b t p y r) N N N N) (Vy c e b t p y r) N) (Vy c e b t p y r) N N N N) (Vy c e b t p y r) N) (!decide (Vu a≤VF N (Vy c e b t p y r))))∧ZhT a N=true)) (Zjx (Vy c e b t p y r)=true) (X4 (Vv (ZgO a g) (ZhS (ZdE (ZaY (Zja (ZbY a (Vy c e b t p y r)))) 1) (g+1))) (Y0 m n m f n (QP f n (fun l=>l.blt 68) 71)) (QO n)))) (X4 (Vv (ZgO a g) (QR Xe)) (Y0 m n m (Zc2 f g) n (QP (Zc2 f g) n (fun l=>l.blt 68) 71)) (QO n))):=by kernel_rfl
def sc_n:=Bx.mk (by have h:=@ZF4;simp(maxSteps:=99999999) only[Zx.v,ZD.v,ZO.v,ZU.v,ZR.v,Zp.v,Zw.v,ZH.v,Zl.v,ZB.v,Zo.v,-eq_self] at h;exact h)
structure In where
 op:Int
 a:Int
 b:Int
 c:Int
 m:Int
def In.val (i:In):Value:=.agg ⟨[.int .i64 i.op,.int .i64 i.a,.int .i64 i.b,.int .i64 i.c,.int .i64 i.m]⟩
def wyL (c:Cp) (a w:Int) (need t:Nat) (h:Bool):Sy.Steps:=[(69,35,Con.pure [c.val,.int .u16 (need:Nat)] (.int .i64 (t:Nat)),[]),(70,100,Con.pure [c.val,.agg ⟨[.int .u32 a,.int .u32 w]⟩] (.bool h),[])]
theorem jp_t (c:Cp) (need:Nat):obs (evF Tryz.prog Zc Zb 100 20 35 [c.val,Value.int u16 (↑need:Int)] { n:=64,h:=[],lo:=[],esc:=0,T:=[(0,true)],k:=0,O:=True:St })=some (Value.int i64 (1:Int),True∧(!c.V)=true):=by kernel_rfl
def ZnL (a:Nat) (b:Int):=QW a !=b
def YS (a:Nat):=ZnL a Zr
def Zc9:=ZgB 1
def Ym:=Bx.mk (aI @ZnL.eq_1 (aI @YS.eq_1 @Zc9.eq_1))
theorem ZF5 (c:Cp) (need:Nat):obs (evF Tryz.prog Zc Zb 100 20 35 [c.val,QK need] (Vk [W1,Zc9]))=X2 Jl (Uc (!c.V)) (YS c.Y=true):=by kernel_rfl
def jp_s:=Bx.mk (by have h:=@ZF5;simp(maxSteps:=99999999) only[Zx.v,ZF.v,ZD.v,YA.v,X0.v,ZR.v,Ud.v,XB.v,Zl.v,Ym.v,-eq_self] at h;exact h)
def ZjC (a b:Int):=Znp u16 a b
def ZnM (a:Nat) (b:Int):=ZjC (QW a) b
def ZgP (a b:Nat) (c:Int):=ZnM a (QW b) !=c
def Zb2:=Bx.mk (aI @ZjC.eq_1 (aI @ZnM.eq_1 @ZgP.eq_1))
theorem ZF6 (c:Cp) (need:Nat):obs (evF Tryz.prog Zc Zb 100 20 35 [c.val,QK need] (Vk [W1,ZbS,ZgB 2]))=X2 (ZcC 3) (Zjb (!c.V) (YS c.Y)) (ZgP c.P need (QW need)=true):=by kernel_rfl
def jp_p:=Bx.mk (by have h:=@ZF6;simp(maxSteps:=99999999) only[Zx.v,ZF.v,V7.v,ZD.v,YA.v,X0.v,ZR.v,Zl.v,Ym.v,Zb2.v,-eq_self] at h;exact h)
theorem ZF7 (c:Cp) (need:Nat):obs (evF Tryz.prog Zc Zb 100 20 35 [c.val,QK need] (Vk [W1,ZbS,ZkI 2]))=Wj Yk (ZgL (!c.V) (YS c.Y) (ZgP c.P need (QW need))):=by kernel_rfl
def jp_o:=Bx.mk (by have h:=@ZF7;simp(maxSteps:=99999999) only[Zx.v,ZF.v,V7.v,ZD.v,X0.v,Zl.v,Ym.v,Zb2.v,-eq_self] at h;exact h)
def ZjD (a b:Value) (c:Int) (d e:Value):=[a,b,VD c,d,e]
def Ui (a b:Prop):=ZhV (JO a b)
def Zd0 (a:Nat):=QR (QK a)
def YE:=Bx.mk (aI @ZjD.eq_1 (aI @Ui.eq_1 @Zd0.eq_1))
theorem ZF8 (c:Cp) (a:Int) (w:Int) (need:Nat) (t:Nat) (h:Bool) (zs:List UInt8) (f:Nat→Bool) (N:Nat) (m:Nat) (n:Nat):obs (evF Tryz.prog (Zk 3 (Za (wyL c a w need t h)) Zc) Zb 100 20 52 (ZjD c.val (Ww a) w (QK need) QG) (Zgt 68 (ZnG zs f N m n) (arO N n) [KR] 0))=X2 (Z1 t) (Ui (ZM (Z6 c.C c.E c.B c.T c.P c.Y c.R c.V) c.C c.E c.B c.T c.P c.Y c.R c.V) (Zd0 need)) (YS t=true):=by kernel_rfl
def wy_j:=Bx.mk (by have h:=@ZF8;simp(maxSteps:=99999999) only[Zx.v,ZF.v,ZD.v,YA.v,ZR.v,Zp.v,Zw.v,ZH.v,Zl.v,Zq.v,Yi.v,Ym.v,YE.v,-eq_self] at h;exact h)
def U3 (a:Int):=Ww (u32.wrap a)
def Xl (a b c:Prop):=Znr a (JO b c)
def VA (a:Prop) (b:Nat):=QF a (YS b)
def Kc (a:Value) (b:Prop):=X2 a b Ze
def Z2:=Bx.mk (aI @U3.eq_1 (aI @Xl.eq_1 (aI @VA.eq_1 @Kc.eq_1)))
theorem ZF9 (c:Cp) (a:Int) (w:Int) (need:Nat) (t:Nat) (h:Bool) (zs:List UInt8) (f:Nat→Bool) (N:Nat) (m:Nat) (n:Nat):obs (evF Tryz.prog (Zk 3 (Za (wyL c a w need t h)) Zc) Zb 100 20 52 (ZjD c.val (Ww a) w (QK need) QG) (KT zs f N m n N n 12 4094))=Kc Kn ((((((((((Xl (VA (Ui (ZM (Z6 c.C c.E c.B c.T c.P c.Y c.R c.V) c.C c.E c.B c.T c.P c.Y c.R c.V) (Zd0 need)) t) (ZM (Z6 c.C c.E c.B c.T c.P c.Y c.R c.V) c.C c.E c.B c.T c.P c.Y c.R c.V) (ZaJ [Ww a,U3 w]=ZaJ [Ww a,Ww w])∧(!h)=true)∧(!h)=true)∧(!h)=true)∧(!h)=true)∧(!h)=true)∧(!h)=true)∧(!h)=true)∧(!h)=true)∧(!h)=true)∧(!h)=true):=by kernel_rfl
def wy_h:=Bx.mk (by have h:=@ZF9;simp(maxSteps:=99999999) only[Zx.v,ZF.v,ZD.v,ZO.v,YA.v,ZR.v,Zp.v,Zw.v,ZH.v,Zl.v,Zo.v,Zq.v,Yi.v,Ym.v,YE.v,Z2.v,-eq_self] at h;exact h)
def Qv (a:Nat):=u64.wrap (QW a)
def ZkQ (a:Prop) (b c:Bool):=ZuA a b c c
def KA (a:Prop) (b:Bool):=ZkQ a b b
def ZcN (a:Prop) (b:Bool):=JE a b b
def Xh:=Bx.mk (aI @Qv.eq_1 (aI @ZkQ.eq_1 (aI @KA.eq_1 @ZcN.eq_1)))
theorem ZGa (c:Cp) (a:Int) (w:Int) (need:Nat) (t:Nat) (h:Bool) (zs:List UInt8) (f:Nat→Bool) (N:Nat) (m:Nat) (n:Nat):obs (evF Tryz.prog (Zk 3 (Za (wyL c a w need t h)) Zc) Zb 100 20 52 (ZjD c.val (Ww a) w (QK need) QG) (KT zs f N m n N n 19 262144))=X2 Kn (ZcN (ZdX (QF (KA (Xl (VA (Ui (ZM (Z6 c.C c.E c.B c.T c.P c.Y c.R c.V) c.C c.E c.B c.T c.P c.Y c.R c.V) (Zd0 need)) t) (ZM (Z6 c.C c.E c.B c.T c.P c.Y c.R c.V) c.C c.E c.B c.T c.P c.Y c.R c.V) (ZaJ [Ww a,U3 w]=ZaJ [Ww a,Ww w])) (!h)) (!h))) (!h)) (decide (u64.wrap (u64.wrap a+u64.wrap w)>Qv N)=true):=by kernel_rfl
def wy_z:=Bx.mk (by have h:=@ZGa;simp(maxSteps:=99999999) only[Zx.v,ZF.v,ZD.v,ZU.v,YA.v,ZR.v,Zp.v,Zw.v,ZH.v,Zl.v,ZB.v,Zo.v,Zq.v,Zy.v,Yi.v,Yj.v,Ym.v,YE.v,Z2.v,Xh.v,-eq_self] at h;exact h)
def ZjE (a:Prop) (b c d:Bool):=Zki a b c c d
def Xm:=Bx.mk @ZjE.eq_1
theorem ZGb (c:Cp) (a:Int) (w:Int) (need:Nat) (t:Nat) (h:Bool) (zs:List UInt8) (f:Nat→Bool) (N:Nat) (m:Nat) (n:Nat):obs (evF Tryz.prog (Zk 3 (Za (wyL c a w need t h)) Zc) Zb 100 20 52 (ZjD c.val (Ww a) w (QK need) QG) (KT zs f N m n N n 20 524288))=X2 (ZcC 5) (W8 (!decide (u32.wrap w=Zr)) (ZjE (ZdX (QF (KA (Xl (VA (Ui (ZM (Z6 c.C c.E c.B c.T c.P c.Y c.R c.V) c.C c.E c.B c.T c.P c.Y c.R c.V) (Zd0 need)) t) (ZM (Z6 c.C c.E c.B c.T c.P c.Y c.R c.V) c.C c.E c.B c.T c.P c.Y c.R c.V) (ZaJ [Ww a,U3 w]=ZaJ [Ww a,Ww w])) (!h)) (!h))) (!h) (!h) (decide (u64.wrap (u64.wrap a+u64.wrap w)>Qv N)))) ((a.tmod (u32.wrap w) !=Zr)=true):=by kernel_rfl
def wy_a:=Bx.mk (by have h:=@ZGb;simp(maxSteps:=99999999) only[Zx.v,ZF.v,ZD.v,ZU.v,YA.v,ZR.v,Zp.v,Zw.v,ZH.v,Zl.v,ZB.v,Zo.v,Zq.v,Zy.v,Yi.v,Yj.v,Ym.v,YE.v,Z2.v,Xh.v,Xm.v,-eq_self] at h;exact h)
theorem ZGc (c:Cp) (a:Int) (w:Int) (need:Nat) (t:Nat) (h:Bool) (zs:List UInt8) (f:Nat→Bool) (N:Nat) (m:Nat) (n:Nat):obs (evF Tryz.prog (Zk 3 (Za (wyL c a w need t h)) Zc) Zb 100 20 52 (ZjD c.val (Ww a) w (QK need) QG) (KT zs f N m n N n 20 0))=Wj Yk (QF (W8 (!decide (u32.wrap w=Zr)) (ZjE (ZdX (QF (KA (Xl (VA (Ui (ZM (Z6 c.C c.E c.B c.T c.P c.Y c.R c.V) c.C c.E c.B c.T c.P c.Y c.R c.V) (Zd0 need)) t) (ZM (Z6 c.C c.E c.B c.T c.P c.Y c.R c.V) c.C c.E c.B c.T c.P c.Y c.R c.V) (ZaJ [Ww a,U3 w]=ZaJ [Ww a,Ww w])) (!h)) (!h))) (!h) (!h) (decide (u64.wrap (u64.wrap a+u64.wrap w)>Qv N)))) (a.tmod (u32.wrap w) !=Zr)):=by kernel_rfl
def wy_o:=Bx.mk (by have h:=@ZGc;simp(maxSteps:=99999999) only[Zx.v,ZF.v,ZD.v,ZU.v,ZR.v,Zp.v,Zw.v,ZH.v,Zl.v,ZB.v,Zo.v,Zq.v,Zy.v,Yi.v,Yj.v,Ym.v,YE.v,Z2.v,Xh.v,Xm.v,-eq_self] at h;exact h)
def ZqF (a b:Int):=a+u32.wrap b
def ZkR (a b:Int):=U3 (ZqF a b)
def Zav (a b c:Value):=Con.pure [a,b] c
def Zd1 (a:Nat→Cp) (b:Value):=[Xu a,b]
def Wo (a b c d e f g:Nat) (h:Bool) (i:Prop):=Wj (Z6 a b c d e f g h) i
def ZhX (a b:Int):=a*u32.wrap b
def Za9 (a:Cp) (b c:Value):=Zav a.val b c
def Zd2:=Vk []
def ZkS (a:Cp):=Z6 a.C a.E a.B a.T a.P a.Y a.R a.V
def Z5:=Bx.mk (aI @ZqF.eq_1 (aI @ZkR.eq_1 (aI @Zav.eq_1 (aI @Zd1.eq_1 (aI @Wo.eq_1 (aI @ZhX.eq_1 (aI @Za9.eq_1 (aI @Zd2.eq_1 @ZkS.eq_1))))))))
theorem ZGd (fr:Nat→Cp) (r:Cp) (k:Int) (tqq:Int):obs (evF Tryz.prog (Zk 3 (Za [(66,71,Za9 (fr 16) (Ww tqq) r.val,[])]) Zc) Zb 100 20 34 (Zd1 fr (VD k)) Zd2)=Wo r.C r.E r.B r.T r.P r.Y r.R r.V (Ui (QR (ZkS (fr 16))) (ZkR (QW (fr 16).C) (ZhX VY k)=Ww tqq)):=by kernel_rfl
def fu_a:=Bx.mk (by have h:=@ZGd;simp(maxSteps:=99999999) only[Zx.v,ZF.v,V7.v,ZD.v,X0.v,ZR.v,Zp.v,Zw.v,ZH.v,Zl.v,Yi.v,YE.v,Z2.v,Z5.v,-eq_self] at h;exact h)
def ZqG (a:Nat→Cp):=ZaJ (frL a)
def Uj (a b:Nat→Cp):=ZqG a=ZqG b
def Zba (a:List Value) (b:Prop):=Wj (ZaJ a) b
def Zb3 (a:Nat→Cp) (b c:Value):=Zav (Xu a) b c
def Xn:=Bx.mk (aI @ZqG.eq_1 (aI @Uj.eq_1 (aI @Zba.eq_1 @Zb3.eq_1)))
theorem ZGe (fr:Nat→Cp) (r:Cp):obs (evF Tryz.prog (Zk 3 (Za [(66,34,Zb3 fr Wm r.val,[])]) Zc) Zb 100 20 26 [Xu fr] Zd2)=Zba (frQ fr (ZdR r.C ↑r.E r.B r.T r.P r.Y r.R r.V)) (Ui (Uj fr fr) (QR Wm)):=by kernel_rfl
def nx_a:=Bx.mk (by have h:=@ZGe;simp(maxSteps:=99999999) only[Zx.v,ZF.v,ZD.v,X0.v,ZR.v,Zp.v,Zw.v,ZH.v,Zl.v,Yi.v,YE.v,Z5.v,Xn.v,-eq_self] at h;exact h)
theorem ZGf (op:Int):obs (evF Tryz.prog Zc Zb 100 20 36 [VD op] (Vk [KR,Zc9]))=X2 Wm (Vt (ZQ op 17=true)) (ZQ op 17=true):=by kernel_rfl
def wd_1:=Bx.mk (by have h:=@ZGf;simp(maxSteps:=99999999) only[Zx.v,ZF.v,ZD.v,YA.v,X0.v,ZR.v,ZH.v,Ym.v,-eq_self] at h;exact h)
def Wp (a:Int):=ZQ a 20
def ZcO:=Bx.mk @Wp.eq_1
theorem ZGg (op:Int):obs (evF Tryz.prog Zc Zb 100 20 36 [VD op] (Vk [W1,Zc9]))=X2 Wm (Uc (ZQ op 17)) (Wp op=true):=by kernel_rfl
def wd_2:=Bx.mk (by have h:=@ZGg;simp(maxSteps:=99999999) only[Zx.v,ZF.v,YA.v,X0.v,ZR.v,Ud.v,ZH.v,Ym.v,ZcO.v,-eq_self] at h;exact h)
theorem ZGh (op:Int):obs (evF Tryz.prog Zc Zb 100 20 36 [VD op] (Zu 4 12))=X2 Jl (Zjb (ZQ op 17) (Wp op)∧ZQ op 18=true) (ZQ op 18=true):=by kernel_rfl
def wd_3:=Bx.mk (by have h:=@ZGh;simp(maxSteps:=99999999) only[Zx.v,ZF.v,YA.v,XB.v,ZcO.v,-eq_self] at h;exact h)
def KU (a:Int):=ZQ a 21
def ZgQ:=Bx.mk @KU.eq_1
theorem ZGi (op:Int):obs (evF Tryz.prog Zc Zb 100 20 36 [VD op] (Zu 4 8))=X2 Jl (ZgL (ZQ op 17) (Wp op) (ZQ op 18)) (KU op=true):=by kernel_rfl
def wd_4:=Bx.mk (by have h:=@ZGi;simp(maxSteps:=99999999) only[Zx.v,ZF.v,YA.v,XB.v,Zl.v,ZcO.v,ZgQ.v,-eq_self] at h;exact h)
def V0 (a:Prop) (b c d:Bool) (e f:Int):=Zki a b c d (ZQ e f)
def Zdl:=Bx.mk @V0.eq_1
theorem ZGj (op:Int):obs (evF Tryz.prog Zc Zb 100 20 36 [VD op] (Zu 6 48))=X2 Kn (V0 True (ZQ op 17) (Wp op) (ZQ op 18) op 21∧ZQ op 19=true) (ZQ op 19=true):=by kernel_rfl
def wd_5:=Bx.mk (by have h:=@ZGj;simp(maxSteps:=99999999) only[Zx.v,ZF.v,YA.v,Zy.v,ZcO.v,Zdl.v,-eq_self] at h;exact h)
theorem ZGk (op:Int):obs (evF Tryz.prog Zc Zb 100 20 36 [VD op] (Zu 6 32))=X2 Kn (J5 (ZgL (ZQ op 17) (Wp op) (ZQ op 18)) (KU op) (ZQ op 19)) (ZQ op 22=true):=by kernel_rfl
def wd_6:=Bx.mk (by have h:=@ZGk;simp(maxSteps:=99999999) only[Zx.v,ZF.v,YA.v,Zl.v,ZcO.v,ZgQ.v,-eq_self] at h;exact h)
def Zd3:=ZcC 16
def ZeU:=Bx.mk @Zd3.eq_1
theorem ZGl (op:Int):obs (evF Tryz.prog Zc Zb 100 20 36 [VD op] (Zu 8 192))=X2 Zd3 (ZnI True (ZQ op 17) (Wp op) (ZQ op 18) (KU op) (ZQ op 19) (ZQ op 22)∧ZQ op 23=true) (ZQ op 23=true):=by kernel_rfl
def wd_7:=Bx.mk (by have h:=@ZGl;simp(maxSteps:=99999999) only[Zx.v,ZF.v,YA.v,Zy.v,Yj.v,ZcO.v,ZgQ.v,ZeU.v,-eq_self] at h;exact h)
def W3 (a:Int):=ZQ a 24
def Zd4:=Bx.mk @W3.eq_1
theorem ZGm (op:Int):obs (evF Tryz.prog Zc Zb 100 20 36 [VD op] (Zu 8 128))=X2 Zd3 (QF (ZnI True (ZQ op 17) (Wp op) (ZQ op 18) (KU op) (ZQ op 19) (ZQ op 22)) (ZQ op 23)) (W3 op=true):=by kernel_rfl
def wd_8:=Bx.mk (by have h:=@ZGm;simp(maxSteps:=99999999) only[Zx.v,ZF.v,YA.v,Zy.v,Yj.v,ZcO.v,ZgQ.v,ZeU.v,Zd4.v,-eq_self] at h;exact h)
theorem ZGn (op:Int):obs (evF Tryz.prog Zc Zb 100 20 36 [VD op] (Zu 8 0))=Wj Yk (Zc6 True (ZQ op 17) (Wp op) (ZQ op 18) (KU op) (ZQ op 19) (ZQ op 22) (ZQ op 23) (W3 op)):=by kernel_rfl
def wd_n:=Bx.mk (by have h:=@ZGn;simp(maxSteps:=99999999) only[Zx.v,ZF.v,YA.v,Zy.v,QA.v,ZcO.v,ZgQ.v,Zd4.v,-eq_self] at h;exact h)
theorem Zmf (w v:Nat) (hw:w=1∨w=2∨w=4) (hv:v<4294967296):ConOk Tryz.prog 86 3 (ZLE (w:Int) (v:Int)):=by
 have m1:=Kw (v/256) (by omega)
 have fd0:(v:Int).fdiv (1:Int)=((v/1:Nat):Int):=fdA v 1
 have fd1:∀ n:Nat,(n:Int).fdiv (256:Int)=((n/256:Nat):Int):=fun n=>fdA n 256
 have td1:∀ n:Nat,(n:Int).tdiv (256:Int)=((n/256:Nat):Int):=fun n=>(Int.ofNat_tdiv n 256).symm
 have tm1:∀ n:Nat,(n:Int).tmod (256:Int)=((n%256:Nat):Int):=fun n=>(Int.ofNat_tmod n 256).symm
 rcases hw with rfl|rfl|rfl
 ·have hr:=ZMd.v [] (v:Int)
  simp only[fd0,fd1,td1,tm1,m1,w8A,Nat.div_one,Nat.mod_mod,List.append_assoc,List.cons_append,List.nil_append] at hr
  exact Qj (Zm Zg (Zf _) (Zh _) 10) (v:=.string ⟨⟨leW 1 v⟩⟩) hr (by
   simp only[Qr,List.length_append,List.length_cons,List.length_nil]
   repeat (first|exact trivial|refine ZlN (YW (by omega)) ?_)) rfl rfl
 ·have hr:=ZMe.v [] (v:Int)
  simp only[fd0,fd1,td1,tm1,m1,w8A,Nat.div_one,Nat.mod_mod,List.append_assoc,List.cons_append,List.nil_append] at hr
  exact Qj (Zm Zg (Zf _) (Zh _) 10) (v:=.string ⟨⟨leW 2 v⟩⟩) hr (by
   simp only[Qr,List.length_append,List.length_cons,List.length_nil]
   repeat (first|exact trivial|refine ZlN (YW (by omega)) ?_)) rfl rfl
 ·exact Zqe _ _ ⟨rfl,by omega,by omega⟩
def ZAx (w a v:Nat) (zs:List UInt8) (f:Nat→Bool) (N m n:Nat):Con:=Ziq [.pointer (some ⟨67,0,none⟩),.int .u32 (a:Nat),.int .i64 (w:Nat),.int .u32 (v:Nat)] zs (Xt a (leW w v) zs) f (YY f (a/16) false) N m n
theorem qV1 (n:Nat) (f:Nat→Bool) (σ:Nat→Nat):(v64 (Zd f n)).map (rnV σ 3)=v64 (Zd f n):=ZP (Qp _)
theorem qV2 (n:Nat) (f:Nat→Bool) (p:Nat→Bool):(v64 (Zd f n)).all (okV p 3)=true:=ZE (Qp _)
theorem ZMf (a v:Nat) (zs:List UInt8) (f:Nat→Bool) (N m n:Nat) (h:ArOk zs N m n) (hv:v<4294967296) (ha:a%1=0) (ha2:a+1≤N):ConOk Tryz.prog 42 3 (ZAx 1 a v zs f N m n)∧FlatC (ZAx 1 a v zs f N m n):=by
 obtain⟨hl,h1,h2,h3,h4⟩:=h
 have hg:a/16<m:=by omega
 obtain⟨cv,hcv⟩:=Zhk (a/16) m n f hg h2 h3
 have hr:=sw_1.v a (a/16) v zs f cv N m n
 have e16:(leW 1 v).length=1:=Vs _ _
 simp only[tN,Qr,ZaU,List.drop_zero,e16] at hr
 have ht:List.take 1 (u8s (leW 1 v))=u8s (leW 1 v):=List.take_of_length_le (by rw[W9,e16]; exact Nat.le_refl _)
 have hv1:=qV1 n
 have hv2:=qV2 n
 have hne:Zv (leW 1 v) []=false:=rfl
 simp(disch:=omega) only[XL,Vj,ZaT,Zgw,Zim,ZlQ,tN,Nat.zero_add,Nat.mul_one,ht,hv1] at hr
 refine⟨Qn (Zm (L:=100) Zg (Zn (Zj fun x hx => ?_) (Zf _)) (Zh _) 40) (Zho rfl zs _ f _ N m n) hr ?_ (p:=fun l=>Nat.blt l 68) (σ:=id) (Zb1 (Kx _ _ N m n _ _ rfl rfl rfl rfl rfl (Zak _ _ _ _ rfl (by rw[e16]; omega))) ⟨⟨rfl,Nat.le_refl _⟩,⟨rfl,Nat.le_refl _⟩,trivial⟩),⟨Za7 _ _ _ _ _ _⟩⟩
 ·simp only[swL,List.mem_cons,List.not_mem_nil,or_false] at hx
  rcases hx with rfl|rfl
  ·exact⟨Zmf 1 v (by omega) hv,⟨fun x hx=>by cases hx⟩⟩
  ·exact⟨hcv,ZeQ _ _ _ _ _⟩
 ·simp only[Y6,hl,hv1,hv2,W9,ZaV,ZaW,Qr,e16,QN,ht,hne]
  simp(disch:=omega) only[ZlR,ZdG]
  simp(disch:=omega) only[lR,dF,qT8.v,Bool.true_and,Bool.and_true,cond_true]
  have q2:i64.wrap ((a:Int)+((1:Nat):Int))=((a+1:Nat):Int):=by rw[ZfL,XL _ (by omega)]
  have q3:i64.wrap (((a+1:Nat):Int)-(1:Int))=((a+1-1:Nat):Int):=by rw[show((a+1:Nat):Int)-(1:Int)=((a+1-1:Nat):Int) by omega,XL _ (by omega)]
  have q4:i64.wrap (i64.wrap (((a+1-1:Nat):Int).tdiv 16)+1)=((a/16+1:Nat):Int):=by
   rw[Vj,XL _ (by omega),ZaT,XL _ (by omega)]
   omega
  rw[q2,q3,q4]
  exact⟨rfl,Nat.le_refl _⟩
theorem ZMg (a v:Nat) (zs:List UInt8) (f:Nat→Bool) (N m n:Nat) (h:ArOk zs N m n) (hv:v<4294967296) (ha:a%2=0) (ha2:a+2≤N):ConOk Tryz.prog 42 3 (ZAx 2 a v zs f N m n)∧FlatC (ZAx 2 a v zs f N m n):=by
 obtain⟨hl,h1,h2,h3,h4⟩:=h
 have hg:a/16<m:=by omega
 obtain⟨cv,hcv⟩:=Zhk (a/16) m n f hg h2 h3
 have hr:=sw_2.v a (a/16) v zs f cv N m n
 have e16:(leW 2 v).length=2:=Vs _ _
 simp only[tN,Qr,ZaU,List.drop_zero,e16] at hr
 have ht:List.take 2 (u8s (leW 2 v))=u8s (leW 2 v):=List.take_of_length_le (by rw[W9,e16]; exact Nat.le_refl _)
 have hv1:=qV1 n
 have hv2:=qV2 n
 have hne:Zv (leW 2 v) []=false:=rfl
 simp(disch:=omega) only[XL,Vj,ZaT,Zgw,Zim,ZlQ,tN,Nat.zero_add,Nat.mul_one,ht,hv1] at hr
 refine⟨Qn (Zm (L:=100) Zg (Zn (Zj fun x hx => ?_) (Zf _)) (Zh _) 40) (Zho rfl zs _ f _ N m n) hr ?_ (p:=fun l=>Nat.blt l 68) (σ:=id) (Zb1 (Kx _ _ N m n _ _ rfl rfl rfl rfl rfl (Zak _ _ _ _ rfl (by rw[e16]; omega))) ⟨⟨rfl,Nat.le_refl _⟩,⟨rfl,Nat.le_refl _⟩,trivial⟩),⟨Za7 _ _ _ _ _ _⟩⟩
 ·simp only[swL,List.mem_cons,List.not_mem_nil,or_false] at hx
  rcases hx with rfl|rfl
  ·exact⟨Zmf 2 v (by omega) hv,⟨fun x hx=>by cases hx⟩⟩
  ·exact⟨hcv,ZeQ _ _ _ _ _⟩
 ·simp only[Y6,hl,hv1,hv2,W9,ZaV,ZaW,Qr,e16,QN,ht,hne]
  simp(disch:=omega) only[ZlR,ZdG]
  simp(disch:=omega) only[lR,dF,qT8.v,Bool.true_and,Bool.and_true,cond_true]
  have q2:i64.wrap ((a:Int)+((2:Nat):Int))=((a+2:Nat):Int):=by rw[ZfL,XL _ (by omega)]
  have q3:i64.wrap (((a+2:Nat):Int)-(1:Int))=((a+2-1:Nat):Int):=by rw[show((a+2:Nat):Int)-(1:Int)=((a+2-1:Nat):Int) by omega,XL _ (by omega)]
  have q4:i64.wrap (i64.wrap (((a+2-1:Nat):Int).tdiv 16)+1)=((a/16+1:Nat):Int):=by
   rw[Vj,XL _ (by omega),ZaT,XL _ (by omega)]
   omega
  rw[q2,q3,q4]
  exact⟨rfl,Nat.le_refl _⟩
theorem ZMh (a v:Nat) (zs:List UInt8) (f:Nat→Bool) (N m n:Nat) (h:ArOk zs N m n) (hv:v<4294967296) (ha:a%4=0) (ha2:a+4≤N):ConOk Tryz.prog 42 3 (ZAx 4 a v zs f N m n)∧FlatC (ZAx 4 a v zs f N m n):=by
 obtain⟨hl,h1,h2,h3,h4⟩:=h
 have hg:a/16<m:=by omega
 obtain⟨cv,hcv⟩:=Zhk (a/16) m n f hg h2 h3
 have hr:=sw_4.v a (a/16) v zs f cv N m n
 have e16:(leW 4 v).length=4:=Vs _ _
 simp only[tN,Qr,ZaU,List.drop_zero,e16] at hr
 have ht:List.take 4 (u8s (leW 4 v))=u8s (leW 4 v):=List.take_of_length_le (by rw[W9,e16]; exact Nat.le_refl _)
 have hv1:=qV1 n
 have hv2:=qV2 n
 have hne:Zv (leW 4 v) []=false:=rfl
 simp(disch:=omega) only[XL,Vj,ZaT,Zgw,Zim,ZlQ,tN,Nat.zero_add,Nat.mul_one,ht,hv1] at hr
 refine⟨Qn (Zm (L:=100) Zg (Zn (Zj fun x hx => ?_) (Zf _)) (Zh _) 40) (Zho rfl zs _ f _ N m n) hr ?_ (p:=fun l=>Nat.blt l 68) (σ:=id) (Zb1 (Kx _ _ N m n _ _ rfl rfl rfl rfl rfl (Zak _ _ _ _ rfl (by rw[e16]; omega))) ⟨⟨rfl,Nat.le_refl _⟩,⟨rfl,Nat.le_refl _⟩,trivial⟩),⟨Za7 _ _ _ _ _ _⟩⟩
 ·simp only[swL,List.mem_cons,List.not_mem_nil,or_false] at hx
  rcases hx with rfl|rfl
  ·exact⟨Zmf 4 v (by omega) hv,⟨fun x hx=>by cases hx⟩⟩
  ·exact⟨hcv,ZeQ _ _ _ _ _⟩
 ·simp only[Y6,hl,hv1,hv2,W9,ZaV,ZaW,Qr,e16,QN,ht,hne]
  simp(disch:=omega) only[ZlR,ZdG]
  simp(disch:=omega) only[lR,dF,qT8.v,Bool.true_and,Bool.and_true,cond_true]
  have q2:i64.wrap ((a:Int)+((4:Nat):Int))=((a+4:Nat):Int):=by rw[ZfL,XL _ (by omega)]
  have q3:i64.wrap (((a+4:Nat):Int)-(1:Int))=((a+4-1:Nat):Int):=by rw[show((a+4:Nat):Int)-(1:Int)=((a+4-1:Nat):Int) by omega,XL _ (by omega)]
  have q4:i64.wrap (i64.wrap (((a+4-1:Nat):Int).tdiv 16)+1)=((a/16+1:Nat):Int):=by
   rw[Vj,XL _ (by omega),ZaT,XL _ (by omega)]
   omega
  rw[q2,q3,q4]
  exact⟨rfl,Nat.le_refl _⟩
theorem Zmg (w a v:Nat) (zs:List UInt8) (f:Nat→Bool) (N m n:Nat) (h:ArOk zs N m n) (hw:w=1∨w=2∨w=4) (hv:v<4294967296) (ha:a%w=0) (ha2:a+w≤N):ConOk Tryz.prog 42 3 (ZAx w a v zs f N m n)∧FlatC (ZAx w a v zs f N m n):=by
 rcases hw with rfl|rfl|rfl
 ·exact ZMf a v zs f N m n h hv ha ha2
 ·exact ZMg a v zs f N m n h hv ha ha2
 ·exact ZMh a v zs f N m n h hv ha ha2
def ZAy (a c e b t p y r:Nat) (k:Bool) (zs:List UInt8) (f:Nat→Bool) (N m n:Nat):Con:=Ziq [.pointer (some ⟨67,0,none⟩),.int .u32 (a:Nat),cpV c e b t p y r k] zs (Xt a (cbL c e b t p y r) zs) f (YY f (a/16) (k&&WO e b t p y r)) N m n
theorem Zxh (a c e b t p y r:Nat) (zs:List UInt8) (f:Nat→Bool) (N m n:Nat) (h:ArOk zs N m n) (hcp:CpB c e b t p y r) (ha:a%16=0) (ha2:a+16≤N):ConOk Tryz.prog 44 3 (ZAy a c e b t p y r true zs f N m n)∧FlatC (ZAy a c e b t p y r true zs f N m n):=by
 obtain⟨hl,h1,h2,h3,h4⟩:=h
 have hg:a/16<m:=by omega
 obtain⟨cv,hcv⟩:=Zhk (a/16) m n f hg h2 h3
 have hr:=sc_t.v a (a/16) c e b t p y r zs f cv N m n
 have e16:=Zaq c e b t p y r
 simp only[Qr,ZaU,List.drop_zero,e16] at hr
 have et:(a:Int).tmod (16:Int)=((a%16:Nat):Int):=(Int.ofNat_tmod a 16).symm
 have ht:List.take 16 (u8s (cbL c e b t p y r))=u8s (cbL c e b t p y r):=List.take_of_length_le (by rw[W9,e16]; exact Nat.le_refl _)
 have hv1:=qV1 n
 have hv2:=qV2 n
 simp(disch:=omega) only[XL,Vj,et,ha,ZaT,Zgw,Zim,ZlQ,tN,Nat.zero_add,Nat.mul_one,ht,hv1,ZjB] at hr
 unfold ZAy
 simp only[Bool.true_and,Bool.false_and]
 refine⟨Qn (Zm (L:=100) Zg (Zn (Zj fun x hx => ?_) (Zf _)) (Zh _) 40) (Zho rfl zs _ f _ N m n) hr ?_ (p:=fun l=>Nat.blt l 68) (σ:=id) (Zb1 (Kx _ _ N m n _ _ rfl rfl rfl rfl rfl (Zak _ _ _ _ rfl (by rw[e16]; omega))) ⟨⟨rfl,Nat.le_refl _⟩,⟨rfl,Nat.le_refl _⟩,trivial⟩),⟨Za7 _ _ _ _ _ _⟩⟩
 ·simp only[scL,List.mem_cons,List.not_mem_nil,or_false] at hx
  rcases hx with rfl|rfl|rfl|rfl
  ·exact⟨Zo2 c e b t p y r true hcp,⟨fun x hx=>by cases hx⟩⟩
  ·exact⟨hcv,ZeQ _ _ _ _ _⟩
  ·exact⟨Zt9 c e b t p y r true hcp,⟨fun x hx=>by cases hx⟩⟩
  ·exact⟨ZoT (a/16) m n _ _ hg h2 h3,Zme _ _ _ _ _⟩
 ·simp only[Y6,hl,hv1,hv2,W9,ZaV,ZaW,Qr,e16,QN,ht]
  simp(disch:=omega) only[ZlR,ZdG]
  simp(disch:=omega) only[lR,dF,qT8.v,Bool.true_and,Bool.and_true,cond_true]
  have q1:i64.wrap ((N:Int)-(16:Int))=((N-16:Nat):Int):=by rw[show(N:Int)-(16:Int)=((N-16:Nat):Int) by omega,XL _ (by omega)]
  have q2:i64.wrap ((a:Int)+((16:Nat):Int))=((a+16:Nat):Int):=by rw[ZfL,XL _ (by omega)]
  have q3:i64.wrap (((a+16:Nat):Int)-(1:Int))=((a+15:Nat):Int):=by rw[show((a+16:Nat):Int)-(1:Int)=((a+15:Nat):Int) by omega,XL _ (by omega)]
  have q4:i64.wrap (i64.wrap (((a+15:Nat):Int).tdiv 16)+1)=((a/16+1:Nat):Int):=by
   rw[Vj,XL _ (by omega),ZaT,XL _ (by omega)]
   omega
  rw[q1,q2,q3,q4]
  refine⟨⟨⟨by simp,?_⟩,rfl,Nat.le_refl _⟩,Nat.le_refl _⟩
  rw[Bool.not_eq_false',decide_eq_true_eq]; omega
theorem ZuB (a c e b t p y r:Nat) (zs:List UInt8) (f:Nat→Bool) (N m n:Nat) (h:ArOk zs N m n) (hcp:CpB c e b t p y r) (ha:a%16=0) (ha2:a+16≤N):ConOk Tryz.prog 44 3 (ZAy a c e b t p y r false zs f N m n)∧FlatC (ZAy a c e b t p y r false zs f N m n):=by
 obtain⟨hl,h1,h2,h3,h4⟩:=h
 have hg:a/16<m:=by omega
 obtain⟨cv,hcv⟩:=Zhk (a/16) m n f hg h2 h3
 have hr:=sc_n.v a (a/16) c e b t p y r zs f cv N m n
 have e16:=Zaq c e b t p y r
 simp only[Qr,ZaU,List.drop_zero,e16] at hr
 have et:(a:Int).tmod (16:Int)=((a%16:Nat):Int):=(Int.ofNat_tmod a 16).symm
 have ht:List.take 16 (u8s (cbL c e b t p y r))=u8s (cbL c e b t p y r):=List.take_of_length_le (by rw[W9,e16]; exact Nat.le_refl _)
 have hv1:=qV1 n
 have hv2:=qV2 n
 simp(disch:=omega) only[XL,Vj,et,ha,ZaT,Zgw,Zim,ZlQ,tN,Nat.zero_add,Nat.mul_one,ht,hv1,ZjB] at hr
 unfold ZAy
 simp only[Bool.true_and,Bool.false_and]
 refine⟨Qn (Zm (L:=100) Zg (Zn (Zj fun x hx => ?_) (Zf _)) (Zh _) 40) (Zho rfl zs _ f _ N m n) hr ?_ (p:=fun l=>Nat.blt l 68) (σ:=id) (Zb1 (Kx _ _ N m n _ _ rfl rfl rfl rfl rfl (Zak _ _ _ _ rfl (by rw[e16]; omega))) ⟨⟨rfl,Nat.le_refl _⟩,⟨rfl,Nat.le_refl _⟩,trivial⟩),⟨Za7 _ _ _ _ _ _⟩⟩
 ·simp only[snL,List.mem_cons,List.not_mem_nil,or_false] at hx
  rcases hx with rfl|rfl|rfl
  ·exact⟨Zo2 c e b t p y r false hcp,⟨fun x hx=>by cases hx⟩⟩
  ·exact⟨hcv,ZeQ _ _ _ _ _⟩
  ·exact⟨ZoT (a/16) m n _ _ hg h2 h3,Zme _ _ _ _ _⟩
 ·simp only[Y6,hl,hv1,hv2,W9,ZaV,ZaW,Qr,e16,QN,ht]
  simp(disch:=omega) only[ZlR,ZdG]
  simp(disch:=omega) only[lR,dF,qT8.v,Bool.true_and,Bool.and_true,cond_true]
  have q1:i64.wrap ((N:Int)-(16:Int))=((N-16:Nat):Int):=by rw[show(N:Int)-(16:Int)=((N-16:Nat):Int) by omega,XL _ (by omega)]
  have q2:i64.wrap ((a:Int)+((16:Nat):Int))=((a+16:Nat):Int):=by rw[ZfL,XL _ (by omega)]
  have q3:i64.wrap (((a+16:Nat):Int)-(1:Int))=((a+15:Nat):Int):=by rw[show((a+16:Nat):Int)-(1:Int)=((a+15:Nat):Int) by omega,XL _ (by omega)]
  have q4:i64.wrap (i64.wrap (((a+15:Nat):Int).tdiv 16)+1)=((a/16+1:Nat):Int):=by
   rw[Vj,XL _ (by omega),ZaT,XL _ (by omega)]
   omega
  rw[q1,q2,q3,q4]
  refine⟨⟨⟨by simp,?_⟩,rfl,Nat.le_refl _⟩,Nat.le_refl _⟩
  rw[Bool.not_eq_false',decide_eq_true_eq]; omega
theorem Zo6 (a c e b t p y r:Nat) (k:Bool) (zs:List UInt8) (f:Nat→Bool) (N m n:Nat) (h:ArOk zs N m n) (hcp:CpB c e b t p y r) (ha:a%16=0) (ha2:a+16≤N):ConOk Tryz.prog 44 3 (ZAy a c e b t p y r k zs f N m n)∧FlatC (ZAy a c e b t p y r k zs f N m n):=by
 cases k
 ·exact ZuB a c e b t p y r zs f N m n h hcp ha ha2
 ·exact Zxh a c e b t p y r zs f N m n h hcp ha ha2
def ZkT (w:Nat) (zs:List UInt8) (i:Nat):Nat:=if w=1 then byA zs i else if w=2 then byA zs (i+1)*256+byA zs i else ZFb zs i
def ldWC (w a:Nat) (zs:List UInt8) (f:Nat→Bool) (N m n:Nat):Con:=Zqz [.pointer (some ⟨67,0,none⟩),.int .u32 (a:Nat),.int .i64 (w:Nat)] (.tuple ⟨[.int .u32 (ZkT w zs a:Nat),.bool true]⟩) zs f N m n
theorem ZGo (y:Nat) (h:y<4294967296):bits .or .u32 (0:Int) (y:Int)=(y:Int):=by
 have:=orA 0 y 32 (by omega) (by omega) (by omega)
 rw[Nat.zero_add] at this
 exact this
theorem ZCc (w a:Nat) (zs:List UInt8) (f:Nat→Bool) (N m n:Nat) (h:ArOk zs N m n) (hw:w=1∨w=2∨w=4) (ha2:a+w≤N):ConOk Tryz.prog 30 3 (ldWC w a zs f N m n)∧FlatC (ldWC w a zs f N m n):=by
 obtain⟨hl,h1,h2,h3,h4⟩:=h
 have z0:=J8 zs a
 have z1:=J8 zs (a+1)
 have z2:=J8 zs (a+2)
 have z3:=J8 zs (a+3)
 have v0:=Kw (byA zs a) (by omega)
 have v1:=Kw (byA zs (a+1)) (by omega)
 have v2:=Kw (byA zs (a+2)) (by omega)
 have v3:=Kw (byA zs (a+3)) (by omega)
 have y1:((byA zs (a+1):Nat):Int)*256=((byA zs (a+1)*256:Nat):Int):=by omega
 have y2:((byA zs (a+2):Nat):Int)*65536=((byA zs (a+2)*65536:Nat):Int):=by omega
 have y3:((byA zs (a+3):Nat):Int)*16777216=((byA zs (a+3)*16777216:Nat):Int):=by omega
 have u1:=Kw (byA zs (a+1)*256) (by omega)
 have u2:=Kw (byA zs (a+2)*65536) (by omega)
 have u3:=Kw (byA zs (a+3)*16777216) (by omega)
 have p1:(a:Int)+(1:Int)=((a+1:Nat):Int):=by omega
 have p2:(a:Int)+(2:Int)=((a+2:Nat):Int):=by omega
 have p4:(a:Int)+(4:Int)=((a+4:Nat):Int):=by omega
 have k1:1≤N→(N:Int)-(1:Int)=((N-1:Nat):Int):=by omega
 have k2:2≤N→(N:Int)-(2:Int)=((N-2:Nat):Int):=by omega
 have k4:4≤N→(N:Int)-(4:Int)=((N-4:Nat):Int):=by omega
 rcases hw with rfl|rfl|rfl
 ·have b0:=ZGo (byA zs a) (by omega)
  have hr:=lw_1.v (a:Int) zs f N m n
  simp(disch:=omega) only[XL,p1,k1,tN,Nat.zero_add,Nat.mul_one,Nat.add_zero,Zjd,v0,b0] at hr
  refine VJ (Zm (L:=100) Zg (Zf _) (Zh _) 40) rfl rfl rfl hr ?_
  simp(disch:=omega) only[Y6,Zaj,hl,ZdG,lR,dF,qT8.v,Bool.true_and,Bool.and_true,cond_true]
 ·have b0:=ZGo (byA zs (a+1)*256) (by omega)
  have b1:=orA (byA zs (a+1)*256) (byA zs a) 8 (by omega) (by omega) (by omega)
  have hr:=lw_2.v (a:Int) zs f N m n
  simp(disch:=omega) only[XL,p2,k2,tN,Nat.zero_add,Nat.mul_one,Nat.add_zero,Zjd,v0,v1,y1,u1,b0,b1] at hr
  refine VJ (Zm (L:=100) Zg (Zf _) (Zh _) 40) rfl rfl rfl hr ?_
  simp(disch:=omega) only[Y6,Zaj,hl,ZdG,lR,dF,qT8.v,Bool.true_and,Bool.and_true,cond_true]
 ·have b32:=orA (byA zs (a+3)*16777216) (byA zs (a+2)*65536) 24 (by omega) (by omega) (by omega)
  have b31:=orA (byA zs (a+3)*16777216+byA zs (a+2)*65536) (byA zs (a+1)*256) 16 (by omega) (by omega) (by omega)
  have b30:=orA (byA zs (a+3)*16777216+byA zs (a+2)*65536+byA zs (a+1)*256) (byA zs a) 8 (by omega) (by omega) (by omega)
  have hr:=lw_4.v (a:Int) zs f N m n
  simp(disch:=omega) only[XL,p4,k4,tN,Nat.zero_add,Nat.mul_one,Nat.add_zero,Zjd,v0,v1,v2,v3,y1,y2,y3,u1,u2,u3,b32,b31,b30] at hr
  refine VJ (Zm (L:=100) Zg (Zf _) (Zh _) 40) rfl rfl rfl hr ?_
  simp(disch:=omega) only[Y6,Zaj,hl,ZdG,lR,dF,qT8.v,Bool.true_and,Bool.and_true,cond_true]
def Vb (c:Cp) (need:Nat):Nat:=if c.V=false then 1 else if c.Y≠0 then 2 else if c.P&&&need≠need then 3 else 0
theorem ZGp (p q:Nat) (hp:p<65536) (hq:q<65536):(bits BinOp.and u16 (p:Int) (q:Int) !=(q:Int))=decide (p&&&q≠q):=by
 rw[u16_and_nat p q hp hq,Bool.eq_iff_iff]
 simp<;>omega
theorem Zmh (n:Nat):((n:Int) !=(0:Int))=decide (n≠0):=by
 rw[Bool.eq_iff_iff]; simp<;>omega
theorem Zmi (c:Cp) (need:Nat) (hc:c.Ok) (hn:need<65536):ConOk Tryz.prog 35 3 (Con.pure [c.val,.int .u16 (need:Nat)] (.int .i64 (Vb c need:Nat))):=by
 have hs:=fun {T:List (Nat×Bool)} {v:Value} {q:Prop} (h:obs (evF Tryz.prog Zc Zb 100 20 35 [c.val,.int .u16 (need:Nat)] (stT T))=some (v,q)) (hq:q) (hv:XD v=true)=>Qj (d:=1) (Zm (L:=100) Zg (Zf _) (Zh _) 20) h hq rfl hv
 unfold Vb
 by_cases h1:c.V=false
 ·rw[if_pos h1]; exact hs (jp_t c need) (by rw[h1]; exact⟨trivial,rfl⟩) rfl
 rw[if_neg h1]
 have h1:c.V=true:=by simpa using h1
 by_cases h2:c.Y≠0
 ·rw[if_pos h2]; exact hs (jp_s.v c need) (by rw[h1,Zmh]; exact⟨⟨trivial,rfl⟩,by simpa using h2⟩) rfl
 rw[if_neg h2]
 by_cases h3:c.P&&&need≠need
 ·rw[if_pos h3]; exact hs (jp_p.v c need) (by rw[h1,Zmh,ZGp _ _ hc.2.2.2.2.1 hn]; exact⟨⟨⟨trivial,rfl⟩,by simpa using h2⟩,by simpa using h3⟩) rfl
 ·rw[if_neg h3]; exact hs (jp_o.v c need) (by rw[h1,Zmh,ZGp _ _ hc.2.2.2.2.1 hn]; exact⟨⟨⟨trivial,rfl⟩,by simpa using h2⟩,by simpa using h3⟩) rfl
def V1 (c:Cp) (a w need N:Nat):Nat:=if Vb c need≠0 then Vb c need else if Za1 c.lo c.hi a w=false then 4 else if N<a+w then 4 else if a%w≠0 then 5 else 0
def ZGq (c:Cp) (a w need:Nat) (t:Nat) (zs:List UInt8) (f:Nat→Bool) (N m n:Nat):Con:=Zqz [c.val,.int .u32 (a:Nat),.int .i64 (w:Nat),.int .u16 (need:Nat),.pointer (some ⟨67,0,none⟩)] (.int .i64 (t:Nat)) zs f N m n
theorem Zo7 (c:Cp) (a w need:Nat) (zs:List UInt8) (f:Nat→Bool) (N m n:Nat) (h:ArOk zs N m n) (hc:c.Ok) (hn:need<65536) (ha:a<4294967296) (hw:0<w) (hw2:w≤16):ConOk Tryz.prog 52 3 (ZGq c a w need (V1 c a w need N) zs f N m n)∧FlatC (ZGq c a w need (V1 c a w need N) zs f N m n):=by
 obtain⟨hl,h1,h2,h3,h4⟩:=h
 have hb:∀ x∈wyL c (a:Int) (w:Int) need (Vb c need) (Za1 c.lo c.hi a w),ConOk Tryz.prog x.2.1 3 x.2.2.1∧FlatC x.2.2.1:=fun x hx=>by
  simp only[wyL,List.mem_cons,List.not_mem_nil,or_false] at hx
  rcases hx with rfl|rfl
  ·exact⟨Zmi c need hc hn,⟨fun x hx=>by cases hx⟩⟩
  ·exact⟨ZrU c a w hc ha (by omega),⟨fun x hx=>by cases hx⟩⟩
 have hs:=fun {T:List (Nat×Bool)} {v:Value} {q:Prop} (h:obs (evF Tryz.prog (Zk 3 (Za (wyL c (a:Int) (w:Int) need (Vb c need) (Za1 c.lo c.hi a w))) Zc) Zb 100 20 52 [c.val,.int .u32 (a:Nat),.int .i64 (w:Nat),.int .u16 (need:Nat),.pointer (some ⟨67,0,none⟩)] ⟨68,arW false zs f N m n,arO N n,0,T,0,True⟩)=some (v,q)) (hq:q) (hv:XD v=true) (hu:isU v=false) =>
  VJ (Zm (L:=100) Zg (Zn (Zj hb) (Zf _)) (Zh _) 20) rfl hv hu h hq
 have ew:u32.wrap (w:Int)=(w:Int):=Kw w (by omega)
 have ea:u64.wrap (u64.wrap (a:Int)+u64.wrap (w:Int))=((a+w:Nat):Int):=by rw[ZlV a (by omega),ZlV w (by omega),ZfL,ZlV _ (by omega)]
 have eN:u64.wrap (N:Int)=(N:Int):=ZlV N (by omega)
 have et:(a:Int).tmod (w:Int)=((a%w:Nat):Int):=(Int.ofNat_tmod a w).symm
 have eg:decide (((a+w:Nat):Int)>(N:Int))=decide (N<a+w):=by rw[decide_eq_decide]; omega
 have e0:decide ((w:Int)=0)=false:=dF (by omega)
 unfold V1
 generalize Vb c need=t at *
 generalize Za1 c.lo c.hi a w=hh at *
 by_cases k1:t≠0
 ·rw[if_pos k1]; exact hs (wy_j.v c a w need t hh zs f N m n) (by simp only[Zmh,k1,and_true,true_and,and_self,ne_eq,not_false_eq_true,decide_true]) rfl rfl
 rw[if_neg k1]
 have k1:decide (t≠0)=false:=dF k1
 cases hh
 ·rw[if_pos rfl]; exact hs (wy_h.v c a w need t false zs f N m n) (by simp only[Zmh,k1,ew,Bool.not_false,and_true,true_and,and_self]) rfl rfl
 rw[if_neg (by decide)]
 by_cases k2:N<a+w
 ·rw[if_pos k2]; exact hs (wy_z.v c a w need t true zs f N m n) (by simp only[Zmh,k1,ew,ea,eN,eg,k2,Bool.not_true,and_true,true_and,and_self,decide_true]) rfl rfl
 rw[if_neg k2]
 by_cases k3:a%w≠0
 ·rw[if_pos k3]; exact hs (wy_a.v c a w need t true zs f N m n) (by simp only[Zmh,k1,ew,ea,eN,eg,e0,et,k2,k3,ne_eq,not_false_eq_true,Bool.not_true,Bool.not_false,and_true,true_and,and_self,decide_true,decide_false,cond_true]) rfl rfl
 ·rw[if_neg k3]
  have k3:decide (a%w≠0)=false:=dF k3
  exact hs (wy_o.v c a w need t true zs f N m n) (by simp only[Zmh,k1,ew,ea,eN,eg,e0,et,k2,k3,Bool.not_true,Bool.not_false,and_true,true_and,and_self,decide_true,decide_false,cond_true]) rfl rfl
theorem VK {c:Cp} {a w need N:Nat} (h:V1 c a w need N=0):a+w≤N∧a%w=0∧c.V=true∧c.Y=0∧c.P&&&need=need∧Za1 c.lo c.hi a w=true:=by
 unfold V1 at h
 split at h
 ·exact absurd h (by assumption)
 ·rename_i h0
  have h0:Vb c need=0:=by simpa using h0
  unfold Vb at h0
  split at h0
  ·cases h0
  ·split at h0
   ·cases h0
   ·split at h0
    ·cases h0
    ·split at h
     ·cases h
     ·split at h
      ·cases h
      ·split at h
       ·cases h
       ·simp_all
def ZcP (fr:Nat→Cp) (k:Int):Nat:=(((fr 16).C:Int)+4*k).emod 4294967296 |>.toNat
def Zdm (fr:Nat→Cp) (k:Int):Cp:=ZbV (fr 16) (ZcP fr k)
def Yo (fr:Nat→Cp):Nat→Cp:=frS fr 16 (Zdm fr 1)
theorem ZqH (fr:Nat→Cp) (k:Int):ZcP fr k<4294967296:=by
 unfold ZcP
 have:=Int.emod_lt_of_pos (((fr 16).C:Int)+4*k) (show(0:Int)<4294967296 by omega)
 have:=Int.emod_nonneg (((fr 16).C:Int)+4*k) (show(4294967296:Int)≠0 by omega)
 show((((fr 16).C:Int)+4*k)%4294967296).toNat<_
 omega
theorem ZfR (fr:Nat→Cp) (k:Int) (h:YR fr):ConOk Tryz.prog 34 3 (Con.pure [Xu fr,.int .i64 k] (Zdm fr k).val):=by
 have hr:=fu_a.v fr (Zdm fr k) k (ZcP fr k:Nat)
 refine Qj (d:=1) (Zm (L:=100) Zg (Zn (Zj fun x hx => ?_) (Zf _)) (Zh _) 20) hr ?_ rfl rfl
 ·obtain rfl:=List.mem_singleton.1 hx
  exact⟨ZgI (fr 16) (ZcP fr k) (h 16) (ZqH fr k),⟨fun x hx=>by cases hx⟩⟩
 ·have e:u32.wrap (((fr 16).C:Int)+u32.wrap ((4:Int)*u32.wrap k))=((ZcP fr k:Nat):Int):=by
   unfold ZcP
   show _=((((((fr 16).C:Int)+4*k)%4294967296).toNat:Nat):Int)
   simp only[IntKind.wrap_u32]
   omega
  rw[e]
  simp only[and_true,true_and,and_self]
theorem ZGr (fr:Nat→Cp) (r:Cp):frQ fr r.cs=frL (frS fr 16 r):=by
 have h:=Zo4 fr r 16 (by omega)
 rw[← h]; rfl
theorem Zxi (fr:Nat→Cp) (h:YR fr):ConOk Tryz.prog 26 3 (Con.pure [Xu fr] (Xu (Yo fr))):=by
 have hr:=nx_a.v fr (Zdm fr 1)
 have e:(.agg ⟨frQ fr (Zdm fr 1).cs⟩:Value)=Xu (Yo fr):=by rw[ZGr]; rfl
 refine Qj (d:=1) (Zm (L:=100) Zg (Zn (Zj fun x hx => ?_) (Zf _)) (Zh _) 20) (hr.trans (congrArg (fun v=>some (v,_)) e)) ?_ rfl rfl
 ·obtain rfl:=List.mem_singleton.1 hx
  exact⟨ZfR fr 1 h,⟨fun x hx=>by cases hx⟩⟩
 ·simp only[and_true,true_and,and_self]
def Xp (op:Int):Nat:=if op=17∨op=20 then 1 else if op=18∨op=21 then 2 else if op=19∨op=22 then 4 else if op=23∨op=24 then 16 else 0
theorem ZuC (op:Int):ConOk Tryz.prog 36 3 (Con.pure [.int .i64 op] (.int .i64 (Xp op:Nat))):=by
 have hs:=fun {T:List (Nat×Bool)} {v:Value} {q:Prop} (h:obs (evF Tryz.prog Zc Zb 100 20 36 [.int .i64 op] (stT T))=some (v,q)) (hq:q) (hv:XD v=true)=>Qj (d:=1) (Zm (L:=100) Zg (Zf _) (Zh _) 20) h hq rfl hv
 by_cases h1:op=17
 ·subst h1; exact hs (wd_1.v 17) ⟨⟨trivial,rfl⟩,rfl⟩ rfl
 by_cases h2:op=20
 ·subst h2; exact hs (wd_2.v 20) ⟨⟨trivial,rfl⟩,rfl⟩ rfl
 by_cases h3:op=18
 ·subst h3; exact hs (wd_3.v 18) (by refine⟨⟨⟨⟨trivial,rfl⟩,rfl⟩,rfl⟩,rfl⟩) rfl
 by_cases h4:op=21
 ·subst h4; exact hs (wd_4.v 21) (by refine⟨⟨⟨⟨trivial,rfl⟩,rfl⟩,rfl⟩,rfl⟩) rfl
 by_cases h5:op=19
 ·subst h5; exact hs (wd_5.v 19) (by refine⟨⟨⟨⟨⟨⟨trivial,rfl⟩,rfl⟩,rfl⟩,rfl⟩,rfl⟩,rfl⟩) rfl
 by_cases h6:op=22
 ·subst h6; exact hs (wd_6.v 22) (by refine⟨⟨⟨⟨⟨⟨trivial,rfl⟩,rfl⟩,rfl⟩,rfl⟩,rfl⟩,rfl⟩) rfl
 by_cases h7:op=23
 ·subst h7; exact hs (wd_7.v 23) (by refine⟨⟨⟨⟨⟨⟨⟨⟨trivial,rfl⟩,rfl⟩,rfl⟩,rfl⟩,rfl⟩,rfl⟩,rfl⟩,rfl⟩) rfl
 by_cases h8:op=24
 ·subst h8; exact hs (wd_8.v 24) (by refine⟨⟨⟨⟨⟨⟨⟨⟨trivial,rfl⟩,rfl⟩,rfl⟩,rfl⟩,rfl⟩,rfl⟩,rfl⟩,rfl⟩) rfl
 have e:Xp op=0:=by unfold Xp; simp only[h1,h2,h3,h4,h5,h6,h7,h8,or_self,if_false]
 rw[e]
 refine hs (wd_n.v op) ?_ rfl
 have b:∀ k:Int,¬ op=k→(op==k)=false:=fun k hk=>beq_eq_false_iff_ne.2 hk
 simp only[b _ h1,b _ h2,b _ h3,b _ h4,b _ h5,b _ h6,b _ h7,b _ h8,and_self]
def mvL (nw:Nat) (i:In) (fr:Nat→Cp) (cB:Cp) (w a need t:Nat) (zs:List UInt8) (f:Nat→Bool) (N m n:Nat) (L:Sy.Steps):Sy.Steps:=(73,36,Con.pure [.int .i64 i.op] (.int .i64 (w:Nat)),[])::(nw,52,ZGq cB a w need t zs f N m n,[64,65,66,67])::L
def mvA (fr:Nat→Cp) (i:In):List Value:=[Xu fr,i.val,.pointer (some ⟨67,0,none⟩)]
def ZLJ (a:IntKind) (b:Value):=Value.int a (Qd b)
def ZrW (a:Nat→Cp) (b:Nat):=ZBJ (frL a) b
def ZCe (a:Value):=ZLJ u16 a
def ZnN (a:Value):=ZLJ u32 a
def U4:=ZmH 0
def ZCf (a:Nat→Cp) (b:Nat):=ZnN (ZrW a b)
def KC:=ZLG 0
def ZCg (a:List Value) (b:Nat→Cp) (c:Nat):=Zz a (frL b) c
def Zxj (a:Value):=ZLJ u8 a
def ZuD (a:Value) (b:Int) (c d e f g:Value):=ZB8 a b c d e f g false
def Zda (a:Nat→Cp) (b:Nat) (c:Nat→Cp) (d:Nat) (e f g h i:Value) (j:Bool):=Zhn (ZCf a b) (Zxj (ZrW c d)) e f g h i j
def KV (a:Nat→Cp) (b:Nat):=Qd (ZrW a b)
def ZuE (a:Nat→Cp) (b c:Nat):=ZCe (ZrW a (b+c+1+1))
def ZkU (a b:Int):=UF a (Znl b)
def ZkV (a b c:Bool) (d e:Int) (f:Prop):=ZdJ a b c (ZkU d e) f
def JH (a:Bool) (b c:Int) (d:Bool) (e f:Int) (g:Prop):=ZkV a (ZkU b c) d e f g
def ZuF (a:Nat→Cp) (b c:Nat):=ZuE a (b+c) 1
def ZqI (a:Nat) (b:Nat→Cp) (c:Bool):=WK a (frL b)&&c
def ZqJ (a:Nat→Cp) (b:Nat) (c:Int):=ZkR (KV a b) c
def Zd5 (a:List Value) (b:Value) (c:Prop):=UK (ZaJ a) b c
def ZqK (a:Nat) (b c:Nat→Cp) (d:Nat):=ZqI a b (ZCg (ZuD KC 0 U4 U4 U4 U4 KC) c d)
def ZnO (a:Nat) (b c:Nat→Cp) (d:Nat) (e f:Int) (g:Bool) (h i:Int) (j:Prop):=JH (ZqK a b c d) e f g h i j
def ZuG (a:Nat→Cp) (b c:Nat):=ZuF a (b+c) 1
def ZuH (a:Nat) (b c:Nat→Cp) (d:Nat) (e f:Int) (g:Bool) (h i:Int) (j:Prop):=XQ (ZnO a b c d e f g h i True) j
def WQ (a:Nat→Cp) (b c:Nat):=ZCf a (b+c)
def ZkW (a:Nat→Cp) (b c:Nat):=Z0 (ZrW a (b+c))
def VL (a:Nat→Cp) (b:Nat):=ZkW a (0+b*8+1+1+1+1+1+1) 1
def Zdb (a:Nat→Cp) (b:Nat):=ZuE a 0 (b*8)
def Zdc (a:Nat→Cp) (b:Nat):=ZuF a 0 (b*8)
def Zdd (a:Nat→Cp) (b:Nat):=ZuG a 0 (b*8)
def Zde (a:Nat→Cp) (b:Nat):=ZuG a (0+b*8) 1
def Zdf (a:Nat→Cp) (b:Nat):=WQ a (0+b*8+1+1+1+1+1) 1
def Zfe (a:List Value) (b:Nat) (c:Prop):=Zd5 a (Z1 b) c
def V2 (a:Nat→Cp) (b:Nat) (c:Int) (d:Nat):=Zao (ZqJ a b c) d
def ZuI (a:Prop) (b:Nat→Cp) (c:Nat) (d:Int) (e:Nat) (f g h:Prop):=Za0 a (V2 b c d e) f g h
def JI:=ZmH 1
def Zff (a:Value) (b:Int):=ZuD a b U4 U4 U4 U4 KC
def ZnP:=Zff KC 0
def ZuJ (a b:Prop):=Y5 (a∧b)
def UM (a:Nat) (b:Prop):=Zfe ZnP a b
def ZgR (a:Value) (b:Nat):=a=Z1 b
def ZqL (a b c d e:Prop):=Vl (ZkO a a a b) (ZkO a a a c) d e
def WF (a:Nat) (b:Nat→Cp) (c:Nat):=ZqK a b b c
def WR (a:Int):=ZhU a a
def Xc (a:Nat):=ZgR (Z1 a) a
def Zmj (a b:Nat):=Zux a b (ZkF a b)
def Yq:=QR QG
def Zmk (a:Nat):=ZgD (Zqb a)
def Kd (a:List UInt8) (b:Nat→Bool) (c:Nat) (d:List Nat):=ZgK a b Ze Ze Ze a (ZgJ 68 c d a)
def XG (a:Prop):=ZuJ a Ze
def YK (a b c:Nat) (d:Prop) (e:List UInt8) (f:Nat→Bool) (g:Nat) (h:List Nat):=ZqL Ze (Zmk a) (Zmj b c) d (Kd e f g h)
def Vc (a:Prop) (b:Nat→Cp) (c:Nat) (d:Int) (e:Nat) (f:Prop) (g:Value) (h:Prop):=ZuI a b c d e f (QR g) h
def Yd (a:Nat) (b:Nat→Cp) (c:Nat) (d:Int) (e f:Nat) (g:Int) (h:Prop):=ZuH a b b c d d (WF e b f) g g h
def Zo8 (a:Nat→Cp) (b c d:Nat) (e:Nat→Cp) (f:Nat) (g:Nat→Cp) (h:Nat):=ZaJ (Zda a b a c (Zdb a d) (Zdc a d) (Zdd a d) (Zde a d) (Zdf e f) (VL g h))
def ZI (a:Nat→Cp) (b c d:Nat):=Zo8 a b c d a d a d
def ZA:=Bx.mk (aI @ZLJ.eq_1 (aI @ZrW.eq_1 (aI @ZCe.eq_1 (aI @ZnN.eq_1 (aI @U4.eq_1 (aI @ZCf.eq_1 (aI @KC.eq_1 (aI @ZCg.eq_1 (aI @Zxj.eq_1 (aI @ZuD.eq_1 (aI @Zda.eq_1 (aI @KV.eq_1 (aI @ZuE.eq_1 (aI @ZkU.eq_1 (aI @ZkV.eq_1 (aI @JH.eq_1 (aI @ZuF.eq_1 (aI @ZqI.eq_1 (aI @ZqJ.eq_1 (aI @Zd5.eq_1 (aI @ZqK.eq_1 (aI @ZnO.eq_1 (aI @ZuG.eq_1 (aI @ZuH.eq_1 (aI @WQ.eq_1 (aI @ZkW.eq_1 (aI @VL.eq_1 (aI @Zdb.eq_1 (aI @Zdc.eq_1 (aI @Zdd.eq_1 (aI @Zde.eq_1 (aI @Zdf.eq_1 (aI @Zfe.eq_1 (aI @V2.eq_1 (aI @ZuI.eq_1 (aI @JI.eq_1 (aI @Zff.eq_1 (aI @ZnP.eq_1 (aI @ZuJ.eq_1 (aI @UM.eq_1 (aI @ZgR.eq_1 (aI @ZqL.eq_1 (aI @WF.eq_1 (aI @WR.eq_1 (aI @Xc.eq_1 (aI @Zmj.eq_1 (aI @Yq.eq_1 (aI @Zmk.eq_1 (aI @Kd.eq_1 (aI @XG.eq_1 (aI @YK.eq_1 (aI @Vc.eq_1 (aI @Yd.eq_1 (aI @Zo8.eq_1 @ZI.eq_1))))))))))))))))))))))))))))))))))))))))))))))))))))))
theorem ZCd (i:In) (fr:Nat→Cp) (cB:Cp) (w:Nat) (a:Nat) (t:Nat) (zs:List UInt8) (f:Nat→Bool) (N:Nat) (m:Nat) (n:Nat):obs (evF Tryz.prog (Zk 3 (Za (mvL 74 i fr cB w a 1 t zs f N m n [])) Zc) Zb 100 20 37 (mvA fr i) (KT zs f N m n N n 7 65))=UM t (Qz (V0 (XG (Yd (0+i.b.toNat*8+8) fr (0+i.b.toNat*8) i.b (0+i.a.toNat*8+8) (0+i.a.toNat*8) i.a (WR i.op))) (W3 i.op) (Wp i.op) (KU i.op) i.op 22) (Vc (ZM (ZI fr (0+i.b.toNat*8) (0+i.b.toNat*8+1) i.b.toNat) cB.C cB.E cB.B cB.T cB.P cB.Y cB.R cB.V) fr (0+i.b.toNat*8) i.m a (Xc w) JI Yq) (YK N m n (QP f n (fun l=>l.blt 68) 74) zs (fun l=>l.blt 68) 74 [64,65,66,67]) n N∧YS t=true):=by kernel_rfl
def ZMi:=Bx.mk (by have h:=@ZCd;simp(maxSteps:=99999999) only[Zx.v,ZF.v,ZD.v,ZO.v,ZU.v,YA.v,ZR.v,Zp.v,Zw.v,ZH.v,Zl.v,Zo.v,Zq.v,Zy.v,Ym.v,Z2.v,Z5.v,ZcO.v,ZgQ.v,Zdl.v,Zd4.v,ZA.v,-eq_self] at h;exact h)
def Uk:=ZmH 2
def ZeV:=Bx.mk @Uk.eq_1
theorem Zxk (i:In) (fr:Nat→Cp) (cB:Cp) (w:Nat) (a:Nat) (t:Nat) (zs:List UInt8) (f:Nat→Bool) (N:Nat) (m:Nat) (n:Nat):obs (evF Tryz.prog (Zk 3 (Za (mvL 75 i fr cB w a 2 t zs f N m n [])) Zc) Zb 100 20 37 (mvA fr i) (KT zs f N m n N n 8 185))=UM t (Qz (XG (KP (XG (Yd (0+i.b.toNat*8+8) fr (0+i.b.toNat*8) i.b (0+i.a.toNat*8+8) (0+i.a.toNat*8) i.a (WR i.op))) (W3 i.op) (Wp i.op=true)∧Wp i.op=true)) (Vc (ZM (ZI fr (0+i.b.toNat*8) (0+i.b.toNat*8+1) i.b.toNat) cB.C cB.E cB.B cB.T cB.P cB.Y cB.R cB.V) fr (0+i.b.toNat*8) i.m a (Xc w) Uk Yq) (YK N m n (QP f n (fun l=>l.blt 68) 75) zs (fun l=>l.blt 68) 75 [64,65,66,67]) n N∧YS t=true):=by kernel_rfl
def ZGs:=Bx.mk (by have h:=@Zxk;simp(maxSteps:=99999999) only[Zx.v,ZF.v,ZD.v,ZO.v,ZU.v,YA.v,ZR.v,Zp.v,Zw.v,ZH.v,Zl.v,Zo.v,Zq.v,Zy.v,Ym.v,Z2.v,Z5.v,ZcO.v,Zd4.v,ZA.v,ZeV.v,-eq_self] at h;exact h)
theorem Zxl (i:In) (fr:Nat→Cp) (cB:Cp) (w:Nat) (a:Nat) (t:Nat) (zs:List UInt8) (f:Nat→Bool) (N:Nat) (m:Nat) (n:Nat):obs (evF Tryz.prog (Zk 3 (Za (mvL 75 i fr cB w a 2 t zs f N m n [])) Zc) Zb 100 20 37 (mvA fr i) (KT zs f N m n N n 9 369))=UM t (Qz (XG ((J5 (XG (Yd (0+i.b.toNat*8+8) fr (0+i.b.toNat*8) i.b (0+i.a.toNat*8+8) (0+i.a.toNat*8) i.a (WR i.op))) (W3 i.op) (Wp i.op)∧KU i.op=true)∧KU i.op=true)) (Vc (ZM (ZI fr (0+i.b.toNat*8) (0+i.b.toNat*8+1) i.b.toNat) cB.C cB.E cB.B cB.T cB.P cB.Y cB.R cB.V) fr (0+i.b.toNat*8) i.m a (Xc w) Uk Yq) (YK N m n (QP f n (fun l=>l.blt 68) 75) zs (fun l=>l.blt 68) 75 [64,65,66,67]) n N∧YS t=true):=by kernel_rfl
def ZGt:=Bx.mk (by have h:=@Zxl;simp(maxSteps:=99999999) only[Zx.v,ZF.v,ZD.v,ZO.v,ZU.v,YA.v,ZR.v,Zp.v,Zw.v,ZH.v,Zl.v,Zo.v,Zq.v,Zy.v,Ym.v,Z2.v,Z5.v,ZcO.v,ZgQ.v,Zd4.v,ZA.v,ZeV.v,-eq_self] at h;exact h)
theorem Zxm (i:In) (fr:Nat→Cp) (cB:Cp) (w:Nat) (a:Nat) (t:Nat) (zs:List UInt8) (f:Nat→Bool) (N:Nat) (m:Nat) (n:Nat):obs (evF Tryz.prog (Zk 3 (Za (mvL 75 i fr cB w a 2 t zs f N m n [])) Zc) Zb 100 20 37 (mvA fr i) (KT zs f N m n N n 9 353))=UM t (Qz (XG (ZdF (XG (Yd (0+i.b.toNat*8+8) fr (0+i.b.toNat*8) i.b (0+i.a.toNat*8+8) (0+i.a.toNat*8) i.a (WR i.op))) (W3 i.op) (Wp i.op) (KU i.op)∧ZQ i.op 22=true)) (Vc (ZM (ZI fr (0+i.b.toNat*8) (0+i.b.toNat*8+1) i.b.toNat) cB.C cB.E cB.B cB.T cB.P cB.Y cB.R cB.V) fr (0+i.b.toNat*8) i.m a (Xc w) Uk Yq) (YK N m n (QP f n (fun l=>l.blt 68) 75) zs (fun l=>l.blt 68) 75 [64,65,66,67]) n N∧YS t=true):=by kernel_rfl
def ZGu:=Bx.mk (by have h:=@Zxm;simp(maxSteps:=99999999) only[Zx.v,ZF.v,ZD.v,ZO.v,ZU.v,YA.v,ZR.v,Zp.v,Zw.v,ZH.v,Zl.v,Zo.v,Zq.v,Zy.v,Ym.v,Z2.v,Z5.v,ZcO.v,ZgQ.v,Zd4.v,ZA.v,ZeV.v,-eq_self] at h;exact h)
theorem ZCh (i:In) (fr:Nat→Cp) (cB:Cp) (w:Nat) (a:Nat) (t:Nat) (zs:List UInt8) (f:Nat→Bool) (N:Nat) (m:Nat) (n:Nat):obs (evF Tryz.prog (Zk 3 (Za (mvL 76 i fr cB w a 18 t zs f N m n [])) Zc) Zb 100 20 37 (mvA fr i) (KT zs f N m n N n 10 749))=UM t (Qz (Y5 (Zmd (ZdW (ZL (Yd (0+i.b.toNat*8+8) fr (0+i.b.toNat*8) i.b (0+i.a.toNat*8+8) (0+i.a.toNat*8) i.a (WR i.op))) (W3 i.op=true) Ze) (VL fr i.a.toNat=true) Ze)) (Vc (ZM (ZI fr (0+i.b.toNat*8) (0+i.b.toNat*8+1) i.b.toNat) cB.C cB.E cB.B cB.T cB.P cB.Y cB.R cB.V) fr (0+i.b.toNat*8) i.m a (Xc w) (ZmH 18) Yq) (YK N m n (QP f n (fun l=>l.blt 68) 76) zs (fun l=>l.blt 68) 76 [64,65,66,67]) n N∧YS t=true):=by kernel_rfl
def ZMj:=Bx.mk (by have h:=@ZCh;simp(maxSteps:=99999999) only[Zx.v,ZF.v,ZD.v,ZO.v,ZU.v,YA.v,ZR.v,Zp.v,Zw.v,ZH.v,Zl.v,Zo.v,Zq.v,Zy.v,Ym.v,Z2.v,Z5.v,Zd4.v,ZA.v,-eq_self] at h;exact h)
theorem ZCi (i:In) (fr:Nat→Cp) (cB:Cp) (w:Nat) (a:Nat) (t:Nat) (zs:List UInt8) (f:Nat→Bool) (N:Nat) (m:Nat) (n:Nat):obs (evF Tryz.prog (Zk 3 (Za (mvL 75 i fr cB w a 2 t zs f N m n [])) Zc) Zb 100 20 37 (mvA fr i) (KT zs f N m n N n 7 77))=UM t (Qz (QF (Y5 (ZdW (ZL (Yd (0+i.b.toNat*8+8) fr (0+i.b.toNat*8) i.b (0+i.a.toNat*8+8) (0+i.a.toNat*8) i.a (WR i.op))) (W3 i.op=true) Ze)) (VL fr i.a.toNat)) (Vc (ZM (ZI fr (0+i.b.toNat*8) (0+i.b.toNat*8+1) i.b.toNat) cB.C cB.E cB.B cB.T cB.P cB.Y cB.R cB.V) fr (0+i.b.toNat*8) i.m a (Xc w) Uk Yq) (YK N m n (QP f n (fun l=>l.blt 68) 75) zs (fun l=>l.blt 68) 75 [64,65,66,67]) n N∧YS t=true):=by kernel_rfl
def ZMk:=Bx.mk (by have h:=@ZCi;simp(maxSteps:=99999999) only[Zx.v,ZF.v,ZD.v,ZO.v,ZU.v,YA.v,ZR.v,Zp.v,Zw.v,ZH.v,Zl.v,Zo.v,Zq.v,Zy.v,Ym.v,Z2.v,Z5.v,Zd4.v,ZA.v,ZeV.v,-eq_self] at h;exact h)
def ZnQ (a:List Value) (b:Prop):=Zd5 a Yk b
def ZhY (a:Nat) (b:Int):=ZB9 a b U4 U4 U4 U4 KC false
def Zdn:=Bx.mk (aI @ZnQ.eq_1 @ZhY.eq_1)
theorem ZCj (i:In) (fr:Nat→Cp) (cB:Cp) (w:Nat) (a:Nat) (t:Nat) (zs:List UInt8) (f:Nat→Bool) (N:Nat) (m:Nat) (n:Nat) (v:Nat):obs (evF Tryz.prog (Zk 3 (Za (mvL 74 i fr cB w a 1 t zs f N m n [(74,30,Zqz (Vm QG a (Z1 w)) (ZfK [ZX v,QB]) zs f N m n,[64,65,66,67])])) Zc) Zb 100 20 37 (mvA fr i) (KT zs f N m n N n 12 1))=ZnQ (ZhY v 0) (Qz (V0 (J5 (Qz (V0 (XG (Yd (0+i.b.toNat*8+8) fr (0+i.b.toNat*8) i.b (0+i.a.toNat*8+8) (0+i.a.toNat*8) i.a (WR i.op))) (W3 i.op) (Wp i.op) (KU i.op) i.op 22) (Vc (ZM (ZI fr (0+i.b.toNat*8) (0+i.b.toNat*8+1) i.b.toNat) cB.C cB.E cB.B cB.T cB.P cB.Y cB.R cB.V) fr (0+i.b.toNat*8) i.m a (Xc w) JI Yq) (YK N m n (QP f n (fun l=>l.blt 68) 74) zs (fun l=>l.blt 68) 74 [64,65,66,67]) n N) (YS t) (W3 i.op)) (Wp i.op) (KU i.op) (ZQ i.op 22) i.op 23) (X4 Yq (V2 fr (0+i.b.toNat*8) i.m a) (Xc w)) (YK N m n (QP f n (fun l=>l.blt 68) 74) zs (fun l=>l.blt 68) 74 [64,65,66,67]) n N):=by kernel_rfl
def ZMl:=Bx.mk (by have h:=@ZCj;simp(maxSteps:=99999999) only[Zx.v,ZF.v,ZD.v,ZO.v,ZU.v,YA.v,ZR.v,Zp.v,Zw.v,ZH.v,Zl.v,Zo.v,Zq.v,Zy.v,Ym.v,Z2.v,Z5.v,ZcO.v,ZgQ.v,Zdl.v,Zd4.v,ZA.v,Zdn.v,-eq_self] at h;exact h)
def Zd6 (a:Value) (b:Prop):=UK a Yk b
def Zd7:=Bx.mk @Zd6.eq_1
theorem ZCk (i:In) (fr:Nat→Cp) (cB:Cp) (w:Nat) (a:Nat) (t:Nat) (zs:List UInt8) (f:Nat→Bool) (N:Nat) (m:Nat) (n:Nat) (cL:Cp):obs (evF Tryz.prog (Zk 3 (Za (mvL 74 i fr cB w a 1 t zs f N m n [(74,48,Zqz [QG,ZX a] (ZfK [cL.val,QB]) zs f N m n,[64,65,66,67])])) Zc) Zb 100 20 37 (mvA fr i) (KT zs f N m n N n 17 129025))=Zd6 (Z6 cL.C cL.E cL.B cL.T cL.P cL.Y cL.R (ZjC (KV fr (0+i.b.toNat*8+1+1+1+1)) (8:Int) !=Zr)) (((((Qz (KP (V0 (Qz (V0 (XG (Yd (0+i.b.toNat*8+8) fr (0+i.b.toNat*8) i.b (0+i.a.toNat*8+8) (0+i.a.toNat*8) i.a (WR i.op))) (W3 i.op) (Wp i.op) (KU i.op) i.op 22) (Vc (ZM (ZI fr (0+i.b.toNat*8) (0+i.b.toNat*8+1) i.b.toNat) cB.C cB.E cB.B cB.T cB.P cB.Y cB.R cB.V) fr (0+i.b.toNat*8) i.m a (Xc w) JI Yq) (YK N m n (QP f n (fun l=>l.blt 68) 74) zs (fun l=>l.blt 68) 74 [64,65,66,67]) n N) (YS t) (W3 i.op) (Wp i.op) i.op 21) (ZQ i.op 22) (ZQ i.op 23=true)) (JO Yq (V2 fr (0+i.b.toNat*8) i.m a)) (YK N m n (QP f n (fun l=>l.blt 68) 74) zs (fun l=>l.blt 68) 74 [64,65,66,67]) n N∧cL.V=true)∧cL.V=true)∧cL.V=true)∧cL.V=true)∧cL.V=true):=by kernel_rfl
def ZMm:=Bx.mk (by have h:=@ZCk;simp(maxSteps:=99999999) only[Zx.v,ZF.v,V7.v,ZD.v,ZO.v,ZU.v,YA.v,ZR.v,Zp.v,Zw.v,ZH.v,Zl.v,Zo.v,Zq.v,Zy.v,Ym.v,Zb2.v,Z2.v,Z5.v,ZcO.v,ZgQ.v,Zdl.v,Zd4.v,ZA.v,Zd7.v,-eq_self] at h;exact h)
def ZkX (a:Prop) (b c:Bool):=ZjE a b c c
def Ya (a:Prop) (b:Bool):=ZkX a b b
def Xy:=Bx.mk (aI @ZkX.eq_1 @Ya.eq_1)
theorem ZCl (i:In) (fr:Nat→Cp) (cB:Cp) (w:Nat) (a:Nat) (t:Nat) (zs:List UInt8) (f:Nat→Bool) (N:Nat) (m:Nat) (n:Nat) (cL:Cp):obs (evF Tryz.prog (Zk 3 (Za (mvL 74 i fr cB w a 1 t zs f N m n [(74,48,Zqz [QG,ZX a] (ZfK [cL.val,QB]) zs f N m n,[64,65,66,67])])) Zc) Zb 100 20 37 (mvA fr i) (KT zs f N m n N n 17 2049))=Zd6 (Z6 cL.C cL.E cL.B cL.T cL.P cL.Y cL.R false) (QF (Ya (Qz (KP (V0 (Qz (V0 (XG (Yd (0+i.b.toNat*8+8) fr (0+i.b.toNat*8) i.b (0+i.a.toNat*8+8) (0+i.a.toNat*8) i.a (WR i.op))) (W3 i.op) (Wp i.op) (KU i.op) i.op 22) (Vc (ZM (ZI fr (0+i.b.toNat*8) (0+i.b.toNat*8+1) i.b.toNat) cB.C cB.E cB.B cB.T cB.P cB.Y cB.R cB.V) fr (0+i.b.toNat*8) i.m a (Xc w) JI Yq) (YK N m n (QP f n (fun l=>l.blt 68) 74) zs (fun l=>l.blt 68) 74 [64,65,66,67]) n N) (YS t) (W3 i.op) (Wp i.op) i.op 21) (ZQ i.op 22) (ZQ i.op 23=true)) (JO Yq (V2 fr (0+i.b.toNat*8) i.m a)) (YK N m n (QP f n (fun l=>l.blt 68) 74) zs (fun l=>l.blt 68) 74 [64,65,66,67]) n N) cL.V) cL.V):=by kernel_rfl
def ZMn:=Bx.mk (by have h:=@ZCl;simp(maxSteps:=99999999) only[Zx.v,ZF.v,ZD.v,ZO.v,ZU.v,YA.v,ZR.v,Zp.v,Zw.v,ZH.v,Zl.v,Zo.v,Zq.v,Zy.v,Ym.v,Z2.v,Xm.v,Z5.v,ZcO.v,ZgQ.v,Zdl.v,Zd4.v,ZA.v,Zd7.v,Xy.v,-eq_self] at h;exact h)
def Vo (a:Nat→Cp) (b c d:Nat):=Zao (WQ a b c) d
def Zhp:=Bx.mk @Vo.eq_1
theorem Zxn (i:In) (fr:Nat→Cp) (cB:Cp) (w:Nat) (a:Nat) (t:Nat) (zs:List UInt8) (f:Nat→Bool) (N:Nat) (m:Nat) (n:Nat) (v:Nat) (zs2:List UInt8) (f2:Nat→Bool):evF Tryz.prog (Zk 3 (Za (mvL 75 i fr cB w a 2 t zs f N m n [(75,42,Ziq [QG,ZX a,Z1 w,ZX v] zs zs2 f f2 N m n,[64,65,66,67])])) Zc) Zb 100 20 37 (mvA fr i) (ZbX (arW true zs f N m n) N n 11 1593)=JD [ZI fr (0+i.a.toNat*8) (0+i.a.toNat*8+1) i.a.toNat,Yk] 75 [(67,ZbO N),(66,Zc4 m n),(65,Jo 65 f2 n),(64,KS zs2)] [(65,n),(64,N),(65,n),(64,N)] 11 (Qz ((J5 (Qz (XG (KP (XG (Yd (0+i.b.toNat*8+8) fr (0+i.b.toNat*8) i.b (0+i.a.toNat*8+8) (0+i.a.toNat*8) i.a (WR i.op))) (W3 i.op) (Wp i.op=true)∧Wp i.op=true)) (Vc (ZM (ZI fr (0+i.b.toNat*8) (0+i.b.toNat*8+1) i.b.toNat) cB.C cB.E cB.B cB.T cB.P cB.Y cB.R cB.V) fr (0+i.b.toNat*8) i.m a (Xc w) Uk Yq) (YK N m n (QP f n (fun l=>l.blt 68) 75) zs (fun l=>l.blt 68) 75 [64,65,66,67]) n N) (YS t) (W3 i.op)∧Wp i.op=true)∧Wp i.op=true) (Vl Yq (V2 fr (0+i.b.toNat*8) i.m a) (Xc w) (Vo fr 0 (i.a.toNat*8) v)) (YK N m n (QP f n (fun l=>l.blt 68) 75) zs (fun l=>l.blt 68) 75 [64,65,66,67]) n N):=by kernel_rfl
def ZGv:=Bx.mk (by have h:=@Zxn;simp(maxSteps:=99999999) only[Zx.v,ZF.v,ZD.v,ZO.v,ZU.v,YA.v,ZR.v,Ud.v,Zp.v,Zw.v,ZH.v,Zl.v,Zo.v,Zy.v,Ym.v,Z2.v,Z5.v,ZcO.v,Zd4.v,ZA.v,ZeV.v,Zhp.v,-eq_self] at h;exact h)
theorem Zxo (i:In) (fr:Nat→Cp) (cB:Cp) (w:Nat) (a:Nat) (t:Nat) (zs:List UInt8) (f:Nat→Bool) (N:Nat) (m:Nat) (n:Nat) (v:Nat) (zs2:List UInt8) (f2:Nat→Bool):evF Tryz.prog (Zk 3 (Za (mvL 75 i fr cB w a 2 t zs f N m n [(75,42,Ziq [QG,ZX a,Z1 w,ZX v] zs zs2 f f2 N m n,[64,65,66,67])])) Zc) Zb 100 20 37 (mvA fr i) (ZbX (arW true zs f N m n) N n 13 6257)=JD [ZI fr (0+i.a.toNat*8) (0+i.a.toNat*8+1) i.a.toNat,Yk] 75 [(67,ZbO N),(66,Zc4 m n),(65,Jo 65 f2 n),(64,KS zs2)] [(65,n),(64,N),(65,n),(64,N)] 13 (Qz ((ZdF (Qz (XG ((J5 (XG (Yd (0+i.b.toNat*8+8) fr (0+i.b.toNat*8) i.b (0+i.a.toNat*8+8) (0+i.a.toNat*8) i.a (WR i.op))) (W3 i.op) (Wp i.op)∧KU i.op=true)∧KU i.op=true)) (Vc (ZM (ZI fr (0+i.b.toNat*8) (0+i.b.toNat*8+1) i.b.toNat) cB.C cB.E cB.B cB.T cB.P cB.Y cB.R cB.V) fr (0+i.b.toNat*8) i.m a (Xc w) Uk Yq) (YK N m n (QP f n (fun l=>l.blt 68) 75) zs (fun l=>l.blt 68) 75 [64,65,66,67]) n N) (YS t) (W3 i.op) (Wp i.op)∧KU i.op=true)∧KU i.op=true) (Vl Yq (V2 fr (0+i.b.toNat*8) i.m a) (Xc w) (Vo fr 0 (i.a.toNat*8) v)) (YK N m n (QP f n (fun l=>l.blt 68) 75) zs (fun l=>l.blt 68) 75 [64,65,66,67]) n N):=by kernel_rfl
def ZGw:=Bx.mk (by have h:=@Zxo;simp(maxSteps:=99999999) only[Zx.v,ZF.v,ZD.v,ZO.v,ZU.v,YA.v,ZR.v,Ud.v,Zp.v,Zw.v,ZH.v,Zl.v,Zo.v,Zy.v,Ym.v,Z2.v,Z5.v,ZcO.v,ZgQ.v,Zd4.v,ZA.v,ZeV.v,Zhp.v,-eq_self] at h;exact h)
theorem Zxp (i:In) (fr:Nat→Cp) (cB:Cp) (w:Nat) (a:Nat) (t:Nat) (zs:List UInt8) (f:Nat→Bool) (N:Nat) (m:Nat) (n:Nat) (v:Nat) (zs2:List UInt8) (f2:Nat→Bool):evF Tryz.prog (Zk 3 (Za (mvL 75 i fr cB w a 2 t zs f N m n [(75,42,Ziq [QG,ZX a,Z1 w,ZX v] zs zs2 f f2 N m n,[64,65,66,67])])) Zc) Zb 100 20 37 (mvA fr i) (ZbX (arW true zs f N m n) N n 13 4193)=JD [ZI fr (0+i.a.toNat*8) (0+i.a.toNat*8+1) i.a.toNat,Yk] 75 [(67,ZbO N),(66,Zc4 m n),(65,Jo 65 f2 n),(64,KS zs2)] [(65,n),(64,N),(65,n),(64,N)] 13 (Qz (V0 (Qz (XG (ZdF (XG (Yd (0+i.b.toNat*8+8) fr (0+i.b.toNat*8) i.b (0+i.a.toNat*8+8) (0+i.a.toNat*8) i.a (WR i.op))) (W3 i.op) (Wp i.op) (KU i.op)∧ZQ i.op 22=true)) (Vc (ZM (ZI fr (0+i.b.toNat*8) (0+i.b.toNat*8+1) i.b.toNat) cB.C cB.E cB.B cB.T cB.P cB.Y cB.R cB.V) fr (0+i.b.toNat*8) i.m a (Xc w) Uk Yq) (YK N m n (QP f n (fun l=>l.blt 68) 75) zs (fun l=>l.blt 68) 75 [64,65,66,67]) n N) (YS t) (W3 i.op) (Wp i.op) i.op 21∧ZQ i.op 22=true) (Vl Yq (V2 fr (0+i.b.toNat*8) i.m a) (Xc w) (Vo fr 0 (i.a.toNat*8) v)) (YK N m n (QP f n (fun l=>l.blt 68) 75) zs (fun l=>l.blt 68) 75 [64,65,66,67]) n N):=by kernel_rfl
def ZGx:=Bx.mk (by have h:=@Zxp;simp(maxSteps:=99999999) only[Zx.v,ZF.v,ZD.v,ZO.v,ZU.v,YA.v,ZR.v,Ud.v,Zp.v,Zw.v,ZH.v,Zl.v,Zo.v,Zy.v,Ym.v,Z2.v,Z5.v,ZcO.v,ZgQ.v,Zdl.v,Zd4.v,ZA.v,ZeV.v,Zhp.v,-eq_self] at h;exact h)
theorem ZCm (i:In) (fr:Nat→Cp) (cB:Cp) (w:Nat) (a:Nat) (t:Nat) (zs:List UInt8) (f:Nat→Bool) (N:Nat) (m:Nat) (n:Nat) (cA:Cp) (zs2:List UInt8) (f2:Nat→Bool):evF Tryz.prog (Zk 3 (Za (mvL 76 i fr cB w a 18 t zs f N m n [(76,44,Ziq (Vm QG a cA.val) zs zs2 f f2 N m n,[64,65,66,67])])) Zc) Zb 100 20 37 (mvA fr i) (ZbX (arW true zs f N m n) N n 11 1261)=JD [ZI fr (0+i.a.toNat*8) (0+i.a.toNat*8+1) i.a.toNat,Yk] 76 [(67,ZbO N),(66,Zc4 m n),(65,Jo 65 f2 n),(64,KS zs2)] [(65,n),(64,N),(65,n),(64,N)] 11 (Qz (VA (Qz (Y5 (Zmd (ZdW (ZL (Yd (0+i.b.toNat*8+8) fr (0+i.b.toNat*8) i.b (0+i.a.toNat*8+8) (0+i.a.toNat*8) i.a (WR i.op))) (W3 i.op=true) Ze) (VL fr i.a.toNat=true) Ze)) (Vc (ZM (ZI fr (0+i.b.toNat*8) (0+i.b.toNat*8+1) i.b.toNat) cB.C cB.E cB.B cB.T cB.P cB.Y cB.R cB.V) fr (0+i.b.toNat*8) i.m a (Xc w) (ZmH 18) Yq) (YK N m n (QP f n (fun l=>l.blt 68) 76) zs (fun l=>l.blt 68) 76 [64,65,66,67]) n N) t∧W3 i.op=true) (X4 Yq (V2 fr (0+i.b.toNat*8) i.m a) (ZM (ZI fr (0+i.a.toNat*8) (0+i.a.toNat*8+1) i.a.toNat) cA.C cA.E cA.B cA.T cA.P cA.Y cA.R cA.V)) (YK N m n (QP f n (fun l=>l.blt 68) 76) zs (fun l=>l.blt 68) 76 [64,65,66,67]) n N):=by kernel_rfl
def ZMo:=Bx.mk (by have h:=@ZCm;simp(maxSteps:=99999999) only[Zx.v,ZF.v,ZD.v,ZO.v,ZU.v,YA.v,ZR.v,Ud.v,Zp.v,Zw.v,ZH.v,Zl.v,Zo.v,Zq.v,Zy.v,Ym.v,Z2.v,Z5.v,Zd4.v,ZA.v,-eq_self] at h;exact h)
theorem ZCn (i:In) (fr:Nat→Cp) (cB:Cp) (w:Nat) (a:Nat) (t:Nat) (zs:List UInt8) (f:Nat→Bool) (N:Nat) (m:Nat) (n:Nat) (cA:Cp) (zs2:List UInt8) (f2:Nat→Bool):evF Tryz.prog (Zk 3 (Za (mvL 75 i fr cB w a 2 t zs f N m n [(75,44,Ziq (Vm QG a cA.val) zs zs2 f f2 N m n,[64,65,66,67])])) Zc) Zb 100 20 37 (mvA fr i) (ZbX (arW true zs f N m n) N n 8 141)=JD [ZI fr (0+i.a.toNat*8) (0+i.a.toNat*8+1) i.a.toNat,Yk] 75 [(67,ZbO N),(66,Zc4 m n),(65,Jo 65 f2 n),(64,KS zs2)] [(65,n),(64,N),(65,n),(64,N)] 8 (Qz (VA (Qz (QF (Y5 (ZdW (ZL (Yd (0+i.b.toNat*8+8) fr (0+i.b.toNat*8) i.b (0+i.a.toNat*8+8) (0+i.a.toNat*8) i.a (WR i.op))) (W3 i.op=true) Ze)) (VL fr i.a.toNat)) (Vc (ZM (ZI fr (0+i.b.toNat*8) (0+i.b.toNat*8+1) i.b.toNat) cB.C cB.E cB.B cB.T cB.P cB.Y cB.R cB.V) fr (0+i.b.toNat*8) i.m a (Xc w) Uk Yq) (YK N m n (QP f n (fun l=>l.blt 68) 75) zs (fun l=>l.blt 68) 75 [64,65,66,67]) n N) t∧W3 i.op=true) (X4 Yq (V2 fr (0+i.b.toNat*8) i.m a) (ZM (ZI fr (0+i.a.toNat*8) (0+i.a.toNat*8+1) i.a.toNat) cA.C cA.E cA.B cA.T cA.P cA.Y cA.R cA.V)) (YK N m n (QP f n (fun l=>l.blt 68) 75) zs (fun l=>l.blt 68) 75 [64,65,66,67]) n N):=by kernel_rfl
def ZMp:=Bx.mk (by have h:=@ZCn;simp(maxSteps:=99999999) only[Zx.v,ZF.v,ZD.v,ZO.v,ZU.v,YA.v,ZR.v,Ud.v,Zp.v,Zw.v,ZH.v,Zl.v,Zo.v,Zq.v,Zy.v,Ym.v,Z2.v,Z5.v,Zd4.v,ZA.v,ZeV.v,-eq_self] at h;exact h)
theorem Zbs (fr:Nat→Cp) (b j k:Nat) (hb:b<17) (hj:j<8) (hk:k=8*b+j):Zt undef (frL fr) k=Zt undef (fr b).cs j:=by rw[hk,Zo3 fr b j hb hj]
theorem fr_0 (fr:Nat→Cp) (b:Nat) (hb:b<17):Qd (Zt undef (frL fr) (0+b*8))=((fr b).C:Nat):=by rw[Zbs fr b 0 _ hb (by omega) (by omega)]; rfl
theorem fr_1 (fr:Nat→Cp) (b:Nat) (hb:b<17):Qd (Zt undef (frL fr) (0+b*8+1))=((fr b).E:Nat):=by rw[Zbs fr b 1 _ hb (by omega) (by omega)]; rfl
theorem fr_2 (fr:Nat→Cp) (b:Nat) (hb:b<17):Qd (Zt undef (frL fr) (0+b*8+1+1))=((fr b).B:Nat):=by rw[Zbs fr b 2 _ hb (by omega) (by omega)]; rfl
theorem fr_3 (fr:Nat→Cp) (b:Nat) (hb:b<17):Qd (Zt undef (frL fr) (0+b*8+1+1+1))=((fr b).T:Nat):=by rw[Zbs fr b 3 _ hb (by omega) (by omega)]; rfl
theorem fr_4 (fr:Nat→Cp) (b:Nat) (hb:b<17):Qd (Zt undef (frL fr) (0+b*8+1+1+1+1))=((fr b).P:Nat):=by rw[Zbs fr b 4 _ hb (by omega) (by omega)]; rfl
theorem fr_5 (fr:Nat→Cp) (b:Nat) (hb:b<17):Qd (Zt undef (frL fr) (0+b*8+1+1+1+1+1))=((fr b).Y:Nat):=by rw[Zbs fr b 5 _ hb (by omega) (by omega)]; rfl
theorem fr_6 (fr:Nat→Cp) (b:Nat) (hb:b<17):Qd (Zt undef (frL fr) (0+b*8+1+1+1+1+1+1))=((fr b).R:Nat):=by rw[Zbs fr b 6 _ hb (by omega) (by omega)]; rfl
theorem fr_7 (fr:Nat→Cp) (b:Nat) (hb:b<17):Z0 (Zt undef (frL fr) (0+b*8+1+1+1+1+1+1+1))=(fr b).V:=by rw[Zbs fr b 7 _ hb (by omega) (by omega)]; rfl
theorem ZAz (fr:Nat→Cp) (b:Nat) (hb:b<17):WK (0+b*8+8) (frL fr)=true:=U2 _ _ (by rw[Zfc,ZfQ]; omega)
theorem ZCo (fr:Nat→Cp) (b:Nat) (hb:b<17):WK (0+b*8+1) (frL fr)=true:=U2 _ _ (by rw[Zfc,ZfQ]; omega)
theorem ZCp (fr:Nat→Cp) (b:Nat) (hb:b<17):Zz [Value.int u32 (0:Int),Value.int u8 (0:Int),Value.int u16 (0:Int),Value.int u16 (0:Int),Value.int u16 (0:Int),Value.int u16 (0:Int),Value.int u32 (0:Int),Value.bool false] (frL fr) (0+b*8)=true:=by
 unfold Zz Zz Zz Zz Zz Zz Zz Zz Zz
 rw[Zbs fr b 0 _ hb (by omega) (by omega),Zbs fr b 1 _ hb (by omega) (by omega),Zbs fr b 2 _ hb (by omega) (by omega),Zbs fr b 3 _ hb (by omega) (by omega),Zbs fr b 4 _ hb (by omega) (by omega),Zbs fr b 5 _ hb (by omega) (by omega),Zbs fr b 6 _ hb (by omega) (by omega),Zbs fr b 7 _ hb (by omega) (by omega)]
 rfl
theorem Zxq (fr:Nat→Cp) (b:Nat) (hb:b<17):Zz [Value.int u32 (0:Int)] (frL fr) (0+b*8)=true:=by
 unfold Zz Zz
 rw[Zbs fr b 0 _ hb (by omega) (by omega)]
 rfl
abbrev inS (op:Int) (a b c:Nat) (m:Int):In:=⟨op,a,b,c,m⟩
def atS (fr:Nat→Cp) (b:Nat) (m:Int):Nat:=((((fr b).C:Int)+m)%4294967296).toNat
theorem Xf (fr:Nat→Cp) (b:Nat) (m:Int):atS fr b m<4294967296:=by unfold atS; omega
theorem Yb (fr:Nat→Cp) (b:Nat) (m:Int):u32.wrap (((fr b).C:Int)+u32.wrap m)=((atS fr b m:Nat):Int):=by
 unfold atS
 simp only[IntKind.wrap_u32]
 omega
def XT (fr:Nat→Cp) (op:Int) (a:Nat):Nat:=if op=24 then(if(fr a).V=true then 18 else 2) else if op=20∨op=21∨op=22 then 2 else 1
def QL (fr:Nat→Cp) (op:Int) (a b:Nat) (m:Int) (N:Nat):Nat:=V1 (fr b) (atS fr b m) (Xp op) (XT fr op a) N
def Kp (fr:Nat→Cp) (i:In) (c:Cp) (t:Nat) (zs:List UInt8) (f:Nat→Bool) (N m n:Nat):Con:=Zqz (mvA fr i) (.tuple ⟨[c.val,.int .i64 (t:Nat)]⟩) zs f N m n
def Zml (args:List Value) (v:Value) (zs zs':List UInt8) (f f':Nat→Bool) (N m n:Nat):Con:=⟨args,68,arW true zs f N m n,arO N n,v,68,arW true zs' f' N m n,arO N n⟩
theorem ZjF {call:QM} (hc:Zs Tryz.prog call) {fn:FuncId} {args:List Value} {v:Value} {zs zs':List UInt8} {f f':Nat→Bool} {N m n:Nat} {T:List (Nat×Bool)} {s':Sy.St} (ha:args.all (okV (fun l=>Nat.blt l 68) 3)=true) (hv:XD v=true) (hu:isU v=false) (h:call fn args ⟨68,arW true zs f N m n,arO N n,0,T,0,True⟩=some (v,s')) (hO:s'.O)
  (h1:Vr 3 (fun l=>Nat.blt l 68) id s'.h (arW true zs' f' N m n)) (h2:ZbK (fun l=>Nat.blt l 68) id s'.lo (arO N n)):ConOk Tryz.prog fn 3 (Zml args v zs zs' f f' N m n)∧FlatC (Zml args v zs zs' f f' N m n):=by
 refine⟨Qn hc ⟨by show 64≤68; omega,Nat.le_refl _,Zas ZhC true zs f N m n,rfl,rfl,rfl,ha,Q8 hv 1,Zo5 true _ _ N m n⟩ h hO (p:=fun l=>Nat.blt l 68) (σ:=id) ?_,⟨Za7 _ _ _ _ _ _⟩⟩
 exact⟨fun _ _=>rfl,h1,rfl,h2,⟨Q8 hv 1,by rw[JB]; rfl⟩,hu,Zas ZlO true _ _ N m n,rfl,Xk _ hv,fun x _ _ => .inl rfl⟩
theorem Qw {x k:Int} (h:¬ x=k):(x==k)=false:=beq_eq_false_iff_ne.2 h
theorem Zos {x k:Int} (h:x=k):(x==k)=true:=by rw[h]; simp
theorem X6 (fr:Nat→Cp) (i:In):(mvA fr i).all (okV (fun l=>Nat.blt l 68) 3)=true:=rfl
theorem Zbb {nw:Nat} {i:In} {fr:Nat→Cp} {cB:Cp} {w a need t:Nat} {zs:List UInt8} {f:Nat→Bool} {N m n:Nat} {L:Sy.Steps} (h1:w=Xp i.op) (h2:t=V1 cB a w need N) (h:ArOk zs N m n) (hc:cB.Ok) (hn:need<65536) (ha:a<4294967296) (hw:0<w) (hw2:w≤16) (hL:∀ x∈L,ConOk Tryz.prog x.2.1 3 x.2.2.1∧FlatC x.2.2.1) :
  ∀ x∈mvL nw i fr cB w a need t zs f N m n L,ConOk Tryz.prog x.2.1 3 x.2.2.1∧FlatC x.2.2.1:=fun x hx=>by
 unfold mvL at hx
 rcases List.mem_cons.1 hx with rfl|hx
 ·rw[h1]; exact⟨ZuC i.op,⟨fun x hx=>by cases hx⟩⟩
 ·rcases List.mem_cons.1 hx with rfl|hx
  ·rw[h2]; exact Zo7 cB a w need zs f N m n h hc hn ha hw hw2
  ·exact hL x hx
theorem ZcQ (op:Int):Xp op≤16:=by
 unfold Xp
 repeat' split
 all_goals omega
theorem qD0 (a:Nat):decide ((0:Int)≤(a:Int))=true:=lR (by omega)
theorem qD1 (a:Nat) (h:a<16):decide ((a:Int)<16)=true:=lR (by omega)
def qFS (fr:Nat→Cp) (a:Nat) (h:a<17):=Bx.mk (aI (ZAz fr a h) (aI (ZCp fr a h) (aI (fr_0 fr a h) (aI (fr_1 fr a h) (aI (fr_2 fr a h) (aI (fr_3 fr a h) (aI (fr_4 fr a h) (aI (fr_5 fr a h) (aI (fr_6 fr a h) (fr_7 fr a h))))))))))
theorem ZnR (fr:Nat→Cp) (op:Int) (a b c:Nat) (m:Int) (zs:List UInt8) (f:Nat→Bool) (N g n:Nat) (h:ArOk zs N g n) (hfr:YR fr) (ha0:a<16) (hb0:b<16) (k24:¬ op=24) (k20:¬ op=20) (k21:¬ op=21) (k22:¬ op=22) (hw:0<Xp op) (ht:QL fr op a b m N≠0):ConOk Tryz.prog 37 3 (Kp fr (inS op a b c m) U1 (QL fr op a b m N) zs f N g n)∧FlatC (Kp fr (inS op a b c m) U1 (QL fr op a b m N) zs f N g n):=by
 have ha:a<17:=by omega
 have hb:b<17:=by omega
 have z0:=qD0 b
 have z1:=qD1 b (by omega)
 have z2:=qD0 a
 have z3:=qD1 a (by omega)
 have v1:=qV1 n
 have v2:=qV2 n
 have u1:=qU1
 have u2:=qU2
 have hneed:XT fr op a=1:=by unfold XT; simp only[k24,k20,k21,k22,or_self,if_false]
 have hmt:QL fr op a b m N=V1 (fr b) (atS fr b m) (Xp op) 1 N:=by unfold QL; rw[hneed]
 have hr:=ZMi.v (inS op a b c m) fr (fr b) (Xp op) (atS fr b m) (QL fr op a b m N) zs f N g n
 have ht':((QL fr op a b m N:Nat):Int)≠0:=by omega
 refine VJ (Zm (L:=100) Zg (Zn (Zj (Zbb (i:=inS op a b c m) rfl hmt h (hfr b) (by omega) (Xf _ _ _) hw (ZcQ _) (fun x hx=>by cases hx))) (Zf _)) (Zh _) 20) (X6 _ _) rfl rfl hr ?_
 simp only[inS,(qFS fr b hb).v,(qFS fr a ha).v,Yb,z0,z1,z2,z3,v1,v2,u1,u2,tN,qT4.v,cond_true,decide_true,Qw k24,Qw k20,Qw k21,Qw k22,bne_iff_ne.2 ht']
theorem qE2 (x y:Int) (h:x≠y):(x==y)=false:=beq_eq_false_iff_ne.2 h
theorem ZAA (fr:Nat→Cp) (a b c:Nat) (m:Int) (zs:List UInt8) (f:Nat→Bool) (N g n:Nat) (h:ArOk zs N g n) (hfr:YR fr) (ha0:a<16) (hb0:b<16) (ht:QL fr 20 a b m N≠0):ConOk Tryz.prog 37 3 (Kp fr (inS 20 a b c m) U1 (QL fr 20 a b m N) zs f N g n)∧FlatC (Kp fr (inS 20 a b c m) U1 (QL fr 20 a b m N) zs f N g n):=by
 have ha:a<17:=by omega
 have hb:b<17:=by omega
 have z0:=qD0 b
 have z1:=qD1 b (by omega)
 have z2:=qD0 a
 have z3:=qD1 a (by omega)
 have v1:=qV1 n
 have v2:=qV2 n
 have u1:=qU1
 have u2:=qU2
 have hneed:XT fr 20 a=2:=by unfold XT; simp
 have hmt:QL fr 20 a b m N=V1 (fr b) (atS fr b m) (Xp 20) 2 N:=by unfold QL; rw[hneed]
 have hr:=ZGs.v (inS 20 a b c m) fr (fr b) (Xp 20) (atS fr b m) (QL fr 20 a b m N) zs f N g n
 have ht':((QL fr 20 a b m N:Nat):Int)≠0:=by omega
 refine VJ (Zm (L:=100) Zg (Zn (Zj (Zbb (i:=inS 20 a b c m) rfl hmt h (hfr b) (by omega) (Xf _ _ _) (show 0<Xp 20 by decide) (ZcQ _) (fun x hx=>by cases hx))) (Zf _)) (Zh _) 20) (X6 _ _) rfl rfl hr ?_
 have e1:=@qE2
 simp(disch:=decide) only[inS,(qFS fr b hb).v,(qFS fr a ha).v,Yb,z0,z1,z2,z3,v1,v2,u1,u2,tN,qT4.v,cond_true,decide_true,e1,beq_self_eq_true,bne_iff_ne.2 ht']
theorem ZAB (fr:Nat→Cp) (a b c:Nat) (m:Int) (zs:List UInt8) (f:Nat→Bool) (N g n:Nat) (h:ArOk zs N g n) (hfr:YR fr) (ha0:a<16) (hb0:b<16) (ht:QL fr 21 a b m N≠0):ConOk Tryz.prog 37 3 (Kp fr (inS 21 a b c m) U1 (QL fr 21 a b m N) zs f N g n)∧FlatC (Kp fr (inS 21 a b c m) U1 (QL fr 21 a b m N) zs f N g n):=by
 have ha:a<17:=by omega
 have hb:b<17:=by omega
 have z0:=qD0 b
 have z1:=qD1 b (by omega)
 have z2:=qD0 a
 have z3:=qD1 a (by omega)
 have v1:=qV1 n
 have v2:=qV2 n
 have u1:=qU1
 have u2:=qU2
 have hneed:XT fr 21 a=2:=by unfold XT; simp
 have hmt:QL fr 21 a b m N=V1 (fr b) (atS fr b m) (Xp 21) 2 N:=by unfold QL; rw[hneed]
 have hr:=ZGt.v (inS 21 a b c m) fr (fr b) (Xp 21) (atS fr b m) (QL fr 21 a b m N) zs f N g n
 have ht':((QL fr 21 a b m N:Nat):Int)≠0:=by omega
 refine VJ (Zm (L:=100) Zg (Zn (Zj (Zbb (i:=inS 21 a b c m) rfl hmt h (hfr b) (by omega) (Xf _ _ _) (show 0<Xp 21 by decide) (ZcQ _) (fun x hx=>by cases hx))) (Zf _)) (Zh _) 20) (X6 _ _) rfl rfl hr ?_
 have e1:=@qE2
 simp(disch:=decide) only[inS,(qFS fr b hb).v,(qFS fr a ha).v,Yb,z0,z1,z2,z3,v1,v2,u1,u2,tN,qT4.v,cond_true,decide_true,e1,beq_self_eq_true,bne_iff_ne.2 ht']
theorem ZAC (fr:Nat→Cp) (a b c:Nat) (m:Int) (zs:List UInt8) (f:Nat→Bool) (N g n:Nat) (h:ArOk zs N g n) (hfr:YR fr) (ha0:a<16) (hb0:b<16) (ht:QL fr 22 a b m N≠0):ConOk Tryz.prog 37 3 (Kp fr (inS 22 a b c m) U1 (QL fr 22 a b m N) zs f N g n)∧FlatC (Kp fr (inS 22 a b c m) U1 (QL fr 22 a b m N) zs f N g n):=by
 have ha:a<17:=by omega
 have hb:b<17:=by omega
 have z0:=qD0 b
 have z1:=qD1 b (by omega)
 have z2:=qD0 a
 have z3:=qD1 a (by omega)
 have v1:=qV1 n
 have v2:=qV2 n
 have u1:=qU1
 have u2:=qU2
 have hneed:XT fr 22 a=2:=by unfold XT; simp
 have hmt:QL fr 22 a b m N=V1 (fr b) (atS fr b m) (Xp 22) 2 N:=by unfold QL; rw[hneed]
 have hr:=ZGu.v (inS 22 a b c m) fr (fr b) (Xp 22) (atS fr b m) (QL fr 22 a b m N) zs f N g n
 have ht':((QL fr 22 a b m N:Nat):Int)≠0:=by omega
 refine VJ (Zm (L:=100) Zg (Zn (Zj (Zbb (i:=inS 22 a b c m) rfl hmt h (hfr b) (by omega) (Xf _ _ _) (show 0<Xp 22 by decide) (ZcQ _) (fun x hx=>by cases hx))) (Zf _)) (Zh _) 20) (X6 _ _) rfl rfl hr ?_
 have e1:=@qE2
 simp(disch:=decide) only[inS,(qFS fr b hb).v,(qFS fr a ha).v,Yb,z0,z1,z2,z3,v1,v2,u1,u2,tN,qT4.v,cond_true,decide_true,e1,beq_self_eq_true,bne_iff_ne.2 ht']
theorem ZGy (fr:Nat→Cp) (a b c:Nat) (m:Int) (zs:List UInt8) (f:Nat→Bool) (N g n:Nat) (h:ArOk zs N g n) (hfr:YR fr) (ha0:a<16) (hb0:b<16) (kV:(fr a).V=true) (ht:QL fr 24 a b m N≠0):ConOk Tryz.prog 37 3 (Kp fr (inS 24 a b c m) U1 (QL fr 24 a b m N) zs f N g n)∧FlatC (Kp fr (inS 24 a b c m) U1 (QL fr 24 a b m N) zs f N g n):=by
 have ha:a<17:=by omega
 have hb:b<17:=by omega
 have z0:=qD0 b
 have z1:=qD1 b (by omega)
 have z2:=qD0 a
 have z3:=qD1 a (by omega)
 have v1:=qV1 n
 have v2:=qV2 n
 have u1:=qU1
 have u2:=qU2
 have hneed:XT fr 24 a=18:=by unfold XT; simp only[kV,if_true,if_false,Bool.false_eq_true,reduceIte]
 have hmt:QL fr 24 a b m N=V1 (fr b) (atS fr b m) (Xp 24) 18 N:=by unfold QL; rw[hneed]
 have hr:=ZMj.v (inS 24 a b c m) fr (fr b) (Xp 24) (atS fr b m) (QL fr 24 a b m N) zs f N g n
 have ht':((QL fr 24 a b m N:Nat):Int)≠0:=by omega
 refine VJ (Zm (L:=100) Zg (Zn (Zj (Zbb (i:=inS 24 a b c m) rfl hmt h (hfr b) (by omega) (Xf _ _ _) (show 0<Xp 24 by decide) (ZcQ _) (fun x hx=>by cases hx))) (Zf _)) (Zh _) 20) (X6 _ _) rfl rfl hr ?_
 have e1:=@qE2
 simp(disch:=decide) only[inS,(qFS fr b hb).v,(qFS fr a ha).v,Yb,z0,z1,z2,z3,v1,v2,u1,u2,tN,qT4.v,cond_true,decide_true,e1,beq_self_eq_true,bne_iff_ne.2 ht',kV]
theorem ZGz (fr:Nat→Cp) (a b c:Nat) (m:Int) (zs:List UInt8) (f:Nat→Bool) (N g n:Nat) (h:ArOk zs N g n) (hfr:YR fr) (ha0:a<16) (hb0:b<16) (kV:(fr a).V=false) (ht:QL fr 24 a b m N≠0):ConOk Tryz.prog 37 3 (Kp fr (inS 24 a b c m) U1 (QL fr 24 a b m N) zs f N g n)∧FlatC (Kp fr (inS 24 a b c m) U1 (QL fr 24 a b m N) zs f N g n):=by
 have ha:a<17:=by omega
 have hb:b<17:=by omega
 have z0:=qD0 b
 have z1:=qD1 b (by omega)
 have z2:=qD0 a
 have z3:=qD1 a (by omega)
 have v1:=qV1 n
 have v2:=qV2 n
 have u1:=qU1
 have u2:=qU2
 have hneed:XT fr 24 a=2:=by unfold XT; simp only[kV,if_true,if_false,Bool.false_eq_true,reduceIte]
 have hmt:QL fr 24 a b m N=V1 (fr b) (atS fr b m) (Xp 24) 2 N:=by unfold QL; rw[hneed]
 have hr:=ZMk.v (inS 24 a b c m) fr (fr b) (Xp 24) (atS fr b m) (QL fr 24 a b m N) zs f N g n
 have ht':((QL fr 24 a b m N:Nat):Int)≠0:=by omega
 refine VJ (Zm (L:=100) Zg (Zn (Zj (Zbb (i:=inS 24 a b c m) rfl hmt h (hfr b) (by omega) (Xf _ _ _) (show 0<Xp 24 by decide) (ZcQ _) (fun x hx=>by cases hx))) (Zf _)) (Zh _) 20) (X6 _ _) rfl rfl hr ?_
 have e1:=@qE2
 simp(disch:=decide) only[inS,(qFS fr b hb).v,(qFS fr a ha).v,Yb,z0,z1,z2,z3,v1,v2,u1,u2,tN,qT4.v,cond_true,decide_true,e1,beq_self_eq_true,bne_iff_ne.2 ht',kV]
theorem ZrX (fr:Nat→Cp) (op:Int) (a b c:Nat) (m:Int) (zs:List UInt8) (f:Nat→Bool) (N g n:Nat) (h:ArOk zs N g n) (hfr:YR fr) (ha0:a<16) (hb0:b<16) (k24:¬ op=24) (k20:¬ op=20) (k21:¬ op=21) (k22:¬ op=22) (hw:0<Xp op) (k23:¬ op=23) (hw2:Xp op=1∨Xp op=2∨Xp op=4) (ht:QL fr op a b m N=0):ConOk Tryz.prog 37 3 (Kp fr (inS op a b c m) (Zdk (ZkT (Xp op) zs (atS fr b m))) 0 zs f N g n)∧FlatC (Kp fr (inS op a b c m) (Zdk (ZkT (Xp op) zs (atS fr b m))) 0 zs f N g n):=by
 have ha:a<17:=by omega
 have hb:b<17:=by omega
 have z0:=qD0 b
 have z1:=qD1 b (by omega)
 have z2:=qD0 a
 have z3:=qD1 a (by omega)
 have v1:=qV1 n
 have v2:=qV2 n
 have u1:=qU1
 have u2:=qU2
 have hneed:XT fr op a=1:=by unfold XT; simp only[k24,k20,k21,k22,or_self,if_false]
 have hmt:QL fr op a b m N=V1 (fr b) (atS fr b m) (Xp op) 1 N:=by unfold QL; rw[hneed]
 have hr:=ZMl.v (inS op a b c m) fr (fr b) (Xp op) (atS fr b m) (QL fr op a b m N) zs f N g n (ZkT (Xp op) zs (atS fr b m))
 obtain⟨hin,_⟩:=VK (hmt.symm.trans ht)
 have ht':(((QL fr op a b m N:Nat):Int) !=0)=false:=by rw[ht]; rfl
 refine VJ (Zm (L:=100) Zg (Zn (Zj (Zbb (i:=inS op a b c m) rfl hmt h (hfr b) (by omega) (Xf _ _ _) hw (ZcQ _) (fun x hx => ?_))) (Zf _)) (Zh _) 20) (X6 _ _) rfl rfl hr ?_
 ·obtain rfl:=List.mem_singleton.1 hx
  exact ZCc (Xp op) (atS fr b m) zs f N g n h hw2 hin
 simp only[inS,(qFS fr b hb).v,(qFS fr a ha).v,Yb,z0,z1,z2,z3,v1,v2,u1,u2,tN,qT4.v,cond_true,decide_true,Qw k24,Qw k20,Qw k21,Qw k22,Qw k23,ht']
def lcV (x:Cp) (p:Nat):Cp:={ x with V:=x.V&&decide (p&&&8≠0) }
def lcC (a:Nat) (x:Cp) (zs:List UInt8) (f:Nat→Bool) (N m n:Nat):Con:=Zqz [.pointer (some ⟨67,0,none⟩),.int .u32 (a:Nat)] (.tuple ⟨[x.val,.bool true]⟩) zs f N m n
theorem ZGA (fr:Nat→Cp) (a b c:Nat) (m:Int) (zs:List UInt8) (f:Nat→Bool) (N g n:Nat) (h:ArOk zs N g n) (hfr:YR fr) (ha0:a<16) (hb0:b<16) (x:Cp) (hx:ConOk Tryz.prog 48 3 (lcC (atS fr b m) x zs f N g n)) (ht:QL fr 23 a b m N=0):ConOk Tryz.prog 37 3 (Kp fr (inS 23 a b c m) (lcV x (fr b).P) 0 zs f N g n)∧FlatC (Kp fr (inS 23 a b c m) (lcV x (fr b).P) 0 zs f N g n):=by
 have ha:a<17:=by omega
 have hb:b<17:=by omega
 have z0:=qD0 b
 have z1:=qD1 b (by omega)
 have z2:=qD0 a
 have z3:=qD1 a (by omega)
 have v1:=qV1 n
 have v2:=qV2 n
 have u1:=qU1
 have u2:=qU2
 have hneed:XT fr 23 a=1:=by unfold XT; simp
 have hmt:QL fr 23 a b m N=V1 (fr b) (atS fr b m) (Xp 23) 1 N:=by unfold QL; rw[hneed]
 have ht':(((QL fr 23 a b m N:Nat):Int) !=0)=false:=by rw[ht]; rfl
 have e1:=@qE2
 have hb2:∀ {L:Sy.Steps},(L=[(74,48,lcC (atS fr b m) x zs f N g n,[64,65,66,67])])→∀ y∈L,ConOk Tryz.prog y.2.1 3 y.2.2.1∧FlatC y.2.2.1:=fun hL y hy=>by
  subst hL
  obtain rfl:=List.mem_singleton.1 hy
  exact⟨hx,⟨fun x hx=>by cases hx⟩⟩
 have hP:(fr b).P<65536:=(hfr b).2.2.2.2.1
 have hbit:(bits BinOp.and u16 ((fr b).P:Int) (8:Int) !=(0:Int))=decide ((fr b).P&&&8≠0):=by
  rw[show(8:Int)=((8:Nat):Int) from rfl,u16_and_nat _ 8 hP (by omega),Zmh]
 cases hxv:x.V
 ·have hr:=ZMn.v (inS 23 a b c m) fr (fr b) (Xp 23) (atS fr b m) (QL fr 23 a b m N) zs f N g n x
  have ev:(lcV x (fr b).P).val = .agg ⟨[.int .u32 x.C,.int .u8 x.E,.int .u16 x.B,.int .u16 x.T,.int .u16 x.P,.int .u16 x.Y,.int .u32 x.R,.bool false]⟩:=by unfold lcV Cp.val Cp.cs; simp only[hxv,Bool.false_and]
  unfold Kp
  rw[ev]
  refine VJ (Zm (L:=100) Zg (Zn (Zj (Zbb (i:=inS 23 a b c m) rfl hmt h (hfr b) (by omega) (Xf _ _ _) (show 0<Xp 23 by decide) (ZcQ _) (hb2 rfl))) (Zf _)) (Zh _) 20) (X6 _ _) rfl rfl hr ?_
  simp(disch:=decide) only[inS,(qFS fr b hb).v,(qFS fr a ha).v,Yb,z0,z1,z2,z3,v1,v2,u1,u2,tN,qT4.v,cond_true,decide_true,e1,beq_self_eq_true,ht',hxv]
 ·have hr:=ZMm.v (inS 23 a b c m) fr (fr b) (Xp 23) (atS fr b m) (QL fr 23 a b m N) zs f N g n x
  have ev:(lcV x (fr b).P).val = .agg ⟨[.int .u32 x.C,.int .u8 x.E,.int .u16 x.B,.int .u16 x.T,.int .u16 x.P,.int .u16 x.Y,.int .u32 x.R,.bool (bits BinOp.and u16 ((fr b).P:Int) (8:Int) !=(0:Int))]⟩:=by unfold lcV Cp.val Cp.cs; simp only[hxv,Bool.true_and,hbit]
  unfold Kp
  rw[ev]
  simp only[inS,tN,fr_4 fr b hb] at hr
  refine VJ (Zm (L:=100) Zg (Zn (Zj (Zbb (i:=inS 23 a b c m) rfl hmt h (hfr b) (by omega) (Xf _ _ _) (show 0<Xp 23 by decide) (ZcQ _) (hb2 rfl))) (Zf _)) (Zh _) 20) (X6 _ _) rfl rfl hr ?_
  simp(disch:=decide) only[inS,(qFS fr b hb).v,(qFS fr a ha).v,Yb,z0,z1,z2,z3,v1,v2,u1,u2,tN,qT4.v,cond_true,decide_true,e1,beq_self_eq_true,ht',hxv]
theorem ZAD (fr:Nat→Cp) (a b c:Nat) (m:Int) (zs:List UInt8) (f:Nat→Bool) (N g n:Nat) (h:ArOk zs N g n) (hfr:YR fr) (ha0:a<16) (hb0:b<16) (ht:QL fr 20 a b m N=0):ConOk Tryz.prog 37 3 (Zml (mvA fr (inS 20 a b c m)) (.tuple ⟨[(fr a).val,.int .i64 0]⟩) zs (Xt (atS fr b m) (leW 1 (fr a).C) zs) f (YY f (atS fr b m/16) false) N g n)∧FlatC (Zml (mvA fr (inS 20 a b c m)) (.tuple ⟨[(fr a).val,.int .i64 0]⟩) zs (Xt (atS fr b m) (leW 1 (fr a).C) zs) f (YY f (atS fr b m/16) false) N g n):=by
 have ha:a<17:=by omega
 have hb:b<17:=by omega
 have z0:=qD0 b
 have z1:=qD1 b (by omega)
 have z2:=qD0 a
 have z3:=qD1 a (by omega)
 have v1:=qV1 n
 have v2:=qV2 n
 have u1:=qU1
 have u2:=qU2
 have hneed:XT fr 20 a=2:=by unfold XT; simp
 have hmt:QL fr 20 a b m N=V1 (fr b) (atS fr b m) 1 2 N:=by unfold QL; rw[hneed]; rfl
 have hr:=ZGv.v (inS 20 a b c m) fr (fr b) 1 (atS fr b m) (QL fr 20 a b m N) zs f N g n (fr a).C (Xt (atS fr b m) (leW 1 (fr a).C) zs) (YY f (atS fr b m/16) false)
 obtain⟨hin,hal,_⟩:=VK (hmt.symm.trans ht)
 have ht':(((QL fr 20 a b m N:Nat):Int) !=0)=false:=by rw[ht]; rfl
 have e1:=@qE2
 simp only[inS,tN,(qFS fr b hb).v,(qFS fr a ha).v,Yb] at hr
 refine ZjF (Zm (L:=100) Zg (Zn (Zj (Zbb (i:=inS 20 a b c m) rfl hmt h (hfr b) (by omega) (Xf _ _ _) (show 0<Xp 20 by decide) (show Xp 20≤16 by decide) (fun x hx => ?_))) (Zf _)) (Zh _) 20) (X6 _ _) rfl rfl hr ?_ (Kx _ _ N g n _ _ rfl rfl rfl rfl rfl rfl) ⟨⟨rfl,Nat.le_refl _⟩,⟨rfl,Nat.le_refl _⟩,trivial⟩
 ·obtain rfl:=List.mem_singleton.1 hx
  exact Zmg 1 (atS fr b m) (fr a).C zs f N g n h (by omega) (hfr a).1 hal hin
 simp(disch:=decide) only[inS,(qFS fr b hb).v,(qFS fr a ha).v,Yb,z0,z1,z2,z3,v1,v2,u1,u2,tN,qT4.v,cond_true,decide_true,e1,beq_self_eq_true,ht']
theorem ZAE (fr:Nat→Cp) (a b c:Nat) (m:Int) (zs:List UInt8) (f:Nat→Bool) (N g n:Nat) (h:ArOk zs N g n) (hfr:YR fr) (ha0:a<16) (hb0:b<16) (ht:QL fr 21 a b m N=0):ConOk Tryz.prog 37 3 (Zml (mvA fr (inS 21 a b c m)) (.tuple ⟨[(fr a).val,.int .i64 0]⟩) zs (Xt (atS fr b m) (leW 2 (fr a).C) zs) f (YY f (atS fr b m/16) false) N g n)∧FlatC (Zml (mvA fr (inS 21 a b c m)) (.tuple ⟨[(fr a).val,.int .i64 0]⟩) zs (Xt (atS fr b m) (leW 2 (fr a).C) zs) f (YY f (atS fr b m/16) false) N g n):=by
 have ha:a<17:=by omega
 have hb:b<17:=by omega
 have z0:=qD0 b
 have z1:=qD1 b (by omega)
 have z2:=qD0 a
 have z3:=qD1 a (by omega)
 have v1:=qV1 n
 have v2:=qV2 n
 have u1:=qU1
 have u2:=qU2
 have hneed:XT fr 21 a=2:=by unfold XT; simp
 have hmt:QL fr 21 a b m N=V1 (fr b) (atS fr b m) 2 2 N:=by unfold QL; rw[hneed]; rfl
 have hr:=ZGw.v (inS 21 a b c m) fr (fr b) 2 (atS fr b m) (QL fr 21 a b m N) zs f N g n (fr a).C (Xt (atS fr b m) (leW 2 (fr a).C) zs) (YY f (atS fr b m/16) false)
 obtain⟨hin,hal,_⟩:=VK (hmt.symm.trans ht)
 have ht':(((QL fr 21 a b m N:Nat):Int) !=0)=false:=by rw[ht]; rfl
 have e1:=@qE2
 simp only[inS,tN,(qFS fr b hb).v,(qFS fr a ha).v,Yb] at hr
 refine ZjF (Zm (L:=100) Zg (Zn (Zj (Zbb (i:=inS 21 a b c m) rfl hmt h (hfr b) (by omega) (Xf _ _ _) (show 0<Xp 21 by decide) (show Xp 21≤16 by decide) (fun x hx => ?_))) (Zf _)) (Zh _) 20) (X6 _ _) rfl rfl hr ?_ (Kx _ _ N g n _ _ rfl rfl rfl rfl rfl rfl) ⟨⟨rfl,Nat.le_refl _⟩,⟨rfl,Nat.le_refl _⟩,trivial⟩
 ·obtain rfl:=List.mem_singleton.1 hx
  exact Zmg 2 (atS fr b m) (fr a).C zs f N g n h (by omega) (hfr a).1 hal hin
 simp(disch:=decide) only[inS,(qFS fr b hb).v,(qFS fr a ha).v,Yb,z0,z1,z2,z3,v1,v2,u1,u2,tN,qT4.v,cond_true,decide_true,e1,beq_self_eq_true,ht']
theorem ZAF (fr:Nat→Cp) (a b c:Nat) (m:Int) (zs:List UInt8) (f:Nat→Bool) (N g n:Nat) (h:ArOk zs N g n) (hfr:YR fr) (ha0:a<16) (hb0:b<16) (ht:QL fr 22 a b m N=0):ConOk Tryz.prog 37 3 (Zml (mvA fr (inS 22 a b c m)) (.tuple ⟨[(fr a).val,.int .i64 0]⟩) zs (Xt (atS fr b m) (leW 4 (fr a).C) zs) f (YY f (atS fr b m/16) false) N g n)∧FlatC (Zml (mvA fr (inS 22 a b c m)) (.tuple ⟨[(fr a).val,.int .i64 0]⟩) zs (Xt (atS fr b m) (leW 4 (fr a).C) zs) f (YY f (atS fr b m/16) false) N g n):=by
 have ha:a<17:=by omega
 have hb:b<17:=by omega
 have z0:=qD0 b
 have z1:=qD1 b (by omega)
 have z2:=qD0 a
 have z3:=qD1 a (by omega)
 have v1:=qV1 n
 have v2:=qV2 n
 have u1:=qU1
 have u2:=qU2
 have hneed:XT fr 22 a=2:=by unfold XT; simp
 have hmt:QL fr 22 a b m N=V1 (fr b) (atS fr b m) 4 2 N:=by unfold QL; rw[hneed]; rfl
 have hr:=ZGx.v (inS 22 a b c m) fr (fr b) 4 (atS fr b m) (QL fr 22 a b m N) zs f N g n (fr a).C (Xt (atS fr b m) (leW 4 (fr a).C) zs) (YY f (atS fr b m/16) false)
 obtain⟨hin,hal,_⟩:=VK (hmt.symm.trans ht)
 have ht':(((QL fr 22 a b m N:Nat):Int) !=0)=false:=by rw[ht]; rfl
 have e1:=@qE2
 simp only[inS,tN,(qFS fr b hb).v,(qFS fr a ha).v,Yb] at hr
 refine ZjF (Zm (L:=100) Zg (Zn (Zj (Zbb (i:=inS 22 a b c m) rfl hmt h (hfr b) (by omega) (Xf _ _ _) (show 0<Xp 22 by decide) (show Xp 22≤16 by decide) (fun x hx => ?_))) (Zf _)) (Zh _) 20) (X6 _ _) rfl rfl hr ?_ (Kx _ _ N g n _ _ rfl rfl rfl rfl rfl rfl) ⟨⟨rfl,Nat.le_refl _⟩,⟨rfl,Nat.le_refl _⟩,trivial⟩
 ·obtain rfl:=List.mem_singleton.1 hx
  exact Zmg 4 (atS fr b m) (fr a).C zs f N g n h (by omega) (hfr a).1 hal hin
 simp(disch:=decide) only[inS,(qFS fr b hb).v,(qFS fr a ha).v,Yb,z0,z1,z2,z3,v1,v2,u1,u2,tN,qT4.v,cond_true,decide_true,e1,beq_self_eq_true,ht']
theorem ZGB (fr:Nat→Cp) (a b c:Nat) (m:Int) (zs:List UInt8) (f:Nat→Bool) (N g n:Nat) (h:ArOk zs N g n) (hfr:YR fr) (ha0:a<16) (hb0:b<16) (kV:(fr a).V=true) (ht:QL fr 24 a b m N=0):ConOk Tryz.prog 37 3 (Zml (mvA fr (inS 24 a b c m)) (.tuple ⟨[(fr a).val,.int .i64 0]⟩) zs (Xt (atS fr b m) (cbL (fr a).C (fr a).E (fr a).B (fr a).T (fr a).P (fr a).Y (fr a).R) zs) f (YY f (atS fr b m/16) ((fr a).V&&WO (fr a).E (fr a).B (fr a).T (fr a).P (fr a).Y (fr a).R)) N g n)∧FlatC (Zml (mvA fr (inS 24 a b c m)) (.tuple ⟨[(fr a).val,.int .i64 0]⟩) zs (Xt (atS fr b m) (cbL (fr a).C (fr a).E (fr a).B (fr a).T (fr a).P (fr a).Y (fr a).R) zs) f (YY f (atS fr b m/16) ((fr a).V&&WO (fr a).E (fr a).B (fr a).T (fr a).P (fr a).Y (fr a).R)) N g n):=by
 have ha:a<17:=by omega
 have hb:b<17:=by omega
 have z0:=qD0 b
 have z1:=qD1 b (by omega)
 have z2:=qD0 a
 have z3:=qD1 a (by omega)
 have v1:=qV1 n
 have v2:=qV2 n
 have u1:=qU1
 have u2:=qU2
 have hneed:XT fr 24 a=18:=by unfold XT; simp only[kV,if_true,if_false,Bool.false_eq_true,reduceIte]
 have hmt:QL fr 24 a b m N=V1 (fr b) (atS fr b m) 16 18 N:=by unfold QL; rw[hneed]; rfl
 have hr:=ZMo.v (inS 24 a b c m) fr (fr b) 16 (atS fr b m) (QL fr 24 a b m N) zs f N g n (fr a) (Xt (atS fr b m) (cbL (fr a).C (fr a).E (fr a).B (fr a).T (fr a).P (fr a).Y (fr a).R) zs) (YY f (atS fr b m/16) ((fr a).V&&WO (fr a).E (fr a).B (fr a).T (fr a).P (fr a).Y (fr a).R))
 obtain⟨hin,hal,_⟩:=VK (hmt.symm.trans ht)
 have ht':(((QL fr 24 a b m N:Nat):Int) !=0)=false:=by rw[ht]; rfl
 have e1:=@qE2
 have hcp:CpB (fr a).C (fr a).E (fr a).B (fr a).T (fr a).P (fr a).Y (fr a).R:=by obtain⟨h1,h2,h3,h4,h5,h6,h7⟩:=hfr a; exact⟨h1,h2,h3,h4,h5,h6,h7⟩
 simp only[inS,tN,(qFS fr b hb).v,(qFS fr a ha).v,Yb] at hr
 refine ZjF (Zm (L:=100) Zg (Zn (Zj (Zbb (i:=inS 24 a b c m) rfl hmt h (hfr b) (by omega) (Xf _ _ _) (show 0<Xp 24 by decide) (show Xp 24≤16 by decide) (fun x hx => ?_))) (Zf _)) (Zh _) 20) (X6 _ _) rfl rfl hr ?_ (Kx _ _ N g n _ _ rfl rfl rfl rfl rfl rfl) ⟨⟨rfl,Nat.le_refl _⟩,⟨rfl,Nat.le_refl _⟩,trivial⟩
 ·obtain rfl:=List.mem_singleton.1 hx
  exact Zo6 (atS fr b m) (fr a).C (fr a).E (fr a).B (fr a).T (fr a).P (fr a).Y (fr a).R (fr a).V zs f N g n h hcp hal hin
 simp(disch:=decide) only[inS,(qFS fr b hb).v,(qFS fr a ha).v,Yb,z0,z1,z2,z3,v1,v2,u1,u2,tN,qT4.v,cond_true,decide_true,e1,beq_self_eq_true,ht',kV]
theorem ZGC (fr:Nat→Cp) (a b c:Nat) (m:Int) (zs:List UInt8) (f:Nat→Bool) (N g n:Nat) (h:ArOk zs N g n) (hfr:YR fr) (ha0:a<16) (hb0:b<16) (kV:(fr a).V=false) (ht:QL fr 24 a b m N=0):ConOk Tryz.prog 37 3 (Zml (mvA fr (inS 24 a b c m)) (.tuple ⟨[(fr a).val,.int .i64 0]⟩) zs (Xt (atS fr b m) (cbL (fr a).C (fr a).E (fr a).B (fr a).T (fr a).P (fr a).Y (fr a).R) zs) f (YY f (atS fr b m/16) ((fr a).V&&WO (fr a).E (fr a).B (fr a).T (fr a).P (fr a).Y (fr a).R)) N g n)∧FlatC (Zml (mvA fr (inS 24 a b c m)) (.tuple ⟨[(fr a).val,.int .i64 0]⟩) zs (Xt (atS fr b m) (cbL (fr a).C (fr a).E (fr a).B (fr a).T (fr a).P (fr a).Y (fr a).R) zs) f (YY f (atS fr b m/16) ((fr a).V&&WO (fr a).E (fr a).B (fr a).T (fr a).P (fr a).Y (fr a).R)) N g n):=by
 have ha:a<17:=by omega
 have hb:b<17:=by omega
 have z0:=qD0 b
 have z1:=qD1 b (by omega)
 have z2:=qD0 a
 have z3:=qD1 a (by omega)
 have v1:=qV1 n
 have v2:=qV2 n
 have u1:=qU1
 have u2:=qU2
 have hneed:XT fr 24 a=2:=by unfold XT; simp only[kV,if_true,if_false,Bool.false_eq_true,reduceIte]
 have hmt:QL fr 24 a b m N=V1 (fr b) (atS fr b m) 16 2 N:=by unfold QL; rw[hneed]; rfl
 have hr:=ZMp.v (inS 24 a b c m) fr (fr b) 16 (atS fr b m) (QL fr 24 a b m N) zs f N g n (fr a) (Xt (atS fr b m) (cbL (fr a).C (fr a).E (fr a).B (fr a).T (fr a).P (fr a).Y (fr a).R) zs) (YY f (atS fr b m/16) ((fr a).V&&WO (fr a).E (fr a).B (fr a).T (fr a).P (fr a).Y (fr a).R))
 obtain⟨hin,hal,_⟩:=VK (hmt.symm.trans ht)
 have ht':(((QL fr 24 a b m N:Nat):Int) !=0)=false:=by rw[ht]; rfl
 have e1:=@qE2
 have hcp:CpB (fr a).C (fr a).E (fr a).B (fr a).T (fr a).P (fr a).Y (fr a).R:=by obtain⟨h1,h2,h3,h4,h5,h6,h7⟩:=hfr a; exact⟨h1,h2,h3,h4,h5,h6,h7⟩
 simp only[inS,tN,(qFS fr b hb).v,(qFS fr a ha).v,Yb] at hr
 refine ZjF (Zm (L:=100) Zg (Zn (Zj (Zbb (i:=inS 24 a b c m) rfl hmt h (hfr b) (by omega) (Xf _ _ _) (show 0<Xp 24 by decide) (show Xp 24≤16 by decide) (fun x hx => ?_))) (Zf _)) (Zh _) 20) (X6 _ _) rfl rfl hr ?_ (Kx _ _ N g n _ _ rfl rfl rfl rfl rfl rfl) ⟨⟨rfl,Nat.le_refl _⟩,⟨rfl,Nat.le_refl _⟩,trivial⟩
 ·obtain rfl:=List.mem_singleton.1 hx
  exact Zo6 (atS fr b m) (fr a).C (fr a).E (fr a).B (fr a).T (fr a).P (fr a).Y (fr a).R (fr a).V zs f N g n h hcp hal hin
 simp(disch:=decide) only[inS,(qFS fr b hb).v,(qFS fr a ha).v,Yb,z0,z1,z2,z3,v1,v2,u1,u2,tN,qT4.v,cond_true,decide_true,e1,beq_self_eq_true,ht',kV]
end Go.Proofs.YtagacmljbgkmoaaGreatDoor
namespace Go.Proofs.YtagacmljbgkmoaaGreatDoor
open Go.IntKind (u8 u16 u32 u64 i64)
open Go.ChangeShapes Go.WideShapes Go.ChangeAt Go.RowKit
open Go.ChangeMaps (open_string shut_string)
theorem own:ownKnob Tryz.prog.godebug=none:=by kernel_rfl
theorem ZuK:laidOutB Tryz.prog=true:=by kernel_rfl
section
variable {H:Type} {enc:TypeId×Value→H} {P:Program}
theorem ZgS {f:Func} {s:ChangeSpec} {apart fresh handsOn again:Bool} {W W':World} {args:Array Value} {v:Value} {ds gs:List (DataW H)} {before pa pv:List MemPlace}
  (hW:DataW.Whole enc P f.params.toList s.vars apart W args.toList ds gs before)
  (hres:∀ (b:Nat) (sp:Nat→Bool) (hd:Bool),DataW.TrodAll enc P W' b sp hd f.resultTypes.toList (v.resultList f.resultTypes.size) (s.fn H (ds++gs)).results [])
  (hargs:∀ sp:Nat→Bool,(∀ p∈before,sp p.block=true)→DataW.TrodAll enc P W' 0 sp true f.params.toList args.toList (s.fn H (ds++gs)).args pa)
  (hvars:∀ sp:Nat→Bool,(∀ p∈before,sp p.block=true)→DataW.TrodVars enc P W' sp s.vars (s.fn H (ds++gs)).vars pv)
  (hps:before=pa++pv) (hb:Below W.heap.size W W')
  (hok:∀ (j:Nat) (t:TypeId) (r:Value),f.resultTypes[j]? = some t→(v.resultList f.resultTypes.size)[j]? = some r→Value.okWide P W' .any 0 t r) :
  s.post enc P f apart fresh handsOn again W args v W':=by
 have hlt:∀ p∈before,p.block<W.heap.size:=fun p hp=>hW.lt p hp
 have hold:∀ p∈before,(fun b=>decide (b<W.heap.size)) p.block=true:=fun p hp=>by simpa using hlt p hp
 refine⟨ds,gs,before,[],pa,pv,hW,hres _ _ _,hargs _ hold,hvars _ hold,World.keptBut_mono (fun p hp=>⟨hp,?_⟩) (hb.frame (· ∈ before)),fun _ => ?_⟩
 ·rw[hps,List.mem_append] at hp
  exact Or.inr hp
 ·obtain⟨_,_,_,_,_,hz,hn⟩:=hW
  refine⟨hok,_,_,([]++pa)++pv,⟨[]++pa,pv,trodAll_append (hargs _ (fun _ _=>rfl)) (hres _ _ _),hvars _ (fun _ _=>rfl),rfl,?_,?_⟩,?_⟩
  ·intro b off hp
   have hin:MemPlace.cell b off∈before:=by rw[hps]; simpa using hp
   rw[hb.frozen (hlt _ hin)]
   exact hz b off hin
  ·intro ha
   have:=hn ha
   rw[hps] at this
   simpa using this
  ·intro p hp _
   rw[hps]
   simpa using hp
theorem ZcR (hl:laidOutB P=true) {W W':World} (hb:Below W.heap.size W W') {sp:Nat→Bool}:∀ (ts:List TypeId) (vs:List Value) (ds:List (DataW H)) (ps:List MemPlace),
  (∀ t∈ts,P.readableRec t=true∧t<P.types.size)→DataW.TrodAll enc P W 0 (fun _=>true) true ts vs ds ps→(∀ x∈ps,x.block<W.heap.size)→(∀ x∈ps,sp x.block=true) →
  DataW.TrodAll enc P W' 0 sp true ts vs ds ps
 | [],[],[],_,_,h,_,_=>h
 | t::ts,v::vs,d::ds,ps,ht,h,hlt,hs=>by
  obtain⟨p,q,h1,h2,rfl⟩:=h
  refine⟨p,q,?_,ZcR hl hb ts vs ds q (fun u hu=>ht u (List.mem_cons_of_mem _ hu)) h2 (fun x hx=>hlt x (List.mem_append_right _ hx)) (fun x hx=>hs x (List.mem_append_right _ hx)),rfl⟩
  exact WideElems.Trod_stays hl (ht t (List.mem_cons_self ..)).1 (ht t (List.mem_cons_self ..)).2 h1 (fun x hx=>hb.same (hlt x (List.mem_append_left _ hx))) (fun x hx=>hs x (List.mem_append_left _ hx))
 | [],[],_::_,_,_,h,_,_=>h.elim
 | [],_::_,_,_,_,h,_,_=>h.elim
 | _::_,[],_,_,_,h,_,_=>h.elim
 | _::_,_::_,[],_,_,h,_,_=>h.elim
theorem Zbt {W:World} {base:Nat} {sp:Nat→Bool} {hd:Bool}:∀ (ts:List TypeId) (vs:List Value) (ds:List (DataW H)) (ps:List MemPlace),DataW.TrodAll enc P W base sp hd ts vs ds ps→ds.length=ts.length
 | [],[],[],_,_=>rfl
 | _::ts,_::vs,_::ds,_,h=>by
  obtain⟨_,_,_,h2,_⟩:=h
  simp[Zbt ts vs ds _ h2]
 | [],[],_::_,_,h=>h.elim
 | [],_::_,_,_,h=>h.elim
 | _::_,[],_,_,h=>h.elim
 | _::_,_::_,[],_,h=>h.elim
end
theorem ZGD {n:Int} (h:(Lit.int .u32 n).wf=true):0≤n∧n<4294967296:=by
 have:=bounds_u32 h; omega
theorem ZMq {n:Int} (h:(Lit.int .u8 n).wf=true):0≤n∧n<256:=by
 have:=bounds_u8 h; omega
theorem ZGE {n:Int} (h:(Lit.int .u16 n).wf=true):0≤n∧n<65536:=by
 have:=bounds_u16 h; omega
end Go.Proofs.YtagacmljbgkmoaaGreatDoor
namespace Go.Proofs.YtagacmljbgkmoaaGreatDoor
open Go.IntKind (u8 u16 u32 u64 i64)
open Go.ChangeShapes Go.WideShapes Go.ChangeAt Go.RowKit
abbrev ZnS:List (String×DataW Unit):=[("fallow/isa.rows",Rows.laid_fallow_isa_rows)]
def Zmm (f:FuncId) (fn:Func):Prop :=
 ∀ (H:Type) (enc:TypeId×Value→H) (W:World) (base:Nat) (args:Array Value) (ds:List (DataW H)) (p:List MemPlace),laidMetH Tryz.prog ZnS W →
  (∀ (j:Nat) t v,fn.params[j]? = some t→args[j]? = some v→Value.okWide Tryz.prog W .any base t v) →
  DataW.TrodAll enc Tryz.prog W 0 (fun _=>true) true fn.params.toList args.toList ds p →
  Calls Tryz.prog f args W fun e W'=>e = .returned (.bool true)∧Below W.heap.size W W'
set_option maxRecDepth 100000 in
theorem ZjG (f:FuncId) (fn:Func) (s:ChangeSpec) (conds:List PathCond) (hfn:Tryz.prog.funcs[f]? = some fn) (noInit:Tryz.prog.inits.idxOf? f=none)
  (hres:fn.resultTypes = #[4])
  (hvars:s.vars=[]) (hspec:∀ (H:Type) (ds:List (DataW H)),ds.length=fn.params.toList.length→(s.fn H (ds++[])).results=[.lit (.bool true)]∧(s.fn H (ds++[])).args=ds∧(s.fn H (ds++[])).vars=[])
  (hts:∀ t∈fn.params.toList,Tryz.prog.readableRec t=true∧t<Tryz.prog.types.size)
  (walk:Zmm f fn) (os:Os) (started:os.Started) (H:Type) (enc:TypeId×Value→H)
  (witness:∃ (w:World) (tape:Tape) (i:Input),w.os=os∧(w.forCall tape i).Shaped Tryz.checked.prog∧i.vars=[]∧Input.okWide Tryz.checked.prog (w.forCall tape i) .any w.heap.size f i ∧
   ((s.pre enc Tryz.checked.prog fn conds false (w.forCall tape i).memory i.args∧laidMetH Tryz.prog ZnS (w.forCall tape i).memory)∧sizedMet enc Tryz.checked.prog fn (OpenSpec.ofChange s) false (w.forCall tape i).memory i.args) ∧
   ({}:Assume).holds Tryz.checked.prog (lone (Frame.enter Tryz.checked.prog f i.args .normal) [] (w.forCall tape i))) :
  ReturnsInHanded {} Tryz.checked os f .any (fun w args=>(s.pre enc Tryz.prog fn conds false w args∧laidMetH Tryz.prog ZnS w)∧sizedMet enc Tryz.prog fn (OpenSpec.ofChange s) false w args) (s.post enc Tryz.prog fn false true false false):=by
 refine returnsInHanded_of_change_and (C:=Tryz.checked) (X:=fun w _=>laidMetH Tryz.prog ZnS w) (fun _ _ _ hh h=>h.of_heap hh) own started noInit hfn witness ?_
 intro W base args ds gs before hval0 hW _ _ hL _
 have hW':=hW
 obtain⟨p,q,hA,hV,rfl,_,_⟩:=hW
 rw[hvars] at hV
 obtain⟨rfl,rfl⟩:=trodVars_none hV
 obtain⟨e1,e2,e3⟩:=hspec H ds (Zbt _ _ _ _ hA)
 refine(walk H enc W base args ds p hL hval0 hA).mono fun e W' ⟨he,hg⟩ => ?_
 subst he
 refine⟨_,rfl,ZgS (pa:=p) (pv:=[]) hW' (fun b sp hd => ?_) (fun sp hsp => ?_) (fun sp _ => ?_) rfl hg ?_⟩
 ·rw[e1,hres]
  exact trodAll_mk1 (shut_bool Tryz.underlying4 _)
 ·rw[e2]
  exact ZcR ZuK hg _ _ _ _ hts hA (fun x hx=>hW'.lt x (List.mem_append_left _ hx)) (fun x hx=>hsp x (List.mem_append_left _ hx))
 ·rw[e3,hvars]; rfl
 ·exact ok_one hres rfl (okWide_bool_mk Tryz.underlying4 _)
theorem ZqM (os:Os) (args:Array Value):laidMetH Tryz.prog ZnS ((World.doorLaid Tryz.prog 400 os).forCall (fun _ _=>0) ⟨#[],args,[]⟩).memory :=
 laidMetH_of_parts3 (fuel:=8) (laidMet_of_run' 8 (by kernel_rfl) (by kernel_rfl)) (by kernel_rfl) (by kernel_rfl)
end Go.Proofs.YtagacmljbgkmoaaGreatDoor
namespace Go.Proofs.YtagacmljbgkmoaaGreatDoor
open Go.IntKind (u8 u16 u32 u64 i64)
open Go.ChangeShapes Go.WideShapes Go.ChangeAt Go.RowKit
def ZFd (w:World) (g:Nat) (cs:List Value):Prop:=∃ (arr:Array Value) (ty:TypeId),w.heap[g]? = some (.cells arr ty (0,0))∧arr.toList=cs
def ZK:List Value:=[.string ⟨⟨[]⟩⟩,.string ⟨⟨[]⟩⟩,.string ⟨⟨[108,105]⟩⟩,.string ⟨⟨[97,105]⟩⟩,.string ⟨⟨[108,117,105]⟩⟩,.string ⟨⟨[97,106]⟩⟩,.string ⟨⟨[97,100,100]⟩⟩,.string ⟨⟨[97,98,99]⟩⟩,.string ⟨⟨[115,117,98]⟩⟩,.string ⟨⟨[97,98,99]⟩⟩,.string ⟨⟨[109,117,108]⟩⟩,.string ⟨⟨[97,98,99]⟩⟩,.string ⟨⟨[100,105,118]⟩⟩,.string ⟨⟨[97,98,99]⟩⟩,.string ⟨⟨[114,101,109]⟩⟩,.string ⟨⟨[97,98,99]⟩⟩,.string ⟨⟨[97,110,100]⟩⟩,.string ⟨⟨[97,98,99]⟩⟩,.string ⟨⟨[111,114]⟩⟩,.string ⟨⟨[97,98,99]⟩⟩,.string ⟨⟨[120,111,114]⟩⟩,.string ⟨⟨[97,98,99]⟩⟩,.string ⟨⟨[115,104,108]⟩⟩,.string ⟨⟨[97,98,99]⟩⟩,.string ⟨⟨[115,104,114]⟩⟩,.string ⟨⟨[97,98,99]⟩⟩,.string ⟨⟨[108,116]⟩⟩,.string ⟨⟨[97,98,99]⟩⟩,.string ⟨⟨[108,116,117]⟩⟩,.string ⟨⟨[97,98,99]⟩⟩,.string ⟨⟨[101,113]⟩⟩,.string ⟨⟨[97,98,99]⟩⟩,.string ⟨⟨[97,100,100,105]⟩⟩,.string ⟨⟨[97,98,105]⟩⟩,.string ⟨⟨[108,98]⟩⟩,.string ⟨⟨[97,98,105]⟩⟩,.string ⟨⟨[108,104]⟩⟩,.string ⟨⟨[97,98,105]⟩⟩,.string ⟨⟨[108,119]⟩⟩,.string ⟨⟨[97,98,105]⟩⟩,.string ⟨⟨[115,98]⟩⟩,.string ⟨⟨[97,98,105]⟩⟩,.string ⟨⟨[115,104]⟩⟩,.string ⟨⟨[97,98,105]⟩⟩,.string ⟨⟨[115,119]⟩⟩,.string ⟨⟨[97,98,105]⟩⟩,.string ⟨⟨[108,99]⟩⟩,.string ⟨⟨[97,98,105]⟩⟩,.string ⟨⟨[115,99]⟩⟩,.string ⟨⟨[97,98,105]⟩⟩,.string ⟨⟨[98,101,113]⟩⟩,.string ⟨⟨[97,98,105]⟩⟩,.string ⟨⟨[98,110,101]⟩⟩,.string ⟨⟨[97,98,105]⟩⟩,.string ⟨⟨[98,108,116]⟩⟩,.string ⟨⟨[97,98,105]⟩⟩,.string ⟨⟨[98,103,101]⟩⟩,.string ⟨⟨[97,98,105]⟩⟩,.string ⟨⟨[106,97,108]⟩⟩,.string ⟨⟨[97,106]⟩⟩,.string ⟨⟨[106,97,108,114]⟩⟩,.string ⟨⟨[97,98]⟩⟩,.string ⟨⟨[109,111,118,101]⟩⟩,.string ⟨⟨[97,98]⟩⟩,.string ⟨⟨[105,110,99]⟩⟩,.string ⟨⟨[97,98,99]⟩⟩,.string ⟨⟨[105,110,99,105]⟩⟩,.string ⟨⟨[97,98,105]⟩⟩,.string ⟨⟨[97,100,100,114]⟩⟩,.string ⟨⟨[97,98,99]⟩⟩,.string ⟨⟨[115,101,116]⟩⟩,.string ⟨⟨[97,98,99]⟩⟩,.string ⟨⟨[101,120,97,99,116]⟩⟩,.string ⟨⟨[97,98,99]⟩⟩,.string ⟨⟨[97,110,100,115]⟩⟩,.string ⟨⟨[97,98,99]⟩⟩,.string ⟨⟨[115,101,97,108]⟩⟩,.string ⟨⟨[97,98,99]⟩⟩,.string ⟨⟨[111,112,101,110]⟩⟩,.string ⟨⟨[97,98,99]⟩⟩,.string ⟨⟨[98,117,105,108,100]⟩⟩,.string ⟨⟨[97,98,99]⟩⟩,.string ⟨⟨[99,108,101,97,114]⟩⟩,.string ⟨⟨[97,98]⟩⟩,.string ⟨⟨[103,97,100,100,114]⟩⟩,.string ⟨⟨[97,98]⟩⟩,.string ⟨⟨[103,98,97,115,101]⟩⟩,.string ⟨⟨[97,98]⟩⟩,.string ⟨⟨[103,108,101,110]⟩⟩,.string ⟨⟨[97,98]⟩⟩,.string ⟨⟨[103,112,101,114,109]⟩⟩,.string ⟨⟨[97,98]⟩⟩,.string ⟨⟨[103,116,121,112,101]⟩⟩,.string ⟨⟨[97,98]⟩⟩,.string ⟨⟨[103,116,97,103]⟩⟩,.string ⟨⟨[97,98]⟩⟩,.string ⟨⟨[105,115,105,110,116]⟩⟩,.string ⟨⟨[97,98]⟩⟩,.string ⟨⟨[112,99]⟩⟩,.string ⟨⟨[97,106]⟩⟩,.string ⟨⟨[99,97,108,108]⟩⟩,.string ⟨⟨[97,98]⟩⟩,.string ⟨⟨[114,101,116]⟩⟩,.string ⟨⟨[]⟩⟩,.string ⟨⟨[101,99,97,108,108]⟩⟩,.string ⟨⟨[105]⟩⟩,.string ⟨⟨[116,114,97,112]⟩⟩,.string ⟨⟨[]⟩⟩]
def ZGF {H:Type}:DataW H→Value
 | .lit (.string b) => .string ⟨⟨b⟩⟩
 | _=>undef
def ZAG {H:Type}:DataW H→List Value
 | .agg [a,b]=>[ZGF a,ZGF b]
 | _=>[]
def ZuL {H:Type}:DataW H→List (DataW H)
 | .agg l=>l
 | _=>[]
theorem Zxr:(ZuL (Rows.laid_fallow_isa_rows (H:=Unit))).flatMap ZAG=ZK:=by kernel_rfl
theorem ZMr:Tryz.prog.globalNamed "fallow/isa.rows" = some 0:=by kernel_rfl
theorem ZMs:(Tryz.prog.globals[0]?).map (·.type)=some 204:=by kernel_rfl
theorem ZAH:∀ (L:List (List Value)) (cs:List Value),cs.length=L.length*2→(∀ i,i<L.length→(cs.drop (i*2)).take 2=L.getD i [])→cs=L.flatten
 | [],cs,h,_=>by simpa using h
 | x::L,cs,h,hi=>by
  have h0:=hi 0 (by simp)
  simp at h0
  rw[List.flatten_cons,← h0]
  have:=ZAH L (cs.drop 2) (by simp at h ⊢; omega) (fun i hl=>by
   have:=hi (i+1) (by simpa using hl)
   rw[List.drop_drop]
   simp only[List.getD_cons_succ] at this
   rw[← this]
   congr 2; omega)
  rw[← this]
  exact(List.take_append_drop 2 cs).symm
set_option maxRecDepth 100000 in
theorem ZnT {W:World} (h:laidMetH Tryz.prog ZnS W):ZFd W 0 ZK:=by
 rw[MakeChecks.laidMetH_plain _ _ _ (by kernel_rfl)] at h
 obtain⟨ps,⟨g0,t0,cs0,f0,p0,q0,hg0,ht0,hv0,hd0,_,hps⟩,_,hall⟩:=h
 obtain rfl:=Option.some.inj (ZMr.symm.trans hg0)
 obtain rfl:=Option.some.inj (ZMs.symm.trans ht0)
 obtain⟨xs,m,rfl,hx,hlen,hxl,hg⟩:=DataW.trod_array Tryz.underlying204 hd0
 have hL:ZuL (Rows.laid_fallow_isa_rows (H:=Unit))=xs.map (·.1):=by
  have:=congrArg Prod.fst hx
  simp only at this
  rw[this]; rfl
 have hC:Tryz.prog.cellsOf 186=2:=by kernel_rfl
 have hsz:cs0.toList.length=108:=hlen.trans (by kernel_rfl)
 have each:∀ i,i<54→(cs0.toList.drop (i*2)).take 2=((xs.map (·.1)).map ZAG).getD i []:=by
  intro i hi
  have h1:=hg i hi
  rw[hC,List.getElem?_eq_getElem (by omega)] at h1
  obtain⟨ys,n,_,hy,hcl,hyl,hf⟩:=DataW.trod_struct Tryz.underlying186 h1
  have hcl:((cs0.toList.drop (i*2)).take 2).length=2:=hcl.trans hC
  have f0:=hf 0 _ rfl
  have f1:=hf 1 _ rfl
  match hc:(cs0.toList.drop (i*2)).take 2,hcl with
  | [a,b],_ =>
   rw[hc] at f0 f1
   match ys,hyl with
   | [y0,y1],_ =>
    obtain⟨s0,e0,d0,_⟩:=DataW.trod_string (x:=y0) Tryz.underlying9 f0
    obtain⟨s1,e1,d1,_⟩:=DataW.trod_string (x:=y1) Tryz.underlying9 f1
    have hS:Tryz.prog.cellsOf 9=1:=by kernel_rfl
    replace e0:List.take (Tryz.prog.cellsOf 9) [a,b]=[.string s0]:=e0
    replace e1:List.take (Tryz.prog.cellsOf 9) [b]=[.string s1]:=e1
    rw[hS] at e0 e1
    have e0:a = .string s0:=by simpa using e0
    have e1:b = .string s1:=by simpa using e1
    subst e0 e1 d0 d1
    have hx1:(xs[i]'(by omega)).1 = .agg [.lit (.string s0.data.toList),.lit (.string s1.data.toList)]:=congrArg Prod.fst hy
    rw[List.getD_eq_getElem?_getD,List.getElem?_map,List.getElem?_map,List.getElem?_eq_getElem (by omega)]
    simp only[Option.map_some,Option.getD_some,hx1]
    rfl
 have hcs:cs0.toList=ZK:=by
  rw[← Zxr,hL,List.flatMap_def]
  exact ZAH _ _ (by simp[hsz,hxl]) fun i hi=>each i (by simpa [hxl] using hi)
 have h0:MemPlace.cell 0 0∈ps:=by
  rw[hps]
  refine List.mem_append_left _ (List.mem_append_left _ ?_)
  have:cs0.size=108:=by simpa using hsz
  rw[this]
  simp[MemPlace.row,List.range_succ]
 obtain⟨c,ty,hb⟩:=(hall 0 0 h0).1
 refine⟨c,ty,hb,?_⟩
 unfold World.var? at hv0
 rw[hg0] at hv0
 simp only[Option.bind_some] at hv0
 rw[hb] at hv0
 cases hv0
 exact hcs
end Go.Proofs.YtagacmljbgkmoaaGreatDoor
namespace Go.Proofs.YtagacmljbgkmoaaGreatDoor
open Go.IntKind (u8 u16 u32 u64 i64)
open Go.RowKit
open Sy
set_option maxRecDepth 100000
def Y3 (rc:List Value):Sy.Heap:=[(0,⟨false,none,rc,none⟩)]
def gwC (f:List Value) (rc:List Value) (v:Value):Con:=⟨f,64,Y3 rc,[],v,64,[],[]⟩
def enL (i:In) (rc:List Value) (x:UInt8) (xs bs:List UInt8):Sy.Steps:=[(65,129,gwC [.int .i64 i.op] rc (.string ⟨⟨x::xs⟩⟩),[]),(67,123,gwC [.int .i64 i.op] rc (.string ⟨⟨bs⟩⟩),[])]
def VM (a:Int):=ZoQ a YD
def Zfg (a b:Int):=ZoQ a (b:Int)
def ZhZ (a b c d e f:Prop):=Zhj (ZB5 a b c d e f)
def ZkY (a b c d e f g:Prop):=JO (Zhj a) (ZhZ b c d e f g)
def Qk:=(97:UInt8)
def Yp (a:List Value) (b c:Nat):=ZtA (Y3 a) b c
def Zb4 (a:Nat) (b:List Value):=Jk 64 a [] b
def ZuN (a b c d e f g h:Prop):=ZlU a (ZkY b c d e f g h)
def Y7:=(105:UInt8)
def ZZ (a:Nat→Bool):=okV a 3
def Jr (a:Int):=Zfg a 2048
def ZuO:=-2048
def Xo (a:Int):=Zgs a ZuO
def ZqN (a:Prop) (b c:Int) (d e f g h i:Prop):=ZuN a (ZhU b c) d e f g h i
def YG (a:List Value):=Zb4 65 a
def ZqO (a:Prop) (b c d e f g:Int):=ZnI a (Qf b) (Qf c) (Qf d) (Qf e) (Qf f) (Qf g)
def YP (a:List Value):=Zb4 67 a
def ZjH (a b:Int):=Zc8 (u32.wrap a) b
def ZgT (a:Prop) (b c:Int) (d e f g h i:Bool):=Zc6 a (VM b) (VM c) d e f g h i
def ZnU (a b c:Prop):=ZdW (V9 a) b c
def Zbc (a b:Int):=Znp u32 (u32.wrap a) (b:Int)
def ZkZ:=(1048576:Int)
def Zh0 (a:Int) (b c d:Prop) (e:List UInt8):=QF (Zfa (ZkY (ZhU a a) b c b b b d)) (Zv e [])
def Zk0 (a:Prop) (b:Int) (c d e:Prop):=ZqN a b b c d c c c e∧c
def ZjI (a:Prop) (b c d e:Int) (f g:Bool):=ZgT a b c (VM d) (VM e) f f g g
def Zaw (a:Prop) (b:Int):=ZqO (ZdX a) b b b b b b
def Zhq (a:Prop):=ZnU a Ze Ze
def ZcS (a:Prop):=Zhq (Q6 a)
def KD (a:Prop) (b c d e f:Int) (g:Bool):=ZjI a b c d e (VM f) g
def Wc (a:Int) (b c:Prop) (d:List UInt8) (e:Prop):=Q6 (Zk0 (Zh0 a Ze b c d) a Ze b e)
def Z7:=Bx.mk (aI @VM.eq_1 (aI @Zfg.eq_1 (aI @ZhZ.eq_1 (aI @ZkY.eq_1 (aI @Qk.eq_1 (aI @Yp.eq_1 (aI @Zb4.eq_1 (aI @ZuN.eq_1 (aI @Y7.eq_1 (aI @ZZ.eq_1 (aI @Jr.eq_1 (aI @ZuO.eq_1 (aI @Xo.eq_1 (aI @ZqN.eq_1 (aI @YG.eq_1 (aI @ZqO.eq_1 (aI @YP.eq_1 (aI @ZjH.eq_1 (aI @ZgT.eq_1 (aI @ZnU.eq_1 (aI @Zbc.eq_1 (aI @ZkZ.eq_1 (aI @Zh0.eq_1 (aI @Zk0.eq_1 (aI @ZjI.eq_1 (aI @Zaw.eq_1 (aI @Zhq.eq_1 (aI @ZcS.eq_1 (aI @KD.eq_1 @Wc.eq_1)))))))))))))))))))))))))))))
theorem ZuM (i:In) (x:UInt8) (xs:List UInt8) (rc:List Value):obs (evF Tryz.prog (Zk 3 (Za (enL i rc x xs [Qk,Y7])) Zc) Zb 100 20 70 [i.val] (Yp rc 44 12976142))=Zd6 (Jq (ZjH i.op KO) (Zbc i.a 15*ZkZ) (Zbc i.m 4095*Yg)) (Zbr (V9 (Ya (KD (ZcS (Zaw (Wc i.op (rc.all (ZZ (fun l=>l.blt 64))=true) (rc=YG rc) (x::xs) (rc=YP rc)) i.a)) i.a i.a i.a i.a i.a (Xo i.m)) (Xo i.m))) (Jr i.m) (!(i.op==i.op&&(i.b==Zr&&VE (i.c==Zr))))):=by kernel_rfl
def ZCq:=Bx.mk (by have h:=@ZuM;simp(maxSteps:=99999999) only[Zx.v,ZF.v,V7.v,ZD.v,ZO.v,ZU.v,Zp.v,ZH.v,Zl.v,ZB.v,Zo.v,Zq.v,Zy.v,Yj.v,QA.v,YV.v,Xm.v,Zd7.v,Xy.v,Z7.v,-eq_self] at h;exact h)
def Zfh (a b:Prop):=V9 a∧b
def Zfi (a:Prop):=UK KC Jl a
def ZuP (a b c:Prop):=Zfh (a∧b) c
def ZqP (a b c:Prop):=Zfi ((a∧b)∧c)
def Zfj (a:Int):=Qf a=true
def ZjJ (a:Prop) (b:Int):=a∧Zfj b
def Zbd (a:Prop) (b c:Int):=ZjJ (ZjJ a b) c
def Zh1 (a b c:Prop):=ZuP (a∧b) b c
def Zh2 (a b c:Prop):=ZqP ((a∧b)∧b) b c
def Zbu (a:Prop):=Zh1 a Ze Ze
def Zd8 (a:Prop):=Zh2 (ZL a) Ze Ze
def KE (a:Prop):=Zd8 (Zbu a)
def QX:=Bx.mk (aI @Zfh.eq_1 (aI @Zfi.eq_1 (aI @ZuP.eq_1 (aI @ZqP.eq_1 (aI @Zfj.eq_1 (aI @ZjJ.eq_1 (aI @Zbd.eq_1 (aI @Zh1.eq_1 (aI @Zh2.eq_1 (aI @Zbu.eq_1 (aI @Zd8.eq_1 @KE.eq_1)))))))))))
theorem ZrY (i:In) (x:UInt8) (xs:List UInt8) (rc:List Value):obs (evF Tryz.prog (Zk 3 (Za (enL i rc x xs [Qk,Y7])) Zc) Zb 100 20 70 [i.val] (Yp rc 44 17386023942158))=KE (ZcK (ZcM (V9 (Q6 (Zbd (ZdY (Za4 (Wc i.op (rc.all (ZZ (fun l=>l.blt 64))=true) (rc=YG rc) (x::xs) (rc=YP rc))) (Zfj i.a)) i.a i.a))))):=by kernel_rfl
def Zxs:=Bx.mk (by have h:=@ZrY;simp(maxSteps:=99999999) only[Zx.v,ZF.v,ZD.v,ZO.v,ZU.v,ZR.v,Zp.v,ZH.v,XB.v,Zl.v,ZB.v,Zo.v,Zq.v,Zy.v,Yj.v,ZA.v,Z7.v,QX.v,-eq_self] at h;exact h)
def Zbe (a:Int):=VM a=true
def ZgU (a:Prop) (b:Int):=a∧Zbe b
def Zfk (a:Prop) (b c:Int):=ZgU (ZgU a b) c
def Zmn:=Bx.mk (aI @Zbe.eq_1 (aI @ZgU.eq_1 @Zfk.eq_1))
theorem ZrZ (i:In) (x:UInt8) (xs:List UInt8) (rc:List Value):obs (evF Tryz.prog (Zk 3 (Za (enL i rc x xs [Qk,Y7])) Zc) Zb 100 20 70 [i.val] (Yp rc 44 17386023813134))=KE (WA (Zfk (Zfk (ZqD (V9 (Q6 (Zaw (Wc i.op (rc.all (ZZ (fun l=>l.blt 64))=true) (rc=YG rc) (x::xs) (rc=YP rc)) i.a))) Ze (Zbe i.a) (Zbe i.a)) i.a i.a) i.a i.a)):=by kernel_rfl
def Zxt:=Bx.mk (by have h:=@ZrZ;simp(maxSteps:=99999999) only[Zx.v,ZF.v,ZD.v,ZO.v,ZU.v,ZR.v,Zp.v,ZH.v,XB.v,Zl.v,ZB.v,Zo.v,Zq.v,Zy.v,Yj.v,ZA.v,Z7.v,QX.v,Zmn.v,-eq_self] at h;exact h)
theorem Zr0 (i:In) (x:UInt8) (xs:List UInt8) (rc:List Value):obs (evF Tryz.prog (Zk 3 (Za (enL i rc x xs [Qk,Y7])) Zc) Zb 100 20 70 [i.val] (Yp rc 44 17384966848526))=Zd8 (Zh1 ((((KA (ZcS (Zaw (Wc i.op (rc.all (ZZ (fun l=>l.blt 64))=true) (rc=YG rc) (x::xs) (rc=YP rc)) i.a)) (VM i.a)∧Xo i.m=true)∧Xo i.m=true)∧Xo i.m=true)∧Xo i.m=true) (Xo i.m=true) Ze):=by kernel_rfl
def Zxu:=Bx.mk (by have h:=@Zr0;simp(maxSteps:=99999999) only[Zx.v,ZF.v,ZD.v,ZO.v,ZU.v,ZR.v,Zp.v,ZH.v,XB.v,Zl.v,ZB.v,Zo.v,Zq.v,Zy.v,Yj.v,Xh.v,ZA.v,Z7.v,QX.v,-eq_self] at h;exact h)
theorem Zr1 (i:In) (x:UInt8) (xs:List UInt8) (rc:List Value):obs (evF Tryz.prog (Zk 3 (Za (enL i rc x xs [Qk,Y7])) Zc) Zb 100 20 70 [i.val] (Yp rc 44 17317321113614))=Zh2 (Zfh (Ya (KD (ZcS (Zaw (Wc i.op (rc.all (ZZ (fun l=>l.blt 64))=true) (rc=YG rc) (x::xs) (rc=YP rc)) i.a)) i.a i.a i.a i.a i.a (Xo i.m)) (Xo i.m)) (Jr i.m=true)∧Jr i.m=true) (Jr i.m=true) Ze:=by kernel_rfl
def Zxv:=Bx.mk (by have h:=@Zr1;simp(maxSteps:=99999999) only[Zx.v,ZF.v,ZD.v,ZO.v,ZU.v,ZR.v,Zp.v,ZH.v,XB.v,Zl.v,ZB.v,Zo.v,Zq.v,Zy.v,Yj.v,QA.v,Xm.v,ZA.v,Xy.v,Z7.v,QX.v,-eq_self] at h;exact h)
def Uz (a:Prop) (b:Int):=Ya a (VM b)
def Zkj:=Bx.mk @Uz.eq_1
theorem ZuQ (i:In) (x:UInt8) (xs:List UInt8) (rc:List Value):obs (evF Tryz.prog (Zk 3 (Za (enL i rc x xs [Qk,Y7])) Zc) Zb 100 20 70 [i.val] (Yp rc 44 8796105998350))=Zfi (KP (Ya (V9 (ZgT (Uz (ZcS (Zaw (Wc i.op (rc.all (ZZ (fun l=>l.blt 64))=true) (rc=YG rc) (x::xs) (rc=YP rc)) i.a)) i.a) i.a i.a (Xo i.m) (Xo i.m) (Xo i.m) (Xo i.m) (Xo i.m) (Xo i.m))) (Jr i.m)) (Jr i.m) ((!(i.op==i.op&&(i.b==Zr&&VE (i.c==Zr))))=true)):=by kernel_rfl
def ZCr:=Bx.mk (by have h:=@ZuQ;simp(maxSteps:=99999999) only[Zx.v,ZF.v,ZD.v,ZO.v,ZU.v,ZR.v,Zp.v,ZH.v,XB.v,Zl.v,ZB.v,Zo.v,Zq.v,Zy.v,Yj.v,QA.v,Xm.v,ZA.v,Xy.v,Z7.v,QX.v,Zkj.v,-eq_self] at h;exact h)
def ZjK:=-524288
def ZjL (a:Int):=Zfg a 524288
def Zb5:=(106:UInt8)
def Ul (a:Int):=Zgs a ZjK
def ZuS (a b:Prop):=Ka a∧b
def JP (a:Prop):=ZuS a Ze
def Zd9 (a:Prop):=ZL (JP a)
def UA:=Bx.mk (aI @ZjK.eq_1 (aI @ZjL.eq_1 (aI @Zb5.eq_1 (aI @Ul.eq_1 (aI @ZuS.eq_1 (aI @JP.eq_1 @Zd9.eq_1))))))
theorem ZuR (i:In) (x:UInt8) (xs:List UInt8) (rc:List Value):obs (evF Tryz.prog (Zk 3 (Za (enL i rc x xs [Qk,Zb5])) Zc) Zb 100 20 70 [i.val] (Yp rc 45 25559054))=Zd6 (Jq (ZjH i.op KO) (Zbc i.a 15*ZkZ) (Zbc i.m 1048575*Yg)) (Zbr (V9 (XR (ZjI (XR (Zd9 (Q6 (Zaw (Wc i.op (rc.all (ZZ (fun l=>l.blt 64))=true) (rc=YG rc) (x::xs) (rc=YP rc)) i.a))) (VM i.a)) i.a i.a i.a i.a (Ul i.m) (Ul i.m)) (Ul i.m))) (ZjL i.m) (!(i.op==i.op&&(i.b==Zr&&VE (i.c==Zr))))):=by kernel_rfl
def ZCs:=Bx.mk (by have h:=@ZuR;simp(maxSteps:=99999999) only[Zx.v,ZF.v,V7.v,ZD.v,ZO.v,ZU.v,Zp.v,ZH.v,Zl.v,ZB.v,Zo.v,Zq.v,Zy.v,Yj.v,QA.v,YV.v,Zd7.v,Z7.v,UA.v,-eq_self] at h;exact h)
theorem Zr2 (i:In) (x:UInt8) (xs:List UInt8) (rc:List Value):obs (evF Tryz.prog (Zk 3 (Za (enL i rc x xs [Qk,Zb5])) Zc) Zb 100 20 70 [i.val] (Yp rc 45 34772047362062))=KE (ZL (ZcL (JP (Q6 (Zbd (ZdY (Za4 (Wc i.op (rc.all (ZZ (fun l=>l.blt 64))=true) (rc=YG rc) (x::xs) (rc=YP rc))) (Zfj i.a)) i.a i.a))))):=by kernel_rfl
def Zxw:=Bx.mk (by have h:=@Zr2;simp(maxSteps:=99999999) only[Zx.v,ZF.v,ZD.v,ZO.v,ZU.v,ZR.v,Zp.v,ZH.v,XB.v,Zl.v,ZB.v,Zo.v,Zq.v,Zy.v,Yj.v,ZA.v,Z7.v,QX.v,UA.v,-eq_self] at h;exact h)
theorem Zr3 (i:In) (x:UInt8) (xs:List UInt8) (rc:List Value):obs (evF Tryz.prog (Zk 3 (Za (enL i rc x xs [Qk,Zb5])) Zc) Zb 100 20 70 [i.val] (Yp rc 45 34772047233038))=KE (WA (Zfk (ZgU (Zfk (ZgU (Zd9 (Q6 (Zaw (Wc i.op (rc.all (ZZ (fun l=>l.blt 64))=true) (rc=YG rc) (x::xs) (rc=YP rc)) i.a))) i.a) i.a i.a) i.a) i.a i.a)):=by kernel_rfl
def Zxx:=Bx.mk (by have h:=@Zr3;simp(maxSteps:=99999999) only[Zx.v,ZF.v,ZD.v,ZO.v,ZU.v,ZR.v,Zp.v,ZH.v,XB.v,Zl.v,ZB.v,Zo.v,Zq.v,Zy.v,Yj.v,ZA.v,Z7.v,QX.v,Zmn.v,UA.v,-eq_self] at h;exact h)
theorem Zr4 (i:In) (x:UInt8) (xs:List UInt8) (rc:List Value):obs (evF Tryz.prog (Zk 3 (Za (enL i rc x xs [Qk,Zb5])) Zc) Zb 100 20 70 [i.val] (Yp rc 45 34769933303822))=Zd8 (Zh1 ((((KA (Zd9 (Q6 (Zaw (Wc i.op (rc.all (ZZ (fun l=>l.blt 64))=true) (rc=YG rc) (x::xs) (rc=YP rc)) i.a))) (VM i.a)∧Ul i.m=true)∧Ul i.m=true)∧Ul i.m=true)∧Ul i.m=true) (Ul i.m=true) Ze):=by kernel_rfl
def Zxy:=Bx.mk (by have h:=@Zr4;simp(maxSteps:=99999999) only[Zx.v,ZF.v,ZD.v,ZO.v,ZU.v,ZR.v,Zp.v,ZH.v,XB.v,Zl.v,ZB.v,Zo.v,Zq.v,Zy.v,Yj.v,Xh.v,ZA.v,Z7.v,QX.v,UA.v,-eq_self] at h;exact h)
theorem Zr5 (i:In) (x:UInt8) (xs:List UInt8) (rc:List Value):obs (evF Tryz.prog (Zk 3 (Za (enL i rc x xs [Qk,Zb5])) Zc) Zb 100 20 70 [i.val] (Yp rc 45 34634641833998))=Zh2 (Zfh (Ya (KD (Zd9 (Q6 (Zaw (Wc i.op (rc.all (ZZ (fun l=>l.blt 64))=true) (rc=YG rc) (x::xs) (rc=YP rc)) i.a))) i.a i.a i.a i.a i.a (Ul i.m)) (Ul i.m)) (ZjL i.m=true)∧ZjL i.m=true) (ZjL i.m=true) Ze:=by kernel_rfl
def Zxz:=Bx.mk (by have h:=@Zr5;simp(maxSteps:=99999999) only[Zx.v,ZF.v,ZD.v,ZO.v,ZU.v,ZR.v,Zp.v,ZH.v,XB.v,Zl.v,ZB.v,Zo.v,Zq.v,Zy.v,Yj.v,QA.v,Xm.v,ZA.v,Xy.v,Z7.v,QX.v,UA.v,-eq_self] at h;exact h)
theorem ZuT (i:In) (x:UInt8) (xs:List UInt8) (rc:List Value):obs (evF Tryz.prog (Zk 3 (Za (enL i rc x xs [Qk,Zb5])) Zc) Zb 100 20 70 [i.val] (Yp rc 45 17592211603470))=Zfi (KP (Ya (V9 (ZgT (Uz (Zd9 (Q6 (Za6 (XR (ZdX (Wc i.op (rc.all (ZZ (fun l=>l.blt 64))=true) (rc=YG rc) (x::xs) (rc=YP rc))) (Qf i.a)) i.a i.a i.a (Qf i.a)))) i.a) i.a i.a (Ul i.m) (Ul i.m) (Ul i.m) (Ul i.m) (Ul i.m) (Ul i.m))) (ZjL i.m)) (ZjL i.m) ((!(i.op==i.op&&(i.b==Zr&&VE (i.c==Zr))))=true)):=by kernel_rfl
def ZCt:=Bx.mk (by have h:=@ZuT;simp(maxSteps:=99999999) only[Zx.v,ZF.v,ZD.v,ZO.v,ZU.v,ZR.v,Zp.v,ZH.v,XB.v,Zl.v,ZB.v,Zo.v,Zq.v,Zy.v,QA.v,Xm.v,ZA.v,Xy.v,Z7.v,QX.v,Zkj.v,UA.v,-eq_self] at h;exact h)
def YB:=(98:UInt8)
def UN:=(99:UInt8)
def ZqQ (a b:Prop):=Y5 (ZnK a b b)
def ZjM (a:Prop) (b:Int):=ZL (Zaw a b)
def KF (a:Int) (b c:Prop) (d:List UInt8) (e:Prop) (f:Int):=ZqQ (ZjM (Wc a b c d e) f) Ze
def WG:=Bx.mk (aI @YB.eq_1 (aI @UN.eq_1 (aI @ZqQ.eq_1 (aI @ZjM.eq_1 @KF.eq_1))))
theorem Zr6 (i:In) (x:UInt8) (xs:List UInt8) (rc:List Value):obs (evF Tryz.prog (Zk 3 (Za (enL i rc x xs [Qk,YB,UN])) Zc) Zb 100 20 70 [i.val] (Yp rc 60 326418956302))=Zd6 (Jq (Zc5 (ZjH i.op KO) (Zbc i.a 15*ZkZ)) (Zbc i.b 15*Wk) (Zbc i.c 15*(4096:Int))) (Zbr (V9 (ZgT (Uz (Y5 (Zbu (Za6 (KD (KF i.op (rc.all (ZZ (fun l=>l.blt 64))=true) (rc=YG rc) (x::xs) (rc=YP rc) i.a) i.a i.a i.a i.a i.a (Qf i.b)) i.b i.b i.b (Qf i.b)))) i.b) i.b i.b (Qf i.c) (Qf i.c) (Qf i.c) (Qf i.c) (Qf i.c) (Qf i.c))) (VM i.c) (!(i.op==i.op&&VE (i.m==Zr)))):=by kernel_rfl
def ZxA:=Bx.mk (by have h:=@Zr6;simp(maxSteps:=99999999) only[Zx.v,ZF.v,V7.v,ZD.v,ZO.v,ZU.v,Zp.v,ZH.v,Zl.v,ZB.v,Zo.v,Zq.v,Zy.v,Yj.v,QA.v,YV.v,Xm.v,Zd7.v,Xy.v,Z7.v,QX.v,Zkj.v,WG.v,-eq_self] at h;exact h)
def WB (a:Prop):=ZnK a Ze Ze
def Zea:=Bx.mk @WB.eq_1
theorem Zo9 (i:In) (x:UInt8) (xs:List UInt8) (rc:List Value):obs (evF Tryz.prog (Zk 3 (Za (enL i rc x xs [Qk,YB,UN])) Zc) Zb 100 20 70 [i.val] (Yp rc 60 1139409949807867918))=KE (ZdZ (Zbu (ZcK (ZcM (WB (ZL (Zbd (ZdY (Za4 (Wc i.op (rc.all (ZZ (fun l=>l.blt 64))=true) (rc=YG rc) (x::xs) (rc=YP rc))) (Zfj i.a)) i.a i.a))))))):=by kernel_rfl
def ZuU:=Bx.mk (by have h:=@Zo9;simp(maxSteps:=99999999) only[Zx.v,ZF.v,ZD.v,ZO.v,ZU.v,ZR.v,Zp.v,ZH.v,XB.v,Zl.v,ZB.v,Zo.v,Zq.v,Zy.v,Yj.v,QA.v,ZA.v,Z7.v,QX.v,WG.v,Zea.v,-eq_self] at h;exact h)
theorem Zpa (i:In) (x:UInt8) (xs:List UInt8) (rc:List Value):obs (evF Tryz.prog (Zk 3 (Za (enL i rc x xs [Qk,YB,UN])) Zc) Zb 100 20 70 [i.val] (Yp rc 60 1139409949807738894))=KE (ZdZ (Zbu (ZdV (Zfk (ZdY (WB (ZjM (Wc i.op (rc.all (ZZ (fun l=>l.blt 64))=true) (rc=YG rc) (x::xs) (rc=YP rc)) i.a)) (Zbe i.a)) i.a i.a)))):=by kernel_rfl
def ZuV:=Bx.mk (by have h:=@Zpa;simp(maxSteps:=99999999) only[Zx.v,ZF.v,ZD.v,ZO.v,ZU.v,ZR.v,Zp.v,ZH.v,XB.v,Zl.v,ZB.v,Zo.v,Zq.v,Zy.v,Yj.v,QA.v,ZA.v,Z7.v,QX.v,Zmn.v,WG.v,Zea.v,-eq_self] at h;exact h)
theorem Zpb (i:In) (x:UInt8) (xs:List UInt8) (rc:List Value):obs (evF Tryz.prog (Zk 3 (Za (enL i rc x xs [Qk,YB,UN])) Zc) Zb 100 20 70 [i.val] (Yp rc 60 1139409949543497742))=KE (ZdZ (Zbu (Zbd (ZjJ (Zbd (ZjJ (Uz (XR (KF i.op (rc.all (ZZ (fun l=>l.blt 64))=true) (rc=YG rc) (x::xs) (rc=YP rc) i.a) (VM i.a)) i.a) i.b) i.b i.b) i.b) i.b i.b))):=by kernel_rfl
def ZuW:=Bx.mk (by have h:=@Zpb;simp(maxSteps:=99999999) only[Zx.v,ZF.v,ZD.v,ZO.v,ZU.v,ZR.v,Zp.v,ZH.v,XB.v,Zl.v,ZB.v,Zo.v,Zq.v,Zy.v,Yj.v,QA.v,Xm.v,ZA.v,Xy.v,Z7.v,QX.v,Zkj.v,WG.v,-eq_self] at h;exact h)
theorem Zpc (i:In) (x:UInt8) (xs:List UInt8) (rc:List Value):obs (evF Tryz.prog (Zk 3 (Za (enL i rc x xs [Qk,YB,UN])) Zc) Zb 100 20 70 [i.val] (Yp rc 60 1139409932632064014))=KE (WA (Zfk (ZdY (Zbu (Za6 (KD (KF i.op (rc.all (ZZ (fun l=>l.blt 64))=true) (rc=YG rc) (x::xs) (rc=YP rc) i.a) i.a i.a i.a i.a i.a (Qf i.b)) i.b i.b i.b (Qf i.b))) (Zbe i.b)) i.b i.b)):=by kernel_rfl
def ZuX:=Bx.mk (by have h:=@Zpc;simp(maxSteps:=99999999) only[Zx.v,ZF.v,ZD.v,ZO.v,ZU.v,ZR.v,Zp.v,ZH.v,XB.v,Zl.v,ZB.v,Zo.v,Zq.v,Zy.v,Yj.v,QA.v,ZA.v,Z7.v,QX.v,Zmn.v,WG.v,-eq_self] at h;exact h)
theorem Zpd (i:In) (x:UInt8) (xs:List UInt8) (rc:List Value):obs (evF Tryz.prog (Zk 3 (Za (enL i rc x xs [Qk,YB,UN])) Zc) Zb 100 20 70 [i.val] (Yp rc 60 1139340663399514126))=Zd8 (Zh1 (Zbd (Zbd (KA (Y5 (Zbu (Za6 (KD (KF i.op (rc.all (ZZ (fun l=>l.blt 64))=true) (rc=YG rc) (x::xs) (rc=YP rc) i.a) i.a i.a i.a i.a i.a (Qf i.b)) i.b i.b i.b (Qf i.b)))) (VM i.b)) i.c i.c) i.c i.c) (Zfj i.c) Ze):=by kernel_rfl
def ZuY:=Bx.mk (by have h:=@Zpd;simp(maxSteps:=99999999) only[Zx.v,ZF.v,ZD.v,ZO.v,ZU.v,ZR.v,Zp.v,ZH.v,XB.v,Zl.v,ZB.v,Zo.v,Zq.v,Zy.v,Yj.v,QA.v,Xh.v,ZA.v,Z7.v,QX.v,WG.v,-eq_self] at h;exact h)
theorem Zpe (i:In) (x:UInt8) (xs:List UInt8) (rc:List Value):obs (evF Tryz.prog (Zk 3 (Za (enL i rc x xs [Qk,YB,UN])) Zc) Zb 100 20 70 [i.val] (Yp rc 60 1134907432516321294))=Zh2 (ZgU (Zfh (Za6 (KD (Y5 (Zbu (ZgT (Uz (KF i.op (rc.all (ZZ (fun l=>l.blt 64))=true) (rc=YG rc) (x::xs) (rc=YP rc) i.a) i.a) i.a i.a (Qf i.b) (Qf i.b) (Qf i.b) (Qf i.b) (Qf i.b) (Qf i.b)))) i.b i.b i.b i.b i.b (Qf i.c)) i.c i.c i.c (Qf i.c)) (Zbe i.c)) i.c) (Zbe i.c) Ze:=by kernel_rfl
def ZuZ:=Bx.mk (by have h:=@Zpe;simp(maxSteps:=99999999) only[Zx.v,ZF.v,ZD.v,ZO.v,ZU.v,ZR.v,Zp.v,ZH.v,XB.v,Zl.v,ZB.v,Zo.v,Zq.v,Zy.v,Yj.v,QA.v,Xm.v,ZA.v,Xy.v,Z7.v,QX.v,Zmn.v,Zkj.v,WG.v,-eq_self] at h;exact h)
theorem Zr7 (i:In) (x:UInt8) (xs:List UInt8) (rc:List Value):obs (evF Tryz.prog (Zk 3 (Za (enL i rc x xs [Qk,YB,UN])) Zc) Zb 100 20 70 [i.val] (Yp rc 60 576461078722379790))=Zfi (KP (Uz (V9 (Za6 (KD (Y5 (Zbu (Za6 (KD (KF i.op (rc.all (ZZ (fun l=>l.blt 64))=true) (rc=YG rc) (x::xs) (rc=YP rc) i.a) i.a i.a i.a i.a i.a (Qf i.b)) i.b i.b i.b (Qf i.b)))) i.b i.b i.b i.b i.b (Qf i.c)) i.c i.c i.c (Qf i.c))) i.c) (VM i.c) ((!(i.op==i.op&&VE (i.m==Zr)))=true)):=by kernel_rfl
def ZxB:=Bx.mk (by have h:=@Zr7;simp(maxSteps:=99999999) only[Zx.v,ZF.v,ZD.v,ZO.v,ZU.v,ZR.v,Zp.v,ZH.v,XB.v,Zl.v,ZB.v,Zo.v,Zq.v,Zy.v,Yj.v,QA.v,Xm.v,ZA.v,Xy.v,Z7.v,QX.v,Zkj.v,WG.v,-eq_self] at h;exact h)
theorem Zr8 (i:In) (x:UInt8) (xs:List UInt8) (rc:List Value):obs (evF Tryz.prog (Zk 3 (Za (enL i rc x xs [Qk,YB,Y7])) Zc) Zb 100 20 70 [i.val] (Yp rc 61 1700808491022))=Zd6 (Jq (Zc5 (ZjH i.op KO) (Zbc i.a 15*ZkZ)) (Zbc i.b 15*Wk) (Zbc i.m 4095*Yg)) (Zbr (V9 (Ya (KD (ZcS (ZgT (Uz (KF i.op (rc.all (ZZ (fun l=>l.blt 64))=true) (rc=YG rc) (x::xs) (rc=YP rc) i.a) i.a) i.a i.a (Qf i.b) (Qf i.b) (Qf i.b) (Qf i.b) (Qf i.b) (Qf i.b))) i.b i.b i.b i.b i.b (Xo i.m)) (Xo i.m))) (Jr i.m) (!(i.op==i.op&&VE (i.c==Zr)))):=by kernel_rfl
def ZxC:=Bx.mk (by have h:=@Zr8;simp(maxSteps:=99999999) only[Zx.v,ZF.v,V7.v,ZD.v,ZO.v,ZU.v,Zp.v,ZH.v,Zl.v,ZB.v,Zo.v,Zq.v,Zy.v,Yj.v,QA.v,YV.v,Xm.v,Zd7.v,Xy.v,Z7.v,Zkj.v,WG.v,-eq_self] at h;exact h)
theorem Zpf (i:In) (x:UInt8) (xs:List UInt8) (rc:List Value):obs (evF Tryz.prog (Zk 3 (Za (enL i rc x xs [Qk,YB,Y7])) Zc) Zb 100 20 70 [i.val] (Yp rc 61 2278820930410510350))=KE (ZcK (ZcM (V9 (ZcL (ZcM (WB (ZL (Zbd (ZdY (Za4 (Wc i.op (rc.all (ZZ (fun l=>l.blt 64))=true) (rc=YG rc) (x::xs) (rc=YP rc))) (Zfj i.a)) i.a i.a)))))))):=by kernel_rfl
def Zu0:=Bx.mk (by have h:=@Zpf;simp(maxSteps:=99999999) only[Zx.v,ZF.v,ZD.v,ZO.v,ZU.v,ZR.v,Zp.v,ZH.v,XB.v,Zl.v,ZB.v,Zo.v,Zq.v,Zy.v,Yj.v,QA.v,ZA.v,Z7.v,QX.v,WG.v,Zea.v,-eq_self] at h;exact h)
def Zbv (a:Prop):=ZL (Q6 a)
def Zmo:=Bx.mk @Zbv.eq_1
theorem Zpg (i:In) (x:UInt8) (xs:List UInt8) (rc:List Value):obs (evF Tryz.prog (Zk 3 (Za (enL i rc x xs [Qk,YB,Y7])) Zc) Zb 100 20 70 [i.val] (Yp rc 61 2278820930410381326))=KE (ZcK (ZcM (V9 (ZL (WA (Zbv (Zfk (ZdY (WB (ZjM (Wc i.op (rc.all (ZZ (fun l=>l.blt 64))=true) (rc=YG rc) (x::xs) (rc=YP rc)) i.a)) (Zbe i.a)) i.a i.a))))))):=by kernel_rfl
def Zu1:=Bx.mk (by have h:=@Zpg;simp(maxSteps:=99999999) only[Zx.v,ZF.v,ZD.v,ZO.v,ZU.v,ZR.v,Zp.v,ZH.v,XB.v,Zl.v,ZB.v,Zo.v,Zq.v,Zy.v,Yj.v,QA.v,ZA.v,Z7.v,QX.v,Zmn.v,WG.v,Zea.v,Zmo.v,-eq_self] at h;exact h)
theorem Zph (i:In) (x:UInt8) (xs:List UInt8) (rc:List Value):obs (evF Tryz.prog (Zk 3 (Za (enL i rc x xs [Qk,YB,Y7])) Zc) Zb 100 20 70 [i.val] (Yp rc 61 2278820930146140174))=KE (ZdV (Q6 (ZcM (V9 (Q6 (Zbd (ZjJ (Zbd (ZjJ (KA (KF i.op (rc.all (ZZ (fun l=>l.blt 64))=true) (rc=YG rc) (x::xs) (rc=YP rc) i.a) (VM i.a)) i.b) i.b i.b) i.b) i.b i.b)))))):=by kernel_rfl
def Zu2:=Bx.mk (by have h:=@Zph;simp(maxSteps:=99999999) only[Zx.v,ZF.v,ZD.v,ZO.v,ZU.v,ZR.v,Zp.v,ZH.v,XB.v,Zl.v,ZB.v,Zo.v,Zq.v,Zy.v,Yj.v,QA.v,Xh.v,ZA.v,Z7.v,QX.v,WG.v,-eq_self] at h;exact h)
theorem Zpi (i:In) (x:UInt8) (xs:List UInt8) (rc:List Value):obs (evF Tryz.prog (Zk 3 (Za (enL i rc x xs [Qk,YB,Y7])) Zc) Zb 100 20 70 [i.val] (Yp rc 61 2278820913234706446))=KE (WA (ZgU (Zfk (ZgU (ZqD (V9 (Q6 (XR (ZjI (XR (KF i.op (rc.all (ZZ (fun l=>l.blt 64))=true) (rc=YG rc) (x::xs) (rc=YP rc) i.a) (VM i.a)) i.a i.a i.a i.a (Qf i.b) (Qf i.b)) (Qf i.b)))) Ze (Zbe i.b) (Zbe i.b)) i.b) i.b i.b) i.b)):=by kernel_rfl
def Zu3:=Bx.mk (by have h:=@Zpi;simp(maxSteps:=99999999) only[Zx.v,ZF.v,ZD.v,ZO.v,ZU.v,ZR.v,Zp.v,ZH.v,XB.v,Zl.v,ZB.v,Zo.v,Zq.v,Zy.v,Yj.v,QA.v,ZA.v,Z7.v,QX.v,Zmn.v,WG.v,-eq_self] at h;exact h)
theorem Zpj (i:In) (x:UInt8) (xs:List UInt8) (rc:List Value):obs (evF Tryz.prog (Zk 3 (Za (enL i rc x xs [Qk,YB,Y7])) Zc) Zb 100 20 70 [i.val] (Yp rc 61 2278682374769606670))=Zd8 (Zh1 ((((Uz (XR (ZcS (ZgT (Uz (KF i.op (rc.all (ZZ (fun l=>l.blt 64))=true) (rc=YG rc) (x::xs) (rc=YP rc) i.a) i.a) i.a i.a (Qf i.b) (Qf i.b) (Qf i.b) (Qf i.b) (Qf i.b) (Qf i.b))) (VM i.b)) i.b∧Xo i.m=true)∧Xo i.m=true)∧Xo i.m=true)∧Xo i.m=true) (Xo i.m=true) Ze):=by kernel_rfl
def Zu4:=Bx.mk (by have h:=@Zpj;simp(maxSteps:=99999999) only[Zx.v,ZF.v,ZD.v,ZO.v,ZU.v,ZR.v,Zp.v,ZH.v,XB.v,Zl.v,ZB.v,Zo.v,Zq.v,Zy.v,Yj.v,QA.v,Xm.v,ZA.v,Xy.v,Z7.v,QX.v,Zkj.v,WG.v,-eq_self] at h;exact h)
theorem Zpk (i:In) (x:UInt8) (xs:List UInt8) (rc:List Value):obs (evF Tryz.prog (Zk 3 (Za (enL i rc x xs [Qk,YB,Y7])) Zc) Zb 100 20 70 [i.val] (Yp rc 61 2269815913003221006))=Zh2 (Zfh (Ya (KD (ZcS (ZqO (KA (KF i.op (rc.all (ZZ (fun l=>l.blt 64))=true) (rc=YG rc) (x::xs) (rc=YP rc) i.a) (VM i.a)) i.b i.b i.b i.b i.b i.b)) i.b i.b i.b i.b i.b (Xo i.m)) (Xo i.m)) (Jr i.m=true)∧Jr i.m=true) (Jr i.m=true) Ze:=by kernel_rfl
def Zu5:=Bx.mk (by have h:=@Zpk;simp(maxSteps:=99999999) only[Zx.v,ZF.v,ZD.v,ZO.v,ZU.v,ZR.v,Zp.v,ZH.v,XB.v,Zl.v,ZB.v,Zo.v,Zq.v,Zy.v,Yj.v,QA.v,Xh.v,Xm.v,ZA.v,Xy.v,Z7.v,QX.v,WG.v,-eq_self] at h;exact h)
theorem Zr9 (i:In) (x:UInt8) (xs:List UInt8) (rc:List Value):obs (evF Tryz.prog (Zk 3 (Za (enL i rc x xs [Qk,YB,Y7])) Zc) Zb 100 20 70 [i.val] (Yp rc 61 1152923205415337998))=Zfi (KP (Ya (V9 (Ya (KD (ZcS (ZgT (Uz (ZqQ (ZL (Za6 (XR (ZdX (Wc i.op (rc.all (ZZ (fun l=>l.blt 64))=true) (rc=YG rc) (x::xs) (rc=YP rc))) (Qf i.a)) i.a i.a i.a (Qf i.a))) Ze) i.a) i.a i.a (Qf i.b) (Qf i.b) (Qf i.b) (Qf i.b) (Qf i.b) (Qf i.b))) i.b i.b i.b i.b i.b (Xo i.m)) (Xo i.m))) (Jr i.m)) (Jr i.m) ((!(i.op==i.op&&VE (i.c==Zr)))=true)):=by kernel_rfl
def ZxD:=Bx.mk (by have h:=@Zr9;simp(maxSteps:=99999999) only[Zx.v,ZF.v,ZD.v,ZO.v,ZU.v,ZR.v,Zp.v,ZH.v,XB.v,Zl.v,ZB.v,Zo.v,Zq.v,Zy.v,QA.v,Xm.v,ZA.v,Xy.v,Z7.v,QX.v,Zkj.v,WG.v,-eq_self] at h;exact h)
theorem Zu6 (i:In) (x:UInt8) (xs:List UInt8) (rc:List Value):obs (evF Tryz.prog (Zk 3 (Za (enL i rc x xs [Qk,YB])) Zc) Zb 100 20 70 [i.val] (Yp rc 42 1441806))=Zd6 (Jq (ZjH i.op KO) (Zbc i.a 15*ZkZ) (Zbc i.b 15*Wk)) (Zbr (V9 (Za6 (KD (KF i.op (rc.all (ZZ (fun l=>l.blt 64))=true) (rc=YG rc) (x::xs) (rc=YP rc) i.a) i.a i.a i.a i.a i.a (Qf i.b)) i.b i.b i.b (Qf i.b))) (VM i.b) (!(i.op==i.op&&(i.c==Zr&&VE (i.m==Zr))))):=by kernel_rfl
def ZCu:=Bx.mk (by have h:=@Zu6;simp(maxSteps:=99999999) only[Zx.v,ZF.v,V7.v,ZD.v,ZO.v,ZU.v,Zp.v,ZH.v,Zl.v,ZB.v,Zo.v,Zq.v,Zy.v,Yj.v,QA.v,YV.v,Zd7.v,Z7.v,WG.v,-eq_self] at h;exact h)
theorem Zsa (i:In) (x:UInt8) (xs:List UInt8) (rc:List Value):obs (evF Tryz.prog (Zk 3 (Za (enL i rc x xs [Qk,YB])) Zc) Zb 100 20 70 [i.val] (Yp rc 42 4346504280078))=KE (ZdZ (WB (ZL (Zbd (ZdY (Za4 (Wc i.op (rc.all (ZZ (fun l=>l.blt 64))=true) (rc=YG rc) (x::xs) (rc=YP rc))) (Zfj i.a)) i.a i.a)))):=by kernel_rfl
def ZxE:=Bx.mk (by have h:=@Zsa;simp(maxSteps:=99999999) only[Zx.v,ZF.v,ZD.v,ZO.v,ZU.v,ZR.v,Zp.v,ZH.v,XB.v,Zl.v,ZB.v,Zo.v,Zq.v,Zy.v,Yj.v,QA.v,ZA.v,Z7.v,QX.v,WG.v,Zea.v,-eq_self] at h;exact h)
theorem Zsb (i:In) (x:UInt8) (xs:List UInt8) (rc:List Value):obs (evF Tryz.prog (Zk 3 (Za (enL i rc x xs [Qk,YB])) Zc) Zb 100 20 70 [i.val] (Yp rc 42 4346504151054))=KE (WA (Zfk (ZdY (WB (ZjM (Wc i.op (rc.all (ZZ (fun l=>l.blt 64))=true) (rc=YG rc) (x::xs) (rc=YP rc)) i.a)) (Zbe i.a)) i.a i.a)):=by kernel_rfl
def ZxF:=Bx.mk (by have h:=@Zsb;simp(maxSteps:=99999999) only[Zx.v,ZF.v,ZD.v,ZO.v,ZU.v,ZR.v,Zp.v,ZH.v,XB.v,Zl.v,ZB.v,Zo.v,Zq.v,Zy.v,Yj.v,QA.v,ZA.v,Z7.v,QX.v,Zmn.v,WG.v,Zea.v,-eq_self] at h;exact h)
theorem Zsc (i:In) (x:UInt8) (xs:List UInt8) (rc:List Value):obs (evF Tryz.prog (Zk 3 (Za (enL i rc x xs [Qk,YB])) Zc) Zb 100 20 70 [i.val] (Yp rc 42 4346239909902))=Zd8 (Zh1 (Zbd (Zbd (KA (ZqQ (ZL (ZqO (Y5 (Ka (V9 (Wc i.op (rc.all (ZZ (fun l=>l.blt 64))=true) (rc=YG rc) (x::xs) (rc=YP rc))))) i.a i.a i.a i.a i.a i.a)) Ze) (VM i.a)) i.b i.b) i.b i.b) (Zfj i.b) Ze):=by kernel_rfl
def ZxG:=Bx.mk (by have h:=@Zsc;simp(maxSteps:=99999999) only[Zx.v,ZF.v,ZD.v,ZO.v,ZU.v,ZR.v,Zp.v,ZH.v,XB.v,Zl.v,ZB.v,Zo.v,Zq.v,Zy.v,Yj.v,QA.v,Xh.v,ZA.v,Z7.v,QX.v,WG.v,-eq_self] at h;exact h)
theorem Zsd (i:In) (x:UInt8) (xs:List UInt8) (rc:List Value):obs (evF Tryz.prog (Zk 3 (Za (enL i rc x xs [Qk,YB])) Zc) Zb 100 20 70 [i.val] (Yp rc 42 4329328476174))=Zh2 (ZgU (Zfh (Za6 (KD (KF i.op (rc.all (ZZ (fun l=>l.blt 64))=true) (rc=YG rc) (x::xs) (rc=YP rc) i.a) i.a i.a i.a i.a i.a (Qf i.b)) i.b i.b i.b (Qf i.b)) (Zbe i.b)) i.b) (Zbe i.b) Ze:=by kernel_rfl
def ZxH:=Bx.mk (by have h:=@Zsd;simp(maxSteps:=99999999) only[Zx.v,ZF.v,ZD.v,ZO.v,ZU.v,ZR.v,Zp.v,ZH.v,XB.v,Zl.v,ZB.v,Zo.v,Zq.v,Zy.v,Yj.v,QA.v,ZA.v,Z7.v,QX.v,Zmn.v,WG.v,-eq_self] at h;exact h)
theorem Zu7 (i:In) (x:UInt8) (xs:List UInt8) (rc:List Value):obs (evF Tryz.prog (Zk 3 (Za (enL i rc x xs [Qk,YB])) Zc) Zb 100 20 70 [i.val] (Yp rc 42 2199024697358))=Zfi (KP (Uz (V9 (XR (ZjI (XR (KF i.op (rc.all (ZZ (fun l=>l.blt 64))=true) (rc=YG rc) (x::xs) (rc=YP rc) i.a) (VM i.a)) i.a i.a i.a i.a (Qf i.b) (Qf i.b)) (Qf i.b))) i.b) (VM i.b) ((!(i.op==i.op&&(i.c==Zr&&VE (i.m==Zr))))=true)):=by kernel_rfl
def ZCv:=Bx.mk (by have h:=@Zu7;simp(maxSteps:=99999999) only[Zx.v,ZF.v,ZD.v,ZO.v,ZU.v,ZR.v,Zp.v,ZH.v,XB.v,Zl.v,ZB.v,Zo.v,Zq.v,Zy.v,Yj.v,QA.v,Xm.v,ZA.v,Xy.v,Z7.v,QX.v,Zkj.v,WG.v,-eq_self] at h;exact h)
theorem ZxI (i:In) (x:UInt8) (xs:List UInt8) (rc:List Value):obs (evF Tryz.prog (Zk 3 (Za (enL i rc x xs [])) Zc) Zb 100 20 70 [i.val] (Yp rc 9 0))=Zd6 (U3 (u32.wrap i.op*KO)) (QF (ZdX (ZqN (Zh0 i.op Ze (rc.all (ZZ (fun l=>l.blt 64))=true) (rc=YG rc) (x::xs)) i.op i.op Ze (rc.all (ZZ (fun l=>l.blt 64))=true) Ze Ze Ze (rc=YP rc))) (!(i.op==i.op&&(i.a==Zr&&(i.b==Zr&&(i.c==Zr&&VE (i.m==Zr))))))):=by kernel_rfl
def ZGG:=Bx.mk (by have h:=@ZxI;simp(maxSteps:=99999999) only[Zx.v,ZF.v,ZD.v,ZO.v,ZU.v,Zp.v,ZH.v,ZB.v,Zo.v,Zq.v,Zy.v,Z2.v,Zd7.v,Z7.v,-eq_self] at h;exact h)
def Zu8 (a b:Prop):=Zjy (Za4 a) b
def ZjN:=Bx.mk @Zu8.eq_1
theorem ZxJ (i:In) (x:UInt8) (xs:List UInt8) (rc:List Value):obs (evF Tryz.prog (Zk 3 (Za (enL i rc x xs [])) Zc) Zb 100 20 70 [i.val] (Yp rc 9 256))=Zfi (Zu8 (ZqN (Zh0 i.op Ze (rc.all (ZZ (fun l=>l.blt 64))=true) (rc=YG rc) (x::xs)) i.op i.op Ze (rc.all (ZZ (fun l=>l.blt 64))=true) Ze Ze Ze (rc=YP rc)) ((!(i.op==i.op&&(i.a==Zr&&(i.b==Zr&&(i.c==Zr&&VE (i.m==Zr))))))=true)):=by kernel_rfl
def ZGH:=Bx.mk (by have h:=@ZxJ;simp(maxSteps:=99999999) only[Zx.v,ZF.v,ZD.v,ZO.v,ZU.v,ZR.v,Zp.v,ZH.v,XB.v,ZB.v,Zo.v,Zq.v,Zy.v,ZA.v,Z7.v,QX.v,ZjN.v,-eq_self] at h;exact h)
theorem ZxK (i:In) (x:UInt8) (xs:List UInt8) (rc:List Value):obs (evF Tryz.prog (Zk 3 (Za (enL i rc x xs [Y7])) Zc) Zb 100 20 70 [i.val] (Yp rc 28 198))=Zd6 (Ww (Zc5 (ZjH i.op KO) (Zbc i.m 4095*Yg))) (Zbr (V9 (KA (Za4 (Zhq (ZL (Zk0 (Zh0 i.op Ze (rc.all (ZZ (fun l=>l.blt 64))=true) (rc=YG rc) (x::xs)) i.op Ze (rc.all (ZZ (fun l=>l.blt 64))=true) (rc=YP rc))))) (Xo i.m))) (Jr i.m) (!(i.op==i.op&&(i.a==Zr&&(i.b==Zr&&VE (i.c==Zr)))))):=by kernel_rfl
def ZGI:=Bx.mk (by have h:=@ZxK;simp(maxSteps:=99999999) only[Zx.v,ZF.v,V7.v,ZD.v,ZO.v,ZU.v,Zp.v,ZH.v,ZB.v,Zo.v,Zq.v,Zy.v,Yj.v,YV.v,Xh.v,Zd7.v,Z7.v,-eq_self] at h;exact h)
theorem Zu9 (i:In) (x:UInt8) (xs:List UInt8) (rc:List Value):obs (evF Tryz.prog (Zk 3 (Za (enL i rc x xs [Y7])) Zc) Zb 100 20 70 [i.val] (Yp rc 28 265273542))=Zd8 (Zh1 (((Zuy (Zhq (ZL (Zk0 (Zh0 i.op Ze (rc.all (ZZ (fun l=>l.blt 64))=true) (rc=YG rc) (x::xs)) i.op Ze (rc.all (ZZ (fun l=>l.blt 64))=true) (rc=YP rc)))) (Xo i.m=true)∧Xo i.m=true)∧Xo i.m=true)∧Xo i.m=true) (Xo i.m=true) Ze):=by kernel_rfl
def ZCw:=Bx.mk (by have h:=@Zu9;simp(maxSteps:=99999999) only[Zx.v,ZF.v,ZD.v,ZO.v,ZU.v,ZR.v,Zp.v,ZH.v,XB.v,ZB.v,Zo.v,Zq.v,Zy.v,ZA.v,Z7.v,QX.v,-eq_self] at h;exact h)
theorem Zva (i:In) (x:UInt8) (xs:List UInt8) (rc:List Value):obs (evF Tryz.prog (Zk 3 (Za (enL i rc x xs [Y7])) Zc) Zb 100 20 70 [i.val] (Yp rc 28 264241350))=Zh2 (Zfh (KA (Za4 (Zhq (ZL (Zk0 (Zh0 i.op Ze (rc.all (ZZ (fun l=>l.blt 64))=true) (rc=YG rc) (x::xs)) i.op Ze (rc.all (ZZ (fun l=>l.blt 64))=true) (rc=YP rc))))) (Xo i.m)) (Jr i.m=true)∧Jr i.m=true) (Jr i.m=true) Ze:=by kernel_rfl
def ZCx:=Bx.mk (by have h:=@Zva;simp(maxSteps:=99999999) only[Zx.v,ZF.v,ZD.v,ZO.v,ZU.v,ZR.v,Zp.v,ZH.v,XB.v,ZB.v,Zo.v,Zq.v,Zy.v,Yj.v,Xh.v,ZA.v,Z7.v,QX.v,-eq_self] at h;exact h)
theorem ZxL (i:In) (x:UInt8) (xs:List UInt8) (rc:List Value):obs (evF Tryz.prog (Zk 3 (Za (enL i rc x xs [Y7])) Zc) Zb 100 20 70 [i.val] (Yp rc 28 134217926))=Zfi (KP (Ya (V9 (KA (Za4 (Zhq (ZL (Zk0 (Zh0 i.op Ze (rc.all (ZZ (fun l=>l.blt 64))=true) (rc=YG rc) (x::xs)) i.op Ze (rc.all (ZZ (fun l=>l.blt 64))=true) (rc=YP rc))))) (Xo i.m))) (Jr i.m)) (Jr i.m) ((!(i.op==i.op&&(i.a==Zr&&(i.b==Zr&&VE (i.c==Zr)))))=true)):=by kernel_rfl
def ZGJ:=Bx.mk (by have h:=@ZxL;simp(maxSteps:=99999999) only[Zx.v,ZF.v,ZD.v,ZO.v,ZU.v,ZR.v,Zp.v,ZH.v,XB.v,ZB.v,Zo.v,Zq.v,Zy.v,Yj.v,Xh.v,Xm.v,ZA.v,Xy.v,Z7.v,QX.v,-eq_self] at h;exact h)
def Zmp (a b c d e:Int):={ op:=a,a:=b,b:=c,c:=d,m:=e:In }.val
def WC (a:Prop):=Zjy (V9 a) Ze
def Ye:=Bx.mk (aI @Zmp.eq_1 @WC.eq_1)
theorem ZCy (i:In):obs (evF Tryz.prog Zc Zb 100 20 70 [Zmp Zr i.a i.b i.c i.m] (Yp ZK 5 16))=Zfi (WC W0):=by kernel_rfl
def ZMt:=Bx.mk (by have h:=@ZCy;simp(maxSteps:=99999999) only[Zx.v,ZF.v,ZD.v,ZO.v,ZU.v,ZR.v,XB.v,ZB.v,Zq.v,ZA.v,Z7.v,QX.v,Ye.v,-eq_self] at h;exact h)
theorem ZCz (i:In) (rc:List Value):obs (evF Tryz.prog Zc Zb 100 20 70 [i.val] (Yp rc 5 31))=ZqP (WM (Zfj i.op)) Ze Ze:=by kernel_rfl
def ZMu:=Bx.mk (by have h:=@ZCz;simp(maxSteps:=99999999) only[Zx.v,ZF.v,ZD.v,ZO.v,ZR.v,XB.v,Zq.v,ZA.v,Z7.v,QX.v,-eq_self] at h;exact h)
theorem ZCA (i:In) (rc:List Value):obs (evF Tryz.prog Zc Zb 100 20 70 [i.val] (Yp rc 5 24))=ZqP (Zbp (Qf i.op)) (Zai i.op 53=true) Ze:=by kernel_rfl
def ZMv:=Bx.mk (by have h:=@ZCA;simp(maxSteps:=99999999) only[Zx.v,ZF.v,ZO.v,ZR.v,XB.v,Zl.v,Zq.v,ZA.v,Z7.v,QX.v,-eq_self] at h;exact h)
theorem ZGK (op:Int) (rc:List Value):obs (evF Tryz.prog Zc Zb 100 20 129 [VD op] (Yp rc 4 0))=Wj (Value.string (ZmL (ZBJ rc (0+op.toNat*2)))) (Jm (Jd (0+op.toNat*2+2) rc [ZhW,ZhW] (0+op.toNat*2)) op (Zgs op 54) (Za6 True op op op (Zai op 53))):=by kernel_rfl
def nm_r:=Bx.mk (by have h:=@ZGK;simp(maxSteps:=99999999) only[Zx.v,ZF.v,ZD.v,Zl.v,Zy.v,Yi.v,Z7.v,-eq_self] at h;exact h)
theorem ZGL (op:Int) (rc:List Value):obs (evF Tryz.prog Zc Zb 100 20 123 [VD op] (Yp rc 4 0))=Wj (Value.string (ZmL (ZBJ rc (0+op.toNat*2+1)))) (Jm (Jd (0+op.toNat*2+2) rc [ZhW,ZhW] (0+op.toNat*2)) op (Zgs op 54) (Za6 True op op op (Zai op 53))):=by kernel_rfl
def fm_r:=Bx.mk (by have h:=@ZGL;simp(maxSteps:=99999999) only[Zx.v,ZF.v,ZD.v,Zl.v,Zy.v,Yi.v,Z7.v,-eq_self] at h;exact h)
def Zvb (a b c d e:Int):=ZaJ (ZjD (VD a) (VD b) c (VD d) (VD e))
def ZgV (a b:Int):=Value.bool (a==b)
def Zvc (a b c d e f g h i j:Int):=Zvb a b c d e=Zvb f g h i j
def WS (a b c d e:Int):=Zvc a b c d e a b c d e
def Xq:=Bx.mk (aI @Zvb.eq_1 (aI @ZgV.eq_1 (aI @Zvc.eq_1 @WS.eq_1)))
theorem ZGM (i:In) (w:Int) (e:Int) (rc:List Value):obs (evF Tryz.prog (Zk 3 (Za [(65,70,gwC [i.val] rc (ZfK [Ww w,VD e]),[])]) Zc) Zb 100 20 33 [i.val] (Zqm 64 (Y3 rc) [] 0))=Wj (ZgV e Zr) (Zfa (ZkY (WS i.op i.a i.b i.c i.m) Ze (rc.all (ZZ (fun l=>l.blt 64))=true) Ze Ze Ze (rc=YG rc))):=by kernel_rfl
def ma_a:=Bx.mk (by have h:=@ZGM;simp(maxSteps:=99999999) only[Zx.v,ZF.v,ZD.v,ZO.v,X0.v,Zp.v,Zw.v,ZH.v,YE.v,Z7.v,Xq.v,-eq_self] at h;exact h)
def Zj6:List Nat:=[0,1,2,3,3,3,3,3,3,3,3,3,3,3,3,3,4,4,4,4,4,4,4,4,4,4,4,4,4,2,5,5,3,4,3,3,3,3,3,3,3,5,5,5,5,5,5,5,5,2,5,6,7,6]
def ZaK (op:Int):Nat:=if 1≤op∧op≤53 then Zj6.getD op.toNat 0 else 0
def Zb6:Nat→List UInt8
 | 1=>[97,105]
 | 2=>[97,106]
 | 3=>[97,98,99]
 | 4=>[97,98,105]
 | 5=>[97,98]
 | 6=>[]
 | 7=>[105]
 | _=>[]
def Um (v lo hi:Int):Bool:=!decide (v<lo) && !decide (v≥hi)
def WJ:Nat→In→Bool
 | 1,i=>Um i.a (0:Int) (16:Int)&&(Um i.m (-2048:Int) (2048:Int)&&(i.op==i.op&&(i.b==0&&(i.c==0&&(true)))))
 | 2,i=>Um i.a (0:Int) (16:Int)&&(Um i.m (-524288:Int) (524288:Int)&&(i.op==i.op&&(i.b==0&&(i.c==0&&(true)))))
 | 3,i=>Um i.a (0:Int) (16:Int)&&(Um i.b (0:Int) (16:Int)&&(Um i.c (0:Int) (16:Int)&&(i.op==i.op&&(i.m==0&&(true)))))
 | 4,i=>Um i.a (0:Int) (16:Int)&&(Um i.b (0:Int) (16:Int)&&(Um i.m (-2048:Int) (2048:Int)&&(i.op==i.op&&(i.c==0&&(true)))))
 | 5,i=>Um i.a (0:Int) (16:Int)&&(Um i.b (0:Int) (16:Int)&&(i.op==i.op&&(i.c==0&&(i.m==0&&(true)))))
 | 6,i=>i.op==i.op&&(i.a==0&&(i.b==0&&(i.c==0&&(i.m==0&&(true)))))
 | 7,i=>Um i.m (-2048:Int) (2048:Int)&&(i.op==i.op&&(i.a==0&&(i.b==0&&(i.c==0&&(true)))))
 | _,_=>false
def XC (i:In):Bool:=WJ (ZaK i.op) i
def Zse (w v mask mul:Int):Int:=bits BinOp.or u32 w (u32.wrap (bits BinOp.and u32 (u32.wrap v) mask*mul))
def opE (i:In):Int:=u32.wrap (u32.wrap i.op*(16777216:Int))
def encC:Nat→In→Int
 | 1,i=>Zse (Zse (opE i) i.a 15 1048576) i.m 4095 1
 | 2,i=>Zse (Zse (opE i) i.a 15 1048576) i.m 1048575 1
 | 3,i=>Zse (Zse (Zse (opE i) i.a 15 1048576) i.b 15 65536) i.c 15 4096
 | 4,i=>Zse (Zse (Zse (opE i) i.a 15 1048576) i.b 15 65536) i.m 4095 1
 | 5,i=>Zse (Zse (opE i) i.a 15 1048576) i.b 15 65536
 | 6,i=>opE i
 | 7,i=>Zse (opE i) i.m 4095 1
 | _,_=>0
def Zsf (i:In):Int:=if XC i=true then encC (ZaK i.op) i else 0
def ZfS (i:In):Int:=if XC i=true then 0 else 2
theorem Zeb:∀ v∈ZK,Qm v=true:=fun v hv=>List.all_eq_true.1 (show ZK.all Qm=true by kernel_rfl) v hv
theorem Zvd {q:Nat→Bool} (h:∀ l,l<64→q l=true):OkH q (Y3 ZK):=⟨⟨h _ (by show(0:Nat)<64; omega),rfl,ZY Zeb⟩,trivial⟩
theorem Zec {call:QM} (hc:Zs Tryz.prog call) {fn:FuncId} {args:List Value} {v:Value} {T:List (Nat×Bool)} {q:Prop} (ha:args.all (okV (fun l=>Nat.blt l 64) 3)=true) (hv:XD v=true) (hu:isU v=false) (h:obs (call fn args ⟨64,Y3 ZK,[],0,T,0,True⟩)=some (v,q)) (hq:q):ConOk Tryz.prog fn 3 (gwC args ZK v)∧FlatC (gwC args ZK v):=by
 unfold obs at h
 obtain⟨⟨v',s'⟩,h1,h2⟩:=oM h
 simp only[Prod.mk.injEq] at h2
 obtain⟨rfl,rfl⟩:=h2
 refine⟨Qn hc ⟨by show 64≤64; omega,Nat.le_refl _,Zvd (fun l hl=>YW hl),rfl,rfl,rfl,ha,Q8 hv 1,fun x hx=>by cases hx⟩ h1 hq (p:=fun l=>Nat.blt l 64) (σ:=id) ?_,⟨fun x hx=>by cases hx⟩⟩
 exact⟨fun _ _=>rfl,trivial,rfl,trivial,⟨Q8 hv 1,by rw[JB]; rfl⟩,hu,trivial,rfl,Xk _ hv,fun x hx=>by cases hx⟩
theorem ZGN:∀ k:Nat,k≤53→ZmL (Zt undef ZK (0+k*2+1))=⟨⟨Zb6 (Zj6.getD k 0)⟩⟩∧(1≤k→∃ x xs,ZmL (Zt undef ZK (0+k*2))=⟨⟨x::xs⟩⟩)
 | 0,_=>⟨rfl,fun h=>absurd h (by decide)⟩
 | 1,_=>⟨rfl,fun _=>⟨_,_,rfl⟩⟩
 | 2,_=>⟨rfl,fun _=>⟨_,_,rfl⟩⟩
 | 3,_=>⟨rfl,fun _=>⟨_,_,rfl⟩⟩
 | 4,_=>⟨rfl,fun _=>⟨_,_,rfl⟩⟩
 | 5,_=>⟨rfl,fun _=>⟨_,_,rfl⟩⟩
 | 6,_=>⟨rfl,fun _=>⟨_,_,rfl⟩⟩
 | 7,_=>⟨rfl,fun _=>⟨_,_,rfl⟩⟩
 | 8,_=>⟨rfl,fun _=>⟨_,_,rfl⟩⟩
 | 9,_=>⟨rfl,fun _=>⟨_,_,rfl⟩⟩
 | 10,_=>⟨rfl,fun _=>⟨_,_,rfl⟩⟩
 | 11,_=>⟨rfl,fun _=>⟨_,_,rfl⟩⟩
 | 12,_=>⟨rfl,fun _=>⟨_,_,rfl⟩⟩
 | 13,_=>⟨rfl,fun _=>⟨_,_,rfl⟩⟩
 | 14,_=>⟨rfl,fun _=>⟨_,_,rfl⟩⟩
 | 15,_=>⟨rfl,fun _=>⟨_,_,rfl⟩⟩
 | 16,_=>⟨rfl,fun _=>⟨_,_,rfl⟩⟩
 | 17,_=>⟨rfl,fun _=>⟨_,_,rfl⟩⟩
 | 18,_=>⟨rfl,fun _=>⟨_,_,rfl⟩⟩
 | 19,_=>⟨rfl,fun _=>⟨_,_,rfl⟩⟩
 | 20,_=>⟨rfl,fun _=>⟨_,_,rfl⟩⟩
 | 21,_=>⟨rfl,fun _=>⟨_,_,rfl⟩⟩
 | 22,_=>⟨rfl,fun _=>⟨_,_,rfl⟩⟩
 | 23,_=>⟨rfl,fun _=>⟨_,_,rfl⟩⟩
 | 24,_=>⟨rfl,fun _=>⟨_,_,rfl⟩⟩
 | 25,_=>⟨rfl,fun _=>⟨_,_,rfl⟩⟩
 | 26,_=>⟨rfl,fun _=>⟨_,_,rfl⟩⟩
 | 27,_=>⟨rfl,fun _=>⟨_,_,rfl⟩⟩
 | 28,_=>⟨rfl,fun _=>⟨_,_,rfl⟩⟩
 | 29,_=>⟨rfl,fun _=>⟨_,_,rfl⟩⟩
 | 30,_=>⟨rfl,fun _=>⟨_,_,rfl⟩⟩
 | 31,_=>⟨rfl,fun _=>⟨_,_,rfl⟩⟩
 | 32,_=>⟨rfl,fun _=>⟨_,_,rfl⟩⟩
 | 33,_=>⟨rfl,fun _=>⟨_,_,rfl⟩⟩
 | 34,_=>⟨rfl,fun _=>⟨_,_,rfl⟩⟩
 | 35,_=>⟨rfl,fun _=>⟨_,_,rfl⟩⟩
 | 36,_=>⟨rfl,fun _=>⟨_,_,rfl⟩⟩
 | 37,_=>⟨rfl,fun _=>⟨_,_,rfl⟩⟩
 | 38,_=>⟨rfl,fun _=>⟨_,_,rfl⟩⟩
 | 39,_=>⟨rfl,fun _=>⟨_,_,rfl⟩⟩
 | 40,_=>⟨rfl,fun _=>⟨_,_,rfl⟩⟩
 | 41,_=>⟨rfl,fun _=>⟨_,_,rfl⟩⟩
 | 42,_=>⟨rfl,fun _=>⟨_,_,rfl⟩⟩
 | 43,_=>⟨rfl,fun _=>⟨_,_,rfl⟩⟩
 | 44,_=>⟨rfl,fun _=>⟨_,_,rfl⟩⟩
 | 45,_=>⟨rfl,fun _=>⟨_,_,rfl⟩⟩
 | 46,_=>⟨rfl,fun _=>⟨_,_,rfl⟩⟩
 | 47,_=>⟨rfl,fun _=>⟨_,_,rfl⟩⟩
 | 48,_=>⟨rfl,fun _=>⟨_,_,rfl⟩⟩
 | 49,_=>⟨rfl,fun _=>⟨_,_,rfl⟩⟩
 | 50,_=>⟨rfl,fun _=>⟨_,_,rfl⟩⟩
 | 51,_=>⟨rfl,fun _=>⟨_,_,rfl⟩⟩
 | 52,_=>⟨rfl,fun _=>⟨_,_,rfl⟩⟩
 | 53,_=>⟨rfl,fun _=>⟨_,_,rfl⟩⟩
 | k+54,h=>absurd h (by omega)
theorem ZqR:∀ k:Nat,k≤53→WK (0+k*2+2) ZK=true∧Zz [Value.string { data:=#[]:ByteArray },Value.string { data:=#[]:ByteArray }] ZK (0+k*2)=true
 | 0,_=>⟨rfl,rfl⟩
 | 1,_=>⟨rfl,rfl⟩
 | 2,_=>⟨rfl,rfl⟩
 | 3,_=>⟨rfl,rfl⟩
 | 4,_=>⟨rfl,rfl⟩
 | 5,_=>⟨rfl,rfl⟩
 | 6,_=>⟨rfl,rfl⟩
 | 7,_=>⟨rfl,rfl⟩
 | 8,_=>⟨rfl,rfl⟩
 | 9,_=>⟨rfl,rfl⟩
 | 10,_=>⟨rfl,rfl⟩
 | 11,_=>⟨rfl,rfl⟩
 | 12,_=>⟨rfl,rfl⟩
 | 13,_=>⟨rfl,rfl⟩
 | 14,_=>⟨rfl,rfl⟩
 | 15,_=>⟨rfl,rfl⟩
 | 16,_=>⟨rfl,rfl⟩
 | 17,_=>⟨rfl,rfl⟩
 | 18,_=>⟨rfl,rfl⟩
 | 19,_=>⟨rfl,rfl⟩
 | 20,_=>⟨rfl,rfl⟩
 | 21,_=>⟨rfl,rfl⟩
 | 22,_=>⟨rfl,rfl⟩
 | 23,_=>⟨rfl,rfl⟩
 | 24,_=>⟨rfl,rfl⟩
 | 25,_=>⟨rfl,rfl⟩
 | 26,_=>⟨rfl,rfl⟩
 | 27,_=>⟨rfl,rfl⟩
 | 28,_=>⟨rfl,rfl⟩
 | 29,_=>⟨rfl,rfl⟩
 | 30,_=>⟨rfl,rfl⟩
 | 31,_=>⟨rfl,rfl⟩
 | 32,_=>⟨rfl,rfl⟩
 | 33,_=>⟨rfl,rfl⟩
 | 34,_=>⟨rfl,rfl⟩
 | 35,_=>⟨rfl,rfl⟩
 | 36,_=>⟨rfl,rfl⟩
 | 37,_=>⟨rfl,rfl⟩
 | 38,_=>⟨rfl,rfl⟩
 | 39,_=>⟨rfl,rfl⟩
 | 40,_=>⟨rfl,rfl⟩
 | 41,_=>⟨rfl,rfl⟩
 | 42,_=>⟨rfl,rfl⟩
 | 43,_=>⟨rfl,rfl⟩
 | 44,_=>⟨rfl,rfl⟩
 | 45,_=>⟨rfl,rfl⟩
 | 46,_=>⟨rfl,rfl⟩
 | 47,_=>⟨rfl,rfl⟩
 | 48,_=>⟨rfl,rfl⟩
 | 49,_=>⟨rfl,rfl⟩
 | 50,_=>⟨rfl,rfl⟩
 | 51,_=>⟨rfl,rfl⟩
 | 52,_=>⟨rfl,rfl⟩
 | 53,_=>⟨rfl,rfl⟩
 | k+54,h=>absurd h (by omega)
theorem ZjO (op:Int) (h1:1≤op) (h2:op≤53):∃ (x:UInt8) (xs:List UInt8),ConOk Tryz.prog 129 3 (gwC [.int .i64 op] ZK (.string ⟨⟨x::xs⟩⟩))∧FlatC (gwC [.int .i64 op] ZK (.string ⟨⟨x::xs⟩⟩)):=by
 obtain⟨k,rfl⟩:=Int.eq_ofNat_of_zero_le (show 0≤op by omega)
 have hr:=nm_r.v (k:Int) ZK
 obtain⟨_,x,xs,hx⟩:_∧_:=⟨trivial,(ZGN k (by omega)).2 (by omega)⟩
 obtain⟨g1,g2⟩:=ZqR k (by omega)
 simp only[tN] at hr
 rw[hx] at hr
 refine⟨x,xs,Zec (Zm (L:=100) Zg (Zf _) (Zh _) 20) rfl rfl rfl hr ?_⟩
 have d1:decide ((0:Int)≤(k:Int))=true:=lR (by omega)
 have d2:decide ((k:Int)<54)=true:=lR (by omega)
 have d3:decide ((k:Int)<0)=false:=dF (by omega)
 have d4:decide ((k:Int)>53)=false:=dF (by omega)
 simp only[g1,g2,d1,d2,d3,d4,Bool.and_self,cond_true,and_self]
theorem ZjP (op:Int) (h1:1≤op) (h2:op≤53):ConOk Tryz.prog 123 3 (gwC [.int .i64 op] ZK (.string ⟨⟨Zb6 (ZaK op)⟩⟩))∧FlatC (gwC [.int .i64 op] ZK (.string ⟨⟨Zb6 (ZaK op)⟩⟩)):=by
 obtain⟨k,rfl⟩:=Int.eq_ofNat_of_zero_le (show 0≤op by omega)
 have hr:=fm_r.v (k:Int) ZK
 have hx:=(ZGN k (by omega)).1
 obtain⟨g1,g2⟩:=ZqR k (by omega)
 have hc:ZaK (k:Int)=Zj6.getD k 0:=by unfold ZaK; rw[if_pos ⟨h1,h2⟩,tN]
 simp only[tN] at hr
 rw[hx,← hc] at hr
 refine Zec (Zm (L:=100) Zg (Zf _) (Zh _) 20) rfl rfl rfl hr ?_
 have d1:decide ((0:Int)≤(k:Int))=true:=lR (by omega)
 have d2:decide ((k:Int)<54)=true:=lR (by omega)
 have d3:decide ((k:Int)<0)=false:=dF (by omega)
 have d4:decide ((k:Int)>53)=false:=dF (by omega)
 simp only[g1,g2,d1,d2,d3,d4,Bool.and_self,cond_true,and_self]
theorem QS (x:UInt8) (xs:List UInt8):Zv (x::xs) []=false:=rfl
def Zb7 (i:In) (w e:Int):Prop:=ConOk Tryz.prog 70 3 (gwC [i.val] ZK (.tuple ⟨[.int .u32 w,.int .i64 e]⟩))∧FlatC (gwC [i.val] ZK (.tuple ⟨[.int .u32 w,.int .i64 e]⟩))
theorem Xg {i:In} (h:Zb7 i 0 2) (hm:XC i=false):Zb7 i (Zsf i) (ZfS i):=by
 unfold Zsf ZfS; rw[hm]; exact h
theorem ZfT {i:In} {c:Nat} (h:Zb7 i (encC c i) 0) (hc:ZaK i.op=c) (hm:XC i=true):Zb7 i (Zsf i) (ZfS i):=by
 unfold Zsf ZfS; rw[hm,if_pos rfl,if_pos rfl,hc]; exact h
theorem ZT (p:Nat→Bool):ZK.all (okV p 3)=true:=ZE Zeb
theorem ZC (σ:Nat→Nat):ZK.map (rnV σ 3)=ZK:=ZP Zeb
theorem ZCB (i:In) (h1:1≤i.op) (h2:i.op≤53) (hc:ZaK i.op=1):Zb7 i (Zsf i) (ZfS i):=by
 obtain⟨x,xs,hn,hnf⟩:=ZjO i.op h1 h2
 obtain⟨hf,hff⟩:=ZjP i.op h1 h2
 rw[hc] at hf hff
 have hb:∀ y∈enL i ZK x xs (Zb6 1),ConOk Tryz.prog y.2.1 3 y.2.2.1∧FlatC y.2.2.1:=fun y hy=>by
  simp only[enL,List.mem_cons,List.not_mem_nil,or_false] at hy
  rcases hy with rfl|rfl
  ·exact⟨hn,hnf⟩
  ·exact⟨hf,hff⟩
 have hs:=fun {T:List (Nat×Bool)} {w e:Int} {q:Prop} (h:obs (evF Tryz.prog (Zk 3 (Za (enL i ZK x xs [97,105])) Zc) Zb 100 20 70 [i.val] ⟨64,Y3 ZK,[],0,T,0,True⟩)=some (.tuple ⟨[.int .u32 w,.int .i64 e]⟩,q)) (hq:q)=>(Zec (Zm (L:=100) Zg (Zn (Zj hb) (Zf _)) (Zh _) 20) rfl rfl rfl h hq:Zb7 i w e)
 have hm:XC i=WJ 1 i:=by unfold XC; rw[hc]
 by_cases la:i.a<(0:Int)
 ·have da:decide (i.a<(0:Int))=true:=lR la
  refine Xg (hs (Zxs.v i x xs ZK) (by simp only[da,QS,ZT,ZC,Bool.not_false,Bool.not_true,and_true,true_and,and_self])) ?_
  rw[hm]; simp only[WJ,Um,da,Bool.not_true,Bool.false_and,Bool.and_false]
 have da:decide (i.a<(0:Int))=false:=dF la
 by_cases ka:i.a≥(16:Int)
 ·have ea:decide (i.a≥(16:Int))=true:=lR ka
  refine Xg (hs (Zxt.v i x xs ZK) (by simp only[da,ea,QS,ZT,ZC,Bool.not_false,Bool.not_true,and_true,true_and,and_self])) ?_
  rw[hm]; simp only[WJ,Um,ea,Bool.not_true,Bool.false_and,Bool.and_false]
 have ea:decide (i.a≥(16:Int))=false:=dF ka
 by_cases li:i.m<(-2048:Int)
 ·have di:decide (i.m<(-2048:Int))=true:=lR li
  refine Xg (hs (Zxu.v i x xs ZK) (by simp only[di,da,ea,QS,ZT,ZC,Bool.not_false,Bool.not_true,and_true,true_and,and_self])) ?_
  rw[hm]; simp only[WJ,Um,di,Bool.not_true,Bool.false_and,Bool.and_false]
 have di:decide (i.m<(-2048:Int))=false:=dF li
 by_cases ki:i.m≥(2048:Int)
 ·have ei:decide (i.m≥(2048:Int))=true:=lR ki
  refine Xg (hs (Zxv.v i x xs ZK) (by simp only[di,ei,da,ea,QS,ZT,ZC,Bool.not_false,Bool.not_true,and_true,true_and,and_self])) ?_
  rw[hm]; simp only[WJ,Um,ei,Bool.not_true,Bool.false_and,Bool.and_false]
 have ei:decide (i.m≥(2048:Int))=false:=dF ki
 cases hz:(i.op==i.op&&(i.b==(0:Int)&&(i.c==(0:Int)&&(true))))
 ·refine Xg (hs (ZCr.v i x xs ZK) (by simp only[hz,da,ea,di,ei,QS,ZT,ZC,Bool.not_false,Bool.not_true,and_true,true_and,and_self])) ?_
  rw[hm]; simp only[WJ]; rw[hz]; simp only[Bool.and_false]
 ·refine ZfT (hs (ZCq.v i x xs ZK) (by simp only[hz,da,ea,di,ei,QS,ZT,ZC,Bool.not_false,Bool.not_true,and_true,true_and,and_self])) hc ?_
  rw[hm]; simp only[WJ]; rw[hz]; simp only[Um,da,ea,di,ei,Bool.not_false,Bool.and_self]
theorem ZCC (i:In) (h1:1≤i.op) (h2:i.op≤53) (hc:ZaK i.op=2):Zb7 i (Zsf i) (ZfS i):=by
 obtain⟨x,xs,hn,hnf⟩:=ZjO i.op h1 h2
 obtain⟨hf,hff⟩:=ZjP i.op h1 h2
 rw[hc] at hf hff
 have hb:∀ y∈enL i ZK x xs (Zb6 2),ConOk Tryz.prog y.2.1 3 y.2.2.1∧FlatC y.2.2.1:=fun y hy=>by
  simp only[enL,List.mem_cons,List.not_mem_nil,or_false] at hy
  rcases hy with rfl|rfl
  ·exact⟨hn,hnf⟩
  ·exact⟨hf,hff⟩
 have hs:=fun {T:List (Nat×Bool)} {w e:Int} {q:Prop} (h:obs (evF Tryz.prog (Zk 3 (Za (enL i ZK x xs [97,106])) Zc) Zb 100 20 70 [i.val] ⟨64,Y3 ZK,[],0,T,0,True⟩)=some (.tuple ⟨[.int .u32 w,.int .i64 e]⟩,q)) (hq:q)=>(Zec (Zm (L:=100) Zg (Zn (Zj hb) (Zf _)) (Zh _) 20) rfl rfl rfl h hq:Zb7 i w e)
 have hm:XC i=WJ 2 i:=by unfold XC; rw[hc]
 by_cases la:i.a<(0:Int)
 ·have da:decide (i.a<(0:Int))=true:=lR la
  refine Xg (hs (Zxw.v i x xs ZK) (by simp only[da,QS,ZT,ZC,Bool.not_false,Bool.not_true,and_true,true_and,and_self])) ?_
  rw[hm]; simp only[WJ,Um,da,Bool.not_true,Bool.false_and,Bool.and_false]
 have da:decide (i.a<(0:Int))=false:=dF la
 by_cases ka:i.a≥(16:Int)
 ·have ea:decide (i.a≥(16:Int))=true:=lR ka
  refine Xg (hs (Zxx.v i x xs ZK) (by simp only[da,ea,QS,ZT,ZC,Bool.not_false,Bool.not_true,and_true,true_and,and_self])) ?_
  rw[hm]; simp only[WJ,Um,ea,Bool.not_true,Bool.false_and,Bool.and_false]
 have ea:decide (i.a≥(16:Int))=false:=dF ka
 by_cases lj:i.m<(-524288:Int)
 ·have dj:decide (i.m<(-524288:Int))=true:=lR lj
  refine Xg (hs (Zxy.v i x xs ZK) (by simp only[dj,da,ea,QS,ZT,ZC,Bool.not_false,Bool.not_true,and_true,true_and,and_self])) ?_
  rw[hm]; simp only[WJ,Um,dj,Bool.not_true,Bool.false_and,Bool.and_false]
 have dj:decide (i.m<(-524288:Int))=false:=dF lj
 by_cases kj:i.m≥(524288:Int)
 ·have ej:decide (i.m≥(524288:Int))=true:=lR kj
  refine Xg (hs (Zxz.v i x xs ZK) (by simp only[dj,ej,da,ea,QS,ZT,ZC,Bool.not_false,Bool.not_true,and_true,true_and,and_self])) ?_
  rw[hm]; simp only[WJ,Um,ej,Bool.not_true,Bool.false_and,Bool.and_false]
 have ej:decide (i.m≥(524288:Int))=false:=dF kj
 cases hz:(i.op==i.op&&(i.b==(0:Int)&&(i.c==(0:Int)&&(true))))
 ·refine Xg (hs (ZCt.v i x xs ZK) (by simp only[hz,da,ea,dj,ej,QS,ZT,ZC,Bool.not_false,Bool.not_true,and_true,true_and,and_self])) ?_
  rw[hm]; simp only[WJ]; rw[hz]; simp only[Bool.and_false]
 ·refine ZfT (hs (ZCs.v i x xs ZK) (by simp only[hz,da,ea,dj,ej,QS,ZT,ZC,Bool.not_false,Bool.not_true,and_true,true_and,and_self])) hc ?_
  rw[hm]; simp only[WJ]; rw[hz]; simp only[Um,da,ea,dj,ej,Bool.not_false,Bool.and_self]
theorem ZxM (i:In) (h1:1≤i.op) (h2:i.op≤53) (hc:ZaK i.op=3):Zb7 i (Zsf i) (ZfS i):=by
 obtain⟨x,xs,hn,hnf⟩:=ZjO i.op h1 h2
 obtain⟨hf,hff⟩:=ZjP i.op h1 h2
 rw[hc] at hf hff
 have hb:∀ y∈enL i ZK x xs (Zb6 3),ConOk Tryz.prog y.2.1 3 y.2.2.1∧FlatC y.2.2.1:=fun y hy=>by
  simp only[enL,List.mem_cons,List.not_mem_nil,or_false] at hy
  rcases hy with rfl|rfl
  ·exact⟨hn,hnf⟩
  ·exact⟨hf,hff⟩
 have hs:=fun {T:List (Nat×Bool)} {w e:Int} {q:Prop} (h:obs (evF Tryz.prog (Zk 3 (Za (enL i ZK x xs [97,98,99])) Zc) Zb 100 20 70 [i.val] ⟨64,Y3 ZK,[],0,T,0,True⟩)=some (.tuple ⟨[.int .u32 w,.int .i64 e]⟩,q)) (hq:q)=>(Zec (Zm (L:=100) Zg (Zn (Zj hb) (Zf _)) (Zh _) 20) rfl rfl rfl h hq:Zb7 i w e)
 have hm:XC i=WJ 3 i:=by unfold XC; rw[hc]
 by_cases la:i.a<(0:Int)
 ·have da:decide (i.a<(0:Int))=true:=lR la
  refine Xg (hs (ZuU.v i x xs ZK) (by simp only[da,QS,ZT,ZC,Bool.not_false,Bool.not_true,and_true,true_and,and_self])) ?_
  rw[hm]; simp only[WJ,Um,da,Bool.not_true,Bool.false_and,Bool.and_false]
 have da:decide (i.a<(0:Int))=false:=dF la
 by_cases ka:i.a≥(16:Int)
 ·have ea:decide (i.a≥(16:Int))=true:=lR ka
  refine Xg (hs (ZuV.v i x xs ZK) (by simp only[da,ea,QS,ZT,ZC,Bool.not_false,Bool.not_true,and_true,true_and,and_self])) ?_
  rw[hm]; simp only[WJ,Um,ea,Bool.not_true,Bool.false_and,Bool.and_false]
 have ea:decide (i.a≥(16:Int))=false:=dF ka
 by_cases lb:i.b<(0:Int)
 ·have db:decide (i.b<(0:Int))=true:=lR lb
  refine Xg (hs (ZuW.v i x xs ZK) (by simp only[db,da,ea,QS,ZT,ZC,Bool.not_false,Bool.not_true,and_true,true_and,and_self])) ?_
  rw[hm]; simp only[WJ,Um,db,Bool.not_true,Bool.false_and,Bool.and_false]
 have db:decide (i.b<(0:Int))=false:=dF lb
 by_cases kb:i.b≥(16:Int)
 ·have eb:decide (i.b≥(16:Int))=true:=lR kb
  refine Xg (hs (ZuX.v i x xs ZK) (by simp only[db,eb,da,ea,QS,ZT,ZC,Bool.not_false,Bool.not_true,and_true,true_and,and_self])) ?_
  rw[hm]; simp only[WJ,Um,eb,Bool.not_true,Bool.false_and,Bool.and_false]
 have eb:decide (i.b≥(16:Int))=false:=dF kb
 by_cases lc:i.c<(0:Int)
 ·have dc:decide (i.c<(0:Int))=true:=lR lc
  refine Xg (hs (ZuY.v i x xs ZK) (by simp only[dc,da,ea,db,eb,QS,ZT,ZC,Bool.not_false,Bool.not_true,and_true,true_and,and_self])) ?_
  rw[hm]; simp only[WJ,Um,dc,Bool.not_true,Bool.false_and,Bool.and_false]
 have dc:decide (i.c<(0:Int))=false:=dF lc
 by_cases kc:i.c≥(16:Int)
 ·have ec:decide (i.c≥(16:Int))=true:=lR kc
  refine Xg (hs (ZuZ.v i x xs ZK) (by simp only[dc,ec,da,ea,db,eb,QS,ZT,ZC,Bool.not_false,Bool.not_true,and_true,true_and,and_self])) ?_
  rw[hm]; simp only[WJ,Um,ec,Bool.not_true,Bool.false_and,Bool.and_false]
 have ec:decide (i.c≥(16:Int))=false:=dF kc
 cases hz:(i.op==i.op&&(i.m==(0:Int)&&(true)))
 ·refine Xg (hs (ZxB.v i x xs ZK) (by simp only[hz,da,ea,db,eb,dc,ec,QS,ZT,ZC,Bool.not_false,Bool.not_true,and_true,true_and,and_self])) ?_
  rw[hm]; simp only[WJ]; rw[hz]; simp only[Bool.and_false]
 ·refine ZfT (hs (ZxA.v i x xs ZK) (by simp only[hz,da,ea,db,eb,dc,ec,QS,ZT,ZC,Bool.not_false,Bool.not_true,and_true,true_and,and_self])) hc ?_
  rw[hm]; simp only[WJ]; rw[hz]; simp only[Um,da,ea,db,eb,dc,ec,Bool.not_false,Bool.and_self]
theorem ZxN (i:In) (h1:1≤i.op) (h2:i.op≤53) (hc:ZaK i.op=4):Zb7 i (Zsf i) (ZfS i):=by
 obtain⟨x,xs,hn,hnf⟩:=ZjO i.op h1 h2
 obtain⟨hf,hff⟩:=ZjP i.op h1 h2
 rw[hc] at hf hff
 have hb:∀ y∈enL i ZK x xs (Zb6 4),ConOk Tryz.prog y.2.1 3 y.2.2.1∧FlatC y.2.2.1:=fun y hy=>by
  simp only[enL,List.mem_cons,List.not_mem_nil,or_false] at hy
  rcases hy with rfl|rfl
  ·exact⟨hn,hnf⟩
  ·exact⟨hf,hff⟩
 have hs:=fun {T:List (Nat×Bool)} {w e:Int} {q:Prop} (h:obs (evF Tryz.prog (Zk 3 (Za (enL i ZK x xs [97,98,105])) Zc) Zb 100 20 70 [i.val] ⟨64,Y3 ZK,[],0,T,0,True⟩)=some (.tuple ⟨[.int .u32 w,.int .i64 e]⟩,q)) (hq:q)=>(Zec (Zm (L:=100) Zg (Zn (Zj hb) (Zf _)) (Zh _) 20) rfl rfl rfl h hq:Zb7 i w e)
 have hm:XC i=WJ 4 i:=by unfold XC; rw[hc]
 by_cases la:i.a<(0:Int)
 ·have da:decide (i.a<(0:Int))=true:=lR la
  refine Xg (hs (Zu0.v i x xs ZK) (by simp only[da,QS,ZT,ZC,Bool.not_false,Bool.not_true,and_true,true_and,and_self])) ?_
  rw[hm]; simp only[WJ,Um,da,Bool.not_true,Bool.false_and,Bool.and_false]
 have da:decide (i.a<(0:Int))=false:=dF la
 by_cases ka:i.a≥(16:Int)
 ·have ea:decide (i.a≥(16:Int))=true:=lR ka
  refine Xg (hs (Zu1.v i x xs ZK) (by simp only[da,ea,QS,ZT,ZC,Bool.not_false,Bool.not_true,and_true,true_and,and_self])) ?_
  rw[hm]; simp only[WJ,Um,ea,Bool.not_true,Bool.false_and,Bool.and_false]
 have ea:decide (i.a≥(16:Int))=false:=dF ka
 by_cases lb:i.b<(0:Int)
 ·have db:decide (i.b<(0:Int))=true:=lR lb
  refine Xg (hs (Zu2.v i x xs ZK) (by simp only[db,da,ea,QS,ZT,ZC,Bool.not_false,Bool.not_true,and_true,true_and,and_self])) ?_
  rw[hm]; simp only[WJ,Um,db,Bool.not_true,Bool.false_and,Bool.and_false]
 have db:decide (i.b<(0:Int))=false:=dF lb
 by_cases kb:i.b≥(16:Int)
 ·have eb:decide (i.b≥(16:Int))=true:=lR kb
  refine Xg (hs (Zu3.v i x xs ZK) (by simp only[db,eb,da,ea,QS,ZT,ZC,Bool.not_false,Bool.not_true,and_true,true_and,and_self])) ?_
  rw[hm]; simp only[WJ,Um,eb,Bool.not_true,Bool.false_and,Bool.and_false]
 have eb:decide (i.b≥(16:Int))=false:=dF kb
 by_cases li:i.m<(-2048:Int)
 ·have di:decide (i.m<(-2048:Int))=true:=lR li
  refine Xg (hs (Zu4.v i x xs ZK) (by simp only[di,da,ea,db,eb,QS,ZT,ZC,Bool.not_false,Bool.not_true,and_true,true_and,and_self])) ?_
  rw[hm]; simp only[WJ,Um,di,Bool.not_true,Bool.false_and,Bool.and_false]
 have di:decide (i.m<(-2048:Int))=false:=dF li
 by_cases ki:i.m≥(2048:Int)
 ·have ei:decide (i.m≥(2048:Int))=true:=lR ki
  refine Xg (hs (Zu5.v i x xs ZK) (by simp only[di,ei,da,ea,db,eb,QS,ZT,ZC,Bool.not_false,Bool.not_true,and_true,true_and,and_self])) ?_
  rw[hm]; simp only[WJ,Um,ei,Bool.not_true,Bool.false_and,Bool.and_false]
 have ei:decide (i.m≥(2048:Int))=false:=dF ki
 cases hz:(i.op==i.op&&(i.c==(0:Int)&&(true)))
 ·refine Xg (hs (ZxD.v i x xs ZK) (by simp only[hz,da,ea,db,eb,di,ei,QS,ZT,ZC,Bool.not_false,Bool.not_true,and_true,true_and,and_self])) ?_
  rw[hm]; simp only[WJ]; rw[hz]; simp only[Bool.and_false]
 ·refine ZfT (hs (ZxC.v i x xs ZK) (by simp only[hz,da,ea,db,eb,di,ei,QS,ZT,ZC,Bool.not_false,Bool.not_true,and_true,true_and,and_self])) hc ?_
  rw[hm]; simp only[WJ]; rw[hz]; simp only[Um,da,ea,db,eb,di,ei,Bool.not_false,Bool.and_self]
theorem ZCD (i:In) (h1:1≤i.op) (h2:i.op≤53) (hc:ZaK i.op=5):Zb7 i (Zsf i) (ZfS i):=by
 obtain⟨x,xs,hn,hnf⟩:=ZjO i.op h1 h2
 obtain⟨hf,hff⟩:=ZjP i.op h1 h2
 rw[hc] at hf hff
 have hb:∀ y∈enL i ZK x xs (Zb6 5),ConOk Tryz.prog y.2.1 3 y.2.2.1∧FlatC y.2.2.1:=fun y hy=>by
  simp only[enL,List.mem_cons,List.not_mem_nil,or_false] at hy
  rcases hy with rfl|rfl
  ·exact⟨hn,hnf⟩
  ·exact⟨hf,hff⟩
 have hs:=fun {T:List (Nat×Bool)} {w e:Int} {q:Prop} (h:obs (evF Tryz.prog (Zk 3 (Za (enL i ZK x xs [97,98])) Zc) Zb 100 20 70 [i.val] ⟨64,Y3 ZK,[],0,T,0,True⟩)=some (.tuple ⟨[.int .u32 w,.int .i64 e]⟩,q)) (hq:q)=>(Zec (Zm (L:=100) Zg (Zn (Zj hb) (Zf _)) (Zh _) 20) rfl rfl rfl h hq:Zb7 i w e)
 have hm:XC i=WJ 5 i:=by unfold XC; rw[hc]
 by_cases la:i.a<(0:Int)
 ·have da:decide (i.a<(0:Int))=true:=lR la
  refine Xg (hs (ZxE.v i x xs ZK) (by simp only[da,QS,ZT,ZC,Bool.not_false,Bool.not_true,and_true,true_and,and_self])) ?_
  rw[hm]; simp only[WJ,Um,da,Bool.not_true,Bool.false_and,Bool.and_false]
 have da:decide (i.a<(0:Int))=false:=dF la
 by_cases ka:i.a≥(16:Int)
 ·have ea:decide (i.a≥(16:Int))=true:=lR ka
  refine Xg (hs (ZxF.v i x xs ZK) (by simp only[da,ea,QS,ZT,ZC,Bool.not_false,Bool.not_true,and_true,true_and,and_self])) ?_
  rw[hm]; simp only[WJ,Um,ea,Bool.not_true,Bool.false_and,Bool.and_false]
 have ea:decide (i.a≥(16:Int))=false:=dF ka
 by_cases lb:i.b<(0:Int)
 ·have db:decide (i.b<(0:Int))=true:=lR lb
  refine Xg (hs (ZxG.v i x xs ZK) (by simp only[db,da,ea,QS,ZT,ZC,Bool.not_false,Bool.not_true,and_true,true_and,and_self])) ?_
  rw[hm]; simp only[WJ,Um,db,Bool.not_true,Bool.false_and,Bool.and_false]
 have db:decide (i.b<(0:Int))=false:=dF lb
 by_cases kb:i.b≥(16:Int)
 ·have eb:decide (i.b≥(16:Int))=true:=lR kb
  refine Xg (hs (ZxH.v i x xs ZK) (by simp only[db,eb,da,ea,QS,ZT,ZC,Bool.not_false,Bool.not_true,and_true,true_and,and_self])) ?_
  rw[hm]; simp only[WJ,Um,eb,Bool.not_true,Bool.false_and,Bool.and_false]
 have eb:decide (i.b≥(16:Int))=false:=dF kb
 cases hz:(i.op==i.op&&(i.c==(0:Int)&&(i.m==(0:Int)&&(true))))
 ·refine Xg (hs (ZCv.v i x xs ZK) (by simp only[hz,da,ea,db,eb,QS,ZT,ZC,Bool.not_false,Bool.not_true,and_true,true_and,and_self])) ?_
  rw[hm]; simp only[WJ]; rw[hz]; simp only[Bool.and_false]
 ·refine ZfT (hs (ZCu.v i x xs ZK) (by simp only[hz,da,ea,db,eb,QS,ZT,ZC,Bool.not_false,Bool.not_true,and_true,true_and,and_self])) hc ?_
  rw[hm]; simp only[WJ]; rw[hz]; simp only[Um,da,ea,db,eb,Bool.not_false,Bool.and_self]
theorem ZGO (i:In) (h1:1≤i.op) (h2:i.op≤53) (hc:ZaK i.op=6):Zb7 i (Zsf i) (ZfS i):=by
 obtain⟨x,xs,hn,hnf⟩:=ZjO i.op h1 h2
 obtain⟨hf,hff⟩:=ZjP i.op h1 h2
 rw[hc] at hf hff
 have hb:∀ y∈enL i ZK x xs (Zb6 6),ConOk Tryz.prog y.2.1 3 y.2.2.1∧FlatC y.2.2.1:=fun y hy=>by
  simp only[enL,List.mem_cons,List.not_mem_nil,or_false] at hy
  rcases hy with rfl|rfl
  ·exact⟨hn,hnf⟩
  ·exact⟨hf,hff⟩
 have hs:=fun {T:List (Nat×Bool)} {w e:Int} {q:Prop} (h:obs (evF Tryz.prog (Zk 3 (Za (enL i ZK x xs [])) Zc) Zb 100 20 70 [i.val] ⟨64,Y3 ZK,[],0,T,0,True⟩)=some (.tuple ⟨[.int .u32 w,.int .i64 e]⟩,q)) (hq:q)=>(Zec (Zm (L:=100) Zg (Zn (Zj hb) (Zf _)) (Zh _) 20) rfl rfl rfl h hq:Zb7 i w e)
 have hm:XC i=WJ 6 i:=by unfold XC; rw[hc]
 cases hz:(i.op==i.op&&(i.a==(0:Int)&&(i.b==(0:Int)&&(i.c==(0:Int)&&(i.m==(0:Int)&&(true))))))
 ·refine Xg (hs (ZGH.v i x xs ZK) (by simp only[hz,QS,ZT,ZC,Bool.not_false,Bool.not_true,and_true,true_and,and_self])) ?_
  rw[hm]; simp only[WJ]; rw[hz]
 ·refine ZfT (hs (ZGG.v i x xs ZK) (by simp only[hz,QS,ZT,ZC,Bool.not_false,Bool.not_true,and_true,true_and,and_self])) hc ?_
  rw[hm]; simp only[WJ]; rw[hz]
theorem ZGP (i:In) (h1:1≤i.op) (h2:i.op≤53) (hc:ZaK i.op=7):Zb7 i (Zsf i) (ZfS i):=by
 obtain⟨x,xs,hn,hnf⟩:=ZjO i.op h1 h2
 obtain⟨hf,hff⟩:=ZjP i.op h1 h2
 rw[hc] at hf hff
 have hb:∀ y∈enL i ZK x xs (Zb6 7),ConOk Tryz.prog y.2.1 3 y.2.2.1∧FlatC y.2.2.1:=fun y hy=>by
  simp only[enL,List.mem_cons,List.not_mem_nil,or_false] at hy
  rcases hy with rfl|rfl
  ·exact⟨hn,hnf⟩
  ·exact⟨hf,hff⟩
 have hs:=fun {T:List (Nat×Bool)} {w e:Int} {q:Prop} (h:obs (evF Tryz.prog (Zk 3 (Za (enL i ZK x xs [105])) Zc) Zb 100 20 70 [i.val] ⟨64,Y3 ZK,[],0,T,0,True⟩)=some (.tuple ⟨[.int .u32 w,.int .i64 e]⟩,q)) (hq:q)=>(Zec (Zm (L:=100) Zg (Zn (Zj hb) (Zf _)) (Zh _) 20) rfl rfl rfl h hq:Zb7 i w e)
 have hm:XC i=WJ 7 i:=by unfold XC; rw[hc]
 by_cases li:i.m<(-2048:Int)
 ·have di:decide (i.m<(-2048:Int))=true:=lR li
  refine Xg (hs (ZCw.v i x xs ZK) (by simp only[di,QS,ZT,ZC,Bool.not_false,Bool.not_true,and_true,true_and,and_self])) ?_
  rw[hm]; simp only[WJ,Um,di,Bool.not_true,Bool.false_and,Bool.and_false]
 have di:decide (i.m<(-2048:Int))=false:=dF li
 by_cases ki:i.m≥(2048:Int)
 ·have ei:decide (i.m≥(2048:Int))=true:=lR ki
  refine Xg (hs (ZCx.v i x xs ZK) (by simp only[di,ei,QS,ZT,ZC,Bool.not_false,Bool.not_true,and_true,true_and,and_self])) ?_
  rw[hm]; simp only[WJ,Um,ei,Bool.not_true,Bool.false_and,Bool.and_false]
 have ei:decide (i.m≥(2048:Int))=false:=dF ki
 cases hz:(i.op==i.op&&(i.a==(0:Int)&&(i.b==(0:Int)&&(i.c==(0:Int)&&(true)))))
 ·refine Xg (hs (ZGJ.v i x xs ZK) (by simp only[hz,di,ei,QS,ZT,ZC,Bool.not_false,Bool.not_true,and_true,true_and,and_self])) ?_
  rw[hm]; simp only[WJ]; rw[hz]; simp only[Bool.and_false]
 ·refine ZfT (hs (ZGI.v i x xs ZK) (by simp only[hz,di,ei,QS,ZT,ZC,Bool.not_false,Bool.not_true,and_true,true_and,and_self])) hc ?_
  rw[hm]; simp only[WJ]; rw[hz]; simp only[Um,di,ei,Bool.not_false,Bool.and_self]
theorem Zk1 (op:Int) (h1:1≤op) (h2:op≤53):ZaK op=1∨ZaK op=2∨ZaK op=3∨ZaK op=4∨ZaK op=5∨ZaK op=6∨ZaK op=7:=by
 obtain⟨k,rfl⟩:=Int.eq_ofNat_of_zero_le (show 0≤op by omega)
 have hc:ZaK (k:Int)=Zj6.getD k 0:=by unfold ZaK; rw[if_pos ⟨h1,h2⟩,tN]
 rw[hc]
 have hk:∀ k:Fin 54,1≤k.val→Zj6.getD k.val 0=1∨Zj6.getD k.val 0=2∨Zj6.getD k.val 0=3∨Zj6.getD k.val 0=4∨Zj6.getD k.val 0=5∨Zj6.getD k.val 0=6∨Zj6.getD k.val 0=7:=by decide
 exact hk ⟨k,by omega⟩ (by show 1≤k; omega)
theorem ZCE (i:In):Zb7 i (Zsf i) (ZfS i):=by
 have hs:=fun {T:List (Nat×Bool)} {w e:Int} {q:Prop} (h:obs (evF Tryz.prog Zc Zb 100 20 70 [i.val] ⟨64,Y3 ZK,[],0,T,0,True⟩)=some (.tuple ⟨[.int .u32 w,.int .i64 e]⟩,q)) (hq:q)=>(Zec (Zm (L:=100) Zg (Zf _) (Zh _) 20) rfl rfl rfl h hq:Zb7 i w e)
 have hno:∀ h:¬ (1≤i.op∧i.op≤53),XC i=false:=fun h=>by unfold XC ZaK; rw[if_neg h]; rfl
 by_cases l0:i.op<0
 ·have d0:decide (i.op<0)=true:=lR l0
  exact Xg (hs (ZMu.v i ZK) (by simp only[d0,and_self])) (hno (by omega))
 have d0:decide (i.op<0)=false:=dF l0
 by_cases l1:i.op>53
 ·have d1:decide (i.op>53)=true:=lR l1
  exact Xg (hs (ZMv.v i ZK) (by simp only[d0,d1,and_self])) (hno (by omega))
 by_cases l2:i.op=0
 ·obtain⟨op,a,b,c,m⟩:=i
  simp only at l2
  subst l2
  exact Xg (hs (ZMt.v ⟨0,a,b,c,m⟩) (by simp only[and_self])) (hno (by show ¬ ((1:Int)≤0∧(0:Int)≤53); omega))
 have h1:1≤i.op:=by omega
 have h2:i.op≤53:=by omega
 rcases Zk1 i.op h1 h2 with h|h|h|h|h|h|h
 ·exact ZCB i h1 h2 h
 ·exact ZCC i h1 h2 h
 ·exact ZxM i h1 h2 h
 ·exact ZxN i h1 h2 h
 ·exact ZCD i h1 h2 h
 ·exact ZGO i h1 h2 h
 ·exact ZGP i h1 h2 h
theorem Zve (i:In):ConOk Tryz.prog 33 3 (gwC [i.val] ZK (.bool (XC i)))∧FlatC (gwC [i.val] ZK (.bool (XC i))):=by
 have hr:=ma_a.v i (Zsf i) (ZfS i) ZK
 have e:(ZfS i==(0:Int))=XC i:=by
  unfold ZfS
  cases XC i<;>rfl
 rw[e] at hr
 refine Zec (Zm (L:=100) Zg (Zn (Zj fun x hx => ?_) (Zf _)) (Zh _) 20) rfl rfl rfl hr ?_
 ·obtain rfl:=List.mem_singleton.1 hx
  exact ZCE i
 ·simp only[ZT,ZC,and_true,true_and,and_self]
theorem ZgW {i:In} (h:XC i=true):0≤i.a∧i.a<16∧0≤i.b∧i.b<16∧0≤i.c∧i.c<16∧1≤i.op∧i.op≤53:=by
 have h0:1≤i.op∧i.op≤53:=by
  by_cases hh:1≤i.op∧i.op≤53
  ·exact hh
  ·unfold XC ZaK at h; rw[if_neg hh] at h; cases h
 obtain⟨h1,h2⟩:=h0
 unfold XC at h
 rcases Zk1 i.op h1 h2 with e|e|e|e|e|e|e<;>rw[e] at h<;>simp only[WJ,Um,Bool.and_eq_true,Bool.not_eq_true',decide_eq_false_iff_not,beq_iff_eq] at h<;>omega
def mkL (cB:Cp) (lo hi:Nat) (L:Sy.Steps):Sy.Steps:=(69,76,Con.pure [cB.val] (.tuple ⟨[.int .u32 (lo:Nat),.int .u64 (hi:Nat)]⟩),[])::L
def Zed (a b:Int):=Zff (U3 a) b
def Zkk:=Bx.mk @Zed.eq_1
theorem ZGQ (i:In) (fr:Nat→Cp) (cB:Cp) (lo:Nat) (hi:Nat):obs (evF Tryz.prog (Zk 3 (Za (mkL cB lo hi [])) Zc) Zb 100 20 40 (Zd1 fr (Zmp Yg i.a i.b i.c i.m)) (Vk [KR]))=Kc (ZaJ (Zed i.m 0)) (Yd (0+i.c.toNat*8+8) fr (0+i.c.toNat*8) i.c (0+i.b.toNat*8+8) (0+i.b.toNat*8) i.b (ZM (ZI fr (0+i.b.toNat*8) (0+i.b.toNat*8+1) i.b.toNat) cB.C cB.E cB.B cB.T cB.P cB.Y cB.R cB.V)):=by kernel_rfl
def mk_1:=Bx.mk (by have h:=@ZGQ;simp(maxSteps:=99999999) only[Zx.v,ZF.v,ZD.v,ZO.v,YA.v,X0.v,ZR.v,Zw.v,Zl.v,Z2.v,Z5.v,ZA.v,Ye.v,Zkk.v,-eq_self] at h;exact h)
def Yt (a:Prop):=Zjy a Ze
def Zbw:=Bx.mk @Yt.eq_1
theorem ZGR (i:In) (fr:Nat→Cp) (cB:Cp) (lo:Nat) (hi:Nat):obs (evF Tryz.prog (Zk 3 (Za (mkL cB lo hi [])) Zc) Zb 100 20 40 (Zd1 fr (Zmp ZW i.a i.b i.c i.m)) (Vk [W1,Zc9]))=Zba (Zed (u32.wrap i.m*(4096:Int)) 0) (Yt (Yd (0+i.c.toNat*8+8) fr (0+i.c.toNat*8) i.c (0+i.b.toNat*8+8) (0+i.b.toNat*8) i.b (ZM (ZI fr (0+i.b.toNat*8) (0+i.b.toNat*8+1) i.b.toNat) cB.C cB.E cB.B cB.T cB.P cB.Y cB.R cB.V))):=by kernel_rfl
def mk_2:=Bx.mk (by have h:=@ZGR;simp(maxSteps:=99999999) only[Zx.v,ZF.v,V7.v,ZD.v,ZO.v,ZU.v,X0.v,ZR.v,Zw.v,Zl.v,Zq.v,Ym.v,Z2.v,Z5.v,Xn.v,ZA.v,Ye.v,Zkk.v,Zbw.v,-eq_self] at h;exact h)
def XU (a:Prop):=Zfh a Ze
def Js:=Bx.mk @XU.eq_1
theorem ZCF (i:In) (fr:Nat→Cp) (cB:Cp) (lo:Nat) (hi:Nat):obs (evF Tryz.prog (Zk 3 (Za (mkL cB lo hi [])) Zc) Zb 100 20 40 (Zd1 fr (Zmp YD i.a i.b i.c i.m)) (Vk [W1,ZbS,ZgB 2]))=Zba (Zff (ZqJ fr (0+i.b.toNat*8) i.m) 0) (XU (Yd (0+i.c.toNat*8+8) fr (0+i.c.toNat*8) i.c (0+i.b.toNat*8+8) (0+i.b.toNat*8) i.b (ZM (ZI fr (0+i.b.toNat*8) (0+i.b.toNat*8+1) i.b.toNat) cB.C cB.E cB.B cB.T cB.P cB.Y cB.R cB.V))):=by kernel_rfl
def ZMw:=Bx.mk (by have h:=@ZCF;simp(maxSteps:=99999999) only[Zx.v,ZF.v,ZD.v,ZO.v,ZU.v,X0.v,ZR.v,Zw.v,Zl.v,ZB.v,Z2.v,Z5.v,Xn.v,ZA.v,QX.v,Ye.v,Js.v,-eq_self] at h;exact h)
def ZjQ (a b:Value):=Con.pure [a] b
def Zvf (a b c d e:Int):=Zmp (a:Int) b c d e
def YT (a:Nat→Cp) (b c d e f:Int):=Zd1 a (Zvf b c d e f)
def Z8:=Bx.mk (aI @ZjQ.eq_1 (aI @Zvf.eq_1 @YT.eq_1))
theorem ZCG (i:In) (fr:Nat→Cp) (cB:Cp) (lo:Nat) (hi:Nat) (r:Cp):obs (evF Tryz.prog (Zk 3 (Za (mkL cB lo hi [(69,77,ZjQ cB.val r.val,[])])) Zc) Zb 100 20 40 (YT fr 41 i.a i.b i.c i.m) (Zu 4 8))=Wo r.C r.E r.B r.T r.P r.Y r.R r.V (XQ (WC (Yd (0+i.c.toNat*8+8) fr (0+i.c.toNat*8) i.c (0+i.b.toNat*8+8) (0+i.b.toNat*8) i.b (ZM (ZI fr (0+i.b.toNat*8) (0+i.b.toNat*8+1) i.b.toNat) cB.C cB.E cB.B cB.T cB.P cB.Y cB.R cB.V))) (ZM (ZI fr (0+i.b.toNat*8) (0+i.b.toNat*8+1) i.b.toNat) cB.C cB.E cB.B cB.T cB.P cB.Y cB.R cB.V)):=by kernel_rfl
def ZMx:=Bx.mk (by have h:=@ZCG;simp(maxSteps:=99999999) only[Zx.v,ZF.v,ZD.v,ZO.v,ZU.v,ZR.v,Zw.v,Zl.v,ZB.v,Zq.v,Z5.v,ZA.v,Ye.v,Z8.v,-eq_self] at h;exact h)
theorem ZCH (i:In) (fr:Nat→Cp) (cB:Cp) (lo:Nat) (hi:Nat) (x:Nat) (r:Cp):obs (evF Tryz.prog (Zk 3 (Za (mkL cB lo hi [(69,71,Zav cB.val (ZX x) r.val,[])])) Zc) Zb 100 20 40 (YT fr 32 i.a i.b i.c i.m) (Zu 5 16))=Wo r.C r.E r.B r.T r.P r.Y r.R r.V (Xl (JP (Yd (0+i.c.toNat*8+8) fr (0+i.c.toNat*8) i.c (0+i.b.toNat*8+8) (0+i.b.toNat*8) i.b (ZM (ZI fr (0+i.b.toNat*8) (0+i.b.toNat*8+1) i.b.toNat) cB.C cB.E cB.B cB.T cB.P cB.Y cB.R cB.V))) (ZM (ZI fr (0+i.b.toNat*8) (0+i.b.toNat*8+1) i.b.toNat) cB.C cB.E cB.B cB.T cB.P cB.Y cB.R cB.V) (Zao (U3 (KV fr (0+i.b.toNat*8)+KV fr (0+i.c.toNat*8))) x)):=by kernel_rfl
def ZMy:=Bx.mk (by have h:=@ZCH;simp(maxSteps:=99999999) only[Zx.v,ZF.v,ZD.v,ZO.v,ZU.v,ZR.v,Zp.v,Zw.v,Zl.v,ZB.v,Zo.v,Z2.v,Z5.v,ZA.v,UA.v,Ye.v,Z8.v,-eq_self] at h;exact h)
def ZgX (a b:Prop):=Zjy (Ka a) b
def ZnV:=Bx.mk @ZgX.eq_1
theorem ZCI (i:In) (fr:Nat→Cp) (cB:Cp) (lo:Nat) (hi:Nat) (x:Nat) (r:Cp):obs (evF Tryz.prog (Zk 3 (Za (mkL cB lo hi [(69,71,Zav cB.val (ZX x) r.val,[])])) Zc) Zb 100 20 40 (YT fr 33 i.a i.b i.c i.m) (Zu 6 32))=Wo r.C r.E r.B r.T r.P r.Y r.R r.V (Xl (ZgX (Yd (0+i.c.toNat*8+8) fr (0+i.c.toNat*8) i.c (0+i.b.toNat*8+8) (0+i.b.toNat*8) i.b (ZM (ZI fr (0+i.b.toNat*8) (0+i.b.toNat*8+1) i.b.toNat) cB.C cB.E cB.B cB.T cB.P cB.Y cB.R cB.V)) Ze) (ZM (ZI fr (0+i.b.toNat*8) (0+i.b.toNat*8+1) i.b.toNat) cB.C cB.E cB.B cB.T cB.P cB.Y cB.R cB.V) (V2 fr (0+i.b.toNat*8) i.m x)):=by kernel_rfl
def ZMz:=Bx.mk (by have h:=@ZCI;simp(maxSteps:=99999999) only[Zx.v,ZF.v,ZD.v,ZO.v,ZU.v,ZR.v,Zp.v,Zw.v,Zl.v,ZB.v,Zo.v,Zq.v,Z2.v,Z5.v,ZA.v,Ye.v,Z8.v,ZnV.v,-eq_self] at h;exact h)
theorem ZCJ (i:In) (fr:Nat→Cp) (cB:Cp) (lo:Nat) (hi:Nat) (x:Nat) (r:Cp):obs (evF Tryz.prog (Zk 3 (Za (mkL cB lo hi [(69,71,Zav cB.val (ZX x) r.val,[])])) Zc) Zb 100 20 40 (YT fr 34 i.a i.b i.c i.m) (Zu 7 64))=Wo r.C r.E r.B r.T r.P r.Y r.R r.V (Xl (VI (Yd (0+i.c.toNat*8+8) fr (0+i.c.toNat*8) i.c (0+i.b.toNat*8+8) (0+i.b.toNat*8) i.b (ZM (ZI fr (0+i.b.toNat*8) (0+i.b.toNat*8+1) i.b.toNat) cB.C cB.E cB.B cB.T cB.P cB.Y cB.R cB.V))) (ZM (ZI fr (0+i.b.toNat*8) (0+i.b.toNat*8+1) i.b.toNat) cB.C cB.E cB.B cB.T cB.P cB.Y cB.R cB.V) (Vo fr 0 (i.c.toNat*8) x)):=by kernel_rfl
def ZMA:=Bx.mk (by have h:=@ZCJ;simp(maxSteps:=99999999) only[Zx.v,ZF.v,ZD.v,ZO.v,ZU.v,ZR.v,Zp.v,Zw.v,Zl.v,ZB.v,Zo.v,Z2.v,Z5.v,ZA.v,Zhp.v,Ye.v,Z8.v,-eq_self] at h;exact h)
def Zax (a:Prop):=Zu8 a Ze
def Zkl:=Bx.mk @Zax.eq_1
theorem ZCK (i:In) (fr:Nat→Cp) (cB:Cp) (lo:Nat) (hi:Nat) (x:Nat) (r:Cp):obs (evF Tryz.prog (Zk 3 (Za (mkL cB lo hi [(69,78,Zav cB.val (ZX x) r.val,[])])) Zc) Zb 100 20 40 (YT fr 35 i.a i.b i.c i.m) (Zu 8 128))=Wo r.C r.E r.B r.T r.P r.Y r.R r.V (Xl (Zax (Yd (0+i.c.toNat*8+8) fr (0+i.c.toNat*8) i.c (0+i.b.toNat*8+8) (0+i.b.toNat*8) i.b (ZM (ZI fr (0+i.b.toNat*8) (0+i.b.toNat*8+1) i.b.toNat) cB.C cB.E cB.B cB.T cB.P cB.Y cB.R cB.V))) (ZM (ZI fr (0+i.b.toNat*8) (0+i.b.toNat*8+1) i.b.toNat) cB.C cB.E cB.B cB.T cB.P cB.Y cB.R cB.V) (Vo fr 0 (i.c.toNat*8) x)):=by kernel_rfl
def ZMB:=Bx.mk (by have h:=@ZCK;simp(maxSteps:=99999999) only[Zx.v,ZF.v,ZD.v,ZO.v,ZU.v,ZR.v,Zp.v,Zw.v,Zl.v,ZB.v,Zo.v,Zq.v,Z2.v,Z5.v,ZA.v,Zhp.v,ZjN.v,Ye.v,Z8.v,Zkl.v,-eq_self] at h;exact h)
def Vp (a:Nat) (b c:Nat→Cp) (d:Nat) (e f:Int) (g:Bool) (h i:Int) (j:Prop):=X5 (ZuH a b c d e f g h i j)
def U5:=Bx.mk @Vp.eq_1
theorem ZCL (i:In) (fr:Nat→Cp) (cB:Cp) (lo:Nat) (hi:Nat) (x:Nat) (r:Cp):obs (evF Tryz.prog (Zk 3 (Za (mkL cB lo hi [(69,79,Zav cB.val (ZX x) r.val,[])])) Zc) Zb 100 20 40 (YT fr 36 i.a i.b i.c i.m) (Zu 9 256))=Wo r.C r.E r.B r.T r.P r.Y r.R r.V (Xl (ZL (Vp (0+i.c.toNat*8+8) fr fr (0+i.c.toNat*8) i.c i.c (WF (0+i.b.toNat*8+8) fr (0+i.b.toNat*8)) i.b i.b (ZM (ZI fr (0+i.b.toNat*8) (0+i.b.toNat*8+1) i.b.toNat) cB.C cB.E cB.B cB.T cB.P cB.Y cB.R cB.V))) (ZM (ZI fr (0+i.b.toNat*8) (0+i.b.toNat*8+1) i.b.toNat) cB.C cB.E cB.B cB.T cB.P cB.Y cB.R cB.V) (Vo fr 0 (i.c.toNat*8) x)):=by kernel_rfl
def ZMC:=Bx.mk (by have h:=@ZCL;simp(maxSteps:=99999999) only[Zx.v,ZF.v,ZD.v,ZO.v,ZU.v,ZR.v,Zp.v,Zw.v,Zl.v,ZB.v,Zo.v,YV.v,Z2.v,Z5.v,ZA.v,Zhp.v,Ye.v,Z8.v,U5.v,-eq_self] at h;exact h)
theorem ZCM (i:In) (fr:Nat→Cp) (cB:Cp) (lo:Nat) (hi:Nat) (x:Nat) (r:Cp):obs (evF Tryz.prog (Zk 3 (Za (mkL cB lo hi [(69,80,Zav cB.val (ZX x) r.val,[])])) Zc) Zb 100 20 40 (YT fr 37 i.a i.b i.c i.m) (Zu 10 512))=Wo r.C r.E r.B r.T r.P r.Y r.R r.V (Xl (Yt (Vp (0+i.c.toNat*8+8) fr fr (0+i.c.toNat*8) i.c i.c (WF (0+i.b.toNat*8+8) fr (0+i.b.toNat*8)) i.b i.b (ZM (ZI fr (0+i.b.toNat*8) (0+i.b.toNat*8+1) i.b.toNat) cB.C cB.E cB.B cB.T cB.P cB.Y cB.R cB.V))) (ZM (ZI fr (0+i.b.toNat*8) (0+i.b.toNat*8+1) i.b.toNat) cB.C cB.E cB.B cB.T cB.P cB.Y cB.R cB.V) (Vo fr 0 (i.c.toNat*8) x)):=by kernel_rfl
def ZMD:=Bx.mk (by have h:=@ZCM;simp(maxSteps:=99999999) only[Zx.v,ZF.v,ZD.v,ZO.v,ZU.v,ZR.v,Zp.v,Zw.v,Zl.v,ZB.v,Zo.v,Zq.v,YV.v,Z2.v,Z5.v,ZA.v,Zhp.v,Ye.v,Zbw.v,Z8.v,U5.v,-eq_self] at h;exact h)
theorem ZCN (i:In) (fr:Nat→Cp) (cB:Cp) (lo:Nat) (hi:Nat) (cC:Cp) (r:Cp):obs (evF Tryz.prog (Zk 3 (Za (mkL cB lo hi [(69,81,Zav cB.val cC.val r.val,[])])) Zc) Zb 100 20 40 (YT fr 38 i.a i.b i.c i.m) (Zu 11 1024))=Wo r.C r.E r.B r.T r.P r.Y r.R r.V (Xl (XU (Vp (0+i.c.toNat*8+8) fr fr (0+i.c.toNat*8) i.c i.c (WF (0+i.b.toNat*8+8) fr (0+i.b.toNat*8)) i.b i.b (ZM (ZI fr (0+i.b.toNat*8) (0+i.b.toNat*8+1) i.b.toNat) cB.C cB.E cB.B cB.T cB.P cB.Y cB.R cB.V))) (ZM (ZI fr (0+i.b.toNat*8) (0+i.b.toNat*8+1) i.b.toNat) cB.C cB.E cB.B cB.T cB.P cB.Y cB.R cB.V) (ZM (ZI fr (0+i.c.toNat*8) (0+i.c.toNat*8+1) i.c.toNat) cC.C cC.E cC.B cC.T cC.P cC.Y cC.R cC.V)):=by kernel_rfl
def ZME:=Bx.mk (by have h:=@ZCN;simp(maxSteps:=99999999) only[Zx.v,ZF.v,ZD.v,ZO.v,ZU.v,ZR.v,Zp.v,Zw.v,Zl.v,ZB.v,Zo.v,YV.v,Z2.v,Z5.v,ZA.v,QX.v,Ye.v,Js.v,Z8.v,U5.v,-eq_self] at h;exact h)
theorem ZCO (i:In) (fr:Nat→Cp) (cB:Cp) (lo:Nat) (hi:Nat) (cC:Cp) (r:Cp):obs (evF Tryz.prog (Zk 3 (Za (mkL cB lo hi [(69,82,Zav cB.val cC.val r.val,[])])) Zc) Zb 100 20 40 (YT fr 39 i.a i.b i.c i.m) (Zu 12 2048))=Wo r.C r.E r.B r.T r.P r.Y r.R r.V (Xl (WC (Vp (0+i.c.toNat*8+8) fr fr (0+i.c.toNat*8) i.c i.c (WF (0+i.b.toNat*8+8) fr (0+i.b.toNat*8)) i.b i.b (ZM (ZI fr (0+i.b.toNat*8) (0+i.b.toNat*8+1) i.b.toNat) cB.C cB.E cB.B cB.T cB.P cB.Y cB.R cB.V))) (ZM (ZI fr (0+i.b.toNat*8) (0+i.b.toNat*8+1) i.b.toNat) cB.C cB.E cB.B cB.T cB.P cB.Y cB.R cB.V) (ZM (ZI fr (0+i.c.toNat*8) (0+i.c.toNat*8+1) i.c.toNat) cC.C cC.E cC.B cC.T cC.P cC.Y cC.R cC.V)):=by kernel_rfl
def ZMF:=Bx.mk (by have h:=@ZCO;simp(maxSteps:=99999999) only[Zx.v,ZF.v,ZD.v,ZO.v,ZU.v,ZR.v,Zp.v,Zw.v,Zl.v,ZB.v,Zo.v,Zq.v,YV.v,Z2.v,Z5.v,ZA.v,Ye.v,Z8.v,U5.v,-eq_self] at h;exact h)
theorem ZCP (i:In) (fr:Nat→Cp) (cB:Cp) (lo:Nat) (hi:Nat) (cC:Cp) (r:Cp):obs (evF Tryz.prog (Zk 3 (Za (mkL cB lo hi [(69,83,Zav cC.val cB.val r.val,[])])) Zc) Zb 100 20 40 (YT fr 40 i.a i.b i.c i.m) (Zu 13 4096))=Wo r.C r.E r.B r.T r.P r.Y r.R r.V (Xl (JP (Vp (0+i.c.toNat*8+8) fr fr (0+i.c.toNat*8) i.c i.c (WF (0+i.b.toNat*8+8) fr (0+i.b.toNat*8)) i.b i.b (ZM (ZI fr (0+i.b.toNat*8) (0+i.b.toNat*8+1) i.b.toNat) cB.C cB.E cB.B cB.T cB.P cB.Y cB.R cB.V))) (ZM (ZI fr (0+i.c.toNat*8) (0+i.c.toNat*8+1) i.c.toNat) cC.C cC.E cC.B cC.T cC.P cC.Y cC.R cC.V) (ZM (ZI fr (0+i.b.toNat*8) (0+i.b.toNat*8+1) i.b.toNat) cB.C cB.E cB.B cB.T cB.P cB.Y cB.R cB.V)):=by kernel_rfl
def ZMG:=Bx.mk (by have h:=@ZCP;simp(maxSteps:=99999999) only[Zx.v,ZF.v,ZD.v,ZO.v,ZU.v,ZR.v,Zp.v,Zw.v,Zl.v,ZB.v,Zo.v,YV.v,Z2.v,Z5.v,ZA.v,UA.v,Ye.v,Z8.v,U5.v,-eq_self] at h;exact h)
theorem ZCQ (i:In) (fr:Nat→Cp) (cB:Cp) (lo:Nat) (hi:Nat):obs (evF Tryz.prog (Zk 3 (Za (mkL cB lo hi [])) Zc) Zb 100 20 40 (YT fr 42 i.a i.b i.c i.m) (Zu 14 8192))=Zba (Zff (WQ fr 0 (i.b.toNat*8)) 0) (ZgX (Vp (0+i.c.toNat*8+8) fr fr (0+i.c.toNat*8) i.c i.c (WF (0+i.b.toNat*8+8) fr (0+i.b.toNat*8)) i.b i.b (ZM (ZI fr (0+i.b.toNat*8) (0+i.b.toNat*8+1) i.b.toNat) cB.C cB.E cB.B cB.T cB.P cB.Y cB.R cB.V)) Ze):=by kernel_rfl
def ZMH:=Bx.mk (by have h:=@ZCQ;simp(maxSteps:=99999999) only[Zx.v,ZF.v,ZD.v,ZO.v,ZU.v,ZR.v,Zw.v,Zl.v,ZB.v,Zo.v,Zq.v,YV.v,Z5.v,Xn.v,ZA.v,Ye.v,Z8.v,ZnV.v,U5.v,-eq_self] at h;exact h)
theorem ZCR (i:In) (fr:Nat→Cp) (cB:Cp) (lo:Nat) (hi:Nat):obs (evF Tryz.prog (Zk 3 (Za (mkL cB lo hi [])) Zc) Zb 100 20 40 (YT fr 43 i.a i.b i.c i.m) (Zu 15 16384))=Zba (ZhY lo 0) (XU (X5 (Ka (Yd (0+i.c.toNat*8+8) fr (0+i.c.toNat*8) i.c (0+i.b.toNat*8+8) (0+i.b.toNat*8) i.b (ZM (ZI fr (0+i.b.toNat*8) (0+i.b.toNat*8+1) i.b.toNat) cB.C cB.E cB.B cB.T cB.P cB.Y cB.R cB.V))))):=by kernel_rfl
def ZMI:=Bx.mk (by have h:=@ZCR;simp(maxSteps:=99999999) only[Zx.v,ZF.v,ZD.v,ZO.v,ZU.v,ZR.v,Zw.v,Zl.v,ZB.v,Zo.v,YV.v,Z5.v,Xn.v,ZA.v,Zdn.v,QX.v,Ye.v,Js.v,Z8.v,-eq_self] at h;exact h)
def ZnW:=(4294967295:Int)
def Zvg (a b:Int):=u64.wrap (a-b)
def ZGS:=Bx.mk (aI @ZnW.eq_1 @Zvg.eq_1)
theorem ZCS (i:In) (fr:Nat→Cp) (cB:Cp) (lo:Nat) (hi:Nat):obs (evF Tryz.prog (Zk 3 (Za (mkL cB lo hi [])) Zc) Zb 100 20 40 (YT fr 44 i.a i.b i.c i.m) (Zu 16 32768))=Zba (Zed (ZhF ZnW (Zvg (QW hi) (Qv lo)) ZnW) 0) (Zax (Vp (0+i.c.toNat*8+8) fr fr (0+i.c.toNat*8) i.c i.c (WF (0+i.b.toNat*8+8) fr (0+i.b.toNat*8)) i.b i.b (ZM (ZI fr (0+i.b.toNat*8) (0+i.b.toNat*8+1) i.b.toNat) cB.C cB.E cB.B cB.T cB.P cB.Y cB.R cB.V))):=by kernel_rfl
def ZMJ:=Bx.mk (by have h:=@ZCS;simp(maxSteps:=99999999) only[Zx.v,ZF.v,ZD.v,ZO.v,ZU.v,ZR.v,Zw.v,Zl.v,ZB.v,Zo.v,Zq.v,YV.v,Z2.v,Xh.v,Z5.v,Xn.v,ZA.v,ZjN.v,Ye.v,Zkk.v,Z8.v,Zkl.v,U5.v,ZGS.v,-eq_self] at h;exact h)
theorem ZCT (i:In) (fr:Nat→Cp) (cB:Cp) (lo:Nat) (hi:Nat):obs (evF Tryz.prog (Zk 3 (Za (mkL cB lo hi [])) Zc) Zb 100 20 40 (YT fr 45 i.a i.b i.c i.m) (Zu 17 65536))=Kc (ZaJ (Zed (KV fr (0+i.b.toNat*8+1+1+1+1)) 0)) (X5 (Vp (0+i.c.toNat*8+8) fr fr (0+i.c.toNat*8) i.c i.c (WF (0+i.b.toNat*8+8) fr (0+i.b.toNat*8)) i.b i.b (ZM (ZI fr (0+i.b.toNat*8) (0+i.b.toNat*8+1) i.b.toNat) cB.C cB.E cB.B cB.T cB.P cB.Y cB.R cB.V))):=by kernel_rfl
def ZMK:=Bx.mk (by have h:=@ZCT;simp(maxSteps:=99999999) only[Zx.v,ZF.v,ZD.v,ZO.v,ZU.v,YA.v,ZR.v,Zw.v,Zl.v,ZB.v,Zo.v,YV.v,Z2.v,Z5.v,ZA.v,Ye.v,Zkk.v,Z8.v,U5.v,-eq_self] at h;exact h)
theorem ZCU (i:In) (fr:Nat→Cp) (cB:Cp) (lo:Nat) (hi:Nat):obs (evF Tryz.prog (Zk 3 (Za (mkL cB lo hi [])) Zc) Zb 100 20 40 (YT fr 46 i.a i.b i.c i.m) (Zu 18 131072))=Zba (Zed (KV fr (0+i.b.toNat*8+1+1+1+1+1)) 0) (Yt (X5 (Vp (0+i.c.toNat*8+8) fr fr (0+i.c.toNat*8) i.c i.c (WF (0+i.b.toNat*8+8) fr (0+i.b.toNat*8)) i.b i.b (ZM (ZI fr (0+i.b.toNat*8) (0+i.b.toNat*8+1) i.b.toNat) cB.C cB.E cB.B cB.T cB.P cB.Y cB.R cB.V)))):=by kernel_rfl
def ZML:=Bx.mk (by have h:=@ZCU;simp(maxSteps:=99999999) only[Zx.v,ZF.v,ZD.v,ZO.v,ZU.v,ZR.v,Zw.v,Zl.v,ZB.v,Zo.v,Zq.v,YV.v,Z2.v,Z5.v,Xn.v,ZA.v,Ye.v,Zkk.v,Zbw.v,Z8.v,U5.v,-eq_self] at h;exact h)
theorem ZCV (i:In) (fr:Nat→Cp) (cB:Cp) (lo:Nat) (hi:Nat) (k:Bool) (r:Cp):obs (evF Tryz.prog (Zk 3 (Za (mkL cB lo hi [(69,84,ZjQ (Value.bool k) r.val,[])])) Zc) Zb 100 20 40 (YT fr 47 i.a i.b i.c i.m) (Zu 19 262144))=Wo r.C r.E r.B r.T r.P r.Y r.R r.V (XQ (XU (X5 (X5 (XQ (ZbZ (WF (0+i.c.toNat*8+8) fr (0+i.c.toNat*8)) (ZkU i.c i.c) (WF (0+i.b.toNat*8+8) fr (0+i.b.toNat*8)) (W8 (ZkU i.b i.b) True)) (ZM (ZI fr (0+i.b.toNat*8) (0+i.b.toNat*8+1) i.b.toNat) cB.C cB.E cB.B cB.T cB.P cB.Y cB.R cB.V))))) (Value.bool (VL fr i.b.toNat)=Value.bool k)):=by kernel_rfl
def ZMM:=Bx.mk (by have h:=@ZCV;simp(maxSteps:=99999999) only[Zx.v,ZF.v,ZD.v,ZO.v,ZU.v,ZR.v,Zw.v,Zl.v,ZB.v,Zo.v,YV.v,Z5.v,ZA.v,QX.v,Ye.v,Js.v,Z8.v,-eq_self] at h;exact h)
def Zay (a:List Value) (b:Bool):=Con.pure a (Value.bool b)
def XV (a:Value) (b:Bool):=Zay [a] b
def WY:=Bx.mk (aI @Zay.eq_1 @XV.eq_1)
theorem ZCW (i:In) (fr:Nat→Cp) (cB:Cp) (lo:Nat) (hi:Nat) (k:Bool) (r:Cp):obs (evF Tryz.prog (Zk 3 (Za (mkL cB lo hi [(69,85,XV cB.val k,[]),(69,84,ZjQ (Value.bool k) r.val,[])])) Zc) Zb 100 20 40 (YT fr 48 i.a i.b i.c i.m) (Zu 20 524288))=Wo r.C r.E r.B r.T r.P r.Y r.R r.V (XQ (XQ (Zax (X5 (Ka (Yd (0+i.c.toNat*8+8) fr (0+i.c.toNat*8) i.c (0+i.b.toNat*8+8) (0+i.b.toNat*8) i.b (ZM (ZI fr (0+i.b.toNat*8) (0+i.b.toNat*8+1) i.b.toNat) cB.C cB.E cB.B cB.T cB.P cB.Y cB.R cB.V))))) (ZM (ZI fr (0+i.b.toNat*8) (0+i.b.toNat*8+1) i.b.toNat) cB.C cB.E cB.B cB.T cB.P cB.Y cB.R cB.V)) (QR (Value.bool k))):=by kernel_rfl
def ZMN:=Bx.mk (by have h:=@ZCW;simp(maxSteps:=99999999) only[Zx.v,ZF.v,ZD.v,ZO.v,ZU.v,ZR.v,Zw.v,Zl.v,ZB.v,Zo.v,Zq.v,YV.v,Z5.v,ZA.v,ZjN.v,Ye.v,Z8.v,Zkl.v,WY.v,-eq_self] at h;exact h)
theorem ZCX (i:In) (fr:Nat→Cp) (cB:Cp) (lo:Nat) (hi:Nat) (r:Cp):obs (evF Tryz.prog (Zk 3 (Za (mkL cB lo hi [(69,34,Zb3 fr (VD i.m) r.val,[])])) Zc) Zb 100 20 40 (YT fr 49 i.a i.b i.c i.m) (Zu 21 1048576))=Wo r.C r.E r.B r.T r.P r.Y r.R r.V (Xl (ZgX (ZdX (Vp (0+i.c.toNat*8+8) fr fr (0+i.c.toNat*8) i.c i.c (WF (0+i.b.toNat*8+8) fr (0+i.b.toNat*8)) i.b i.b (ZM (ZI fr (0+i.b.toNat*8) (0+i.b.toNat*8+1) i.b.toNat) cB.C cB.E cB.B cB.T cB.P cB.Y cB.R cB.V))) Ze) (Uj fr fr) (WR i.m)):=by kernel_rfl
def ZMO:=Bx.mk (by have h:=@ZCX;simp(maxSteps:=99999999) only[Zx.v,ZF.v,ZD.v,ZO.v,ZU.v,ZR.v,Zp.v,Zw.v,Zl.v,ZB.v,Zo.v,Zq.v,Zy.v,YV.v,Z2.v,Z5.v,Xn.v,ZA.v,Ye.v,Z8.v,ZnV.v,U5.v,-eq_self] at h;exact h)
theorem ZGT (i:In) (fr:Nat→Cp) (cB:Cp) (lo:Nat) (hi:Nat):obs (evF Tryz.prog (Zk 3 (Za (mkL cB lo hi [])) Zc) Zb 100 20 40 (Zd1 fr i.val) (Zu 21 0))=Wj (ZI fr (0+i.b.toNat*8) (0+i.b.toNat*8+1) i.b.toNat) (QF (Zc6 (Zc6 (V0 (Yd (0+i.c.toNat*8+8) fr (0+i.c.toNat*8) i.c (0+i.b.toNat*8+8) (0+i.b.toNat*8) i.b (ZM (ZI fr (0+i.b.toNat*8) (0+i.b.toNat*8+1) i.b.toNat) cB.C cB.E cB.B cB.T cB.P cB.Y cB.R cB.V)) (ZQ i.op 1) (ZQ i.op 2) (i.op==YD) i.op 41) (ZQ i.op 32) (ZQ i.op 33) (ZQ i.op 34) (ZQ i.op 35) (ZQ i.op 36) (ZQ i.op 37) (ZQ i.op 38) (ZQ i.op 39)) (ZQ i.op 40) (ZQ i.op 42) (ZQ i.op 43) (ZQ i.op 44) (ZQ i.op 45) (ZQ i.op 46) (ZQ i.op 47) (ZQ i.op 48)) (ZQ i.op 49)):=by kernel_rfl
def mk_d:=Bx.mk (by have h:=@ZGT;simp(maxSteps:=99999999) only[Zx.v,ZF.v,ZD.v,YA.v,ZR.v,Zw.v,Zl.v,Zy.v,QA.v,Z5.v,Zdl.v,ZA.v,-eq_self] at h;exact h)
def Zaz:=ZLG 1
def ZjR:=Bx.mk @Zaz.eq_1
theorem ZGU (k:Bool):obs (evF Tryz.prog Zc Zb 100 20 84 [Value.bool k] (Vk [KR]))=Zba (Zff Zaz 0) (Vt (k=true)):=by kernel_rfl
def tr_t:=Bx.mk (by have h:=@ZGU;simp(maxSteps:=99999999) only[Zx.v,ZF.v,ZD.v,X0.v,ZR.v,Zw.v,Zl.v,Xn.v,ZA.v,ZjR.v,-eq_self] at h;exact h)
theorem ZGV (k:Bool):obs (evF Tryz.prog Zc Zb 100 20 84 [Value.bool k] (Vk [W1]))=Zba ZnP (Uc k):=by kernel_rfl
def tr_f:=Bx.mk (by have h:=@ZGV;simp(maxSteps:=99999999) only[Zx.v,ZF.v,X0.v,ZR.v,Ud.v,Zw.v,Zl.v,Xn.v,ZA.v,-eq_self] at h;exact h)
def ZCZ (a:Nat) (b:Int):=QW a==b
def Zpl (a b:Nat):=ZCZ a (QW b)
def ZnX (a:Value) (b c:Nat):=Vm a b (ZX c)
def Y8 (a:Int) (b c:Nat):=ZnX (ZcC a) b c
def ZaA (a:Bool) (b:Prop):=UK (Value.bool a) QB b
def Yn:=Bx.mk (aI @ZCZ.eq_1 (aI @Zpl.eq_1 (aI @ZnX.eq_1 (aI @Y8.eq_1 @ZaA.eq_1))))
theorem ZCY (a:Nat) (b:Nat):obs (evF Tryz.prog Zc Zb 100 20 38 (Y8 25 a b) (Vk [KR]))=ZaA (Zpl a b) (Vt Ze):=by kernel_rfl
def ZMP:=Bx.mk (by have h:=@ZCY;simp(maxSteps:=99999999) only[Zx.v,ZF.v,ZD.v,ZO.v,X0.v,ZR.v,Zp.v,Zq.v,Yn.v,-eq_self] at h;exact h)
theorem ZC0 (a:Nat) (b:Nat):obs (evF Tryz.prog Zc Zb 100 20 38 (Y8 26 a b) (Vk [W1,Zc9]))=ZaA (ZnL a (QW b)) (ZL W0):=by kernel_rfl
def ZMQ:=Bx.mk (by have h:=@ZC0;simp(maxSteps:=99999999) only[Zx.v,ZF.v,ZD.v,ZO.v,X0.v,ZR.v,Zp.v,Zq.v,Ym.v,Yn.v,-eq_self] at h;exact h)
def ZnY (a:Nat):=IntKind.i32.wrap (QW a)
def ZGW:=Bx.mk @ZnY.eq_1
theorem ZC1 (a:Nat) (b:Nat):obs (evF Tryz.prog Zc Zb 100 20 38 (Y8 27 a b) (Vk [W1,ZbS,ZgB 2]))=ZaA (decide (ZnY a<ZnY b)) (Yt W0):=by kernel_rfl
def ZMR:=Bx.mk (by have h:=@ZC1;simp(maxSteps:=99999999) only[Zx.v,ZF.v,ZD.v,ZO.v,ZU.v,X0.v,ZR.v,Zp.v,Zq.v,Zbw.v,Yn.v,ZGW.v,-eq_self] at h;exact h)
def ZcT:=XU W0
def ZnZ:=Bx.mk @ZcT.eq_1
theorem ZC2 (a:Nat) (b:Nat):obs (evF Tryz.prog Zc Zb 100 20 38 (Y8 28 a b) (Zu 4 8))=ZaA (!decide (ZnY a<ZnY b)) ZcT:=by kernel_rfl
def ZMS:=Bx.mk (by have h:=@ZC2;simp(maxSteps:=99999999) only[Zx.v,ZF.v,ZD.v,ZO.v,ZU.v,ZR.v,Zp.v,ZB.v,Zq.v,QX.v,Js.v,Yn.v,ZGW.v,ZnZ.v,-eq_self] at h;exact h)
theorem ZGX (op:Int) (a:Nat) (b:Nat):obs (evF Tryz.prog Zc Zb 100 20 38 (ZnX (VD op) a b) (Zu 4 0))=UK Xe Xe (V0 True (ZQ op 25) (ZQ op 26) (ZQ op 27) op 28):=by kernel_rfl
def tk_n:=Bx.mk (by have h:=@ZGX;simp(maxSteps:=99999999) only[Zx.v,ZF.v,ZU.v,YA.v,ZR.v,Zp.v,Zq.v,Zy.v,Zdl.v,Yn.v,-eq_self] at h;exact h)
theorem ZC3 (a b:Nat) (W:World) :
  Calls Tryz.prog 137 #[.int .u32 a,.int .u32 b] W fun e w'=>e = .returned (.int .u32 (((a:Int)+b)%4294967296))∧w'=W:=by
 go_enter Tryz.func137,Tryz.ntmps137
 go_wp2
 go_ret
 exact⟨rfl,rfl⟩
theorem ZxO (a:Nat) (W:World) :
  Calls Tryz.prog 140 #[.int .u32 a,.int .u32 0] W fun e w'=>e = .panicked [{ v:=.iface 10 (strVal "integer divide by zero"),recovered:=false }]∧w'=W:=by
 go_enter Tryz.func140,Tryz.ntmps140
 go_wp2
 simp[bodyPost]
theorem Zee (p q s:Nat) (u:TypeId) (pv:Value) (older:List PanicEntry) (w:World) {x y z:Value} {tp tq ts:TypeId} (hp:Blk w p tp #[x]) (hq:Blk w q tq #[y]) (hs:Blk w s ts #[z]) (hpq:q≠p) (hqs:s≠q) (hps:s≠p) :
  CallsD Tryz.prog 75 #[.pointer (some ⟨p,0,none⟩),.pointer (some ⟨q,0,none⟩),.pointer (some ⟨s,0,none⟩)] (.panicking ({ v:=.iface u pv,recovered:=false }::older)) w fun e u' w' =>
   e = .returned (.tuple #[])∧u' = .panicking ({ v:=.iface u pv,recovered:=true }::older)∧w'=((w.setCell ⟨p,0,none⟩ (.int .u32 0)).setCell ⟨q,0,none⟩ (.int .i64 7)).setCell ⟨s,0,none⟩ (.bool true):=by
 have p1:=hp.cell 0
 have p2:=hp.frozen 0
 have q1:=(hq.far (p:=⟨p,0,none⟩) hpq (.int .u32 0)).cell 0
 have q2:=(hq.far (p:=⟨p,0,none⟩) hpq (.int .u32 0)).frozen 0
 have s1:=((hs.far (p:=⟨p,0,none⟩) hps (.int .u32 0)).far (p:=⟨q,0,none⟩) hqs (.int .i64 7)).cell 0
 have s2:=((hs.far (p:=⟨p,0,none⟩) hps (.int .u32 0)).far (p:=⟨q,0,none⟩) hqs (.int .i64 7)).frozen 0
 simp at p1 q1 s1
 refine callsD_of_wpS Tryz.func75 rfl fun c₀ cs hu => ?_
 apply wpS_seq
 apply wpS_region
 simp[wpOpsS,go_sem,recoverD,hu,Tryz.ntmps75,Exit.thenS]
 refine wpS_cond (t:=true) (by simp[Act.eval,Array.replicate]) ?_
 simp only[if_true]
 refine wpS_of_wp ?_
 clear hp hq hs hpq hqs hps
 go_wp2
 simp[bodyPostS,results,Tryz.results75]
theorem Zk2 (p q s:Value) (w:World) :
  CallsD Tryz.prog 75 #[p,q,s] .returning w fun e u' w'=>e = .returned (.tuple #[])∧u' = .returning∧w'=w:=by
 refine callsD_of_wpS Tryz.func75 rfl fun c₀ cs hu => ?_
 apply wpS_seq
 apply wpS_region
 simp[wpOpsS,go_sem,recoverD,hu,Tryz.ntmps75,Exit.thenS]
 refine wpS_cond (t:=false) (by simp[Act.eval,Array.replicate]) ?_
 simp only[Bool.false_eq_true,if_false]
 refine wpS_of_wp (wp_skip ?_)
 cases c₀
 simp_all [bodyPostS,results,Tryz.results75]
theorem Blk.newAu {W:World} {g:Nat} (h:W.heap.size=g) (t:TypeId) (cs:Array Value):Blk (W.alloc (.cells cs t)) g t cs:=by subst h; exact Blk.new W t cs
def Zk3:Array Value:=#[.int .i64 3,.func (.func 137) #[] #[],.int .i64 4,.func (.func 138) #[] #[],.int .i64 5,.func (.func 139) #[] #[],.int .i64 6,.func (.func 140) #[] #[],.int .i64 7,.func (.func 141) #[] #[],.int .i64 8,.func (.func 142) #[] #[],.int .i64 9,.func (.func 143) #[] #[],.int .i64 10,.func (.func 144) #[] #[],.int .i64 11,.func (.func 145) #[] #[],.int .i64 12,.func (.func 146) #[] #[],.int .i64 13,.func (.func 147) #[] #[],.int .i64 14,.func (.func 149) #[] #[],.int .i64 15,.func (.func 151) #[] #[]]
theorem Zvh (W:World):Calls Tryz.prog 74 #[] W fun e w'=>e = .returned (.slice (some ⟨W.heap.size,0,none⟩) 13 13)∧w'=W.alloc (.cells Zk3 129):=by
 go_enter Tryz.func74,Tryz.ntmps74
 go_wp2
 go_ret
 exact⟨rfl,rfl⟩
def Zdq:Nat→Nat
 | 0=>137
 | 1=>138
 | 2=>139
 | 3=>140
 | 4=>141
 | 5=>142
 | 6=>143
 | 7=>144
 | 8=>145
 | 9=>146
 | 10=>147
 | 11=>149
 | 12=>151
 | _=>0
theorem ZGY:∀ k:Nat,k<13→Zk3[k*2+1]? = some (.func (.func (Zdq k)) #[] #[])
 | 0,_=>rfl
 | 1,_=>rfl
 | 2,_=>rfl
 | 3,_=>rfl
 | 4,_=>rfl
 | 5,_=>rfl
 | 6,_=>rfl
 | 7,_=>rfl
 | 8,_=>rfl
 | 9,_=>rfl
 | 10,_=>rfl
 | 11,_=>rfl
 | 12,_=>rfl
 | k+13,h=>absurd h (by omega)
theorem ZxP:∀ k:Nat,k<13→Zk3[k*2]? = some (.int .i64 ((k:Int)+3))
 | 0,_=>rfl
 | 1,_=>rfl
 | 2,_=>rfl
 | 3,_=>rfl
 | 4,_=>rfl
 | 5,_=>rfl
 | 6,_=>rfl
 | 7,_=>rfl
 | 8,_=>rfl
 | 9,_=>rfl
 | 10,_=>rfl
 | 11,_=>rfl
 | 12,_=>rfl
 | k+13,h=>absurd h (by omega)
theorem ZAI (k:Nat) (h:k<13):Zk3[k*2]? = some (.int .i64 ((k:Int)+3))∧Zk3[k*2+1]? = some (.func (.func (Zdq k)) #[] #[]):=⟨ZxP k h,ZGY k h⟩
def AluR (w wr:World) (code:Int) (z:Nat) (i:Value):Prop:=∃ k:Nat,k≤13∧z=13-k∧i = .int .i64 k∧Blk wr w.heap.size 22 #[.int .u32 0]∧Blk wr (w.heap.size+1) 36 #[.int .i64 0]∧Blk wr (w.heap.size+2) 4 #[.bool false] ∧
 Blk wr (w.heap.size+3) 129 Zk3∧Below w.heap.size w wr∧∀ j:Nat,j<k→code≠j+3
set_option maxRecDepth 100000 in
theorem Zsg (code:Int) (a b:Nat) (w:World) (hc:(code<3∨15<code)∨code=3∨(code=6∧b=0)) :
  Calls Tryz.prog 39 #[.int .i64 code,.int .u32 a,.int .u32 b] w fun e w' =>
   e = .returned (.tuple (if code=3 then #[.int .u32 (((a:Int)+b)%4294967296),.int .i64 0,.bool true] else if code=6 then #[.int .u32 0,.int .i64 7,.bool true] else #[.int .u32 0,.int .i64 0,.bool false]))∧Below w.heap.size w w':=by
 have hmf:∀ (fn:Fn) (first cap:Array Value) (w:World),(Instr.makeFunc fn first cap).run Tryz.prog w = .ok (.func fn first cap) w:=fun _ _ _ _=>rfl
 go_enter_defers Tryz.func39,Tryz.ntmps39
 go_wp2_with fail
 refine(Zvh _).mono ?_
 rintro e w1 ⟨rfl,rfl⟩
 go_wp2
 go_loopg [13] 13 (fun z i wr=>AluR w wr code z i)
 case atStart =>
  refine⟨0,by omega,rfl,rfl,?_,?_,?_,?_,?_,fun j hj=>absurd hj (by omega)⟩
  ·exact(((Blk.new w _ _).alloc _).alloc _).alloc _
  ·exact((Blk.newAu (by simp) _ _).alloc _).alloc _
  ·exact(Blk.newAu (by simp) _ _).alloc _
  ·exact Blk.newAu (by simp) _ _
  ·(repeat (first|(with_reducible exact Below.refl _ _)|(with_reducible refine Below.drew ?_)|(with_reducible refine ZJ ?_ _)|(with_reducible refine Below.alloc ?_ (by simp<;>omega) _)|(with_reducible refine Below.setCell ?_ (by simp<;>omega) _)))
 case round =>
  obtain⟨k,hk,rfl,rfl,q0,q1,q2,q3,kb,hno⟩:=hrel
  by_cases h13:k=13
  ·subst h13
   have hcn:¬ code=3∧¬ code=6:=⟨hno 0 (by omega),hno 3 (by omega)⟩
   have KB:=Qo kb
   clear q3 kb hno
   have e0:=q0.cell 0; have f0:=q0.frozen 0
   have e1:=q1.cell 0; have f1:=q1.frozen 0
   have e2:=q2.cell 0; have f2:=q2.frozen 0
   clear q0 q1 q2
   simp at e0 e1 e2
   go_wp2
   simp[bodyPostD,Leaves,settle,results,Tryz.results39,go_sem,e0,e1,e2]
   exact((KB.out.setCell (Nat.le_refl _) _).setCell (Nat.le_succ _) _).setCell (by show w.heap.size≤w.heap.size+1+1; omega) _
  have hk13:(k:Int)<13:=by omega
  obtain⟨c1,c2⟩:=ZAI k (by omega)
  have e3:=(q3.cell (k*2)).trans c1
  have e4:=(q3.cell (k*2+1)).trans c2
  by_cases hit:((k:Int)+3)=code
  rotate_left
  ·have KB:=Qo kb
   have Q0:=Qo q0
   have Q1:=Qo q1
   have Q2:=Qo q2
   have Q3:=Qo q3
   have HNO:=Qo hno
   clear q0 q1 q2 q3 kb hno c1 c2
   go_wp2
   go_roundg (12-k)
   case measure=>omega
   case rel =>
    have q3:=Q3.out
    refine⟨k+1,by omega,by omega,by simp,Q0.out.alloc _,Q1.out.alloc _,Q2.out.alloc _,q3.alloc _,Below.alloc KB.out KB.out.size _,fun j hj => ?_⟩
    rcases Nat.lt_or_ge j k with h|h
    ·exact HNO.out j h
    ·have:j=k:=by omega
     subst this
     exact fun e=>hit e.symm
  have KB:=Qo kb
  have Q3:=Qo q3
  have Q0:=Qo q0
  have Q1:=Qo q1
  have Q2:=Qo q2
  have l0:=q0.lt; have l1:=q1.lt; have l2:=q2.lt
  have e0:=q0.cell 0; have f0:=q0.frozen 0
  have e1:=q1.cell 0; have f1:=q1.frozen 0
  have e2:=q2.cell 0; have f2:=q2.frozen 0
  clear q0 q1 q2 q3 kb hno
  simp at e0 e1 e2
  have hk2:k=0∨(k=3∧b=0):=by omega
  rcases hk2 with rfl|⟨rfl,rfl⟩
  ·obtain rfl:code=3:=by omega
   simp[Zdq] at e3 e4
   clear c1 c2 hit hc h13 hk13
   go_wp2_with fail
   refine(ZC3 a b _).mono ?_
   rintro e w2 ⟨rfl,rfl⟩
   go_wp2
   refine leaves_cons (f:=75) (args:=#[.pointer (some ⟨w.heap.size,0,none⟩),.pointer (some ⟨w.heap.size+1,0,none⟩),.pointer (some ⟨w.heap.size+1+1,0,none⟩)]) (by simp) (by simp[go_sem]) ?_
   refine(Zk2 _ _ _ _).mono ?_
   rintro e u' w3 ⟨rfl,rfl,rfl⟩
   have Q2':Blk wr (w.heap.size+1+1) 4 #[.bool false]:=Q2.out
   have z0:=((((Q0.out.set_ 0 (.int .u32 (((a:Int)+b)%4294967296))).far (p:=⟨w.heap.size+1,0,none⟩) (by simp) (.int .i64 0)).far (p:=⟨w.heap.size+1+1,0,none⟩) (by simp; omega) (.bool true)).alloc (.cells #[.int .i64 3,.func (.func 137) #[] #[]] 129)).cell 0
   have z1:=((((Q1.out.far (p:=⟨w.heap.size,0,none⟩) (by simp) (.int .u32 (((a:Int)+b)%4294967296))).set_ 0 (.int .i64 0)).far (p:=⟨w.heap.size+1+1,0,none⟩) (by simp) (.bool true)).alloc (.cells #[.int .i64 3,.func (.func 137) #[] #[]] 129)).cell 0
   have z2:=((((Q2'.far (p:=⟨w.heap.size,0,none⟩) (by simp; omega) (.int .u32 (((a:Int)+b)%4294967296))).far (p:=⟨w.heap.size+1,0,none⟩) (by simp) (.int .i64 0)).set_ 0 (.bool true)).alloc (.cells #[.int .i64 3,.func (.func 137) #[] #[]] 129)).cell 0
   simp only[List.setIfInBounds_toArray,List.set_cons_zero,List.getElem?_toArray,List.getElem?_cons_zero] at z0 z1 z2
   simp[Leaves,settle,results,Tryz.results39,go_sem,z0,z1,z2]
   exact(((KB.out.setCell (Nat.le_refl _) _).setCell (Nat.le_succ _) _).setCell (by show w.heap.size≤w.heap.size+1+1; omega) _).alloc (by simp; omega) _
  ·obtain rfl:code=6:=by omega
   simp[Zdq] at e3 e4
   clear c1 c2 hit hc h13 hk13
   go_wp2_with fail
   refine(ZxO a _).mono ?_
   rintro e w2 ⟨rfl,rfl⟩
   go_wp2
   refine leaves_cons (f:=75) (args:=#[.pointer (some ⟨w.heap.size,0,none⟩),.pointer (some ⟨w.heap.size+1,0,none⟩),.pointer (some ⟨w.heap.size+1+1,0,none⟩)]) (by simp) (by simp[go_sem]) ?_
   refine(Zee _ _ _ _ _ _ _ (Q0.out.alloc _) (Q1.out.alloc _) (Q2.out.alloc _) (by omega) (by omega) (by omega)).mono ?_
   rintro e u' w3 ⟨rfl,rfl,rfl⟩
   have Q2':Blk wr (w.heap.size+1+1) 4 #[.bool false]:=Q2.out
   have z0:=((((Q0.out.alloc (.cells #[.int .i64 6,.func (.func 140) #[] #[]] 129)).set_ 0 (.int .u32 0)).far (p:=⟨w.heap.size+1,0,none⟩) (by simp) (.int .i64 7)).far (p:=⟨w.heap.size+1+1,0,none⟩) (by simp; omega) (.bool true)).cell 0
   have z1:=((((Q1.out.alloc (.cells #[.int .i64 6,.func (.func 140) #[] #[]] 129)).far (p:=⟨w.heap.size,0,none⟩) (by simp) (.int .u32 0)).set_ 0 (.int .i64 7)).far (p:=⟨w.heap.size+1+1,0,none⟩) (by simp) (.bool true)).cell 0
   have z2:=((((Q2'.alloc (.cells #[.int .i64 6,.func (.func 140) #[] #[]] 129)).far (p:=⟨w.heap.size,0,none⟩) (by simp; omega) (.int .u32 0)).far (p:=⟨w.heap.size+1,0,none⟩) (by simp) (.int .i64 7)).set_ 0 (.bool true)).cell 0
   simp only[List.setIfInBounds_toArray,List.set_cons_zero,List.getElem?_toArray,List.getElem?_cons_zero] at z0 z1 z2
   simp[Leaves,settle,results,Tryz.results39,go_sem,z0,z1,z2]
   exact(((KB.out.alloc (by omega) _).setCell (Nat.le_refl _) _).setCell (Nat.le_succ _) _).setCell (by show w.heap.size≤w.heap.size+1+1; omega) _
def av0 (a b:Nat):Int:=((a:Int)+b)%4294967296
def av1 (a b:Nat):Int:=((a:Int)-b)%4294967296
def av2 (a b:Nat):Int:=(a:Int)*b%4294967296
def av3 (a b:Nat):Int:=(a:Int)/b%4294967296
def av4 (a b:Nat):Int:=(a:Int)%b
def av5 (a b:Nat):Int:=bits .and .u32 a b
def av6 (a b:Nat):Int:=bits .or .u32 a b
def av7 (a b:Nat):Int:=bits .xor .u32 a b
def av8 (a b:Nat):Int:=(a:Int)*2^(b%32)%4294967296
def av9 (a b:Nat):Int:=(a:Int)/2^(b%32)
def ZmI (a b:Nat):Int:=if wrap32 (a:Int)<wrap32 (b:Int) then 1 else 0
def Zwn (a b:Nat):Int:=if(a:Int)<b then 1 else 0
def Zwo (a b:Nat):Int:=if(a:Int)=b then 1 else 0
def VN:Nat→Nat→Nat→Int
 | 0=>av0
 | 1=>av1
 | 2=>av2
 | 3=>av3
 | 4=>av4
 | 5=>av5
 | 6=>av6
 | 7=>av7
 | 8=>av8
 | 9=>av9
 | 10=>ZmI
 | 11=>Zwn
 | 12=>Zwo
 | _=>fun _ _=>0
theorem al_0 (a b:Nat) (W:World):Calls Tryz.prog 137 #[.int .u32 a,.int .u32 b] W fun e w'=>e = .returned (.int .u32 (av0 a b))∧w'=W:=by
 unfold av0
 go_enter Tryz.func137,Tryz.ntmps137
 go_wp2
 go_ret
 exact⟨rfl,rfl⟩
theorem al_1 (a b:Nat) (W:World):Calls Tryz.prog 138 #[.int .u32 a,.int .u32 b] W fun e w'=>e = .returned (.int .u32 (av1 a b))∧w'=W:=by
 unfold av1
 go_enter Tryz.func138,Tryz.ntmps138
 go_wp2
 go_ret
 exact⟨rfl,rfl⟩
theorem al_2 (a b:Nat) (W:World):Calls Tryz.prog 139 #[.int .u32 a,.int .u32 b] W fun e w'=>e = .returned (.int .u32 (av2 a b))∧w'=W:=by
 unfold av2
 go_enter Tryz.func139,Tryz.ntmps139
 go_wp2
 go_ret
 exact⟨rfl,rfl⟩
theorem al_3 (a b:Nat) (hb:¬ (b:Int)=0) (W:World):Calls Tryz.prog 140 #[.int .u32 a,.int .u32 b] W fun e w'=>e = .returned (.int .u32 (av3 a b))∧w'=W:=by
 unfold av3
 go_enter Tryz.func140,Tryz.ntmps140
 go_wp2
 go_ret
 exact⟨rfl,rfl⟩
theorem al_4 (a b:Nat) (hb:¬ (b:Int)=0) (W:World):Calls Tryz.prog 141 #[.int .u32 a,.int .u32 b] W fun e w'=>e = .returned (.int .u32 (av4 a b))∧w'=W:=by
 unfold av4
 go_enter Tryz.func141,Tryz.ntmps141
 go_wp2
 go_ret
 exact⟨rfl,rfl⟩
theorem al_5 (a b:Nat) (W:World):Calls Tryz.prog 142 #[.int .u32 a,.int .u32 b] W fun e w'=>e = .returned (.int .u32 (av5 a b))∧w'=W:=by
 unfold av5
 go_enter Tryz.func142,Tryz.ntmps142
 go_wp2
 go_ret
 exact⟨rfl,rfl⟩
theorem al_6 (a b:Nat) (W:World):Calls Tryz.prog 143 #[.int .u32 a,.int .u32 b] W fun e w'=>e = .returned (.int .u32 (av6 a b))∧w'=W:=by
 unfold av6
 go_enter Tryz.func143,Tryz.ntmps143
 go_wp2
 go_ret
 exact⟨rfl,rfl⟩
theorem al_7 (a b:Nat) (W:World):Calls Tryz.prog 144 #[.int .u32 a,.int .u32 b] W fun e w'=>e = .returned (.int .u32 (av7 a b))∧w'=W:=by
 unfold av7
 go_enter Tryz.func144,Tryz.ntmps144
 go_wp2
 go_ret
 exact⟨rfl,rfl⟩
theorem al_8 (a b:Nat) (W:World):Calls Tryz.prog 145 #[.int .u32 a,.int .u32 b] W fun e w'=>e = .returned (.int .u32 (av8 a b))∧w'=W:=by
 unfold av8
 go_enter Tryz.func145,Tryz.ntmps145
 go_wp2
 go_ret
 exact⟨rfl,rfl⟩
theorem al_9 (a b:Nat) (W:World):Calls Tryz.prog 146 #[.int .u32 a,.int .u32 b] W fun e w'=>e = .returned (.int .u32 (av9 a b))∧w'=W:=by
 unfold av9
 go_enter Tryz.func146,Tryz.ntmps146
 go_wp2
 go_ret
 exact⟨rfl,rfl⟩
theorem ZMT (a b:Nat) (W:World):Calls Tryz.prog 147 #[.int .u32 a,.int .u32 b] W fun e w'=>e = .returned (.int .u32 (ZmI a b))∧w'=W:=by
 unfold ZmI
 by_cases h:wrap32 (a:Int)<wrap32 (b:Int)
 ·rw[if_pos h]
  go_enter Tryz.func147,Tryz.ntmps147
  go_wp2
  go_ret
  exact⟨rfl,rfl⟩
 ·rw[if_neg h]
  go_enter Tryz.func147,Tryz.ntmps147
  go_wp2
  go_ret
  exact⟨rfl,rfl⟩
theorem ZMU (a b:Nat) (W:World):Calls Tryz.prog 149 #[.int .u32 a,.int .u32 b] W fun e w'=>e = .returned (.int .u32 (Zwn a b))∧w'=W:=by
 unfold Zwn
 by_cases h:(a:Int)<b
 ·rw[if_pos h]
  go_enter Tryz.func149,Tryz.ntmps149
  go_wp2
  go_ret
  exact⟨rfl,rfl⟩
 ·rw[if_neg h]
  go_enter Tryz.func149,Tryz.ntmps149
  go_wp2
  go_ret
  exact⟨rfl,rfl⟩
theorem ZMV (a b:Nat) (W:World):Calls Tryz.prog 151 #[.int .u32 a,.int .u32 b] W fun e w'=>e = .returned (.int .u32 (Zwo a b))∧w'=W:=by
 unfold Zwo
 by_cases h:(a:Int)=b
 ·rw[if_pos h]
  go_enter Tryz.func151,Tryz.ntmps151
  go_wp2
  go_ret
  exact⟨rfl,rfl⟩
 ·rw[if_neg h]
  go_enter Tryz.func151,Tryz.ntmps151
  go_wp2
  go_ret
  exact⟨rfl,rfl⟩
theorem ZMW (a:Nat) (W:World):Calls Tryz.prog 140 #[.int .u32 a,.int .u32 0] W fun e w'=>e = .panicked [{ v:=.iface 10 (strVal "integer divide by zero"),recovered:=false }]∧w'=W:=by
 go_enter Tryz.func140,Tryz.ntmps140
 go_wp2
 simp[bodyPost]
theorem ZMX (a:Nat) (W:World):Calls Tryz.prog 141 #[.int .u32 a,.int .u32 0] W fun e w'=>e = .panicked [{ v:=.iface 10 (strVal "integer divide by zero"),recovered:=false }]∧w'=W:=by
 go_enter Tryz.func141,Tryz.ntmps141
 go_wp2
 simp[bodyPost]
def ZqS (k b:Nat):Bool:=(k==3||k==4)&&b==0
theorem ZMY {b:Nat} (h:ZqS 3 b=false):¬ (b:Int)=0:=fun e=>by
 have e:b=0:=by omega
 rw[e] at h; cases h
theorem ZMZ {b:Nat} (h:ZqS 4 b=false):¬ (b:Int)=0:=fun e=>by
 have e:b=0:=by omega
 rw[e] at h; cases h
theorem ZM0 (a b:Nat) (W:World):Calls Tryz.prog (Zdq 0) #[.int .u32 a,.int .u32 b] W fun e w'=>e = .returned (.int .u32 (VN 0 a b))∧w'=W:=by
 rw[show VN 0=av0 from rfl,show Zdq 0=137 from rfl]
 exact al_0 a b W
theorem ZM1 (a b:Nat) (W:World):Calls Tryz.prog (Zdq 1) #[.int .u32 a,.int .u32 b] W fun e w'=>e = .returned (.int .u32 (VN 1 a b))∧w'=W:=by
 rw[show VN 1=av1 from rfl,show Zdq 1=138 from rfl]
 exact al_1 a b W
theorem ZM2 (a b:Nat) (W:World):Calls Tryz.prog (Zdq 2) #[.int .u32 a,.int .u32 b] W fun e w'=>e = .returned (.int .u32 (VN 2 a b))∧w'=W:=by
 rw[show VN 2=av2 from rfl,show Zdq 2=139 from rfl]
 exact al_2 a b W
theorem ZM3 (a b:Nat) (hb:¬ (b:Int)=0) (W:World):Calls Tryz.prog (Zdq 3) #[.int .u32 a,.int .u32 b] W fun e w'=>e = .returned (.int .u32 (VN 3 a b))∧w'=W:=by
 rw[show VN 3=av3 from rfl,show Zdq 3=140 from rfl]
 exact al_3 a b hb W
theorem ZM4 (a b:Nat) (hb:¬ (b:Int)=0) (W:World):Calls Tryz.prog (Zdq 4) #[.int .u32 a,.int .u32 b] W fun e w'=>e = .returned (.int .u32 (VN 4 a b))∧w'=W:=by
 rw[show VN 4=av4 from rfl,show Zdq 4=141 from rfl]
 exact al_4 a b hb W
theorem ZM5 (a b:Nat) (W:World):Calls Tryz.prog (Zdq 5) #[.int .u32 a,.int .u32 b] W fun e w'=>e = .returned (.int .u32 (VN 5 a b))∧w'=W:=by
 rw[show VN 5=av5 from rfl,show Zdq 5=142 from rfl]
 exact al_5 a b W
theorem ZM6 (a b:Nat) (W:World):Calls Tryz.prog (Zdq 6) #[.int .u32 a,.int .u32 b] W fun e w'=>e = .returned (.int .u32 (VN 6 a b))∧w'=W:=by
 rw[show VN 6=av6 from rfl,show Zdq 6=143 from rfl]
 exact al_6 a b W
theorem ZM7 (a b:Nat) (W:World):Calls Tryz.prog (Zdq 7) #[.int .u32 a,.int .u32 b] W fun e w'=>e = .returned (.int .u32 (VN 7 a b))∧w'=W:=by
 rw[show VN 7=av7 from rfl,show Zdq 7=144 from rfl]
 exact al_7 a b W
theorem ZM8 (a b:Nat) (W:World):Calls Tryz.prog (Zdq 8) #[.int .u32 a,.int .u32 b] W fun e w'=>e = .returned (.int .u32 (VN 8 a b))∧w'=W:=by
 rw[show VN 8=av8 from rfl,show Zdq 8=145 from rfl]
 exact al_8 a b W
theorem ZM9 (a b:Nat) (W:World):Calls Tryz.prog (Zdq 9) #[.int .u32 a,.int .u32 b] W fun e w'=>e = .returned (.int .u32 (VN 9 a b))∧w'=W:=by
 rw[show VN 9=av9 from rfl,show Zdq 9=146 from rfl]
 exact al_9 a b W
theorem ZGZ (a b:Nat) (W:World):Calls Tryz.prog (Zdq 10) #[.int .u32 a,.int .u32 b] W fun e w'=>e = .returned (.int .u32 (VN 10 a b))∧w'=W:=by
 rw[show VN 10=ZmI from rfl,show Zdq 10=147 from rfl]
 exact ZMT a b W
theorem ZG0 (a b:Nat) (W:World):Calls Tryz.prog (Zdq 11) #[.int .u32 a,.int .u32 b] W fun e w'=>e = .returned (.int .u32 (VN 11 a b))∧w'=W:=by
 rw[show VN 11=Zwn from rfl,show Zdq 11=149 from rfl]
 exact ZMU a b W
theorem ZG1 (a b:Nat) (W:World):Calls Tryz.prog (Zdq 12) #[.int .u32 a,.int .u32 b] W fun e w'=>e = .returned (.int .u32 (VN 12 a b))∧w'=W:=by
 rw[show VN 12=Zwo from rfl,show Zdq 12=151 from rfl]
 exact ZMV a b W
theorem al_y (k:Nat) (hk:k<13) (a b:Nat) (h:ZqS k b=false) (W:World):Calls Tryz.prog (Zdq k) #[.int .u32 a,.int .u32 b] W fun e w'=>e = .returned (.int .u32 (VN k a b))∧w'=W:=by
 have hk':k=0∨k=1∨k=2∨k=3∨k=4∨k=5∨k=6∨k=7∨k=8∨k=9∨k=10∨k=11∨k=12:=by omega
 rcases hk' with rfl|rfl|rfl|rfl|rfl|rfl|rfl|rfl|rfl|rfl|rfl|rfl|rfl
 ·exact ZM0 a b W
 ·exact ZM1 a b W
 ·exact ZM2 a b W
 ·exact ZM3 a b (ZMY h) W
 ·exact ZM4 a b (ZMZ h) W
 ·exact ZM5 a b W
 ·exact ZM6 a b W
 ·exact ZM7 a b W
 ·exact ZM8 a b W
 ·exact ZM9 a b W
 ·exact ZGZ a b W
 ·exact ZG0 a b W
 ·exact ZG1 a b W
theorem ZAJ:∀ (k:Nat),k<13→∀ (a b:Int) (W:World),(callFunc (Zdq k) #[.int .u32 a,.int .u32 b]).run Tryz.prog W = .ok (.enter (Zdq k) #[.int .u32 a,.int .u32 b]) W
 | 0,_,_,_,_=>by kernel_rfl
 | 1,_,_,_,_=>by kernel_rfl
 | 2,_,_,_,_=>by kernel_rfl
 | 3,_,_,_,_=>by kernel_rfl
 | 4,_,_,_,_=>by kernel_rfl
 | 5,_,_,_,_=>by kernel_rfl
 | 6,_,_,_,_=>by kernel_rfl
 | 7,_,_,_,_=>by kernel_rfl
 | 8,_,_,_,_=>by kernel_rfl
 | 9,_,_,_,_=>by kernel_rfl
 | 10,_,_,_,_=>by kernel_rfl
 | 11,_,_,_,_=>by kernel_rfl
 | 12,_,_,_,_=>by kernel_rfl
 | k+13,h,_,_,_=>absurd h (by omega)
theorem al_n (k:Nat) (a b:Nat) (h:ZqS k b=true) (W:World):Calls Tryz.prog (Zdq k) #[.int .u32 a,.int .u32 b] W fun e w'=>e = .panicked [{ v:=.iface 10 (strVal "integer divide by zero"),recovered:=false }]∧w'=W:=by
 unfold ZqS at h
 simp only[Bool.and_eq_true,Bool.or_eq_true,beq_iff_eq] at h
 obtain⟨rfl|rfl,rfl⟩:=h
 ·exact ZMW a W
 ·exact ZMX a W
def rkV (code:Int) (a b:Nat):Array Value:=if 3≤code∧code≤15 then(if ZqS (code-3).toNat b=true then #[.int .u32 0,.int .i64 7,.bool true] else #[.int .u32 (VN (code-3).toNat a b),.int .i64 0,.bool true]) else #[.int .u32 0,.int .i64 0,.bool false]
set_option maxRecDepth 100000 in
theorem ZxQ (code:Int) (a b:Nat) (w:World) :
  Calls Tryz.prog 39 #[.int .i64 code,.int .u32 a,.int .u32 b] w fun e w' =>
   e = .returned (.tuple (rkV code a b))∧Below w.heap.size w w':=by
 obtain⟨R,hR⟩:∃ R,rkV code a b=R:=⟨_,rfl⟩
 rw[hR]
 have hmf:∀ (fn:Fn) (first cap:Array Value) (w:World),(Instr.makeFunc fn first cap).run Tryz.prog w = .ok (.func fn first cap) w:=fun _ _ _ _=>rfl
 go_enter_defers Tryz.func39,Tryz.ntmps39
 go_wp2_with fail
 refine(Zvh _).mono ?_
 rintro e w1 ⟨rfl,rfl⟩
 go_wp2
 go_loopg [13] 13 (fun z i wr=>AluR w wr code z i)
 case atStart =>
  refine⟨0,by omega,rfl,rfl,?_,?_,?_,?_,?_,fun j hj=>absurd hj (by omega)⟩
  ·exact(((Blk.new w _ _).alloc _).alloc _).alloc _
  ·exact((Blk.newAu (by simp) _ _).alloc _).alloc _
  ·exact(Blk.newAu (by simp) _ _).alloc _
  ·exact Blk.newAu (by simp) _ _
  ·(repeat (first|(with_reducible exact Below.refl _ _)|(with_reducible refine Below.drew ?_)|(with_reducible refine ZJ ?_ _)|(with_reducible refine Below.alloc ?_ (by simp<;>omega) _)|(with_reducible refine Below.setCell ?_ (by simp<;>omega) _)))
 case round =>
  obtain⟨k,hk,rfl,rfl,q0,q1,q2,q3,kb,hno⟩:=hrel
  by_cases h13:k=13
  ·subst h13
   have hcn:rkV code a b = #[.int .u32 0,.int .i64 0,.bool false]:=by
    unfold rkV
    rw[if_neg]
    intro hcc
    exact hno (code-3).toNat (by omega) (by omega)
   rw[hcn] at hR
   subst hR
   have KB:=Qo kb
   clear q3 kb hno
   have e0:=q0.cell 0; have f0:=q0.frozen 0
   have e1:=q1.cell 0; have f1:=q1.frozen 0
   have e2:=q2.cell 0; have f2:=q2.frozen 0
   clear q0 q1 q2
   simp at e0 e1 e2
   go_wp2
   simp[bodyPostD,Leaves,settle,results,Tryz.results39,go_sem,e0,e1,e2]
   exact((KB.out.setCell (Nat.le_refl _) _).setCell (Nat.le_succ _) _).setCell (by show w.heap.size≤w.heap.size+1+1; omega) _
  have hk13:(k:Int)<13:=by omega
  obtain⟨c1,c2⟩:=ZAI k (by omega)
  have e3:=(q3.cell (k*2)).trans c1
  have e4:=(q3.cell (k*2+1)).trans c2
  by_cases hit:((k:Int)+3)=code
  rotate_left
  ·have KB:=Qo kb
   have Q0:=Qo q0
   have Q1:=Qo q1
   have Q2:=Qo q2
   have Q3:=Qo q3
   have HNO:=Qo hno
   clear q0 q1 q2 q3 kb hno c1 c2
   go_wp2
   go_roundg (12-k)
   case measure=>omega
   case rel =>
    have q3:=Q3.out
    refine⟨k+1,by omega,by omega,by simp,Q0.out.alloc _,Q1.out.alloc _,Q2.out.alloc _,q3.alloc _,Below.alloc KB.out KB.out.size _,fun j hj => ?_⟩
    rcases Nat.lt_or_ge j k with h|h
    ·exact HNO.out j h
    ·have:j=k:=by omega
     subst this
     exact fun e=>hit e.symm
  have KB:=Qo kb
  have Q3:=Qo q3
  have Q0:=Qo q0
  have Q1:=Qo q1
  have Q2:=Qo q2
  have l0:=q0.lt; have l1:=q1.lt; have l2:=q2.lt
  have e0:=q0.cell 0; have f0:=q0.frozen 0
  have e1:=q1.cell 0; have f1:=q1.frozen 0
  have e2:=q2.cell 0; have f2:=q2.frozen 0
  clear q0 q1 q2 q3 kb hno
  simp at e0 e1 e2
  have hcode:code=(k:Int)+3:=hit.symm
  subst hcode
  have hkk:((k:Int)+3-3).toNat=k:=by omega
  clear c1 c2 hit h13
  cases hz:ZqS k b
  ·have hrk:rkV ((k:Int)+3) a b = #[.int .u32 (VN k a b),.int .i64 0,.bool true]:=by unfold rkV; rw[if_pos (by omega),hkk,hz]; rfl
   rw[hrk] at hR
   subst hR
   have hal:=al_y k (by omega) a b hz
   clear hrk hz hkk
   have hfr:=ZAJ k (by omega) a b
   generalize Zdq k=fk at *
   go_wp2_with fail
   refine(hal _).mono ?_
   rintro e w2 ⟨rfl,rfl⟩
   go_wp2
   refine leaves_cons (f:=75) (args:=#[.pointer (some ⟨w.heap.size,0,none⟩),.pointer (some ⟨w.heap.size+1,0,none⟩),.pointer (some ⟨w.heap.size+1+1,0,none⟩)]) (by simp) (by simp[go_sem]) ?_
   refine(Zk2 _ _ _ _).mono ?_
   rintro e u' w3 ⟨rfl,rfl,rfl⟩
   have Q2':Blk wr (w.heap.size+1+1) 4 #[.bool false]:=Q2.out
   have z0:=((((Q0.out.set_ 0 (.int .u32 (VN k a b))).far (p:=⟨w.heap.size+1,0,none⟩) (by simp) (.int .i64 0)).far (p:=⟨w.heap.size+1+1,0,none⟩) (by simp; omega) (.bool true)).alloc (.cells #[.int .i64 ((k:Int)+3),.func (.func fk) #[] #[]] 129)).cell 0
   have z1:=((((Q1.out.far (p:=⟨w.heap.size,0,none⟩) (by simp) (.int .u32 (VN k a b))).set_ 0 (.int .i64 0)).far (p:=⟨w.heap.size+1+1,0,none⟩) (by simp) (.bool true)).alloc (.cells #[.int .i64 ((k:Int)+3),.func (.func fk) #[] #[]] 129)).cell 0
   have z2:=((((Q2'.far (p:=⟨w.heap.size,0,none⟩) (by simp; omega) (.int .u32 (VN k a b))).far (p:=⟨w.heap.size+1,0,none⟩) (by simp) (.int .i64 0)).set_ 0 (.bool true)).alloc (.cells #[.int .i64 ((k:Int)+3),.func (.func fk) #[] #[]] 129)).cell 0
   simp only[List.setIfInBounds_toArray,List.set_cons_zero,List.getElem?_toArray,List.getElem?_cons_zero] at z0 z1 z2
   simp[Leaves,settle,results,Tryz.results39,go_sem,z0,z1,z2]
   exact(((KB.out.setCell (Nat.le_refl _) _).setCell (Nat.le_succ _) _).setCell (by show w.heap.size≤w.heap.size+1+1; omega) _).alloc (by simp; omega) _
  ·have hrk:rkV ((k:Int)+3) a b = #[.int .u32 0,.int .i64 7,.bool true]:=by unfold rkV; rw[if_pos (by omega),hkk,hz]; rfl
   rw[hrk] at hR
   subst hR
   have hal:=al_n k a b hz
   clear hrk hz hkk
   have hfr:=ZAJ k (by omega) a b
   generalize Zdq k=fk at *
   go_wp2_with fail
   refine(hal _).mono ?_
   rintro e w2 ⟨rfl,rfl⟩
   go_wp2
   refine leaves_cons (f:=75) (args:=#[.pointer (some ⟨w.heap.size,0,none⟩),.pointer (some ⟨w.heap.size+1,0,none⟩),.pointer (some ⟨w.heap.size+1+1,0,none⟩)]) (by simp) (by simp[go_sem]) ?_
   refine(Zee _ _ _ _ _ _ _ (Q0.out.alloc _) (Q1.out.alloc _) (Q2.out.alloc _) (by omega) (by omega) (by omega)).mono ?_
   rintro e u' w3 ⟨rfl,rfl,rfl⟩
   have Q2':Blk wr (w.heap.size+1+1) 4 #[.bool false]:=Q2.out
   have z0:=((((Q0.out.alloc (.cells #[.int .i64 ((k:Int)+3),.func (.func fk) #[] #[]] 129)).set_ 0 (.int .u32 0)).far (p:=⟨w.heap.size+1,0,none⟩) (by simp) (.int .i64 7)).far (p:=⟨w.heap.size+1+1,0,none⟩) (by simp; omega) (.bool true)).cell 0
   have z1:=((((Q1.out.alloc (.cells #[.int .i64 ((k:Int)+3),.func (.func fk) #[] #[]] 129)).far (p:=⟨w.heap.size,0,none⟩) (by simp) (.int .u32 0)).set_ 0 (.int .i64 7)).far (p:=⟨w.heap.size+1+1,0,none⟩) (by simp) (.bool true)).cell 0
   have z2:=((((Q2'.alloc (.cells #[.int .i64 ((k:Int)+3),.func (.func fk) #[] #[]] 129)).far (p:=⟨w.heap.size,0,none⟩) (by simp; omega) (.int .u32 0)).far (p:=⟨w.heap.size+1,0,none⟩) (by simp) (.int .i64 7)).set_ 0 (.bool true)).cell 0
   simp only[List.setIfInBounds_toArray,List.set_cons_zero,List.getElem?_toArray,List.getElem?_cons_zero] at z0 z1 z2
   simp[Leaves,settle,results,Tryz.results39,go_sem,z0,z1,z2]
   exact(((KB.out.alloc (by omega) _).setCell (Nat.le_refl _) _).setCell (Nat.le_succ _) _).setCell (by show w.heap.size≤w.heap.size+1+1; omega) _
def toU (m:Int):Nat:=(m%4294967296).toNat
theorem ZqT (m:Int):toU m<4294967296:=by unfold toU; omega
theorem Z9 (m:Int):u32.wrap m=((toU m:Nat):Int):=by
 unfold toU
 simp only[IntKind.wrap_u32]
 omega
def ZxR (k:Bool):Cp:=Zdk (if k=true then 1 else 0)
def lenS (lo hi:Nat):Nat:=toU (if(4294967295:Int)<u64.wrap ((hi:Int)-u64.wrap (lo:Int)) then(4294967295:Int) else u64.wrap ((hi:Int)-u64.wrap (lo:Int)))
theorem Zvi (k:Bool):ConOk Tryz.prog 84 3 (Con.pure [.bool k] (ZxR k).val):=by
 cases k
 ·exact Qj (d:=1) (Zm (L:=100) Zg (Zf _) (Zh _) 20) (tr_f.v false) (by simp only[and_self]) rfl rfl
 ·exact Qj (d:=1) (Zm (L:=100) Zg (Zf _) (Zh _) 20) (tr_t.v true) (by simp only[and_self]) rfl rfl
def tkS (op:Int) (a b:Nat):Bool:=if op=25 then((a:Int)==(b:Int)) else if op=26 then((a:Int) !=(b:Int)) else if op=27 then decide (IntKind.i32.wrap (a:Int)<IntKind.i32.wrap (b:Int)) else if op=28 then !decide (IntKind.i32.wrap (a:Int)<IntKind.i32.wrap (b:Int)) else false
def tkI (op:Int):Bool:=decide (op=25)||decide (op=26)||decide (op=27)||decide (op=28)
theorem ZxS (op:Int) (a b:Nat):ConOk Tryz.prog 38 3 (Con.pure [.int .i64 op,.int .u32 (a:Nat),.int .u32 (b:Nat)] (.tuple ⟨[.bool (tkS op a b),.bool (tkI op)]⟩)):=by
 have hs:=fun {op:Int} {T:List (Nat×Bool)} {v:Value} {q:Prop} (h:obs (evF Tryz.prog Zc Zb 100 20 38 [.int .i64 op,.int .u32 (a:Nat),.int .u32 (b:Nat)] (stT T))=some (v,q)) (hq:q) (hv:XD v=true)=>Qj (d:=1) (Zm (L:=100) Zg (Zf _) (Zh _) 20) h hq rfl hv
 by_cases h1:op=25
 ·subst h1; exact hs (ZMP.v a b) (by simp only[and_self]) rfl
 by_cases h2:op=26
 ·subst h2; exact hs (ZMQ.v a b) (by simp only[and_self]) rfl
 by_cases h3:op=27
 ·subst h3; exact hs (ZMR.v a b) (by simp only[and_self]) rfl
 by_cases h4:op=28
 ·subst h4; exact hs (ZMS.v a b) (by simp only[and_self]) rfl
 have e1:tkS op a b=false:=by unfold tkS; simp only[h1,h2,h3,h4,if_false]
 have e2:tkI op=false:=by unfold tkI; simp only[h1,h2,h3,h4,decide_false,Bool.or_self]
 rw[e1,e2]
 exact hs (tk_n.v op a b) (by simp only[Qw h1,Qw h2,Qw h3,Qw h4,and_self]) rfl
def rkN (op:Int) (a b:Nat):Nat:=if 3≤op∧op≤15 then(if ZqS (op-3).toNat b=true then 0 else toU (VN (op-3).toNat a b)) else 0
def rkT (op:Int) (b:Nat):Nat:=if 3≤op∧op≤15 then(if ZqS (op-3).toNat b=true then 7 else 0) else 0
def rkI (op:Int):Bool:=decide (3≤op∧op≤15)
theorem Zpm (o:BinOp) (h:o = .and∨o = .or∨o = .xor) (a b:Int):0≤bits o .u32 a b∧bits o .u32 a b<4294967296:=by
 rcases h with rfl|rfl|rfl
 ·show 0≤u32.wrap _∧u32.wrap _<_
  simp only[IntKind.wrap_u32]; omega
 ·show 0≤u32.wrap _∧u32.wrap _<_
  simp only[IntKind.wrap_u32]; omega
 ·show 0≤u32.wrap _∧u32.wrap _<_
  simp only[IntKind.wrap_u32]; omega
theorem Zvj (k a b:Nat) (ha:a<4294967296) (hb:b<4294967296) (hk:k<13):0≤VN k a b∧VN k a b<4294967296:=by
 have hk':k=0∨k=1∨k=2∨k=3∨k=4∨k=5∨k=6∨k=7∨k=8∨k=9∨k=10∨k=11∨k=12:=by omega
 have hp:∀ n:Nat,(1:Int)≤2^n:=fun n=>by
  have:1≤2^n:=Nat.one_le_two_pow
  have h2:((2^n:Nat):Int)=(2:Int)^n:=by rw[Int.natCast_pow]; rfl
  omega
 have hm:∀ x:Int,0≤x%4294967296∧x%4294967296<4294967296:=fun x=>by omega
 rcases hk' with rfl|rfl|rfl|rfl|rfl|rfl|rfl|rfl|rfl|rfl|rfl|rfl|rfl
 ·rw[show VN 0=av0 from rfl]; unfold av0; exact hm _
 ·rw[show VN 1=av1 from rfl]; unfold av1; exact hm _
 ·rw[show VN 2=av2 from rfl]; unfold av2; exact hm _
 ·rw[show VN 3=av3 from rfl]; unfold av3; exact hm _
 ·rw[show VN 4=av4 from rfl]; unfold av4
  by_cases h0:(b:Int)=0
  ·rw[h0,Int.emod_zero]; omega
  ·have:=Int.emod_nonneg (a:Int) h0
   have:=Int.emod_lt_of_pos (a:Int) (show(0:Int)<b by omega)
   omega
 ·rw[show VN 5=av5 from rfl]; unfold av5; exact Zpm _ (.inl rfl) _ _
 ·rw[show VN 6=av6 from rfl]; unfold av6; exact Zpm _ (.inr (.inl rfl)) _ _
 ·rw[show VN 7=av7 from rfl]; unfold av7; exact Zpm _ (.inr (.inr rfl)) _ _
 ·rw[show VN 8=av8 from rfl]; unfold av8; exact hm _
 ·rw[show VN 9=av9 from rfl]; unfold av9
  have h1:=hp (b%32)
  have h2:0≤(a:Int)/2^(b%32):=Int.ediv_nonneg (by omega) (by omega)
  have h3:(a:Int)/2^(b%32)≤(a:Int):=Int.ediv_le_self _ (by omega)
  omega
 ·rw[show VN 10=ZmI from rfl]; unfold ZmI; split<;>omega
 ·rw[show VN 11=Zwn from rfl]; unfold Zwn; split<;>omega
 ·rw[show VN 12=Zwo from rfl]; unfold Zwo; split<;>omega
theorem ZG2 (op:Int) (a b:Nat) (ha:a<4294967296) (hb:b<4294967296):ConOk Tryz.prog 39 3 (Con.pure [.int .i64 op,.int .u32 (a:Nat),.int .u32 (b:Nat)] (.tuple ⟨[.int .u32 (rkN op a b:Nat),.int .i64 (rkT op b:Nat),.bool (rkI op)]⟩)):=by
 refine QE (d:=1) (Q9 Zg (by kernel_rfl)) (fun u hu => ?_) rfl fun w => ?_
 ·simp only[List.mem_cons,List.not_mem_nil,or_false] at hu
  rcases hu with rfl|rfl|rfl<;>rfl
 ·have h:=ZxQ op a b w
  have e:(.tuple (rkV op a b):Value) = .tuple ⟨[.int .u32 (rkN op a b:Nat),.int .i64 (rkT op b:Nat),.bool (rkI op)]⟩:=by
   unfold rkV rkN rkT rkI
   by_cases h1:3≤op∧op≤15
   ·simp only[h1,and_self,if_true,decide_true]
    cases hz:ZqS (op-3).toNat b
    ·have hr:=Zvj (op-3).toNat a b ha hb (by omega)
     have e1:((toU (VN (op-3).toNat a b):Nat):Int)=VN (op-3).toNat a b:=by unfold toU; omega
     simp only[Bool.false_eq_true,if_false,e1]
     rfl
    ·simp only[if_true]; rfl
   ·simp only[h1,if_false,decide_false]; rfl
  rw[e] at h
  exact h
def JQ (fr:Nat→Cp) (op:Int) (b c:Nat) (m:Int):Cp :=
 if op=1 then Zdk (toU m) else if op=2 then Zdk (toU ((toU m:Nat)*(4096:Int))) else if op=16 then Zdk (toU (((fr b).C:Int)+(toU m:Nat))) else if op=41 then Ze9 (fr b) else if op=32 then ZbV (fr b) (toU (((fr b).C:Int)+(fr c).C)) else if op=33 then ZbV (fr b) (toU (((fr b).C:Int)+(toU m:Nat))) else if op=34 then ZbV (fr b) (fr c).C else if op=35 then ZiC (fr b) (fr c).C false else if op=36 then ZiC (fr b) (fr c).C true else if op=37 then Zwm (fr b) (fr c).C else if op=38 then Zjs (fr b) (fr c) else if op=39 then Zip (fr b) (fr c) else if op=40 then ZdQ (fr c) (fr b) else if op=42 then Zdk (fr b).C else if op=43 then Zdk (fr b).lo else if op=44 then Zdk (lenS (fr b).lo (fr b).hi) else if op=45 then Zdk (toU (fr b).P) else if op=46 then Zdk (toU (fr b).Y) else if op=47 then ZxR (fr b).V else if op=48 then ZxR (ZhN (fr b)) else if op=49 then Zdm fr m else fr b
theorem V3 {cB:Cp} {lo hi:Nat} {L:Sy.Steps} (hc:cB.Ok) (hl:lo=cB.lo) (hh:hi=cB.hi) (hL:∀ x∈L,ConOk Tryz.prog x.2.1 3 x.2.2.1∧FlatC x.2.2.1):∀ x∈mkL cB lo hi L,ConOk Tryz.prog x.2.1 3 x.2.2.1∧FlatC x.2.2.1:=fun x hx=>by
 unfold mkL at hx
 rcases List.mem_cons.1 hx with rfl|hx
 ·exact⟨ZrS cB hc lo hi hl hh,⟨fun x hx=>by cases hx⟩⟩
 ·exact hL x hx
theorem ZC4 (fr:Nat→Cp) (op:Int) (a b c:Nat) (m:Int) (hfr:YR fr) (hb0:b<16) (hc0:c<16):ConOk Tryz.prog 40 3 (Con.pure [Xu fr,(inS op a b c m).val] (JQ fr op b c m).val):=by
 have hb:b<17:=by omega
 have hc:c<17:=by omega
 have z0:=qD0 b
 have z1:=qD1 b (by omega)
 have z2:=qD0 c
 have z3:=qD1 c (by omega)
 have hNF:∀ {args:List Value} {v:Value},FlatC (Con.pure args v):=fun {_ _}=>⟨fun x hx=>by cases hx⟩
 by_cases h1:op=1
 ·subst h1
  have e:JQ fr 1 b c m=Zdk (toU m):=rfl
  rw[e]
  have hr:=mk_1.v (inS 1 a b c m) fr (fr b) (fr b).lo (fr b).hi 
  simp only[tN,(qFS fr b hb).v,(qFS fr c hc).v,Z9] at hr
  refine Qj (d:=1) (Zm (L:=100) Zg (Zn (Zj (V3 (hfr b) rfl rfl (fun y hy => ?_))) (Zf _)) (Zh _) 20) hr ?_ rfl rfl
  ·cases hy
  ·simp only[z0,z1,z2,z3,Bool.and_self,cond_true,and_true,true_and,and_self]
 by_cases h2:op=2
 ·subst h2
  have e:JQ fr 2 b c m=Zdk (toU ((toU m:Nat)*(4096:Int))):=rfl
  rw[e]
  have hr:=mk_2.v (inS 2 a b c m) fr (fr b) (fr b).lo (fr b).hi 
  simp only[tN,(qFS fr b hb).v,(qFS fr c hc).v,Z9] at hr
  refine Qj (d:=1) (Zm (L:=100) Zg (Zn (Zj (V3 (hfr b) rfl rfl (fun y hy => ?_))) (Zf _)) (Zh _) 20) hr ?_ rfl rfl
  ·cases hy
  ·simp only[z0,z1,z2,z3,Bool.and_self,cond_true,and_true,true_and,and_self]
 by_cases h16:op=16
 ·subst h16
  have e:JQ fr 16 b c m=Zdk (toU (((fr b).C:Int)+(toU m:Nat))):=rfl
  rw[e]
  have hr:=ZMw.v (inS 16 a b c m) fr (fr b) (fr b).lo (fr b).hi 
  simp only[tN,(qFS fr b hb).v,(qFS fr c hc).v,Z9] at hr
  refine Qj (d:=1) (Zm (L:=100) Zg (Zn (Zj (V3 (hfr b) rfl rfl (fun y hy => ?_))) (Zf _)) (Zh _) 20) hr ?_ rfl rfl
  ·cases hy
  ·simp only[z0,z1,z2,z3,Bool.and_self,cond_true,and_true,true_and,and_self]
 by_cases h41:op=41
 ·subst h41
  have e:JQ fr 41 b c m=Ze9 (fr b):=rfl
  rw[e]
  have hr:=ZMx.v (inS 41 a b c m) fr (fr b) (fr b).lo (fr b).hi (Ze9 (fr b))
  simp only[tN,(qFS fr b hb).v,(qFS fr c hc).v,Z9] at hr
  refine Qj (d:=1) (Zm (L:=100) Zg (Zn (Zj (V3 (hfr b) rfl rfl (fun y hy => ?_))) (Zf _)) (Zh _) 20) hr ?_ rfl rfl
  ·obtain rfl:=List.mem_singleton.1 hy
   exact⟨ZrP (fr b),hNF⟩
  ·simp only[z0,z1,z2,z3,Bool.and_self,cond_true,and_true,true_and,and_self]
 by_cases h32:op=32
 ·subst h32
  have e:JQ fr 32 b c m=ZbV (fr b) (toU (((fr b).C:Int)+(fr c).C)):=rfl
  rw[e]
  have hr:=ZMy.v (inS 32 a b c m) fr (fr b) (fr b).lo (fr b).hi (toU (((fr b).C:Int)+(fr c).C)) (ZbV (fr b) (toU (((fr b).C:Int)+(fr c).C)))
  simp only[tN,(qFS fr b hb).v,(qFS fr c hc).v,Z9] at hr
  refine Qj (d:=1) (Zm (L:=100) Zg (Zn (Zj (V3 (hfr b) rfl rfl (fun y hy => ?_))) (Zf _)) (Zh _) 20) hr ?_ rfl rfl
  ·obtain rfl:=List.mem_singleton.1 hy
   exact⟨ZgI (fr b) _ (hfr b) (ZqT _),hNF⟩
  ·simp only[z0,z1,z2,z3,Bool.and_self,cond_true,and_true,true_and,and_self]
 by_cases h33:op=33
 ·subst h33
  have e:JQ fr 33 b c m=ZbV (fr b) (toU (((fr b).C:Int)+(toU m:Nat))):=rfl
  rw[e]
  have hr:=ZMz.v (inS 33 a b c m) fr (fr b) (fr b).lo (fr b).hi (toU (((fr b).C:Int)+(toU m:Nat))) (ZbV (fr b) (toU (((fr b).C:Int)+(toU m:Nat))))
  simp only[tN,(qFS fr b hb).v,(qFS fr c hc).v,Z9] at hr
  refine Qj (d:=1) (Zm (L:=100) Zg (Zn (Zj (V3 (hfr b) rfl rfl (fun y hy => ?_))) (Zf _)) (Zh _) 20) hr ?_ rfl rfl
  ·obtain rfl:=List.mem_singleton.1 hy
   exact⟨ZgI (fr b) _ (hfr b) (ZqT _),hNF⟩
  ·simp only[z0,z1,z2,z3,Bool.and_self,cond_true,and_true,true_and,and_self]
 by_cases h34:op=34
 ·subst h34
  have e:JQ fr 34 b c m=ZbV (fr b) (fr c).C:=rfl
  rw[e]
  have hr:=ZMA.v (inS 34 a b c m) fr (fr b) (fr b).lo (fr b).hi (fr c).C (ZbV (fr b) (fr c).C)
  simp only[tN,(qFS fr b hb).v,(qFS fr c hc).v,Z9] at hr
  refine Qj (d:=1) (Zm (L:=100) Zg (Zn (Zj (V3 (hfr b) rfl rfl (fun y hy => ?_))) (Zf _)) (Zh _) 20) hr ?_ rfl rfl
  ·obtain rfl:=List.mem_singleton.1 hy
   exact⟨ZgI (fr b) _ (hfr b) (hfr c).1,hNF⟩
  ·simp only[z0,z1,z2,z3,Bool.and_self,cond_true,and_true,true_and,and_self]
 by_cases h35:op=35
 ·subst h35
  have e:JQ fr 35 b c m=ZiC (fr b) (fr c).C false:=rfl
  rw[e]
  have hr:=ZMB.v (inS 35 a b c m) fr (fr b) (fr b).lo (fr b).hi (fr c).C (ZiC (fr b) (fr c).C false)
  simp only[tN,(qFS fr b hb).v,(qFS fr c hc).v,Z9] at hr
  refine Qj (d:=1) (Zm (L:=100) Zg (Zn (Zj (V3 (hfr b) rfl rfl (fun y hy => ?_))) (Zf _)) (Zh _) 20) hr ?_ rfl rfl
  ·obtain rfl:=List.mem_singleton.1 hy
   exact⟨Zw9 (fr b) _ (hfr b) (hfr c).1,hNF⟩
  ·simp only[z0,z1,z2,z3,Bool.and_self,cond_true,and_true,true_and,and_self]
 by_cases h36:op=36
 ·subst h36
  have e:JQ fr 36 b c m=ZiC (fr b) (fr c).C true:=rfl
  rw[e]
  have hr:=ZMC.v (inS 36 a b c m) fr (fr b) (fr b).lo (fr b).hi (fr c).C (ZiC (fr b) (fr c).C true)
  simp only[tN,(qFS fr b hb).v,(qFS fr c hc).v,Z9] at hr
  refine Qj (d:=1) (Zm (L:=100) Zg (Zn (Zj (V3 (hfr b) rfl rfl (fun y hy => ?_))) (Zf _)) (Zh _) 20) hr ?_ rfl rfl
  ·obtain rfl:=List.mem_singleton.1 hy
   exact⟨ZrQ (fr b) _ (hfr b) (hfr c).1,hNF⟩
  ·simp only[z0,z1,z2,z3,Bool.and_self,cond_true,and_true,true_and,and_self]
 by_cases h37:op=37
 ·subst h37
  have e:JQ fr 37 b c m=Zwm (fr b) (fr c).C:=rfl
  rw[e]
  have hr:=ZMD.v (inS 37 a b c m) fr (fr b) (fr b).lo (fr b).hi (fr c).C (Zwm (fr b) (fr c).C)
  simp only[tN,(qFS fr b hb).v,(qFS fr c hc).v,Z9] at hr
  refine Qj (d:=1) (Zm (L:=100) Zg (Zn (Zj (V3 (hfr b) rfl rfl (fun y hy => ?_))) (Zf _)) (Zh _) 20) hr ?_ rfl rfl
  ·obtain rfl:=List.mem_singleton.1 hy
   exact⟨Zw8 (fr b) _ (hfr b) (hfr c).1,hNF⟩
  ·simp only[z0,z1,z2,z3,Bool.and_self,cond_true,and_true,true_and,and_self]
 by_cases h38:op=38
 ·subst h38
  have e:JQ fr 38 b c m=Zjs (fr b) (fr c):=rfl
  rw[e]
  have hr:=ZME.v (inS 38 a b c m) fr (fr b) (fr b).lo (fr b).hi (fr c) (Zjs (fr b) (fr c))
  simp only[tN,(qFS fr b hb).v,(qFS fr c hc).v,Z9] at hr
  refine Qj (d:=1) (Zm (L:=100) Zg (Zn (Zj (V3 (hfr b) rfl rfl (fun y hy => ?_))) (Zf _)) (Zh _) 20) hr ?_ rfl rfl
  ·obtain rfl:=List.mem_singleton.1 hy
   exact⟨Zug (fr b) (fr c) (hfr c),hNF⟩
  ·simp only[z0,z1,z2,z3,Bool.and_self,cond_true,and_true,true_and,and_self]
 by_cases h39:op=39
 ·subst h39
  have e:JQ fr 39 b c m=Zip (fr b) (fr c):=rfl
  rw[e]
  have hr:=ZMF.v (inS 39 a b c m) fr (fr b) (fr b).lo (fr b).hi (fr c) (Zip (fr b) (fr c))
  simp only[tN,(qFS fr b hb).v,(qFS fr c hc).v,Z9] at hr
  refine Qj (d:=1) (Zm (L:=100) Zg (Zn (Zj (V3 (hfr b) rfl rfl (fun y hy => ?_))) (Zf _)) (Zh _) 20) hr ?_ rfl rfl
  ·obtain rfl:=List.mem_singleton.1 hy
   exact⟨Zuh (fr b) (fr c) (hfr b) (hfr c),hNF⟩
  ·simp only[z0,z1,z2,z3,Bool.and_self,cond_true,and_true,true_and,and_self]
 by_cases h40:op=40
 ·subst h40
  have e:JQ fr 40 b c m=ZdQ (fr c) (fr b):=rfl
  rw[e]
  have hr:=ZMG.v (inS 40 a b c m) fr (fr b) (fr b).lo (fr b).hi (fr c) (ZdQ (fr c) (fr b))
  simp only[tN,(qFS fr b hb).v,(qFS fr c hc).v,Z9] at hr
  refine Qj (d:=1) (Zm (L:=100) Zg (Zn (Zj (V3 (hfr b) rfl rfl (fun y hy => ?_))) (Zf _)) (Zh _) 20) hr ?_ rfl rfl
  ·obtain rfl:=List.mem_singleton.1 hy
   exact⟨ZrR (fr c) (fr b) (hfr c) (hfr b),hNF⟩
  ·simp only[z0,z1,z2,z3,Bool.and_self,cond_true,and_true,true_and,and_self]
 by_cases h42:op=42
 ·subst h42
  have e:JQ fr 42 b c m=Zdk (fr b).C:=rfl
  rw[e]
  have hr:=ZMH.v (inS 42 a b c m) fr (fr b) (fr b).lo (fr b).hi 
  simp only[tN,(qFS fr b hb).v,(qFS fr c hc).v,Z9] at hr
  refine Qj (d:=1) (Zm (L:=100) Zg (Zn (Zj (V3 (hfr b) rfl rfl (fun y hy => ?_))) (Zf _)) (Zh _) 20) hr ?_ rfl rfl
  ·cases hy
  ·simp only[z0,z1,z2,z3,Bool.and_self,cond_true,and_true,true_and,and_self]
 by_cases h43:op=43
 ·subst h43
  have e:JQ fr 43 b c m=Zdk (fr b).lo:=rfl
  rw[e]
  have hr:=ZMI.v (inS 43 a b c m) fr (fr b) (fr b).lo (fr b).hi 
  simp only[tN,(qFS fr b hb).v,(qFS fr c hc).v,Z9] at hr
  refine Qj (d:=1) (Zm (L:=100) Zg (Zn (Zj (V3 (hfr b) rfl rfl (fun y hy => ?_))) (Zf _)) (Zh _) 20) hr ?_ rfl rfl
  ·cases hy
  ·simp only[z0,z1,z2,z3,Bool.and_self,cond_true,and_true,true_and,and_self]
 by_cases h44:op=44
 ·subst h44
  have e:JQ fr 44 b c m=Zdk (lenS (fr b).lo (fr b).hi):=rfl
  rw[e]
  have hr:=ZMJ.v (inS 44 a b c m) fr (fr b) (fr b).lo (fr b).hi 
  simp only[tN,(qFS fr b hb).v,(qFS fr c hc).v,Z9] at hr
  refine Qj (d:=1) (Zm (L:=100) Zg (Zn (Zj (V3 (hfr b) rfl rfl (fun y hy => ?_))) (Zf _)) (Zh _) 20) hr ?_ rfl rfl
  ·cases hy
  ·simp only[z0,z1,z2,z3,Bool.and_self,cond_true,and_true,true_and,and_self]
 by_cases h45:op=45
 ·subst h45
  have e:JQ fr 45 b c m=Zdk (toU (fr b).P):=rfl
  rw[e]
  have hr:=ZMK.v (inS 45 a b c m) fr (fr b) (fr b).lo (fr b).hi 
  simp only[tN,(qFS fr b hb).v,(qFS fr c hc).v,Z9] at hr
  refine Qj (d:=1) (Zm (L:=100) Zg (Zn (Zj (V3 (hfr b) rfl rfl (fun y hy => ?_))) (Zf _)) (Zh _) 20) hr ?_ rfl rfl
  ·cases hy
  ·simp only[z0,z1,z2,z3,Bool.and_self,cond_true,and_true,true_and,and_self]
 by_cases h46:op=46
 ·subst h46
  have e:JQ fr 46 b c m=Zdk (toU (fr b).Y):=rfl
  rw[e]
  have hr:=ZML.v (inS 46 a b c m) fr (fr b) (fr b).lo (fr b).hi 
  simp only[tN,(qFS fr b hb).v,(qFS fr c hc).v,Z9] at hr
  refine Qj (d:=1) (Zm (L:=100) Zg (Zn (Zj (V3 (hfr b) rfl rfl (fun y hy => ?_))) (Zf _)) (Zh _) 20) hr ?_ rfl rfl
  ·cases hy
  ·simp only[z0,z1,z2,z3,Bool.and_self,cond_true,and_true,true_and,and_self]
 by_cases h47:op=47
 ·subst h47
  have e:JQ fr 47 b c m=ZxR (fr b).V:=rfl
  rw[e]
  have hr:=ZMM.v (inS 47 a b c m) fr (fr b) (fr b).lo (fr b).hi (fr b).V (ZxR (fr b).V)
  simp only[tN,(qFS fr b hb).v,(qFS fr c hc).v,Z9] at hr
  refine Qj (d:=1) (Zm (L:=100) Zg (Zn (Zj (V3 (hfr b) rfl rfl (fun y hy => ?_))) (Zf _)) (Zh _) 20) hr ?_ rfl rfl
  ·obtain rfl:=List.mem_singleton.1 hy
   exact⟨Zvi (fr b).V,hNF⟩
  ·simp only[z0,z1,z2,z3,Bool.and_self,cond_true,and_true,true_and,and_self]
 by_cases h48:op=48
 ·subst h48
  have e:JQ fr 48 b c m=ZxR (ZhN (fr b)):=rfl
  rw[e]
  have hr:=ZMN.v (inS 48 a b c m) fr (fr b) (fr b).lo (fr b).hi (ZhN (fr b)) (ZxR (ZhN (fr b)))
  simp only[tN,(qFS fr b hb).v,(qFS fr c hc).v,Z9] at hr
  refine Qj (d:=1) (Zm (L:=100) Zg (Zn (Zj (V3 (hfr b) rfl rfl (fun y hy => ?_))) (Zf _)) (Zh _) 20) hr ?_ rfl rfl
  ·simp only[List.mem_cons,List.not_mem_nil,or_false] at hy
   rcases hy with rfl|rfl
   ·exact⟨ZrT (fr b) (hfr b),hNF⟩
   ·exact⟨Zvi _,hNF⟩
  ·simp only[z0,z1,z2,z3,Bool.and_self,cond_true,and_true,true_and,and_self]
 by_cases h49:op=49
 ·subst h49
  have e:JQ fr 49 b c m=Zdm fr m:=rfl
  rw[e]
  have hr:=ZMO.v (inS 49 a b c m) fr (fr b) (fr b).lo (fr b).hi (Zdm fr m)
  simp only[tN,(qFS fr b hb).v,(qFS fr c hc).v,Z9] at hr
  refine Qj (d:=1) (Zm (L:=100) Zg (Zn (Zj (V3 (hfr b) rfl rfl (fun y hy => ?_))) (Zf _)) (Zh _) 20) hr ?_ rfl rfl
  ·obtain rfl:=List.mem_singleton.1 hy
   exact⟨ZfR fr m hfr,hNF⟩
  ·simp only[z0,z1,z2,z3,Bool.and_self,cond_true,and_true,true_and,and_self]
 have e:JQ fr op b c m=fr b:=by unfold JQ; simp only[h1,h2,h16,h41,h32,h33,h34,h35,h36,h37,h38,h39,h40,h42,h43,h44,h45,h46,h47,h48,h49,if_false]
 rw[e]
 have hr:=mk_d.v (inS op a b c m) fr (fr b) (fr b).lo (fr b).hi
 simp only[tN,(qFS fr b hb).v,(qFS fr c hc).v,Z9] at hr
 refine Qj (d:=1) (Zm (L:=100) Zg (Zn (Zj (V3 (hfr b) rfl rfl (fun y hy => ?_))) (Zf _)) (Zh _) 20) hr ?_ rfl rfl
 ·cases hy
 ·simp only[z0,z1,z2,z3,Qw h1,Qw h2,Qw h16,Qw h41,Qw h32,Qw h33,Qw h34,Qw h35,Qw h36,Qw h37,Qw h38,Qw h39,Qw h40,Qw h42,Qw h43,Qw h44,Qw h45,Qw h46,Qw h47,Qw h48,Qw h49,Bool.and_self,cond_true,and_true,true_and,and_self]
def doL (i:In) (fr nx:Nat→Cp) (k:Bool) (rc:List Value) (L:Sy.Steps):Sy.Steps:=(71,26,Con.pure [Xu fr] (Xu nx),[])::(73,33,gwC [i.val] rc (.bool k),[])::L
def wdL (i:In) (w:Nat):Sy.Steps:=[(73,36,Con.pure [.int .i64 i.op] (.int .i64 (w:Nat)),[])]
def tkL (i:In) (cA cB:Cp) (k is:Bool):Sy.Steps:=[(73,38,Con.pure [.int .i64 i.op,.int .u32 (cA.C:Nat),.int .u32 (cB.C:Nat)] (.tuple ⟨[.bool k,.bool is]⟩),[])]
def rkL (i:In) (cB cC:Cp) (v t:Nat) (is:Bool):Sy.Steps:=[(73,39,Con.pure [.int .i64 i.op,.int .u32 (cB.C:Nat),.int .u32 (cC.C:Nat)] (.tuple ⟨[.int .u32 (v:Nat),.int .i64 (t:Nat),.bool is]⟩),[])]
def JJ (a:Prop):=ZhV (Zhj a)
def Zh3 (a:Sy.Heap) (b:List Value):=a++Y3 b
def Zvk (a:Sy.Heap) (b:List Value) (c d e f:Nat):=ZbX (Zh3 a b) c d e f
def Un (a:List Value):=Zb4 73 a
def KW (a:List UInt8) (b:Nat→Bool) (c d e:Nat) (f:List Value) (g h i j:Nat):=Zvk (ZnG a b c d e) f g h i j
def Zn0 (a b c d e:Prop):=ZuN a b c d c c c e
def Zmq (a:Nat→Cp) (b c d e:Prop):=Zn0 (JJ (Uj a a)) b c d e
def Xd:=Bx.mk (aI @JJ.eq_1 (aI @Zh3.eq_1 (aI @Zvk.eq_1 (aI @Un.eq_1 (aI @KW.eq_1 (aI @Zn0.eq_1 @Zmq.eq_1))))))
theorem ZG3 (i:In) (fr:Nat→Cp) (nx:Nat→Cp) (rc:List Value) (zs:List UInt8) (f:Nat→Bool) (N:Nat) (m:Nat) (n:Nat):obs (evF Tryz.prog (Zk 3 (Za (doL i fr nx false rc [])) Zc) Zb 100 20 13 (mvA fr i) (KW zs f N m n rc N n 5 31))=Zd5 frZ (ZcC 6) (Q6 (Zbv (Zmq fr (WS i.op i.a i.b i.c i.m) Ze (rc.all (ZZ (fun l=>l.blt 64))=true) (rc=Un rc)))):=by kernel_rfl
def do_b:=Bx.mk (by have h:=@ZG3;simp(maxSteps:=99999999) only[Zx.v,ZF.v,ZD.v,ZO.v,Zp.v,Zw.v,ZH.v,Zl.v,Zo.v,Zq.v,Yi.v,YE.v,Xn.v,ZA.v,Z7.v,Zmo.v,Xq.v,Xd.v,-eq_self] at h;exact h)
def JK (a:Int):=ZQ a 53
def UO (a:In) (b c:Nat→Cp) (d:List Value) (e:Sy.Steps):=doL a b c true d e
def Kq:=Bx.mk (aI @JK.eq_1 @UO.eq_1)
theorem ZG4 (i:In) (fr:Nat→Cp) (nx:Nat→Cp) (rc:List Value) (zs:List UInt8) (f:Nat→Bool) (N:Nat) (m:Nat) (n:Nat):obs (evF Tryz.prog (Zk 3 (Za (UO i fr nx rc [])) Zc) Zb 100 20 13 (mvA fr i) (KW zs f N m n rc N n 5 16))=Zd5 frZ (ZcC 6) (ZuS (Zmq fr (WS i.op i.a i.b i.c i.m) Ze (rc.all (ZZ (fun l=>l.blt 64))=true) (rc=Un rc)) (JK i.op=true)):=by kernel_rfl
def do_t:=Bx.mk (by have h:=@ZG4;simp(maxSteps:=99999999) only[Zx.v,ZF.v,ZD.v,ZO.v,ZU.v,YA.v,Zp.v,Zw.v,ZH.v,ZB.v,Zo.v,Zq.v,Yi.v,YE.v,Xn.v,ZA.v,Z7.v,UA.v,Xq.v,Xd.v,Kq.v,-eq_self] at h;exact h)
def Y1 (a:Int):=ZQ a 50
def ZgY (a:Nat→Cp) (b:Prop):=Zd6 (ZqG a) b
def KG (a:Nat→Cp) (b c d e:Prop):=Ka (Zmq a b c d e)
def K3:=Bx.mk (aI @Y1.eq_1 (aI @ZgY.eq_1 @KG.eq_1))
theorem ZxT (i:In) (fr:Nat→Cp) (nx:Nat→Cp) (rc:List Value) (zs:List UInt8) (f:Nat→Bool) (N:Nat) (m:Nat) (n:Nat):obs (evF Tryz.prog (Zk 3 (Za (UO i fr nx rc [])) Zc) Zb 100 20 13 (mvA fr i) (KW zs f N m n rc N n 14 16352))=ZgY fr (WA (ZL (((KP (KG fr (WS i.op i.a i.b i.c i.m) Ze (rc.all (ZZ (fun l=>l.blt 64))=true) (rc=Un rc)) (JK i.op) (Y1 i.op=true)∧Y1 i.op=true)∧Y1 i.op=true)∧Y1 i.op=true))):=by kernel_rfl
def ZG5:=Bx.mk (by have h:=@ZxT;simp(maxSteps:=99999999) only[Zx.v,ZF.v,ZD.v,ZO.v,ZU.v,YA.v,Zp.v,Zw.v,ZH.v,Zl.v,ZB.v,Zo.v,Zq.v,Yi.v,YE.v,Xn.v,Zd7.v,Z7.v,Xq.v,Xd.v,Kq.v,K3.v,-eq_self] at h;exact h)
def QU (a:Int):=ZQ a 51
def Jx:=Bx.mk @QU.eq_1
theorem ZxU (i:In) (fr:Nat→Cp) (nx:Nat→Cp) (rc:List Value) (zs:List UInt8) (f:Nat→Bool) (N:Nat) (m:Nat) (n:Nat):obs (evF Tryz.prog (Zk 3 (Za (UO i fr nx rc [])) Zc) Zb 100 20 13 (mvA fr i) (KW zs f N m n rc N n 14 15872))=ZgY fr (ZL ((((Ya (QF (KG fr (WS i.op i.a i.b i.c i.m) Ze (rc.all (ZZ (fun l=>l.blt 64))=true) (rc=Un rc)) (JK i.op)) (Y1 i.op)∧QU i.op=true)∧QU i.op=true)∧QU i.op=true)∧QU i.op=true)):=by kernel_rfl
def ZG6:=Bx.mk (by have h:=@ZxU;simp(maxSteps:=99999999) only[Zx.v,ZF.v,ZD.v,ZO.v,ZU.v,YA.v,Zp.v,Zw.v,ZH.v,ZB.v,Zo.v,Zq.v,Zy.v,Yi.v,YE.v,Xm.v,Xn.v,Zd7.v,Xy.v,Z7.v,Xq.v,Xd.v,Kq.v,K3.v,Jx.v,-eq_self] at h;exact h)
def WT (a:Int):=ZQ a 52
def Zvl (a:Prop) (b c d e f g:Bool):=ZqE a b c d e f g g
def ZcU (a:Prop) (b c d:Bool):=Zvl a b c c c c d
def VO:=Bx.mk (aI @WT.eq_1 (aI @Zvl.eq_1 @ZcU.eq_1))
theorem ZxV (i:In) (fr:Nat→Cp) (nx:Nat→Cp) (rc:List Value) (zs:List UInt8) (f:Nat→Bool) (N:Nat) (m:Nat) (n:Nat):obs (evF Tryz.prog (Zk 3 (Za (UO i fr nx rc [])) Zc) Zb 100 20 13 (mvA fr i) (KW zs f N m n rc N n 14 8192))=ZgY fr (KP (ZcU (KG fr (WS i.op i.a i.b i.c i.m) Ze (rc.all (ZZ (fun l=>l.blt 64))=true) (rc=Un rc)) (JK i.op) (Y1 i.op) (QU i.op)) (QU i.op) (WT i.op=true)):=by kernel_rfl
def ZG7:=Bx.mk (by have h:=@ZxV;simp(maxSteps:=99999999) only[Zx.v,ZF.v,ZD.v,ZO.v,ZU.v,YA.v,Zp.v,Zw.v,ZH.v,ZB.v,Zo.v,Zq.v,Zy.v,Yi.v,QA.v,YE.v,Xn.v,Zd7.v,Z7.v,Xq.v,Xd.v,Kq.v,K3.v,Jx.v,VO.v,-eq_self] at h;exact h)
def Zvm (a:Nat) (b:List Value) (c:Nat→Cp):=YU a b (frL c)
def Zvn (a:List Value) (b:Nat):=Zfu frZ a b
def Zbf (a:Bool) (b c:Int) (d:Prop):=ZaM a (ZkU b c) d
def QJ (a b c d e f g h:Nat) (i:Bool) (j:Nat→Cp):=Zvm a (ZdR b ↑c d e f g h i) j
def Kr (a b:List Value):=YU 128 a b
def Zvo (a b:List Value) (c:Nat):=Zqg 136 a frZ b c
def ZqU (a:List Value):=Zvn a 0
def Zb8 (a:List Value):=Yf (ZqU a)
def ZqV (a:List Value):=YU 0 (Zvn a 0) frZ
def ZqW (a:List Value):=ZqU (ZqV a)
def UP (a:Nat) (b:Nat→Cp):=VE (ZqI a b true)
def Ks (a:Int):=ZQ a 29
def Zef (a:List Value) (b:Prop):=ZnQ (ZqW a) b
def Zb9 (a:Nat) (b:List Value):=ZtL a frZ (Zj8 (ZqU b))
def Zca (a:List Value) (b:Nat):=Zvo a a b
def Zcb (a:List Value) (b:Nat):=Zvo (ZqV a) (ZqV a) b
def UB (a b:Prop) (c:Value):=Xl a b (QR c)
def Xr:=Bx.mk (aI @Zvm.eq_1 (aI @Zvn.eq_1 (aI @Zbf.eq_1 (aI @QJ.eq_1 (aI @Kr.eq_1 (aI @Zvo.eq_1 (aI @ZqU.eq_1 (aI @Zb8.eq_1 (aI @ZqV.eq_1 (aI @ZqW.eq_1 (aI @UP.eq_1 (aI @Ks.eq_1 (aI @Zef.eq_1 (aI @Zb9.eq_1 (aI @Zca.eq_1 (aI @Zcb.eq_1 @UB.eq_1))))))))))))))))
theorem ZC5 (i:In) (fr:Nat→Cp) (nx:Nat→Cp) (rc:List Value) (zs:List UInt8) (f:Nat→Bool) (N:Nat) (m:Nat) (n:Nat) (r:Cp) (p:Cp):obs (evF Tryz.prog (Zk 3 (Za (UO i fr nx rc [(73,34,Zb3 fr Wm r.val,[]),(74,34,Zb3 fr (VD i.m) p.val,[])])) Zc) Zb 100 20 13 (mvA fr i) (KW zs f N m n rc N n 16 16384))=Zef (Kr (ZdR p.C ↑p.E p.B p.T p.P p.Y p.R p.V) (QJ (0+i.a.toNat*8) r.C r.E r.B r.T r.P r.Y r.R r.V nx)) (ZbZ (Zcb (Kr (ZdR p.C ↑p.E p.B p.T p.P p.Y p.R p.V) (QJ (0+i.a.toNat*8) r.C r.E r.B r.T r.P r.Y r.R r.V nx)) 0) (Zb9 (0+Zb8 (Kr (ZdR p.C ↑p.E p.B p.T p.P p.Y p.R p.V) (QJ (0+i.a.toNat*8) r.C r.E r.B r.T r.P r.Y r.R r.V nx))) (Kr (ZdR p.C ↑p.E p.B p.T p.P p.Y p.R p.V) (QJ (0+i.a.toNat*8) r.C r.E r.B r.T r.P r.Y r.R r.V nx))) (Zca (Kr (ZdR p.C ↑p.E p.B p.T p.P p.Y p.R p.V) (QJ (0+i.a.toNat*8) r.C r.E r.B r.T r.P r.Y r.R r.V nx)) 0) (Y5 (W8 (ZbR 136 (QJ (0+i.a.toNat*8) r.C r.E r.B r.T r.P r.Y r.R r.V nx)) (Xl (Zbf (UP (0+i.a.toNat*8+8) nx) i.a i.a (UB (J5 (ZcU (KG fr (WS i.op i.a i.b i.c i.m) Ze (rc.all (ZZ (fun l=>l.blt 64))=true) (rc=Un rc)) (JK i.op) (Y1 i.op) (QU i.op)) (QU i.op) (WT i.op)∧Ks i.op=true) (Uj fr fr) Wm)) (Uj fr fr) (WR i.m))))):=by kernel_rfl
def ZNa:=Bx.mk (by have h:=@ZC5;simp(maxSteps:=99999999) only[Zx.v,ZF.v,ZD.v,ZO.v,ZU.v,YA.v,ZR.v,Zp.v,Zw.v,ZH.v,Zl.v,ZB.v,Zo.v,Zq.v,Zy.v,Yi.v,QA.v,YE.v,Z2.v,Z5.v,Xn.v,ZA.v,Zdn.v,Z7.v,Xq.v,Xd.v,Kq.v,K3.v,Jx.v,VO.v,Xr.v,-eq_self] at h;exact h)
def V4 (a:Nat) (b c:Nat→Cp) (d:Nat) (e f:Int) (g:Prop):=Zbf (ZqK a b c d) e f g
def Jt (a:Int):=ZQ a 30
def WU:=Bx.mk (aI @V4.eq_1 @Jt.eq_1)
theorem ZxW (i:In) (fr:Nat→Cp) (nx:Nat→Cp) (rc:List Value) (zs:List UInt8) (f:Nat→Bool) (N:Nat) (m:Nat) (n:Nat) (r:Cp) (cB:Cp) (t:Nat):obs (evF Tryz.prog (Zk 3 (Za (UO i fr nx rc [(73,34,Zb3 fr Wm r.val,[]),(73,35,Zav cB.val (ZmH 4) (Z1 t),[])])) Zc) Zb 100 20 13 (mvA fr i) (KW zs f N m n rc N n 17 32768))=Zef (Kr (Zda fr (0+i.b.toNat*8) fr (0+i.b.toNat*8+1) (Zdb fr i.b.toNat) (Zdc fr i.b.toNat) (Zdd fr i.b.toNat) (Zde fr i.b.toNat) (Zdf fr i.b.toNat) (VL fr i.b.toNat)) (QJ (0+i.a.toNat*8) r.C r.E r.B r.T r.P r.Y r.R r.V nx)) (ZbZ (Zcb (Kr (Zda fr (0+i.b.toNat*8) fr (0+i.b.toNat*8+1) (Zdb fr i.b.toNat) (Zdc fr i.b.toNat) (Zdd fr i.b.toNat) (Zde fr i.b.toNat) (Zdf fr i.b.toNat) (VL fr i.b.toNat)) (QJ (0+i.a.toNat*8) r.C r.E r.B r.T r.P r.Y r.R r.V nx)) 0) (Zb9 (0+Zb8 (Kr (Zda fr (0+i.b.toNat*8) fr (0+i.b.toNat*8+1) (Zdb fr i.b.toNat) (Zdc fr i.b.toNat) (Zdd fr i.b.toNat) (Zde fr i.b.toNat) (Zdf fr i.b.toNat) (VL fr i.b.toNat)) (QJ (0+i.a.toNat*8) r.C r.E r.B r.T r.P r.Y r.R r.V nx))) (Kr (Zda fr (0+i.b.toNat*8) fr (0+i.b.toNat*8+1) (Zdb fr i.b.toNat) (Zdc fr i.b.toNat) (Zdd fr i.b.toNat) (Zde fr i.b.toNat) (Zdf fr i.b.toNat) (VL fr i.b.toNat)) (QJ (0+i.a.toNat*8) r.C r.E r.B r.T r.P r.Y r.R r.V nx))) (Zca (Kr (Zda fr (0+i.b.toNat*8) fr (0+i.b.toNat*8+1) (Zdb fr i.b.toNat) (Zdc fr i.b.toNat) (Zdd fr i.b.toNat) (Zde fr i.b.toNat) (Zdf fr i.b.toNat) (VL fr i.b.toNat)) (QJ (0+i.a.toNat*8) r.C r.E r.B r.T r.P r.Y r.R r.V nx)) 0) (VA (W8 (ZbR 136 (QJ (0+i.a.toNat*8) r.C r.E r.B r.T r.P r.Y r.R r.V nx)) (ZnO (0+i.b.toNat*8+8) fr fr (0+i.b.toNat*8) i.b i.b (UP (0+i.a.toNat*8+8) nx) i.a i.a (UB (UB (V4 (0+i.b.toNat*8+8) fr fr (0+i.b.toNat*8) i.b i.b (ZdF (ZcU (KG fr (WS i.op i.a i.b i.c i.m) Ze (rc.all (ZZ (fun l=>l.blt 64))=true) (rc=Un rc)) (JK i.op) (Y1 i.op) (QU i.op)) (QU i.op) (WT i.op) (Ks i.op)∧Jt i.op=true)) (Uj fr fr) Wm) (ZM (ZI fr (0+i.b.toNat*8) (0+i.b.toNat*8+1) i.b.toNat) cB.C cB.E cB.B cB.T cB.P cB.Y cB.R cB.V) (ZmH 4)))) t)):=by kernel_rfl
def ZG8:=Bx.mk (by have h:=@ZxW;simp(maxSteps:=99999999) only[Zx.v,ZF.v,ZD.v,ZO.v,ZU.v,YA.v,ZR.v,Zp.v,Zw.v,ZH.v,Zl.v,ZB.v,Zo.v,Zq.v,Zy.v,Yi.v,QA.v,Ym.v,YE.v,Z2.v,Z5.v,Xn.v,ZA.v,Zdn.v,Z7.v,Xq.v,Xd.v,Kq.v,K3.v,Jx.v,VO.v,Xr.v,WU.v,-eq_self] at h;exact h)
theorem ZxX (i:In) (fr:Nat→Cp) (nx:Nat→Cp) (rc:List Value) (zs:List UInt8) (f:Nat→Bool) (N:Nat) (m:Nat) (n:Nat) (r:Cp) (cB:Cp) (t:Nat):obs (evF Tryz.prog (Zk 3 (Za (UO i fr nx rc [(73,34,Zb3 fr Wm r.val,[]),(73,35,Zav cB.val (ZmH 4) (Z1 t),[])])) Zc) Zb 100 20 13 (mvA fr i) (KW zs f N m n rc N n 17 98304))=Zfe frZ t (W8 (ZbR 136 (QJ (0+i.a.toNat*8) r.C r.E r.B r.T r.P r.Y r.R r.V nx)) (ZnO (0+i.b.toNat*8+8) fr fr (0+i.b.toNat*8) i.b i.b (UP (0+i.a.toNat*8+8) nx) i.a i.a (UB (UB (V4 (0+i.b.toNat*8+8) fr fr (0+i.b.toNat*8) i.b i.b (ZdF (ZcU (KG fr (WS i.op i.a i.b i.c i.m) Ze (rc.all (ZZ (fun l=>l.blt 64))=true) (rc=Un rc)) (JK i.op) (Y1 i.op) (QU i.op)) (QU i.op) (WT i.op) (Ks i.op)∧Jt i.op=true)) (Uj fr fr) Wm) (ZM (ZI fr (0+i.b.toNat*8) (0+i.b.toNat*8+1) i.b.toNat) cB.C cB.E cB.B cB.T cB.P cB.Y cB.R cB.V) (ZmH 4)))∧YS t=true):=by kernel_rfl
def ZG9:=Bx.mk (by have h:=@ZxX;simp(maxSteps:=99999999) only[Zx.v,ZF.v,ZD.v,ZO.v,ZU.v,YA.v,ZR.v,Zp.v,Zw.v,ZH.v,Zl.v,ZB.v,Zo.v,Zq.v,Zy.v,Yi.v,QA.v,Ym.v,YE.v,Z2.v,Z5.v,Xn.v,ZA.v,Z7.v,Xq.v,Xd.v,Kq.v,K3.v,Jx.v,VO.v,Xr.v,WU.v,-eq_self] at h;exact h)
def Zdg (a:Nat):=Zjx (QW a)
def KH (a:Prop) (b:Int):=XQ a (ZhU b b)
def YL (a:Nat→Cp) (b c d e f:Int) (g:Prop):=X4 (Uj a a) (WS b c d e f) g
def Jy:=Bx.mk (aI @Zdg.eq_1 (aI @KH.eq_1 @YL.eq_1))
theorem ZC6 (i:In) (fr:Nat→Cp) (nx:Nat→Cp) (rc:List Value) (zs:List UInt8) (f:Nat→Bool) (N:Nat) (m:Nat) (n:Nat) (w:Nat) (t:Nat) (r:Cp):obs (evF Tryz.prog (Zk 3 (Za (UO i fr nx rc (wdL i w++[(73,37,Kp fr i r t zs f N m n,[64,65,66,67])]))) Zc) Zb 100 20 13 (mvA fr i) (KW zs f N m n rc N n 18 196608))=Zfe frZ t (Zbf (UP (0+i.a.toNat*8+8) nx) i.a i.a (Qz (KH (Zc6 (ZkX (KG fr (WS i.op i.a i.b i.c i.m) Ze (rc.all (ZZ (fun l=>l.blt 64))=true) (rc=Un rc)) (JK i.op) (Y1 i.op)) (Y1 i.op) (QU i.op) (QU i.op) (QU i.op) (QU i.op) (WT i.op) (Ks i.op) (Jt i.op)) i.op∧Zdg w=true) (YL fr i.op i.a i.b i.c i.m Yq) (YK N m n (QP f n (fun l=>l.blt 68) 73) zs (fun l=>l.blt 68) 73 [64,65,66,67]) n N)∧YS t=true):=by kernel_rfl
def ZNb:=Bx.mk (by have h:=@ZC6;simp(maxSteps:=99999999) only[Zx.v,ZF.v,ZD.v,ZO.v,ZU.v,YA.v,Zp.v,Zw.v,ZH.v,Zl.v,ZB.v,Zo.v,Zq.v,Zy.v,Yi.v,QA.v,Ym.v,YE.v,Xm.v,Xn.v,ZA.v,Xy.v,Z7.v,Xq.v,Xd.v,Kq.v,K3.v,Jx.v,VO.v,Xr.v,WU.v,Jy.v,-eq_self] at h;exact h)
theorem ZC7 (i:In) (fr:Nat→Cp) (nx:Nat→Cp) (rc:List Value) (zs:List UInt8) (f:Nat→Bool) (N:Nat) (m:Nat) (n:Nat) (w:Nat) (t:Nat) (r:Cp):obs (evF Tryz.prog (Zk 3 (Za (UO i fr nx rc (wdL i w++[(73,37,Kp fr i r t zs f N m n,[64,65,66,67])]))) Zc) Zb 100 20 13 (mvA fr i) (KW zs f N m n rc N n 18 65536))=Zef (QJ (0+i.a.toNat*8) r.C r.E r.B r.T r.P r.Y r.R r.V nx) (ZbZ (Zcb (QJ (0+i.a.toNat*8) r.C r.E r.B r.T r.P r.Y r.R r.V nx) 0) (Zb9 (0+Zb8 (QJ (0+i.a.toNat*8) r.C r.E r.B r.T r.P r.Y r.R r.V nx)) (QJ (0+i.a.toNat*8) r.C r.E r.B r.T r.P r.Y r.R r.V nx)) (Zca (QJ (0+i.a.toNat*8) r.C r.E r.B r.T r.P r.Y r.R r.V nx) 0) (VA (Zbf (UP (0+i.a.toNat*8+8) nx) i.a i.a (Qz (KH (Zc6 (ZkX (KG fr (WS i.op i.a i.b i.c i.m) Ze (rc.all (ZZ (fun l=>l.blt 64))=true) (rc=Un rc)) (JK i.op) (Y1 i.op)) (Y1 i.op) (QU i.op) (QU i.op) (QU i.op) (QU i.op) (WT i.op) (Ks i.op) (Jt i.op)) i.op∧Zdg w=true) (YL fr i.op i.a i.b i.c i.m Yq) (YK N m n (QP f n (fun l=>l.blt 68) 73) zs (fun l=>l.blt 68) 73 [64,65,66,67]) n N)) t)):=by kernel_rfl
def ZNc:=Bx.mk (by have h:=@ZC7;simp(maxSteps:=99999999) only[Zx.v,ZF.v,ZD.v,ZO.v,ZU.v,YA.v,ZR.v,Zp.v,Zw.v,ZH.v,Zl.v,ZB.v,Zo.v,Zq.v,Zy.v,Yi.v,QA.v,Ym.v,YE.v,Z2.v,Xm.v,Xn.v,ZA.v,Zdn.v,Xy.v,Z7.v,Xq.v,Xd.v,Kq.v,K3.v,Jx.v,VO.v,Xr.v,WU.v,Jy.v,-eq_self] at h;exact h)
theorem ZC8 (i:In) (fr:Nat→Cp) (nx:Nat→Cp) (rc:List Value) (zs:List UInt8) (f:Nat→Bool) (N:Nat) (m:Nat) (n:Nat) (w:Nat) (r:Cp) (zs2:List UInt8) (f2:Nat→Bool):evF Tryz.prog (Zk 3 (Za (UO i fr nx rc (wdL i w++[(73,37,Zml (mvA fr i) (ZfK [r.val,Yk]) zs zs2 f f2 N m n,[64,65,66,67])]))) Zc) Zb 100 20 13 (mvA fr i) (Zvk (arW true zs f N m n) rc N n 18 65536)=JD [ZaJ (ZqW (QJ (0+i.a.toNat*8) r.C r.E r.B r.T r.P r.Y r.R r.V nx)),Yk] 74 [(67,ZbO N),(66,Zc4 m n),(65,Jo 65 f2 n),(64,KS zs2),(0,Zjf rc)] [(65,n),(64,N),(65,n),(64,N)] 18 (ZbZ (Zcb (QJ (0+i.a.toNat*8) r.C r.E r.B r.T r.P r.Y r.R r.V nx) 0) (Zb9 (0+Zb8 (QJ (0+i.a.toNat*8) r.C r.E r.B r.T r.P r.Y r.R r.V nx)) (QJ (0+i.a.toNat*8) r.C r.E r.B r.T r.P r.Y r.R r.V nx)) (Zca (QJ (0+i.a.toNat*8) r.C r.E r.B r.T r.P r.Y r.R r.V nx) 0) (Y5 (Zbf (UP (0+i.a.toNat*8+8) nx) i.a i.a (Qz (KH (V0 (ZcU (KG fr (WS i.op i.a i.b i.c i.m) Ze (rc.all (ZZ (fun l=>l.blt 64))=true) (rc=Un rc)) (JK i.op) (Y1 i.op) (QU i.op)) (QU i.op) (WT i.op) (Ks i.op) i.op 30) i.op∧Zdg w=true) (YL fr i.op i.a i.b i.c i.m Yq) (YK N m n (QP f n (fun l=>l.blt 68) 73) zs (fun l=>l.blt 68) 73 [64,65,66,67]) n N)))):=by kernel_rfl
def ZNd:=Bx.mk (by have h:=@ZC8;simp(maxSteps:=99999999) only[Zx.v,ZD.v,ZO.v,ZU.v,YA.v,ZR.v,Ud.v,Zp.v,Zw.v,ZH.v,Zl.v,ZB.v,Zo.v,Zy.v,Yi.v,QA.v,YE.v,Xn.v,Zdl.v,ZA.v,Z7.v,Xq.v,Xd.v,Kq.v,K3.v,Jx.v,VO.v,Xr.v,Jy.v,-eq_self] at h;exact h)
def Zk4 (a:Nat) (b:Nat→Cp) (c:List Value) (d:Nat→Cp) (e:Nat):=ZqI a b (ZCg c d e)
def Zn1 (a b c d:Prop):=Znr a (X4 b c d)
def ZqX:=[KC]
def Yu (a:Nat) (b:Nat→Cp) (c:Nat):=Zk4 a b ZqX b c
def VP (a:Prop) (b:Int) (c d:Prop):=Zn1 a (ZhU b b) c d
def ZcV:=Bx.mk (aI @Zk4.eq_1 (aI @Zn1.eq_1 (aI @ZqX.eq_1 (aI @Yu.eq_1 @VP.eq_1))))
theorem ZxY (i:In) (fr:Nat→Cp) (nx:Nat→Cp) (rc:List Value) (zs:List UInt8) (f:Nat→Bool) (N:Nat) (m:Nat) (n:Nat) (cA:Cp) (cB:Cp) (k:Bool) (is:Bool) (p:Cp):obs (evF Tryz.prog (Zk 3 (Za (UO i fr nx rc (wdL i 0++tkL i cA cB k is++[(73,34,Zb3 fr (VD i.m) p.val,[])]))) Zc) Zb 100 20 13 (mvA fr i) (KW zs f N m n rc N n 20 393216))=ZnQ (frQ nx (ZdR p.C ↑p.E p.B p.T p.P p.Y p.R p.V)) (Y5 (Xl ((VP (JH (Yu (0+i.b.toNat*8+0+1) fr (0+i.b.toNat*8+0)) i.b i.b (Yu (0+i.a.toNat*8+0+1) fr (0+i.a.toNat*8+0)) i.a i.a (Y5 (KH (V0 (ZcU (KG fr (WS i.op i.a i.b i.c i.m) Ze (rc.all (ZZ (fun l=>l.blt 64))=true) (rc=Un rc)) (JK i.op) (Y1 i.op) (QU i.op)) (QU i.op) (WT i.op) (Ks i.op) i.op 30) i.op))) i.op (Vo fr (0+i.a.toNat*8) 0 cA.C) (Vo fr (0+i.b.toNat*8) 0 cB.C)∧is=true)∧k=true) (Uj fr fr) (WR i.m))):=by kernel_rfl
def ZHa:=Bx.mk (by have h:=@ZxY;simp(maxSteps:=99999999) only[Zx.v,ZF.v,ZD.v,ZO.v,ZU.v,YA.v,ZR.v,Zp.v,Zw.v,ZH.v,Zl.v,ZB.v,Zo.v,Zq.v,Zy.v,Yi.v,QA.v,YE.v,Z2.v,Z5.v,Xn.v,Zdl.v,ZA.v,Zdn.v,Zhp.v,Z7.v,Xq.v,Xd.v,Kq.v,K3.v,Jx.v,VO.v,Xr.v,Jy.v,ZcV.v,-eq_self] at h;exact h)
theorem ZxZ (i:In) (fr:Nat→Cp) (nx:Nat→Cp) (rc:List Value) (zs:List UInt8) (f:Nat→Bool) (N:Nat) (m:Nat) (n:Nat) (cA:Cp) (cB:Cp) (k:Bool) (is:Bool):obs (evF Tryz.prog (Zk 3 (Za (UO i fr nx rc (wdL i 0++tkL i cA cB k is))) Zc) Zb 100 20 13 (mvA fr i) (KW zs f N m n rc N n 20 131072))=ZgY nx (Y5 (QF (VP (JH (Yu (0+i.b.toNat*8+0+1) fr (0+i.b.toNat*8+0)) i.b i.b (Yu (0+i.a.toNat*8+0+1) fr (0+i.a.toNat*8+0)) i.a i.a (Y5 (KH (Zc6 (ZkX (KG fr (WS i.op i.a i.b i.c i.m) Ze (rc.all (ZZ (fun l=>l.blt 64))=true) (rc=Un rc)) (JK i.op) (Y1 i.op)) (Y1 i.op) (QU i.op) (QU i.op) (QU i.op) (QU i.op) (WT i.op) (Ks i.op) (Jt i.op)) i.op))) i.op (Vo fr (0+i.a.toNat*8) 0 cA.C) (Vo fr (0+i.b.toNat*8) 0 cB.C)∧is=true) k)):=by kernel_rfl
def ZHb:=Bx.mk (by have h:=@ZxZ;simp(maxSteps:=99999999) only[Zx.v,ZF.v,ZD.v,ZO.v,ZU.v,YA.v,ZR.v,Zp.v,Zw.v,ZH.v,ZB.v,Zo.v,Zq.v,Zy.v,Yi.v,QA.v,YE.v,Xm.v,Xn.v,ZA.v,Zd7.v,Xy.v,Zhp.v,Z7.v,Xq.v,Xd.v,Kq.v,K3.v,Jx.v,VO.v,Xr.v,WU.v,Jy.v,ZcV.v,-eq_self] at h;exact h)
def Zeg (a b:Nat) (c:Int) (d:Nat→Cp):=Zvm a (ZhY b c) d
def ZHd:=Bx.mk @Zeg.eq_1
theorem Zx0 (i:In) (fr:Nat→Cp) (nx:Nat→Cp) (rc:List Value) (zs:List UInt8) (f:Nat→Bool) (N:Nat) (m:Nat) (n:Nat) (cA:Cp) (cB:Cp) (cC:Cp) (v:Nat) (t:Nat) (is:Bool):obs (evF Tryz.prog (Zk 3 (Za (UO i fr nx rc (wdL i 0++tkL i cA cB false false++rkL i cB cC v t is))) Zc) Zb 100 20 13 (mvA fr i) (KW zs f N m n rc N n 20 262144))=Zef (Zeg (0+i.a.toNat*8) v 0 nx) (ZbZ (Zcb (Zeg (0+i.a.toNat*8) v 0 nx) 0) (Zb9 (0+Zb8 (Zeg (0+i.a.toNat*8) v 0 nx)) (Zeg (0+i.a.toNat*8) v 0 nx)) (Zca (Zeg (0+i.a.toNat*8) v 0 nx) 0) (VA (Zbf (UP (0+i.a.toNat*8+8) nx) i.a i.a (VP (JH (Yu (0+i.c.toNat*8+0+1) fr (0+i.c.toNat*8+0)) i.c i.c (Yu (0+i.b.toNat*8+0+1) fr (0+i.b.toNat*8+0)) i.b i.b (Y5 (VP (JH (Yu (0+i.b.toNat*8+0+1) fr (0+i.b.toNat*8+0)) i.b i.b (Yu (0+i.a.toNat*8+0+1) fr (0+i.a.toNat*8+0)) i.a i.a (Y5 (KH (Zc6 (ZkX (KG fr (WS i.op i.a i.b i.c i.m) Ze (rc.all (ZZ (fun l=>l.blt 64))=true) (rc=Un rc)) (JK i.op) (Y1 i.op)) (Y1 i.op) (QU i.op) (QU i.op) (QU i.op) (QU i.op) (WT i.op) (Ks i.op) (Jt i.op)) i.op))) i.op (Vo fr (0+i.a.toNat*8) 0 cA.C) (Vo fr (0+i.b.toNat*8) 0 cB.C)))) i.op (Vo fr (0+i.b.toNat*8) 0 cB.C) (Vo fr (0+i.c.toNat*8) 0 cC.C)∧is=true)) t)):=by kernel_rfl
def ZHc:=Bx.mk (by have h:=@Zx0;simp(maxSteps:=99999999) only[Zx.v,ZF.v,ZD.v,ZO.v,ZU.v,YA.v,ZR.v,Zp.v,Zw.v,ZH.v,Zl.v,ZB.v,Zo.v,Zq.v,Zy.v,Yi.v,QA.v,Ym.v,YE.v,Z2.v,Xm.v,Xn.v,ZA.v,Zdn.v,Xy.v,Zhp.v,Z7.v,Xq.v,Xd.v,Kq.v,K3.v,Jx.v,VO.v,Xr.v,WU.v,Jy.v,ZcV.v,ZHd.v,-eq_self] at h;exact h)
theorem Zx1 (i:In) (fr:Nat→Cp) (nx:Nat→Cp) (rc:List Value) (zs:List UInt8) (f:Nat→Bool) (N:Nat) (m:Nat) (n:Nat) (cA:Cp) (cB:Cp) (cC:Cp) (v:Nat) (t:Nat) (is:Bool):obs (evF Tryz.prog (Zk 3 (Za (UO i fr nx rc (wdL i 0++tkL i cA cB false false++rkL i cB cC v t is))) Zc) Zb 100 20 13 (mvA fr i) (KW zs f N m n rc N n 20 786432))=Zfe frZ t (Zbf (UP (0+i.a.toNat*8+8) nx) i.a i.a (VP (JH (Yu (0+i.c.toNat*8+0+1) fr (0+i.c.toNat*8+0)) i.c i.c (Yu (0+i.b.toNat*8+0+1) fr (0+i.b.toNat*8+0)) i.b i.b (Y5 (VP (JH (Yu (0+i.b.toNat*8+0+1) fr (0+i.b.toNat*8+0)) i.b i.b (Yu (0+i.a.toNat*8+0+1) fr (0+i.a.toNat*8+0)) i.a i.a (Y5 (KH (V0 (ZcU (KG fr (WS i.op i.a i.b i.c i.m) Ze (rc.all (ZZ (fun l=>l.blt 64))=true) (rc=Un rc)) (JK i.op) (Y1 i.op) (QU i.op)) (QU i.op) (WT i.op) (Ks i.op) i.op 30) i.op))) i.op (Vo fr (0+i.a.toNat*8) 0 cA.C) (Vo fr (0+i.b.toNat*8) 0 cB.C)))) i.op (Vo fr (0+i.b.toNat*8) 0 cB.C) (Vo fr (0+i.c.toNat*8) 0 cC.C)∧is=true)∧YS t=true):=by kernel_rfl
def ZHe:=Bx.mk (by have h:=@Zx1;simp(maxSteps:=99999999) only[Zx.v,ZF.v,ZD.v,ZO.v,ZU.v,YA.v,ZR.v,Zp.v,Zw.v,ZH.v,ZB.v,Zo.v,Zq.v,Zy.v,Yi.v,QA.v,Ym.v,YE.v,Xn.v,Zdl.v,ZA.v,Zhp.v,Z7.v,Xq.v,Xd.v,Kq.v,K3.v,Jx.v,VO.v,Xr.v,Jy.v,ZcV.v,-eq_self] at h;exact h)
theorem ZC9 (i:In) (fr:Nat→Cp) (nx:Nat→Cp) (rc:List Value) (zs:List UInt8) (f:Nat→Bool) (N:Nat) (m:Nat) (n:Nat) (cA:Cp) (cB:Cp) (cC:Cp) (v:Nat) (t:Nat) (is:Bool) (r:Cp):obs (evF Tryz.prog (Zk 3 (Za (UO i fr nx rc (wdL i 0++tkL i cA cB false false++rkL i cB cC v t is++[(73,40,Zb3 fr i.val r.val,[])]))) Zc) Zb 100 20 13 (mvA fr i) (KW zs f N m n rc N n 20 0))=Zef (QJ (0+i.a.toNat*8) r.C r.E r.B r.T r.P r.Y r.R r.V nx) (ZbZ (Zcb (QJ (0+i.a.toNat*8) r.C r.E r.B r.T r.P r.Y r.R r.V nx) 0) (Zb9 (0+Zb8 (QJ (0+i.a.toNat*8) r.C r.E r.B r.T r.P r.Y r.R r.V nx)) (QJ (0+i.a.toNat*8) r.C r.E r.B r.T r.P r.Y r.R r.V nx)) (Zca (QJ (0+i.a.toNat*8) r.C r.E r.B r.T r.P r.Y r.R r.V nx) 0) (Y5 (Zbf (UP (0+i.a.toNat*8+8) nx) i.a i.a (Xl (QF (VP (JH (Yu (0+i.c.toNat*8+0+1) fr (0+i.c.toNat*8+0)) i.c i.c (Yu (0+i.b.toNat*8+0+1) fr (0+i.b.toNat*8+0)) i.b i.b (Y5 (VP (JH (Yu (0+i.b.toNat*8+0+1) fr (0+i.b.toNat*8+0)) i.b i.b (Yu (0+i.a.toNat*8+0+1) fr (0+i.a.toNat*8+0)) i.a i.a (Y5 (KH (V0 (ZcU (KG fr (WS i.op i.a i.b i.c i.m) Ze (rc.all (ZZ (fun l=>l.blt 64))=true) (rc=Un rc)) (JK i.op) (Y1 i.op) (QU i.op)) (QU i.op) (WT i.op) (Ks i.op) i.op 30) i.op))) i.op (Vo fr (0+i.a.toNat*8) 0 cA.C) (Vo fr (0+i.b.toNat*8) 0 cB.C)))) i.op (Vo fr (0+i.b.toNat*8) 0 cB.C) (Vo fr (0+i.c.toNat*8) 0 cC.C)) is) (Uj fr fr) (WS i.op i.a i.b i.c i.m))))):=by kernel_rfl
def ZNe:=Bx.mk (by have h:=@ZC9;simp(maxSteps:=99999999) only[Zx.v,ZF.v,ZD.v,ZO.v,ZU.v,YA.v,ZR.v,Zp.v,Zw.v,ZH.v,Zl.v,ZB.v,Zo.v,Zq.v,Zy.v,Yi.v,QA.v,YE.v,Z2.v,Z5.v,Xn.v,Zdl.v,ZA.v,Zdn.v,Zhp.v,Z7.v,Xq.v,Xd.v,Kq.v,K3.v,Jx.v,VO.v,Xr.v,Jy.v,ZcV.v,-eq_self] at h;exact h)
end Go.Proofs.YtagacmljbgkmoaaGreatDoor
