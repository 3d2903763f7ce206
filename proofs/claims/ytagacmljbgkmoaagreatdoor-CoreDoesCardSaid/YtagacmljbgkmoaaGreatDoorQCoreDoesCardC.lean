/-
  CoreDoesCard: part 3 of the proof.
-/
import Derived.Below
import Derived.BigQuiet
import Derived.Calls
import Derived.Deep.AppendLies
import Derived.Deep.DrawnRows
import Derived.Deep.Draws
import Derived.Deep.QuietTactic
import Derived.Deep.RegionHeld3
import Derived.Deep.RegionWith
import Derived.IntWalk
import Derived.KernelRfl
import Derived.Laws.Bits64
import Derived.Laws.BitsAllLaws
import Derived.Laws.BytesArg
import Derived.Laws.Concat
import Derived.Laws.EntriesVeiled
import Derived.Laws.IdiomStrings
import Derived.Laws.OwnMore
import Derived.Laws.Rows
import Derived.Laws.Strings
import Derived.Laws.Strings2
import Derived.Laws.StructEq
import Derived.Lib.Hide
import Derived.Outline
import Derived.OwnWalk
import Derived.Test.YtagacmljbgkmoaaGreatDoorChecked
import Derived.Test.YtagacmljbgkmoaaGreatDoorProg
import Derived.Test.YtagacmljbgkmoaaGreatDoorQCoreDoesCardB
import Derived.WalkKit
import Derived.WalkLawsBesides
import Derived.WalkSpells
set_option linter.unusedSimpArgs false
set_option linter.unusedVariables false
set_option linter.unusedSectionVars false
namespace Go.Proofs.YtagacmljbgkmoaaGreatDoor
open Go.IntKind (u8 u16 u32 u64 i64)
open Go.RowKit
open Sy
set_option maxRecDepth 100000
theorem Zg:ZfH Tryz.prog=true:=by kernel_rfl
def z64 (n:Nat):List Value:=List.replicate n (.int .u64 0)
def ZFa (a:IntKind) (b:Int):=Value.int a (b:Int)
def ZLX (a b:Nat):=some { block:=a,off:=b:Addr }
def VD (a:Int):=Value.int i64 a
def ZLY (a:Nat) (b:Sy.Heap) (c:List (Nat×Nat)) (d:List (Nat×Bool)) (e:Nat) (f:Prop):={ n:=a,h:=b,lo:=c,esc:=0,T:=d,k:=e,O:=f:St }
def Zi9 (a b:Nat):=Value.pointer (ZLX a b)
def ZfJ (a b c d:Nat):=Value.slice (ZLX a b) c d
def ZcC (a:Int):=ZFa i64 a
def ZBE (a:Bool) (b:Option (Nat×Nat)) (c:List Value):={ rw:=a,op:=b,cells:=c,it:=none:Sy.Blk }
def W8 (a:Bool) (b:Prop):=bif a then b else False
def Zgr (a:Int):=ZFa u8 a
def Zr:=(0:Int)
def ZfK (a:List Value):=Value.tuple { toList:=a:Array Value }
def ZwU (a b:Int):=decide (a≤b)
def Znk (a b:Int):=i64.wrap (a.tdiv b)
def ZBF (a:Bool):=a=false
def QF (a:Prop) (b:Bool):=a∧ZBF b
def J5 (a:Prop) (b c:Bool):=QF (QF a b) c
def Zil (a b:Int):=decide (a<b)
def YD:=(16:Int)
def Zkf (a b:Int):=i64.wrap (a+b)
def Zkg (a b:Int):=i64.wrap (a*b)
def Zgs (a b:Int):=Zil a (b:Int)
def Zgt (a:Nat) (b:Sy.Heap) (c:List (Nat×Nat)) (d:List (Nat×Bool)) (e:Nat):=ZLY a b c d e True
def Zhx (a b:Int):=ZwU a (b:Int)
def Qf (a:Int):=Zil a Zr
def Ze1 (a:Nat):=Zi9 a 0
def ZN:=Ze1 66
def ZbM (a b:Int):=i64.wrap (a-b)
def Yz:=(256:Int)
def Zgu (a:Int):=ZwU Zr a
def Zty (a:Bool) (b:Nat×Nat) (c:List Value):=ZBE a (some b) c
def ZdE (a b:Int):=Zkf a (b:Int)
def Znl (a:Int):=Zil a YD
def QY:=(64:Int)
def QG:=Ze1 67
def Zhy (a:Nat) (b:Sy.Heap) (c:List (Nat×Nat)) (d e:Nat):=Zgt a b c (tb d e) 0
def Zhz (a:Nat) (b:Sy.Heap) (c d:Nat):=Zhy a b [] c d
def Ztz (a b:Nat):=ZfJ 64 a b 9223372036854775872
def ZtA (a:Sy.Heap) (b c:Nat):=Zhz 64 a b c
def ZtB (a b c:Int):=Znk (Zkg a b) c
def J6 (a:Nat):=ZfJ 65 0 a 9223372036854775873
def Znm (a:Value) (b:Nat):=[a,J6 b]
def UF (a:Int) (b:Bool):=Zgu a&&b
def ZtC (a:Bool) (b:List Value):=ZBE a none b
def Ze2 (a b c d:Int):=ZdE (ZtB a b c) d
def ZhA (a:Int):=ZFa u64 a
def ZtD (a:Nat×Nat) (b:List Value):=Zty true a b
def Zu (a b:Nat):=ZtA [] a b
def Yg:=(1:Int)
def Yk:=ZcC 0
def Vi (a:List Value):=ZtC true a
def ZdF (a:Prop) (b c d:Bool):=QF (J5 a b c) d
def ZtE (a b:Int):=decide (a>b)
def Zai (a b:Int):=ZtE a (b:Int)
def ZhB (a:Nat):=Ztz 0 a
def Zqb (a:Nat):=[ZN,ZhB a]
def ZkD (a:Nat) (b:Sy.Heap) (c:List (Nat×Nat)) (d:Nat) (e:Prop):=ZLY a b c [] d e
def ZbN (a:Nat) (b:List Value):=ZtD (a,1) b
def JC (a:Value) (b:Nat) (c:Sy.Heap) (d:List (Nat×Nat)) (e:Nat) (f:Prop):=some (a,ZkD b c d e f)
def Zqc:=Zgr 0
def ZbO (a:Nat):=Vi (Zqb a)
def Jb (a:Int):=ZtB a Yz YD
def JD (a:List Value) (b:Nat) (c:Sy.Heap) (d:List (Nat×Nat)) (e:Nat) (f:Prop):=JC (ZfK a) b c d e f
def Zc0 (a:Int):=Zkg a Yz
def Znn (a:Int):=Zgs a 9223372036854775808
def Zno (a:Int):=Zhx a 140737488355328
def Zja (a:Int):=ZbM a Yg
def Zjb (a b:Bool):=J5 True a b
def Zjc (a:Int):=(Zc0 a).toNat
def J7:=[Zqc]
def Zgv (a b:Int):=Znk (Zja a) b
def JE (a:Prop) (b c:Bool):=ZdF a b b c
def Zx:=Bx.mk (aI @ZFa.eq_1 (aI @ZLX.eq_1 (aI @VD.eq_1 (aI @ZLY.eq_1 (aI @Zi9.eq_1 (aI @ZfJ.eq_1 (aI @ZcC.eq_1 (aI @ZBE.eq_1 (aI @W8.eq_1 (aI @Zgr.eq_1 (aI @Zr.eq_1 (aI @ZfK.eq_1 (aI @ZwU.eq_1 (aI @Znk.eq_1 (aI @ZBF.eq_1 (aI @QF.eq_1 (aI @J5.eq_1 (aI @Zil.eq_1 (aI @YD.eq_1 (aI @Zkf.eq_1 (aI @Zkg.eq_1 (aI @Zgs.eq_1 (aI @Zgt.eq_1 (aI @Zhx.eq_1 (aI @Qf.eq_1 (aI @Ze1.eq_1 (aI @ZN.eq_1 (aI @ZbM.eq_1 (aI @Yz.eq_1 (aI @Zgu.eq_1 (aI @Zty.eq_1 (aI @ZdE.eq_1 (aI @Znl.eq_1 (aI @QY.eq_1 (aI @QG.eq_1 (aI @Zhy.eq_1 (aI @Zhz.eq_1 (aI @Ztz.eq_1 (aI @ZtA.eq_1 (aI @ZtB.eq_1 (aI @J6.eq_1 (aI @Znm.eq_1 (aI @UF.eq_1 (aI @ZtC.eq_1 (aI @Ze2.eq_1 (aI @ZhA.eq_1 (aI @ZtD.eq_1 (aI @Zu.eq_1 (aI @Yg.eq_1 (aI @Yk.eq_1 (aI @Vi.eq_1 (aI @ZdF.eq_1 (aI @ZtE.eq_1 (aI @Zai.eq_1 (aI @ZhB.eq_1 (aI @Zqb.eq_1 (aI @ZkD.eq_1 (aI @ZbN.eq_1 (aI @JC.eq_1 (aI @Zqc.eq_1 (aI @ZbO.eq_1 (aI @Jb.eq_1 (aI @JD.eq_1 (aI @Zc0.eq_1 (aI @Znn.eq_1 (aI @Zno.eq_1 (aI @Zja.eq_1 (aI @Zjb.eq_1 (aI @Zjc.eq_1 (aI @J7.eq_1 (aI @Zgv.eq_1 @JE.eq_1)))))))))))))))))))))))))))))))))))))))))))))))))))))))))))))))))))))))
theorem ZwT (p:Int):evF Tryz.prog Zc Zb 100 40 9 [VD p] (Zu 6 0)=JD [QG,Yk] 68 [(67,ZbO (Zjc p)),(66,Vi (Znm (VD (Jb p)) (Zgv (Ze2 p Yz YD 64) QY).toNat)),(65,ZbN 65 (Zii (Zgv (Ze2 p Yz YD 64) QY).toNat [ZhA 0])),(64,ZbN 64 (Zii (Zjc p) J7))] [(65,(Zgv (Ze2 p Yz YD 64) QY).toNat),(64,Zjc p)] 6 (W8 (UF (Zgv (Ze2 p Yz YD 64) QY) (decide (Zgv (Ze2 p Yz YD 64) QY≤Zgv (Ze2 p Yz YD 64) QY))&&Zno ((8:Int)*Zgv (Ze2 p Yz YD 64) QY)&&Znn (Zgv (Ze2 p Yz YD 64) QY)) (JE (QF (W8 (UF (Zc0 p) (decide (Zc0 p≤Zc0 p))&&Zno (Yg*Zc0 p)&&Znn (Zc0 p)) (Zjb (Znl p) (Zai p 1024))) (Qf (Jb p))) (Qf (Jb p)) (Zai (Jb p) 1048576))):=by kernel_rfl
def ZFv:=Bx.mk (by have h:=@ZwT;simp(maxSteps:=99999999) only[Zx.v,-eq_self] at h;exact h)
theorem Wi (n:Nat):∀ v∈z64 n,Qm v=true:=fun v hv=>by rw[(List.mem_replicate.1 hv).2]; rfl
theorem ZtF {q:Nat→Bool} (h:∀ l,l<68→q l=true) (m n:Nat):∀ v∈([.int .i64 (m:Nat),.slice (some ⟨65,0,none⟩) n (big+65)]:List Value),okV q 3 v=true:=by
 intro v hv
 have h5:=h 65 (by omega)
 simp only[List.mem_cons,List.not_mem_nil,or_false] at hv
 rcases hv with rfl|rfl<;>simp[okV,Ut,h5,Qm]
theorem ZhC:∀ l,l<68→(fun l=>Nat.blt l 68) l=true:=fun l hl=>YW hl
theorem ZlO (l:Nat) (h:l<68):XP 68 68 id (fun l=>Nat.blt l 68) l=true:=by
 unfold XP
 simp only[YW h,cond_true,id,Nat.beq_refl,Bool.and_self,Bool.or_true]
def leW:Nat→Nat→List UInt8
 | 0,_=>[]
 | w+1,n=>UInt8.ofNat (n%256)::leW w (n/256)
def ZLE (w v:Int):Con:=Con.pure [.string ⟨⟨[]⟩⟩,.int .i64 w,.int .u32 v] (.string ⟨⟨leW w.toNat v.toNat⟩⟩)
def ZAp (w v:Int):Prop:=w=4∧0≤v∧v<4294967296
def arL (rw:Bool) (zs:List UInt8) (N m n:Nat):Sy.Heap:=[(67,⟨rw,none,[.pointer (some ⟨66,0,none⟩),.slice (some ⟨64,0,none⟩) N (big+64)],none⟩),(66,⟨rw,none,[.int .i64 (m:Nat),.slice (some ⟨65,0,none⟩) n (big+65)],none⟩),(65,⟨rw,some (65,1),z64 n,none⟩),(64,⟨rw,some (64,1),u8s zs,none⟩)]
def arO (N n:Nat):List (Nat×Nat):=[(65,n),(64,N)]
theorem ZS (xs:List UInt8):∀ v∈u8s xs,Qm v=true:=fun v hv=>by
 obtain⟨b,_,rfl⟩:=List.mem_map.1 hv; rfl
theorem W9 (zs:List UInt8):(u8s zs).length=zs.length:=by simp[u8s]
theorem Y6 (a:List UInt8) (n:Nat):WK n (u8s a)=decide (n≤a.length):=by
 rw[Bool.eq_iff_iff,Vx]; simp[u8s]
theorem Zaj (bs:List UInt8) (i:Nat) (b:Int):Zz [.int .u8 b] (u8s bs) i=decide (i<bs.length):=by
 simp only[Zz,Bool.and_true]
 unfold u8s
 rw[JZ _ _ (0:UInt8)]
 by_cases h:i<bs.length
 ·rw[if_pos h]; simp[h,ZmM]
 ·rw[if_neg h]; simp[h]; rfl
theorem ZBG (bs:List UInt8) (i:Nat):Qd (Zt undef (u8s bs) i)=((bs.getD i 0).toNat:Int):=by
 unfold u8s
 rw[JZ _ _ (0:UInt8)]
 by_cases h:i<bs.length
 ·rw[if_pos h]; rfl
 ·rw[if_neg h]; simp[List.getD,List.getElem?_eq_none (Nat.le_of_not_lt h)]; rfl
def Xt (i:Nat) (bs zs:List UInt8):List UInt8:=zs.take i++bs++zs.drop (i+bs.length)
theorem ZcD (i:Nat) (bs zs:List UInt8) (h:i+bs.length≤zs.length):(Xt i bs zs).length=zs.length:=by
 simp[Xt]; omega
theorem Zix (i:Nat) (bs zs:List UInt8) (h:i+bs.length≤zs.length) (j:Nat):(Xt i bs zs)[j]? = if i≤j∧j<i+bs.length then bs[j-i]? else zs[j]?:=by
 unfold Xt
 by_cases h1:j<i
 ·rw[if_neg (by omega),List.append_assoc,List.getElem?_append_left (by simp; omega),List.getElem?_take_of_lt h1]
 ·by_cases h2:j<i+bs.length
  ·rw[if_pos ⟨by omega,h2⟩,List.append_assoc,List.getElem?_append_right (by simp; omega),List.getElem?_append_left (by simp; omega)]
   congr 1; simp; omega
  ·rw[if_neg (by omega),List.getElem?_append_right (by simp; omega),List.getElem?_drop]
   congr 1; simp; omega
theorem Zak (i:Nat) (bs zs:List UInt8) (vs:List Value) (hv:vs=u8s bs) (h:i+bs.length≤zs.length):YU i vs (u8s zs)=u8s (Xt i bs zs):=by
 subst hv
 apply List.ext_getElem?
 intro j
 rw[Kj _ _ _ _ (by simpa [u8s] using h)]
 simp only[u8s,List.getElem?_map,List.length_map]
 rw[Zix i bs zs h]
 split<;>rfl
theorem Vs:∀ (w n:Nat),(leW w n).length=w
 | 0,_=>rfl
 | w+1,n=>by simp[leW,Vs w]
theorem fdA (n k:Nat):(n:Int).fdiv (k:Int)=((n/k:Nat):Int):=by
 rw[Int.fdiv_eq_ediv_of_nonneg _ (by omega)]; rfl
theorem w8A (n:Nat):(u8.wrap (n:Int)).toNat=n%256:=by rw[IntKind.wrap_u8]; omega
theorem Kw (n:Nat) (h:n<4294967296):u32.wrap (n:Int)=(n:Int):=by simp only[IntKind.wrap_u32]; omega
theorem XL (n:Nat) (h:n<9000000000000000000):i64.wrap (n:Int)=(n:Int):=wrap_i64 (by omega) (by omega)
def Ww (a:Int):=Value.int u32 a
def YX (a:List UInt8):=Value.string { data:={ toList:=a:Array UInt8 }:ByteArray }
def Wj (a:Value) (b:Prop):=some (a,b)
def Km (a:Int):=UInt8.ofNat (u8.wrap a).toNat
def Wk:=(65536:Int)
def KO:=(16777216:Int)
def Kn:=ZcC 4
def Zqd (a:Nat):=a.blt 9223372036854775808
def ZF:=Bx.mk (aI @Ww.eq_1 (aI @YX.eq_1 (aI @Wj.eq_1 (aI @Km.eq_1 (aI @Wk.eq_1 (aI @KO.eq_1 (aI @Kn.eq_1 @Zqd.eq_1)))))))
theorem ZFw (s:List UInt8) (v:Int):obs (evF Tryz.prog Zc Zb 100 10 86 [YX s,Kn,Ww v] (stT []))=Wj (YX (s++[Km (v.fdiv Yg),Km (v.fdiv Yz),Km (v.fdiv Wk),Km (v.fdiv KO)])) (W8 (Zqd (Yf s+4)) True):=by kernel_rfl
def put4:=Bx.mk (by have h:=@ZFw;simp(maxSteps:=99999999) only[Zx.v,ZF.v,-eq_self] at h;exact h)
theorem Zqe (w v:Int) (h:ZAp w v):ConOk Tryz.prog 86 3 (ZLE w v):=by
 obtain⟨rfl,h1,h2⟩:=h
 obtain⟨n,rfl⟩:=Int.eq_ofNat_of_zero_le h1
 have hn:n<4294967296:=by omega
 have m1:=Kw (n/256) (by omega)
 have m2:=Kw (n/256/256) (by omega)
 have m3:=Kw (n/256/256/256) (by omega)
 have fd0:(n:Int).fdiv (1:Int)=((n/1:Nat):Int):=fdA n 1
 have fd1:∀ n:Nat,(n:Int).fdiv (256:Int)=((n/256:Nat):Int):=fun n=>fdA n 256
 have fd2:(n:Int).fdiv (65536:Int)=((n/65536:Nat):Int):=fdA n 65536
 have fd3:(n:Int).fdiv (16777216:Int)=((n/16777216:Nat):Int):=fdA n 16777216
 have td1:∀ n:Nat,(n:Int).tdiv (256:Int)=((n/256:Nat):Int):=fun n=>(Int.ofNat_tdiv n 256).symm
 have tm1:∀ n:Nat,(n:Int).tmod (256:Int)=((n%256:Nat):Int):=fun n=>(Int.ofNat_tmod n 256).symm
 have dd2:n/65536=n/256/256:=by omega
 have dd3:n/16777216=n/256/256/256:=by omega
 have hr:=put4.v [] (n:Int)
 simp only[fd0,fd1,fd2,fd3,td1,tm1,m1,m2,m3,w8A,dd2,dd3,Nat.div_one,Nat.mod_mod,List.append_assoc,List.cons_append,List.nil_append] at hr
 exact Qj (Zm Zg (Zf _) (Zh _) 10) (v:=.string ⟨⟨leW 4 n⟩⟩) hr (by
  simp only[Qr,List.length_append,List.length_cons,List.length_nil]
  repeat (first|exact trivial|refine ZlN (YW (by omega)) ?_)) rfl rfl
structure ArOk (zs:List UInt8) (N m n:Nat):Prop where
 len:zs.length=N
 tags:N≤16*m
 words:m≤64*n
 few:n≤100000
 big:N≤1000000
theorem WI {q:Nat→Bool} (h:∀ l,l<68→q l=true) (N m n:Nat):(∀ v∈([.pointer (some ⟨66,0,none⟩),.slice (some ⟨64,0,none⟩) N (big+64)]:List Value),okV q 3 v=true)∧∀ v∈([.int .i64 (m:Nat),.slice (some ⟨65,0,none⟩) n (big+65)]:List Value),okV q 3 v=true:=by
 have h4:=h 64 (by omega)
 have h5:=h 65 (by omega)
 have h6:=h 66 (by omega)
 constructor<;>intro v hv<;>simp only[List.mem_cons,List.not_mem_nil,or_false] at hv<;>rcases hv with rfl|rfl<;>simp[okV,Ut,h4,h5,h6,Qm]
theorem ZlP {q:Nat→Bool} (h:∀ l,l<68→q l=true) (rw:Bool) (zs:List UInt8) (N m n:Nat):OkH q (arL rw zs N m n) :=
 ⟨⟨h 67 (by omega),rfl,fun v hv=>Q5 3 v ((WI h N m n).1 v hv)⟩,⟨h 66 (by omega),rfl,fun v hv=>Q5 3 v ((WI h N m n).2 v hv)⟩,⟨h 65 (by omega),h 65 (by omega),ZY (Wi n)⟩,⟨h 64 (by omega),h 64 (by omega),ZY (ZS zs)⟩,trivial⟩
theorem ZtG (rw:Bool) (zs:List UInt8) (N m n:Nat):∀ x∈arL rw zs N m n,∀ v∈x.2.cells,okV (fun l=>Nat.blt l 68) 3 v=true:=fun x hx v hv=>by
 simp only[arL,List.mem_cons,List.not_mem_nil,or_false] at hx
 rcases hx with rfl|rfl|rfl|rfl
 ·exact(WI ZhC N m n).1 v hv
 ·exact(WI ZhC N m n).2 v hv
 ·exact Yy (Wi n v hv) 3
 ·exact Yy (ZS zs v hv) 3
theorem Ziy (rw:Bool) (zs:List UInt8) (N m n:Nat):∀ x∈arL rw zs N m n,x.2.op≠none→∀ v∈x.2.cells,Qm v=true:=fun x hx hne=>by
 simp only[arL,List.mem_cons,List.not_mem_nil,or_false] at hx
 rcases hx with rfl|rfl|rfl|rfl
 ·exact absurd rfl hne
 ·exact absurd rfl hne
 ·exact Wi n
 ·exact ZS zs
theorem Wx (σ:Nat→Nat) (hs:σ=id) (l:List Value):l.map (rnV σ 3)=l:=by
 subst hs; rw[List.map_congr_left (fun v _=>JB 3 v)]; simp
theorem Ziz {s':Sy.St} (zs:List UInt8) (N m n:Nat) (cs ws:List Value) (h67:Sy.look s'.h 67=some ⟨true,none,[.pointer (some ⟨66,0,none⟩),.slice (some ⟨64,0,none⟩) N (big+64)],none⟩) (h66:Sy.look s'.h 66=some ⟨true,none,[.int .i64 (m:Nat),.slice (some ⟨65,0,none⟩) n (big+65)],none⟩)
  (h65:Sy.look s'.h 65=some ⟨true,some (65,1),ws,none⟩) (h64:Sy.look s'.h 64=some ⟨true,some (64,1),cs,none⟩) (hw:ws=z64 n) (hc:cs=u8s zs):Vr 3 (fun l=>Nat.blt l 68) id s'.h (arL true zs N m n):=by
 refine⟨⟨rfl,List.all_eq_true.2 (WI ZhC N m n).1,rfl,?_⟩,⟨rfl,List.all_eq_true.2 (WI ZhC N m n).2,rfl,?_⟩,⟨rfl,ZE (Wi n),rfl,?_⟩,⟨rfl,ZE (ZS zs),rfl,?_⟩,trivial⟩
 ·simp only[id,h67]; exact⟨rfl,rfl,trivial,(Wx _ rfl _).symm⟩
 ·simp only[id,h66]; exact⟨rfl,rfl,trivial,(Wx _ rfl _).symm⟩
 ·simp only[id,h65]; exact⟨rfl,rfl,trivial,by rw[Wx _ rfl,hw]⟩
 ·simp only[id,h64]; exact⟨rfl,rfl,trivial,by rw[Wx _ rfl,hc]⟩
theorem Vj (n:Nat):(n:Int).tdiv (16:Int)=((n/16:Nat):Int):=(Int.ofNat_tdiv n 16).symm
theorem ZfL (n k:Nat):(n:Int)+(k:Int)=((n+k:Nat):Int):=by omega
theorem ZaT (n:Nat):(n:Int)+(1:Int)=((n+1:Nat):Int):=by omega
theorem Zgw (n:Nat) (h:1≤n):(n:Int)-(1:Int)=((n-1:Nat):Int):=by omega
theorem Zim (n k:Nat) (h:k≤n):(n:Int)-(k:Int)=((n-k:Nat):Int):=by omega
theorem ZlQ (k n:Nat) (h:k≤n):Nat.min k n=k:=Nat.min_eq_left h
theorem ZlR {a b:Nat} (h:a=b):Nat.beq a b=true:=by rw[h,Nat.beq_refl]
theorem ZdG {a b:Nat} (h:a<b):Nat.blt a b=true:=YW h
theorem ZaU (d:List UInt8):List.map (fun c=>Value.int .u8 (c.toNat:Int)) d=u8s d:=rfl
theorem ZaV (d:List UInt8):Zj8 (u8s d)=true:=List.all_eq_true.2 fun v hv=>W5 (ZS d v hv)
theorem ZaW (d:List UInt8):(u8s d).all Qm=true:=List.all_eq_true.2 (ZS d)
def byA (zs:List UInt8) (i:Nat):Nat:=(zs.getD i 0).toNat
theorem J8 (zs:List UInt8) (i:Nat):byA zs i<256:=(zs.getD i 0).toNat_lt
theorem Zjd (bs:List UInt8) (i:Nat):Qd (Zt undef (u8s bs) i)=(byA bs i:Int):=ZBG bs i
theorem ZAq (x y k:Nat) (hx:x%2^k=0) (hy:y<2^k):x|||y=x+y:=by
 have h:=Nat.two_pow_add_eq_or_of_lt hy (x/2^k)
 have h1:2^k*(x/2^k)=x:=Nat.mul_div_cancel' (Nat.dvd_of_mod_eq_zero hx)
 rw[h1] at h
 exact h.symm
theorem orA (x y k:Nat) (hx:x%2^k=0) (hy:y<2^k) (h:x+y<4294967296):bits .or .u32 (x:Int) (y:Int)=((x+y:Nat):Int):=by
 show u32.wrap ((BitVec.ofInt 32 (x:Int)|||BitVec.ofInt 32 (y:Int)).toNat:Int)=_
 rw[BitVec.toNat_or,BitVec.ofInt_natCast,BitVec.ofInt_natCast,BitVec.toNat_ofNat,BitVec.toNat_ofNat,Nat.mod_eq_of_lt (by omega),Nat.mod_eq_of_lt (by omega),ZAq x y k hx hy,Kw _ h]
def ZFb (zs:List UInt8) (i:Nat):Nat:=byA zs (i+3)*16777216+byA zs (i+2)*65536+byA zs (i+1)*256+byA zs i
theorem Zgx (l:List UInt8):(u8s l).map ZAd=l:=by
 unfold u8s
 rw[List.map_map]
 conv=>rhs; rw[← List.map_id l]
 apply List.map_congr_left
 intro x _
 show UInt8.ofNat ((x.toNat:Int)).toNat=x
 simp
theorem ZlS (zs:List UInt8) (a k:Nat):List.take k (List.drop a (u8s zs))=u8s ((zs.drop a).take k):=by
 unfold u8s; rw[List.map_take,List.map_drop]
theorem ZdH (zs:List UInt8):(u8s zs).all Zwj=true:=List.all_eq_true.2 fun v hv=>by
 obtain⟨b,_,rfl⟩:=List.mem_map.1 hv; rfl
theorem ZlT (v:Value):∀ n:Nat,Zii n [v]=List.replicate n v
 | 0=>rfl
 | n+1=>by
  have:=ZlT v n
  simp only[Zii,List.replicate_succ,List.cons_append,List.nil_append,this]
theorem ZtH (n:Nat):List.replicate n (Value.int .u8 0)=u8s (List.replicate n 0):=by
 unfold u8s; rw[List.map_replicate]; rfl
def ZcE (p:Nat):Nat:=p*256/16
def Zkh (p:Nat):Nat:=(ZcE p+63)/64
def ZFx (p:Nat):Con:=⟨[.int .i64 (p:Nat)],64,[],[],.tuple ⟨[.pointer (some ⟨67,0,none⟩),.int .i64 0]⟩,68,arL true (List.replicate (p*256) 0) (p*256) (ZcE p) (Zkh p),arO (p*256) (Zkh p)⟩
def qT8:=Bx.mk (aI @Bool.not_true (aI @Bool.not_false (aI @Bool.and_self (aI @and_self (aI @and_true @true_and)))))
theorem ZwV (p:Nat) (h1:16≤p) (h2:p≤1024):ConOk Tryz.prog 9 3 (ZFx p)∧FlatC (ZFx p):=by
 have hr:=ZFv.v (p:Int)
 have e1:(p:Int)*(256:Int)=((p*256:Nat):Int):=by omega
 have e2:∀ n:Nat,(n:Int)+(64:Int)=((n+64:Nat):Int):=fun n=>by omega
 have e3:∀ n:Nat,(n:Int).tdiv (64:Int)=((n/64:Nat):Int):=fun n=>(Int.ofNat_tdiv n 64).symm
 simp(disch:=omega) only[e1,XL,Vj,e2,Zgw,e3,tN,ZlT,ZtH] at hr
 have e4:(p*256/16+64-1)/64=Zkh p:=by unfold Zkh ZcE; omega
 have e5:p*256/16=ZcE p:=rfl
 have e6:p*256/16+64-1=ZcE p+63:=by unfold ZcE; omega
 have e7:(ZcE p+63)/64=Zkh p:=rfl
 simp only[e4] at hr
 simp only[e5,e6,e7] at hr
 have hc:okV (fun l=>Nat.blt l 68) 3 (ZFx p).res=true:=rfl
 refine⟨Qn (Zm (L:=100) Zg (Zf _) (Zh _) 40) ⟨Nat.le_refl _,by show 64≤68; omega,trivial,rfl,rfl,rfl,rfl,rfl,ZtG true _ _ _ _⟩ hr ?_ (p:=fun l=>Nat.blt l 68) (σ:=id) ?_,⟨Ziy _ _ _ _ _⟩⟩
 ·have b1:Zkh p≤100000:=by unfold Zkh ZcE; omega
  have b2:ZcE p≤100000:=by unfold ZcE; omega
  simp(disch:=omega) only[lR,dF,qT8.v,Bool.true_and,Bool.and_true,cond_true]
 ·have hk:∀ l,l<68→XP 64 68 id (fun l=>Nat.blt l 68) l=true:=fun l hl=>by
   show(Nat.blt l NG||(bif Nat.blt l 64 then(Nat.beq l l&&Nat.blt l 68) else Nat.blt l 68))=true
   rw[YW hl,Nat.beq_refl]
   cases Nat.blt l NG<;>cases Nat.blt l 64<;>rfl
  exact⟨fun _ _=>rfl,Ziz _ _ _ _ _ _ rfl rfl rfl rfl rfl rfl,rfl,⟨⟨rfl,Nat.le_refl _⟩,⟨rfl,Nat.le_refl _⟩,trivial⟩,⟨hc,by rw[JB]; rfl⟩,rfl,ZlP hk true _ _ _ _,rfl,Q5 3 _ rfl,fun x _ _ => .inl rfl⟩
def Znp (a:IntKind) (b c:Int):=bits BinOp.and a b c
def Znq:=(6148914691236517205:Int)
def Ze3 (a b:Int):=Znp u64 a b
def ZaX (a b:Int):=u64.wrap (a+b)
def XA:=(3689348814741910323:Int)
def ZW:=(2:Int)
def Jc (a:Int):=Value.int u64 a
def ZkE (a b c:Int):=ZaX (Ze3 a b) c
def ZdI (a b c d:Int):=ZkE a b (Ze3 c d)
def ZhD:=(4294967296:Int)
def VY:=(4:Int)
def Zgy:=(1085102592571150095:Int)
def Ze4 (a b c d e:Int):=(ZdI a b c d).fdiv e
def J9 (a b:Int):=ZdI a Znq b Znq
def Ua (a b:Int):=Ze4 a Znq b Znq VY
def V7:=Bx.mk (aI @Znp.eq_1 (aI @Znq.eq_1 (aI @Ze3.eq_1 (aI @ZaX.eq_1 (aI @XA.eq_1 (aI @ZW.eq_1 (aI @Jc.eq_1 (aI @ZkE.eq_1 (aI @ZdI.eq_1 (aI @ZhD.eq_1 (aI @VY.eq_1 (aI @Zgy.eq_1 (aI @Ze4.eq_1 (aI @J9.eq_1 @Ua.eq_1))))))))))))))
theorem ZFy (x:Int):obs (evF Tryz.prog Zc Zb 100 5 179 [Jc x] (stT []))=Wj (VD (Znp i64 (i64.wrap (ZaX (ZaX (ZkE (ZaX (Ze4 (Ua (x.fdiv ZW) x) XA (J9 (x.fdiv ZW) x) XA YD) (ZdI (Ua (x.fdiv ZW) x) XA (J9 (x.fdiv ZW) x) XA)) Zgy ((Ze3 (ZaX (Ze4 (Ua (x.fdiv ZW) x) XA (J9 (x.fdiv ZW) x) XA YD) (ZdI (Ua (x.fdiv ZW) x) XA (J9 (x.fdiv ZW) x) XA)) Zgy).fdiv Yz)) ((ZkE (ZaX (Ze4 (Ua (x.fdiv ZW) x) XA (J9 (x.fdiv ZW) x) XA YD) (ZdI (Ua (x.fdiv ZW) x) XA (J9 (x.fdiv ZW) x) XA)) Zgy ((Ze3 (ZaX (Ze4 (Ua (x.fdiv ZW) x) XA (J9 (x.fdiv ZW) x) XA YD) (ZdI (Ua (x.fdiv ZW) x) XA (J9 (x.fdiv ZW) x) XA)) Zgy).fdiv Yz)).fdiv Wk)) ((ZaX (ZkE (ZaX (Ze4 (Ua (x.fdiv ZW) x) XA (J9 (x.fdiv ZW) x) XA YD) (ZdI (Ua (x.fdiv ZW) x) XA (J9 (x.fdiv ZW) x) XA)) Zgy ((Ze3 (ZaX (Ze4 (Ua (x.fdiv ZW) x) XA (J9 (x.fdiv ZW) x) XA YD) (ZdI (Ua (x.fdiv ZW) x) XA (J9 (x.fdiv ZW) x) XA)) Zgy).fdiv Yz)) ((ZkE (ZaX (Ze4 (Ua (x.fdiv ZW) x) XA (J9 (x.fdiv ZW) x) XA YD) (ZdI (Ua (x.fdiv ZW) x) XA (J9 (x.fdiv ZW) x) XA)) Zgy ((Ze3 (ZaX (Ze4 (Ua (x.fdiv ZW) x) XA (J9 (x.fdiv ZW) x) XA YD) (ZdI (Ua (x.fdiv ZW) x) XA (J9 (x.fdiv ZW) x) XA)) Zgy).fdiv Yz)).fdiv Wk)).fdiv ZhD))) (127:Int))) True:=by kernel_rfl
def oc_x:=Bx.mk (by have h:=@ZFy;simp(maxSteps:=99999999) only[Zx.v,ZF.v,V7.v,-eq_self] at h;exact h)
def ZFc (x:Int):Int:=(bits BinOp.and i64 (i64.wrap (u64.wrap (u64.wrap (u64.wrap (bits BinOp.and u64 (u64.wrap ((u64.wrap (bits BinOp.and u64 ((u64.wrap (bits BinOp.and u64 (x.fdiv (2:Int)) (6148914691236517205:Int)+bits BinOp.and u64 x (6148914691236517205:Int))).fdiv (4:Int)) (3689348814741910323:Int)+bits BinOp.and u64 (u64.wrap (bits BinOp.and u64 (x.fdiv (2:Int)) (6148914691236517205:Int)+bits BinOp.and u64 x (6148914691236517205:Int))) (3689348814741910323:Int))).fdiv (16:Int)+u64.wrap (bits BinOp.and u64 ((u64.wrap (bits BinOp.and u64 (x.fdiv (2:Int)) (6148914691236517205:Int)+bits BinOp.and u64 x (6148914691236517205:Int))).fdiv (4:Int)) (3689348814741910323:Int)+bits BinOp.and u64 (u64.wrap (bits BinOp.and u64 (x.fdiv (2:Int)) (6148914691236517205:Int)+bits BinOp.and u64 x (6148914691236517205:Int))) (3689348814741910323:Int)))) (1085102592571150095:Int)+(bits BinOp.and u64 (u64.wrap ((u64.wrap (bits BinOp.and u64 ((u64.wrap (bits BinOp.and u64 (x.fdiv (2:Int)) (6148914691236517205:Int)+bits BinOp.and u64 x (6148914691236517205:Int))).fdiv (4:Int)) (3689348814741910323:Int)+bits BinOp.and u64 (u64.wrap (bits BinOp.and u64 (x.fdiv (2:Int)) (6148914691236517205:Int)+bits BinOp.and u64 x (6148914691236517205:Int))) (3689348814741910323:Int))).fdiv (16:Int)+u64.wrap (bits BinOp.and u64 ((u64.wrap (bits BinOp.and u64 (x.fdiv (2:Int)) (6148914691236517205:Int)+bits BinOp.and u64 x (6148914691236517205:Int))).fdiv (4:Int)) (3689348814741910323:Int)+bits BinOp.and u64 (u64.wrap (bits BinOp.and u64 (x.fdiv (2:Int)) (6148914691236517205:Int)+bits BinOp.and u64 x (6148914691236517205:Int))) (3689348814741910323:Int)))) (1085102592571150095:Int)).fdiv (256:Int))+(u64.wrap (bits BinOp.and u64 (u64.wrap ((u64.wrap (bits BinOp.and u64 ((u64.wrap (bits BinOp.and u64 (x.fdiv (2:Int)) (6148914691236517205:Int)+bits BinOp.and u64 x (6148914691236517205:Int))).fdiv (4:Int)) (3689348814741910323:Int)+bits BinOp.and u64 (u64.wrap (bits BinOp.and u64 (x.fdiv (2:Int)) (6148914691236517205:Int)+bits BinOp.and u64 x (6148914691236517205:Int))) (3689348814741910323:Int))).fdiv (16:Int)+u64.wrap (bits BinOp.and u64 ((u64.wrap (bits BinOp.and u64 (x.fdiv (2:Int)) (6148914691236517205:Int)+bits BinOp.and u64 x (6148914691236517205:Int))).fdiv (4:Int)) (3689348814741910323:Int)+bits BinOp.and u64 (u64.wrap (bits BinOp.and u64 (x.fdiv (2:Int)) (6148914691236517205:Int)+bits BinOp.and u64 x (6148914691236517205:Int))) (3689348814741910323:Int)))) (1085102592571150095:Int)+(bits BinOp.and u64 (u64.wrap ((u64.wrap (bits BinOp.and u64 ((u64.wrap (bits BinOp.and u64 (x.fdiv (2:Int)) (6148914691236517205:Int)+bits BinOp.and u64 x (6148914691236517205:Int))).fdiv (4:Int)) (3689348814741910323:Int)+bits BinOp.and u64 (u64.wrap (bits BinOp.and u64 (x.fdiv (2:Int)) (6148914691236517205:Int)+bits BinOp.and u64 x (6148914691236517205:Int))) (3689348814741910323:Int))).fdiv (16:Int)+u64.wrap (bits BinOp.and u64 ((u64.wrap (bits BinOp.and u64 (x.fdiv (2:Int)) (6148914691236517205:Int)+bits BinOp.and u64 x (6148914691236517205:Int))).fdiv (4:Int)) (3689348814741910323:Int)+bits BinOp.and u64 (u64.wrap (bits BinOp.and u64 (x.fdiv (2:Int)) (6148914691236517205:Int)+bits BinOp.and u64 x (6148914691236517205:Int))) (3689348814741910323:Int)))) (1085102592571150095:Int)).fdiv (256:Int))).fdiv (65536:Int))+(u64.wrap (u64.wrap (bits BinOp.and u64 (u64.wrap ((u64.wrap (bits BinOp.and u64 ((u64.wrap (bits BinOp.and u64 (x.fdiv (2:Int)) (6148914691236517205:Int)+bits BinOp.and u64 x (6148914691236517205:Int))).fdiv (4:Int)) (3689348814741910323:Int)+bits BinOp.and u64 (u64.wrap (bits BinOp.and u64 (x.fdiv (2:Int)) (6148914691236517205:Int)+bits BinOp.and u64 x (6148914691236517205:Int))) (3689348814741910323:Int))).fdiv (16:Int)+u64.wrap (bits BinOp.and u64 ((u64.wrap (bits BinOp.and u64 (x.fdiv (2:Int)) (6148914691236517205:Int)+bits BinOp.and u64 x (6148914691236517205:Int))).fdiv (4:Int)) (3689348814741910323:Int)+bits BinOp.and u64 (u64.wrap (bits BinOp.and u64 (x.fdiv (2:Int)) (6148914691236517205:Int)+bits BinOp.and u64 x (6148914691236517205:Int))) (3689348814741910323:Int)))) (1085102592571150095:Int)+(bits BinOp.and u64 (u64.wrap ((u64.wrap (bits BinOp.and u64 ((u64.wrap (bits BinOp.and u64 (x.fdiv (2:Int)) (6148914691236517205:Int)+bits BinOp.and u64 x (6148914691236517205:Int))).fdiv (4:Int)) (3689348814741910323:Int)+bits BinOp.and u64 (u64.wrap (bits BinOp.and u64 (x.fdiv (2:Int)) (6148914691236517205:Int)+bits BinOp.and u64 x (6148914691236517205:Int))) (3689348814741910323:Int))).fdiv (16:Int)+u64.wrap (bits BinOp.and u64 ((u64.wrap (bits BinOp.and u64 (x.fdiv (2:Int)) (6148914691236517205:Int)+bits BinOp.and u64 x (6148914691236517205:Int))).fdiv (4:Int)) (3689348814741910323:Int)+bits BinOp.and u64 (u64.wrap (bits BinOp.and u64 (x.fdiv (2:Int)) (6148914691236517205:Int)+bits BinOp.and u64 x (6148914691236517205:Int))) (3689348814741910323:Int)))) (1085102592571150095:Int)).fdiv (256:Int))+(u64.wrap (bits BinOp.and u64 (u64.wrap ((u64.wrap (bits BinOp.and u64 ((u64.wrap (bits BinOp.and u64 (x.fdiv (2:Int)) (6148914691236517205:Int)+bits BinOp.and u64 x (6148914691236517205:Int))).fdiv (4:Int)) (3689348814741910323:Int)+bits BinOp.and u64 (u64.wrap (bits BinOp.and u64 (x.fdiv (2:Int)) (6148914691236517205:Int)+bits BinOp.and u64 x (6148914691236517205:Int))) (3689348814741910323:Int))).fdiv (16:Int)+u64.wrap (bits BinOp.and u64 ((u64.wrap (bits BinOp.and u64 (x.fdiv (2:Int)) (6148914691236517205:Int)+bits BinOp.and u64 x (6148914691236517205:Int))).fdiv (4:Int)) (3689348814741910323:Int)+bits BinOp.and u64 (u64.wrap (bits BinOp.and u64 (x.fdiv (2:Int)) (6148914691236517205:Int)+bits BinOp.and u64 x (6148914691236517205:Int))) (3689348814741910323:Int)))) (1085102592571150095:Int)+(bits BinOp.and u64 (u64.wrap ((u64.wrap (bits BinOp.and u64 ((u64.wrap (bits BinOp.and u64 (x.fdiv (2:Int)) (6148914691236517205:Int)+bits BinOp.and u64 x (6148914691236517205:Int))).fdiv (4:Int)) (3689348814741910323:Int)+bits BinOp.and u64 (u64.wrap (bits BinOp.and u64 (x.fdiv (2:Int)) (6148914691236517205:Int)+bits BinOp.and u64 x (6148914691236517205:Int))) (3689348814741910323:Int))).fdiv (16:Int)+u64.wrap (bits BinOp.and u64 ((u64.wrap (bits BinOp.and u64 (x.fdiv (2:Int)) (6148914691236517205:Int)+bits BinOp.and u64 x (6148914691236517205:Int))).fdiv (4:Int)) (3689348814741910323:Int)+bits BinOp.and u64 (u64.wrap (bits BinOp.and u64 (x.fdiv (2:Int)) (6148914691236517205:Int)+bits BinOp.and u64 x (6148914691236517205:Int))) (3689348814741910323:Int)))) (1085102592571150095:Int)).fdiv (256:Int))).fdiv (65536:Int))).fdiv (4294967296:Int)))) (127:Int))
def Zwk (x:Int):Nat:=(ZFc x).toNat
theorem ZBH (x:Int):ZFc x=(Zwk x:Int):=by
 unfold Zwk
 have h:0≤ZFc x:=by
  unfold ZFc
  generalize i64.wrap _=a
  show 0≤i64.wrap ((BitVec.ofInt 64 a&&&BitVec.ofInt 64 127).toNat:Int)
  have hb:(BitVec.ofInt 64 a&&&BitVec.ofInt 64 127).toNat≤127:=by
   rw[BitVec.toNat_and]
   exact Nat.and_le_right
  rw[wrap_i64 (by omega) (by omega)]
  omega
 omega
theorem ZBI (x:Int):ConOk Tryz.prog 179 3 (Con.pure [.int .u64 x] (.int .i64 (Zwk x:Nat))):=by
 have hr:=oc_x.v x
 rw[show(Value.int .i64 (Zwk x:Nat)) = .int .i64 (ZFc x) by rw[ZBH]]
 exact Qj (d:=1) (Zm (L:=100) Zg (Zf _) (Zh _) 5) (T:=[]) (v:=.int .i64 (ZFc x)) hr trivial rfl rfl
def v64 (ws:List Nat):List Value:=ws.map fun w => .int .u64 (w:Nat)
def mpW (rw:Bool) (m:Nat) (ws:List Nat):Sy.Heap:=[(66,⟨false,none,[.int .i64 (m:Nat),.slice (some ⟨65,0,none⟩) ws.length (big+65)],none⟩),(65,⟨rw,some (65,1),v64 ws,none⟩)]
def Zje (r:Int→Nat):Znb:=fun f args _=>bif Nat.beq f 179 then(match args with|[.int .u64 x]=>some (Con.pure [.int .u64 x] (.int .i64 (r x:Nat)),[],True)|_=>none) else none
def QW (a:Nat):=(↑a:Int)
def ZBJ (a:List Value) (b:Nat):=Zt undef a b
def ZBK:=ZBF false
def ZoQ (a b:Int):=decide (a≥b)
def Vt (a:Prop):=True∧a
def ZlU (a b:Prop):=a∧Vt b
def ZaM (a b:Bool) (c:Prop):=W8 a (W8 b c)
def Zhj (a:Prop):=a∧True
def ZtI (a:Prop):=ZlU a True
def Znr (a b:Prop):=ZlU a (ZtI b)
def Z1 (a:Nat):=ZcC ↑a
def XQ (a b:Prop):=Znr a (Zhj b)
def ZdJ (a b c d:Bool) (e:Prop):=ZaM a b (ZaM c d e)
def ZkF (a b:Nat):=Znm (Z1 a) b
def YO (a:Int) (b:Nat):=Zil a (QW b)
def Zqf (a b:Int):=if Zr>a then Zr else b
def Zqg (a:Nat) (b c d:List Value) (e:Nat):=WK a b&&Zz c d e
def Zqh (a:Int) (b:Nat):=Zkf a (QW b)
def W0:=Vt ZBK
def JF (a:List Value) (b:Nat):=Qd (ZBJ a b)
def ZhE (a b:Int):=Znk (Zqf a b) QY
def Zjf (a:List Value):=ZtC false a
def ZtJ (a b c:Int):=Zkg (ZhE a b) c
def ZtK (a b c d:Int):=if a<b then c else d
def Zjg (a b c:Int):=ZbM a (ZtJ b c QY)
def Ze5 (a b c d:Int):=Zjg (Zqf a b) c d
def Zgz (a b:Int):=u64.wrap (a*b)
def KP (a:Prop) (b:Bool) (c:Prop):=QF a b∧c
def Zqi:=(18446744073709551615:Int)
def Zjh (a:Nat) (b:List Value) (c:Bool):=WK a b&&c
def ZbP (a b:Nat) (c d:List Value):=ZbN a (YU b c d)
def Ze6 (a b:Int):=(ZhE a b).toNat
def ZgA (a:Nat) (b:Int) (c:Nat) (d:Int):=ZtK (QW a) b (QW c) d
def ZbQ (a b:Nat):=Zjf (ZkF a b)
def VE (a:Bool):=a&&true
def ZtL (a:Nat) (b:List Value) (c:Bool):=VE (Zjh a b c)
def ZbR (a:Nat) (b:List Value):=ZtL a b true
def QR (a:Value):=a=a
def Jd (a:Nat) (b c:List Value) (d:Nat):=Zqg a b c b d
def ZhF (a b c:Int):=ZtK a b c b
def Zns (a b c:Bool) (d:Prop):=ZdJ a b c b d
def Zal (a:Int):=Zqf a a
def ZD:=Bx.mk (aI @QW.eq_1 (aI @ZBJ.eq_1 (aI @ZBK.eq_1 (aI @ZoQ.eq_1 (aI @Vt.eq_1 (aI @ZlU.eq_1 (aI @ZaM.eq_1 (aI @Zhj.eq_1 (aI @ZtI.eq_1 (aI @Znr.eq_1 (aI @Z1.eq_1 (aI @XQ.eq_1 (aI @ZdJ.eq_1 (aI @ZkF.eq_1 (aI @YO.eq_1 (aI @Zqf.eq_1 (aI @Zqg.eq_1 (aI @Zqh.eq_1 (aI @W0.eq_1 (aI @JF.eq_1 (aI @ZhE.eq_1 (aI @Zjf.eq_1 (aI @ZtJ.eq_1 (aI @ZtK.eq_1 (aI @Zjg.eq_1 (aI @Ze5.eq_1 (aI @Zgz.eq_1 (aI @KP.eq_1 (aI @Zqi.eq_1 (aI @Zjh.eq_1 (aI @ZbP.eq_1 (aI @Ze6.eq_1 (aI @ZgA.eq_1 (aI @ZbQ.eq_1 (aI @VE.eq_1 (aI @ZtL.eq_1 (aI @ZbR.eq_1 (aI @QR.eq_1 (aI @Jd.eq_1 (aI @ZhF.eq_1 (aI @Zns.eq_1 @Zal.eq_1)))))))))))))))))))))))))))))))))))))))))
theorem ZFz (r:Int→Nat) (x:Int) (y:Int) (m:Nat) (ws:List Nat):evF Tryz.prog (Zbn 3 (Zje r)) Zb 100 40 158 [ZN,VD x,VD y] (Zhy 68 (mpW true m ws) [(65,ws.length)] 5 4)=JC (VD (Zqh Zr (r (Ze3 (JF (v64 ws) (0+Ze6 x x*1)) (Zgz (Int.fdiv Zqi (ZW^min (ZbM QY (ZbM (ZhF QY (Zjg (ZgA m y m y) x x) QY) (Zal (Ze5 x x x x)))).toNat 64)) (ZW^min (Zal (Ze5 x x x x)).toNat 64)))))) 68 [(66,ZbQ m ws.length),(65,ZbP 65 (0+Ze6 x x*1) [Jc (bits BinOp.andNot u64 (JF (v64 ws) (0+Ze6 x x*1)) (Zgz (Int.fdiv Zqi (ZW^min (ZbM QY (ZbM (ZhF QY (Zjg (ZgA m y m y) x x) QY) (Zal (Ze5 x x x x)))).toNat 64)) (ZW^min (Zal (Ze5 x x x x)).toNat 64)))] (v64 ws))] [(65,ws.length)] 5 (QF (Zns (ZbR (0+Ze6 x x*1+1) (v64 ws)) (UF (ZhE x x) (YO (ZhE x x) ws.length)) (Jd (0+Ze6 x x*1+1) (v64 ws) [ZhA 0] (0+Ze6 x x*1)) (XQ (ZdJ (Jd (0+Ze6 x x*1+1) (v64 ws) [ZhA 0] (0+Ze6 x x*1)) (UF (ZhE x x) (YO (ZhE x x) ws.length)) (Zgu (Zal (Ze5 x x x x))) (Zgu (ZbM QY (ZbM (ZhF QY (Zjg (ZgA m y m y) x x) QY) (Zal (Ze5 x x x x))))) (QF (KP W0 (ZoQ (Zal x) (ZgA m y m y)) (Zil (ZtJ x x QY) (ZgA m y m y)=true)) (ZoQ (Zal (Ze5 x x x x)) (ZhF QY (Zjg (ZgA m y m y) x x) QY)))) (QR (Jc (Ze3 (JF (v64 ws) (0+Ze6 x x*1)) (Zgz (Int.fdiv Zqi (ZW^min (ZbM QY (ZbM (ZhF QY (Zjg (ZgA m y m y) x x) QY) (Zal (Ze5 x x x x)))).toNat 64)) (ZW^min (Zal (Ze5 x x x x)).toNat 64))))))) (Zil (Zkg (ZdE (ZhE x x) 1) QY) (ZgA m y m y))):=by kernel_rfl
def cw_a:=Bx.mk (by have h:=@ZFz;simp(maxSteps:=99999999) only[Zx.v,V7.v,ZD.v,-eq_self] at h;exact h)
def QB:=Value.bool true
def QZ (a:Int):=(i64.wrap a).toNat
def Je (a:Int):=ZoQ a Zr
def ZkG (a:Int):=Je a=true
def Jf (a:Prop) (b:Int):=a∧ZkG b
def Zqj (a:Prop) (b c:Int):=Jf (Jf a b) c
def ZhG (a:Int) (b:Bool):=UF (i64.wrap a) b
def Zqk (a:Int) (b:Nat):=YO (i64.wrap a) b
def WM (a:Prop):=(Vt a∧a)∧a
def JN (a:Prop) (b:Int):=Zqj a b b
def Zbo (a:Prop) (b:Int):=Zqj (Zqj a b b) b b
def Ze:=true=true
def ZL (a:Prop):=a∧Ze
def ZO:=Bx.mk (aI @QB.eq_1 (aI @QZ.eq_1 (aI @Je.eq_1 (aI @ZkG.eq_1 (aI @Jf.eq_1 (aI @Zqj.eq_1 (aI @ZhG.eq_1 (aI @Zqk.eq_1 (aI @WM.eq_1 (aI @JN.eq_1 (aI @Zbo.eq_1 (aI @Ze.eq_1 @ZL.eq_1))))))))))))
theorem ZFA (r:Int→Nat) (x:Int) (m:Nat) (ws:List Nat):evF Tryz.prog (Zbn 3 (Zje r)) Zb 100 40 93 [ZN,VD x,QB] (Zhy 68 (mpW true m ws) [(65,ws.length)] 12 3071)=JC QB 68 [(66,ZbQ m ws.length),(65,ZbP 65 (0+QZ (x.tdiv QY)*1) [Jc (bits BinOp.or u64 (JF (v64 ws) (0+QZ (x.tdiv QY)*1)) (Zgz Yg (ZW^min (x.tmod QY).toNat 64)))] (v64 ws))] [(65,ws.length)] 12 (Zns (ZbR (0+QZ (x.tdiv QY)*1+1) (v64 ws)) (ZhG (x.tdiv QY) (Zqk (x.tdiv QY) ws.length)) (Jd (0+QZ (x.tdiv QY)*1+1) (v64 ws) [ZhA 0] (0+QZ (x.tdiv QY)*1)) (ZL (W8 (Zgu (x.tmod QY)) (QF (JN (Jf (Zbo (WM Ze) x) x) x) (!YO x m))))):=by kernel_rfl
def pw_t:=Bx.mk (by have h:=@ZFA;simp(maxSteps:=99999999) only[Zx.v,V7.v,ZD.v,ZO.v,-eq_self] at h;exact h)
def Y5 (a:Prop):=a∧ZBK
def Xe:=Value.bool false
def ZU:=Bx.mk (aI @Y5.eq_1 @Xe.eq_1)
theorem ZFB (r:Int→Nat) (x:Int) (m:Nat) (ws:List Nat):evF Tryz.prog (Zbn 3 (Zje r)) Zb 100 40 93 [ZN,VD x,Xe] (Zhy 68 (mpW true m ws) [(65,ws.length)] 12 1023)=JC QB 68 [(66,ZbQ m ws.length),(65,ZbP 65 (0+QZ (x.tdiv QY)*1) [Jc (bits BinOp.andNot u64 (JF (v64 ws) (0+QZ (x.tdiv QY)*1)) (Zgz Yg (ZW^min (x.tmod QY).toNat 64)))] (v64 ws))] [(65,ws.length)] 12 (Zns (ZbR (0+QZ (x.tdiv QY)*1+1) (v64 ws)) (ZhG (x.tdiv QY) (Zqk (x.tdiv QY) ws.length)) (Jd (0+QZ (x.tdiv QY)*1+1) (v64 ws) [ZhA 0] (0+QZ (x.tdiv QY)*1)) (Y5 (W8 (Zgu (x.tmod QY)) (QF (Jf (JN (Zbo (WM Ze) x) x) x) (!YO x m))))):=by kernel_rfl
def pw_f:=Bx.mk (by have h:=@ZFB;simp(maxSteps:=99999999) only[Zx.v,V7.v,ZD.v,ZO.v,ZU.v,-eq_self] at h;exact h)
def ZQ (a b:Int):=a==(b:Int)
def X2 (a:Value) (b c:Prop):=Wj a (b∧c)
def Zji (a:Bool) (b c:Prop):=X2 (Value.bool a) b c
def YA:=Bx.mk (aI @ZQ.eq_1 (aI @X2.eq_1 @Zji.eq_1))
theorem ZFC (r:Int→Nat) (x:Int) (m:Nat) (ws:List Nat):obs (evF Tryz.prog (Zbn 3 (Zje r)) Zb 100 40 98 [ZN,VD x] (Zhy 68 (mpW false m ws) [(65,ws.length)] 24 16777215))=Zji (ZQ (Ze3 ((JF (v64 ws) (0+QZ (x.tdiv QY)*1)).fdiv (ZW^min (x.tmod QY).toNat 64)) Yg) 1) ((W8 (Zgu (x.tmod QY)) (((W8 (Jd (0+QZ (x.tdiv QY)*1+1) (v64 ws) [ZhA 0] (0+QZ (x.tdiv QY)*1)) (W8 (ZhG (x.tdiv QY) (Zqk (x.tdiv QY) ws.length)) (((((((Jf (JN (Zbo (WM Ze) x) x) x∧YO x m=true)∧YO x m=true)∧YO x m=true)∧YO x m=true)∧YO x m=true)∧YO x m=true)∧YO x m=true)∧YO x m=true)∧YO x m=true)∧YO x m=true)∧YO x m=true)∧YO x m=true)∧YO x m=true) (YO x m=true):=by kernel_rfl
def gw_a:=Bx.mk (by have h:=@ZFC;simp(maxSteps:=99999999) only[Zx.v,ZF.v,V7.v,ZD.v,ZO.v,YA.v,-eq_self] at h;exact h)
def bn (f:Nat→Bool):Nat→Nat
 | 0=>0
 | n+1=>(f 0).toNat+2*bn (fun i=>f (i+1)) n
theorem ZhH:∀ (n:Nat) (f:Nat→Bool) (i:Nat),(bn f n).testBit i=(decide (i<n)&&f i)
 | 0,f,i=>by simp[bn]
 | n+1,f,0=>by
  simp only[bn,Nat.testBit_zero]
  cases f 0<;>simp<;>omega
 | n+1,f,i+1=>by
  rw[Nat.testBit_succ]
  have:bn f (n+1)/2=bn (fun i=>f (i+1)) n:=by
   simp only[bn]; cases f 0<;>simp<;>omega
  rw[this,ZhH n (fun i=>f (i+1)) i]
  simp
theorem ZtM:∀ (n:Nat) (f:Nat→Bool),bn f n<2^n
 | 0,f=>by simp[bn]
 | n+1,f=>by
  have:=ZtM n (fun i=>f (i+1))
  simp only[bn,Nat.pow_succ]
  cases f 0<;>simp<;>omega
theorem ZAr (f g:Nat→Bool) (n:Nat) (h:∀ i,i<n→f i=g i):bn f n=bn g n:=by
 apply Nat.eq_of_testBit_eq
 intro i
 rw[ZhH,ZhH]
 by_cases hi:i<n
 ·simp[hi,h i hi]
 ·simp[hi]
def YY (f:Nat→Bool) (g:Nat) (b:Bool):Nat→Bool:=fun i=>if i=g then b else f i
theorem ZlV (n:Nat) (h:n<18446744073709551616):u64.wrap (n:Int)=(n:Int):=by
 show(n:Int)%18446744073709551616=n
 omega
theorem ZFD (f:Nat→Bool) (j:Nat) (hj:j<64):bits .or .u64 ((bn f 64:Nat):Int) ((2^j:Nat):Int)=((bn (YY f j true) 64:Nat):Int):=by
 have h1:=ZtM 64 f
 show u64.wrap ((BitVec.ofInt 64 ((bn f 64:Nat):Int)|||BitVec.ofInt 64 ((2^j:Nat):Int)).toNat:Int)=_
 have he:(BitVec.ofInt 64 ((bn f 64:Nat):Int)|||BitVec.ofInt 64 ((2^j:Nat):Int)).toNat=bn (YY f j true) 64:=by
  apply Nat.eq_of_testBit_eq
  intro i
  rw[BitVec.testBit_toNat,BitVec.getLsbD_or,BitVec.ofInt_natCast,BitVec.ofInt_natCast,BitVec.getLsbD_ofNat,BitVec.getLsbD_ofNat,ZhH,ZhH,Nat.testBit_two_pow]
  by_cases hi:i<64
  ·by_cases h:i=j
   ·subst h; simp[hi,YY]
   ·have:¬ j=i:=fun e=>h e.symm
    simp[hi,YY,h,this]
  ·simp[hi]
 rw[he,ZlV _ (by have:=ZtM 64 (YY f j true); simpa using this)]
theorem ZkH (f:Nat→Bool) (j:Nat) (hj:j<64):bits .andNot .u64 ((bn f 64:Nat):Int) ((2^j:Nat):Int)=((bn (YY f j false) 64:Nat):Int):=by
 show u64.wrap ((BitVec.ofInt 64 ((bn f 64:Nat):Int) &&& ~~~ BitVec.ofInt 64 ((2^j:Nat):Int)).toNat:Int)=_
 have he:(BitVec.ofInt 64 ((bn f 64:Nat):Int) &&& ~~~ BitVec.ofInt 64 ((2^j:Nat):Int)).toNat=bn (YY f j false) 64:=by
  apply Nat.eq_of_testBit_eq
  intro i
  rw[BitVec.testBit_toNat,BitVec.getLsbD_and,BitVec.getLsbD_not,BitVec.ofInt_natCast,BitVec.ofInt_natCast,BitVec.getLsbD_ofNat,BitVec.getLsbD_ofNat,ZhH,ZhH,Nat.testBit_two_pow]
  by_cases hi:i<64
  ·by_cases h:i=j
   ·subst h; simp[hi,YY]
   ·have:¬ j=i:=fun e=>h e.symm
    simp[hi,YY,h,this]
  ·simp[hi]
 rw[he,ZlV _ (by have:=ZtM 64 (YY f j false); simpa using this)]
theorem ZBL (f:Nat→Bool) (j:Nat) (hj:j<64):(bits .and .u64 (((bn f 64:Nat):Int).fdiv ((2:Int)^j)) (1:Int)==(1:Int))=f j:=by
 have e2:(2:Int)^j=((2^j:Nat):Int):=by rw[Int.natCast_pow]; rfl
 rw[e2,fdA]
 have h1:=ZtM 64 f
 have hlt:bn f 64/2^j<2^64:=Nat.lt_of_le_of_lt (Nat.div_le_self _ _) h1
 have hb:bits .and .u64 ((bn f 64/2^j:Nat):Int) (1:Int)=((bn f 64/2^j%2:Nat):Int):=by
  show u64.wrap ((BitVec.ofInt 64 ((bn f 64/2^j:Nat):Int)&&&BitVec.ofInt 64 ((1:Nat):Int)).toNat:Int)=_
  rw[BitVec.ofInt_natCast,BitVec.ofInt_natCast,BitVec.toNat_and,BitVec.toNat_ofNat,BitVec.toNat_ofNat,Nat.mod_eq_of_lt hlt,Nat.mod_eq_of_lt (by omega:1<2^64),Nat.and_one_is_mod,ZlV _ (by omega)]
 rw[hb]
 have ht:(bn f 64).testBit j=f j:=by rw[ZhH]; simp[hj]
 rw[Nat.testBit_eq_decide_div_mod_eq] at ht
 rw[← ht]
 have:bn f 64/2^j%2=0∨bn f 64/2^j%2=1:=by omega
 rcases this with h|h<;>rw[h]<;>rfl
def Zd (f:Nat→Bool) (n:Nat):List Nat:=(List.range n).map fun k=>bn (fun i=>f (64*k+i)) 64
theorem QN (f:Nat→Bool) (n:Nat):(Zd f n).length=n:=by simp[Zd]
theorem Zql (f:Nat→Bool) (n k:Nat) (h:k<n):Qd (Zt undef (v64 (Zd f n)) k)=((bn (fun i=>f (64*k+i)) 64:Nat):Int):=by
 unfold v64
 rw[JZ _ _ (0:Nat),if_pos (by rw[QN]; exact h)]
 show(((Zd f n).getD k 0:Nat):Int)=_
 rw[List.getD_eq_getElem?_getD]
 simp[Zd,h]
theorem ZiA (f:Nat→Bool) (n k:Nat) (h:k<n):Zz [.int .u64 0] (v64 (Zd f n)) k=true:=by
 simp only[Zz,Bool.and_true]
 unfold v64
 rw[JZ _ _ (0:Nat),if_pos (by rw[QN]; exact h)]
 rfl
theorem ZlW (ws:List Nat) (k:Nat):WK k (v64 ws)=decide (k≤ws.length):=by
 rw[Bool.eq_iff_iff,Vx]; simp[v64]
theorem Qp (ws:List Nat):∀ v∈v64 ws,Qm v=true:=fun v hv=>by
 obtain⟨b,_,rfl⟩:=List.mem_map.1 hv; rfl
theorem ZoR (f g:Nat→Bool) (n k:Nat) (h:k<n) (he:∀ i,i/64≠k→f i=g i) (v:Nat) (hv:v=bn (fun i=>g (64*k+i)) 64):YU k [.int .u64 (v:Nat)] (v64 (Zd f n))=v64 (Zd g n):=by
 apply List.ext_getElem?
 intro j
 rw[Kj _ _ _ _ (by simp[v64,QN]; omega)]
 simp only[v64,List.getElem?_map,List.length_singleton]
 by_cases hj:k≤j∧j<k+1
 ·have:j=k:=by omega
  subst this
  rw[if_pos hj]
  simp[Zd,h,hv]
 ·rw[if_neg hj]
  by_cases hn:j<n
  ·simp only[Zd,List.getElem?_map,List.getElem?_range hn,Option.map_some]
   rw[ZAr (fun i=>f (64*j+i)) (fun i=>g (64*j+i)) 64 (fun i hi=>he _ (by omega))]
  ·simp only[Zd,List.getElem?_map]
   have hnone:(List.range n)[j]? = none:=List.getElem?_eq_none (by simp; omega)
   simp only[hnone,Option.map_none]
theorem Znt:Zi5 Tryz.prog 3 (Zje Zwk):=by
 intro f args s c ρ q h hq
 unfold Zje at h
 obtain⟨h2,h3⟩:=Qy h
 have h2:=eB h2
 subst h2
 split at h3
 ·cases h3; exact ZBI _
 ·cases h3
theorem ZtN {q:Nat→Bool} (h:∀ l,l<68→q l=true) (rw:Bool) (m:Nat) (ws:List Nat):OkH q (mpW rw m ws) :=
 ⟨⟨h 66 (by omega),rfl,fun v hv=>Q5 3 v (ZtF h m ws.length v hv)⟩,⟨h 65 (by omega),h 65 (by omega),ZY (Qp ws)⟩,trivial⟩
def ZLZ (args:List Value) (v:Value) (m n:Nat) (f g:Nat→Bool):Con:=⟨args,68,mpW true m (Zd f n),[(65,n)],v,68,[(65,⟨true,some (65,1),v64 (Zd g n),none⟩)],[]⟩
theorem ZoS {fn:FuncId} {args:List Value} {v:Value} {m n:Nat} {f g:Nat→Bool} {T:List (Nat×Bool)} {s':Sy.St} (ha:args.all (okV (fun l=>Nat.blt l 68) 3)=true) (hv:XD v=true) (hu:isU v=false)
  (hr:evF Tryz.prog (Zbn 3 (Zje Zwk)) Zb 100 40 fn args ⟨68,mpW true m (Zd f n),[(65,n)],0,T,0,True⟩=some (v,s')) (hO:s'.O) (h65:Sy.look s'.h 65=some ⟨true,some (65,1),v64 (Zd g n),none⟩):ConOk Tryz.prog fn 3 (ZLZ args v m n f g):=by
 refine Qn (Zm (L:=100) Zg (JY Znt) (Zh _) 40) ⟨by show 64≤68; omega,Nat.le_refl _,ZtN ZhC true m _,rfl,rfl,rfl,ha,Q8 hv 1,fun x hx v hv => ?_⟩ hr hO (p:=fun l=>Nat.blt l 68) (σ:=id) ?_
 ·obtain rfl:=List.mem_singleton.1 hx
  exact Yy (Qp _ v hv) 3
 ·refine⟨fun _ _=>rfl,⟨⟨rfl,ZE (Qp _),rfl,?_⟩,trivial⟩,rfl,trivial,⟨Q8 hv 1,by rw[JB]; rfl⟩,hu,⟨⟨rfl,rfl,ZY (Qp _)⟩,trivial⟩,rfl,Xk _ hv,fun x _ _ => .inl rfl⟩
  simp only[id,h65]
  exact⟨rfl,rfl,trivial,(Wx _ rfl _).symm⟩
def ZFE (g m n:Nat) (f:Nat→Bool) (v:Int):Con:=ZLZ [.pointer (some ⟨66,0,none⟩),.int .i64 (g:Nat),.int .i64 ((g:Nat)+1:Nat)] (.int .i64 v) m n f (YY f g false)
def ZLF (g m n:Nat) (f:Nat→Bool) (b:Bool):Con:=ZLZ [.pointer (some ⟨66,0,none⟩),.int .i64 (g:Nat),.bool b] (.bool true) m n f (YY f g b)
theorem ZlX (f:Nat→Bool) (g:Nat) (b:Bool):∀ i,i/64≠g/64→f i=YY f g b i:=fun i hi=>by
 unfold YY
 rw[if_neg (fun e=>hi (by rw[e]))]
theorem Zjj (f:Nat→Bool) (g:Nat) (b:Bool):bn (YY (fun i=>f (64*(g/64)+i)) (g%64) b) 64=bn (fun i=>YY f g b (64*(g/64)+i)) 64:=by
 refine ZAr _ _ 64 fun i hi => ?_
 unfold YY
 by_cases h:i=g%64
 ·rw[if_pos h,if_pos (by omega)]
 ·rw[if_neg h,if_neg (by omega)]
theorem ZoT (g m n:Nat) (f:Nat→Bool) (b:Bool) (hg:g<m) (hm:m≤64*n) (hn:n≤100000):ConOk Tryz.prog 93 3 (ZLF g m n f b):=by
 have hk:g/64<n:=by omega
 have e1:i64.wrap ((g:Int).tdiv (64:Int))=((g/64:Nat):Int):=by rw[show(g:Int).tdiv (64:Int)=((g/64:Nat):Int) from(Int.ofNat_tdiv g 64).symm,XL _ (by omega)]
 have e2:(g:Int).tmod (64:Int)=((g%64:Nat):Int):=(Int.ofNat_tmod g 64).symm
 have e3:min (g%64) 64=g%64:=Nat.min_eq_left (by omega)
 have hp:2^(g%64)≤2^63:=Nat.pow_le_pow_right (by omega) (by omega)
 have e4:u64.wrap ((1:Int)*(2:Int)^(g%64))=((2^(g%64):Nat):Int):=by
  rw[Int.one_mul,show(2:Int)^(g%64)=((2^(g%64):Nat):Int) by rw[Int.natCast_pow]; rfl,ZlV _ (by omega)]
 cases b
 ·have hr:=pw_f.v Zwk (g:Int) m (Zd f n)
  simp only[QN] at hr
  simp(disch:=omega) only[e1,e2,e3,e4,tN,Nat.zero_add,Nat.mul_one,Zql,ZkH] at hr
  rw[ZoR f (YY f g false) n (g/64) hk (ZlX f g false) _ (Zjj f g false)] at hr
  refine ZoS rfl rfl rfl hr ?_ rfl
  simp(disch:=omega) only[ZlW,ZiA,QN,lR,dF,qT8.v,cond_true,ge_iff_le]
 ·have hr:=pw_t.v Zwk (g:Int) m (Zd f n)
  simp only[QN] at hr
  simp(disch:=omega) only[e1,e2,e3,e4,tN,Nat.zero_add,Nat.mul_one,Zql,ZFD] at hr
  rw[ZoR f (YY f g true) n (g/64) hk (ZlX f g true) _ (Zjj f g true)] at hr
  refine ZoS rfl rfl rfl hr ?_ rfl
  simp(disch:=omega) only[ZlW,ZiA,QN,lR,dF,qT8.v,cond_true,ge_iff_le]
theorem Zhk (g m n:Nat) (f:Nat→Bool) (hg:g<m) (hm:m≤64*n) (hn:n≤100000):∃ v:Int,ConOk Tryz.prog 158 3 (ZFE g m n f v):=by
 have hk:g/64<n:=by omega
 have hr:=cw_a.v Zwk (g:Int) ((g+1:Nat):Int) m (Zd f n)
 have x1:(if(0:Int)>(g:Int) then(0:Int) else(g:Int))=(g:Int):=if_neg (by omega)
 have x2:(if(m:Int)<((g+1:Nat):Int) then(m:Int) else((g+1:Nat):Int))=((g+1:Nat):Int):=if_neg (by omega)
 have e1:i64.wrap ((g:Int).tdiv (64:Int))=((g/64:Nat):Int):=by rw[show(g:Int).tdiv (64:Int)=((g/64:Nat):Int) from(Int.ofNat_tdiv g 64).symm,XL _ (by omega)]
 have x3:i64.wrap (((g/64:Nat):Int)*(64:Int))=((g/64*64:Nat):Int):=by rw[show((g/64:Nat):Int)*(64:Int)=((g/64*64:Nat):Int) by omega,XL _ (by omega)]
 have x4:i64.wrap (((g/64:Nat):Int)+(1:Int))=((g/64+1:Nat):Int):=QV _ (by omega)
 have x5:i64.wrap (((g/64+1:Nat):Int)*(64:Int))=(((g/64+1)*64:Nat):Int):=by rw[show((g/64+1:Nat):Int)*(64:Int)=(((g/64+1)*64:Nat):Int) by omega,XL _ (by omega)]
 have x6:i64.wrap ((g:Int)-((g/64*64:Nat):Int))=((g%64:Nat):Int):=by rw[show(g:Int)-((g/64*64:Nat):Int)=((g%64:Nat):Int) by omega,XL _ (by omega)]
 have x7:i64.wrap (((g+1:Nat):Int)-((g/64*64:Nat):Int))=((g%64+1:Nat):Int):=by rw[show((g+1:Nat):Int)-((g/64*64:Nat):Int)=((g%64+1:Nat):Int) by omega,XL _ (by omega)]
 have x8:(if(64:Int)<((g%64+1:Nat):Int) then(64:Int) else((g%64+1:Nat):Int))=((g%64+1:Nat):Int):=if_neg (by omega)
 have x9:(if(0:Int)>((g%64:Nat):Int) then(0:Int) else((g%64:Nat):Int))=((g%64:Nat):Int):=if_neg (by omega)
 have y1:i64.wrap (((g%64+1:Nat):Int)-((g%64:Nat):Int))=(1:Int):=by rw[show((g%64+1:Nat):Int)-((g%64:Nat):Int)=((1:Nat):Int) by omega,XL _ (by omega)]; rfl
 have y2:i64.wrap ((64:Int)-(1:Int))=(63:Int):=by kernel_rfl
 have y3:Int.fdiv (18446744073709551615:Int) ((2:Int)^min (63:Int).toNat 64)=1:=by kernel_rfl
 have e3:min (g%64) 64=g%64:=Nat.min_eq_left (by omega)
 have hp:2^(g%64)≤2^63:=Nat.pow_le_pow_right (by omega) (by omega)
 have e4:u64.wrap ((1:Int)*(2:Int)^(g%64))=((2^(g%64):Nat):Int):=by
  rw[Int.one_mul,show(2:Int)^(g%64)=((2^(g%64):Nat):Int) by rw[Int.natCast_pow]; rfl,ZlV _ (by omega)]
 simp only[QN] at hr
 simp(disch:=omega) only[x1,x2,e1,x3,x4,x5,x6,x7,x8,x9,y1,y2,y3,e3,e4,tN,Nat.zero_add,Nat.mul_one,Zql,ZkH] at hr
 rw[ZoR f (YY f g false) n (g/64) hk (ZlX f g false) _ (Zjj f g false)] at hr
 refine⟨_,ZoS rfl rfl rfl hr ?_ rfl⟩
 simp(disch:=omega) only[ZlW,ZiA,QN,lR,dF,qT8.v,cond_true,ge_iff_le]
def ZL0 (g m n:Nat) (f:Nat→Bool):Con:=⟨[.pointer (some ⟨66,0,none⟩),.int .i64 (g:Nat)],68,mpW false m (Zd f n),[(65,n)],.bool (f g),68,[],[]⟩
theorem ZoU (g m n:Nat) (f:Nat→Bool) (hg:g<m) (hm:m≤64*n) (hn:n≤100000):ConOk Tryz.prog 98 3 (ZL0 g m n f):=by
 have hk:g/64<n:=by omega
 have e1:i64.wrap ((g:Int).tdiv (64:Int))=((g/64:Nat):Int):=by rw[show(g:Int).tdiv (64:Int)=((g/64:Nat):Int) from(Int.ofNat_tdiv g 64).symm,XL _ (by omega)]
 have e2:(g:Int).tmod (64:Int)=((g%64:Nat):Int):=(Int.ofNat_tmod g 64).symm
 have e3:min (g%64) 64=g%64:=Nat.min_eq_left (by omega)
 have hr:=gw_a.v Zwk (g:Int) m (Zd f n)
 simp only[QN] at hr
 simp(disch:=omega) only[e1,e2,e3,tN,Nat.zero_add,Nat.mul_one,Zql,ZBL] at hr
 have hfg:f (64*(g/64)+g%64)=f g:=by rw[show 64*(g/64)+g%64=g by omega]
 rw[hfg] at hr
 unfold obs at hr
 obtain⟨⟨v',s'⟩,h1,h2⟩:=oM hr
 simp only[Prod.mk.injEq] at h2
 obtain⟨rfl,hq⟩:=h2
 refine Qn (Zm (L:=100) Zg (JY Znt) (Zh _) 40) ⟨by show 64≤68; omega,Nat.le_refl _,ZtN ZhC false m _,rfl,rfl,rfl,rfl,rfl,fun x hx=>by cases hx⟩ h1 ?_ (p:=fun l=>Nat.blt l 68) (σ:=id) ?_
 ·rw[hq]
  simp(disch:=omega) only[ZlW,ZiA,QN,lR,dF,qT8.v,cond_true,ge_iff_le]
 ·exact⟨fun _ _=>rfl,trivial,rfl,trivial,⟨rfl,by rw[JB]; rfl⟩,rfl,trivial,rfl,ZG _ rfl,fun x hx=>by cases hx⟩
def bls (f:Nat→Bool) (m:Nat):List Value:=(List.range m).map fun i => .bool (f i)
def arR (rw:Bool) (zs:List UInt8) (f:Nat→Bool) (N m:Nat):Sy.Heap:=[(66,⟨rw,none,[.slice (some ⟨64,0,none⟩) N (big+64),.slice (some ⟨65,0,none⟩) m (big+65)],none⟩),(65,⟨rw,some (65,1),bls f m,none⟩),(64,⟨rw,some (64,1),u8s zs,none⟩)]
def Zf2 (N m:Nat):List (Nat×Nat):=[(65,m),(64,N)]
def rwE (a:Nat) (d:List UInt8):List (Nat×Value):=[(0,.pointer (some ⟨66,0,none⟩)),(1,.int .u32 (a:Nat)),(2,.string ⟨⟨d⟩⟩),(6,.bool false)]
def rwI (a:Nat) (d zs:List UInt8) (f:Nat→Bool) (N m:Nat) (k:Nat):Sf:=⟨67,rwE a d++[(7,.int .i64 (k:Nat))],arR true zs f N m,Zf2 N m⟩
def Yr (a b:Nat):=Znm (Ztz 0 a) b
def Zqm (a:Nat) (b:Sy.Heap) (c:List (Nat×Bool)) (d:Nat):=Zgt a b [] c d
def Zqn (a:Nat) (b:List (Nat×Bool)) (c:Nat):=Zqm a [] b c
def ZkI (a:Nat):=(a,false)
def W1:=ZkI 0
def UG (a b:Nat):=Vi (Yr a b)
def Vk (a:List (Nat×Bool)):=Zqn 64 a 0
def ZbS:=ZkI 1
def Zam:=[Xe]
def X0:=Bx.mk (aI @Yr.eq_1 (aI @Zqm.eq_1 (aI @Zqn.eq_1 (aI @ZkI.eq_1 (aI @W1.eq_1 (aI @UG.eq_1 (aI @Vk.eq_1 (aI @ZbS.eq_1 @Zam.eq_1))))))))
theorem ZBM (p:Int):evF Tryz.prog Zc Zb 100 40 41 [VD p] (Vk [W1,ZbS])=JD [ZN,Yk] 67 [(66,UG (Zjc p) (Jb p).toNat),(65,ZbN 65 (Zii (Jb p).toNat Zam)),(64,ZbN 64 (Zii (Zjc p) J7))] [(65,(Jb p).toNat),(64,Zjc p)] 2 (ZaM (UF (Jb p) (decide (Jb p≤Jb p))&&Zno (Yg*Jb p)&&Znn (Jb p)) (UF (Zc0 p) (decide (Zc0 p≤Zc0 p))&&Zno (Yg*Zc0 p)&&Znn (Zc0 p)) (Zjb (Znl p) (Zai p 1024))):=by kernel_rfl
def ZL1:=Bx.mk (by have h:=@ZBM;simp(maxSteps:=99999999) only[Zx.v,ZD.v,ZU.v,X0.v,-eq_self] at h;exact h)
def ZLG (a:Int):=ZFa u32 a
def ZX (a:Nat):=ZLG ↑a
def ZcF (a:Nat):=(QW a).toNat
def Vu (a:Nat):=i64.wrap (QW a)
def ZeS (a:Int) (b:Nat):=ZwU a (QW b)
def Ub (a:List UInt8):=QW (Yf a)
def ZaY (a:Int):=Znk a YD
def Znu (a:Fr):=some (Exit.normal,a)
def KQ (a:Nat):=ZeS Zr a
def ZaZ (a b:Nat):=Zqh (Vu a) b
def ZhI (a:Nat):=VD (ZdE (QW a) 1)
def UH:=Zi9 66 1
def ZgB (a:Nat):=(a,true)
def KR:=ZgB 0
def ZR:=Bx.mk (aI @ZLG.eq_1 (aI @ZX.eq_1 (aI @ZcF.eq_1 (aI @Vu.eq_1 (aI @ZeS.eq_1 (aI @Ub.eq_1 (aI @ZaY.eq_1 (aI @Znu.eq_1 (aI @KQ.eq_1 (aI @ZaZ.eq_1 (aI @ZhI.eq_1 (aI @UH.eq_1 (aI @ZgB.eq_1 @KR.eq_1)))))))))))))
theorem ZBN (a:Nat) (d:List UInt8) (zs:List UInt8) (f:Nat→Bool) (N:Nat) (m:Nat) (k:Nat):evC Tryz.prog (evF Tryz.prog Zc Zb 100 20) (Zb 89) 42 100 (Qe Tryz.prog 89 0) (Sf.frT 42 (rwI a d zs f N m k) [KR])=Znu { e:=[[ZN,ZX a,YX d,unk,unk,unk,Xe,ZhI k,unk,unk,unk,unk,unk,unk,Z1 k,YX d],[Z1 (Yf d),Value.bool (Zil (QW k) (Ub d)),Z1 k,ZhI k,ZN,ZN,ZN,ZhB N,ZX a,VD (Vu a),Z1 k,VD (ZaZ a k),YX d,Z1 k,Zgr ↑(d.getD (ZcF k) (0:UInt8)).toNat,Zi9 64 (0+(ZaZ a k).toNat*1)],[ZN,ZN,UH,J6 m,ZX a,VD (Vu a),Z1 k,VD (ZaZ a k),VD (ZaY (ZaZ a k)),Zi9 65 (0+(ZaY (ZaZ a k)).toNat*1),unk,unk,unk,unk,unk,unk]],s:=ZkD 67 [(66,UG N m),(65,ZbP 65 (0+(ZaY (ZaZ a k)).toNat*1) Zam (bls f m)),(64,ZbP 64 (0+(ZaZ a k).toNat*1) [Zgr ↑(d.getD (ZcF k) (0:UInt8)).toNat] (u8s zs))] [(65,m),(64,N)] 1 (W8 (ZbR (0+(ZaY (ZaZ a k)).toNat*1+1) (bls f m)) (ZdJ (UF (ZaY (ZaZ a k)) (YO (ZaY (ZaZ a k)) m)) (ZbR (0+(ZaZ a k).toNat*1+1) (u8s zs)) (UF (ZaZ a k) (YO (ZaZ a k) N)) (KQ k&&Zil (QW k) (Ub d)) (Vt (Zil (QW k) (Ub d)=true)))):Fr }:=by kernel_rfl
def ZFF:=Bx.mk (by have h:=@ZBN;simp(maxSteps:=99999999) only[Zx.v,ZF.v,ZD.v,ZU.v,X0.v,ZR.v,-eq_self] at h;exact h)
def X3 (a:Nat) (b:Bool):=(a,Value.bool b)
def Ql (a b:Nat):=(a,Z1 b)
def Zc1 (a:Nat) (b:List (Nat×Value)) (c:Nat) (d:Sy.Heap) (e:List (Nat×Nat)) (f:Nat) (g:Prop):={ e:=mkE a b,s:=ZkD c d e f g:Fr }
def Ze7:=Exit.exit 0
def Jg (a:Nat) (b:Nat→Bool) (c:Nat):=ZbN a (bls b c)
def Uc (a:Bool):=QF True a
def UI (a:Nat) (b:List UInt8):=ZtD (a,1) (u8s b)
def KS (a:List UInt8):=UI 64 a
def Ud:=Bx.mk (aI @X3.eq_1 (aI @Ql.eq_1 (aI @Zc1.eq_1 (aI @Ze7.eq_1 (aI @Jg.eq_1 (aI @Uc.eq_1 (aI @UI.eq_1 @KS.eq_1)))))))
theorem ZBO (a:Nat) (d:List UInt8) (zs:List UInt8) (f:Nat→Bool) (N:Nat) (m:Nat) (k:Nat):evC Tryz.prog (evF Tryz.prog Zc Zb 100 20) (Zb 89) 42 100 (Qe Tryz.prog 89 0) (Sf.frT 42 (rwI a d zs f N m k) [W1])=some (Ze7,Zc1 42 [(0,ZN),(1,ZX a),(2,YX d),(6,Xe),Ql 7 k,Ql 14 k,(15,YX d),Ql 16 (Yf d),X3 17 (Zil (QW k) (Ub d))] 67 [(66,UG N m),(65,Jg 65 f m),(64,KS zs)] [(65,m),(64,N)] 1 (Uc (Zil (QW k) (Ub d)))):=by kernel_rfl
def ZFG:=Bx.mk (by have h:=@ZBO;simp(maxSteps:=99999999) only[Zx.v,ZF.v,ZD.v,ZU.v,X0.v,ZR.v,Ud.v,-eq_self] at h;exact h)
theorem Q4 (f:Nat→Bool) (m:Nat):∀ v∈bls f m,Qm v=true:=fun v hv=>by
 obtain⟨b,_,rfl⟩:=List.mem_map.1 hv; rfl
theorem ZtO (f:Nat→Bool) (m:Nat):(bls f m).length=m:=by simp[bls]
theorem ZfM (f:Nat→Bool) (m n:Nat):WK n (bls f m)=decide (n≤m):=by
 rw[Bool.eq_iff_iff,Vx,ZtO]; simp
theorem ZlY (f:Nat→Bool) (m g:Nat) (b:Bool) (h:g<m):YU g [.bool b] (bls f m)=bls (YY f g b) m:=by
 apply List.ext_getElem?
 intro j
 rw[Kj _ _ _ _ (by simp[ZtO]; omega)]
 simp only[bls,List.getElem?_map,List.length_singleton]
 by_cases hj:g≤j∧j<g+1
 ·have:j=g:=by omega
  subst this
  rw[if_pos hj,List.getElem?_range h]
  simp[YY]
 ·rw[if_neg hj]
  by_cases hn:j<m
  ·rw[List.getElem?_range hn]
   simp only[Option.map_some,YY]
   rw[if_neg (by omega)]
  ·rw[List.getElem?_eq_none (by simp; omega)]; rfl
theorem ZoV (f:Nat→Bool) (m i:Nat) (h:i<m):Zt undef (bls f m) i = .bool (f i):=by
 unfold bls
 rw[JZ _ _ (0:Nat),if_pos (by simpa using h)]
 simp[List.getD_eq_getElem?_getD,h]
theorem Znv (a k:Nat) (d zs:List UInt8) (h:a+d.length≤zs.length) (hk:k<d.length):Xt (a+k) [d.getD k 0] (Xt a (d.take k) zs)=Xt a (d.take (k+1)) zs:=by
 have hl1:(d.take k).length=k:=by simp; omega
 have hl2:(d.take (k+1)).length=k+1:=by simp; omega
 have hp:(Xt a (d.take k) zs).length=zs.length:=ZcD _ _ _ (by omega)
 apply List.ext_getElem?
 intro j
 rw[Zix _ _ _ (by rw[hp]; simp; omega),Zix _ _ _ (by omega),Zix _ _ _ (by omega),hl1,hl2]
 simp only[List.length_singleton]
 by_cases h1:j=a+k
 ·subst h1
  rw[if_pos ⟨by omega,by omega⟩,if_pos ⟨by omega,by omega⟩,show a+k-(a+k)=0 by omega,show a+k-a=k by omega,List.getElem?_take_of_lt (by omega),List.getD_eq_getElem?_getD,List.getElem?_eq_getElem hk]
  rfl
 ·rw[if_neg (by omega)]
  by_cases h2:a≤j∧j<a+k
  ·rw[if_pos h2,if_pos ⟨h2.1,by omega⟩,List.getElem?_take_of_lt (by omega),List.getElem?_take_of_lt (by omega)]
  ·rw[if_neg h2,if_neg (by omega)]
theorem Zqo (a:Nat) (zs:List UInt8):Xt a [] zs=zs:=by simp[Xt]
structure ArK (zs:List UInt8) (N m:Nat):Prop where
 len:zs.length=N
 tags:N≤16*m
 big:m≤100000
 big2:N≤1000000
theorem ZgC {q:Nat→Bool} (h4:q 64=true) (h5:q 65=true) (N m:Nat):∀ v∈([.slice (some ⟨64,0,none⟩) N (big+64),.slice (some ⟨65,0,none⟩) m (big+65)]:List Value),okV q 3 v=true:=by
 intro v hv
 simp only[List.mem_cons,List.not_mem_nil,or_false] at hv
 rcases hv with rfl|rfl<;>simp[okV,Ut,h4,h5,Qm,big]
theorem Zan {q:Nat→Bool} (h:∀ l,l<67→q l=true) (rw:Bool) (zs:List UInt8) (f:Nat→Bool) (N m:Nat) {l:Sy.Heap} (hl:OkH q l):OkH q (arR rw zs f N m++l) :=
 ⟨⟨h 66 (by omega),rfl,fun v hv=>Q5 3 v (ZgC (h 64 (by omega)) (h 65 (by omega)) N m v hv)⟩,⟨h 65 (by omega),h 65 (by omega),ZY (Q4 f m)⟩,⟨h 64 (by omega),h 64 (by omega),ZY (ZS zs)⟩,hl⟩
theorem ZoW {q:Nat→Bool} (h:∀ l,l<67→q l=true) (rw:Bool) (zs:List UInt8) (f:Nat→Bool) (N m:Nat):∀ x∈arR rw zs f N m,∀ v∈x.2.cells,okV q 3 v=true:=fun x hx v hv=>by
 simp only[arR,List.mem_cons,List.not_mem_nil,or_false] at hx
 rcases hx with rfl|rfl|rfl
 ·exact ZgC (h 64 (by omega)) (h 65 (by omega)) N m v hv
 ·exact Yy (Q4 f m v hv) 3
 ·exact Yy (ZS zs v hv) 3
theorem ZlZ (rw:Bool) (zs:List UInt8) (f:Nat→Bool) (N m:Nat):∀ x∈arR rw zs f N m,x.2.op≠none→∀ v∈x.2.cells,Qm v=true:=fun x hx hne=>by
 simp only[arR,List.mem_cons,List.not_mem_nil,or_false] at hx
 rcases hx with rfl|rfl|rfl
 ·exact absurd rfl hne
 ·exact Q4 f m
 ·exact ZS zs
theorem ZcG {h1:Sy.Heap} {p:Nat→Bool} (hp:∀ l,l<67→p l=true) (zs:List UInt8) (f:Nat→Bool) (N m:Nat) (cs bs:List Value) {l:Sy.Heap} (h66:Sy.look h1 66=some ⟨true,none,[.slice (some ⟨64,0,none⟩) N (big+64),.slice (some ⟨65,0,none⟩) m (big+65)],none⟩) (h65:Sy.look h1 65=some ⟨true,some (65,1),bs,none⟩) (h64:Sy.look h1 64=some ⟨true,some (64,1),cs,none⟩) (hb:bs=bls f m) (hc:cs=u8s zs) (hl:Vr 3 p id h1 l):Vr 3 p id h1 (arR true zs f N m++l):=by
 refine⟨⟨hp 66 (by omega),List.all_eq_true.2 (ZgC (hp 64 (by omega)) (hp 65 (by omega)) N m),rfl,?_⟩,⟨hp 65 (by omega),ZE (Q4 f m),hp 65 (by omega),?_⟩,⟨hp 64 (by omega),ZE (ZS zs),hp 64 (by omega),?_⟩,hl⟩
 ·simp only[id,h66]; exact⟨rfl,rfl,trivial,(Wx _ rfl _).symm⟩
 ·simp only[id,h65]; exact⟨rfl,rfl,trivial,by rw[Wx _ rfl,hb]⟩
 ·simp only[id,h64]; exact⟨rfl,rfl,trivial,by rw[Wx _ rfl,hc]⟩
theorem ltZ (n:Nat):∀ l,l<n→(fun l=>Nat.blt l n) l=true:=fun l hl=>YW hl
theorem Zjk (n:Nat):∀ l,l<n→XP n n id (fun l=>Nat.blt l n) l=true:=fun l hl=>by
 show(Nat.blt l NG||(bif Nat.blt l n then(Nat.beq l l&&Nat.blt l n) else Nat.blt l n))=true
 rw[YW hl,Nat.beq_refl]
 cases Nat.blt l NG<;>rfl
theorem Zqp {q:Nat→Bool} (a:Nat) (d:List UInt8) (h:q 66=true):∀ x∈rwE a d,okV q 3 x.2=true:=fun x hx=>by
 simp only[rwE,List.mem_cons,List.not_mem_nil,or_false] at hx
 rcases hx with rfl|rfl|rfl|rfl<;>simp[okV,Ut,h,Qm]
def rwF (a:Nat) (d zs:List UInt8) (f:Nat→Bool) (N m:Nat):Sf:=⟨67,rwE a d,arR true zs f N m,Zf2 N m⟩
def rxS (f:Nat→Bool) (g:Nat):Nat→Nat→Bool
 | 0=>f
 | _+1=>YY f g false
theorem ZwW (f:Nat→Bool) (g k:Nat):YY (rxS f g k) g false=rxS f g (k+1):=by
 cases k
 ·rfl
 ·show YY (YY f g false) g false=YY f g false
  funext i; unfold YY; split<;>rfl
theorem ZtP (f:Nat→Bool) (g k:Nat) (h:0<k):rxS f g k=YY f g false:=by
 cases k
 ·omega
 ·rfl
theorem ZBP (a:Nat) (d zs:List UInt8) (f:Nat→Bool) (N m:Nat) (h:ArK zs N m) (ha:a+d.length≤N) (g:Nat) (hd:0<d.length) (hf:∀ i,i<d.length→(a+i)/16=g) :
  ∀ k:{ k:Nat // k≤d.length },Vh Tryz.prog 42 (Qe Tryz.prog 89 0) ((rwI a d (Xt a (d.take k.1) zs) (rxS f g k.1) N m k.1).fr 42) (.exit 0) ((rwF a d (Xt a d zs) (YY f g false) N m).fr 42):=by
 obtain⟨hl,h1,h2,h3⟩:=h
 refine Zgq (L:=100) (Xb _ _ 89) (fun _ h=>h) (X:={ k:Nat // k≤d.length }) (fun k=>rwI a d (Xt a (d.take k.1) zs) (rxS f g k.1) N m k.1) (fun _=>rwF a d (Xt a d zs) (YY f g false) N m) (fun _ => .exit 0) (fun k=>d.length-k.1) (fun k => ?_) ?_
 ·exact⟨by show 64≤67; omega,Sf.Ok.mk' 3 (by have:=Zan (ltZ 67) true (Xt a (d.take k.1) zs) (rxS f g k.1) N m (l:=[]) trivial; rwa [List.append_nil] at this) rfl (fun x hx=>by
   rcases List.mem_append.1 (show x∈rwE a d++[(7,.int .i64 (k.1:Nat))] from hx) with hx|hx
   ·exact Zqp a d rfl x hx
   ·obtain rfl:=List.mem_singleton.1 hx; rfl)⟩
 rintro⟨k,hk⟩
 have hF:(rwF a d (Xt a d zs) (YY f g false) N m).Ok (XP 67 67 id (fun l=>Nat.blt l 67)) :=
  Sf.Ok.mk' 3 (by have:=Zan (Zjk 67) true (Xt a d zs) (YY f g false) N m (l:=[]) trivial; rwa [List.append_nil] at this) rfl (Zqp a d rfl)
 by_cases hlt:k<d.length
 ·have hpl:(Xt a (d.take k) zs).length=N:=by rw[ZcD _ _ _ (by simp; omega),hl]
  have hr:=ZFF.v a d (Xt a (d.take k) zs) (rxS f g k) N m k
  have e1:i64.wrap (i64.wrap (a:Int)+(k:Int))=((a+k:Nat):Int):=by rw[XL a (by omega),ZfL,XL _ (by omega)]
  have e2:i64.wrap (((a+k:Nat):Int).tdiv (16:Int))=(((a+k)/16:Nat):Int):=by rw[Vj,XL _ (by omega)]
  have e5:i64.wrap ((k:Int)+(1:Int))=((k+1:Nat):Int):=QV k (by omega)
  simp only[e1,e2,e5,tN,Nat.zero_add,Nat.mul_one] at hr
  have hset:YU (a+k) [Value.int .u8 (((d.getD k 0).toNat:Nat):Int)] (u8s (Xt a (d.take k) zs))=u8s (Xt a (d.take (k+1)) zs):=by
   rw[← Znv a k d zs (by omega) hlt]
   exact Zak (a+k) [d.getD k 0] _ _ rfl (by rw[hpl]; simp; omega)
  rw[ZlY (rxS f g k) m _ false (by omega),hf k hlt,ZwW f g k,hset] at hr
  have hgk:=hf k hlt
  have hgm:g<m:=by omega
  refine⟨_,_,.normal,_,3,fun l=>Nat.blt l 67,id,Zm (L:=100) Zg (Zf _) (Zh _) 20,hr,?_,.inl ⟨rfl,⟨k+1,by omega⟩,by show d.length-(k+1)<d.length-k; omega,rfl,rfl,?_⟩⟩
  ·simp(disch:=omega) only[ZfM,Y6,hpl,Qr,lR,dF,Bool.and_self,Bool.and_true,cond_true,and_true,true_and,and_self]
  ·have hs:=ZcG (l:=[]) (ltZ 67) (Xt a (d.take (k+1)) zs) (rxS f g (k+1)) N m _ _ (h1:=[(66,⟨true,none,[.slice (some ⟨64,0,none⟩) N (big+64),.slice (some ⟨65,0,none⟩) m (big+65)],none⟩),(65,⟨true,some (65,1),bls (rxS f g (k+1)) m,none⟩),(64,⟨true,some (64,1),u8s (Xt a (d.take (k+1)) zs),none⟩)]) rfl rfl rfl rfl rfl trivial
   rw[List.append_nil] at hs
   exact⟨fun _ _=>rfl,hs,rfl,⟨⟨rfl,Nat.le_refl _⟩,⟨rfl,Nat.le_refl _⟩,trivial⟩,⟨⟨by kernel_rfl,by kernel_rfl⟩,⟨by kernel_rfl,by kernel_rfl⟩,⟨by kernel_rfl,by kernel_rfl⟩,⟨by kernel_rfl,by kernel_rfl⟩,⟨by kernel_rfl,by kernel_rfl⟩,trivial⟩,Nat.le_refl _,fun l hl=>QD hl,hF,fun x _ _ => .inl rfl⟩
 ·have hkk:k=d.length:=by omega
  subst hkk
  have hr:=ZFG.v a d (Xt a (d.take d.length) zs) (rxS f g d.length) N m d.length
  rw[List.take_length,ZtP f g _ hd] at hr
  refine⟨_,_,.exit 0,_,3,fun l=>Nat.blt l 67,id,Zm (L:=100) Zg (Zf _) (Zh _) 20,(by rw[List.take_length,ZtP f g _ hd]; exact hr),?_,.inr ⟨by simp,rfl,?_⟩⟩
  ·exact⟨trivial,by rw[Qr]; exact dF (by omega)⟩
  ·have hs:=ZcG (l:=[]) (ltZ 67) (Xt a d zs) (YY f g false) N m _ _ (h1:=arR true (Xt a d zs) (YY f g false) N m) rfl rfl rfl rfl rfl trivial
   rw[List.append_nil] at hs
   exact⟨fun _ _=>rfl,hs,rfl,⟨⟨rfl,Nat.le_refl _⟩,⟨rfl,Nat.le_refl _⟩,trivial⟩,⟨⟨by kernel_rfl,by kernel_rfl⟩,⟨by kernel_rfl,by kernel_rfl⟩,⟨by kernel_rfl,by kernel_rfl⟩,⟨by kernel_rfl,by kernel_rfl⟩,trivial⟩,Nat.le_refl _,fun l hl=>QD hl,hF,fun x _ _ => .inl rfl⟩
def ZL2 (a:Nat) (d zs:List UInt8) (f:Nat→Bool) (N m:Nat) (h:ArK zs N m) (ha:a+d.length≤N) (g:Nat) (hd:0<d.length) (hf:∀ i,i<d.length→(a+i)/16=g):Ent Tryz.prog :=
 ZoO Tryz.prog 89 0 42 (rwI a d zs f N m 0) (.exit 0) (rwF a d (Xt a d zs) (YY f g false) N m) (by kernel_rfl) (by kernel_rfl) (by
  have:=ZBP a d zs f N m h ha g hd hf ⟨0,Nat.zero_le _⟩
  rw[List.take_zero,Zqo] at this
  exact this)
def JO (a b:Prop):=a∧Zhj b
def ZwX (a b c:Prop):=a∧ZlU b c
def X4 (a b c:Prop):=a∧JO b c
def Vl (a b c d:Prop):=a∧X4 b c d
def ZdK (a:Nat) (b:Sy.Heap) (c d e f:Nat):=Zhy a b (Zf2 c d) e f
def Za0 (a b c d e:Prop):=a∧Vl b c d e
def Vm (a:Value) (b:Nat) (c:Value):=[a,ZX b,c]
def VF (a:Nat) (b:Int):=ZbM (QW a) b
def Zao (a:Value) (b:Nat):=a=ZX b
def ZtQ (a:List UInt8) (b:List Value):=u8s a=b
def Zqq (a:Int) (b:Nat):=ZeS a b=true
def Ue (a:Prop) (b:Int) (c:Nat):=a∧Zqq b c
def Zqr (a:Prop) (b:Int) (c:Nat) (d:Int) (e:Nat):=Ue (Ue a b c) d e
def Zc2 (a:Nat→Bool) (b:Nat):=YY a b false
def Zjl (a:Nat→Bool) (b:Nat) (c:List Value):=bls a b=c
def ZhJ (a b:List UInt8):=ZtQ a (u8s b)
def ZgD (a:List Value):=a=a
def Yl (a:Nat):=Zao (ZX a) a
def WN (a:Prop) (b:Int) (c d e f:Nat):=Zqr (Zqr a b c b d) b e b f
def Jh (a:Prop) (b:Int) (c d:Nat):=Zqr a b c b d
def Qc:=QR ZN
def Wy (a:Prop):=ZwX Ze Ze a
def Ux (a:List Value):=Wy (ZgD a)
def ZcH:=QR Yk
def Zp:=Bx.mk (aI @JO.eq_1 (aI @ZwX.eq_1 (aI @X4.eq_1 (aI @Vl.eq_1 (aI @ZdK.eq_1 (aI @Za0.eq_1 (aI @Vm.eq_1 (aI @VF.eq_1 (aI @Zao.eq_1 (aI @ZtQ.eq_1 (aI @Zqq.eq_1 (aI @Ue.eq_1 (aI @Zqr.eq_1 (aI @Zc2.eq_1 (aI @Zjl.eq_1 (aI @ZhJ.eq_1 (aI @ZgD.eq_1 (aI @Yl.eq_1 (aI @WN.eq_1 (aI @Jh.eq_1 (aI @Qc.eq_1 (aI @Wy.eq_1 (aI @Ux.eq_1 @ZcH.eq_1)))))))))))))))))))))))
theorem ZBQ (a:Nat) (d:List UInt8) (zs:List UInt8) (f:Nat→Bool) (N:Nat) (m:Nat) (h:ArK zs N m) (ha:a+d.length≤N) (g:Nat) (hd:0<d.length) (hf:∀ (i:Nat),i<d.length→(a+i)/16=g):evF Tryz.prog Zc (ZbL [ZL2 a d zs f N m h ha g hd hf]) 100 20 89 (Vm ZN a (YX d)) (ZdK 67 (arR true zs f N m) N m 20 524287)=JC QB 67 [(66,UG N m),(65,Jg 65 (Zc2 f g) m),(64,KS (Xt a d zs))] [(65,m),(64,N),(65,m),(64,N)] 20 (Vl (QF (Jh (Ue (WN (WN (Jf (JN (Zbo (Vt (ZkG (Ub d))) (Ub d)) (Ub d)) (Ub d)) (Ub d) N N N N) (Ub d) N N N N) (Ub d) N) (Ub d) N N) (!decide (Vu a≤VF N (Ub d)))) (Za0 Qc (Yl a) (QR (YX d)) (QR Xe) ZcH) (X4 (Ux (Yr N m)) (Wy (Zjl f m (bls f m))) (Wy (ZhJ zs zs))) (JO (m≤m) (N≤N))):=by kernel_rfl
def ZL3:=Bx.mk (by have h:=@ZBQ;simp(maxSteps:=99999999) only[Zx.v,ZF.v,ZD.v,ZO.v,ZU.v,X0.v,ZR.v,Ud.v,Zp.v,-eq_self] at h;exact h)
structure Box (p:Prop):Prop where
 out:p
theorem Qo {p:Prop} (h:p):Hid p:=h
theorem ZhK (a:Addr) (n:Nat):(a.add n).block=a.block:=by unfold Addr.add; split<;>rfl
theorem ZrE (a:Addr) (i j:Nat):(a.add i).add j=a.add (i+j):=by
 unfold Addr.add
 by_cases hi:i=0<;>by_cases hj:j=0<;>simp[hi,hj,Nat.add_assoc]
def V8 (w:World) (B size:Nat) (A:Option Addr) (n:Nat) (xs:List Value):Prop :=
 xs.length=n*size∧(0<n→∃ ad,A=some ad∧ad.block<B∧∀ j u,xs[j]? = some u→w.cell? (ad.add j)=some u)
section
variable {w w':World} {B B' size n:Nat} {A:Option Addr} {xs:List Value}
theorem V8.at_ {k:Nat} (h:V8 w B 1 A n xs) (hk:k<n):∃ ad u,A=some ad∧ad.block<B∧xs[k]? = some u∧w.cell? (ad.add k)=some u:=by
 obtain⟨ad,e,hb,hc⟩:=h.2 (by omega)
 have hl:k<xs.length:=by have:=h.1; omega
 exact⟨ad,xs[k],e,hb,List.getElem?_eq_getElem hl,hc k _ (List.getElem?_eq_getElem hl)⟩
theorem V8.keep (h:V8 w B size A n xs) (hk:∀ p:Addr,p.block<B→w'.cell? p=w.cell? p):V8 w' B size A n xs :=
 ⟨h.1,fun hn=>by
  obtain⟨ad,e,hb,hc⟩:=h.2 hn
  exact⟨ad,e,hb,fun j u hu=>(hk _ (by rw[ZhK]; exact hb)).trans (hc j u hu)⟩⟩
theorem V8.more (h:V8 w B size A n xs) (hB:B≤B'):V8 w B' size A n xs :=
 ⟨h.1,fun hn=>by
  obtain⟨ad,e,hb,hc⟩:=h.2 hn
  exact⟨ad,e,by omega,hc⟩⟩
theorem V8.below (h:V8 w B size A n xs) (hb:Below B w w'):V8 w' B size A n xs:=h.keep fun _ hp=>hb.cell hp
theorem V8.drew (h:V8 w B size A n xs):V8 w.drew B size A n xs:=h
theorem V8.drewN (h:V8 w B size A n xs) (k:Nat):V8 (w.drewN k) B size A n xs:=h
theorem V8.alloc (h:V8 w B size A n xs) (hB:B≤w.heap.size) (o:Obj):V8 (w.alloc o) B size A n xs:=h.keep fun p hp=>World.cell?_alloc_lt w o p (by omega)
theorem V8.setCell (h:V8 w B size A n xs) {p:Addr} (hB:B≤p.block) (u:Value):V8 (w.setCell p u) B size A n xs :=
 h.keep fun q hq=>World.cell?_setCell_other w p q u (fun e=>by subst e; omega)
theorem V8.cut (h:V8 w B size A n xs) {k cap:Nat} (hk:k≤n) (hc:n≤cap) :
  V8 w B size (if cap=k then A else A.map (·.add (k*size))) (n-k) (xs.drop (k*size)):=by
 refine⟨by rw[List.length_drop,h.1,Nat.sub_mul],fun hn => ?_⟩
 obtain⟨ad,rfl,hb,hcell⟩:=h.2 (by omega)
 rw[if_neg (by omega)]
 refine⟨ad.add (k*size),rfl,by rw[ZhK]; exact hb,fun j u hu => ?_⟩
 rw[ZrE]
 exact hcell _ u (by rw[← hu,List.getElem?_drop])
end
def Blk (w:World) (g:Nat) (t:TypeId) (cs:Array Value):Prop:=w.heap[g]? = some (.cells cs t (0,0))
section
variable {w w':World} {g:Nat} {t:TypeId} {cs:Array Value}
theorem Blk.lt (h:Blk w g t cs):g<w.heap.size:=by
 rcases Nat.lt_or_ge g w.heap.size with hlt|hge
 ·exact hlt
 ·unfold Blk at h; rw[Array.getElem?_eq_none hge] at h; cases h
theorem Blk.cell (h:Blk w g t cs) (i:Nat):w.cell? ⟨g,i,none⟩=cs[i]?:=cell_of_row w g i cs t (0,0) h
theorem Blk.frozen (h:Blk w g t cs) (i:Nat):w.frozen? ⟨g,i,none⟩=false:=by
 unfold Blk at h
 simp[World.frozen?,h]
theorem Blk.new (w:World) (t:TypeId) (cs:Array Value):Blk (w.alloc (.cells cs t)) w.heap.size t cs:=heap_alloc_new w _
theorem Blk.drew (h:Blk w g t cs):Blk w.drew g t cs:=h
theorem Blk.drewN (h:Blk w g t cs) (n:Nat):Blk (w.drewN n) g t cs:=h
theorem Blk.alloc (h:Blk w g t cs) (o:Obj):Blk (w.alloc o) g t cs:=(Below.heap_alloc w o g h.lt).trans h
theorem Blk.set_ (h:Blk w g t cs) (i:Nat) (u:Value):Blk (w.setCell ⟨g,i,none⟩ u) g t (cs.setIfInBounds i u):=by
 unfold Blk at h ⊢
 simp[World.setCell,Array.getElem?_modify,h]
theorem Blk.far (h:Blk w g t cs) {p:Addr} (hp:g≠p.block) (u:Value):Blk (w.setCell p u) g t cs:=(Below.heap_setCell w p u g hp).trans h
theorem Blk.below {B:Nat} (h:Blk w g t cs) (hb:Below B w w') (hg:g<B):Blk w' g t cs:=(hb.block g hg).trans h
end
def Row (w:World) (B:Nat) (A:Option Addr) (xs:List Value):Prop :=
 xs=[]∨∃ g off,A=some ⟨g,off,none⟩∧g<B∧∀ j u,xs[j]? = some u→w.cell? ⟨g,off+j,none⟩=some u
section
variable {w w':World} {B B':Nat} {A:Option Addr} {xs:List Value}
theorem Row.keep (h:Row w B A xs) (hk:∀ p:Addr,p.block<B→w'.cell? p=w.cell? p):Row w' B A xs:=by
 rcases h with h|⟨g,off,e,hb,hc⟩
 ·exact .inl h
 ·exact .inr ⟨g,off,e,hb,fun j u hu=>(hk _ hb).trans (hc j u hu)⟩
theorem Row.more (h:Row w B A xs) (hB:B≤B'):Row w B' A xs:=by
 rcases h with h|⟨g,off,e,hb,hc⟩
 ·exact .inl h
 ·exact .inr ⟨g,off,e,by omega,hc⟩
theorem Row.below (h:Row w B A xs) (hb:Below B w w'):Row w' B A xs:=h.keep fun _ hp=>hb.cell hp
theorem Row.drew (h:Row w B A xs):Row w.drew B A xs:=h
theorem Row.drewN (h:Row w B A xs) (k:Nat):Row (w.drewN k) B A xs:=h
theorem Row.alloc (h:Row w B A xs) (hB:B≤w.heap.size) (o:Obj):Row (w.alloc o) B A xs:=h.keep fun p hp=>World.cell?_alloc_lt w o p (by omega)
theorem Row.setCell (h:Row w B A xs) {p:Addr} (hB:B≤p.block) (u:Value):Row (w.setCell p u) B A xs :=
 h.keep fun q hq=>World.cell?_setCell_other w p q u (fun e=>by subst e; omega)
theorem Row.cut (h:Row w B A xs) {k cap:Nat} (hk:k≤xs.length) (hc:xs.length≤cap) :
  Row w B (if cap=k then A else A.map (·.add (k*1))) (xs.drop k):=by
 rcases Nat.lt_or_ge k xs.length with hlt|hge
 ·rcases h with h|⟨g,off,rfl,hb,hcell⟩
  ·subst h; simp at hlt
  ·rw[if_neg (by omega)]
   refine .inr ⟨g,off+k,?_,hb,fun j u hu => ?_⟩
   ·simp only[Option.map_some,Nat.mul_one,Addr.add]; split
    ·rename_i h0; subst h0; rfl
    ·rfl
   ·rw[List.getElem?_drop] at hu
    rw[Nat.add_assoc]; exact hcell _ u hu
 ·left; exact List.drop_eq_nil_of_le hge
theorem Row.take (h:Row w B A xs) (k:Nat):Row w B A (xs.take k):=by
 rcases h with h|⟨g,off,e,hb,hc⟩
 ·exact .inl (by simp[h])
 ·exact .inr ⟨g,off,e,hb,fun j u hu=>hc j u (by
   rw[List.getElem?_take] at hu; split at hu
   ·exact hu
   ·cases hu)⟩
theorem Row.place (h:Row w B A xs) (hx:0<xs.length):∃ g off,A=some ⟨g,off,none⟩∧g<B∧∀ j u,xs[j]? = some u→w.cell? ⟨g,off+j,none⟩=some u:=by
 rcases h with h|h
 ·subst h; simp at hx
 ·exact h
end
def bs (l:List UInt8):ByteArray:=⟨l.toArray⟩
@[go_sem] theorem bs_size (l:List UInt8):(bs l).size=l.length:=by simp[bs,ByteArray.size]
@[go_sem] theorem bs_toList (l:List UInt8):(bs l).toList=l:=ByteArray.toList_mk l
@[go_sem] theorem bs_append (a b:List UInt8):bs a++bs b=bs (a++b):=ByteArray.mk_append_mk a b
@[go_sem] theorem bs_extract (l:List UInt8) (a b:Nat):(bs l).extract a b=bs ((l.drop a).take (b-a)):=ByteArray.extract_mk l a b
@[go_sem] theorem bs_get (l:List UInt8) (i:Nat) (h:i<(bs l).size):(bs l)[i]'h=l[i]'(by simpa [bs_size] using h):=by
 simp[bs,ByteArray.getElem_eq_getElem_data]
theorem Zl0 {k:IntKind} {a b:Int} (h:a=b):Ending.returned (.int k a) = .returned (.int k b):=by rw[h]
theorem Wl {a b:Bool} (h:a=b):Ending.returned (.bool a) = .returned (.bool b):=by rw[h]
theorem Ji {B:Nat} {w w':World} (h:Below B w.drew w'):Below B w w':=⟨h.os,h.tape,h.output,h.size,h.block⟩
theorem ZJ {B:Nat} {a w:World} (h:Below B a w) (n:Nat):Below B a (w.drewN n):=⟨h.os,h.tape,h.output,h.size,h.block⟩
theorem Jj {W w1:World} (hb:Below W.heap.size W w1):(∀ b o,b<W.heap.size→w1.cell? ⟨b,o,none⟩=W.cell? ⟨b,o,none⟩)∧(∀ b o,b<W.heap.size→w1.frozen? ⟨b,o,none⟩=W.frozen? ⟨b,o,none⟩) :=
 ⟨fun b o h=>hb.cell (p:=⟨b,o,none⟩) h,fun b o h=>hb.frozen (p:=⟨b,o,none⟩) h⟩
theorem ZrF {P:Program} {f:FuncId} {args:Array Value} {w:World} {n:Nat} {v:Value}
  (h:Calls P f args (w.drewN n) fun e w'=>e = .returned v∧w.drewN n=w'):Calls P f args (w.drewN n) fun e w''=>e = .returned v∧∃ m,w''=w.drewN m :=
 h.mono fun _ _ ⟨he,hm⟩=>⟨he,n,hm.symm⟩
def Uy (x edge:Nat):Nat:=if x<edge then 1 else 0
theorem ZcI (x edge:Nat):Uy x edge≤1:=by unfold Uy; split<;>omega
def Zdj (b:Nat):Nat:=(b+3072)%4096
def Zin (e b c:Nat):Int:=((c/2^e/4096:Nat):Int)-(Uy (c/2^e%4096) (Zdj b):Nat)
def ofN (e b c x:Nat):Int:=((Zin e b c+(Uy x (Zdj b):Nat))*4096+x)*2^e
def Znw (e b t:Nat):Bool:=decide (e≤21)&&decide (b<4096)&&decide (t<4096)
def VG (e b t c:Nat):Int:=if Znw e b t then ofN e b c b else 0
def VX (e b t c:Nat):Int:=if Znw e b t then ofN e b c t else 0
def WE (e b t c:Nat):Bool:=Znw e b t&&decide (0≤VG e b t c)&&decide (VG e b t c≤VX e b t c)&&decide (VX e b t c≤4294967296)
theorem Znx {e b t:Nat} (h:Znw e b t=true):e≤21∧b<4096∧t<4096:=by
 simp only[Znw,Bool.and_eq_true,decide_eq_true_eq] at h; exact⟨h.1.1,h.1.2,h.2⟩
theorem Zl1 {e b t:Nat} (h1:e≤21) (h2:b<4096) (h3:t<4096):Znw e b t=true:=by simp[Znw,h1,h2,h3]
theorem Ko {e:Nat} (h:e≤21):2^e≤2097152:=by
 have:=Nat.pow_le_pow_right (n:=2) (by omega) h
 simpa using this
theorem XY (e:Nat):0<2^e:=Nat.pow_pos (by omega)
theorem ZtR {e b c:Nat} (hc:c<4294967296) : -1≤Zin e b c∧Zin e b c≤1048575:=by
 unfold Zin
 have h1:=ZcI (c/2^e%4096) (Zdj b)
 have h2:c/2^e≤c:=Nat.div_le_self _ _
 generalize c/2^e=q at h1 h2 ⊢
 have h3:q/4096≤1048575:=by omega
 omega
theorem ZrG {e:Nat} (he:e≤21) (y:Int) (h1 : -8589934592≤y) (h2:y≤8589934592) : -9223372036854775808≤y*2^e∧y*2^e≤9223372036854775807:=by
 have hp:=Ko he
 have h0:=XY e
 have e1:((2:Int)^e)=((2^e:Nat):Int):=by simp
 rw[e1]
 generalize 2^e=u at hp h0
 have a1:y*(u:Int)≤8589934592*(u:Int):=Int.mul_le_mul_of_nonneg_right h2 (by omega)
 have a2 : -8589934592*(u:Int)≤y*(u:Int):=Int.mul_le_mul_of_nonneg_right h1 (by omega)
 omega
theorem ZL4 {e b c x:Nat} (hc:c<4294967296) (hx:x<65536) : -8589934592≤(Zin e b c+(Uy x (Zdj b):Nat))*4096+x∧(Zin e b c+(Uy x (Zdj b):Nat))*4096+x≤8589934592:=by
 have h1:=ZcI x (Zdj b)
 have h2:=ZtR (e:=e) (b:=b) hc
 omega
def dnN (x e:Nat):Nat:=x/2^e*2^e
def upN (x e:Nat):Nat:=(x+(2^e-1))/2^e*2^e
def Uf (b t e:Nat):Bool:=decide (upN t e-dnN b e≤2048*2^e)
def XZ (b t:Nat):Nat→Nat→Nat
 | 0,e=>e
 | n+1,e=>if Uf b t e then e else XZ b t n (e+1)
def Qh (b t:Nat):Nat:=XZ b t 21 0
theorem Zny (x e:Nat):dnN x e≤x:=Nat.div_mul_le_self _ _
theorem ZoX (x e:Nat):x≤upN x e:=by
 unfold upN
 have h0:=XY e
 have h1:=Nat.div_add_mod (x+(2^e-1)) (2^e)
 have h2:=Nat.mod_lt (x+(2^e-1)) h0
 rw[Nat.mul_comm] at h1
 omega
theorem ZtS (x e:Nat):upN x e<x+2^e:=by
 unfold upN
 have h0:=XY e
 have h1:=Nat.div_mul_le_self (x+(2^e-1)) (2^e)
 omega
theorem Zl2 {x e k:Nat} (h:x≤k*2^e):upN x e≤k*2^e:=by
 unfold upN
 have h0:=XY e
 have:(x+(2^e-1))/2^e≤k:=by
  have h1:(x+(2^e-1))/2^e<k+1:=(Nat.div_lt_iff_lt_mul h0).2 (by rw[Nat.add_mul,Nat.one_mul]; omega)
  omega
 exact Nat.mul_le_mul_right _ this
theorem Zl3 {t e:Nat} (he:e≤21) (ht:t≤4294967296):upN t e≤4294967296:=by
 have hd:2^e*2^(32-e)=4294967296:=by rw[← Nat.pow_add,show e+(32-e)=32 by omega]
 have:=Zl2 (x:=t) (e:=e) (k:=2^(32-e)) (by rw[Nat.mul_comm,hd]; exact ht)
 rw[Nat.mul_comm,hd] at this
 exact this
theorem ZtT {b t:Nat} (ht:t≤4294967296):Uf b t 21=true:=by
 unfold Uf
 have:=Zl3 (e:=21) (by omega) ht
 simp only[decide_eq_true_eq]
 omega
theorem ZoY (b t:Nat):∀ n e,XZ b t n e≤e+n:=by
 intro n
 induction n with
 | zero=>intro e; exact Nat.le_refl _
 | succ n ih =>
  intro e
  unfold XZ
  split
  ·omega
  ·have:=ih (e+1); omega
theorem ZfN (b t:Nat):Qh b t≤21:=by
 have:=ZoY b t 21 0
 unfold Qh; omega
theorem ZwY (a e:Nat) (ha:a<18446744073709551616) (he:e≤64):a&&&(18446744073709551615-(2^e-1))=a/2^e*2^e:=by
 have h0:=XY e
 have h1:18446744073709551615-(2^e-1)=2^64-((2^e-1)+1):=by
  have:2^e≤2^64:=Nat.pow_le_pow_right (by omega) he
  omega
 rw[h1]
 apply Nat.eq_of_testBit_eq
 intro i
 have h2:2^e≤2^64:=Nat.pow_le_pow_right (by omega) he
 rw[Nat.testBit_and,Nat.testBit_two_pow_sub_succ (by omega),Nat.testBit_two_pow_sub_one,Nat.testBit_mul_two_pow,Nat.testBit_div_two_pow]
 by_cases hi:e≤i
 ·rw[Nat.sub_add_cancel hi]
  have e1:decide (i<e)=false:=by simp; omega
  have e2:decide (e≤i)=true:=by simpa using hi
  rw[e1,e2]
  by_cases h64:i<64
  ·have e3:decide (i<64)=true:=by simpa using h64
   rw[e3]; simp
  ·have:a.testBit i=false:=Nat.testBit_lt_two_pow (Nat.lt_of_lt_of_le ha (Nat.pow_le_pow_right (n:=2) (by omega) (show 64≤i by omega)))
   rw[this]; simp
 ·have e1:decide (i<e)=true:=by simp; omega
  have e2:decide (e≤i)=false:=by simpa using hi
  rw[e1,e2]; simp
theorem ZtU (b:Nat) (_hb:b<4096):bits .and .u16 (u16.wrap ((b:Int)-1024)) 4095=((Zdj b:Nat):Int):=by
 have e:u16.wrap ((b:Int)-1024)=(((b+64512)%65536:Nat):Int):=by rw[IntKind.wrap_u16]; omega
 rw[e]
 have:=u16_and_nat ((b+64512)%65536) 4095 (by omega) (by omega)
 rw[nat_mask12] at this
 rw[show((4095:Int))=((4095:Nat):Int) from rfl,this]
 unfold Zdj; omega
theorem ZwZ (q:Nat) (hq:q<4294967296):bits .and .i64 (q:Int) 4095=((q%4096:Nat):Int):=by
 have h1:(BitVec.ofInt 64 (q:Int)).toNat=q:=by
  rw[BitVec.ofInt_natCast,BitVec.toNat_ofNat]; exact Nat.mod_eq_of_lt (by omega)
 show i64.wrap ((BitVec.ofInt 64 (q:Int)&&&BitVec.ofInt 64 (4095:Int)).toNat:Int)=_
 rw[BitVec.toNat_and,h1,show(BitVec.ofInt 64 (4095:Int)).toNat=4095 from rfl,nat_mask12,IntKind.wrap_i64]
 omega
theorem Zw0 {e:Nat} (he:e≤21):u64.wrap (u64.wrap ((2:Int)^e)-1)=((2^e-1:Nat):Int):=by
 have hp:=Ko he
 have h0:=XY e
 have e1:((2:Int)^e)=((2^e:Nat):Int):=by simp
 rw[e1,IntKind.wrap_u64,IntKind.wrap_u64]
 generalize 2^e=u at hp h0
 omega
theorem Znz (x e:Nat) (hx:x<18446744073709551616) (he:e≤21):bits .andNot .u64 (x:Int) ((2^e-1:Nat):Int)=((x/2^e*2^e:Nat):Int):=by
 have hp:=Ko he
 rw[u64_andNot_nat x (2^e-1) hx (by omega),ZwY x e hx (by omega)]
theorem ZkJ (x:Nat) (hx:x<18446744073709551616):bits .and .u64 (x:Int) 4095=((x%4096:Nat):Int):=by
 have:=u64_and_nat x 4095 hx (by omega)
 rw[nat_mask12] at this
 exact this
theorem ZAs (b e:Nat):dnN b e/2^e=b/2^e:=by
 unfold dnN; exact Nat.mul_div_cancel _ (XY e)
def QI (b t:Nat):Bool:=decide (b≤t)&&decide (t≤4294967296)
theorem ZtV {k k':IntKind} {a b c d:Int} (h:a=b) (h':c=d):Ending.returned (.tuple #[.int k a,.int k' c]) = .returned (.tuple #[.int k b,.int k' d]):=by rw[h,h']
theorem Zqs (x edge:Nat) (a:Addr) (w:World) (hc:w.cell? a=some (.int .u16 edge)) :
  Calls Tryz.prog 185 #[.int .u16 x,.pointer (some a)] w fun e w'=>e = .returned (.int .i64 (Uy x edge:Nat))∧w=w':=by
 by_cases h:(x:Int)<edge
 ·have e:Uy x edge=1:=by unfold Uy; rw[if_pos (by omega)]
  rw[e]
  go_enter Tryz.func185,Tryz.ntmps185
  go_wp2
  go_ret
  exact⟨rfl,rfl⟩
 ·have e:Uy x edge=0:=by unfold Uy; rw[if_neg (by omega)]
  rw[e]
  go_enter Tryz.func185,Tryz.ntmps185
  go_wp2
  go_ret
  exact⟨rfl,rfl⟩
theorem ZtW (x edge:Int) (w:World) :
  Calls Tryz.prog 190 #[.int .i64 x,.int .i64 edge] w fun e w'=>e = .returned (.int .i64 (if x<edge then 1 else 0))∧w=w':=by
 by_cases h:x<edge
 ·rw[if_pos h]
  go_enter Tryz.func190,Tryz.ntmps190
  go_wp2
  go_ret
  exact⟨rfl,rfl⟩
 ·rw[if_neg h]
  go_enter Tryz.func190,Tryz.ntmps190
  go_wp2
  go_ret
  exact⟨rfl,rfl⟩
theorem ZAt (x b e c:Nat) (high r:Int) (edge:Nat) (hr:ofN e b c x=r) (hi:Zin e b c=high) (hed:Zdj b=edge) (ah at_ ae ed:Addr) (w:World) (hx:x<65536) (he:e≤21) (hc:c<4294967296)
  (h1:w.cell? ah=some (.int .i64 high)) (h2:w.cell? at_=some (.func (.func 185) #[] #[.pointer (some ed)])) (h3:w.cell? ae=some (.int .u8 e)) (h4:w.cell? ed=some (.int .u16 edge)) :
  Calls Tryz.prog 186 #[.int .u16 x,.pointer (some ah),.pointer (some at_),.pointer (some ae)] w fun e' w'=>e' = .returned (.int .i64 r)∧∃ m,w'=w.drewN m:=by
 have hh:=ZtR (e:=e) (b:=b) hc
 have ho:=ZL4 (e:=e) (b:=b) (x:=x) hc hx
 have ht:=ZcI x (Zdj b)
 have hw:=ZrG he _ ho.1 ho.2
 have HO:Hid (wrap64 (((Zin e b c+(Uy x (Zdj b):Nat))*4096+x)*2^e)=r):=by
  show _=_
  rw[IntWalk.wrap64_in _ hw]; exact hr
 rw[hed] at ho ht HO
 rw[hi] at hh ho HO
 clear hw hed hi hr
 have ht2:(0:Int)≤(Uy x edge:Nat)∧((Uy x edge:Nat):Int)≤1:=by omega
 go_enter Tryz.func186,Tryz.ntmps186
 go_wp2_with fail
 go_quiet ((go_at_call 185; refine ZrF (Zqs x edge _ _ ?_); exact h4))
 go_wp2
 go_ret
 exact⟨Zl0 HO.out,_,rfl⟩
theorem ZBR (e b t c:Nat) (w:World) (h:Znw e b t=false) (hb:b<65536) (ht:t<65536) (he:e<256) :
  Calls Tryz.prog 173 #[.int .u8 e,.int .u16 b,.int .u16 t,.int .u32 c] w fun e' w'=>e' = .returned (.tuple #[.agg #[.int .i64 0,.int .i64 0],.bool false])∧Below w.heap.size w w':=by
 have hcase:(21:Int)<e∨((e:Int)≤21∧(4095:Int)<b)∨((e:Int)≤21∧(b:Int)≤4095∧(4095:Int)<t):=by
  by_cases h1:e≤21
  ·by_cases h2:b<4096
   ·by_cases h3:t<4096
    ·rw[Zl1 h1 h2 h3] at h; cases h
    ·omega
   ·omega
  ·omega
 have H:=Qo h; clear h
 rcases hcase with h1|⟨h1,h2⟩|⟨h1,h2,h3⟩
 ·go_enter Tryz.func173,Tryz.ntmps173
  go_wp2
  refine bodyPost_ret (v:=.tuple #[.agg #[.int .i64 0,.int .i64 0],.bool false]) (by simp[results,Tryz.results173,go_sem]<;>rfl) rfl ⟨rfl,?_⟩
  (repeat (first|exact Below.refl _ _|refine Below.drew ?_|refine ZJ ?_ _|refine Below.alloc ?_ (by simp<;>omega) _|refine Below.setCell ?_ (by simp<;>omega) _))
 ·have d1:decide ((21:Int)<e)=false:=by simp; omega
  go_enter Tryz.func173,Tryz.ntmps173
  go_wp2
  refine bodyPost_ret (v:=.tuple #[.agg #[.int .i64 0,.int .i64 0],.bool false]) (by simp[results,Tryz.results173,go_sem]<;>rfl) rfl ⟨rfl,?_⟩
  (repeat (first|exact Below.refl _ _|refine Below.drew ?_|refine ZJ ?_ _|refine Below.alloc ?_ (by simp<;>omega) _|refine Below.setCell ?_ (by simp<;>omega) _))
 ·have d1:decide ((21:Int)<e)=false:=by simp; omega
  have d2:decide ((4095:Int)<b)=false:=by simp; omega
  go_enter Tryz.func173,Tryz.ntmps173
  go_wp2
  refine bodyPost_ret (v:=.tuple #[.agg #[.int .i64 0,.int .i64 0],.bool false]) (by simp[results,Tryz.results173,go_sem]<;>rfl) rfl ⟨rfl,?_⟩
  (repeat (first|exact Below.refl _ _|refine Below.drew ?_|refine ZJ ?_ _|refine Below.alloc ?_ (by simp<;>omega) _|refine Below.setCell ?_ (by simp<;>omega) _))
set_option maxHeartbeats 1000000 in
theorem Zw1 (e b t c:Nat) (w:World) (he:e≤21) (hb:b<4096) (ht0:t<4096) (hc:c<4294967296) :
  Calls Tryz.prog 173 #[.int .u8 e,.int .u16 b,.int .u16 t,.int .u32 c] w fun e' w'=>e' = .returned (.tuple #[.agg #[.int .i64 (VG e b t c),.int .i64 (VX e b t c)],.bool (WE e b t c)])∧Below w.heap.size w w':=by
 obtain⟨B,hB⟩:∃ B,ofN e b c b=B:=⟨_,rfl⟩
 obtain⟨T,hT⟩:∃ T,ofN e b c t=T:=⟨_,rfl⟩
 have hmay:=Zl1 he hb ht0
 have hok:WE e b t c=(decide (0≤B)&&decide (B≤T)&&decide (T≤4294967296)):=by
  unfold WE VG VX
  rw[hmay,if_pos rfl,if_pos rfl,hB,hT]; rfl
 have hB2:VG e b t c=B:=by unfold VG; rw[if_pos hmay,hB]
 have hT2:VX e b t c=T:=by unfold VX; rw[if_pos hmay,hT]
 rw[hok,hB2,hT2]
 clear hmay hok hB2 hT2
 have HB:=Qo hB; clear hB
 have HT:=Qo hT; clear hT
 have d1:decide ((21:Int)<e)=false:=by simp; omega
 have d2:decide ((4095:Int)<b)=false:=by simp; omega
 have d3:decide ((4095:Int)<t)=false:=by simp; omega
 obtain⟨q,hq⟩:∃ q,c/2^e=q:=⟨_,rfl⟩
 have hql:q<4294967296:=by rw[← hq]; exact Nat.lt_of_le_of_lt (Nat.div_le_self _ _) hc
 have hqi:(c:Int)/2^e=(q:Int):=by rw[← hq]; simp
 have hmb:=ZwZ q hql
 obtain⟨m,hm⟩:∃ m,q%4096=m:=⟨_,rfl⟩
 have hml:m<4096:=by omega
 have heb:=ZtU b hb
 obtain⟨edge,hed⟩:∃ k,Zdj b=k:=⟨_,rfl⟩
 have hel:edge<4096:=by rw[← hed]; unfold Zdj; omega
 have ht:=ZcI m edge
 have HH:Hid (Zin e b c=(q:Int)/4096-(Uy m edge:Nat)):=by
  show _=_
  unfold Zin; rw[hq,hm,hed]; omega
 rw[hm] at hmb
 rw[hed] at heb
 have HQ:=Qo hq; clear hq
 have HM:=Qo hm; clear hm
 have HE:=Qo hed; clear hed
 have ht2:(0:Int)≤(Uy m edge:Nat)∧((Uy m edge:Nat):Int)≤1:=by omega
 go_enter Tryz.func173,Tryz.ntmps173
 go_wp2_with fail
 refine(Zqs m edge _ _ (by simp[go_sem])).mono ?_
 rintro e' w' ⟨rfl,rfl⟩
 go_wp2_with fail
 refine(ZAt b b e c _ B edge HB.out HH.out HE.out _ _ _ ⟨w.heap.size+1+1,0,none⟩ _ (by omega) he hc ?_ ?_ ?_ ?_).mono ?_
 ·simp[go_sem]
 ·simp[go_sem]
 ·simp[go_sem]
 ·simp[go_sem]
 rintro e' w' ⟨rfl,m1,rfl⟩
 go_wp2_with fail
 refine(ZAt t b e c _ T edge HT.out HH.out HE.out _ _ _ ⟨w.heap.size+1+1,0,none⟩ _ (by omega) he hc ?_ ?_ ?_ ?_).mono ?_
 ·simp[go_sem]
 ·simp[go_sem]
 ·simp[go_sem]
 ·simp[go_sem]
 rintro e' w' ⟨rfl,m2,rfl⟩
 go_wp2_with fail
 by_cases c1:0≤B
 ·by_cases c2:B≤T
  ·go_region
   go_wp2
   refine bodyPost_ret (v:=.tuple #[.agg #[.int .i64 B,.int .i64 T],.bool (decide (T≤4294967296))]) (by simp[results,Tryz.results173,go_sem]<;>rfl) rfl ⟨?_,?_⟩
   ·simp[c1,c2]
   ·(repeat (first|exact Below.refl _ _|refine Below.drew ?_|refine ZJ ?_ _|refine Below.alloc ?_ (by simp<;>omega) _|refine Below.setCell ?_ (by simp<;>omega) _))
  ·have d4:decide (B≤T)=false:=by simpa using c2
   go_region
   go_wp2
   refine bodyPost_ret (v:=.tuple #[.agg #[.int .i64 B,.int .i64 T],.bool false]) (by simp[results,Tryz.results173,go_sem]<;>rfl) rfl ⟨?_,?_⟩
   ·simp
   ·(repeat (first|exact Below.refl _ _|refine Below.drew ?_|refine ZJ ?_ _|refine Below.alloc ?_ (by simp<;>omega) _|refine Below.setCell ?_ (by simp<;>omega) _))
 ·have d4:decide (0≤B)=false:=by simpa using c1
  go_region
  go_wp2
  refine bodyPost_ret (v:=.tuple #[.agg #[.int .i64 B,.int .i64 T],.bool false]) (by simp[results,Tryz.results173,go_sem]<;>rfl) rfl ⟨?_,?_⟩
  ·simp
  ·(repeat (first|exact Below.refl _ _|refine Below.drew ?_|refine ZJ ?_ _|refine Below.alloc ?_ (by simp<;>omega) _|refine Below.setCell ?_ (by simp<;>omega) _))
theorem Zl4 (e b t c:Nat) (w:World) (he:e<256) (hb:b<65536) (ht:t<65536) (hc:c<4294967296) :
  Calls Tryz.prog 173 #[.int .u8 e,.int .u16 b,.int .u16 t,.int .u32 c] w fun e' w'=>e' = .returned (.tuple #[.agg #[.int .i64 (VG e b t c),.int .i64 (VX e b t c)],.bool (WE e b t c)])∧Below w.heap.size w w':=by
 by_cases h:Znw e b t=true
 ·obtain⟨h1,h2,h3⟩:=Znx h
  exact Zw1 e b t c w h1 h2 h3 hc
 ·have h':Znw e b t=false:=by simpa using h
  have e1:VG e b t c=0:=by unfold VG; rw[if_neg h]
  have e2:VX e b t c=0:=by unfold VX; rw[if_neg h]
  have e3:WE e b t c=false:=by unfold WE; rw[h']; rfl
  rw[e1,e2,e3]
  exact ZBR e b t c w h' hb ht he
theorem ZnA {a b c d:Value} {x y:Bool} (h:x=y):Ending.returned (.tuple #[a,b,c,.bool x,d]) = .returned (.tuple #[a,b,c,.bool y,d]):=by rw[h]
theorem Zqt (u t:Nat):((u:Int)==(t:Int))=decide (u=t):=by
 rw[Bool.eq_iff_iff]; simp; omega
theorem VH {fn:Func} {t u v x y:Tmp} (h:fn.results = #[.tmp t,.tmp u,.tmp v,.tmp x,.tmp y]) (tmps:Array Value) (P:Program) (w:World) :
  (results fn tmps).run P w = .ok (.tuple #[tmps.getD t undef,tmps.getD u undef,tmps.getD v undef,tmps.getD x undef,tmps.getD y undef]) w:=by simp[results,h]
theorem ZfO (b t e:Nat) (w:World) (hb:b<4294967296) (ht:t≤4294967296) (he:e≤21) :
  Calls Tryz.prog 128 #[.int .u32 b,.int .u64 t,.int .i64 e] w fun e' w'=>e' = .returned (.tuple #[.int .u64 (dnN b e),.int .u64 (upN t e)])∧w=w':=by
 have hp:=Ko he
 have h0:=XY e
 have hlw:=Zw0 he
 have a1:=Znz b e (by omega) he
 have a2:=Znz (t+(2^e-1)) e (by omega) he
 obtain⟨lo,hlo⟩:∃ lo,2^e-1=lo:=⟨_,rfl⟩
 have hlb:lo≤2097151:=by omega
 unfold dnN upN
 rw[hlo] at hlw a1 a2 ⊢
 have A1:=Qo a1
 have A2:=Qo a2
 clear a1 a2 hlo hp h0
 go_enter Tryz.func128,Tryz.ntmps128
 go_wp2
 go_ret2
 exact⟨ZtV A1.out A2.out,rfl⟩
theorem Zqu (b t:Nat) (w:World) (hb:b<4294967296) (ht:t<18446744073709551616) (h:QI b t=false) :
  Calls Tryz.prog 126 #[.int .u32 b,.int .u64 t] w fun e' w'=>e' = .returned (.bool false)∧w=w':=by
 have hcase:(t:Int)<b∨((b:Int)≤t∧(4294967296:Int)<t):=by
  simp only[QI,Bool.and_eq_false_iff,decide_eq_false_iff_not] at h; omega
 rcases hcase with h1|⟨h1,h2⟩
 ·have d1:decide ((b:Int)≤t)=false:=by simp; omega
  go_enter Tryz.func126,Tryz.ntmps126
  go_wp2
  go_ret
  exact⟨rfl,rfl⟩
 ·have d1:decide ((t:Int)≤4294967296)=false:=by simp; omega
  go_enter Tryz.func126,Tryz.ntmps126
  go_wp2
  go_ret
  exact⟨rfl,rfl⟩
theorem Zjm (b t:Nat) (w:World) (h1:b≤t) (h2:t≤4294967296) :
  Calls Tryz.prog 126 #[.int .u32 b,.int .u64 t] w fun e' w'=>e' = .returned (.bool true)∧w=w':=by
 have d1:(b:Int)≤t:=by omega
 have d2:(t:Int)≤4294967296:=by omega
 have d3:decide ((t:Int)≤4294967296)=true:=by simpa using d2
 go_enter Tryz.func126,Tryz.ntmps126
 go_wp2
 go_ret
 exact⟨by first|rfl|simp[d2],rfl⟩
theorem ZhL (b t:Nat) (w:World) (hb:b<4294967296) (hbt:b≤t) (ht:t≤4294967296) :
  Calls Tryz.prog 127 #[.int .u32 b,.int .u64 t] w fun e' w'=>e' = .returned (.int .i64 (Qh b t))∧w=w':=by
 go_enter Tryz.func127,Tryz.ntmps127
 go_wp2
 go_loop [8] (fun i=>∃ k:Nat,k≤21∧i = .int .i64 k∧Hid (Qh b t=XZ b t (21-k) k)) (fun i=>(21-intOf i).toNat)
 case atStart=>exact⟨0,by omega,rfl,rfl⟩
 case round =>
  obtain⟨k,hk,rfl,HE⟩:=hrel
  by_cases h0:k<21
  ·have hd1:=Zny b k
   have hd2:=ZoX t k
   have hd3:=ZtS t k
   have hp:=Ko hk
   have hle:dnN b k≤upN t k:=by omega
   have hul:upN t k≤4294967296+2097152:=by omega
   have hpw:u64.wrap ((2048:Int)*2^k)=((2048*2^k:Nat):Int):=by
    rw[IntKind.wrap_u64,show((2:Int)^k)=((2^k:Nat):Int) by simp]; omega
   obtain⟨p,hpp⟩:∃ p,2048*2^k=p:=⟨_,rfl⟩
   obtain⟨d,hd⟩:∃ d,dnN b k=d:=⟨_,rfl⟩
   obtain⟨u,hu⟩:∃ u,upN t k=u:=⟨_,rfl⟩
   have hra:=fun W=>ZfO b t k W hb ht hk
   have HF:Hid (Uf b t k=decide (u-d≤p)):=by show _=_; unfold Uf; rw[hpp,hd,hu]
   rw[hd,hu] at hra hle
   rw[hu] at hul
   rw[hpp] at hpw
   have HRA:=Qo hra
   clear hra hpp hd hu hd1 hd2 hd3 hp
   by_cases hf:(u:Int)-d≤p
   ·go_wp2_with (go_at_call 128; refine(HRA.out _).mono ?_; rintro e' w' ⟨rfl,rfl⟩)
    go_ret
    refine⟨Zl0 ?_,rfl⟩
    have hft:Uf b t k=true:=by rw[HF.out]; simp; omega
    rw[HE.out,show 21-k=(20-k)+1 by omega,XZ,if_pos hft]
   ·go_wp2_with (go_at_call 128; refine(HRA.out _).mono ?_; rintro e' w' ⟨rfl,rfl⟩)
    have hft:Uf b t k=false:=by rw[HF.out]; simp; omega
    have HT:Hid (Qh b t=XZ b t (21-(k+1)) (k+1)):=by
     show _=_
     rw[HE.out,show 21-k=(21-(k+1))+1 by omega,XZ,hft]; rfl
    go_round
    case rel=>exact⟨k+1,by omega,by go_num,HT⟩
    case measure=>simp[intOf]; omega
  ·go_wp2
   go_ret
   obtain rfl:k=21:=by omega
   exact⟨Zl0 (by rw[HE.out]; rfl),rfl⟩
def ZdL (b t:Nat):Nat:=if QI b t then Qh b t else 0
def ZeL (b t:Nat):Nat:=if QI b t then b/2^Qh b t%4096 else 0
def ZeM (b t:Nat):Nat:=if QI b t then upN t (Qh b t)/2^Qh b t%4096 else 0
def ZhM (b t:Nat):Bool:=QI b t&&decide (dnN b (Qh b t)=b)&&decide (upN t (Qh b t)=t)
theorem Zap {b t:Nat} (h:QI b t=true):b≤t∧t≤4294967296:=by
 simpa [QI] using h
theorem Zhl (b t:Nat) (w:World) (hb:b<4294967296) (ht:t<18446744073709551616) :
  Calls Tryz.prog 69 #[.int .u32 b,.int .u64 t] w fun e' w'=>e' = .returned (.tuple #[.int .u8 (ZdL b t),.int .u16 (ZeL b t),.int .u16 (ZeM b t),.bool (ZhM b t),.bool (QI b t)])∧∃ m,w'=w.drewN m:=by
 by_cases hr:QI b t=true
 ·obtain⟨h1,h2⟩:=Zap hr
  unfold ZdL ZeL ZeM ZhM
  rw[hr,if_pos rfl,if_pos rfl,if_pos rfl]
  have hex:=fun W=>ZhL b t W hb h1 h2
  have hk:=ZfN b t
  have hra:=fun W=>ZfO b t (Qh b t) W hb h2 hk
  obtain⟨k,hkk⟩:∃ k,Qh b t=k:=⟨_,rfl⟩
  rw[hkk] at hk hex hra ⊢
  have hd1:=Zny b k
  have hd3:=ZtS t k
  have hp:=Ko hk
  obtain⟨x,hx⟩:∃ x,b/2^k=x:=⟨_,rfl⟩
  have hdx:=ZAs b k
  rw[hx] at hdx ⊢
  obtain⟨d,hd⟩:∃ d,dnN b k=d:=⟨_,rfl⟩
  obtain⟨u,hu⟩:∃ u,upN t k=u:=⟨_,rfl⟩
  rw[hd] at hdx hd1 hra ⊢
  rw[hu] at hd3 hra ⊢
  obtain⟨y,hy⟩:∃ y,u/2^k=y:=⟨_,rfl⟩
  rw[hy]
  have hxl:x<4294967296:=by rw[← hx]; exact Nat.lt_of_le_of_lt (Nat.div_le_self _ _) hb
  have hyl:y≤4297064448:=by rw[← hy]; exact Nat.le_trans (Nat.div_le_self _ _) (by omega)
  have i1:(d:Int)/2^k=(x:Int):=by rw[← hdx]; simp
  have i2:(u:Int)/2^k=(y:Int):=by rw[← hy]; simp
  have i3:=ZkJ x (by omega)
  have i4:=ZkJ y (by omega)
  obtain⟨xm,hxm⟩:∃ m,x%4096=m:=⟨_,rfl⟩
  obtain⟨ym,hym⟩:∃ m,y%4096=m:=⟨_,rfl⟩
  have hxml:xm<4096:=by omega
  have hyml:ym<4096:=by omega
  rw[hxm] at i3 ⊢
  rw[hym] at i4 ⊢
  have HX:=Qo hex
  have HRA:=Qo hra
  clear hkk hx hdx hd hu hy hxl hyl hxm hym hp hd1 hd3 hex hra hr
  by_cases c1:d=b
  ·have d1:((d:Int)==b)=true:=by rw[c1]; simp
   have C1:=Qo c1
   clear c1
   go_enter Tryz.func69,Tryz.ntmps69
   go_wp2_with (first
    | (go_at_call 126; refine(Zjm b t _ h1 h2).mono ?_; rintro e' w' ⟨rfl,rfl⟩)
    | (go_at_call 127; refine(HX.out _).mono ?_; rintro e' w' ⟨rfl,rfl⟩)
    | (go_at_call 128; refine(HRA.out _).mono ?_; rintro e' w' ⟨rfl,rfl⟩))
   go_quiet (fail)
   go_wp2
   refine bodyPost_ret (VH rfl _ _ _) rfl ⟨?_,_,rfl⟩
   have c:=C1.out
   simp only[c,decide_true,Bool.true_and]
   exact ZnA (Zqt u t)
  ·have d1:((d:Int)==b)=false:=by simp; omega
   have C1:=Qo c1
   clear c1
   go_enter Tryz.func69,Tryz.ntmps69
   go_wp2_with (first
    | (go_at_call 126; refine(Zjm b t _ h1 h2).mono ?_; rintro e' w' ⟨rfl,rfl⟩)
    | (go_at_call 127; refine(HX.out _).mono ?_; rintro e' w' ⟨rfl,rfl⟩)
    | (go_at_call 128; refine(HRA.out _).mono ?_; rintro e' w' ⟨rfl,rfl⟩))
   go_quiet (fail)
   go_wp2
   refine bodyPost_ret (VH rfl _ _ _) rfl ⟨?_,_,rfl⟩
   have c:=C1.out
   simp only[c,decide_false,Bool.and_false,Bool.false_and]
   rfl
 ·have hr':QI b t=false:=by simpa using hr
  unfold ZdL ZeL ZeM ZhM
  rw[hr',if_neg (by simp),if_neg (by simp),if_neg (by simp)]
  have HR:=Qo hr'
  clear hr hr'
  go_enter Tryz.func69,Tryz.ntmps69
  go_wp2_with (go_at_call 126; refine(Zqu b t _ hb ht HR.out).mono ?_; rintro e' w' ⟨rfl,rfl⟩)
  refine bodyPost_ret (VH rfl _ _ _) rfl ⟨rfl,0,rfl⟩
theorem ZtX (b t:Nat) (w:World) (hb:b<4294967296) (ht:t<18446744073709551616) :
  Calls Tryz.prog 176 #[.int .u32 b,.int .u64 t] w fun e' w'=>e' = .returned (.tuple #[.int .u32 (if QI b t then dnN b (Qh b t) else 0:Nat),.int .u64 (if QI b t then upN t (Qh b t) else 0:Nat),.bool (QI b t)])∧w=w':=by
 by_cases hr:QI b t=true
 ·obtain⟨h1,h2⟩:=Zap hr
  rw[hr,if_pos rfl,if_pos rfl]
  have hex:=fun W=>ZhL b t W hb h1 h2
  have hk:=ZfN b t
  have hra:=fun W=>ZfO b t (Qh b t) W hb h2 hk
  obtain⟨k,hkk⟩:∃ k,Qh b t=k:=⟨_,rfl⟩
  rw[hkk] at hk hex hra ⊢
  have hd1:=Zny b k
  obtain⟨d,hd⟩:∃ d,dnN b k=d:=⟨_,rfl⟩
  obtain⟨u,hu⟩:∃ u,upN t k=u:=⟨_,rfl⟩
  rw[hd] at hd1 hra ⊢
  rw[hu] at hra ⊢
  have HX:=Qo hex
  have HRA:=Qo hra
  clear hkk hd hu hex hra hr
  go_enter Tryz.func176,Tryz.ntmps176
  go_wp2_with (first
    | (go_at_call 126; refine(Zjm b t _ h1 h2).mono ?_; rintro e' w' ⟨rfl,rfl⟩)
    | (go_at_call 127; refine(HX.out _).mono ?_; rintro e' w' ⟨rfl,rfl⟩)
    | (go_at_call 128; refine(HRA.out _).mono ?_; rintro e' w' ⟨rfl,rfl⟩))
  go_ret3
  exact⟨rfl,rfl⟩
 ·have hr':QI b t=false:=by simpa using hr
  rw[hr',if_neg (by simp),if_neg (by simp)]
  have HR:=Qo hr'
  clear hr hr'
  go_enter Tryz.func176,Tryz.ntmps176
  go_wp2_with (go_at_call 126; refine(Zqu b t _ hb ht HR.out).mono ?_; rintro e' w' ⟨rfl,rfl⟩)
  go_ret3
  exact⟨rfl,rfl⟩
theorem Zio {P:Program} (d:Nat) (t e:TypeId) (i:TypeInfo) (k k':IntKind) (ht:P.underlying t=some (.array 2 e)) (he:P.underlying e=some (.int k')) (hi:P.info? e=some i) (hsz:i.size=1) (a b c f:Int) (w:World) :
  (Op.equalIn (d+2) t (.agg #[.int k a,.int k b]) (.agg #[.int k c,.int k f])).run P w = .ok (a==c&&b==f) w:=by
 have hp1:∀ (x y:Value) W,(part e #[x,y] 0).run P W = .ok x W:=fun x y W=>by simp[part,isAgg,run_underlying he]
 have hp2:∀ (x y:Value) W,(part e #[x,y] 1).run P W = .ok y W:=fun x y W=>by simp[part,isAgg,run_underlying he]
 have he2:∀ (x y:Int) W,(Op.equalIn (d+1) e (.int k x) (.int k y)).run P W = .ok (x==y) W:=fun x y W=>run_equalIn_int W d e k k' x y he
 unfold Op.equalIn
 simp only[Sem.run_bind,run_underlying ht,Result.andThen_ok,sizeOf,typeInfo,Std.Legacy.Range.forIn_eq_forIn_range',Std.Legacy.Range.size]
 simp[hi,hsz,List.range',hp1,hp2,he2]
 by_cases h1:a=c<;>by_cases h2:b=f<;>simp[h1,h2]
theorem Zw2:(Tryz.prog.info? 2).map (fun i=>(i.zero,i.size,i.bytes))=some (some (.int .i64 0),1,8):=by kernel_rfl
def Vg (e b t c:Nat):Nat×Nat:=if WE e b t c=true∧VG e b t c≠4294967296 then((VG e b t c).toNat,(VX e b t c).toNat) else(0,0)
def ZbT (e b t c n:Nat):Bool:=WE e b t c&&decide (VG e b t c=VG e b t n)&&decide (VX e b t c=VX e b t n)
theorem ZfP {e b t c:Nat} (h:WE e b t c=true):0≤VG e b t c∧VG e b t c≤VX e b t c∧VX e b t c≤4294967296:=by
 simp only[WE,Bool.and_eq_true,decide_eq_true_eq] at h
 exact⟨h.1.1.2,h.1.2,h.2⟩
theorem ZrH (e b t c:Nat) (w:World) (he:e<256) (hb:b<65536) (ht:t<65536) (hc:c<4294967296) :
  Calls Tryz.prog 152 #[.int .u8 e,.int .u16 b,.int .u16 t,.int .u32 c] w fun e' w'=>e' = .returned (.tuple #[.int .u32 (Vg e b t c).1,.int .u64 (Vg e b t c).2])∧Below w.heap.size w w':=by
 have hta:=fun W=>Zl4 e b t c W he hb ht hc
 by_cases h1:WE e b t c=true
 ·obtain⟨k0,k1,k2⟩:=ZfP h1
  obtain⟨B,hB⟩:∃ B:Nat,VG e b t c=B:=⟨(VG e b t c).toNat,by omega⟩
  obtain⟨T,hT⟩:∃ T:Nat,VX e b t c=T:=⟨(VX e b t c).toNat,by omega⟩
  simp only[h1,hB,hT] at hta
  rw[hB,hT] at k1
  rw[hT] at k2
  by_cases h2:(B:Int)=4294967296
  ·have hd:Vg e b t c=(0,0):=by unfold Vg; rw[if_neg (by rw[hB]; exact fun h=>h.2 h2)]
   rw[hd]
   have h3:((B:Int)==4294967296)=true:=by simpa using h2
   have HTA:=Qo hta
   clear hta h2 k0 k1 k2 h1 hB hT hd
   go_enter Tryz.func152,Tryz.ntmps152
   go_wp2_with (go_at_call 173; refine(HTA.out _).mono ?_; rintro e' w1 ⟨rfl,hb1⟩; have HB1:=Qo hb1; clear hb1)
   go_ret2
   exact⟨rfl,HB1.out.alloc HB1.out.size _⟩
  ·have hd:Vg e b t c=(B,T):=by unfold Vg; rw[if_pos ⟨h1,by rw[hB]; exact h2⟩,hB,hT]; rfl
   rw[hd]
   have h3:((B:Int)==4294967296)=false:=by simpa using h2
   have HTA:=Qo hta
   have k3:(B:Int)<4294967296:=by omega
   clear hta h2 h1 hB hT hd
   go_enter Tryz.func152,Tryz.ntmps152
   go_wp2_with (go_at_call 173; refine(HTA.out _).mono ?_; rintro e' w1 ⟨rfl,hb1⟩; have HB1:=Qo hb1; clear hb1)
   go_quiet (fail)
   go_wp2
   go_ret2
   exact⟨rfl,ZJ (HB1.out.alloc HB1.out.size _) _⟩
 ·have h1':WE e b t c=false:=by simpa using h1
  have hd:Vg e b t c=(0,0):=by unfold Vg; rw[if_neg (fun h=>h1 h.1)]
  rw[hd]
  simp only[h1'] at hta
  have HTA:=Qo hta
  clear hta h1 h1' hd
  go_enter Tryz.func152,Tryz.ntmps152
  go_wp2_with (go_at_call 173; refine(HTA.out _).mono ?_; rintro e' w1 ⟨rfl,hb1⟩; have HB1:=Qo hb1; clear hb1)
  go_ret2
  exact⟨rfl,HB1.out.alloc HB1.out.size _⟩
theorem ZtY (e b t c n:Nat) (w:World) (he:e<256) (hb:b<65536) (ht:t<65536) (hc:c<4294967296) (hn:n<4294967296) :
  Calls Tryz.prog 135 #[.int .u8 e,.int .u16 b,.int .u16 t,.int .u32 c,.int .u32 n] w fun e' w'=>e' = .returned (.bool (ZbT e b t c n))∧Below w.heap.size w w':=by
 have hta:=fun W=>Zl4 e b t c W he hb ht hc
 have htb:=fun W=>Zl4 e b t n W he hb ht hn
 unfold ZbT
 obtain⟨B,hB⟩:∃ B,VG e b t c=B:=⟨_,rfl⟩
 obtain⟨T,hT⟩:∃ T,VX e b t c=T:=⟨_,rfl⟩
 obtain⟨B',hB'⟩:∃ B,VG e b t n=B:=⟨_,rfl⟩
 obtain⟨T',hT'⟩:∃ T,VX e b t n=T:=⟨_,rfl⟩
 obtain⟨k,hk⟩:∃ k,WE e b t c=k:=⟨_,rfl⟩
 obtain⟨k',hk'⟩:∃ k,WE e b t n=k:=⟨_,rfl⟩
 rw[hB,hT,hk] at hta
 rw[hB',hT',hk'] at htb
 rw[hB,hT,hB',hT',hk]
 have HTA:=Qo hta
 have HTB:=Qo htb
 obtain⟨i0,hi,hz0,hz1,hz2⟩:=info_parts Zw2
 have heq:=fun(x y:Int) W=>Zio (P:=Tryz.prog) 9998 189 2 i0 .i64 .i64 Tryz.underlying189 Tryz.underlying2 hi hz1 B T x y W
 clear hz0 hz1 hz2 hi
 clear hta htb hB hT hB' hT' hk hk'
 rcases k with _|_
 ·go_enter Tryz.func135,Tryz.ntmps135
  go_wp2_with fail
  refine(HTA.out _).mono ?_
  rintro e' w1 ⟨rfl,hb1⟩
  have HB1:=Qo hb1; clear hb1
  go_wp2_with fail
  refine(HTB.out _).mono ?_
  rintro e' w2 ⟨rfl,hb2⟩
  have HB2:=Qo hb2; clear hb2
  go_wp2
  go_ret
  exact⟨rfl,(((HB1.out.alloc HB1.out.size _).trans (HB2.out.mono (by have:=HB1.out.size; simp; omega))).alloc (by have:=HB1.out.size; have:=HB2.out.size; simp at this; omega) _)⟩
 ·go_enter Tryz.func135,Tryz.ntmps135
  go_wp2_with fail
  refine(HTA.out _).mono ?_
  rintro e' w1 ⟨rfl,hb1⟩
  have HB1:=Qo hb1; clear hb1
  go_wp2_with fail
  refine(HTB.out _).mono ?_
  rintro e' w2 ⟨rfl,hb2⟩
  have f0:w2.cell? ⟨w1.heap.size,0,none⟩=some (.int .i64 B):=(hb2.cell (p:=⟨w1.heap.size,0,none⟩) (by simp)).trans (cell_of_row _ _ 0 _ _ _ (heap_alloc_new w1 _))
  have f1:w2.cell? ⟨w1.heap.size,1,none⟩=some (.int .i64 T):=(hb2.cell (p:=⟨w1.heap.size,1,none⟩) (by simp)).trans (cell_of_row _ _ 1 _ _ _ (heap_alloc_new w1 _))
  have hs:w1.heap.size<w2.heap.size:=by have:=hb2.size; simp at this; omega
  have HB2:=Qo hb2; clear hb2
  go_wp2
  go_ret
  refine⟨Wl ?_,(((HB1.out.alloc HB1.out.size _).trans (HB2.out.mono (by have:=HB1.out.size; simp; omega))).alloc (by have:=HB1.out.size; have:=HB2.out.size; simp at this; omega) _)⟩
  simp[Bool.beq_eq_decide_eq]
theorem Blk.new2 (w:World) (o:Obj) (t:TypeId) (cs:Array Value):Blk ((w.alloc o).alloc (.cells cs t)) (w.heap.size+1) t cs:=by
 have:=Blk.new (w.alloc o) t cs
 rwa [show(w.alloc o).heap.size=w.heap.size+1 by simp] at this
theorem Blk.new1 (w:World) (o:Obj) (t:TypeId) (cs:Array Value):Blk ((w.alloc (.cells cs t)).alloc o) w.heap.size t cs:=(Blk.new w t cs).alloc o
def Za1 (b t a s:Nat):Bool:=decide (b≤a)&&decide (a+s≤t)
def ZAu (p q:Nat):Bool:=decide (p&&&q=p)
def inN (b t l h:Nat):Bool:=decide (t≤b)||(decide (l≤b)&&decide (t≤h))
theorem ZrI {p q:Nat} (hp:p<65536) (hq:q<65536):(p&&&(65535-q)=0)↔p&&&q=p:=by
 have h1:65535-q=q ^^^ 65535:=by
  refine Nat.eq_of_testBit_eq fun i => ?_
  rw[Nat.testBit_xor,show 65535-q=2^16-(q+1) by omega,Nat.testBit_two_pow_sub_succ (by omega),show 65535=2^16-1 by rfl,Nat.testBit_two_pow_sub_one]
  by_cases hi:i<16
  ·simp[hi]
  ·have:q.testBit i=false:=Nat.testBit_lt_two_pow (Nat.lt_of_lt_of_le hq (Nat.pow_le_pow_right (n:=2) (i:=16) (by omega) (by omega)))
   simp[hi,this]
 have hb:∀ i,16≤i→p.testBit i=false:=fun i hi=>Nat.testBit_lt_two_pow (Nat.lt_of_lt_of_le hp (Nat.pow_le_pow_right (n:=2) (i:=16) (by omega) hi))
 constructor
 ·intro h
  refine Nat.eq_of_testBit_eq fun i => ?_
  have hi:=congrArg (fun n=>n.testBit i) h
  simp only[h1,Nat.testBit_and,Nat.testBit_xor,show 65535=2^16-1 by rfl,Nat.testBit_two_pow_sub_one,Nat.zero_testBit] at hi
  rw[Nat.testBit_and]
  by_cases h16:i<16
  ·simp only[h16,decide_true] at hi
   cases hpb:p.testBit i<;>cases hqb:q.testBit i<;>simp_all
  ·rw[hb i (by omega)]; rfl
 ·intro h
  refine Nat.eq_of_testBit_eq fun i => ?_
  have hi:=congrArg (fun n=>n.testBit i) h
  simp only[Nat.testBit_and] at hi
  simp only[h1,Nat.testBit_and,Nat.testBit_xor,show 65535=2^16-1 by rfl,Nat.testBit_two_pow_sub_one,Nat.zero_testBit]
  by_cases h16:i<16
  ·cases hpb:p.testBit i<;>cases hqb:q.testBit i<;>simp_all
  ·rw[hb i (by omega)]; rfl
theorem ZBS {p q:Nat} (hp:p<65536) (hq:q<65536):(bits .andNot .u16 (p:Int) (q:Int)==0)=ZAu p q:=by
 rw[u16_andNot_nat p q hp hq,Bool.eq_iff_iff]
 unfold ZAu
 rw[decide_eq_true_eq,← ZrI hp hq]
 simp<;>omega
theorem ZBT {p q:Nat} (hp:p<65536) (hq:q<65536):(bits .and .u16 (p:Int) (q:Int)==(p:Int))=ZAu p q:=by
 rw[u16_and_nat p q hp hq,Bool.eq_iff_iff]
 unfold ZAu
 rw[decide_eq_true_eq]
 simp<;>omega
def Zl5 (aC aE aB aT aP aY aR:Nat) (aV:Bool) (bC bE bB bT bP bY bR:Nat) (bV:Bool):Bool:=decide (aC=bC)&&(decide (aE=bE)&&(decide (aB=bB)&&(decide (aT=bT)&&(decide (aP=bP)&&(decide (aY=bY)&&(decide (aR=bR)&&(aV==bV)))))))
def ZcJ (aC aE aB aT aP aY aR:Nat):Prop:=aC<4294967296∧aE<256∧aB<65536∧aT<65536∧aP<65536∧aY<65536∧aR<4294967296
theorem ZnB (e b t c:Nat):(Vg e b t c).1<4294967296∧(Vg e b t c).2≤4294967296∧(Vg e b t c).1≤(Vg e b t c).2:=by
 unfold Vg
 split
 ·rename_i h
  have h1:=ZfP h.1
  have h2:=h.2
  simp only
  omega
 ·simp
theorem capU:Tryz.prog.underlying 30=some (.struct (Tryz.prog.fieldsOf 30)):=by kernel_rfl
theorem Zws:Tryz.prog.stoodInHeld 30=false:=by kernel_rfl
attribute [local go_sem ↓] Go.wp_at_zero Go.wp_at_succ
theorem ZtZ (aC aE aB aT aP aY aR:Nat) (aV:Bool) (bC bE bB bT bP bY bR:Nat) (bV:Bool) (W:World):(binOp .eql 30 (.agg #[.int .u32 aC,.int .u8 aE,.int .u16 aB,.int .u16 aT,.int .u16 aP,.int .u16 aY,.int .u32 aR,.bool aV]) (.agg #[.int .u32 bC,.int .u8 bE,.int .u16 bB,.int .u16 bT,.int .u16 bP,.int .u16 bY,.int .u32 bR,.bool bV])).run Tryz.prog W = .ok (.bool (Zl5 aC aE aB aT aP aY aR aV bC bE bB bT bP bY bR bV)) W:=by
 rw[run_eql_struct,run_equalIn_agg W 9999 _ _ _ capU Zws]
 simp[go_sem,Program.fieldsOf,Tryz.underlying30,Op.eqFields,Int.natCast_inj]
 repeat' split
 all_goals simp_all [Zl5]
theorem ZnC (cC cE cB cT cP cY cR:Nat) (cV:Bool) (w:World) (cl:ZcJ cC cE cB cT cP cY cR) :
  Calls Tryz.prog 76 #[.agg #[.int .u32 cC,.int .u8 cE,.int .u16 cB,.int .u16 cT,.int .u16 cP,.int .u16 cY,.int .u32 cR,.bool cV]] w fun e' w'=>e' = .returned (.tuple #[.int .u32 (Vg cE cB cT cC).1,.int .u64 (Vg cE cB cT cC).2])∧Below w.heap.size w w':=by
 have HD:Hid (∀ W,Calls Tryz.prog 152 #[.int .u8 cE,.int .u16 cB,.int .u16 cT,.int .u32 cC] W fun e' w'=>e' = .returned (.tuple #[.int .u32 (Vg cE cB cT cC).1,.int .u64 (Vg cE cB cT cC).2])∧Below W.heap.size W w'):=fun W=>ZrH cE cB cT cC W cl.2.1 cl.2.2.1 cl.2.2.2.1 cl.1
 obtain⟨x,hx⟩:∃ x,(Vg cE cB cT cC).1=x:=⟨_,rfl⟩
 obtain⟨y,hy⟩:∃ y,(Vg cE cB cT cC).2=y:=⟨_,rfl⟩
 rw[hx,hy] at HD ⊢
 clear hx hy
 go_enter Tryz.func76,Tryz.ntmps76
 go_wp2_with fail
 refine(HD.out _).mono ?_
 rintro e' w1 ⟨rfl,hb1⟩
 have HB1:=Qo hb1; clear hb1
 go_wp2
 go_ret2
 exact⟨rfl,((Below.refl _ _).alloc (Nat.le_refl _) _).trans (HB1.out.mono (by simp))⟩
theorem Zhm (a s:Nat) (w:World) (ha:a<4294967296) (hs:s<4294967296) :
  Calls Tryz.prog 68 #[.agg #[.int .u32 a,.int .u32 s]] w fun e' w'=>e' = .returned (.int .u64 ((a:Int)+s))∧Below w.heap.size w w':=by
 go_enter Tryz.func68,Tryz.ntmps68
 go_wp2
 go_ret
 exact⟨rfl,by(repeat (first|exact Below.refl _ _|refine Below.drew ?_|refine ZJ ?_ _|refine Below.alloc ?_ (by simp<;>omega) _|refine Below.setCell ?_ (by simp<;>omega) _))⟩
theorem ZgE (cC cE cB cT cP cY cR:Nat) (cV:Bool) (x y:Nat) (w:World) (cl:ZcJ cC cE cB cT cP cY cR) (hx:(Vg cE cB cT cC).1=x) (hy:(Vg cE cB cT cC).2=y) :
  Calls Tryz.prog 76 #[.agg #[.int .u32 cC,.int .u8 cE,.int .u16 cB,.int .u16 cT,.int .u16 cP,.int .u16 cY,.int .u32 cR,.bool cV]] w fun e' w'=>e' = .returned (.tuple #[.int .u32 x,.int .u64 y])∧Below w.heap.size w w':=by
 rw[← hx,← hy]; exact ZnC cC cE cB cT cP cY cR cV w cl
theorem Zt0 (cC cE cB cT cP cY cR:Nat) (cV:Bool) (a s x y:Nat) (w:World) (cl:ZcJ cC cE cB cT cP cY cR) (ha:a<4294967296) (hs:s<4294967296) (hx:(Vg cE cB cT cC).1=x) (hy:(Vg cE cB cT cC).2=y) :
  Calls Tryz.prog 100 #[.agg #[.int .u32 cC,.int .u8 cE,.int .u16 cB,.int .u16 cT,.int .u16 cP,.int .u16 cY,.int .u32 cR,.bool cV],.agg #[.int .u32 a,.int .u32 s]] w fun e' w'=>e' = .returned (.bool (Za1 x y a s))∧Below w.heap.size w w':=by
 have HR:Hid (∀ W,Calls Tryz.prog 76 #[.agg #[.int .u32 cC,.int .u8 cE,.int .u16 cB,.int .u16 cT,.int .u16 cP,.int .u16 cY,.int .u32 cR,.bool cV]] W fun e' w'=>e' = .returned (.tuple #[.int .u32 x,.int .u64 y])∧Below W.heap.size W w'):=fun W=>ZgE cC cE cB cT cP cY cR cV x y W cl hx hy
 have hh:Za1 x y a s=(decide ((x:Int)≤a)&&decide ((a:Int)+s≤y)):=by
  unfold Za1
  rw[show decide (x≤a)=decide ((x:Int)≤a) by rw[decide_eq_decide]; omega,show decide (a+s≤y)=decide ((a:Int)+s≤y) by rw[decide_eq_decide]; omega]
 rw[hh]
 clear hh hx hy
 by_cases h1:(x:Int)≤a
 ·rw[lR h1,Bool.true_and]
  go_enter Tryz.func100,Tryz.ntmps100
  go_wp2_with fail
  refine(HR.out _).mono ?_
  rintro e' w1 ⟨rfl,hb1⟩
  obtain⟨hc1,hf1⟩:=Jj hb1
  have hz1:=hb1.size
  simp at hz1
  have HB1:=Qo hb1; clear hb1
  go_wp2_with fail
  refine(Zhm a s _ ha hs).mono ?_
  rintro e' w2 ⟨rfl,hb2⟩
  have HB2:=Qo hb2; clear hb2
  go_wp2
  go_ret
  exact⟨rfl,((((Below.refl _ _).alloc (Nat.le_refl _) _).alloc (by simp) _).trans (HB1.out.mono (by simp; omega))).trans (HB2.out.mono (by omega))⟩
 ·have d1:decide ((x:Int)≤a)=false:=by simpa using h1
  rw[d1,Bool.false_and]
  go_enter Tryz.func100,Tryz.ntmps100
  go_wp2_with fail
  refine(HR.out _).mono ?_
  rintro e' w1 ⟨rfl,hb1⟩
  obtain⟨hc1,hf1⟩:=Jj hb1
  have hz1:=hb1.size
  simp at hz1
  have HB1:=Qo hb1; clear hb1
  go_wp2
  go_ret
  exact⟨rfl,(((Below.refl _ _).alloc (Nat.le_refl _) _).alloc (by simp) _).trans (HB1.out.mono (by simp; omega))⟩
attribute [local go_sem ↓] Go.wp_at_zero Go.wp_at_succ
theorem ZkK (v:Nat) (w:World) (_hv:v<4294967296) :
  Calls Tryz.prog 12 #[.int .u32 v] w fun e' w'=>e' = .returned (.agg #[.int .u32 v,.int .u8 0,.int .u16 0,.int .u16 0,.int .u16 0,.int .u16 0,.int .u32 0,.bool false])∧Below w.heap.size w w':=by
 go_enter Tryz.func12,Tryz.ntmps12
 go_wp2
 refine bodyPost_ret (v:=.agg #[.int .u32 v,.int .u8 0,.int .u16 0,.int .u16 0,.int .u16 0,.int .u16 0,.int .u32 0,.bool false]) (by simp[results,Tryz.results12,go_sem]<;>rfl) rfl ⟨rfl,?_⟩
 (repeat (first|exact Below.refl _ _|refine Below.drew ?_|refine ZJ ?_ _|refine Below.alloc ?_ (by simp<;>omega) _|refine Below.setCell ?_ (by simp<;>omega) _))
theorem ZnD (cC cE cB cT cP cY cR:Nat) (cV:Bool) (w:World) (hc:cC<4294967296) :
  Calls Tryz.prog 85 #[.agg #[.int .u32 cC,.int .u8 cE,.int .u16 cB,.int .u16 cT,.int .u16 cP,.int .u16 cY,.int .u32 cR,.bool cV]] w fun e' w'=>e' = .returned (.bool (Zl5 cC cE cB cT cP cY cR cV cC 0 0 0 0 0 0 false))∧Below w.heap.size w w':=by
 have he:=fun W=>ZtZ cC cE cB cT cP cY cR cV cC 0 0 0 0 0 0 false W
 generalize Zl5 cC cE cB cT cP cY cR cV cC 0 0 0 0 0 0 false=k at *
 simp only[Int.cast_ofNat_Int] at he
 go_enter Tryz.func85,Tryz.ntmps85
 go_wp2_with fail
 go_region_with (go_at_call 12; refine(ZkK cC _ hc).mono ?_; rintro e' w1 ⟨rfl,hb1⟩; obtain⟨hc1,hf1⟩:=Jj hb1)
 all_goals
  have HB1:=Qo hb1; clear hb1
  go_wp2
  go_ret
  exact⟨rfl,((Below.refl _ _).alloc (Nat.le_refl _) _).trans ((Ji HB1.out).mono (by show w.heap.size≤_; simp))⟩
def ZdM (p q b t l h:Nat):Bool:=ZAu p q&&inN b t l h
theorem ZnE (p q b t l h:Nat):ZdM p q b t l h=(ZAu p q&&(decide (t≤b)||(decide (l≤b)&&decide (t≤h)))):=rfl
theorem ZkL (aC aE aB aT aP aY aR:Nat) (aV:Bool) (bC bE bB bT bP bY bR:Nat) (bV:Bool) (x y u v:Nat) (w:World) (al:ZcJ aC aE aB aT aP aY aR) (bl:ZcJ bC bE bB bT bP bY bR) (hx:(Vg aE aB aT aC).1=x) (hy:(Vg aE aB aT aC).2=y) (hu:(Vg bE bB bT bC).1=u) (hv:(Vg bE bB bT bC).2=v) :
  Calls Tryz.prog 49 #[.agg #[.int .u32 aC,.int .u8 aE,.int .u16 aB,.int .u16 aT,.int .u16 aP,.int .u16 aY,.int .u32 aR,.bool aV],.agg #[.int .u32 bC,.int .u8 bE,.int .u16 bB,.int .u16 bT,.int .u16 bP,.int .u16 bY,.int .u32 bR,.bool bV]] w fun e' w'=>e' = .returned (.bool (ZdM aP bP x y u v))∧Below w.heap.size w w':=by
 have HA:Hid (∀ W,Calls Tryz.prog 76 #[.agg #[.int .u32 aC,.int .u8 aE,.int .u16 aB,.int .u16 aT,.int .u16 aP,.int .u16 aY,.int .u32 aR,.bool aV]] W fun e' w'=>e' = .returned (.tuple #[.int .u32 x,.int .u64 y])∧Below W.heap.size W w'):=fun W=>ZgE aC aE aB aT aP aY aR aV x y W al hx hy
 have HB:Hid (∀ W,Calls Tryz.prog 76 #[.agg #[.int .u32 bC,.int .u8 bE,.int .u16 bB,.int .u16 bT,.int .u16 bP,.int .u16 bY,.int .u32 bR,.bool bV]] W fun e' w'=>e' = .returned (.tuple #[.int .u32 u,.int .u64 v])∧Below W.heap.size W w'):=fun W=>ZgE bC bE bB bT bP bY bR bV u v W bl hu hv
 have hs:=ZBS al.2.2.2.2.1 bl.2.2.2.2.1
 have hxl:x<4294967296:=by rw[← hx]; exact(ZnB _ _ _ _).1
 have hul:u<4294967296:=by rw[← hu]; exact(ZnB _ _ _ _).1
 rw[ZnE]
 clear hx hy hu hv
 obtain⟨k,hk⟩:∃ k,ZAu aP bP=k:=⟨_,rfl⟩
 rw[hk] at hs ⊢
 clear hk
 cases k with
 | false =>
  rw[Bool.false_and]
  go_enter Tryz.func49,Tryz.ntmps49
  go_wp2_with fail
  refine(HA.out _).mono ?_
  rintro e' w1 ⟨rfl,hb1⟩
  obtain⟨hc1,hf1⟩:=Jj hb1
  have hz1:=hb1.size
  simp at hz1
  have HB1:=Qo hb1
  go_wp2_with fail
  refine(HB.out _).mono ?_
  rintro e' w2 ⟨rfl,hb2⟩
  have f0:w2.cell? ⟨w.heap.size,4,none⟩=some (.int .u16 aP):=(((Blk.new1 w _ _ _).below hb1 (by simp; omega)).below hb2 (by omega)).cell 4
  have f1:w2.cell? ⟨w.heap.size+1,4,none⟩=some (.int .u16 bP):=(((Blk.new2 w _ _ _).below hb1 (by simp)).below hb2 (by omega)).cell 4
  have HB2:=Qo hb2; clear hb2 hc1 hf1 hb1
  go_wp2
  go_ret
  exact⟨rfl,((((Below.refl _ _).alloc (Nat.le_refl _) _).alloc (by simp) _).trans (HB1.out.mono (by simp; omega))).trans (HB2.out.mono (by omega))⟩
 | true =>
  rw[Bool.true_and]
  by_cases c1:y≤x
  ·rw[lR c1,Bool.true_or]
   go_enter Tryz.func49,Tryz.ntmps49
   go_wp2_with fail
   refine(HA.out _).mono ?_
   rintro e' w1 ⟨rfl,hb1⟩
   obtain⟨hc1,hf1⟩:=Jj hb1
   have hz1:=hb1.size
   simp at hz1
   have HB1:=Qo hb1
   go_wp2_with fail
   refine(HB.out _).mono ?_
   rintro e' w2 ⟨rfl,hb2⟩
   have f0:w2.cell? ⟨w.heap.size,4,none⟩=some (.int .u16 aP):=(((Blk.new1 w _ _ _).below hb1 (by simp; omega)).below hb2 (by omega)).cell 4
   have f1:w2.cell? ⟨w.heap.size+1,4,none⟩=some (.int .u16 bP):=(((Blk.new2 w _ _ _).below hb1 (by simp)).below hb2 (by omega)).cell 4
   have HB2:=Qo hb2; clear hb2 hc1 hf1 hb1
   go_wp2
   go_ret
   exact⟨rfl,((((Below.refl _ _).alloc (Nat.le_refl _) _).alloc (by simp) _).trans (HB1.out.mono (by simp; omega))).trans (HB2.out.mono (by omega))⟩
  ·have d1:decide (y≤x)=false:=by simpa using c1
   rw[d1,Bool.false_or]
   by_cases c2:u≤x
   ·rw[lR c2,Bool.true_and]
    go_enter Tryz.func49,Tryz.ntmps49
    go_wp2_with fail
    refine(HA.out _).mono ?_
    rintro e' w1 ⟨rfl,hb1⟩
    obtain⟨hc1,hf1⟩:=Jj hb1
    have hz1:=hb1.size
    simp at hz1
    have HB1:=Qo hb1
    go_wp2_with fail
    refine(HB.out _).mono ?_
    rintro e' w2 ⟨rfl,hb2⟩
    have f0:w2.cell? ⟨w.heap.size,4,none⟩=some (.int .u16 aP):=(((Blk.new1 w _ _ _).below hb1 (by simp; omega)).below hb2 (by omega)).cell 4
    have f1:w2.cell? ⟨w.heap.size+1,4,none⟩=some (.int .u16 bP):=(((Blk.new2 w _ _ _).below hb1 (by simp)).below hb2 (by omega)).cell 4
    have HB2:=Qo hb2; clear hb2 hc1 hf1 hb1
    go_wp2
    go_ret
    exact⟨rfl,((((Below.refl _ _).alloc (Nat.le_refl _) _).alloc (by simp) _).trans (HB1.out.mono (by simp; omega))).trans (HB2.out.mono (by omega))⟩
   ·have d2:decide (u≤x)=false:=by simpa using c2
    rw[d2,Bool.false_and]
    go_enter Tryz.func49,Tryz.ntmps49
    go_wp2_with fail
    refine(HA.out _).mono ?_
    rintro e' w1 ⟨rfl,hb1⟩
    obtain⟨hc1,hf1⟩:=Jj hb1
    have hz1:=hb1.size
    simp at hz1
    have HB1:=Qo hb1
    go_wp2_with fail
    refine(HB.out _).mono ?_
    rintro e' w2 ⟨rfl,hb2⟩
    have f0:w2.cell? ⟨w.heap.size,4,none⟩=some (.int .u16 aP):=(((Blk.new1 w _ _ _).below hb1 (by simp; omega)).below hb2 (by omega)).cell 4
    have f1:w2.cell? ⟨w.heap.size+1,4,none⟩=some (.int .u16 bP):=(((Blk.new2 w _ _ _).below hb1 (by simp)).below hb2 (by omega)).cell 4
    have HB2:=Qo hb2; clear hb2 hc1 hf1 hb1
    go_wp2
    go_ret
    exact⟨rfl,((((Below.refl _ _).alloc (Nat.le_refl _) _).alloc (by simp) _).trans (HB1.out.mono (by simp; omega))).trans (HB2.out.mono (by omega))⟩
theorem ZBU (e b t:Nat) (w:World) (he:e<256) (hb:b<65536) (ht:t<65536) :
  Calls Tryz.prog 189 #[.int .u8 e,.int .u16 b,.int .u16 t] w fun e' w'=>e' = .returned (.bool (Znw e b t))∧w=w':=by
 have hm:Znw e b t=(decide ((e:Int)≤21)&&decide ((b:Int)<4096)&&decide ((t:Int)<4096)):=by
  unfold Znw
  have e1:decide (e≤21)=decide ((e:Int)≤21):=by rw[decide_eq_decide]; omega
  have e2:decide (b<4096)=decide ((b:Int)<4096):=by rw[decide_eq_decide]; omega
  have e3:decide (t<4096)=decide ((t:Int)<4096):=by rw[decide_eq_decide]; omega
  rw[e1,e2,e3]
 rw[hm]
 by_cases h1:(e:Int)≤21
 ·by_cases h2:(b:Int)<4096
  ·have d1:decide ((e:Int)≤21)=true:=by simpa using h1
   have d2:decide ((b:Int)<4096)=true:=by simpa using h2
   go_enter Tryz.func189,Tryz.ntmps189
   go_wp2
   go_ret
   exact⟨Wl (by simp[h1,h2]),rfl⟩
  ·have d2:decide ((b:Int)<4096)=false:=by simpa using h2
   go_enter Tryz.func189,Tryz.ntmps189
   go_wp2
   go_ret
   exact⟨Wl (by simp),rfl⟩
 ·have d1:decide ((e:Int)≤21)=false:=by simpa using h1
  go_enter Tryz.func189,Tryz.ntmps189
  go_wp2
  go_ret
  exact⟨Wl (by simp),rfl⟩
theorem Zqv (e b t:Nat) (k:Bool) (w:World) (he:e<256) (hb:b<65536) (ht:t<65536) (hk:Znw e b t=k) :
  Calls Tryz.prog 189 #[.int .u8 e,.int .u16 b,.int .u16 t] w fun e' w'=>e' = .returned (.bool k)∧w=w':=by
 rw[← hk]; exact ZBU e b t w he hb ht
theorem Zjn {a b:Value} {x y:Bool} (h:x=y):Ending.returned (.tuple #[a,b,.bool x]) = .returned (.tuple #[a,b,.bool y]):=by rw[h]
theorem UY (x edge k:Nat) (w:World) (h:Uy x edge=k) :
  Calls Tryz.prog 190 #[.int .i64 x,.int .i64 edge] w fun e' w'=>e' = .returned (.int .i64 k)∧w=w':=by
 have e:(if(x:Int)<edge then 1 else 0:Int)=(k:Int):=by rw[← h]; unfold Uy; split<;>split<;>omega
 have:=ZtW x edge w
 rwa [e] at this
theorem Zl6 {U:Nat} (hp:U≤2097152) (z:Int) (h1 : -2≤z) (h2:z≤2097152) : -4398046511104≤z*U∧z*U≤4398046511104:=by
 have a1:z*(U:Int)≤2097152*(U:Int):=Int.mul_le_mul_of_nonneg_right h2 (by omega)
 have a2 : -2*(U:Int)≤z*(U:Int):=Int.mul_le_mul_of_nonneg_right h1 (by omega)
 omega
theorem ZFH (h tm tx x U:Int):((h-tm+tx)*4096+x)*U=(h+tx-tm)*U*4096+x*U:=by
 rw[Int.add_mul,show h-tm+tx=h+tx-tm by omega,Int.mul_right_comm]
set_option maxHeartbeats 1000000 in
theorem Zt1 (e b t c:Nat) (w:World) (he:e≤21) (hb:b<4096) (ht0:t<4096) (hc:c<4294967296) :
  Calls Tryz.prog 181 #[.int .u8 e,.int .u16 b,.int .u16 t,.int .u32 c] w fun e' w'=>e' = .returned (.tuple #[.int .i64 (VG e b t c),.int .i64 (VX e b t c),.bool (WE e b t c)])∧w=w':=by
 have hmay:=Zl1 he hb ht0
 have hp:=Ko he
 have h0:=XY e
 have hpw:wrap64 ((2:Int)^e)=((2^e:Nat):Int):=by
  rw[show((2:Int)^e)=((2^e:Nat):Int) by simp]; exact IntWalk.wrap64_in _ (by omega)
 have hB0:VG e b t c=ofN e b c b:=by unfold VG; rw[if_pos hmay]
 have hT0:VX e b t c=ofN e b c t:=by unfold VX; rw[if_pos hmay]
 have hok:WE e b t c=(decide (0≤VG e b t c)&&decide (VG e b t c≤VX e b t c)&&decide (VX e b t c≤4294967296)):=by
  unfold WE; rw[hmay]; rfl
 have hmI:((2:Int)^e)=((2^e:Nat):Int):=by simp
 rw[hok,hB0,hT0]
 unfold ofN Zin
 rw[hmI]
 obtain⟨U,hU⟩:∃ U,2^e=U:=⟨_,rfl⟩
 rw[hU] at hp h0 hpw ⊢
 obtain⟨q,hq⟩:∃ q,c/U=q:=⟨_,rfl⟩
 obtain⟨h,hh⟩:∃ h,q/4096=h:=⟨_,rfl⟩
 obtain⟨m,hm⟩:∃ m,q%4096=m:=⟨_,rfl⟩
 obtain⟨edge,hed⟩:∃ k,Zdj b=k:=⟨_,rfl⟩
 obtain⟨tm,htm⟩:∃ k,Uy m edge=k:=⟨_,rfl⟩
 obtain⟨tb,htb⟩:∃ k,Uy b edge=k:=⟨_,rfl⟩
 obtain⟨tt,htt⟩:∃ k,Uy t edge=k:=⟨_,rfl⟩
 have ht1:=ZcI m edge
 have ht2:=ZcI b edge
 have ht3:=ZcI t edge
 rw[hq,hh,hm,hed,htm,htb,htt,ZFH,ZFH]
 rw[htm] at ht1
 rw[htb] at ht2
 rw[htt] at ht3
 have hql:q≤4294967295:=by rw[← hq]; exact Nat.le_trans (Nat.div_le_self _ _) (by omega)
 have hhl:h≤1048575:=by omega
 have r1:(c:Int)/((U:Int)*4096)=(h:Int):=by
  rw[← hh,← hq,Nat.div_div_eq_div_mul]; simp
 have r2:(c:Int)/(U:Int)=(q:Int):=by rw[← hq]; simp
 have r3:(q:Int)%4096=(m:Int):=by rw[← hm]; simp
 have r4:((b:Int)+3072)%4096=(edge:Int):=by rw[← hed]; unfold Zdj; simp
 have b1:=Zl6 hp ((h:Int)+tb-tm) (by omega) (by omega)
 have b2:=Zl6 hp ((h:Int)+tt-tm) (by omega) (by omega)
 have b3:=Zl6 hp (b:Int) (by omega) (by omega)
 have b4:=Zl6 hp (t:Int) (by omega) (by omega)
 obtain⟨pb,hpb⟩:∃ x:Int,((h:Int)+tb-tm)*U=x:=⟨_,rfl⟩
 obtain⟨pt,hpt⟩:∃ x:Int,((h:Int)+tt-tm)*U=x:=⟨_,rfl⟩
 obtain⟨qb,hqb⟩:∃ x:Int,(b:Int)*U=x:=⟨_,rfl⟩
 obtain⟨qt,hqt⟩:∃ x:Int,(t:Int)*U=x:=⟨_,rfl⟩
 rw[hpb] at b1 ⊢
 rw[hpt] at b2 ⊢
 rw[hqb] at b3 ⊢
 rw[hqt] at b4 ⊢
 have HM:=Qo hmay
 have HTM:=Qo htm
 have HTB:=Qo htb
 have HTT:=Qo htt
 clear hmay hB0 hT0 hok hmI hU hq hh hm hed htm htb htt
 by_cases c1:0≤pb*4096+qb
 ·by_cases c2:pb*4096+qb≤pt*4096+qt
  ·go_enter Tryz.func181,Tryz.ntmps181
   go_wp2_with fail
   refine(Zqv e b t true _ (by omega) (by omega) (by omega) HM.out).mono ?_
   rintro e' w' ⟨rfl,rfl⟩
   go_wp2_with (first
    | (go_at_call_of 190 (Value.int .i64 (m:Int)); refine(UY m edge tm _ HTM.out).mono ?_; rintro e' w' ⟨rfl,rfl⟩)
    | (go_at_call_of 190 (Value.int .i64 (b:Int)); refine(UY b edge tb _ HTB.out).mono ?_; rintro e' w' ⟨rfl,rfl⟩)
    | (go_at_call_of 190 (Value.int .i64 (t:Int)); refine(UY t edge tt _ HTT.out).mono ?_; rintro e' w' ⟨rfl,rfl⟩))
   go_ret3
   exact⟨Zjn (by simp[c1,c2]),rfl⟩
  ·have d1:decide (pb*4096+qb≤pt*4096+qt)=false:=by simp; omega
   go_enter Tryz.func181,Tryz.ntmps181
   go_wp2_with fail
   refine(Zqv e b t true _ (by omega) (by omega) (by omega) HM.out).mono ?_
   rintro e' w' ⟨rfl,rfl⟩
   go_wp2_with (first
    | (go_at_call_of 190 (Value.int .i64 (m:Int)); refine(UY m edge tm _ HTM.out).mono ?_; rintro e' w' ⟨rfl,rfl⟩)
    | (go_at_call_of 190 (Value.int .i64 (b:Int)); refine(UY b edge tb _ HTB.out).mono ?_; rintro e' w' ⟨rfl,rfl⟩)
    | (go_at_call_of 190 (Value.int .i64 (t:Int)); refine(UY t edge tt _ HTT.out).mono ?_; rintro e' w' ⟨rfl,rfl⟩))
   go_ret3
   exact⟨Zjn (by simp[d1]),rfl⟩
 ·have d1:decide (0≤pb*4096+qb)=false:=by simp; omega
  go_enter Tryz.func181,Tryz.ntmps181
  go_wp2_with fail
  refine(Zqv e b t true _ (by omega) (by omega) (by omega) HM.out).mono ?_
  rintro e' w' ⟨rfl,rfl⟩
  go_wp2_with (first
   | (go_at_call_of 190 (Value.int .i64 (m:Int)); refine(UY m edge tm _ HTM.out).mono ?_; rintro e' w' ⟨rfl,rfl⟩)
   | (go_at_call_of 190 (Value.int .i64 (b:Int)); refine(UY b edge tb _ HTB.out).mono ?_; rintro e' w' ⟨rfl,rfl⟩)
   | (go_at_call_of 190 (Value.int .i64 (t:Int)); refine(UY t edge tt _ HTT.out).mono ?_; rintro e' w' ⟨rfl,rfl⟩))
  go_ret3
  exact⟨Zjn (by simp[d1]),rfl⟩
theorem Zjo (e b t c:Nat) (w:World) (he:e<256) (hb:b<65536) (ht:t<65536) (hc:c<4294967296) :
  Calls Tryz.prog 181 #[.int .u8 e,.int .u16 b,.int .u16 t,.int .u32 c] w fun e' w'=>e' = .returned (.tuple #[.int .i64 (VG e b t c),.int .i64 (VX e b t c),.bool (WE e b t c)])∧w=w':=by
 by_cases h:Znw e b t=true
 ·obtain⟨h1,h2,h3⟩:=Znx h
  exact Zt1 e b t c w h1 h2 h3 hc
 ·have h':Znw e b t=false:=by simpa using h
  have e1:VG e b t c=0:=by unfold VG; rw[if_neg h]
  have e2:VX e b t c=0:=by unfold VX; rw[if_neg h]
  have e3:WE e b t c=false:=by unfold WE; rw[h']; rfl
  rw[e1,e2,e3]
  have HM:=Qo h'
  clear h h' e1 e2 e3
  go_enter Tryz.func181,Tryz.ntmps181
  go_wp2_with (go_at_call 189; refine(Zqv e b t false _ he hb ht HM.out).mono ?_; rintro e' w' ⟨rfl,rfl⟩)
  go_ret3
  exact⟨rfl,rfl⟩
theorem ZoZ (e b t c:Nat) (w:World) (he:e<256) (hb:b<65536) (ht:t<65536) (hc:c<4294967296) :
  Calls Tryz.prog 168 #[.int .u8 e,.int .u16 b,.int .u16 t,.int .u32 c] w fun e' w'=>e' = .returned (.tuple #[.int .u32 (Vg e b t c).1,.int .u64 (Vg e b t c).2])∧w=w':=by
 have hta:=fun W=>Zjo e b t c W he hb ht hc
 by_cases h1:WE e b t c=true
 ·obtain⟨k0,k1,k2⟩:=ZfP h1
  obtain⟨B,hB⟩:∃ B:Nat,VG e b t c=B:=⟨(VG e b t c).toNat,by omega⟩
  obtain⟨T,hT⟩:∃ T:Nat,VX e b t c=T:=⟨(VX e b t c).toNat,by omega⟩
  simp only[h1,hB,hT] at hta
  rw[hB,hT] at k1
  rw[hT] at k2
  by_cases h2:(B:Int)=4294967296
  ·have hd:Vg e b t c=(0,0):=by unfold Vg; rw[if_neg (by rw[hB]; exact fun h=>h.2 h2)]
   rw[hd]
   have h3:((B:Int)==4294967296)=true:=by simpa using h2
   have HTA:=Qo hta
   clear hta h2 k0 k1 k2 h1 hB hT hd
   go_enter Tryz.func168,Tryz.ntmps168
   go_wp2_with (go_at_call 181; refine(HTA.out _).mono ?_; rintro e' w1 ⟨rfl,rfl⟩)
   go_ret2
   exact⟨rfl,rfl⟩
  ·have hd:Vg e b t c=(B,T):=by unfold Vg; rw[if_pos ⟨h1,by rw[hB]; exact h2⟩,hB,hT]; rfl
   rw[hd]
   have h3:((B:Int)==4294967296)=false:=by simpa using h2
   have HTA:=Qo hta
   have k3:(B:Int)<4294967296:=by omega
   clear hta h2 h1 hB hT hd
   go_enter Tryz.func168,Tryz.ntmps168
   go_wp2_with (go_at_call 181; refine(HTA.out _).mono ?_; rintro e' w1 ⟨rfl,rfl⟩)
   go_ret2
   exact⟨rfl,rfl⟩
 ·have h1':WE e b t c=false:=by simpa using h1
  have hd:Vg e b t c=(0,0):=by unfold Vg; rw[if_neg (fun h=>h1 h.1)]
  rw[hd]
  simp only[h1'] at hta
  have HTA:=Qo hta
  clear hta h1 h1' hd
  go_enter Tryz.func168,Tryz.ntmps168
  go_wp2_with (go_at_call 181; refine(HTA.out _).mono ?_; rintro e' w1 ⟨rfl,rfl⟩)
  go_ret2
  exact⟨rfl,rfl⟩
theorem ZrJ (e b t c n:Nat) (w:World) (he:e<256) (hb:b<65536) (ht:t<65536) (hc:c<4294967296) (hn:n<4294967296) :
  Calls Tryz.prog 165 #[.int .u8 e,.int .u16 b,.int .u16 t,.int .u32 c,.int .u32 n] w fun e' w'=>e' = .returned (.bool (ZbT e b t c n))∧w=w':=by
 have hta:=fun W=>Zjo e b t c W he hb ht hc
 have htb:=fun W=>Zjo e b t n W he hb ht hn
 unfold ZbT
 obtain⟨B,hB⟩:∃ B,VG e b t c=B:=⟨_,rfl⟩
 obtain⟨T,hT⟩:∃ T,VX e b t c=T:=⟨_,rfl⟩
 obtain⟨B',hB'⟩:∃ B,VG e b t n=B:=⟨_,rfl⟩
 obtain⟨T',hT'⟩:∃ T,VX e b t n=T:=⟨_,rfl⟩
 obtain⟨k,hk⟩:∃ k,WE e b t c=k:=⟨_,rfl⟩
 obtain⟨k',hk'⟩:∃ k,WE e b t n=k:=⟨_,rfl⟩
 rw[hB,hT,hk] at hta
 rw[hB',hT',hk'] at htb
 rw[hB,hT,hB',hT',hk]
 have HTA:=Qo hta
 have HTB:=Qo htb
 clear hta htb hB hT hB' hT' hk hk'
 rcases k with _|_
 ·go_enter Tryz.func165,Tryz.ntmps165
  go_wp2_with fail
  refine(HTA.out _).mono ?_
  rintro e' w1 ⟨rfl,rfl⟩
  go_wp2_with fail
  refine(HTB.out _).mono ?_
  rintro e' w2 ⟨rfl,rfl⟩
  go_wp2
  go_ret
  exact⟨rfl,rfl⟩
 ·by_cases c1:B=B'
  ·have d1:(B==B')=true:=by simpa using c1
   have C1:=Qo c1
   clear c1
   go_enter Tryz.func165,Tryz.ntmps165
   go_wp2_with fail
   refine(HTA.out _).mono ?_
   rintro e' w1 ⟨rfl,rfl⟩
   go_wp2_with fail
   refine(HTB.out _).mono ?_
   rintro e' w2 ⟨rfl,rfl⟩
   go_wp2
   go_ret
   exact⟨Wl (by rw[C1.out]; simp[Bool.beq_eq_decide_eq]),rfl⟩
  ·have d1:(B==B')=false:=by simpa using c1
   have C1:=Qo c1
   clear c1
   go_enter Tryz.func165,Tryz.ntmps165
   go_wp2_with fail
   refine(HTA.out _).mono ?_
   rintro e' w1 ⟨rfl,rfl⟩
   go_wp2_with fail
   refine(HTB.out _).mono ?_
   rintro e' w2 ⟨rfl,rfl⟩
   go_wp2
   go_ret
   exact⟨Wl (by rw[dF C1.out]; rfl),rfl⟩
theorem ZdN (b t e:Nat) (w:World) (hb:b<4294967296) (ht:t≤4294967296) (he:e≤21) :
  Calls Tryz.prog 192 #[.int .u32 b,.int .u64 t,.int .u8 e] w fun e' w'=>e' = .returned (.tuple #[.int .u64 (dnN b e),.int .u64 (upN t e)])∧∃ m,w'=w.drewN m:=by
 have hp:=Ko he
 have h0:=XY e
 have hd1:=Zny b e
 have hd3:=ZtS t e
 have hpw:u64.wrap ((2:Int)^e)=((2^e:Nat):Int):=by
  rw[IntKind.wrap_u64,show((2:Int)^e)=((2^e:Nat):Int) by simp]
  generalize 2^e=z at hp
  omega
 unfold dnN at hd1 ⊢
 unfold upN at hd3 ⊢
 obtain⟨U,hU⟩:∃ U,2^e=U:=⟨_,rfl⟩
 rw[hU] at hp h0 hpw hd1 hd3 ⊢
 obtain⟨x,hx⟩:∃ x,b/U=x:=⟨_,rfl⟩
 obtain⟨y,hy⟩:∃ y,(t+(U-1))/U=y:=⟨_,rfl⟩
 rw[hx] at hd1 ⊢
 rw[hy] at hd3 ⊢
 obtain⟨d,hd⟩:∃ d,x*U=d:=⟨_,rfl⟩
 obtain⟨u,hu⟩:∃ u,y*U=u:=⟨_,rfl⟩
 rw[hd] at hd1 ⊢
 rw[hu] at hd3 ⊢
 have r1:(b:Int)/(U:Int)=(x:Int):=by rw[← hx]; simp
 have r2:(t:Int)+U-1=((t+(U-1):Nat):Int):=by omega
 have r3:u64.wrap ((t:Int)+U)=(t:Int)+U:=by rw[IntKind.wrap_u64]; omega
 have r4:u64.wrap ((t:Int)+U-1)=((t+(U-1):Nat):Int):=by rw[IntKind.wrap_u64]; omega
 obtain⟨s,hs⟩:∃ s,t+(U-1)=s:=⟨_,rfl⟩
 rw[hs] at r2 r4 hy
 have r5:(s:Int)/(U:Int)=(y:Int):=by rw[← hy]; simp
 have r6:(x:Int)*(U:Int)=(d:Int):=by rw[← hd]; simp
 have r7:(y:Int)*(U:Int)=(u:Int):=by rw[← hu]; simp
 have r8:u64.wrap (d:Int)=(d:Int):=by rw[IntKind.wrap_u64]; omega
 have r9:u64.wrap (u:Int)=(u:Int):=by rw[IntKind.wrap_u64]; omega
 have hne:((U:Int)==0)=false:=by simp; omega
 have hxl:x≤4294967295:=by rw[← hx]; exact Nat.le_trans (Nat.div_le_self _ _) (by omega)
 have hyl:y≤4297064448:=by rw[← hy]; exact Nat.le_trans (Nat.div_le_self _ _) (by omega)
 clear hx hy hd hu hU hs
 go_enter Tryz.func192,Tryz.ntmps192
 go_wp2
 go_quiet (fail)
 go_wp2
 go_ret2
 exact⟨rfl,_,rfl⟩
theorem Zt2 {b t k:Nat} (hk:k≤21) (hE:Qh b t=XZ b t (21-k) k) (hf:Uf b t k=true):Qh b t=k:=by
 rw[hE]
 rcases Nat.lt_or_ge k 21 with h|h
 ·rw[show 21-k=(20-k)+1 by omega,XZ,if_pos hf]
 ·rw[show 21-k=0 by omega]; rfl
theorem ZgF (b t:Nat) (w:World) (hb:b<4294967296) (hbt:b≤t) (ht:t≤4294967296) :
  Calls Tryz.prog 191 #[.int .u32 b,.int .u64 t] w fun e' w'=>e' = .returned (.int .u8 (Qh b t))∧∃ m,w'=w.drewN m:=by
 go_enter Tryz.func191,Tryz.ntmps191
 go_wp2
 go_loopw [5] (fun i wr=>∃ k m:Nat,k≤21∧i = .int .u8 k∧Hid (Qh b t=XZ b t (21-k) k)∧wr=w.drewN m) (fun i _=>(21-intOf i).toNat)
 case atStart=>exact⟨0,0,by omega,rfl,rfl,rfl⟩
 case round =>
  obtain⟨k,m,hk,rfl,HE,rfl⟩:=hrel
  have hd1:=Zny b k
  have hd2:=ZoX t k
  have hd3:=ZtS t k
  have hp:=Ko hk
  have hle:dnN b k≤upN t k:=by omega
  have hul:upN t k≤4294967296+2097152:=by omega
  have hpw:u64.wrap ((2048:Int)*2^k)=((2048*2^k:Nat):Int):=by
   rw[IntKind.wrap_u64,show((2:Int)^k)=((2^k:Nat):Int) by simp]
   generalize 2^k=z at hp
   omega
  obtain⟨p,hpp⟩:∃ p,2048*2^k=p:=⟨_,rfl⟩
  obtain⟨d,hd⟩:∃ d,dnN b k=d:=⟨_,rfl⟩
  obtain⟨u,hu⟩:∃ u,upN t k=u:=⟨_,rfl⟩
  have hra:=fun W=>ZdN b t k W hb ht hk
  have HF:Hid (Uf b t k=decide (u-d≤p)):=by show _=_; unfold Uf; rw[hpp,hd,hu]
  rw[hd,hu] at hra hle
  rw[hu] at hul
  rw[hpp] at hpw
  have HRA:=Qo hra
  clear hra hpp hd hu hd1 hd2 hd3 hp
  by_cases hf:(u:Int)-d≤p
  ·go_wp2_with (go_at_call 192; refine(HRA.out _).mono ?_; rintro e' w' ⟨rfl,m2,rfl⟩)
   go_ret
   have hft:Uf b t k=true:=by rw[HF.out]; simp; omega
   exact⟨Zl0 (by rw[Zt2 hk HE.out hft]),_,rfl⟩
  ·have hft:Uf b t k=false:=by rw[HF.out]; simp; omega
   have h21:k<21:=by
    rcases Nat.lt_or_ge k 21 with h|h
    ·exact h
    ·obtain rfl:k=21:=by omega
     rw[ZtT ht] at hft; cases hft
   have HT:Hid (Qh b t=XZ b t (21-(k+1)) (k+1)):=by
    show _=_
    rw[HE.out,show 21-k=(21-(k+1))+1 by omega,XZ,hft]; rfl
   clear hft
   go_wp2_with (go_at_call 192; refine(HRA.out _).mono ?_; rintro e' w' ⟨rfl,m2,rfl⟩)
   go_roundw
   case rel=>exact⟨k+1,_,by omega,by go_num,HT,rfl⟩
   case measure=>simp[intOf]; omega
theorem Zjp (b t:Nat) (w:World) (hb:b<4294967296) (ht:t<18446744073709551616) :
  Calls Tryz.prog 183 #[.int .u32 b,.int .u64 t] w fun e' w'=>e' = .returned (.tuple #[.int .u8 (ZdL b t),.int .u16 (ZeL b t),.int .u16 (ZeM b t),.bool (ZhM b t),.bool (QI b t)])∧∃ m,w'=w.drewN m:=by
 by_cases hr:QI b t=true
 ·obtain⟨h1,h2⟩:=Zap hr
  unfold ZdL ZeL ZeM ZhM
  rw[hr,if_pos rfl,if_pos rfl,if_pos rfl]
  have hex:=fun W=>ZgF b t W hb h1 h2
  have hk:=ZfN b t
  have hra:=fun W=>ZdN b t (Qh b t) W hb h2 hk
  obtain⟨k,hkk⟩:∃ k,Qh b t=k:=⟨_,rfl⟩
  rw[hkk] at hk hex hra ⊢
  have hd1:=Zny b k
  have hd3:=ZtS t k
  have hp:=Ko hk
  have h0:=XY k
  have hpw:u64.wrap ((2:Int)^k)=((2^k:Nat):Int):=by
   rw[IntKind.wrap_u64,show((2:Int)^k)=((2^k:Nat):Int) by simp]
   generalize 2^k=z at hp
   omega
  obtain⟨x,hx⟩:∃ x,b/2^k=x:=⟨_,rfl⟩
  have hdx:=ZAs b k
  rw[hx] at hdx ⊢
  obtain⟨d,hd⟩:∃ d,dnN b k=d:=⟨_,rfl⟩
  obtain⟨u,hu⟩:∃ u,upN t k=u:=⟨_,rfl⟩
  rw[hd] at hdx hd1 hra ⊢
  rw[hu] at hd3 hra ⊢
  obtain⟨y,hy⟩:∃ y,u/2^k=y:=⟨_,rfl⟩
  rw[hy]
  obtain⟨U,hU⟩:∃ U,2^k=U:=⟨_,rfl⟩
  rw[hU] at hp h0 hpw hdx hy hx hd3
  have hxl:x<4294967296:=by rw[← hx]; exact Nat.lt_of_le_of_lt (Nat.div_le_self _ _) hb
  have hyl:y≤4297064448:=by rw[← hy]; exact Nat.le_trans (Nat.div_le_self _ _) (by omega)
  have i1:(d:Int)/(U:Int)=(x:Int):=by rw[← hdx]; simp
  have i2:(u:Int)/(U:Int)=(y:Int):=by rw[← hy]; simp
  have hne:((U:Int)==0)=false:=by simp; omega
  obtain⟨xm,hxm⟩:∃ m,x%4096=m:=⟨_,rfl⟩
  obtain⟨ym,hym⟩:∃ m,y%4096=m:=⟨_,rfl⟩
  have hxml:xm<4096:=by omega
  have hyml:ym<4096:=by omega
  have i3:(x:Int)%4096=(xm:Int):=by rw[← hxm]; simp
  have i4:(y:Int)%4096=(ym:Int):=by rw[← hym]; simp
  rw[hxm,hym]
  have HX:=Qo hex
  have HRA:=Qo hra
  clear hkk hx hdx hd hu hy hxm hym hd1 hd3 hex hra hr hU
  have g1:decide ((t:Int)<b)=false:=by simp; omega
  have g2:decide ((4294967296:Int)<t)=false:=by simp; omega
  by_cases c1:d=b
  ·have d1:((d:Int)==b)=true:=by rw[c1]; simp
   have C1:=Qo c1
   clear c1
   go_enter Tryz.func183,Tryz.ntmps183
   go_wp2_with (first
    | (go_at_call 191; refine(HX.out _).mono ?_; rintro e' w' ⟨rfl,m1,rfl⟩)
    | (go_at_call 192; refine(HRA.out _).mono ?_; rintro e' w' ⟨rfl,m2,rfl⟩))
   go_quiet (fail)
   go_wp2
   refine bodyPost_ret (VH rfl _ _ _) rfl ⟨?_,_,World.drewN_drewN _ _ _⟩
   have c:=C1.out
   simp only[c,decide_true,Bool.true_and]
   exact ZnA (Zqt u t)
  ·have d1:((d:Int)==b)=false:=by simp; omega
   have C1:=Qo c1
   clear c1
   go_enter Tryz.func183,Tryz.ntmps183
   go_wp2_with (first
    | (go_at_call 191; refine(HX.out _).mono ?_; rintro e' w' ⟨rfl,m1,rfl⟩)
    | (go_at_call 192; refine(HRA.out _).mono ?_; rintro e' w' ⟨rfl,m2,rfl⟩))
   go_quiet (fail)
   go_wp2
   refine bodyPost_ret (VH rfl _ _ _) rfl ⟨?_,_,World.drewN_drewN _ _ _⟩
   have c:=C1.out
   simp only[c,decide_false,Bool.and_false,Bool.false_and]
   rfl
 ·have hr':QI b t=false:=by simpa using hr
  unfold ZdL ZeL ZeM ZhM
  rw[hr',if_neg (by simp),if_neg (by simp),if_neg (by simp)]
  have hcase:(t:Int)<b∨((b:Int)≤t∧(4294967296:Int)<t):=by
   simp only[QI,Bool.and_eq_false_iff,decide_eq_false_iff_not] at hr'; omega
  clear hr hr'
  rcases hcase with h1|⟨h1,h2⟩
  ·go_enter Tryz.func183,Tryz.ntmps183
   go_wp2
   exact bodyPost_ret (VH rfl _ _ _) rfl ⟨rfl,0,rfl⟩
  ·have g1:decide ((t:Int)<b)=false:=by simp; omega
   go_enter Tryz.func183,Tryz.ntmps183
   go_wp2
   exact bodyPost_ret (VH rfl _ _ _) rfl ⟨rfl,0,rfl⟩
theorem ZrK (b t:Nat) (w:World) (hb:b<4294967296) (ht:t<18446744073709551616) :
  Calls Tryz.prog 184 #[.int .u32 b,.int .u64 t] w fun e' w'=>e' = .returned (.tuple #[.int .u32 (if QI b t then dnN b (Qh b t) else 0:Nat),.int .u64 (if QI b t then upN t (Qh b t) else 0:Nat),.bool (QI b t)])∧∃ m,w'=w.drewN m:=by
 by_cases hr:QI b t=true
 ·obtain⟨h1,h2⟩:=Zap hr
  rw[hr,if_pos rfl,if_pos rfl]
  have hex:=fun W=>ZgF b t W hb h1 h2
  have hk:=ZfN b t
  have hra:=fun W=>ZdN b t (Qh b t) W hb h2 hk
  obtain⟨k,hkk⟩:∃ k,Qh b t=k:=⟨_,rfl⟩
  rw[hkk] at hk hex hra ⊢
  have hd1:=Zny b k
  obtain⟨d,hd⟩:∃ d,dnN b k=d:=⟨_,rfl⟩
  obtain⟨u,hu⟩:∃ u,upN t k=u:=⟨_,rfl⟩
  rw[hd] at hd1 hra ⊢
  rw[hu] at hra ⊢
  have HX:=Qo hex
  have HRA:=Qo hra
  have g1:decide ((t:Int)<b)=false:=by simp; omega
  have g2:decide ((4294967296:Int)<t)=false:=by simp; omega
  clear hkk hd hu hex hra hr
  go_enter Tryz.func184,Tryz.ntmps184
  go_wp2_with (first
    | (go_at_call 191; refine(HX.out _).mono ?_; rintro e' w' ⟨rfl,m1,rfl⟩)
    | (go_at_call 192; refine(HRA.out _).mono ?_; rintro e' w' ⟨rfl,m2,rfl⟩))
  go_ret3
  exact⟨rfl,_,rfl⟩
 ·have hr':QI b t=false:=by simpa using hr
  rw[hr',if_neg (by simp),if_neg (by simp)]
  have hcase:(t:Int)<b∨((b:Int)≤t∧(4294967296:Int)<t):=by
   simp only[QI,Bool.and_eq_false_iff,decide_eq_false_iff_not] at hr'; omega
  clear hr hr'
  rcases hcase with h1|⟨h1,h2⟩
  ·go_enter Tryz.func184,Tryz.ntmps184
   go_wp2
   go_ret3
   exact⟨rfl,0,rfl⟩
  ·have g1:decide ((t:Int)<b)=false:=by simp; omega
   go_enter Tryz.func184,Tryz.ntmps184
   go_wp2
   go_ret3
   exact⟨rfl,0,rfl⟩
attribute [local go_sem ↓] Go.wp_at_zero Go.wp_at_succ
theorem ZgG (cC cE cB cT cP cY cR:Nat) (cV:Bool) (x y:Nat) (w:World) (cl:ZcJ cC cE cB cT cP cY cR) (hx:(Vg cE cB cT cC).1=x) (hy:(Vg cE cB cT cC).2=y) :
  Calls Tryz.prog 111 #[.agg #[.int .u32 cC,.int .u8 cE,.int .u16 cB,.int .u16 cT,.int .u16 cP,.int .u16 cY,.int .u32 cR,.bool cV]] w fun e' w'=>e' = .returned (.tuple #[.int .u32 x,.int .u64 y])∧Below w.heap.size w w':=by
 have HD:Hid (∀ W,Calls Tryz.prog 168 #[.int .u8 cE,.int .u16 cB,.int .u16 cT,.int .u32 cC] W fun e' w'=>e' = .returned (.tuple #[.int .u32 x,.int .u64 y])∧W=w'):=fun W=>by
  have:=ZoZ cE cB cT cC W cl.2.1 cl.2.2.1 cl.2.2.2.1 cl.1
  rwa [hx,hy] at this
 clear hx hy
 go_enter Tryz.func111,Tryz.ntmps111
 go_wp2_with fail
 refine(HD.out _).mono ?_
 rintro e' w1 ⟨rfl,rfl⟩
 go_wp2
 go_ret2
 exact⟨rfl,by(repeat (first|exact Below.refl _ _|refine Below.drew ?_|refine ZJ ?_ _|refine Below.alloc ?_ (by simp<;>omega) _|refine Below.setCell ?_ (by simp<;>omega) _))⟩
theorem ZrL (cC cE cB cT cP cY cR:Nat) (cV:Bool) (a s x y:Nat) (w:World) (cl:ZcJ cC cE cB cT cP cY cR) (ha:a<4294967296) (hs:s<4294967296) (hx:(Vg cE cB cT cC).1=x) (hy:(Vg cE cB cT cC).2=y) :
  Calls Tryz.prog 104 #[.agg #[.int .u32 cC,.int .u8 cE,.int .u16 cB,.int .u16 cT,.int .u16 cP,.int .u16 cY,.int .u32 cR,.bool cV],.agg #[.int .u32 a,.int .u32 s]] w fun e' w'=>e' = .returned (.bool (Za1 x y a s))∧Below w.heap.size w w':=by
 have HR:Hid (∀ W,Calls Tryz.prog 111 #[.agg #[.int .u32 cC,.int .u8 cE,.int .u16 cB,.int .u16 cT,.int .u16 cP,.int .u16 cY,.int .u32 cR,.bool cV]] W fun e' w'=>e' = .returned (.tuple #[.int .u32 x,.int .u64 y])∧Below W.heap.size W w'):=fun W=>ZgG cC cE cB cT cP cY cR cV x y W cl hx hy
 have hh:Za1 x y a s=(decide (x≤a)&&decide ((a:Int)+s≤y)):=by
  unfold Za1
  rw[show decide (a+s≤y)=decide ((a:Int)+s≤y) by rw[decide_eq_decide]; omega]
 rw[hh]
 clear hh hx hy
 by_cases h1:x≤a
 ·rw[lR h1,Bool.true_and]
  go_enter Tryz.func104,Tryz.ntmps104
  go_wp2_with fail
  refine(HR.out _).mono ?_
  rintro e' w1 ⟨rfl,hb1⟩
  obtain⟨hc1,hf1⟩:=Jj hb1
  have hz1:=hb1.size
  simp at hz1
  have HB1:=Qo hb1; clear hb1
  go_wp2
  go_ret
  exact⟨rfl,(((Below.refl _ _).alloc (Nat.le_refl _) _).alloc (by simp) _).trans (HB1.out.mono (by simp; omega))⟩
 ·have d1:decide (x≤a)=false:=by simpa using h1
  rw[d1,Bool.false_and]
  go_enter Tryz.func104,Tryz.ntmps104
  go_wp2_with fail
  refine(HR.out _).mono ?_
  rintro e' w1 ⟨rfl,hb1⟩
  obtain⟨hc1,hf1⟩:=Jj hb1
  have hz1:=hb1.size
  simp at hz1
  have HB1:=Qo hb1; clear hb1
  go_wp2
  go_ret
  exact⟨rfl,(((Below.refl _ _).alloc (Nat.le_refl _) _).alloc (by simp) _).trans (HB1.out.mono (by simp; omega))⟩
theorem Zo0 (aC aE aB aT aP aY aR:Nat) (aV:Bool) (bC bE bB bT bP bY bR:Nat) (bV:Bool) (x y u v:Nat) (w:World) (al:ZcJ aC aE aB aT aP aY aR) (bl:ZcJ bC bE bB bT bP bY bR) (hx:(Vg aE aB aT aC).1=x) (hy:(Vg aE aB aT aC).2=y) (hu:(Vg bE bB bT bC).1=u) (hv:(Vg bE bB bT bC).2=v) :
  Calls Tryz.prog 171 #[.agg #[.int .u32 aC,.int .u8 aE,.int .u16 aB,.int .u16 aT,.int .u16 aP,.int .u16 aY,.int .u32 aR,.bool aV],.agg #[.int .u32 bC,.int .u8 bE,.int .u16 bB,.int .u16 bT,.int .u16 bP,.int .u16 bY,.int .u32 bR,.bool bV]] w fun e' w'=>e' = .returned (.bool (ZdM aP bP x y u v))∧Below w.heap.size w w':=by
 have HA:Hid (∀ W,Calls Tryz.prog 111 #[.agg #[.int .u32 aC,.int .u8 aE,.int .u16 aB,.int .u16 aT,.int .u16 aP,.int .u16 aY,.int .u32 aR,.bool aV]] W fun e' w'=>e' = .returned (.tuple #[.int .u32 x,.int .u64 y])∧Below W.heap.size W w'):=fun W=>ZgG aC aE aB aT aP aY aR aV x y W al hx hy
 have HB:Hid (∀ W,Calls Tryz.prog 111 #[.agg #[.int .u32 bC,.int .u8 bE,.int .u16 bB,.int .u16 bT,.int .u16 bP,.int .u16 bY,.int .u32 bR,.bool bV]] W fun e' w'=>e' = .returned (.tuple #[.int .u32 u,.int .u64 v])∧Below W.heap.size W w'):=fun W=>ZgG bC bE bB bT bP bY bR bV u v W bl hu hv
 have hs:=ZBT al.2.2.2.2.1 bl.2.2.2.2.1
 have hxl:x<4294967296:=by rw[← hx]; exact(ZnB _ _ _ _).1
 have hul:u<4294967296:=by rw[← hu]; exact(ZnB _ _ _ _).1
 rw[ZnE]
 clear hx hy hu hv
 obtain⟨k,hk⟩:∃ k,ZAu aP bP=k:=⟨_,rfl⟩
 rw[hk] at hs ⊢
 clear hk
 cases k with
 | false =>
  rw[Bool.false_and]
  go_enter Tryz.func171,Tryz.ntmps171
  go_wp2_with fail
  refine(HA.out _).mono ?_
  rintro e' w1 ⟨rfl,hb1⟩
  obtain⟨hc1,hf1⟩:=Jj hb1
  have hz1:=hb1.size
  simp at hz1
  have HB1:=Qo hb1
  go_wp2_with fail
  refine(HB.out _).mono ?_
  rintro e' w2 ⟨rfl,hb2⟩
  have f0:w2.cell? ⟨w.heap.size,4,none⟩=some (.int .u16 aP):=(((Blk.new1 w _ _ _).below hb1 (by simp; omega)).below hb2 (by omega)).cell 4
  have f1:w2.cell? ⟨w.heap.size+1,4,none⟩=some (.int .u16 bP):=(((Blk.new2 w _ _ _).below hb1 (by simp)).below hb2 (by omega)).cell 4
  have HB2:=Qo hb2; clear hb2 hc1 hf1 hb1
  go_wp2
  go_ret
  exact⟨rfl,((((Below.refl _ _).alloc (Nat.le_refl _) _).alloc (by simp) _).trans (HB1.out.mono (by simp; omega))).trans (HB2.out.mono (by omega))⟩
 | true =>
  rw[Bool.true_and]
  by_cases c1:y≤x
  ·rw[lR c1,Bool.true_or]
   go_enter Tryz.func171,Tryz.ntmps171
   go_wp2_with fail
   refine(HA.out _).mono ?_
   rintro e' w1 ⟨rfl,hb1⟩
   obtain⟨hc1,hf1⟩:=Jj hb1
   have hz1:=hb1.size
   simp at hz1
   have HB1:=Qo hb1
   go_wp2_with fail
   refine(HB.out _).mono ?_
   rintro e' w2 ⟨rfl,hb2⟩
   have f0:w2.cell? ⟨w.heap.size,4,none⟩=some (.int .u16 aP):=(((Blk.new1 w _ _ _).below hb1 (by simp; omega)).below hb2 (by omega)).cell 4
   have f1:w2.cell? ⟨w.heap.size+1,4,none⟩=some (.int .u16 bP):=(((Blk.new2 w _ _ _).below hb1 (by simp)).below hb2 (by omega)).cell 4
   have HB2:=Qo hb2; clear hb2 hc1 hf1 hb1
   go_wp2
   go_ret
   exact⟨rfl,((((Below.refl _ _).alloc (Nat.le_refl _) _).alloc (by simp) _).trans (HB1.out.mono (by simp; omega))).trans (HB2.out.mono (by omega))⟩
  ·have d1:decide (y≤x)=false:=by simpa using c1
   rw[d1,Bool.false_or]
   by_cases c2:u≤x
   ·rw[lR c2,Bool.true_and]
    go_enter Tryz.func171,Tryz.ntmps171
    go_wp2_with fail
    refine(HA.out _).mono ?_
    rintro e' w1 ⟨rfl,hb1⟩
    obtain⟨hc1,hf1⟩:=Jj hb1
    have hz1:=hb1.size
    simp at hz1
    have HB1:=Qo hb1
    go_wp2_with fail
    refine(HB.out _).mono ?_
    rintro e' w2 ⟨rfl,hb2⟩
    have f0:w2.cell? ⟨w.heap.size,4,none⟩=some (.int .u16 aP):=(((Blk.new1 w _ _ _).below hb1 (by simp; omega)).below hb2 (by omega)).cell 4
    have f1:w2.cell? ⟨w.heap.size+1,4,none⟩=some (.int .u16 bP):=(((Blk.new2 w _ _ _).below hb1 (by simp)).below hb2 (by omega)).cell 4
    have HB2:=Qo hb2; clear hb2 hc1 hf1 hb1
    go_wp2
    go_ret
    exact⟨rfl,((((Below.refl _ _).alloc (Nat.le_refl _) _).alloc (by simp) _).trans (HB1.out.mono (by simp; omega))).trans (HB2.out.mono (by omega))⟩
   ·have d2:decide (u≤x)=false:=by simpa using c2
    rw[d2,Bool.false_and]
    go_enter Tryz.func171,Tryz.ntmps171
    go_wp2_with fail
    refine(HA.out _).mono ?_
    rintro e' w1 ⟨rfl,hb1⟩
    obtain⟨hc1,hf1⟩:=Jj hb1
    have hz1:=hb1.size
    simp at hz1
    have HB1:=Qo hb1
    go_wp2_with fail
    refine(HB.out _).mono ?_
    rintro e' w2 ⟨rfl,hb2⟩
    have f0:w2.cell? ⟨w.heap.size,4,none⟩=some (.int .u16 aP):=(((Blk.new1 w _ _ _).below hb1 (by simp; omega)).below hb2 (by omega)).cell 4
    have f1:w2.cell? ⟨w.heap.size+1,4,none⟩=some (.int .u16 bP):=(((Blk.new2 w _ _ _).below hb1 (by simp)).below hb2 (by omega)).cell 4
    have HB2:=Qo hb2; clear hb2 hc1 hf1 hb1
    go_wp2
    go_ret
    exact⟨rfl,((((Below.refl _ _).alloc (Nat.le_refl _) _).alloc (by simp) _).trans (HB1.out.mono (by simp; omega))).trans (HB2.out.mono (by omega))⟩
theorem Zl7 (cC cE cB cT cP cY cR:Nat) (cV:Bool) (w:World) :
  Calls Tryz.prog 120 #[.agg #[.int .u32 cC,.int .u8 cE,.int .u16 cB,.int .u16 cT,.int .u16 cP,.int .u16 cY,.int .u32 cR,.bool cV]] w fun e' w'=>e' = .returned (.bool (Zl5 cC cE cB cT cP cY cR cV cC 0 0 0 0 0 0 false))∧Below w.heap.size w w':=by
 have he:=fun W=>ZtZ cC cE cB cT cP cY cR cV cC 0 0 0 0 0 0 false W
 generalize Zl5 cC cE cB cT cP cY cR cV cC 0 0 0 0 0 0 false=k at *
 simp only[Int.cast_ofNat_Int] at he
 go_enter Tryz.func120,Tryz.ntmps120
 go_wp2
 go_ret
 exact⟨rfl,by(repeat (first|exact Below.refl _ _|refine Below.drew ?_|refine ZJ ?_ _|refine Below.alloc ?_ (by simp<;>omega) _|refine Below.setCell ?_ (by simp<;>omega) _))⟩
attribute [local go_sem ↓] Go.wp_at_zero Go.wp_at_succ
def WO (e b t p y r:Nat):Bool:=decide (e<22)&&decide (b<4096)&&decide (t<4096)&&decide (p<256)&&decide (y<4096)&&decide (r<16777216)
def Zjq (f:Nat→Nat) (n:Nat):Bool:=decide (∀ k,k<n→f (2*k)<f (2*k+1))
def BelA (w wr:World) (f:Nat→Nat) (i:Value):Prop:=∃ k:Nat,k≤6∧i = .int .i64 (2*(k:Int))∧(∀ j,j<k→f (2*j)<f (2*j+1))∧∃ m,wr=w.drewN m
theorem Zt3 (g:Nat) (f:Nat→Nat) (w:World) (hc:∀ j,j<12→w.cell? ⟨g,j,none⟩=some (.int .u32 (f j))) :
  Calls Tryz.prog 97 #[.slice (some ⟨g,0,none⟩) 12 12] w fun e w'=>e = .returned (.bool (Zjq f 6))∧∃ m,w'=w.drewN m:=by
 have HC:=Qo hc; clear hc
 go_enter Tryz.func97,Tryz.ntmps97
 go_wp2
 go_loopw [3] (fun i wr=>BelA w wr f i) (fun i _=>12-(intOf i).toNat)
 case atStart=>exact⟨0,by omega,rfl,fun j hj=>absurd hj (by omega),0,rfl⟩
 case round =>
  obtain⟨k,hk,rfl,hall,m,rfl⟩:=hrel
  have HA:=Qo hall; clear hall
  by_cases hlt:k<6
  ·have i1:2*(k:Int)+1<12:=by omega
   have i0:0≤2*(k:Int):=by omega
   have c0:=HC.out (2*k) (by omega)
   have c1:=HC.out (2*k+1) (by omega)
   obtain⟨x,hx⟩:∃ x,f (2*k)=x:=⟨_,rfl⟩
   obtain⟨y,hy⟩:∃ y,f (2*k+1)=y:=⟨_,rfl⟩
   rw[hx] at c0
   rw[hy] at c1
   have e0:(2*(k:Int)).toNat=2*k:=by omega
   have e1:(2*(k:Int)+1).toNat=2*k+1:=by omega
   have e2:i64.wrap (2*(k:Int)+1)=2*(k:Int)+1:=IntWalk.i64_in _ (by omega)
   have e3:0≤2*(k:Int)+1:=by omega
   have HX:=Qo hx
   have HY:=Qo hy
   clear hx hy
   by_cases hxy:x<y
   ·have d1:decide (y≤x)=false:=by simp; omega
    go_wp2_with fail
    go_quiet (fail)
    go_wp2
    go_roundw
    case rel=>exact⟨k+1,by omega,by first|rfl|(congr 1; omega),fun j hj=>by
      by_cases h:j<k
      ·exact HA.out j h
      ·obtain rfl:j=k:=by omega
       rw[HX.out,HY.out]; exact hxy,_,rfl⟩
    case measure=>simp[intOf]; omega
   ·have d1:decide (y≤x)=true:=by simp; omega
    go_wp2_with fail
    go_quiet (fail)
    go_wp2
    go_ret
    refine⟨Wl ?_,_,World.drewN_drewN _ _ _⟩
    unfold Zjq
    symm
    rw[decide_eq_false_iff_not]
    intro h
    have:=h k hlt
    rw[HX.out,HY.out] at this
    exact hxy this
  ·obtain rfl:k=6:=by omega
   go_wp2
   go_ret
   refine⟨Wl ?_,_,rfl⟩
   unfold Zjq
   symm
   rw[decide_eq_true_eq]
   exact HA.out
theorem Zo1 (e b t p y r:Nat) (f:Nat→Nat) (h0:f 0=e) (h1:f 1=22) (h2:f 2=b) (h3:f 3=4096) (h4:f 4=t) (h5:f 5=4096) (h6:f 6=p) (h7:f 7=256) (h8:f 8=y) (h9:f 9=4096) (h10:f 10=r) (h11:f 11=16777216) :
  Zjq f 6=WO e b t p y r:=by
 rw[Bool.eq_iff_iff]
 unfold Zjq WO
 simp only[decide_eq_true_eq,Bool.and_eq_true]
 constructor
 ·intro h
  have a0:=h 0 (by omega)
  have a1:=h 1 (by omega)
  have a2:=h 2 (by omega)
  have a3:=h 3 (by omega)
  have a4:=h 4 (by omega)
  have a5:=h 5 (by omega)
  simp only[Nat.mul_zero,Nat.zero_add,Nat.mul_one,Nat.reduceMul,Nat.reduceAdd] at a0 a1 a2 a3 a4 a5
  omega
 ·intro h k hk
  have hk':k=0∨k=1∨k=2∨k=3∨k=4∨k=5:=by omega
  rcases hk' with rfl|rfl|rfl|rfl|rfl|rfl<;>simp only[Nat.mul_zero,Nat.zero_add,Nat.mul_one,Nat.reduceMul,Nat.reduceAdd]<;>omega
theorem Zjr (cC cE cB cT cP cY cR:Nat) (cV:Bool) (w:World) (cl:ZcJ cC cE cB cT cP cY cR) :
  Calls Tryz.prog 46 #[.agg #[.int .u32 cC,.int .u8 cE,.int .u16 cB,.int .u16 cT,.int .u16 cP,.int .u16 cY,.int .u32 cR,.bool cV]] w fun e' w'=>e' = .returned (.bool (WO cE cB cT cP cY cR))∧Below w.heap.size w w':=by
 obtain⟨cCl,cEl,cBl,cTl,cPl,cYl,cRl⟩:=cl
 obtain⟨f,hf⟩:∃ f:Nat→Nat,f=fun j=>[cE,22,cB,4096,cT,4096,cP,256,cY,4096,cR,16777216].getD j 0:=⟨_,rfl⟩
 have hps:=Zo1 cE cB cT cP cY cR f (by rw[hf]; rfl) (by rw[hf]; rfl) (by rw[hf]; rfl) (by rw[hf]; rfl) (by rw[hf]; rfl) (by rw[hf]; rfl) (by rw[hf]; rfl) (by rw[hf]; rfl) (by rw[hf]; rfl) (by rw[hf]; rfl) (by rw[hf]; rfl) (by rw[hf]; rfl)
 have HPS:=Qo hps
 have HF:Hid (∀ W g,Blk W g 22 #[.int .u32 cE,.int .u32 22,.int .u32 cB,.int .u32 4096,.int .u32 cT,.int .u32 4096,.int .u32 cP,.int .u32 256,.int .u32 cY,.int .u32 4096,.int .u32 cR,.int .u32 16777216]→∀ j,j<12→W.cell? ⟨g,j,none⟩=some (.int .u32 (f j))):=fun W g hb j hj=>by
  have hj':j=0∨j=1∨j=2∨j=3∨j=4∨j=5∨j=6∨j=7∨j=8∨j=9∨j=10∨j=11:=by omega
  rcases hj' with rfl|rfl|rfl|rfl|rfl|rfl|rfl|rfl|rfl|rfl|rfl|rfl<;>(rw[hf]; exact hb.cell _)
 clear hps hf
 go_enter Tryz.func46,Tryz.ntmps46
 go_wp2_with fail
 refine(Zt3 _ f _ (HF.out _ _ (Blk.new2 w _ _ _))).mono ?_
 rintro e' w1 ⟨rfl,m,rfl⟩
 go_wp2
 go_ret
 exact⟨Wl HPS.out,by(repeat (first|(with_reducible exact Below.refl _ _)|(with_reducible refine Below.drew ?_)|(with_reducible refine ZJ ?_ _)|(with_reducible refine Below.alloc ?_ (by simp<;>omega) _)|(with_reducible refine Below.setCell ?_ (by simp<;>omega) _)))⟩
theorem ZkM (cC cE cB cT cP cY cR:Nat) (cV:Bool) (w:World) (cl:ZcJ cC cE cB cT cP cY cR) :
  Calls Tryz.prog 96 #[.agg #[.int .u32 cC,.int .u8 cE,.int .u16 cB,.int .u16 cT,.int .u16 cP,.int .u16 cY,.int .u32 cR,.bool cV]] w fun e' w'=>e' = .returned (.bool (WO cE cB cT cP cY cR))∧Below w.heap.size w w':=by
 obtain⟨cCl,cEl,cBl,cTl,cPl,cYl,cRl⟩:=cl
 have hs:WO cE cB cT cP cY cR=(decide ((cE:Int)≤21)&&(decide ((cB:Int)<4096)&&(decide ((cT:Int)<4096)&&(decide ((cP:Int)≤255)&&(decide ((cY:Int)<4096)&&decide ((cR:Int)<16777216)))))):=by
  unfold WO
  rw[Bool.eq_iff_iff]
  simp only[Bool.and_eq_true,decide_eq_true_eq]
  omega
 rw[hs]
 clear hs
 by_cases c1:(cE:Int)≤21
 ·by_cases c2:(cB:Int)<4096
  ·by_cases c3:(cT:Int)<4096
   ·by_cases c4:(cP:Int)≤255
    ·by_cases c5:(cY:Int)<4096
     ·rw[lR c1,lR c2,lR c3,lR c4,lR c5]
      simp only[Bool.true_and]
      go_enter Tryz.func96,Tryz.ntmps96
      go_wp2
      go_ret
      exact⟨rfl,by(repeat (first|(with_reducible exact Below.refl _ _)|(with_reducible refine Below.drew ?_)|(with_reducible refine ZJ ?_ _)|(with_reducible refine Below.alloc ?_ (by simp<;>omega) _)|(with_reducible refine Below.setCell ?_ (by simp<;>omega) _)))⟩
     ·have d:decide ((cY:Int)<4096)=false:=by simpa using c5
      rw[d,lR c1,lR c2,lR c3,lR c4]
      simp only[Bool.true_and,Bool.false_and]
      go_enter Tryz.func96,Tryz.ntmps96
      go_wp2
      go_ret
      exact⟨rfl,by(repeat (first|(with_reducible exact Below.refl _ _)|(with_reducible refine Below.drew ?_)|(with_reducible refine ZJ ?_ _)|(with_reducible refine Below.alloc ?_ (by simp<;>omega) _)|(with_reducible refine Below.setCell ?_ (by simp<;>omega) _)))⟩
    ·have d:decide ((cP:Int)≤255)=false:=by simpa using c4
     rw[d,lR c1,lR c2,lR c3]
     simp only[Bool.true_and,Bool.false_and]
     go_enter Tryz.func96,Tryz.ntmps96
     go_wp2
     go_ret
     exact⟨rfl,by(repeat (first|(with_reducible exact Below.refl _ _)|(with_reducible refine Below.drew ?_)|(with_reducible refine ZJ ?_ _)|(with_reducible refine Below.alloc ?_ (by simp<;>omega) _)|(with_reducible refine Below.setCell ?_ (by simp<;>omega) _)))⟩
   ·have d:decide ((cT:Int)<4096)=false:=by simpa using c3
    rw[d,lR c1,lR c2]
    simp only[Bool.true_and,Bool.false_and]
    go_enter Tryz.func96,Tryz.ntmps96
    go_wp2
    go_ret
    exact⟨rfl,by(repeat (first|(with_reducible exact Below.refl _ _)|(with_reducible refine Below.drew ?_)|(with_reducible refine ZJ ?_ _)|(with_reducible refine Below.alloc ?_ (by simp<;>omega) _)|(with_reducible refine Below.setCell ?_ (by simp<;>omega) _)))⟩
  ·have d:decide ((cB:Int)<4096)=false:=by simpa using c2
   rw[d,lR c1]
   simp only[Bool.true_and,Bool.false_and]
   go_enter Tryz.func96,Tryz.ntmps96
   go_wp2
   go_ret
   exact⟨rfl,by(repeat (first|(with_reducible exact Below.refl _ _)|(with_reducible refine Below.drew ?_)|(with_reducible refine ZJ ?_ _)|(with_reducible refine Below.alloc ?_ (by simp<;>omega) _)|(with_reducible refine Below.setCell ?_ (by simp<;>omega) _)))⟩
 ·have d:decide ((cE:Int)≤21)=false:=by simpa using c1
  rw[d]
  simp only[Bool.false_and]
  go_enter Tryz.func96,Tryz.ntmps96
  go_wp2
  go_ret
  exact⟨rfl,by(repeat (first|(with_reducible exact Below.refl _ _)|(with_reducible refine Below.drew ?_)|(with_reducible refine ZJ ?_ _)|(with_reducible refine Below.alloc ?_ (by simp<;>omega) _)|(with_reducible refine Below.setCell ?_ (by simp<;>omega) _)))⟩
attribute [local go_sem ↓] Go.wp_at_zero Go.wp_at_succ
def ZAv (b:Nat→Bool):Nat→Bool
 | 0=>true
 | k+1=>ZAv b k&&b k
structure Asked (w:World) (g n:Nat) (F:Nat→FuncId) (fi ca:Nat→Array Value) (b:Nat→Bool):Prop where
 cell:∀ j,j<n→w.cell? ⟨g,j,none⟩=some (.func (.func (F j)) (fi j) (ca j))
 calls:∀ j,j<n→∀ W,Below w.heap.size w W→Calls Tryz.prog (F j) (fi j++ca j) W fun e W'=>e = .returned (.bool (b j))∧Below W.heap.size W W'
 runs:∀ j,j<n→∀ W,(callFunc (F j) (fi j++ca j)).run Tryz.prog W = .ok (.enter (F j) (fi j++ca j)) W
 lt:g<w.heap.size
def ZL5 (w wr:World) (cC cE cB cT cP cY cR:Nat) (n:Nat) (b:Nat→Bool) (i:Value):Prop :=
 ∃ k:Nat,k≤n∧i = .int .i64 k∧Blk wr w.heap.size 30 #[.int .u32 cC,.int .u8 cE,.int .u16 cB,.int .u16 cT,.int .u16 cP,.int .u16 cY,.int .u32 cR,.bool (ZAv b k)] ∧
  Blk wr (w.heap.size+1) 30 #[.int .u32 0,.int .u8 0,.int .u16 0,.int .u16 0,.int .u16 0,.int .u16 0,.int .u32 0,.bool false]∧Below w.heap.size w wr
set_option maxHeartbeats 1000000 in
theorem ZiB (cC cE cB cT cP cY cR:Nat) (cV:Bool) (g n:Nat) (F:Nat→FuncId) (fi ca:Nat→Array Value) (b:Nat→Bool) (w:World) (hn:n≤1000) (h:Asked w g n F fi ca b) :
  Calls Tryz.prog 132 #[.agg #[.int .u32 cC,.int .u8 cE,.int .u16 cB,.int .u16 cT,.int .u16 cP,.int .u16 cY,.int .u32 cR,.bool cV],.slice (some ⟨g,0,none⟩) n n] w fun e w'=>e = .returned (.agg #[.int .u32 cC,.int .u8 cE,.int .u16 cB,.int .u16 cT,.int .u16 cP,.int .u16 cY,.int .u32 cR,.bool (ZAv b n)])∧Below w.heap.size w w':=by
 have H:=Qo h; clear h
 go_enter Tryz.func132,Tryz.ntmps132
 go_wp2
 go_loopw [10] (fun i wr=>ZL5 w wr cC cE cB cT cP cY cR n b i) (fun i _=>n-(intOf i).toNat)
 case atStart=>exact⟨0,by omega,rfl,Blk.new1 w _ _ _,Blk.new2 w _ _ _,((Below.refl _ _).alloc (Nat.le_refl _) _).alloc (by simp) _⟩
 case round =>
  obtain⟨k,hk,rfl,hq1,hq2,hb⟩:=hrel
  have f7:=hq1.cell 7
  have z7:=hq1.frozen 7
  have HQ1:=Qo hq1
  have HQ2:=Qo hq2
  have HB:=Qo hb
  simp at f7
  by_cases hlt:k<n
  ·have cg:=(hb.cell (p:=⟨g,k,none⟩) H.out.lt).trans (H.out.cell k hlt)
   have hrun:=H.out.runs k hlt
   have HC:=Qo (H.out.calls k hlt wr hb)
   clear hq1 hq2 hb
   obtain⟨acc,hacc⟩:∃ a,ZAv b k=a:=⟨_,rfl⟩
   have HA:Hid (ZAv b (k+1)=(acc&&b k)):=by show _=_; rw[ZAv,hacc]
   rw[hacc] at f7 HQ1
   clear hacc
   have i1:(k:Int)<n:=by omega
   cases acc with
   | true =>
    go_wp2_with fail
    refine HC.out.mono ?_
    rintro e w2 ⟨rfl,hb2⟩
    have q1:=HQ1.out.below hb2 HQ1.out.lt
    have q2:=HQ2.out.below hb2 HQ2.out.lt
    have k2:=HB.out.trans (hb2.mono HB.out.size)
    have g7:=q1.cell 7
    have y7:=q1.frozen 7
    simp at g7
    rw[Bool.true_and] at HA
    obtain⟨r,hr⟩:∃ r,b k=r:=⟨_,rfl⟩
    rw[hr] at HA ⊢
    have R1:Hid (Blk (w2.setCell ⟨w.heap.size,7,none⟩ (.bool r)) w.heap.size 30 #[.int .u32 cC,.int .u8 cE,.int .u16 cB,.int .u16 cT,.int .u16 cP,.int .u16 cY,.int .u32 cR,.bool r]):=q1.set_ 7 _
    have R2:Hid (Blk (w2.setCell ⟨w.heap.size,7,none⟩ (.bool r)) (w.heap.size+1) 30 #[.int .u32 0,.int .u8 0,.int .u16 0,.int .u16 0,.int .u16 0,.int .u16 0,.int .u32 0,.bool false]):=q2.far (p:=⟨w.heap.size,7,none⟩) (show w.heap.size+1≠w.heap.size by omega) _
    have R3:Hid (Below w.heap.size w (w2.setCell ⟨w.heap.size,7,none⟩ (.bool r))):=k2.setCell (p:=⟨w.heap.size,7,none⟩) (Nat.le_refl _) _
    clear hb2 q1 q2 k2 hr hrun
    go_wp2
    go_roundw
    case rel=>exact⟨k+1,by omega,by go_num,by rw[HA.out]; exact R1.out,R2.out,R3.out⟩
    case measure=>simp[intOf]; omega
   | false =>
    rw[Bool.false_and] at HA
    have R1:Hid (Blk (wr.setCell ⟨w.heap.size,7,none⟩ (.bool false)) w.heap.size 30 #[.int .u32 cC,.int .u8 cE,.int .u16 cB,.int .u16 cT,.int .u16 cP,.int .u16 cY,.int .u32 cR,.bool false]):=HQ1.out.set_ 7 _
    have R2:Hid (Blk (wr.setCell ⟨w.heap.size,7,none⟩ (.bool false)) (w.heap.size+1) 30 #[.int .u32 0,.int .u8 0,.int .u16 0,.int .u16 0,.int .u16 0,.int .u16 0,.int .u32 0,.bool false]):=HQ2.out.far (p:=⟨w.heap.size,7,none⟩) (show w.heap.size+1≠w.heap.size by omega) _
    have R3:Hid (Below w.heap.size w (wr.setCell ⟨w.heap.size,7,none⟩ (.bool false))):=HB.out.setCell (p:=⟨w.heap.size,7,none⟩) (Nat.le_refl _) _
    clear hrun
    go_wp2
    go_roundw
    case rel=>exact⟨k+1,by omega,by go_num,by rw[HA.out]; exact R1.out,R2.out,R3.out⟩
    case measure=>simp[intOf]; omega
  ·obtain rfl:k=n:=by omega
   obtain⟨acc,hacc⟩:∃ a,ZAv b k=a:=⟨_,rfl⟩
   rw[hacc] at HQ1 f7
   have HACC:=Qo hacc
   have q1:=HQ1.out
   have q2:=HQ2.out
   clear hq1 hq2 hb hacc
   have c0:=q1.cell 0
   have d0:=q2.cell 0
   have z0:=q2.frozen 0
   have c1:=q1.cell 1
   have d1:=q2.cell 1
   have z1:=q2.frozen 1
   have c2:=q1.cell 2
   have d2:=q2.cell 2
   have z2:=q2.frozen 2
   have c3:=q1.cell 3
   have d3:=q2.cell 3
   have z3:=q2.frozen 3
   have c4:=q1.cell 4
   have d4:=q2.cell 4
   have z4:=q2.frozen 4
   have c5:=q1.cell 5
   have d5:=q2.cell 5
   have z5:=q2.frozen 5
   have c6:=q1.cell 6
   have d6:=q2.cell 6
   have z6:=q2.frozen 6
   have c7:=q1.cell 7
   have d7:=q2.cell 7
   have z7:=q2.frozen 7
   simp at c0 c1 c2 c3 c4 c5 c6 c7 d0 d1 d2 d3 d4 d5 d6 d7
   clear q1 q2
   go_wp2
   refine bodyPost_ret (v:=.agg #[.int .u32 cC,.int .u8 cE,.int .u16 cB,.int .u16 cT,.int .u16 cP,.int .u16 cY,.int .u32 cR,.bool acc]) (by simp[results,Tryz.results132,go_sem,d0,d1,d2,d3,d4,d5,d6,d7]) rfl ⟨by rw[HACC.out],?_⟩
   repeat (refine Below.setCell ?_ (by simp<;>omega) _)
   exact HB.out
attribute [local go_sem ↓] Go.wp_at_zero Go.wp_at_succ
def XE (cY:Nat) (cV:Bool):Bool:=cV&&decide (cY=0)
theorem Za2 (cC cE cB cT cP cY cR:Nat) (cV:Bool) (w:World) :
  Calls Tryz.prog 131 #[.agg #[.int .u32 cC,.int .u8 cE,.int .u16 cB,.int .u16 cT,.int .u16 cP,.int .u16 cY,.int .u32 cR,.bool cV]] w fun e w'=>e = .returned (.bool (XE cY cV))∧Below w.heap.size w w':=by
 have hf:XE cY cV=(cV&&((cY:Int)==0)):=by
  unfold XE
  rw[show decide (cY=0)=((cY:Int)==0) by rw[Bool.eq_iff_iff]; simp]
 rw[hf]
 clear hf
 cases cV with
 | false =>
  rw[Bool.false_and]
  go_enter Tryz.func131,Tryz.ntmps131
  go_wp2
  go_ret
  exact⟨rfl,by(repeat (first|(with_reducible exact Below.refl _ _)|(with_reducible refine Below.drew ?_)|(with_reducible refine ZJ ?_ _)|(with_reducible refine Below.alloc ?_ (by simp<;>omega) _)|(with_reducible refine Below.setCell ?_ (by simp<;>omega) _)))⟩
 | true =>
  rw[Bool.true_and]
  go_enter Tryz.func131,Tryz.ntmps131
  go_wp2
  go_ret
  exact⟨rfl,by(repeat (first|(with_reducible exact Below.refl _ _)|(with_reducible refine Below.drew ?_)|(with_reducible refine ZJ ?_ _)|(with_reducible refine Below.alloc ?_ (by simp<;>omega) _)|(with_reducible refine Below.setCell ?_ (by simp<;>omega) _)))⟩
theorem ZBV (w:World):Calls Tryz.prog 153 #[] w fun e w'=>e = .returned (.bool false)∧Below w.heap.size w w':=by
 go_enter Tryz.func153,Tryz.ntmps153
 go_wp2
 go_ret
 exact⟨rfl,Below.refl _ _⟩
theorem Zt4 (w:World) (g:Nat) (h:Blk w g 27 #[.func (.func 153) #[] #[]]):Asked w g 1 (fun _=>153) (fun _ => #[]) (fun _ => #[]) (fun _=>false) :=
 ⟨fun j hj=>(by omega:0=j)▸h.cell 0,
   fun _ _ W _=>ZBV W,fun _ _ W=>by kernel_rfl,h.lt⟩
theorem ZrM (cC cE cB cT cP cY cR:Nat) (cV:Bool) (w:World) (g:Nat) (h:Blk w g 27 #[.func (.func 131) #[.agg #[.int .u32 cC,.int .u8 cE,.int .u16 cB,.int .u16 cT,.int .u16 cP,.int .u16 cY,.int .u32 cR,.bool cV]] #[]]):Asked w g 1 (fun _=>131) (fun _ => #[.agg #[.int .u32 cC,.int .u8 cE,.int .u16 cB,.int .u16 cT,.int .u16 cP,.int .u16 cY,.int .u32 cR,.bool cV]]) (fun _ => #[]) (fun _=>XE cY cV) :=
 ⟨fun j hj=>(by omega:0=j)▸h.cell 0,
   fun _ _ W _=>Za2 cC cE cB cT cP cY cR cV W,fun _ _ W=>by kernel_rfl,h.lt⟩
theorem Blk.newAt {W:World} {g:Nat} (h:W.heap.size=g) (t:TypeId) (cs:Array Value):Blk (W.alloc (.cells cs t)) g t cs:=by subst h; exact Blk.new W t cs
theorem Za3 (cC cE cB cT cP cY cR:Nat) (cV:Bool) (w:World) (g:Nat) (h:Blk w g 27 #[.func (.func 153) #[] #[]]) :
  Calls Tryz.prog 132 #[.agg #[.int .u32 cC,.int .u8 cE,.int .u16 cB,.int .u16 cT,.int .u16 cP,.int .u16 cY,.int .u32 cR,.bool cV],.slice (some ⟨g,0,none⟩) 1 1] w fun e w'=>e = .returned (.agg #[.int .u32 cC,.int .u8 cE,.int .u16 cB,.int .u16 cT,.int .u16 cP,.int .u16 cY,.int .u32 cR,.bool false])∧Below w.heap.size w w' :=
 ZiB cC cE cB cT cP cY cR cV g 1 _ _ _ _ w (by omega) (Zt4 w g h)
theorem Zt5 (p:Nat) (cC cE cB cT cY cR:Nat) (cV:Bool) (dC dE dB dT dP dY dR:Nat) (dV:Bool) (w:World) (g:Nat) (h:Blk w g 27 #[.func (.func 131) #[.agg #[.int .u32 dC,.int .u8 dE,.int .u16 dB,.int .u16 dT,.int .u16 dP,.int .u16 dY,.int .u32 dR,.bool dV]] #[]]) :
  Calls Tryz.prog 132 #[.agg #[.int .u32 cC,.int .u8 cE,.int .u16 cB,.int .u16 cT,.int .u16 p,.int .u16 cY,.int .u32 cR,.bool cV],.slice (some ⟨g,0,none⟩) 1 1] w fun e w'=>e = .returned (.agg #[.int .u32 cC,.int .u8 cE,.int .u16 cB,.int .u16 cT,.int .u16 p,.int .u16 cY,.int .u32 cR,.bool (XE dY dV)])∧Below w.heap.size w w':=by
 have:=ZiB cC cE cB cT p cY cR cV g 1 _ _ _ _ w (by omega) (ZrM dC dE dB dT dP dY dR dV w g h)
 rwa [show ZAv (fun _=>XE dY dV) 1=XE dY dV from Bool.true_and _] at this
theorem Zt6 (cC cE cB cT cP cY cR:Nat) (cV:Bool) (w:World) :
  Calls Tryz.prog 77 #[.agg #[.int .u32 cC,.int .u8 cE,.int .u16 cB,.int .u16 cT,.int .u16 cP,.int .u16 cY,.int .u32 cR,.bool cV]] w fun e w'=>e = .returned (.agg #[.int .u32 cC,.int .u8 cE,.int .u16 cB,.int .u16 cT,.int .u16 cP,.int .u16 cY,.int .u32 cR,.bool false])∧Below w.heap.size w w':=by
 go_enter Tryz.func77,Tryz.ntmps77
 go_wp2_with fail
 refine(Za3 cC cE cB cT cP cY cR cV _ _ (Blk.newAt (by simp) _ _)).mono ?_
 rintro e w2 ⟨rfl,hb2⟩
 obtain⟨hc2,hf2⟩:=Jj hb2
 have hz2:=hb2.size
 simp at hz2
 have HB2:=Qo hb2; clear hb2
 go_wp2
 refine bodyPost_ret (v:=.agg #[.int .u32 cC,.int .u8 cE,.int .u16 cB,.int .u16 cT,.int .u16 cP,.int .u16 cY,.int .u32 cR,.bool false]) (by simp[results,Tryz.results77,go_sem,hc2]) rfl ⟨rfl,?_⟩
 repeat (refine Below.setCell ?_ (by simp<;>omega) _)
 exact((((Below.refl _ _).alloc (Nat.le_refl _) _).alloc (by simp) _).alloc (by simp; omega) _).trans (HB2.out.mono (by simp; omega))
theorem ZBW (cC cE cB cT cP cY cR:Nat) (cV:Bool) (p:Nat) (w:World) (cl:ZcJ cC cE cB cT cP cY cR) (_hp:p<4294967296) :
  Calls Tryz.prog 80 #[.agg #[.int .u32 cC,.int .u8 cE,.int .u16 cB,.int .u16 cT,.int .u16 cP,.int .u16 cY,.int .u32 cR,.bool cV],.int .u32 p] w fun e w'=>e = .returned (.agg #[.int .u32 cC,.int .u8 cE,.int .u16 cB,.int .u16 cT,.int .u16 (cP&&&(p%65536):Nat),.int .u16 cY,.int .u32 cR,.bool (XE cY cV)])∧Below w.heap.size w w':=by
 have hx:=u16_and_nat cP (p%65536) cl.2.2.2.2.1 (by omega)
 obtain⟨x,hxe⟩:∃ x,p%65536=x:=⟨_,rfl⟩
 have hx2:u16.wrap (p:Int)=x:=by rw[IntKind.wrap_u16]; omega
 rw[hxe] at hx ⊢
 obtain⟨y,hy⟩:∃ y,cP&&&x=y:=⟨_,rfl⟩
 rw[hy] at hx ⊢
 clear hxe hy
 go_enter Tryz.func80,Tryz.ntmps80
 go_wp2_with fail
 refine(Zt5 y cC cE cB cT cY cR cV cC cE cB cT cP cY cR cV _ _ (Blk.newAt (by simp) _ _)).mono ?_
 rintro e w2 ⟨rfl,hb2⟩
 obtain⟨hc2,hf2⟩:=Jj hb2
 have hz2:=hb2.size
 simp at hz2
 have HB2:=Qo hb2; clear hb2
 go_wp2
 refine bodyPost_ret (v:=.agg #[.int .u32 cC,.int .u8 cE,.int .u16 cB,.int .u16 cT,.int .u16 y,.int .u16 cY,.int .u32 cR,.bool (XE cY cV)]) (by simp[results,Tryz.results80,go_sem,hc2]) rfl ⟨rfl,?_⟩
 repeat (refine Below.setCell ?_ (by simp<;>omega) _)
 exact(((((Below.refl _ _).alloc (Nat.le_refl _) _).alloc (by simp) _).alloc (by simp; omega) _).alloc (by simp; omega) _).trans (HB2.out.mono (by simp; omega))
attribute [local go_sem ↓] Go.wp_at_zero Go.wp_at_succ
theorem ZFI (cC cE cB cT cP cY cR:Nat) (cV:Bool) (w:World) (g:Nat) (f1 f2:FuncId) (i1 a1 i2 a2:Array Value) (b1 b2:Bool) (h:Blk w g 27 #[.func (.func f1) i1 a1,.func (.func f2) i2 a2])
  (r1:∀ W,(callFunc f1 (i1++a1)).run Tryz.prog W = .ok (.enter f1 (i1++a1)) W) (r2:∀ W,(callFunc f2 (i2++a2)).run Tryz.prog W = .ok (.enter f2 (i2++a2)) W)
  (c1:∀ W,Below w.heap.size w W→Calls Tryz.prog f1 (i1++a1) W fun e W'=>e = .returned (.bool b1)∧Below W.heap.size W W')
  (c2:∀ W,Below w.heap.size w W→Calls Tryz.prog f2 (i2++a2) W fun e W'=>e = .returned (.bool b2)∧Below W.heap.size W W') :
  Calls Tryz.prog 132 #[.agg #[.int .u32 cC,.int .u8 cE,.int .u16 cB,.int .u16 cT,.int .u16 cP,.int .u16 cY,.int .u32 cR,.bool cV],.slice (some ⟨g,0,none⟩) 2 2] w fun e w'=>e = .returned (.agg #[.int .u32 cC,.int .u8 cE,.int .u16 cB,.int .u16 cT,.int .u16 cP,.int .u16 cY,.int .u32 cR,.bool (b1&&b2)])∧Below w.heap.size w w':=by
 have:=ZiB cC cE cB cT cP cY cR cV g 2 (fun j=>if j=0 then f1 else f2) (fun j=>if j=0 then i1 else i2) (fun j=>if j=0 then a1 else a2) (fun j=>if j=0 then b1 else b2) w (by omega)
  ⟨fun j hj=>by
   have hj':j=0∨j=1:=by omega
   rcases hj' with rfl|rfl
   ·exact h.cell 0
   ·exact h.cell 1,
     fun j hj W hW=>by
   have hj':j=0∨j=1:=by omega
   rcases hj' with rfl|rfl
   ·exact c1 W hW
   ·exact c2 W hW,
     fun j hj W=>by
   have hj':j=0∨j=1:=by omega
   rcases hj' with rfl|rfl
   ·exact r1 W
   ·exact r2 W,h.lt⟩
 exact this
theorem ZL6 (cC cE cB cT cP cY cR:Nat) (cV:Bool) (w:World) (g:Nat) (f1 f2 f3:FuncId) (i1 a1 i2 a2 i3 a3:Array Value) (b1 b2 b3:Bool) (h:Blk w g 27 #[.func (.func f1) i1 a1,.func (.func f2) i2 a2,.func (.func f3) i3 a3])
  (r1:∀ W,(callFunc f1 (i1++a1)).run Tryz.prog W = .ok (.enter f1 (i1++a1)) W) (r2:∀ W,(callFunc f2 (i2++a2)).run Tryz.prog W = .ok (.enter f2 (i2++a2)) W) (r3:∀ W,(callFunc f3 (i3++a3)).run Tryz.prog W = .ok (.enter f3 (i3++a3)) W)
  (c1:∀ W,Below w.heap.size w W→Calls Tryz.prog f1 (i1++a1) W fun e W'=>e = .returned (.bool b1)∧Below W.heap.size W W')
  (c2:∀ W,Below w.heap.size w W→Calls Tryz.prog f2 (i2++a2) W fun e W'=>e = .returned (.bool b2)∧Below W.heap.size W W')
  (c3:∀ W,Below w.heap.size w W→Calls Tryz.prog f3 (i3++a3) W fun e W'=>e = .returned (.bool b3)∧Below W.heap.size W W') :
  Calls Tryz.prog 132 #[.agg #[.int .u32 cC,.int .u8 cE,.int .u16 cB,.int .u16 cT,.int .u16 cP,.int .u16 cY,.int .u32 cR,.bool cV],.slice (some ⟨g,0,none⟩) 3 3] w fun e w'=>e = .returned (.agg #[.int .u32 cC,.int .u8 cE,.int .u16 cB,.int .u16 cT,.int .u16 cP,.int .u16 cY,.int .u32 cR,.bool (b1&&b2&&b3)])∧Below w.heap.size w w':=by
 have:=ZiB cC cE cB cT cP cY cR cV g 3 (fun j=>if j=0 then f1 else if j=1 then f2 else f3) (fun j=>if j=0 then i1 else if j=1 then i2 else i3) (fun j=>if j=0 then a1 else if j=1 then a2 else a3) (fun j=>if j=0 then b1 else if j=1 then b2 else b3) w (by omega)
  ⟨fun j hj=>by
   have hj':j=0∨j=1∨j=2:=by omega
   rcases hj' with rfl|rfl|rfl
   ·exact h.cell 0
   ·exact h.cell 1
   ·exact h.cell 2,
     fun j hj W hW=>by
   have hj':j=0∨j=1∨j=2:=by omega
   rcases hj' with rfl|rfl|rfl
   ·exact c1 W hW
   ·exact c2 W hW
   ·exact c3 W hW,
     fun j hj W=>by
   have hj':j=0∨j=1∨j=2:=by omega
   rcases hj' with rfl|rfl|rfl
   ·exact r1 W
   ·exact r2 W
   ·exact r3 W,h.lt⟩
 exact this
theorem Zt7 (cC cE cB cT cP cY cR:Nat) (cV:Bool) (gf gc:Nat) (w:World) (hf:Blk w gf 164 #[.func (.func 131) #[] #[]]) (hc:Blk w gc 30 #[.int .u32 cC,.int .u8 cE,.int .u16 cB,.int .u16 cT,.int .u16 cP,.int .u16 cY,.int .u32 cR,.bool cV]) :
  Calls Tryz.prog 133 #[.pointer (some ⟨gf,0,none⟩),.pointer (some ⟨gc,0,none⟩)] w fun e w'=>e = .returned (.bool (XE cY cV))∧Below w.heap.size w w':=by
 have c0:=hf.cell 0
 simp at c0
 have d0:=hc.cell 0
 have d1:=hc.cell 1
 have d2:=hc.cell 2
 have d3:=hc.cell 3
 have d4:=hc.cell 4
 have d5:=hc.cell 5
 have d6:=hc.cell 6
 have d7:=hc.cell 7
 simp at d0 d1 d2 d3 d4 d5 d6 d7
 clear hf hc
 go_enter Tryz.func133,Tryz.ntmps133
 go_wp2_with fail
 refine(Za2 cC cE cB cT cP cY cR cV _).mono ?_
 rintro e w1 ⟨rfl,hb1⟩
 have HB1:=Qo hb1; clear hb1
 go_wp2
 go_ret
 exact⟨rfl,HB1.out⟩
theorem Zt8 (cC cE cB cT cP cY cR:Nat) (cV:Bool) (tqq gc gt:Nat) (w:World) (cl:ZcJ cC cE cB cT cP cY cR) (hto:tqq<4294967296) (hc:Blk w gc 30 #[.int .u32 cC,.int .u8 cE,.int .u16 cB,.int .u16 cT,.int .u16 cP,.int .u16 cY,.int .u32 cR,.bool cV]) (ht:Blk w gt 22 #[.int .u32 tqq]) :
  Calls Tryz.prog 134 #[.pointer (some ⟨gc,0,none⟩),.pointer (some ⟨gt,0,none⟩)] w fun e w'=>e = .returned (.bool (ZbT cE cB cT cC tqq))∧Below w.heap.size w w':=by
 have hk:=fun W=>ZtY cE cB cT cC tqq W cl.2.1 cl.2.2.1 cl.2.2.2.1 cl.1 hto
 generalize ZbT cE cB cT cC tqq=k at *
 have HK:=Qo hk
 have c0:=ht.cell 0
 simp at c0
 have d0:=hc.cell 0
 have d1:=hc.cell 1
 have d2:=hc.cell 2
 have d3:=hc.cell 3
 simp at d0 d1 d2 d3
 clear hk ht hc
 go_enter Tryz.func134,Tryz.ntmps134
 go_wp2_with fail
 refine(HK.out _).mono ?_
 rintro e w1 ⟨rfl,hb1⟩
 have HB1:=Qo hb1; clear hb1
 go_wp2
 go_ret
 exact⟨rfl,HB1.out⟩
theorem Zqw (cC cE cB cT cP cY cR:Nat) (cV:Bool) (tqq:Nat) (w:World) (cl:ZcJ cC cE cB cT cP cY cR) (hto:tqq<4294967296) :
  Calls Tryz.prog 71 #[.agg #[.int .u32 cC,.int .u8 cE,.int .u16 cB,.int .u16 cT,.int .u16 cP,.int .u16 cY,.int .u32 cR,.bool cV],.int .u32 tqq] w fun e w'=>e = .returned (.agg #[.int .u32 tqq,.int .u8 cE,.int .u16 cB,.int .u16 cT,.int .u16 cP,.int .u16 cY,.int .u32 cR,.bool (XE cY cV&&ZbT cE cB cT cC tqq)])∧Below w.heap.size w w':=by
 go_enter Tryz.func71,Tryz.ntmps71
 go_wp2_with fail
 refine(ZFI tqq cE cB cT cP cY cR cV _ _ 133 134 #[] #[.pointer (some ⟨w.heap.size+1+1+1+1,0,none⟩),.pointer (some ⟨w.heap.size,0,none⟩)] #[] #[.pointer (some ⟨w.heap.size,0,none⟩),.pointer (some ⟨w.heap.size+1,0,none⟩)] (XE cY cV) (ZbT cE cB cT cC tqq) (Blk.newAt (by simp) _ _) (fun W=>by kernel_rfl) (fun W=>by kernel_rfl)
  (fun W hW=>Zt7 cC cE cB cT cP cY cR cV (w.heap.size+1+1+1+1) w.heap.size W (Blk.below (by(repeat (first|(with_reducible exact Blk.new _ _ _)|(with_reducible refine Blk.drewN ?_ _)|(with_reducible refine Blk.drew ?_)|exact Blk.newAt (by simp) _ _|(with_reducible refine Blk.alloc ?_ _)))) hW (by first|(simp; done)|(simp; omega))) (Blk.below (by(repeat (first|(with_reducible exact Blk.new _ _ _)|(with_reducible refine Blk.drewN ?_ _)|(with_reducible refine Blk.drew ?_)|exact Blk.newAt (by simp) _ _|(with_reducible refine Blk.alloc ?_ _)))) hW (by first|(simp; done)|(simp; omega))))
  (fun W hW=>Zt8 cC cE cB cT cP cY cR cV tqq w.heap.size (w.heap.size+1) W cl hto (Blk.below (by(repeat (first|(with_reducible exact Blk.new _ _ _)|(with_reducible refine Blk.drewN ?_ _)|(with_reducible refine Blk.drew ?_)|exact Blk.newAt (by simp) _ _|(with_reducible refine Blk.alloc ?_ _)))) hW (by first|(simp; done)|(simp; omega))) (Blk.below (by(repeat (first|(with_reducible exact Blk.new _ _ _)|(with_reducible refine Blk.drewN ?_ _)|(with_reducible refine Blk.drew ?_)|exact Blk.newAt (by simp) _ _|(with_reducible refine Blk.alloc ?_ _)))) hW (by first|(simp; done)|(simp; omega))))).mono ?_
 rintro e w2 ⟨rfl,hb2⟩
 obtain⟨hc2,hf2⟩:=Jj hb2
 have hz2:=hb2.size
 simp at hz2
 have HB2:=Qo hb2; clear hb2
 go_wp2
 refine bodyPost_ret (v:=.agg #[.int .u32 tqq,.int .u8 cE,.int .u16 cB,.int .u16 cT,.int .u16 cP,.int .u16 cY,.int .u32 cR,.bool (XE cY cV&&ZbT cE cB cT cC tqq)]) (by simp[results,Tryz.results71,go_sem,hc2]) rfl ⟨rfl,?_⟩
 repeat (refine Below.setCell ?_ (by simp<;>omega) _)
 exact(Below.trans (by(repeat (first|(with_reducible exact Below.refl _ _)|(with_reducible refine Below.drew ?_)|(with_reducible refine ZJ ?_ _)|(with_reducible refine Below.alloc ?_ (by simp<;>omega) _)|(with_reducible refine Below.setCell ?_ (by simp<;>omega) _)))) (HB2.out.mono (by simp; omega)))
def cpV (c e b t p y r:Nat) (v:Bool):Value:=.agg ⟨[.int .u32 (c:Nat),.int .u8 (e:Nat),.int .u16 (b:Nat),.int .u16 (t:Nat),.int .u16 (p:Nat),.int .u16 (y:Nat),.int .u32 (r:Nat),.bool v]⟩
def ZaJ (a:List Value):=Value.agg { toList:=a:Array Value }
def Zhn (a b c d e f g:Value) (h:Bool):=[a,b,c,d,e,f,g,Value.bool h]
def ZbU (a:Int):=Value.int u16 a
def Zqx (a:Int):=Value.int u8 a
def Ze8 (a b:Int):=Km ((u32.wrap a).fdiv b)
def ZdO (a b:Int):=Km (a.fdiv b)
def ZdP (a:Int):=Ze8 a Yg
def Zw:=Bx.mk (aI @ZaJ.eq_1 (aI @Zhn.eq_1 (aI @ZbU.eq_1 (aI @Zqx.eq_1 (aI @Ze8.eq_1 (aI @ZdO.eq_1 @ZdP.eq_1))))))
theorem ZBX (c:Int) (e:Int) (b:Int) (t:Int) (p:Int) (y:Int) (r:Int) (v:Bool):obs (evF Tryz.prog Zc Zb 100 20 92 [ZaJ (Zhn (Ww c) (Zqx e) (ZbU b) (ZbU t) (ZbU p) (ZbU y) (Ww r) v)] (stT []))=Wj (YX [Km (c.fdiv Yg),Km (c.fdiv Yz),Km (c.fdiv Wk),Km (c.fdiv KO),ZdP e,ZdP b,Ze8 b Yz,ZdP t,Ze8 t Yz,ZdP p,Ze8 p Yz,ZdP y,Ze8 y Yz,ZdO (Znp u32 r (65535:Int)) Yg,ZdO (Znp u32 r (65535:Int)) Yz,ZdO (Znp u32 (r.fdiv Wk) (255:Int)) Yg]) True:=by kernel_rfl
def ZL7:=Bx.mk (by have h:=@ZBX;simp(maxSteps:=99999999) only[Zx.v,ZF.v,V7.v,Zw.v,-eq_self] at h;exact h)
def cbL (c e b t p y r:Nat):List UInt8:=leW 4 c++(leW 1 e++(leW 2 b++(leW 2 t++(leW 2 p++(leW 2 y++(leW 2 r++leW 1 (r/65536)))))))
theorem Zaq (c e b t p y r:Nat):(cbL c e b t p y r).length=16:=by simp[cbL,Vs]
structure CpB (c e b t p y r:Nat):Prop where
 c:c<4294967296
 e:e<256
 b:b<65536
 t:t<65536
 p:p<65536
 y:y<65536
 r:r<4294967296
theorem andA (n k:Nat) (h:n<4294967296) (hk:k≤32):bits .and .u32 (n:Int) ((2^k-1:Nat):Int)=((n%2^k:Nat):Int):=by
 show u32.wrap ((BitVec.ofInt 32 (n:Int)&&&BitVec.ofInt 32 ((2^k-1:Nat):Int)).toNat:Int)=_
 have h1:2^k≤2^32:=Nat.pow_le_pow_right (by omega) hk
 have h0:0<2^k:=Nat.two_pow_pos k
 rw[BitVec.toNat_and,BitVec.ofInt_natCast,BitVec.ofInt_natCast,BitVec.toNat_ofNat,BitVec.toNat_ofNat,Nat.mod_eq_of_lt (by omega),Nat.mod_eq_of_lt (by omega),Nat.and_two_pow_sub_one_eq_mod]
 have:=Nat.mod_le n (2^k)
 exact Kw _ (by omega)
def ZLH (c e b t p y r:Nat) (v:Bool):Con:=Con.pure [cpV c e b t p y r v] (.string ⟨⟨cbL c e b t p y r⟩⟩)
theorem Zo2 (c e b t p y r:Nat) (v:Bool) (h:CpB c e b t p y r):ConOk Tryz.prog 92 3 (ZLH c e b t p y r v):=by
 obtain⟨h1,h2,h3,h4,h5,h6,h7⟩:=h
 have hr:=ZL7.v (c:Int) (e:Int) (b:Int) (t:Int) (p:Int) (y:Int) (r:Int) v
 have fd0:∀ n:Nat,(n:Int).fdiv (1:Int)=((n:Nat):Int):=fun n=>by rw[show(1:Int)=((1:Nat):Int) from rfl,fdA,Nat.div_one]
 have fd1:∀ n:Nat,(n:Int).fdiv (256:Int)=((n/256:Nat):Int):=fun n=>fdA n 256
 have fd2:∀ n:Nat,(n:Int).fdiv (65536:Int)=((n/65536:Nat):Int):=fun n=>fdA n 65536
 have fd3:∀ n:Nat,(n:Int).fdiv (16777216:Int)=((n/16777216:Nat):Int):=fun n=>fdA n 16777216
 have a1:∀ n:Nat,n<4294967296→bits .and .u32 (n:Int) (65535:Int)=((n%65536:Nat):Int):=fun n hn=>andA n 16 hn (by omega)
 have a2:∀ n:Nat,n<4294967296→bits .and .u32 (n:Int) (255:Int)=((n%256:Nat):Int):=fun n hn=>andA n 8 hn (by omega)
 simp(disch:=omega) only[fd0,fd1,fd2,fd3,a1,a2,Kw,w8A] at hr
 have d2:∀ n:Nat,n/65536=n/256/256:=fun n=>by omega
 have d3:∀ n:Nat,n/16777216=n/256/256/256:=fun n=>by omega
 have m1:r%65536%256=r%256:=by omega
 have m2:r%65536/256%256=r/256%256:=by omega
 simp only[m1,m2,d2,d3,Nat.mod_mod] at hr
 have hl:cbL c e b t p y r=[UInt8.ofNat (c%256),UInt8.ofNat (c/256%256),UInt8.ofNat (c/256/256%256),UInt8.ofNat (c/256/256/256%256),UInt8.ofNat (e%256),UInt8.ofNat (b%256),UInt8.ofNat (b/256%256),UInt8.ofNat (t%256),UInt8.ofNat (t/256%256),UInt8.ofNat (p%256),UInt8.ofNat (p/256%256),UInt8.ofNat (y%256),UInt8.ofNat (y/256%256),UInt8.ofNat (r%256),UInt8.ofNat (r/256%256),UInt8.ofNat (r/256/256%256)]:=by
  simp only[cbL,leW,List.cons_append,List.nil_append,d2]
 unfold ZLH
 rw[hl]
 exact Qj (d:=1) (Zm (L:=100) Zg (Zf _) (Zh _) 20) hr trivial rfl rfl
def sndC (c e b t p y r:Nat) (v:Bool):Con:=Con.pure [cpV c e b t p y r v] (.bool (WO e b t p y r))
theorem Zt9 (c e b t p y r:Nat) (v:Bool) (h:CpB c e b t p y r):ConOk Tryz.prog 46 3 (sndC c e b t p y r v):=by
 obtain⟨h1,h2,h3,h4,h5,h6,h7⟩:=h
 refine QE (d:=1) (Q9 Zg (by kernel_rfl)) (fun u hu => ?_) rfl fun w => ?_
 ·obtain rfl:=List.mem_singleton.1 hu; rfl
 ·exact Zjr c e b t p y r v w (by unfold ZcJ; omega)
theorem Zua {h1:Sy.Heap} {p:Nat→Bool} (hp:∀ l,l<67→p l=true) (zs:List UInt8) (f:Nat→Bool) (N m:Nat) (cs bs:List Value) (h66:Sy.look h1 66=some ⟨true,none,[.slice (some ⟨64,0,none⟩) N (big+64),.slice (some ⟨65,0,none⟩) m (big+65)],none⟩) (h65:Sy.look h1 65=some ⟨true,some (65,1),bs,none⟩) (h64:Sy.look h1 64=some ⟨true,some (64,1),cs,none⟩) (hb:bs=bls f m) (hc:cs=u8s zs):Vr 3 p id h1 (arR true zs f N m):=by
 have:=ZcG (l:=[]) hp zs f N m cs bs h66 h65 h64 hb hc trivial
 rwa [List.append_nil] at this
def ZeT (args:List Value) (zs zs':List UInt8) (f f':Nat→Bool) (N m:Nat):Con:=⟨args,67,arR true zs f N m,Zf2 N m,.bool true,67,arR true zs' f' N m,Zf2 N m⟩
theorem UZ {call:QM} (hc:Zs Tryz.prog call) {fn:FuncId} {args:List Value} {zs zs':List UInt8} {f f':Nat→Bool} {N m:Nat} {T:List (Nat×Bool)} {s':Sy.St} {cs bs:List Value} (ha:args.all (okV (fun l=>Nat.blt l 67) 3)=true) (hr:call fn args ⟨67,arR true zs f N m,Zf2 N m,0,T,0,True⟩=some (.bool true,s')) (hO:s'.O)
  (h66:Sy.look s'.h 66=some ⟨true,none,[.slice (some ⟨64,0,none⟩) N (big+64),.slice (some ⟨65,0,none⟩) m (big+65)],none⟩) (h65:Sy.look s'.h 65=some ⟨true,some (65,1),bs,none⟩) (h64:Sy.look s'.h 64=some ⟨true,some (64,1),cs,none⟩) (hb:bs=bls f' m) (hcs:cs=u8s zs') (hlo:Zi2 s'.lo 65 m∧Zi2 s'.lo 64 N) :
  ConOk Tryz.prog fn 3 (ZeT args zs zs' f f' N m)∧FlatC (ZeT args zs zs' f f' N m):=by
 have h0:=Zan (ltZ 67) true zs f N m (l:=[]) trivial
 have h1:=Zan (Zjk 67) true zs' f' N m (l:=[]) trivial
 have h2:=ZcG (l:=[]) (ltZ 67) zs' f' N m cs bs h66 h65 h64 hb hcs trivial
 rw[List.append_nil] at h0 h1 h2
 exact⟨Qn hc ⟨by show 64≤67; omega,Nat.le_refl _,h0,rfl,rfl,rfl,ha,rfl,ZoW (ltZ 67) true _ _ N m⟩ hr hO (p:=fun l=>Nat.blt l 67) (σ:=id) ⟨fun _ _=>rfl,h2,rfl,⟨⟨rfl,hlo.1⟩,⟨rfl,hlo.2⟩,trivial⟩,⟨rfl,rfl⟩,rfl,h1,rfl,ZG _ rfl,fun x _ _ => .inl rfl⟩,⟨ZlZ _ _ _ _ _⟩⟩
def newR (p:Nat):Con:=⟨[.int .i64 (p:Nat)],64,[],[],.tuple ⟨[.pointer (some ⟨66,0,none⟩),.int .i64 0]⟩,67,arR true (List.replicate (p*256) 0) (fun _=>false) (p*256) (ZcE p),Zf2 (p*256) (ZcE p)⟩
theorem Zub (n:Nat):List.replicate n (Value.bool false)=bls (fun _=>false) n:=by
 unfold bls; rw[List.map_const',List.length_range]
theorem Zw3 (p:Nat) (h1:16≤p) (h2:p≤1024):ConOk Tryz.prog 41 3 (newR p)∧FlatC (newR p):=by
 have hr:=ZL1.v (p:Int)
 have e1:(p:Int)*(256:Int)=((p*256:Nat):Int):=by omega
 have e5:p*256/16=ZcE p:=rfl
 simp(disch:=omega) only[e1,XL,Vj,tN,ZlT,ZtH,Zub,e5] at hr
 have hk:∀ l,l<67→XP 64 67 id (fun l=>Nat.blt l 67) l=true:=fun l hl=>by
  show(Nat.blt l NG||(bif Nat.blt l 64 then(Nat.beq l l&&Nat.blt l 67) else Nat.blt l 67))=true
  rw[YW hl,Nat.beq_refl]
  cases Nat.blt l NG<;>cases Nat.blt l 64<;>rfl
 have g1:=Zan hk true (List.replicate (p*256) 0) (fun _=>false) (p*256) (ZcE p) (l:=[]) trivial
 rw[List.append_nil] at g1
 refine⟨Qn (Zm (L:=100) Zg (Zf _) (Zh _) 40) ⟨Nat.le_refl _,by show 64≤67; omega,trivial,rfl,rfl,rfl,rfl,rfl,ZoW (ltZ 67) true _ _ _ _⟩ hr ?_ (p:=fun l=>Nat.blt l 67) (σ:=id) ⟨fun _ _=>rfl,?_,rfl,⟨⟨rfl,Nat.le_refl _⟩,⟨rfl,Nat.le_refl _⟩,trivial⟩,⟨rfl,by rw[JB]; rfl⟩,rfl,g1,rfl,Q5 3 _ rfl,fun x _ _ => .inl rfl⟩,⟨ZlZ _ _ _ _ _⟩⟩
 ·have b2:ZcE p≤100000:=by unfold ZcE; omega
  simp(disch:=omega) only[lR,dF,qT8.v,Bool.true_and,Bool.and_true,cond_true]
 ·exact Zua (ltZ 67) _ _ _ _ _ _ rfl rfl rfl rfl rfl
attribute [local go_sem ↓] Go.wp_at_zero Go.wp_at_succ
def U0 (cC cP cY:Nat) (cV:Bool) (q x y:Nat):Bool:=XE cY cV&&(decide (cP&&&q≠0)&&(decide (1≤cC)&&(decide (cC≤4095)&&(decide (x≤cC)&&decide (cC<y)))))
theorem ZBY {p q:Nat} (hp:p<65536) (hq:q<65536):(bits .and .u16 (p:Int) (q:Int) !=0)=decide (p&&&q≠0):=by
 rw[u16_and_nat p q hp hq,Bool.eq_iff_iff]
 simp<;>omega
theorem ZgH (cC cE cB cT cP cY cR:Nat) (cV:Bool) (q x y:Nat) (w:World) (cl:ZcJ cC cE cB cT cP cY cR) (hq:q<65536) (hx:(Vg cE cB cT cC).1=x) (hy:(Vg cE cB cT cC).2=y) :
  Calls Tryz.prog 155 #[.agg #[.int .u32 cC,.int .u8 cE,.int .u16 cB,.int .u16 cT,.int .u16 cP,.int .u16 cY,.int .u32 cR,.bool cV],.int .u16 q] w fun e w'=>e = .returned (.bool (U0 cC cP cY cV q x y))∧Below w.heap.size w w':=by
 have HR:Hid (∀ W,Calls Tryz.prog 76 #[.agg #[.int .u32 cC,.int .u8 cE,.int .u16 cB,.int .u16 cT,.int .u16 cP,.int .u16 cY,.int .u32 cR,.bool cV]] W fun e' w'=>e' = .returned (.tuple #[.int .u32 x,.int .u64 y])∧Below W.heap.size W w'):=fun W=>ZgE cC cE cB cT cP cY cR cV x y W cl hx hy
 have hxl:x<4294967296:=by rw[← hx]; exact(ZnB _ _ _ _).1
 have hcl:cC<4294967296:=cl.1
 have hn:=ZBY cl.2.2.2.2.1 hq
 have hfr:=fun W=>Za2 cC cE cB cT cP cY cR cV W
 clear hx hy
 obtain⟨kf,hkf⟩:∃ k,XE cY cV=k:=⟨_,rfl⟩
 obtain⟨kp,hkp⟩:∃ k,decide (cP&&&q≠0)=k:=⟨_,rfl⟩
 rw[hkp] at hn
 rw[hkf] at hfr
 have HF:=Qo hfr
 clear hfr
 have hov:U0 cC cP cY cV q x y=(kf&&(kp&&(decide (1≤cC)&&(decide (cC≤4095)&&(decide (x≤cC)&&decide (cC<y)))))):=by
  unfold U0; rw[hkf,hkp]
 rw[hov]
 clear hov hkf hkp
 cases kf with
 | false =>
  have HV:Hid ((false&&(kp&&(decide (1≤cC)&&(decide (cC≤4095)&&(decide (x≤cC)&&decide (cC<y))))))=false):=rfl
  go_enter Tryz.func155,Tryz.ntmps155
  go_wp2_with fail
  refine(HR.out _).mono ?_
  rintro e w1 ⟨rfl,hb1⟩
  obtain⟨hc1,hf1⟩:=Jj hb1
  have hz1:=hb1.size
  simp at hz1
  have l1:w.heap.size<w1.heap.size:=by omega
  have HB1:=Qo hb1; clear hb1
  go_wp2_with fail
  refine(HF.out _).mono ?_
  rintro e w2 ⟨rfl,hb2⟩
  obtain⟨hc2,hf2⟩:=Jj hb2
  have HB2:=Qo hb2; clear hb2
  go_wp2
  go_ret
  exact⟨Wl HV.out.symm,(((Below.refl _ _).alloc (Nat.le_refl _) _).trans (HB1.out.mono (by simp))).trans (HB2.out.mono (by omega))⟩
 | true =>
  cases kp with
  | false =>
   have HV:Hid ((true&&(false&&(decide (1≤cC)&&(decide (cC≤4095)&&(decide (x≤cC)&&decide (cC<y))))))=false):=rfl
   go_enter Tryz.func155,Tryz.ntmps155
   go_wp2_with fail
   refine(HR.out _).mono ?_
   rintro e w1 ⟨rfl,hb1⟩
   obtain⟨hc1,hf1⟩:=Jj hb1
   have hz1:=hb1.size
   simp at hz1
   have l1:w.heap.size<w1.heap.size:=by omega
   have HB1:=Qo hb1; clear hb1
   go_wp2_with fail
   refine(HF.out _).mono ?_
   rintro e w2 ⟨rfl,hb2⟩
   obtain⟨hc2,hf2⟩:=Jj hb2
   have HB2:=Qo hb2; clear hb2
   go_wp2
   go_ret
   exact⟨Wl HV.out.symm,(((Below.refl _ _).alloc (Nat.le_refl _) _).trans (HB1.out.mono (by simp))).trans (HB2.out.mono (by omega))⟩
  | true =>
   by_cases c1:(1:Int)≤cC
   ·by_cases c2:(cC:Int)≤4095
    ·by_cases c3:x≤cC
     ·have HV:Hid ((true&&(true&&(decide (1≤cC)&&(decide (cC≤4095)&&(decide (x≤cC)&&decide (cC<y))))))=decide (cC<y)):=by
       show _=_
       rw[lR (show 1≤cC by omega),lR (show cC≤4095 by omega),lR c3]; rfl
      go_enter Tryz.func155,Tryz.ntmps155
      go_wp2_with fail
      refine(HR.out _).mono ?_
      rintro e w1 ⟨rfl,hb1⟩
      obtain⟨hc1,hf1⟩:=Jj hb1
      have hz1:=hb1.size
      simp at hz1
      have l1:w.heap.size<w1.heap.size:=by omega
      have HB1:=Qo hb1; clear hb1
      go_wp2_with fail
      refine(HF.out _).mono ?_
      rintro e w2 ⟨rfl,hb2⟩
      obtain⟨hc2,hf2⟩:=Jj hb2
      have HB2:=Qo hb2; clear hb2
      go_wp2
      go_ret
      exact⟨Wl HV.out.symm,(((Below.refl _ _).alloc (Nat.le_refl _) _).trans (HB1.out.mono (by simp))).trans (HB2.out.mono (by omega))⟩
     ·have d3:decide (x≤cC)=false:=by simpa using c3
      have HV:Hid ((true&&(true&&(decide (1≤cC)&&(decide (cC≤4095)&&(decide (x≤cC)&&decide (cC<y))))))=false):=by
       show _=_
       rw[d3]; simp
      go_enter Tryz.func155,Tryz.ntmps155
      go_wp2_with fail
      refine(HR.out _).mono ?_
      rintro e w1 ⟨rfl,hb1⟩
      obtain⟨hc1,hf1⟩:=Jj hb1
      have hz1:=hb1.size
      simp at hz1
      have l1:w.heap.size<w1.heap.size:=by omega
      have HB1:=Qo hb1; clear hb1
      go_wp2_with fail
      refine(HF.out _).mono ?_
      rintro e w2 ⟨rfl,hb2⟩
      obtain⟨hc2,hf2⟩:=Jj hb2
      have HB2:=Qo hb2; clear hb2
      go_wp2
      go_ret
      exact⟨Wl HV.out.symm,(((Below.refl _ _).alloc (Nat.le_refl _) _).trans (HB1.out.mono (by simp))).trans (HB2.out.mono (by omega))⟩
    ·have d2:decide ((cC:Int)≤4095)=false:=by simpa using c2
     have HV:Hid ((true&&(true&&(decide (1≤cC)&&(decide (cC≤4095)&&(decide (x≤cC)&&decide (cC<y))))))=false):=by
      show _=_
      rw[dF (show ¬ cC≤4095 by omega)]; simp
     go_enter Tryz.func155,Tryz.ntmps155
     go_wp2_with fail
     refine(HR.out _).mono ?_
     rintro e w1 ⟨rfl,hb1⟩
     obtain⟨hc1,hf1⟩:=Jj hb1
     have hz1:=hb1.size
     simp at hz1
     have l1:w.heap.size<w1.heap.size:=by omega
     have HB1:=Qo hb1; clear hb1
     go_wp2_with fail
     refine(HF.out _).mono ?_
     rintro e w2 ⟨rfl,hb2⟩
     obtain⟨hc2,hf2⟩:=Jj hb2
     have HB2:=Qo hb2; clear hb2
     go_wp2
     go_ret
     exact⟨Wl HV.out.symm,(((Below.refl _ _).alloc (Nat.le_refl _) _).trans (HB1.out.mono (by simp))).trans (HB2.out.mono (by omega))⟩
   ·have d1:decide ((1:Int)≤cC)=false:=by simpa using c1
    have HV:Hid ((true&&(true&&(decide (1≤cC)&&(decide (cC≤4095)&&(decide (x≤cC)&&decide (cC<y))))))=false):=by
     show _=_
     rw[dF (show ¬ 1≤cC by omega)]; simp
    go_enter Tryz.func155,Tryz.ntmps155
    go_wp2_with fail
    refine(HR.out _).mono ?_
    rintro e w1 ⟨rfl,hb1⟩
    obtain⟨hc1,hf1⟩:=Jj hb1
    have hz1:=hb1.size
    simp at hz1
    have l1:w.heap.size<w1.heap.size:=by omega
    have HB1:=Qo hb1; clear hb1
    go_wp2_with fail
    refine(HF.out _).mono ?_
    rintro e w2 ⟨rfl,hb2⟩
    obtain⟨hc2,hf2⟩:=Jj hb2
    have HB2:=Qo hb2; clear hb2
    go_wp2
    go_ret
    exact⟨Wl HV.out.symm,(((Below.refl _ _).alloc (Nat.le_refl _) _).trans (HB1.out.mono (by simp))).trans (HB2.out.mono (by omega))⟩
attribute [local go_sem ↓] Go.wp_at_zero Go.wp_at_succ
theorem Zw4 {cC cP cY:Nat} {cV:Bool} {q x y:Nat} (h:U0 cC cP cY cV q x y=true):(cC:Int)≤4095∧1≤cC:=by
 simp only[U0,Bool.and_eq_true,decide_eq_true_eq] at h; omega
theorem ZFJ (cC cE cB cT cP cY cR:Nat) (cV:Bool) (bC bE bB bT bP bY bR:Nat) (bV:Bool) (w:World) (h:XE cY cV=false) :
  Calls Tryz.prog 81 #[.agg #[.int .u32 cC,.int .u8 cE,.int .u16 cB,.int .u16 cT,.int .u16 cP,.int .u16 cY,.int .u32 cR,.bool cV],.agg #[.int .u32 bC,.int .u8 bE,.int .u16 bB,.int .u16 bT,.int .u16 bP,.int .u16 bY,.int .u32 bR,.bool bV]] w fun e w'=>e = .returned (.agg #[.int .u32 cC,.int .u8 cE,.int .u16 cB,.int .u16 cT,.int .u16 cP,.int .u16 cY,.int .u32 cR,.bool false])∧Below w.heap.size w w':=by
 have hfr:=fun W=>Za2 cC cE cB cT cP cY cR cV W
 rw[h] at hfr
 have HF:=Qo hfr
 clear hfr h
 have hq0:Blk (((w.alloc (.cells #[.int .u32 cC,.int .u8 cE,.int .u16 cB,.int .u16 cT,.int .u16 cP,.int .u16 cY,.int .u32 cR,.bool cV] 30)).alloc (.cells #[.int .u32 bC,.int .u8 bE,.int .u16 bB,.int .u16 bT,.int .u16 bP,.int .u16 bY,.int .u32 bR,.bool bV] 30)).alloc (.cells #[.int .u32 0,.int .u8 0,.int .u16 0,.int .u16 0,.int .u16 0,.int .u16 0,.int .u32 0,.bool false] 30)) w.heap.size 30 #[.int .u32 cC,.int .u8 cE,.int .u16 cB,.int .u16 cT,.int .u16 cP,.int .u16 cY,.int .u32 cR,.bool cV]:=by(repeat (first|(with_reducible exact Blk.new _ _ _)|(with_reducible refine Blk.drewN ?_ _)|(with_reducible refine Blk.drew ?_)|exact Blk.newAt (by simp) _ _|(with_reducible refine Blk.alloc ?_ _)))
 have hq1:Blk (((w.alloc (.cells #[.int .u32 cC,.int .u8 cE,.int .u16 cB,.int .u16 cT,.int .u16 cP,.int .u16 cY,.int .u32 cR,.bool cV] 30)).alloc (.cells #[.int .u32 bC,.int .u8 bE,.int .u16 bB,.int .u16 bT,.int .u16 bP,.int .u16 bY,.int .u32 bR,.bool bV] 30)).alloc (.cells #[.int .u32 0,.int .u8 0,.int .u16 0,.int .u16 0,.int .u16 0,.int .u16 0,.int .u32 0,.bool false] 30)) (w.heap.size+1) 30 #[.int .u32 bC,.int .u8 bE,.int .u16 bB,.int .u16 bT,.int .u16 bP,.int .u16 bY,.int .u32 bR,.bool bV]:=by(repeat (first|(with_reducible exact Blk.new _ _ _)|(with_reducible refine Blk.drewN ?_ _)|(with_reducible refine Blk.drew ?_)|exact Blk.newAt (by simp) _ _|(with_reducible refine Blk.alloc ?_ _)))
 have hq2:Blk (((w.alloc (.cells #[.int .u32 cC,.int .u8 cE,.int .u16 cB,.int .u16 cT,.int .u16 cP,.int .u16 cY,.int .u32 cR,.bool cV] 30)).alloc (.cells #[.int .u32 bC,.int .u8 bE,.int .u16 bB,.int .u16 bT,.int .u16 bP,.int .u16 bY,.int .u32 bR,.bool bV] 30)).alloc (.cells #[.int .u32 0,.int .u8 0,.int .u16 0,.int .u16 0,.int .u16 0,.int .u16 0,.int .u32 0,.bool false] 30)) (w.heap.size+1+1) 30 #[.int .u32 0,.int .u8 0,.int .u16 0,.int .u16 0,.int .u16 0,.int .u16 0,.int .u32 0,.bool false]:=by(repeat (first|(with_reducible exact Blk.new _ _ _)|(with_reducible refine Blk.drewN ?_ _)|(with_reducible refine Blk.drew ?_)|exact Blk.newAt (by simp) _ _|(with_reducible refine Blk.alloc ?_ _)))
 have kb:Below w.heap.size w (((w.alloc (.cells #[.int .u32 cC,.int .u8 cE,.int .u16 cB,.int .u16 cT,.int .u16 cP,.int .u16 cY,.int .u32 cR,.bool cV] 30)).alloc (.cells #[.int .u32 bC,.int .u8 bE,.int .u16 bB,.int .u16 bT,.int .u16 bP,.int .u16 bY,.int .u32 bR,.bool bV] 30)).alloc (.cells #[.int .u32 0,.int .u8 0,.int .u16 0,.int .u16 0,.int .u16 0,.int .u16 0,.int .u32 0,.bool false] 30)):=by(repeat (first|(with_reducible exact Below.refl _ _)|(with_reducible refine Below.drew ?_)|(with_reducible refine ZJ ?_ _)|(with_reducible refine Below.alloc ?_ (by simp<;>omega) _)|(with_reducible refine Below.setCell ?_ (by simp<;>omega) _)))
 have hsz:(((w.alloc (.cells #[.int .u32 cC,.int .u8 cE,.int .u16 cB,.int .u16 cT,.int .u16 cP,.int .u16 cY,.int .u32 cR,.bool cV] 30)).alloc (.cells #[.int .u32 bC,.int .u8 bE,.int .u16 bB,.int .u16 bT,.int .u16 bP,.int .u16 bY,.int .u32 bR,.bool bV] 30)).alloc (.cells #[.int .u32 0,.int .u8 0,.int .u16 0,.int .u16 0,.int .u16 0,.int .u16 0,.int .u32 0,.bool false] 30)).heap.size=w.heap.size+1+1+1:=by simp
 go_enter Tryz.func81,Tryz.ntmps81
 go_wp2_with fail
 refine(HF.out _).mono ?_
 rintro e w1 ⟨rfl,hb1⟩
 have hq0:=(hq0).below hb1 (by first|omega|(simp; omega))
 have hq1:=(hq1).below hb1 (by first|omega|(simp; omega))
 have hq2:=(hq2).below hb1 (by first|omega|(simp; omega))
 have kb:=(kb).trans (hb1.mono kb.size)
 have hsz1:w.heap.size+1+1+1≤w1.heap.size:=by have:=hb1.size; omega
 clear hb1
 have p0:=hq0.cell 0
 have pz0:=hq0.frozen 0
 have p1:=hq0.cell 1
 have pz1:=hq0.frozen 1
 have p2:=hq0.cell 2
 have pz2:=hq0.frozen 2
 have p3:=hq0.cell 3
 have pz3:=hq0.frozen 3
 have p4:=hq0.cell 4
 have pz4:=hq0.frozen 4
 have p5:=hq0.cell 5
 have pz5:=hq0.frozen 5
 have p6:=hq0.cell 6
 have pz6:=hq0.frozen 6
 have p7:=hq0.cell 7
 have pz7:=hq0.frozen 7
 simp at p0 p1 p2 p3 p4 p5 p6 p7
 have s0:=hq1.cell 0
 have s1:=hq1.cell 1
 have s2:=hq1.cell 2
 have s3:=hq1.cell 3
 have s4:=hq1.cell 4
 have s5:=hq1.cell 5
 have s6:=hq1.cell 6
 have s7:=hq1.cell 7
 simp at s0 s1 s2 s3 s4 s5 s6 s7
 have r0:=hq2.cell 0
 have rz0:=hq2.frozen 0
 have r1:=hq2.cell 1
 have rz1:=hq2.frozen 1
 have r2:=hq2.cell 2
 have rz2:=hq2.frozen 2
 have r3:=hq2.cell 3
 have rz3:=hq2.frozen 3
 have r4:=hq2.cell 4
 have rz4:=hq2.frozen 4
 have r5:=hq2.cell 5
 have rz5:=hq2.frozen 5
 have r6:=hq2.cell 6
 have rz6:=hq2.frozen 6
 have r7:=hq2.cell 7
 have rz7:=hq2.frozen 7
 simp at r0 r1 r2 r3 r4 r5 r6 r7
 have HK:=Qo kb
 have H0:=Qo hq0
 have H1:=Qo hq1
 have H2:=Qo hq2
 clear kb hq0 hq1 hq2
 go_wp2_with fail
 have kb:=HK.out
 have hq0:=H0.out
 have hq1:=H1.out
 have hq2:=H2.out
 clear HK H0 H1 H2
 refine(Za3 cC cE cB cT cP cY cR cV _ _ (Blk.new _ _ _)).mono ?_
 rintro e w2 ⟨rfl,hb2⟩
 have hq0:=(hq0.alloc _).below hb2 (by first|omega|(simp; omega))
 have hq1:=(hq1.alloc _).below hb2 (by first|omega|(simp; omega))
 have hq2:=(hq2.alloc _).below hb2 (by first|omega|(simp; omega))
 have kb:=(kb.alloc kb.size _).trans (hb2.mono (by simp; have:=kb.size; omega))
 have hsz2:w.heap.size+1+1+1≤w2.heap.size:=by have:=hb2.size; simp at this; omega
 clear hb2
 clear p0 p1 p2 p3 p4 p5 p6 p7 s0 s1 s2 s3 s4 s5 s6 s7 r0 r1 r2 r3 r4 r5 r6 r7 pz0 rz0 pz1 rz1 pz2 rz2 pz3 rz3 pz4 rz4 pz5 rz5 pz6 rz6 pz7 rz7
 have r0:=hq2.cell 0
 have rz0:=hq2.frozen 0
 have r1:=hq2.cell 1
 have rz1:=hq2.frozen 1
 have r2:=hq2.cell 2
 have rz2:=hq2.frozen 2
 have r3:=hq2.cell 3
 have rz3:=hq2.frozen 3
 have r4:=hq2.cell 4
 have rz4:=hq2.frozen 4
 have r5:=hq2.cell 5
 have rz5:=hq2.frozen 5
 have r6:=hq2.cell 6
 have rz6:=hq2.frozen 6
 have r7:=hq2.cell 7
 have rz7:=hq2.frozen 7
 simp at r0 r1 r2 r3 r4 r5 r6 r7
 have HK:=Qo kb
 clear kb hq0 hq1 hq2
 go_wp2
 refine bodyPost_ret (v:=.agg #[.int .u32 cC,.int .u8 cE,.int .u16 cB,.int .u16 cT,.int .u16 cP,.int .u16 cY,.int .u32 cR,.bool false]) (by simp[results,Tryz.results81,go_sem,r0,r1,r2,r3,r4,r5,r6,r7]) rfl ⟨rfl,?_⟩
 repeat (first|(with_reducible refine Below.setCell ?_ (by simp<;>omega) _))
 exact HK.out
theorem ZFK (cC cE cB cT cP cY cR:Nat) (cV:Bool) (bC bE bB bT bP bY bR:Nat) (bV:Bool) (x y:Nat) (w:World) (bl:ZcJ bC bE bB bT bP bY bR) (hx:(Vg bE bB bT bC).1=x) (hy:(Vg bE bB bT bC).2=y) (h:XE cY cV=true) (ho:U0 bC bP bY bV 32 x y=false) :
  Calls Tryz.prog 81 #[.agg #[.int .u32 cC,.int .u8 cE,.int .u16 cB,.int .u16 cT,.int .u16 cP,.int .u16 cY,.int .u32 cR,.bool cV],.agg #[.int .u32 bC,.int .u8 bE,.int .u16 bB,.int .u16 bT,.int .u16 bP,.int .u16 bY,.int .u32 bR,.bool bV]] w fun e w'=>e = .returned (.agg #[.int .u32 cC,.int .u8 cE,.int .u16 cB,.int .u16 cT,.int .u16 cP,.int .u16 cY,.int .u32 cR,.bool false])∧Below w.heap.size w w':=by
 have hfr:=fun W=>Za2 cC cE cB cT cP cY cR cV W
 rw[h] at hfr
 have HF:=Qo hfr
 have hov:=fun W=>ZgH bC bE bB bT bP bY bR bV 32 x y W bl (by omega) hx hy
 rw[ho] at hov
 have HO:=Qo hov
 clear hfr h hov ho hx hy
 have hq0:Blk (((w.alloc (.cells #[.int .u32 cC,.int .u8 cE,.int .u16 cB,.int .u16 cT,.int .u16 cP,.int .u16 cY,.int .u32 cR,.bool cV] 30)).alloc (.cells #[.int .u32 bC,.int .u8 bE,.int .u16 bB,.int .u16 bT,.int .u16 bP,.int .u16 bY,.int .u32 bR,.bool bV] 30)).alloc (.cells #[.int .u32 0,.int .u8 0,.int .u16 0,.int .u16 0,.int .u16 0,.int .u16 0,.int .u32 0,.bool false] 30)) w.heap.size 30 #[.int .u32 cC,.int .u8 cE,.int .u16 cB,.int .u16 cT,.int .u16 cP,.int .u16 cY,.int .u32 cR,.bool cV]:=by(repeat (first|(with_reducible exact Blk.new _ _ _)|(with_reducible refine Blk.drewN ?_ _)|(with_reducible refine Blk.drew ?_)|exact Blk.newAt (by simp) _ _|(with_reducible refine Blk.alloc ?_ _)))
 have hq1:Blk (((w.alloc (.cells #[.int .u32 cC,.int .u8 cE,.int .u16 cB,.int .u16 cT,.int .u16 cP,.int .u16 cY,.int .u32 cR,.bool cV] 30)).alloc (.cells #[.int .u32 bC,.int .u8 bE,.int .u16 bB,.int .u16 bT,.int .u16 bP,.int .u16 bY,.int .u32 bR,.bool bV] 30)).alloc (.cells #[.int .u32 0,.int .u8 0,.int .u16 0,.int .u16 0,.int .u16 0,.int .u16 0,.int .u32 0,.bool false] 30)) (w.heap.size+1) 30 #[.int .u32 bC,.int .u8 bE,.int .u16 bB,.int .u16 bT,.int .u16 bP,.int .u16 bY,.int .u32 bR,.bool bV]:=by(repeat (first|(with_reducible exact Blk.new _ _ _)|(with_reducible refine Blk.drewN ?_ _)|(with_reducible refine Blk.drew ?_)|exact Blk.newAt (by simp) _ _|(with_reducible refine Blk.alloc ?_ _)))
 have hq2:Blk (((w.alloc (.cells #[.int .u32 cC,.int .u8 cE,.int .u16 cB,.int .u16 cT,.int .u16 cP,.int .u16 cY,.int .u32 cR,.bool cV] 30)).alloc (.cells #[.int .u32 bC,.int .u8 bE,.int .u16 bB,.int .u16 bT,.int .u16 bP,.int .u16 bY,.int .u32 bR,.bool bV] 30)).alloc (.cells #[.int .u32 0,.int .u8 0,.int .u16 0,.int .u16 0,.int .u16 0,.int .u16 0,.int .u32 0,.bool false] 30)) (w.heap.size+1+1) 30 #[.int .u32 0,.int .u8 0,.int .u16 0,.int .u16 0,.int .u16 0,.int .u16 0,.int .u32 0,.bool false]:=by(repeat (first|(with_reducible exact Blk.new _ _ _)|(with_reducible refine Blk.drewN ?_ _)|(with_reducible refine Blk.drew ?_)|exact Blk.newAt (by simp) _ _|(with_reducible refine Blk.alloc ?_ _)))
 have kb:Below w.heap.size w (((w.alloc (.cells #[.int .u32 cC,.int .u8 cE,.int .u16 cB,.int .u16 cT,.int .u16 cP,.int .u16 cY,.int .u32 cR,.bool cV] 30)).alloc (.cells #[.int .u32 bC,.int .u8 bE,.int .u16 bB,.int .u16 bT,.int .u16 bP,.int .u16 bY,.int .u32 bR,.bool bV] 30)).alloc (.cells #[.int .u32 0,.int .u8 0,.int .u16 0,.int .u16 0,.int .u16 0,.int .u16 0,.int .u32 0,.bool false] 30)):=by(repeat (first|(with_reducible exact Below.refl _ _)|(with_reducible refine Below.drew ?_)|(with_reducible refine ZJ ?_ _)|(with_reducible refine Below.alloc ?_ (by simp<;>omega) _)|(with_reducible refine Below.setCell ?_ (by simp<;>omega) _)))
 have hsz:(((w.alloc (.cells #[.int .u32 cC,.int .u8 cE,.int .u16 cB,.int .u16 cT,.int .u16 cP,.int .u16 cY,.int .u32 cR,.bool cV] 30)).alloc (.cells #[.int .u32 bC,.int .u8 bE,.int .u16 bB,.int .u16 bT,.int .u16 bP,.int .u16 bY,.int .u32 bR,.bool bV] 30)).alloc (.cells #[.int .u32 0,.int .u8 0,.int .u16 0,.int .u16 0,.int .u16 0,.int .u16 0,.int .u32 0,.bool false] 30)).heap.size=w.heap.size+1+1+1:=by simp
 go_enter Tryz.func81,Tryz.ntmps81
 go_wp2_with fail
 refine(HF.out _).mono ?_
 rintro e w1 ⟨rfl,hb1⟩
 have hq0:=(hq0).below hb1 (by first|omega|(simp; omega))
 have hq1:=(hq1).below hb1 (by first|omega|(simp; omega))
 have hq2:=(hq2).below hb1 (by first|omega|(simp; omega))
 have kb:=(kb).trans (hb1.mono kb.size)
 have hsz1:w.heap.size+1+1+1≤w1.heap.size:=by have:=hb1.size; omega
 clear hb1
 have p0:=hq0.cell 0
 have pz0:=hq0.frozen 0
 have p1:=hq0.cell 1
 have pz1:=hq0.frozen 1
 have p2:=hq0.cell 2
 have pz2:=hq0.frozen 2
 have p3:=hq0.cell 3
 have pz3:=hq0.frozen 3
 have p4:=hq0.cell 4
 have pz4:=hq0.frozen 4
 have p5:=hq0.cell 5
 have pz5:=hq0.frozen 5
 have p6:=hq0.cell 6
 have pz6:=hq0.frozen 6
 have p7:=hq0.cell 7
 have pz7:=hq0.frozen 7
 simp at p0 p1 p2 p3 p4 p5 p6 p7
 have s0:=hq1.cell 0
 have s1:=hq1.cell 1
 have s2:=hq1.cell 2
 have s3:=hq1.cell 3
 have s4:=hq1.cell 4
 have s5:=hq1.cell 5
 have s6:=hq1.cell 6
 have s7:=hq1.cell 7
 simp at s0 s1 s2 s3 s4 s5 s6 s7
 have r0:=hq2.cell 0
 have rz0:=hq2.frozen 0
 have r1:=hq2.cell 1
 have rz1:=hq2.frozen 1
 have r2:=hq2.cell 2
 have rz2:=hq2.frozen 2
 have r3:=hq2.cell 3
 have rz3:=hq2.frozen 3
 have r4:=hq2.cell 4
 have rz4:=hq2.frozen 4
 have r5:=hq2.cell 5
 have rz5:=hq2.frozen 5
 have r6:=hq2.cell 6
 have rz6:=hq2.frozen 6
 have r7:=hq2.cell 7
 have rz7:=hq2.frozen 7
 simp at r0 r1 r2 r3 r4 r5 r6 r7
 have HK:=Qo kb
 have H0:=Qo hq0
 have H1:=Qo hq1
 have H2:=Qo hq2
 clear kb hq0 hq1 hq2
 go_wp2_with fail
 have kb:=HK.out
 have hq0:=H0.out
 have hq1:=H1.out
 have hq2:=H2.out
 clear HK H0 H1 H2
 refine(HO.out _).mono ?_
 rintro e w2 ⟨rfl,hb2⟩
 have hq0:=(hq0).below hb2 (by first|omega|(simp; omega))
 have hq1:=(hq1).below hb2 (by first|omega|(simp; omega))
 have hq2:=(hq2).below hb2 (by first|omega|(simp; omega))
 have kb:=(kb).trans (hb2.mono kb.size)
 have hsz2:w.heap.size+1+1+1≤w2.heap.size:=by have:=hb2.size; omega
 clear hb2
 clear p0 p1 p2 p3 p4 p5 p6 p7 s0 s1 s2 s3 s4 s5 s6 s7 r0 r1 r2 r3 r4 r5 r6 r7 pz0 rz0 pz1 rz1 pz2 rz2 pz3 rz3 pz4 rz4 pz5 rz5 pz6 rz6 pz7 rz7
 have p0:=hq0.cell 0
 have pz0:=hq0.frozen 0
 have p1:=hq0.cell 1
 have pz1:=hq0.frozen 1
 have p2:=hq0.cell 2
 have pz2:=hq0.frozen 2
 have p3:=hq0.cell 3
 have pz3:=hq0.frozen 3
 have p4:=hq0.cell 4
 have pz4:=hq0.frozen 4
 have p5:=hq0.cell 5
 have pz5:=hq0.frozen 5
 have p6:=hq0.cell 6
 have pz6:=hq0.frozen 6
 have p7:=hq0.cell 7
 have pz7:=hq0.frozen 7
 simp at p0 p1 p2 p3 p4 p5 p6 p7
 have s0:=hq1.cell 0
 have s1:=hq1.cell 1
 have s2:=hq1.cell 2
 have s3:=hq1.cell 3
 have s4:=hq1.cell 4
 have s5:=hq1.cell 5
 have s6:=hq1.cell 6
 have s7:=hq1.cell 7
 simp at s0 s1 s2 s3 s4 s5 s6 s7
 have r0:=hq2.cell 0
 have rz0:=hq2.frozen 0
 have r1:=hq2.cell 1
 have rz1:=hq2.frozen 1
 have r2:=hq2.cell 2
 have rz2:=hq2.frozen 2
 have r3:=hq2.cell 3
 have rz3:=hq2.frozen 3
 have r4:=hq2.cell 4
 have rz4:=hq2.frozen 4
 have r5:=hq2.cell 5
 have rz5:=hq2.frozen 5
 have r6:=hq2.cell 6
 have rz6:=hq2.frozen 6
 have r7:=hq2.cell 7
 have rz7:=hq2.frozen 7
 simp at r0 r1 r2 r3 r4 r5 r6 r7
 have HK:=Qo kb
 have H0:=Qo hq0
 have H1:=Qo hq1
 have H2:=Qo hq2
 clear kb hq0 hq1 hq2
 go_wp2_with fail
 have kb:=HK.out
 have hq0:=H0.out
 have hq1:=H1.out
 have hq2:=H2.out
 clear HK H0 H1 H2
 refine(Za3 cC cE cB cT cP cY cR cV _ _ (Blk.new _ _ _)).mono ?_
 rintro e w3 ⟨rfl,hb3⟩
 have hq0:=(hq0.alloc _).below hb3 (by first|omega|(simp; omega))
 have hq1:=(hq1.alloc _).below hb3 (by first|omega|(simp; omega))
 have hq2:=(hq2.alloc _).below hb3 (by first|omega|(simp; omega))
 have kb:=(kb.alloc kb.size _).trans (hb3.mono (by simp; have:=kb.size; omega))
 have hsz3:w.heap.size+1+1+1≤w3.heap.size:=by have:=hb3.size; simp at this; omega
 clear hb3
 clear p0 p1 p2 p3 p4 p5 p6 p7 s0 s1 s2 s3 s4 s5 s6 s7 r0 r1 r2 r3 r4 r5 r6 r7 pz0 rz0 pz1 rz1 pz2 rz2 pz3 rz3 pz4 rz4 pz5 rz5 pz6 rz6 pz7 rz7
 have r0:=hq2.cell 0
 have rz0:=hq2.frozen 0
 have r1:=hq2.cell 1
 have rz1:=hq2.frozen 1
 have r2:=hq2.cell 2
 have rz2:=hq2.frozen 2
 have r3:=hq2.cell 3
 have rz3:=hq2.frozen 3
 have r4:=hq2.cell 4
 have rz4:=hq2.frozen 4
 have r5:=hq2.cell 5
 have rz5:=hq2.frozen 5
 have r6:=hq2.cell 6
 have rz6:=hq2.frozen 6
 have r7:=hq2.cell 7
 have rz7:=hq2.frozen 7
 simp at r0 r1 r2 r3 r4 r5 r6 r7
 have HK:=Qo kb
 clear kb hq0 hq1 hq2
 go_wp2
 refine bodyPost_ret (v:=.agg #[.int .u32 cC,.int .u8 cE,.int .u16 cB,.int .u16 cT,.int .u16 cP,.int .u16 cY,.int .u32 cR,.bool false]) (by simp[results,Tryz.results81,go_sem,r0,r1,r2,r3,r4,r5,r6,r7]) rfl ⟨rfl,?_⟩
 repeat (first|(with_reducible refine Below.setCell ?_ (by simp<;>omega) _))
 exact HK.out
theorem ZFL (cC cE cB cT cP cY cR:Nat) (cV:Bool) (bC bE bB bT bP bY bR:Nat) (bV:Bool) (x y:Nat) (w:World) (bl:ZcJ bC bE bB bT bP bY bR) (hx:(Vg bE bB bT bC).1=x) (hy:(Vg bE bB bT bC).2=y) (h:XE cY cV=true) (ho:U0 bC bP bY bV 32 x y=true) :
  Calls Tryz.prog 81 #[.agg #[.int .u32 cC,.int .u8 cE,.int .u16 cB,.int .u16 cT,.int .u16 cP,.int .u16 cY,.int .u32 cR,.bool cV],.agg #[.int .u32 bC,.int .u8 bE,.int .u16 bB,.int .u16 bT,.int .u16 bP,.int .u16 bY,.int .u32 bR,.bool bV]] w fun e w'=>e = .returned (.agg #[.int .u32 cC,.int .u8 cE,.int .u16 cB,.int .u16 cT,.int .u16 cP,.int .u16 bC,.int .u32 cR,.bool cV])∧Below w.heap.size w w':=by
 have hfr:=fun W=>Za2 cC cE cB cT cP cY cR cV W
 rw[h] at hfr
 have HF:=Qo hfr
 have hov:=fun W=>ZgH bC bE bB bT bP bY bR bV 32 x y W bl (by omega) hx hy
 rw[ho] at hov
 have HO:=Qo hov
 have hb4:=Zw4 ho
 clear hfr h hov ho hx hy
 have hq0:Blk (((w.alloc (.cells #[.int .u32 cC,.int .u8 cE,.int .u16 cB,.int .u16 cT,.int .u16 cP,.int .u16 cY,.int .u32 cR,.bool cV] 30)).alloc (.cells #[.int .u32 bC,.int .u8 bE,.int .u16 bB,.int .u16 bT,.int .u16 bP,.int .u16 bY,.int .u32 bR,.bool bV] 30)).alloc (.cells #[.int .u32 0,.int .u8 0,.int .u16 0,.int .u16 0,.int .u16 0,.int .u16 0,.int .u32 0,.bool false] 30)) w.heap.size 30 #[.int .u32 cC,.int .u8 cE,.int .u16 cB,.int .u16 cT,.int .u16 cP,.int .u16 cY,.int .u32 cR,.bool cV]:=by(repeat (first|(with_reducible exact Blk.new _ _ _)|(with_reducible refine Blk.drewN ?_ _)|(with_reducible refine Blk.drew ?_)|exact Blk.newAt (by simp) _ _|(with_reducible refine Blk.alloc ?_ _)))
 have hq1:Blk (((w.alloc (.cells #[.int .u32 cC,.int .u8 cE,.int .u16 cB,.int .u16 cT,.int .u16 cP,.int .u16 cY,.int .u32 cR,.bool cV] 30)).alloc (.cells #[.int .u32 bC,.int .u8 bE,.int .u16 bB,.int .u16 bT,.int .u16 bP,.int .u16 bY,.int .u32 bR,.bool bV] 30)).alloc (.cells #[.int .u32 0,.int .u8 0,.int .u16 0,.int .u16 0,.int .u16 0,.int .u16 0,.int .u32 0,.bool false] 30)) (w.heap.size+1) 30 #[.int .u32 bC,.int .u8 bE,.int .u16 bB,.int .u16 bT,.int .u16 bP,.int .u16 bY,.int .u32 bR,.bool bV]:=by(repeat (first|(with_reducible exact Blk.new _ _ _)|(with_reducible refine Blk.drewN ?_ _)|(with_reducible refine Blk.drew ?_)|exact Blk.newAt (by simp) _ _|(with_reducible refine Blk.alloc ?_ _)))
 have hq2:Blk (((w.alloc (.cells #[.int .u32 cC,.int .u8 cE,.int .u16 cB,.int .u16 cT,.int .u16 cP,.int .u16 cY,.int .u32 cR,.bool cV] 30)).alloc (.cells #[.int .u32 bC,.int .u8 bE,.int .u16 bB,.int .u16 bT,.int .u16 bP,.int .u16 bY,.int .u32 bR,.bool bV] 30)).alloc (.cells #[.int .u32 0,.int .u8 0,.int .u16 0,.int .u16 0,.int .u16 0,.int .u16 0,.int .u32 0,.bool false] 30)) (w.heap.size+1+1) 30 #[.int .u32 0,.int .u8 0,.int .u16 0,.int .u16 0,.int .u16 0,.int .u16 0,.int .u32 0,.bool false]:=by(repeat (first|(with_reducible exact Blk.new _ _ _)|(with_reducible refine Blk.drewN ?_ _)|(with_reducible refine Blk.drew ?_)|exact Blk.newAt (by simp) _ _|(with_reducible refine Blk.alloc ?_ _)))
 have kb:Below w.heap.size w (((w.alloc (.cells #[.int .u32 cC,.int .u8 cE,.int .u16 cB,.int .u16 cT,.int .u16 cP,.int .u16 cY,.int .u32 cR,.bool cV] 30)).alloc (.cells #[.int .u32 bC,.int .u8 bE,.int .u16 bB,.int .u16 bT,.int .u16 bP,.int .u16 bY,.int .u32 bR,.bool bV] 30)).alloc (.cells #[.int .u32 0,.int .u8 0,.int .u16 0,.int .u16 0,.int .u16 0,.int .u16 0,.int .u32 0,.bool false] 30)):=by(repeat (first|(with_reducible exact Below.refl _ _)|(with_reducible refine Below.drew ?_)|(with_reducible refine ZJ ?_ _)|(with_reducible refine Below.alloc ?_ (by simp<;>omega) _)|(with_reducible refine Below.setCell ?_ (by simp<;>omega) _)))
 have hsz:(((w.alloc (.cells #[.int .u32 cC,.int .u8 cE,.int .u16 cB,.int .u16 cT,.int .u16 cP,.int .u16 cY,.int .u32 cR,.bool cV] 30)).alloc (.cells #[.int .u32 bC,.int .u8 bE,.int .u16 bB,.int .u16 bT,.int .u16 bP,.int .u16 bY,.int .u32 bR,.bool bV] 30)).alloc (.cells #[.int .u32 0,.int .u8 0,.int .u16 0,.int .u16 0,.int .u16 0,.int .u16 0,.int .u32 0,.bool false] 30)).heap.size=w.heap.size+1+1+1:=by simp
 go_enter Tryz.func81,Tryz.ntmps81
 go_wp2_with fail
 refine(HF.out _).mono ?_
 rintro e w1 ⟨rfl,hb1⟩
 have hq0:=(hq0).below hb1 (by first|omega|(simp; omega))
 have hq1:=(hq1).below hb1 (by first|omega|(simp; omega))
 have hq2:=(hq2).below hb1 (by first|omega|(simp; omega))
 have kb:=(kb).trans (hb1.mono kb.size)
 have hsz1:w.heap.size+1+1+1≤w1.heap.size:=by have:=hb1.size; omega
 clear hb1
 have p0:=hq0.cell 0
 have pz0:=hq0.frozen 0
 have p1:=hq0.cell 1
 have pz1:=hq0.frozen 1
 have p2:=hq0.cell 2
 have pz2:=hq0.frozen 2
 have p3:=hq0.cell 3
 have pz3:=hq0.frozen 3
 have p4:=hq0.cell 4
 have pz4:=hq0.frozen 4
 have p5:=hq0.cell 5
 have pz5:=hq0.frozen 5
 have p6:=hq0.cell 6
 have pz6:=hq0.frozen 6
 have p7:=hq0.cell 7
 have pz7:=hq0.frozen 7
 simp at p0 p1 p2 p3 p4 p5 p6 p7
 have s0:=hq1.cell 0
 have s1:=hq1.cell 1
 have s2:=hq1.cell 2
 have s3:=hq1.cell 3
 have s4:=hq1.cell 4
 have s5:=hq1.cell 5
 have s6:=hq1.cell 6
 have s7:=hq1.cell 7
 simp at s0 s1 s2 s3 s4 s5 s6 s7
 have r0:=hq2.cell 0
 have rz0:=hq2.frozen 0
 have r1:=hq2.cell 1
 have rz1:=hq2.frozen 1
 have r2:=hq2.cell 2
 have rz2:=hq2.frozen 2
 have r3:=hq2.cell 3
 have rz3:=hq2.frozen 3
 have r4:=hq2.cell 4
 have rz4:=hq2.frozen 4
 have r5:=hq2.cell 5
 have rz5:=hq2.frozen 5
 have r6:=hq2.cell 6
 have rz6:=hq2.frozen 6
 have r7:=hq2.cell 7
 have rz7:=hq2.frozen 7
 simp at r0 r1 r2 r3 r4 r5 r6 r7
 have HK:=Qo kb
 have H0:=Qo hq0
 have H1:=Qo hq1
 have H2:=Qo hq2
 clear kb hq0 hq1 hq2
 go_wp2_with fail
 have kb:=HK.out
 have hq0:=H0.out
 have hq1:=H1.out
 have hq2:=H2.out
 clear HK H0 H1 H2
 refine(HO.out _).mono ?_
 rintro e w2 ⟨rfl,hb2⟩
 have hq0:=(hq0).below hb2 (by first|omega|(simp; omega))
 have hq1:=(hq1).below hb2 (by first|omega|(simp; omega))
 have hq2:=(hq2).below hb2 (by first|omega|(simp; omega))
 have kb:=(kb).trans (hb2.mono kb.size)
 have hsz2:w.heap.size+1+1+1≤w2.heap.size:=by have:=hb2.size; omega
 clear hb2
 clear p0 p1 p2 p3 p4 p5 p6 p7 s0 s1 s2 s3 s4 s5 s6 s7 r0 r1 r2 r3 r4 r5 r6 r7 pz0 rz0 pz1 rz1 pz2 rz2 pz3 rz3 pz4 rz4 pz5 rz5 pz6 rz6 pz7 rz7
 have p0:=hq0.cell 0
 have pz0:=hq0.frozen 0
 have p1:=hq0.cell 1
 have pz1:=hq0.frozen 1
 have p2:=hq0.cell 2
 have pz2:=hq0.frozen 2
 have p3:=hq0.cell 3
 have pz3:=hq0.frozen 3
 have p4:=hq0.cell 4
 have pz4:=hq0.frozen 4
 have p5:=hq0.cell 5
 have pz5:=hq0.frozen 5
 have p6:=hq0.cell 6
 have pz6:=hq0.frozen 6
 have p7:=hq0.cell 7
 have pz7:=hq0.frozen 7
 simp at p0 p1 p2 p3 p4 p5 p6 p7
 have s0:=hq1.cell 0
 have s1:=hq1.cell 1
 have s2:=hq1.cell 2
 have s3:=hq1.cell 3
 have s4:=hq1.cell 4
 have s5:=hq1.cell 5
 have s6:=hq1.cell 6
 have s7:=hq1.cell 7
 simp at s0 s1 s2 s3 s4 s5 s6 s7
 have r0:=hq2.cell 0
 have rz0:=hq2.frozen 0
 have r1:=hq2.cell 1
 have rz1:=hq2.frozen 1
 have r2:=hq2.cell 2
 have rz2:=hq2.frozen 2
 have r3:=hq2.cell 3
 have rz3:=hq2.frozen 3
 have r4:=hq2.cell 4
 have rz4:=hq2.frozen 4
 have r5:=hq2.cell 5
 have rz5:=hq2.frozen 5
 have r6:=hq2.cell 6
 have rz6:=hq2.frozen 6
 have r7:=hq2.cell 7
 have rz7:=hq2.frozen 7
 simp at r0 r1 r2 r3 r4 r5 r6 r7
 have HK:=Qo kb
 have H0:=Qo hq0
 have H1:=Qo hq1
 have H2:=Qo hq2
 clear kb hq0 hq1 hq2
 go_wp2
 refine bodyPost_ret (v:=.agg #[.int .u32 cC,.int .u8 cE,.int .u16 cB,.int .u16 cT,.int .u16 cP,.int .u16 bC,.int .u32 cR,.bool cV]) (by simp[results,Tryz.results81,go_sem,r0,r1,r2,r3,r4,r5,r6,r7]) rfl ⟨rfl,?_⟩
 repeat (first|(with_reducible refine Below.setCell ?_ (by simp<;>omega) _))
 exact HK.out
attribute [local go_sem ↓] Go.wp_at_zero Go.wp_at_succ
theorem ZFM (cC cE cB cT cP cY cR:Nat) (bC bE bB bT bP bY bR:Nat) (bV:Bool) (w:World)  :
  Calls Tryz.prog 82 #[.agg #[.int .u32 cC,.int .u8 cE,.int .u16 cB,.int .u16 cT,.int .u16 cP,.int .u16 cY,.int .u32 cR,.bool false],.agg #[.int .u32 bC,.int .u8 bE,.int .u16 bB,.int .u16 bT,.int .u16 bP,.int .u16 bY,.int .u32 bR,.bool bV]] w fun e w'=>e = .returned (.agg #[.int .u32 cC,.int .u8 cE,.int .u16 cB,.int .u16 cT,.int .u16 cP,.int .u16 cY,.int .u32 cR,.bool false])∧Below w.heap.size w w':=by
 have hq0:Blk (((w.alloc (.cells #[.int .u32 cC,.int .u8 cE,.int .u16 cB,.int .u16 cT,.int .u16 cP,.int .u16 cY,.int .u32 cR,.bool false] 30)).alloc (.cells #[.int .u32 bC,.int .u8 bE,.int .u16 bB,.int .u16 bT,.int .u16 bP,.int .u16 bY,.int .u32 bR,.bool bV] 30)).alloc (.cells #[.int .u32 0,.int .u8 0,.int .u16 0,.int .u16 0,.int .u16 0,.int .u16 0,.int .u32 0,.bool false] 30)) w.heap.size 30 #[.int .u32 cC,.int .u8 cE,.int .u16 cB,.int .u16 cT,.int .u16 cP,.int .u16 cY,.int .u32 cR,.bool false]:=by(repeat (first|(with_reducible exact Blk.new _ _ _)|(with_reducible refine Blk.drewN ?_ _)|(with_reducible refine Blk.drew ?_)|exact Blk.newAt (by simp) _ _|(with_reducible refine Blk.alloc ?_ _)))
 have hq1:Blk (((w.alloc (.cells #[.int .u32 cC,.int .u8 cE,.int .u16 cB,.int .u16 cT,.int .u16 cP,.int .u16 cY,.int .u32 cR,.bool false] 30)).alloc (.cells #[.int .u32 bC,.int .u8 bE,.int .u16 bB,.int .u16 bT,.int .u16 bP,.int .u16 bY,.int .u32 bR,.bool bV] 30)).alloc (.cells #[.int .u32 0,.int .u8 0,.int .u16 0,.int .u16 0,.int .u16 0,.int .u16 0,.int .u32 0,.bool false] 30)) (w.heap.size+1) 30 #[.int .u32 bC,.int .u8 bE,.int .u16 bB,.int .u16 bT,.int .u16 bP,.int .u16 bY,.int .u32 bR,.bool bV]:=by(repeat (first|(with_reducible exact Blk.new _ _ _)|(with_reducible refine Blk.drewN ?_ _)|(with_reducible refine Blk.drew ?_)|exact Blk.newAt (by simp) _ _|(with_reducible refine Blk.alloc ?_ _)))
 have hq2:Blk (((w.alloc (.cells #[.int .u32 cC,.int .u8 cE,.int .u16 cB,.int .u16 cT,.int .u16 cP,.int .u16 cY,.int .u32 cR,.bool false] 30)).alloc (.cells #[.int .u32 bC,.int .u8 bE,.int .u16 bB,.int .u16 bT,.int .u16 bP,.int .u16 bY,.int .u32 bR,.bool bV] 30)).alloc (.cells #[.int .u32 0,.int .u8 0,.int .u16 0,.int .u16 0,.int .u16 0,.int .u16 0,.int .u32 0,.bool false] 30)) (w.heap.size+1+1) 30 #[.int .u32 0,.int .u8 0,.int .u16 0,.int .u16 0,.int .u16 0,.int .u16 0,.int .u32 0,.bool false]:=by(repeat (first|(with_reducible exact Blk.new _ _ _)|(with_reducible refine Blk.drewN ?_ _)|(with_reducible refine Blk.drew ?_)|exact Blk.newAt (by simp) _ _|(with_reducible refine Blk.alloc ?_ _)))
 have kb:Below w.heap.size w (((w.alloc (.cells #[.int .u32 cC,.int .u8 cE,.int .u16 cB,.int .u16 cT,.int .u16 cP,.int .u16 cY,.int .u32 cR,.bool false] 30)).alloc (.cells #[.int .u32 bC,.int .u8 bE,.int .u16 bB,.int .u16 bT,.int .u16 bP,.int .u16 bY,.int .u32 bR,.bool bV] 30)).alloc (.cells #[.int .u32 0,.int .u8 0,.int .u16 0,.int .u16 0,.int .u16 0,.int .u16 0,.int .u32 0,.bool false] 30)):=by(repeat (first|(with_reducible exact Below.refl _ _)|(with_reducible refine Below.drew ?_)|(with_reducible refine ZJ ?_ _)|(with_reducible refine Below.alloc ?_ (by simp<;>omega) _)|(with_reducible refine Below.setCell ?_ (by simp<;>omega) _)))
 have hsz:(((w.alloc (.cells #[.int .u32 cC,.int .u8 cE,.int .u16 cB,.int .u16 cT,.int .u16 cP,.int .u16 cY,.int .u32 cR,.bool false] 30)).alloc (.cells #[.int .u32 bC,.int .u8 bE,.int .u16 bB,.int .u16 bT,.int .u16 bP,.int .u16 bY,.int .u32 bR,.bool bV] 30)).alloc (.cells #[.int .u32 0,.int .u8 0,.int .u16 0,.int .u16 0,.int .u16 0,.int .u16 0,.int .u32 0,.bool false] 30)).heap.size=w.heap.size+1+1+1:=by simp
 go_enter Tryz.func82,Tryz.ntmps82
 go_wp2_with fail
 refine(Za3 cC cE cB cT cP cY cR false _ _ (Blk.newAt (by simp) _ _)).mono ?_
 rintro e w1 ⟨rfl,hb1⟩
 have hq2:=(hq2.alloc _).below hb1 (by first|(simp; done)|(simp; omega))
 have kb:=(kb.alloc kb.size _).trans (hb1.mono (by simp; have:=kb.size; omega))
 clear hb1 hq0 hq1
 have r0:=hq2.cell 0
 have rz0:=hq2.frozen 0
 have r1:=hq2.cell 1
 have rz1:=hq2.frozen 1
 have r2:=hq2.cell 2
 have rz2:=hq2.frozen 2
 have r3:=hq2.cell 3
 have rz3:=hq2.frozen 3
 have r4:=hq2.cell 4
 have rz4:=hq2.frozen 4
 have r5:=hq2.cell 5
 have rz5:=hq2.frozen 5
 have r6:=hq2.cell 6
 have rz6:=hq2.frozen 6
 have r7:=hq2.cell 7
 have rz7:=hq2.frozen 7
 simp at r0 r1 r2 r3 r4 r5 r6 r7
 have HK:=Qo kb
 clear kb hq2
 go_wp2
 refine bodyPost_ret (v:=.agg #[.int .u32 cC,.int .u8 cE,.int .u16 cB,.int .u16 cT,.int .u16 cP,.int .u16 cY,.int .u32 cR,.bool false]) (by simp[results,Tryz.results82,go_sem,r0,r1,r2,r3,r4,r5,r6,r7]) rfl ⟨rfl,?_⟩
 repeat (first|(with_reducible refine Below.setCell ?_ (by simp<;>omega) _))
 exact HK.out
theorem ZFN (cC cE cB cT cP cY cR:Nat) (bC bE bB bT bP bY bR:Nat) (bV:Bool) (w:World) (hy0:((cY:Int)==0)=true) :
  Calls Tryz.prog 82 #[.agg #[.int .u32 cC,.int .u8 cE,.int .u16 cB,.int .u16 cT,.int .u16 cP,.int .u16 cY,.int .u32 cR,.bool true],.agg #[.int .u32 bC,.int .u8 bE,.int .u16 bB,.int .u16 bT,.int .u16 bP,.int .u16 bY,.int .u32 bR,.bool bV]] w fun e w'=>e = .returned (.agg #[.int .u32 cC,.int .u8 cE,.int .u16 cB,.int .u16 cT,.int .u16 cP,.int .u16 cY,.int .u32 cR,.bool false])∧Below w.heap.size w w':=by
 have hq0:Blk (((w.alloc (.cells #[.int .u32 cC,.int .u8 cE,.int .u16 cB,.int .u16 cT,.int .u16 cP,.int .u16 cY,.int .u32 cR,.bool true] 30)).alloc (.cells #[.int .u32 bC,.int .u8 bE,.int .u16 bB,.int .u16 bT,.int .u16 bP,.int .u16 bY,.int .u32 bR,.bool bV] 30)).alloc (.cells #[.int .u32 0,.int .u8 0,.int .u16 0,.int .u16 0,.int .u16 0,.int .u16 0,.int .u32 0,.bool false] 30)) w.heap.size 30 #[.int .u32 cC,.int .u8 cE,.int .u16 cB,.int .u16 cT,.int .u16 cP,.int .u16 cY,.int .u32 cR,.bool true]:=by(repeat (first|(with_reducible exact Blk.new _ _ _)|(with_reducible refine Blk.drewN ?_ _)|(with_reducible refine Blk.drew ?_)|exact Blk.newAt (by simp) _ _|(with_reducible refine Blk.alloc ?_ _)))
 have hq1:Blk (((w.alloc (.cells #[.int .u32 cC,.int .u8 cE,.int .u16 cB,.int .u16 cT,.int .u16 cP,.int .u16 cY,.int .u32 cR,.bool true] 30)).alloc (.cells #[.int .u32 bC,.int .u8 bE,.int .u16 bB,.int .u16 bT,.int .u16 bP,.int .u16 bY,.int .u32 bR,.bool bV] 30)).alloc (.cells #[.int .u32 0,.int .u8 0,.int .u16 0,.int .u16 0,.int .u16 0,.int .u16 0,.int .u32 0,.bool false] 30)) (w.heap.size+1) 30 #[.int .u32 bC,.int .u8 bE,.int .u16 bB,.int .u16 bT,.int .u16 bP,.int .u16 bY,.int .u32 bR,.bool bV]:=by(repeat (first|(with_reducible exact Blk.new _ _ _)|(with_reducible refine Blk.drewN ?_ _)|(with_reducible refine Blk.drew ?_)|exact Blk.newAt (by simp) _ _|(with_reducible refine Blk.alloc ?_ _)))
 have hq2:Blk (((w.alloc (.cells #[.int .u32 cC,.int .u8 cE,.int .u16 cB,.int .u16 cT,.int .u16 cP,.int .u16 cY,.int .u32 cR,.bool true] 30)).alloc (.cells #[.int .u32 bC,.int .u8 bE,.int .u16 bB,.int .u16 bT,.int .u16 bP,.int .u16 bY,.int .u32 bR,.bool bV] 30)).alloc (.cells #[.int .u32 0,.int .u8 0,.int .u16 0,.int .u16 0,.int .u16 0,.int .u16 0,.int .u32 0,.bool false] 30)) (w.heap.size+1+1) 30 #[.int .u32 0,.int .u8 0,.int .u16 0,.int .u16 0,.int .u16 0,.int .u16 0,.int .u32 0,.bool false]:=by(repeat (first|(with_reducible exact Blk.new _ _ _)|(with_reducible refine Blk.drewN ?_ _)|(with_reducible refine Blk.drew ?_)|exact Blk.newAt (by simp) _ _|(with_reducible refine Blk.alloc ?_ _)))
 have kb:Below w.heap.size w (((w.alloc (.cells #[.int .u32 cC,.int .u8 cE,.int .u16 cB,.int .u16 cT,.int .u16 cP,.int .u16 cY,.int .u32 cR,.bool true] 30)).alloc (.cells #[.int .u32 bC,.int .u8 bE,.int .u16 bB,.int .u16 bT,.int .u16 bP,.int .u16 bY,.int .u32 bR,.bool bV] 30)).alloc (.cells #[.int .u32 0,.int .u8 0,.int .u16 0,.int .u16 0,.int .u16 0,.int .u16 0,.int .u32 0,.bool false] 30)):=by(repeat (first|(with_reducible exact Below.refl _ _)|(with_reducible refine Below.drew ?_)|(with_reducible refine ZJ ?_ _)|(with_reducible refine Below.alloc ?_ (by simp<;>omega) _)|(with_reducible refine Below.setCell ?_ (by simp<;>omega) _)))
 have hsz:(((w.alloc (.cells #[.int .u32 cC,.int .u8 cE,.int .u16 cB,.int .u16 cT,.int .u16 cP,.int .u16 cY,.int .u32 cR,.bool true] 30)).alloc (.cells #[.int .u32 bC,.int .u8 bE,.int .u16 bB,.int .u16 bT,.int .u16 bP,.int .u16 bY,.int .u32 bR,.bool bV] 30)).alloc (.cells #[.int .u32 0,.int .u8 0,.int .u16 0,.int .u16 0,.int .u16 0,.int .u16 0,.int .u32 0,.bool false] 30)).heap.size=w.heap.size+1+1+1:=by simp
 go_enter Tryz.func82,Tryz.ntmps82
 go_wp2_with fail
 refine(Za3 cC cE cB cT cP cY cR true _ _ (Blk.newAt (by simp) _ _)).mono ?_
 rintro e w1 ⟨rfl,hb1⟩
 have hq2:=(hq2.alloc _).below hb1 (by first|(simp; done)|(simp; omega))
 have kb:=(kb.alloc kb.size _).trans (hb1.mono (by simp; have:=kb.size; omega))
 clear hb1 hq0 hq1
 have r0:=hq2.cell 0
 have rz0:=hq2.frozen 0
 have r1:=hq2.cell 1
 have rz1:=hq2.frozen 1
 have r2:=hq2.cell 2
 have rz2:=hq2.frozen 2
 have r3:=hq2.cell 3
 have rz3:=hq2.frozen 3
 have r4:=hq2.cell 4
 have rz4:=hq2.frozen 4
 have r5:=hq2.cell 5
 have rz5:=hq2.frozen 5
 have r6:=hq2.cell 6
 have rz6:=hq2.frozen 6
 have r7:=hq2.cell 7
 have rz7:=hq2.frozen 7
 simp at r0 r1 r2 r3 r4 r5 r6 r7
 have HK:=Qo kb
 clear kb hq2
 go_wp2
 refine bodyPost_ret (v:=.agg #[.int .u32 cC,.int .u8 cE,.int .u16 cB,.int .u16 cT,.int .u16 cP,.int .u16 cY,.int .u32 cR,.bool false]) (by simp[results,Tryz.results82,go_sem,r0,r1,r2,r3,r4,r5,r6,r7]) rfl ⟨rfl,?_⟩
 repeat (first|(with_reducible refine Below.setCell ?_ (by simp<;>omega) _))
 exact HK.out
theorem ZFO (cC cE cB cT cP cY cR:Nat) (bC bE bB bT bP bY bR:Nat) (bV:Bool) (x y:Nat) (w:World) (bl:ZcJ bC bE bB bT bP bY bR) (hx:(Vg bE bB bT bC).1=x) (hy:(Vg bE bB bT bC).2=y) (hy0:((cY:Int)==0)=false) (ho:U0 bC bP bY bV 64 x y=false) :
  Calls Tryz.prog 82 #[.agg #[.int .u32 cC,.int .u8 cE,.int .u16 cB,.int .u16 cT,.int .u16 cP,.int .u16 cY,.int .u32 cR,.bool true],.agg #[.int .u32 bC,.int .u8 bE,.int .u16 bB,.int .u16 bT,.int .u16 bP,.int .u16 bY,.int .u32 bR,.bool bV]] w fun e w'=>e = .returned (.agg #[.int .u32 cC,.int .u8 cE,.int .u16 cB,.int .u16 cT,.int .u16 cP,.int .u16 cY,.int .u32 cR,.bool false])∧Below w.heap.size w w':=by
 have hov:=fun W=>ZgH bC bE bB bT bP bY bR bV 64 x y W bl (by omega) hx hy
 rw[ho] at hov
 have HO:=Qo hov
 clear hov ho hx hy
 have hq0:Blk (((w.alloc (.cells #[.int .u32 cC,.int .u8 cE,.int .u16 cB,.int .u16 cT,.int .u16 cP,.int .u16 cY,.int .u32 cR,.bool true] 30)).alloc (.cells #[.int .u32 bC,.int .u8 bE,.int .u16 bB,.int .u16 bT,.int .u16 bP,.int .u16 bY,.int .u32 bR,.bool bV] 30)).alloc (.cells #[.int .u32 0,.int .u8 0,.int .u16 0,.int .u16 0,.int .u16 0,.int .u16 0,.int .u32 0,.bool false] 30)) w.heap.size 30 #[.int .u32 cC,.int .u8 cE,.int .u16 cB,.int .u16 cT,.int .u16 cP,.int .u16 cY,.int .u32 cR,.bool true]:=by(repeat (first|(with_reducible exact Blk.new _ _ _)|(with_reducible refine Blk.drewN ?_ _)|(with_reducible refine Blk.drew ?_)|exact Blk.newAt (by simp) _ _|(with_reducible refine Blk.alloc ?_ _)))
 have hq1:Blk (((w.alloc (.cells #[.int .u32 cC,.int .u8 cE,.int .u16 cB,.int .u16 cT,.int .u16 cP,.int .u16 cY,.int .u32 cR,.bool true] 30)).alloc (.cells #[.int .u32 bC,.int .u8 bE,.int .u16 bB,.int .u16 bT,.int .u16 bP,.int .u16 bY,.int .u32 bR,.bool bV] 30)).alloc (.cells #[.int .u32 0,.int .u8 0,.int .u16 0,.int .u16 0,.int .u16 0,.int .u16 0,.int .u32 0,.bool false] 30)) (w.heap.size+1) 30 #[.int .u32 bC,.int .u8 bE,.int .u16 bB,.int .u16 bT,.int .u16 bP,.int .u16 bY,.int .u32 bR,.bool bV]:=by(repeat (first|(with_reducible exact Blk.new _ _ _)|(with_reducible refine Blk.drewN ?_ _)|(with_reducible refine Blk.drew ?_)|exact Blk.newAt (by simp) _ _|(with_reducible refine Blk.alloc ?_ _)))
 have hq2:Blk (((w.alloc (.cells #[.int .u32 cC,.int .u8 cE,.int .u16 cB,.int .u16 cT,.int .u16 cP,.int .u16 cY,.int .u32 cR,.bool true] 30)).alloc (.cells #[.int .u32 bC,.int .u8 bE,.int .u16 bB,.int .u16 bT,.int .u16 bP,.int .u16 bY,.int .u32 bR,.bool bV] 30)).alloc (.cells #[.int .u32 0,.int .u8 0,.int .u16 0,.int .u16 0,.int .u16 0,.int .u16 0,.int .u32 0,.bool false] 30)) (w.heap.size+1+1) 30 #[.int .u32 0,.int .u8 0,.int .u16 0,.int .u16 0,.int .u16 0,.int .u16 0,.int .u32 0,.bool false]:=by(repeat (first|(with_reducible exact Blk.new _ _ _)|(with_reducible refine Blk.drewN ?_ _)|(with_reducible refine Blk.drew ?_)|exact Blk.newAt (by simp) _ _|(with_reducible refine Blk.alloc ?_ _)))
 have kb:Below w.heap.size w (((w.alloc (.cells #[.int .u32 cC,.int .u8 cE,.int .u16 cB,.int .u16 cT,.int .u16 cP,.int .u16 cY,.int .u32 cR,.bool true] 30)).alloc (.cells #[.int .u32 bC,.int .u8 bE,.int .u16 bB,.int .u16 bT,.int .u16 bP,.int .u16 bY,.int .u32 bR,.bool bV] 30)).alloc (.cells #[.int .u32 0,.int .u8 0,.int .u16 0,.int .u16 0,.int .u16 0,.int .u16 0,.int .u32 0,.bool false] 30)):=by(repeat (first|(with_reducible exact Below.refl _ _)|(with_reducible refine Below.drew ?_)|(with_reducible refine ZJ ?_ _)|(with_reducible refine Below.alloc ?_ (by simp<;>omega) _)|(with_reducible refine Below.setCell ?_ (by simp<;>omega) _)))
 have hsz:(((w.alloc (.cells #[.int .u32 cC,.int .u8 cE,.int .u16 cB,.int .u16 cT,.int .u16 cP,.int .u16 cY,.int .u32 cR,.bool true] 30)).alloc (.cells #[.int .u32 bC,.int .u8 bE,.int .u16 bB,.int .u16 bT,.int .u16 bP,.int .u16 bY,.int .u32 bR,.bool bV] 30)).alloc (.cells #[.int .u32 0,.int .u8 0,.int .u16 0,.int .u16 0,.int .u16 0,.int .u16 0,.int .u32 0,.bool false] 30)).heap.size=w.heap.size+1+1+1:=by simp
 go_enter Tryz.func82,Tryz.ntmps82
 go_wp2_with fail
 refine(HO.out _).mono ?_
 rintro e w1 ⟨rfl,hb1⟩
 have hq0:=(hq0).below hb1 (by first|omega|(simp; omega))
 have hq1:=(hq1).below hb1 (by first|omega|(simp; omega))
 have hq2:=(hq2).below hb1 (by first|omega|(simp; omega))
 have kb:=(kb).trans (hb1.mono kb.size)
 have hsz1:w.heap.size+1+1+1≤w1.heap.size:=by have:=hb1.size; omega
 clear hb1
 have p0:=hq0.cell 0
 have pz0:=hq0.frozen 0
 have p1:=hq0.cell 1
 have pz1:=hq0.frozen 1
 have p2:=hq0.cell 2
 have pz2:=hq0.frozen 2
 have p3:=hq0.cell 3
 have pz3:=hq0.frozen 3
 have p4:=hq0.cell 4
 have pz4:=hq0.frozen 4
 have p5:=hq0.cell 5
 have pz5:=hq0.frozen 5
 have p6:=hq0.cell 6
 have pz6:=hq0.frozen 6
 have p7:=hq0.cell 7
 have pz7:=hq0.frozen 7
 simp at p0 p1 p2 p3 p4 p5 p6 p7
 have s0:=hq1.cell 0
 have s1:=hq1.cell 1
 have s2:=hq1.cell 2
 have s3:=hq1.cell 3
 have s4:=hq1.cell 4
 have s5:=hq1.cell 5
 have s6:=hq1.cell 6
 have s7:=hq1.cell 7
 simp at s0 s1 s2 s3 s4 s5 s6 s7
 have r0:=hq2.cell 0
 have rz0:=hq2.frozen 0
 have r1:=hq2.cell 1
 have rz1:=hq2.frozen 1
 have r2:=hq2.cell 2
 have rz2:=hq2.frozen 2
 have r3:=hq2.cell 3
 have rz3:=hq2.frozen 3
 have r4:=hq2.cell 4
 have rz4:=hq2.frozen 4
 have r5:=hq2.cell 5
 have rz5:=hq2.frozen 5
 have r6:=hq2.cell 6
 have rz6:=hq2.frozen 6
 have r7:=hq2.cell 7
 have rz7:=hq2.frozen 7
 simp at r0 r1 r2 r3 r4 r5 r6 r7
 have HK:=Qo kb
 have H0:=Qo hq0
 have H1:=Qo hq1
 have H2:=Qo hq2
 clear kb hq0 hq1 hq2
 go_wp2_with fail
 have kb:=HK.out
 have hq0:=H0.out
 have hq1:=H1.out
 have hq2:=H2.out
 clear HK H0 H1 H2
 refine(Za3 cC cE cB cT cP cY cR true _ _ (Blk.new _ _ _)).mono ?_
 rintro e w2 ⟨rfl,hb2⟩
 have hq0:=(hq0.alloc _).below hb2 (by first|omega|(simp; omega))
 have hq1:=(hq1.alloc _).below hb2 (by first|omega|(simp; omega))
 have hq2:=(hq2.alloc _).below hb2 (by first|omega|(simp; omega))
 have kb:=(kb.alloc kb.size _).trans (hb2.mono (by simp; have:=kb.size; omega))
 have hsz2:w.heap.size+1+1+1≤w2.heap.size:=by have:=hb2.size; simp at this; omega
 clear hb2
 clear p0 p1 p2 p3 p4 p5 p6 p7 s0 s1 s2 s3 s4 s5 s6 s7 r0 r1 r2 r3 r4 r5 r6 r7 pz0 rz0 pz1 rz1 pz2 rz2 pz3 rz3 pz4 rz4 pz5 rz5 pz6 rz6 pz7 rz7
 have r0:=hq2.cell 0
 have rz0:=hq2.frozen 0
 have r1:=hq2.cell 1
 have rz1:=hq2.frozen 1
 have r2:=hq2.cell 2
 have rz2:=hq2.frozen 2
 have r3:=hq2.cell 3
 have rz3:=hq2.frozen 3
 have r4:=hq2.cell 4
 have rz4:=hq2.frozen 4
 have r5:=hq2.cell 5
 have rz5:=hq2.frozen 5
 have r6:=hq2.cell 6
 have rz6:=hq2.frozen 6
 have r7:=hq2.cell 7
 have rz7:=hq2.frozen 7
 simp at r0 r1 r2 r3 r4 r5 r6 r7
 have HK:=Qo kb
 clear kb hq0 hq1 hq2
 go_wp2
 refine bodyPost_ret (v:=.agg #[.int .u32 cC,.int .u8 cE,.int .u16 cB,.int .u16 cT,.int .u16 cP,.int .u16 cY,.int .u32 cR,.bool false]) (by simp[results,Tryz.results82,go_sem,r0,r1,r2,r3,r4,r5,r6,r7]) rfl ⟨rfl,?_⟩
 repeat (first|(with_reducible refine Below.setCell ?_ (by simp<;>omega) _))
 exact HK.out
theorem ZFP (cC cE cB cT cP cY cR:Nat) (bC bE bB bT bP bY bR:Nat) (bV:Bool) (x y:Nat) (w:World) (bl:ZcJ bC bE bB bT bP bY bR) (hx:(Vg bE bB bT bC).1=x) (hy:(Vg bE bB bT bC).2=y) (hy0:((cY:Int)==0)=false) (ho:U0 bC bP bY bV 64 x y=true) (hn:((bC:Int) !=(cY:Int))=true) (_hn2:((bC:Int)==(cY:Int))=false) (_hyl:cY<65536) :
  Calls Tryz.prog 82 #[.agg #[.int .u32 cC,.int .u8 cE,.int .u16 cB,.int .u16 cT,.int .u16 cP,.int .u16 cY,.int .u32 cR,.bool true],.agg #[.int .u32 bC,.int .u8 bE,.int .u16 bB,.int .u16 bT,.int .u16 bP,.int .u16 bY,.int .u32 bR,.bool bV]] w fun e w'=>e = .returned (.agg #[.int .u32 cC,.int .u8 cE,.int .u16 cB,.int .u16 cT,.int .u16 cP,.int .u16 cY,.int .u32 cR,.bool false])∧Below w.heap.size w w':=by
 have hov:=fun W=>ZgH bC bE bB bT bP bY bR bV 64 x y W bl (by omega) hx hy
 rw[ho] at hov
 have HO:=Qo hov
 clear hov ho hx hy
 have hq0:Blk (((w.alloc (.cells #[.int .u32 cC,.int .u8 cE,.int .u16 cB,.int .u16 cT,.int .u16 cP,.int .u16 cY,.int .u32 cR,.bool true] 30)).alloc (.cells #[.int .u32 bC,.int .u8 bE,.int .u16 bB,.int .u16 bT,.int .u16 bP,.int .u16 bY,.int .u32 bR,.bool bV] 30)).alloc (.cells #[.int .u32 0,.int .u8 0,.int .u16 0,.int .u16 0,.int .u16 0,.int .u16 0,.int .u32 0,.bool false] 30)) w.heap.size 30 #[.int .u32 cC,.int .u8 cE,.int .u16 cB,.int .u16 cT,.int .u16 cP,.int .u16 cY,.int .u32 cR,.bool true]:=by(repeat (first|(with_reducible exact Blk.new _ _ _)|(with_reducible refine Blk.drewN ?_ _)|(with_reducible refine Blk.drew ?_)|exact Blk.newAt (by simp) _ _|(with_reducible refine Blk.alloc ?_ _)))
 have hq1:Blk (((w.alloc (.cells #[.int .u32 cC,.int .u8 cE,.int .u16 cB,.int .u16 cT,.int .u16 cP,.int .u16 cY,.int .u32 cR,.bool true] 30)).alloc (.cells #[.int .u32 bC,.int .u8 bE,.int .u16 bB,.int .u16 bT,.int .u16 bP,.int .u16 bY,.int .u32 bR,.bool bV] 30)).alloc (.cells #[.int .u32 0,.int .u8 0,.int .u16 0,.int .u16 0,.int .u16 0,.int .u16 0,.int .u32 0,.bool false] 30)) (w.heap.size+1) 30 #[.int .u32 bC,.int .u8 bE,.int .u16 bB,.int .u16 bT,.int .u16 bP,.int .u16 bY,.int .u32 bR,.bool bV]:=by(repeat (first|(with_reducible exact Blk.new _ _ _)|(with_reducible refine Blk.drewN ?_ _)|(with_reducible refine Blk.drew ?_)|exact Blk.newAt (by simp) _ _|(with_reducible refine Blk.alloc ?_ _)))
 have hq2:Blk (((w.alloc (.cells #[.int .u32 cC,.int .u8 cE,.int .u16 cB,.int .u16 cT,.int .u16 cP,.int .u16 cY,.int .u32 cR,.bool true] 30)).alloc (.cells #[.int .u32 bC,.int .u8 bE,.int .u16 bB,.int .u16 bT,.int .u16 bP,.int .u16 bY,.int .u32 bR,.bool bV] 30)).alloc (.cells #[.int .u32 0,.int .u8 0,.int .u16 0,.int .u16 0,.int .u16 0,.int .u16 0,.int .u32 0,.bool false] 30)) (w.heap.size+1+1) 30 #[.int .u32 0,.int .u8 0,.int .u16 0,.int .u16 0,.int .u16 0,.int .u16 0,.int .u32 0,.bool false]:=by(repeat (first|(with_reducible exact Blk.new _ _ _)|(with_reducible refine Blk.drewN ?_ _)|(with_reducible refine Blk.drew ?_)|exact Blk.newAt (by simp) _ _|(with_reducible refine Blk.alloc ?_ _)))
 have kb:Below w.heap.size w (((w.alloc (.cells #[.int .u32 cC,.int .u8 cE,.int .u16 cB,.int .u16 cT,.int .u16 cP,.int .u16 cY,.int .u32 cR,.bool true] 30)).alloc (.cells #[.int .u32 bC,.int .u8 bE,.int .u16 bB,.int .u16 bT,.int .u16 bP,.int .u16 bY,.int .u32 bR,.bool bV] 30)).alloc (.cells #[.int .u32 0,.int .u8 0,.int .u16 0,.int .u16 0,.int .u16 0,.int .u16 0,.int .u32 0,.bool false] 30)):=by(repeat (first|(with_reducible exact Below.refl _ _)|(with_reducible refine Below.drew ?_)|(with_reducible refine ZJ ?_ _)|(with_reducible refine Below.alloc ?_ (by simp<;>omega) _)|(with_reducible refine Below.setCell ?_ (by simp<;>omega) _)))
 have hsz:(((w.alloc (.cells #[.int .u32 cC,.int .u8 cE,.int .u16 cB,.int .u16 cT,.int .u16 cP,.int .u16 cY,.int .u32 cR,.bool true] 30)).alloc (.cells #[.int .u32 bC,.int .u8 bE,.int .u16 bB,.int .u16 bT,.int .u16 bP,.int .u16 bY,.int .u32 bR,.bool bV] 30)).alloc (.cells #[.int .u32 0,.int .u8 0,.int .u16 0,.int .u16 0,.int .u16 0,.int .u16 0,.int .u32 0,.bool false] 30)).heap.size=w.heap.size+1+1+1:=by simp
 go_enter Tryz.func82,Tryz.ntmps82
 go_wp2_with fail
 refine(HO.out _).mono ?_
 rintro e w1 ⟨rfl,hb1⟩
 have hq0:=(hq0).below hb1 (by first|omega|(simp; omega))
 have hq1:=(hq1).below hb1 (by first|omega|(simp; omega))
 have hq2:=(hq2).below hb1 (by first|omega|(simp; omega))
 have kb:=(kb).trans (hb1.mono kb.size)
 have hsz1:w.heap.size+1+1+1≤w1.heap.size:=by have:=hb1.size; omega
 clear hb1
 have p0:=hq0.cell 0
 have pz0:=hq0.frozen 0
 have p1:=hq0.cell 1
 have pz1:=hq0.frozen 1
 have p2:=hq0.cell 2
 have pz2:=hq0.frozen 2
 have p3:=hq0.cell 3
 have pz3:=hq0.frozen 3
 have p4:=hq0.cell 4
 have pz4:=hq0.frozen 4
 have p5:=hq0.cell 5
 have pz5:=hq0.frozen 5
 have p6:=hq0.cell 6
 have pz6:=hq0.frozen 6
 have p7:=hq0.cell 7
 have pz7:=hq0.frozen 7
 simp at p0 p1 p2 p3 p4 p5 p6 p7
 have s0:=hq1.cell 0
 have s1:=hq1.cell 1
 have s2:=hq1.cell 2
 have s3:=hq1.cell 3
 have s4:=hq1.cell 4
 have s5:=hq1.cell 5
 have s6:=hq1.cell 6
 have s7:=hq1.cell 7
 simp at s0 s1 s2 s3 s4 s5 s6 s7
 have r0:=hq2.cell 0
 have rz0:=hq2.frozen 0
 have r1:=hq2.cell 1
 have rz1:=hq2.frozen 1
 have r2:=hq2.cell 2
 have rz2:=hq2.frozen 2
 have r3:=hq2.cell 3
 have rz3:=hq2.frozen 3
 have r4:=hq2.cell 4
 have rz4:=hq2.frozen 4
 have r5:=hq2.cell 5
 have rz5:=hq2.frozen 5
 have r6:=hq2.cell 6
 have rz6:=hq2.frozen 6
 have r7:=hq2.cell 7
 have rz7:=hq2.frozen 7
 simp at r0 r1 r2 r3 r4 r5 r6 r7
 have HK:=Qo kb
 have H0:=Qo hq0
 have H1:=Qo hq1
 have H2:=Qo hq2
 clear kb hq0 hq1 hq2
 go_wp2_with fail
 have kb:=HK.out
 have hq0:=H0.out
 have hq1:=H1.out
 have hq2:=H2.out
 clear HK H0 H1 H2
 refine(Za3 cC cE cB cT cP cY cR true _ _ (Blk.new _ _ _)).mono ?_
 rintro e w2 ⟨rfl,hb2⟩
 have hq0:=(hq0.alloc _).below hb2 (by first|omega|(simp; omega))
 have hq1:=(hq1.alloc _).below hb2 (by first|omega|(simp; omega))
 have hq2:=(hq2.alloc _).below hb2 (by first|omega|(simp; omega))
 have kb:=(kb.alloc kb.size _).trans (hb2.mono (by simp; have:=kb.size; omega))
 have hsz2:w.heap.size+1+1+1≤w2.heap.size:=by have:=hb2.size; simp at this; omega
 clear hb2
 clear p0 p1 p2 p3 p4 p5 p6 p7 s0 s1 s2 s3 s4 s5 s6 s7 r0 r1 r2 r3 r4 r5 r6 r7 pz0 rz0 pz1 rz1 pz2 rz2 pz3 rz3 pz4 rz4 pz5 rz5 pz6 rz6 pz7 rz7
 have r0:=hq2.cell 0
 have rz0:=hq2.frozen 0
 have r1:=hq2.cell 1
 have rz1:=hq2.frozen 1
 have r2:=hq2.cell 2
 have rz2:=hq2.frozen 2
 have r3:=hq2.cell 3
 have rz3:=hq2.frozen 3
 have r4:=hq2.cell 4
 have rz4:=hq2.frozen 4
 have r5:=hq2.cell 5
 have rz5:=hq2.frozen 5
 have r6:=hq2.cell 6
 have rz6:=hq2.frozen 6
 have r7:=hq2.cell 7
 have rz7:=hq2.frozen 7
 simp at r0 r1 r2 r3 r4 r5 r6 r7
 have HK:=Qo kb
 clear kb hq0 hq1 hq2
 go_wp2
 refine bodyPost_ret (v:=.agg #[.int .u32 cC,.int .u8 cE,.int .u16 cB,.int .u16 cT,.int .u16 cP,.int .u16 cY,.int .u32 cR,.bool false]) (by simp[results,Tryz.results82,go_sem,r0,r1,r2,r3,r4,r5,r6,r7]) rfl ⟨rfl,?_⟩
 repeat (first|(with_reducible refine Below.setCell ?_ (by simp<;>omega) _))
 exact HK.out
theorem ZFQ (cC cE cB cT cP cY cR:Nat) (bC bE bB bT bP bY bR:Nat) (bV:Bool) (x y:Nat) (w:World) (bl:ZcJ bC bE bB bT bP bY bR) (hx:(Vg bE bB bT bC).1=x) (hy:(Vg bE bB bT bC).2=y) (hy0:((cY:Int)==0)=false) (ho:U0 bC bP bY bV 64 x y=true) (hn:((bC:Int) !=(cY:Int))=false) (_hn2:((bC:Int)==(cY:Int))=true) (_hyl:cY<65536) :
  Calls Tryz.prog 82 #[.agg #[.int .u32 cC,.int .u8 cE,.int .u16 cB,.int .u16 cT,.int .u16 cP,.int .u16 cY,.int .u32 cR,.bool true],.agg #[.int .u32 bC,.int .u8 bE,.int .u16 bB,.int .u16 bT,.int .u16 bP,.int .u16 bY,.int .u32 bR,.bool bV]] w fun e w'=>e = .returned (.agg #[.int .u32 cC,.int .u8 cE,.int .u16 cB,.int .u16 cT,.int .u16 cP,.int .u16 0,.int .u32 cR,.bool true])∧Below w.heap.size w w':=by
 have hov:=fun W=>ZgH bC bE bB bT bP bY bR bV 64 x y W bl (by omega) hx hy
 rw[ho] at hov
 have HO:=Qo hov
 clear hov ho hx hy
 have hq0:Blk (((w.alloc (.cells #[.int .u32 cC,.int .u8 cE,.int .u16 cB,.int .u16 cT,.int .u16 cP,.int .u16 cY,.int .u32 cR,.bool true] 30)).alloc (.cells #[.int .u32 bC,.int .u8 bE,.int .u16 bB,.int .u16 bT,.int .u16 bP,.int .u16 bY,.int .u32 bR,.bool bV] 30)).alloc (.cells #[.int .u32 0,.int .u8 0,.int .u16 0,.int .u16 0,.int .u16 0,.int .u16 0,.int .u32 0,.bool false] 30)) w.heap.size 30 #[.int .u32 cC,.int .u8 cE,.int .u16 cB,.int .u16 cT,.int .u16 cP,.int .u16 cY,.int .u32 cR,.bool true]:=by(repeat (first|(with_reducible exact Blk.new _ _ _)|(with_reducible refine Blk.drewN ?_ _)|(with_reducible refine Blk.drew ?_)|exact Blk.newAt (by simp) _ _|(with_reducible refine Blk.alloc ?_ _)))
 have hq1:Blk (((w.alloc (.cells #[.int .u32 cC,.int .u8 cE,.int .u16 cB,.int .u16 cT,.int .u16 cP,.int .u16 cY,.int .u32 cR,.bool true] 30)).alloc (.cells #[.int .u32 bC,.int .u8 bE,.int .u16 bB,.int .u16 bT,.int .u16 bP,.int .u16 bY,.int .u32 bR,.bool bV] 30)).alloc (.cells #[.int .u32 0,.int .u8 0,.int .u16 0,.int .u16 0,.int .u16 0,.int .u16 0,.int .u32 0,.bool false] 30)) (w.heap.size+1) 30 #[.int .u32 bC,.int .u8 bE,.int .u16 bB,.int .u16 bT,.int .u16 bP,.int .u16 bY,.int .u32 bR,.bool bV]:=by(repeat (first|(with_reducible exact Blk.new _ _ _)|(with_reducible refine Blk.drewN ?_ _)|(with_reducible refine Blk.drew ?_)|exact Blk.newAt (by simp) _ _|(with_reducible refine Blk.alloc ?_ _)))
 have hq2:Blk (((w.alloc (.cells #[.int .u32 cC,.int .u8 cE,.int .u16 cB,.int .u16 cT,.int .u16 cP,.int .u16 cY,.int .u32 cR,.bool true] 30)).alloc (.cells #[.int .u32 bC,.int .u8 bE,.int .u16 bB,.int .u16 bT,.int .u16 bP,.int .u16 bY,.int .u32 bR,.bool bV] 30)).alloc (.cells #[.int .u32 0,.int .u8 0,.int .u16 0,.int .u16 0,.int .u16 0,.int .u16 0,.int .u32 0,.bool false] 30)) (w.heap.size+1+1) 30 #[.int .u32 0,.int .u8 0,.int .u16 0,.int .u16 0,.int .u16 0,.int .u16 0,.int .u32 0,.bool false]:=by(repeat (first|(with_reducible exact Blk.new _ _ _)|(with_reducible refine Blk.drewN ?_ _)|(with_reducible refine Blk.drew ?_)|exact Blk.newAt (by simp) _ _|(with_reducible refine Blk.alloc ?_ _)))
 have kb:Below w.heap.size w (((w.alloc (.cells #[.int .u32 cC,.int .u8 cE,.int .u16 cB,.int .u16 cT,.int .u16 cP,.int .u16 cY,.int .u32 cR,.bool true] 30)).alloc (.cells #[.int .u32 bC,.int .u8 bE,.int .u16 bB,.int .u16 bT,.int .u16 bP,.int .u16 bY,.int .u32 bR,.bool bV] 30)).alloc (.cells #[.int .u32 0,.int .u8 0,.int .u16 0,.int .u16 0,.int .u16 0,.int .u16 0,.int .u32 0,.bool false] 30)):=by(repeat (first|(with_reducible exact Below.refl _ _)|(with_reducible refine Below.drew ?_)|(with_reducible refine ZJ ?_ _)|(with_reducible refine Below.alloc ?_ (by simp<;>omega) _)|(with_reducible refine Below.setCell ?_ (by simp<;>omega) _)))
 have hsz:(((w.alloc (.cells #[.int .u32 cC,.int .u8 cE,.int .u16 cB,.int .u16 cT,.int .u16 cP,.int .u16 cY,.int .u32 cR,.bool true] 30)).alloc (.cells #[.int .u32 bC,.int .u8 bE,.int .u16 bB,.int .u16 bT,.int .u16 bP,.int .u16 bY,.int .u32 bR,.bool bV] 30)).alloc (.cells #[.int .u32 0,.int .u8 0,.int .u16 0,.int .u16 0,.int .u16 0,.int .u16 0,.int .u32 0,.bool false] 30)).heap.size=w.heap.size+1+1+1:=by simp
 go_enter Tryz.func82,Tryz.ntmps82
 go_wp2_with fail
 refine(HO.out _).mono ?_
 rintro e w1 ⟨rfl,hb1⟩
 have hq0:=(hq0).below hb1 (by first|omega|(simp; omega))
 have hq1:=(hq1).below hb1 (by first|omega|(simp; omega))
 have hq2:=(hq2).below hb1 (by first|omega|(simp; omega))
 have kb:=(kb).trans (hb1.mono kb.size)
 have hsz1:w.heap.size+1+1+1≤w1.heap.size:=by have:=hb1.size; omega
 clear hb1
 have p0:=hq0.cell 0
 have pz0:=hq0.frozen 0
 have p1:=hq0.cell 1
 have pz1:=hq0.frozen 1
 have p2:=hq0.cell 2
 have pz2:=hq0.frozen 2
 have p3:=hq0.cell 3
 have pz3:=hq0.frozen 3
 have p4:=hq0.cell 4
 have pz4:=hq0.frozen 4
 have p5:=hq0.cell 5
 have pz5:=hq0.frozen 5
 have p6:=hq0.cell 6
 have pz6:=hq0.frozen 6
 have p7:=hq0.cell 7
 have pz7:=hq0.frozen 7
 simp at p0 p1 p2 p3 p4 p5 p6 p7
 have s0:=hq1.cell 0
 have s1:=hq1.cell 1
 have s2:=hq1.cell 2
 have s3:=hq1.cell 3
 have s4:=hq1.cell 4
 have s5:=hq1.cell 5
 have s6:=hq1.cell 6
 have s7:=hq1.cell 7
 simp at s0 s1 s2 s3 s4 s5 s6 s7
 have r0:=hq2.cell 0
 have rz0:=hq2.frozen 0
 have r1:=hq2.cell 1
 have rz1:=hq2.frozen 1
 have r2:=hq2.cell 2
 have rz2:=hq2.frozen 2
 have r3:=hq2.cell 3
 have rz3:=hq2.frozen 3
 have r4:=hq2.cell 4
 have rz4:=hq2.frozen 4
 have r5:=hq2.cell 5
 have rz5:=hq2.frozen 5
 have r6:=hq2.cell 6
 have rz6:=hq2.frozen 6
 have r7:=hq2.cell 7
 have rz7:=hq2.frozen 7
 simp at r0 r1 r2 r3 r4 r5 r6 r7
 have HK:=Qo kb
 have H0:=Qo hq0
 have H1:=Qo hq1
 have H2:=Qo hq2
 clear kb hq0 hq1 hq2
 go_wp2
 refine bodyPost_ret (v:=.agg #[.int .u32 cC,.int .u8 cE,.int .u16 cB,.int .u16 cT,.int .u16 cP,.int .u16 0,.int .u32 cR,.bool true]) (by simp[results,Tryz.results82,go_sem,r0,r1,r2,r3,r4,r5,r6,r7]) rfl ⟨rfl,?_⟩
 repeat (first|(with_reducible refine Below.setCell ?_ (by simp<;>omega) _))
 exact HK.out
def Zw5 (cE cB cT cP cY cR bP x y u v:Nat):Bool:=decide (cY=0)&&(WO cE cB cT cP cY cR&&ZdM cP bP x y u v)
theorem ZrN (cC cE cB cT cP cY cR:Nat) (cV:Bool) (bC bE bB bT bP bY bR:Nat) (bV:Bool) (gc gb x y u v:Nat) (w:World) (cl:ZcJ cC cE cB cT cP cY cR) (bl:ZcJ bC bE bB bT bP bY bR) (hx:(Vg cE cB cT cC).1=x) (hy:(Vg cE cB cT cC).2=y) (hu:(Vg bE bB bT bC).1=u) (hv:(Vg bE bB bT bC).2=v)
  (hc:Blk w gc 30 #[.int .u32 cC,.int .u8 cE,.int .u16 cB,.int .u16 cT,.int .u16 cP,.int .u16 cY,.int .u32 cR,.bool cV]) (hb:Blk w gb 30 #[.int .u32 bC,.int .u8 bE,.int .u16 bB,.int .u16 bT,.int .u16 bP,.int .u16 bY,.int .u32 bR,.bool bV]) :
  Calls Tryz.prog 156 #[.pointer (some ⟨gc,0,none⟩),.pointer (some ⟨gb,0,none⟩)] w fun e w'=>e = .returned (.bool (Zw5 cE cB cT cP cY cR bP x y u v))∧Below w.heap.size w w':=by
 have hs:=fun W=>Zjr cC cE cB cT cP cY cR cV W cl
 have hw:=fun W=>ZkL cC cE cB cT cP cY cR cV bC bE bB bT bP bY bR bV x y u v W cl bl hx hy hu hv
 unfold Zw5
 obtain⟨k1,h1⟩:∃ k,WO cE cB cT cP cY cR=k:=⟨_,rfl⟩
 obtain⟨k2,h2⟩:∃ k,ZdM cP bP x y u v=k:=⟨_,rfl⟩
 rw[h1] at hs ⊢
 rw[h2] at hw ⊢
 have HS:=Qo hs
 have HW:=Qo hw
 have lc:=hc.lt
 have lb:=hb.lt
 clear hs hw h1 h2 hx hy hu hv
 have p0:=hc.cell 0
 have p1:=hc.cell 1
 have p2:=hc.cell 2
 have p3:=hc.cell 3
 have p4:=hc.cell 4
 have p5:=hc.cell 5
 have p6:=hc.cell 6
 have p7:=hc.cell 7
 simp at p0 p1 p2 p3 p4 p5 p6 p7
 have HC:=Qo hc
 have HB:=Qo hb
 clear hc hb
 by_cases hy0:cY=0
 ·rw[lR hy0,Bool.true_and]
  have d0:((cY:Int)==0)=true:=by rw[hy0]; rfl
  clear hy0
  go_enter Tryz.func156,Tryz.ntmps156
  go_wp2_with fail
  refine(HS.out _).mono ?_
  rintro e w1 ⟨rfl,hb1⟩
  have hc1:=HC.out.below hb1 lc
  have hd1:=HB.out.below hb1 lb
  have q0:=hc1.cell 0
  have q1:=hc1.cell 1
  have q2:=hc1.cell 2
  have q3:=hc1.cell 3
  have q4:=hc1.cell 4
  have q5:=hc1.cell 5
  have q6:=hc1.cell 6
  have q7:=hc1.cell 7
  simp at q0 q1 q2 q3 q4 q5 q6 q7
  have s0:=hd1.cell 0
  have s1:=hd1.cell 1
  have s2:=hd1.cell 2
  have s3:=hd1.cell 3
  have s4:=hd1.cell 4
  have s5:=hd1.cell 5
  have s6:=hd1.cell 6
  have s7:=hd1.cell 7
  simp at s0 s1 s2 s3 s4 s5 s6 s7
  have HB1:=Qo hb1
  clear hb1 hc1 hd1
  cases k1 with
  | false =>
   go_wp2
   go_ret
   exact⟨rfl,HB1.out⟩
  | true =>
   go_wp2_with fail
   refine(HW.out _).mono ?_
   rintro e w2 ⟨rfl,hb2⟩
   have HB2:=Qo hb2; clear hb2
   go_wp2
   go_ret
   exact⟨Wl (by simp),HB1.out.trans (HB2.out.mono HB1.out.size)⟩
 ·rw[dF hy0,Bool.false_and]
  have d0:((cY:Int)==0)=false:=by simp; omega
  clear hy0
  go_enter Tryz.func156,Tryz.ntmps156
  go_wp2
  go_ret
  exact⟨rfl,Below.refl _ _⟩
theorem Zuc (cC cE cB cT cP cY cR:Nat) (cV:Bool) (bC bE bB bT bP bY bR:Nat) (bV:Bool) (x y u v:Nat) (w:World) (cl:ZcJ cC cE cB cT cP cY cR) (bl:ZcJ bC bE bB bT bP bY bR) (hx:(Vg cE cB cT cC).1=x) (hy:(Vg cE cB cT cC).2=y) (hu:(Vg bE bB bT bC).1=u) (hv:(Vg bE bB bT bC).2=v) :
  Calls Tryz.prog 83 #[.agg #[.int .u32 cC,.int .u8 cE,.int .u16 cB,.int .u16 cT,.int .u16 cP,.int .u16 cY,.int .u32 cR,.bool cV],.agg #[.int .u32 bC,.int .u8 bE,.int .u16 bB,.int .u16 bT,.int .u16 bP,.int .u16 bY,.int .u32 bR,.bool bV]] w fun e w'=>e = .returned (.agg #[.int .u32 cC,.int .u8 cE,.int .u16 cB,.int .u16 cT,.int .u16 cP,.int .u16 cY,.int .u32 cR,.bool (XE bY bV&&Zw5 cE cB cT cP cY cR bP x y u v)])∧Below w.heap.size w w':=by
 obtain⟨k,hkb⟩:∃ k,(XE bY bV&&Zw5 cE cB cT cP cY cR bP x y u v)=k:=⟨_,rfl⟩
 rw[hkb]
 have HKB:=Qo hkb
 clear hkb
 have hq0:Blk (((w.alloc (.cells #[.int .u32 cC,.int .u8 cE,.int .u16 cB,.int .u16 cT,.int .u16 cP,.int .u16 cY,.int .u32 cR,.bool cV] 30)).alloc (.cells #[.int .u32 bC,.int .u8 bE,.int .u16 bB,.int .u16 bT,.int .u16 bP,.int .u16 bY,.int .u32 bR,.bool bV] 30)).alloc (.cells #[.int .u32 0,.int .u8 0,.int .u16 0,.int .u16 0,.int .u16 0,.int .u16 0,.int .u32 0,.bool false] 30)) w.heap.size 30 #[.int .u32 cC,.int .u8 cE,.int .u16 cB,.int .u16 cT,.int .u16 cP,.int .u16 cY,.int .u32 cR,.bool cV]:=by(repeat (first|(with_reducible exact Blk.new _ _ _)|(with_reducible refine Blk.drewN ?_ _)|(with_reducible refine Blk.drew ?_)|exact Blk.newAt (by simp) _ _|(with_reducible refine Blk.alloc ?_ _)))
 have hq1:Blk (((w.alloc (.cells #[.int .u32 cC,.int .u8 cE,.int .u16 cB,.int .u16 cT,.int .u16 cP,.int .u16 cY,.int .u32 cR,.bool cV] 30)).alloc (.cells #[.int .u32 bC,.int .u8 bE,.int .u16 bB,.int .u16 bT,.int .u16 bP,.int .u16 bY,.int .u32 bR,.bool bV] 30)).alloc (.cells #[.int .u32 0,.int .u8 0,.int .u16 0,.int .u16 0,.int .u16 0,.int .u16 0,.int .u32 0,.bool false] 30)) (w.heap.size+1) 30 #[.int .u32 bC,.int .u8 bE,.int .u16 bB,.int .u16 bT,.int .u16 bP,.int .u16 bY,.int .u32 bR,.bool bV]:=by(repeat (first|(with_reducible exact Blk.new _ _ _)|(with_reducible refine Blk.drewN ?_ _)|(with_reducible refine Blk.drew ?_)|exact Blk.newAt (by simp) _ _|(with_reducible refine Blk.alloc ?_ _)))
 have hq2:Blk (((w.alloc (.cells #[.int .u32 cC,.int .u8 cE,.int .u16 cB,.int .u16 cT,.int .u16 cP,.int .u16 cY,.int .u32 cR,.bool cV] 30)).alloc (.cells #[.int .u32 bC,.int .u8 bE,.int .u16 bB,.int .u16 bT,.int .u16 bP,.int .u16 bY,.int .u32 bR,.bool bV] 30)).alloc (.cells #[.int .u32 0,.int .u8 0,.int .u16 0,.int .u16 0,.int .u16 0,.int .u16 0,.int .u32 0,.bool false] 30)) (w.heap.size+1+1) 30 #[.int .u32 0,.int .u8 0,.int .u16 0,.int .u16 0,.int .u16 0,.int .u16 0,.int .u32 0,.bool false]:=by(repeat (first|(with_reducible exact Blk.new _ _ _)|(with_reducible refine Blk.drewN ?_ _)|(with_reducible refine Blk.drew ?_)|exact Blk.newAt (by simp) _ _|(with_reducible refine Blk.alloc ?_ _)))
 have kb:Below w.heap.size w (((w.alloc (.cells #[.int .u32 cC,.int .u8 cE,.int .u16 cB,.int .u16 cT,.int .u16 cP,.int .u16 cY,.int .u32 cR,.bool cV] 30)).alloc (.cells #[.int .u32 bC,.int .u8 bE,.int .u16 bB,.int .u16 bT,.int .u16 bP,.int .u16 bY,.int .u32 bR,.bool bV] 30)).alloc (.cells #[.int .u32 0,.int .u8 0,.int .u16 0,.int .u16 0,.int .u16 0,.int .u16 0,.int .u32 0,.bool false] 30)):=by(repeat (first|(with_reducible exact Below.refl _ _)|(with_reducible refine Below.drew ?_)|(with_reducible refine ZJ ?_ _)|(with_reducible refine Below.alloc ?_ (by simp<;>omega) _)|(with_reducible refine Below.setCell ?_ (by simp<;>omega) _)))
 have hsz:(((w.alloc (.cells #[.int .u32 cC,.int .u8 cE,.int .u16 cB,.int .u16 cT,.int .u16 cP,.int .u16 cY,.int .u32 cR,.bool cV] 30)).alloc (.cells #[.int .u32 bC,.int .u8 bE,.int .u16 bB,.int .u16 bT,.int .u16 bP,.int .u16 bY,.int .u32 bR,.bool bV] 30)).alloc (.cells #[.int .u32 0,.int .u8 0,.int .u16 0,.int .u16 0,.int .u16 0,.int .u16 0,.int .u32 0,.bool false] 30)).heap.size=w.heap.size+1+1+1:=by simp
 go_enter Tryz.func83,Tryz.ntmps83
 go_wp2_with fail
 refine(ZFI cC cE cB cT cP cY cR cV _ _ 131 156 #[.agg #[.int .u32 bC,.int .u8 bE,.int .u16 bB,.int .u16 bT,.int .u16 bP,.int .u16 bY,.int .u32 bR,.bool bV]] #[] #[] #[.pointer (some ⟨w.heap.size,0,none⟩),.pointer (some ⟨w.heap.size+1,0,none⟩)] (XE bY bV) (Zw5 cE cB cT cP cY cR bP x y u v) (Blk.newAt (by simp) _ _) (fun W=>by kernel_rfl) (fun W=>by kernel_rfl)
  (fun W hW=>Za2 bC bE bB bT bP bY bR bV W)
  (fun W hW=>ZrN cC cE cB cT cP cY cR cV bC bE bB bT bP bY bR bV w.heap.size (w.heap.size+1) x y u v W cl bl hx hy hu hv (Blk.below (hq0.alloc _) hW (by first|(simp; done)|(simp; omega))) (Blk.below (hq1.alloc _) hW (by first|(simp; done)|(simp; omega))))).mono ?_
 rintro e w1 ⟨he,hb1⟩
 rw[HKB.out] at he
 subst he
 have hq2:=(hq2.alloc _).below hb1 (by first|(simp; done)|(simp; omega))
 have kb:=(kb.alloc kb.size _).trans (hb1.mono (by simp; have:=kb.size; omega))
 clear hb1 hq0 hq1
 have r0:=hq2.cell 0
 have rz0:=hq2.frozen 0
 have r1:=hq2.cell 1
 have rz1:=hq2.frozen 1
 have r2:=hq2.cell 2
 have rz2:=hq2.frozen 2
 have r3:=hq2.cell 3
 have rz3:=hq2.frozen 3
 have r4:=hq2.cell 4
 have rz4:=hq2.frozen 4
 have r5:=hq2.cell 5
 have rz5:=hq2.frozen 5
 have r6:=hq2.cell 6
 have rz6:=hq2.frozen 6
 have r7:=hq2.cell 7
 have rz7:=hq2.frozen 7
 simp at r0 r1 r2 r3 r4 r5 r6 r7
 have HK:=Qo kb
 clear kb hq2
 go_wp2
 refine bodyPost_ret (v:=.agg #[.int .u32 cC,.int .u8 cE,.int .u16 cB,.int .u16 cT,.int .u16 cP,.int .u16 cY,.int .u32 cR,.bool k]) (by simp[results,Tryz.results83,go_sem,r0,r1,r2,r3,r4,r5,r6,r7]) rfl ⟨rfl,?_⟩
 repeat (first|(with_reducible refine Below.setCell ?_ (by simp<;>omega) _))
 exact HK.out
attribute [local go_sem ↓] Go.wp_at_zero Go.wp_at_succ
def inR (lo hi x y:Nat):Bool:=decide (x≤lo)&&decide (hi≤y)
theorem Zw6 (X ex:Bool) (g h:Nat) (w:World) (hg:Blk w g 4 #[.bool X]) (hh:Blk w h 4 #[.bool ex]) :
  Calls Tryz.prog 174 #[.pointer (some ⟨g,0,none⟩),.pointer (some ⟨h,0,none⟩)] w fun e w'=>e = .returned (.bool (X || !ex))∧Below w.heap.size w w':=by
 have p0:=hg.cell 0
 have q0:=hh.cell 0
 simp at p0 q0
 clear hg hh
 cases X with
 | true =>
  go_enter Tryz.func174,Tryz.ntmps174
  go_wp2
  go_ret
  exact⟨rfl,Below.refl _ _⟩
 | false =>
  go_enter Tryz.func174,Tryz.ntmps174
  go_wp2
  go_ret
  exact⟨Wl (by simp),Below.refl _ _⟩
theorem Zw7 (cC cE cB cT cP cY cR:Nat) (cV:Bool) (z:Int) (lo hi x y g h:Nat) (w:World) (cl:ZcJ cC cE cB cT cP cY cR) (hx:(Vg cE cB cT cC).1=x) (hy:(Vg cE cB cT cC).2=y)
  (HR:Hid (∀ W,Calls Tryz.prog 176 #[.int .u32 cC,.int .u64 z] W fun e' w'=>e' = .returned (.tuple #[.int .u32 lo,.int .u64 hi,.bool true])∧W=w'))
  (hg:Blk w g 30 #[.int .u32 cC,.int .u8 cE,.int .u16 cB,.int .u16 cT,.int .u16 cP,.int .u16 cY,.int .u32 cR,.bool cV]) (hh:Blk w h 116 #[.int .u64 z]) :
  Calls Tryz.prog 175 #[.pointer (some ⟨g,0,none⟩),.pointer (some ⟨h,0,none⟩)] w fun e w'=>e = .returned (.bool (inR lo hi x y))∧Below w.heap.size w w':=by
 have hr:=fun W=>ZgE cC cE cB cT cP cY cR cV x y W cl hx hy
 have HG:=Qo hr
 have q0:=hh.cell 0
 simp at q0
 have p0:=hg.cell 0
 have p1:=hg.cell 1
 have p2:=hg.cell 2
 have p3:=hg.cell 3
 have p4:=hg.cell 4
 have p5:=hg.cell 5
 have p6:=hg.cell 6
 have p7:=hg.cell 7
 simp at p0 p1 p2 p3 p4 p5 p6 p7
 clear hg hh hr hx hy
 unfold inR
 by_cases c1:x≤lo
 ·rw[lR c1,Bool.true_and]
  go_enter Tryz.func175,Tryz.ntmps175
  go_wp2_with fail
  refine(HR.out _).mono ?_
  rintro e w1 ⟨rfl,rfl⟩
  go_wp2_with fail
  refine(HG.out _).mono ?_
  rintro e w2 ⟨rfl,hb2⟩
  have HB2:=Qo hb2; clear hb2
  go_wp2
  go_ret
  exact⟨rfl,HB2.out⟩
 ·have d1:decide (x≤lo)=false:=by simpa using c1
  rw[d1,Bool.false_and]
  go_enter Tryz.func175,Tryz.ntmps175
  go_wp2_with fail
  refine(HR.out _).mono ?_
  rintro e w1 ⟨rfl,rfl⟩
  go_wp2_with fail
  refine(HG.out _).mono ?_
  rintro e w2 ⟨rfl,hb2⟩
  have HB2:=Qo hb2; clear hb2
  go_wp2
  go_ret
  exact⟨rfl,HB2.out⟩
set_option maxHeartbeats 1000000 in
theorem ZBZ (cC cE cB cT cP cY cR:Nat) (cV:Bool) (s:Nat) (ex X:Bool) (e b t lo hi x y:Nat) (w:World) (cl:ZcJ cC cE cB cT cP cY cR) (hs:s<4294967296) (hx:(Vg cE cB cT cC).1=x) (hy:(Vg cE cB cT cC).2=y)
  (HR:Hid (∀ W,Calls Tryz.prog 176 #[.int .u32 cC,.int .u64 ((cC:Int)+s)] W fun e' w'=>e' = .returned (.tuple #[.int .u32 lo,.int .u64 hi,.bool true])∧W=w'))
  (HE:Hid (∀ W,Calls Tryz.prog 69 #[.int .u32 cC,.int .u64 ((cC:Int)+s)] W fun e' w'=>e' = .returned (.tuple #[.int .u8 e,.int .u16 b,.int .u16 t,.bool X,.bool true])∧∃ m,w'=W.drewN m)) :
  Calls Tryz.prog 154 #[.agg #[.int .u32 cC,.int .u8 cE,.int .u16 cB,.int .u16 cT,.int .u16 cP,.int .u16 cY,.int .u32 cR,.bool cV],.int .u32 s,.bool ex] w fun e' w'=>e' = .returned (.agg #[.int .u32 cC,.int .u8 e,.int .u16 b,.int .u16 t,.int .u16 cP,.int .u16 cY,.int .u32 cR,.bool (XE cY cV&&(X || !ex)&&inR lo hi x y)])∧Below w.heap.size w w':=by
 have hcl:cC<4294967296:=cl.1
 obtain⟨k,hkb⟩:∃ k,(XE cY cV&&(X || !ex)&&inR lo hi x y)=k:=⟨_,rfl⟩
 rw[hkb]
 have HKB:=Qo hkb
 clear hkb
 go_enter Tryz.func154,Tryz.ntmps154
 go_wp2_with fail
 refine(HE.out _).mono ?_
 rintro e' w1 ⟨rfl,m,rfl⟩
 go_wp2_with fail
 refine(ZL6 cC e b t cP cY cR cV _ _ 131 174 175 #[.agg #[.int .u32 cC,.int .u8 cE,.int .u16 cB,.int .u16 cT,.int .u16 cP,.int .u16 cY,.int .u32 cR,.bool cV]] #[] #[] #[.pointer (some ⟨w.heap.size+1+1+1+1+1,0,none⟩),.pointer (some ⟨w.heap.size+1,0,none⟩)] #[] #[.pointer (some ⟨w.heap.size,0,none⟩),.pointer (some ⟨w.heap.size+1+1+1,0,none⟩)] (XE cY cV) (X || !ex) (inR lo hi x y) (Blk.newAt (by simp) _ _) (fun W=>by kernel_rfl) (fun W=>by kernel_rfl) (fun W=>by kernel_rfl)
  (fun W hW=>Za2 cC cE cB cT cP cY cR cV W)
  (fun W hW=>Zw6 X ex (w.heap.size+1+1+1+1+1) (w.heap.size+1) W (Blk.below (by(repeat (first|(with_reducible exact Blk.new _ _ _)|(with_reducible refine Blk.drewN ?_ _)|(with_reducible refine Blk.drew ?_)|((with_reducible refine Blk.newAt ?_ _ _); (simp; done))|(with_reducible refine Blk.far ?_ (by first|(simp; done)|(simp; omega)) _)|(with_reducible refine Blk.alloc ?_ _)))) hW (by first|(simp; done)|(simp; omega))) (Blk.below (by(repeat (first|(with_reducible exact Blk.new _ _ _)|(with_reducible refine Blk.drewN ?_ _)|(with_reducible refine Blk.drew ?_)|((with_reducible refine Blk.newAt ?_ _ _); (simp; done))|(with_reducible refine Blk.far ?_ (by first|(simp; done)|(simp; omega)) _)|(with_reducible refine Blk.alloc ?_ _)))) hW (by first|(simp; done)|(simp; omega))))
  (fun W hW=>Zw7 cC cE cB cT cP cY cR cV ((cC:Int)+s) lo hi x y w.heap.size (w.heap.size+1+1+1) W cl hx hy HR (Blk.below (by(repeat (first|(with_reducible exact Blk.new _ _ _)|(with_reducible refine Blk.drewN ?_ _)|(with_reducible refine Blk.drew ?_)|((with_reducible refine Blk.newAt ?_ _ _); (simp; done))|(with_reducible refine Blk.far ?_ (by first|(simp; done)|(simp; omega)) _)|(with_reducible refine Blk.alloc ?_ _)))) hW (by first|(simp; done)|(simp; omega))) (Blk.below (by(repeat (first|(with_reducible exact Blk.new _ _ _)|(with_reducible refine Blk.drewN ?_ _)|(with_reducible refine Blk.drew ?_)|((with_reducible refine Blk.newAt ?_ _ _); (simp; done))|(with_reducible refine Blk.far ?_ (by first|(simp; done)|(simp; omega)) _)|(with_reducible refine Blk.alloc ?_ _)))) hW (by first|(simp; done)|(simp; omega))))).mono ?_
 rintro e' w2 ⟨he,hb2⟩
 rw[HKB.out] at he
 subst he
 have hq2:Blk w2 (w.heap.size+1+1) 30 #[.int .u32 0,.int .u8 0,.int .u16 0,.int .u16 0,.int .u16 0,.int .u16 0,.int .u32 0,.bool false]:=Blk.below (by(repeat (first|(with_reducible exact Blk.new _ _ _)|(with_reducible refine Blk.drewN ?_ _)|(with_reducible refine Blk.drew ?_)|((with_reducible refine Blk.newAt ?_ _ _); (simp; done))|(with_reducible refine Blk.far ?_ (by first|(simp; done)|(simp; omega)) _)|(with_reducible refine Blk.alloc ?_ _)))) hb2 (by first|(simp; done)|(simp; omega))
 have kb:Below w.heap.size w w2:=Below.trans (by(repeat (first|(with_reducible exact Below.refl _ _)|(with_reducible refine Below.drew ?_)|(with_reducible refine ZJ ?_ _)|(with_reducible refine Below.alloc ?_ (by simp<;>omega) _)|(with_reducible refine Below.setCell ?_ (by simp<;>omega) _)))) (hb2.mono (by first|(simp; done)|(simp; omega)))
 clear hb2
 have r0:=hq2.cell 0
 have rz0:=hq2.frozen 0
 have r1:=hq2.cell 1
 have rz1:=hq2.frozen 1
 have r2:=hq2.cell 2
 have rz2:=hq2.frozen 2
 have r3:=hq2.cell 3
 have rz3:=hq2.frozen 3
 have r4:=hq2.cell 4
 have rz4:=hq2.frozen 4
 have r5:=hq2.cell 5
 have rz5:=hq2.frozen 5
 have r6:=hq2.cell 6
 have rz6:=hq2.frozen 6
 have r7:=hq2.cell 7
 have rz7:=hq2.frozen 7
 simp at r0 r1 r2 r3 r4 r5 r6 r7
 have HK:=Qo kb
 clear kb hq2
 go_wp2
 refine bodyPost_ret (v:=.agg #[.int .u32 cC,.int .u8 e,.int .u16 b,.int .u16 t,.int .u16 cP,.int .u16 cY,.int .u32 cR,.bool k]) (by simp[results,Tryz.results154,go_sem,r0,r1,r2,r3,r4,r5,r6,r7]) rfl ⟨rfl,?_⟩
 repeat (first|(with_reducible refine Below.setCell ?_ (by simp<;>omega) _))
 exact HK.out
theorem ZB0 (cC cE cB cT cP cY cR:Nat) (cV:Bool) (s:Nat) (ex:Bool) (e b t:Nat) (X:Bool) (w:World) (cl:ZcJ cC cE cB cT cP cY cR) (hs:s<4294967296)
  (HE:Hid (∀ W,Calls Tryz.prog 69 #[.int .u32 cC,.int .u64 ((cC:Int)+s)] W fun e' w'=>e' = .returned (.tuple #[.int .u8 e,.int .u16 b,.int .u16 t,.bool X,.bool false])∧∃ m,w'=W.drewN m)) :
  Calls Tryz.prog 154 #[.agg #[.int .u32 cC,.int .u8 cE,.int .u16 cB,.int .u16 cT,.int .u16 cP,.int .u16 cY,.int .u32 cR,.bool cV],.int .u32 s,.bool ex] w fun e' w'=>e' = .returned (.agg #[.int .u32 cC,.int .u8 cE,.int .u16 cB,.int .u16 cT,.int .u16 cP,.int .u16 cY,.int .u32 cR,.bool false])∧Below w.heap.size w w':=by
 have hcl:cC<4294967296:=cl.1
 go_enter Tryz.func154,Tryz.ntmps154
 go_wp2_with fail
 refine(HE.out _).mono ?_
 rintro e' w1 ⟨rfl,m,rfl⟩
 go_wp2_with fail
 refine(Za3 cC cE cB cT cP cY cR cV _ _ (Blk.newAt (by simp) _ _)).mono ?_
 rintro e' w2 ⟨rfl,hb2⟩
 have hq2:Blk w2 (w.heap.size+1+1) 30 #[.int .u32 0,.int .u8 0,.int .u16 0,.int .u16 0,.int .u16 0,.int .u16 0,.int .u32 0,.bool false]:=Blk.below (by(repeat (first|(with_reducible exact Blk.new _ _ _)|(with_reducible refine Blk.drewN ?_ _)|(with_reducible refine Blk.drew ?_)|((with_reducible refine Blk.newAt ?_ _ _); (simp; done))|(with_reducible refine Blk.far ?_ (by first|(simp; done)|(simp; omega)) _)|(with_reducible refine Blk.alloc ?_ _)))) hb2 (by first|(simp; done)|(simp; omega))
 have kb:Below w.heap.size w w2:=Below.trans (by(repeat (first|(with_reducible exact Below.refl _ _)|(with_reducible refine Below.drew ?_)|(with_reducible refine ZJ ?_ _)|(with_reducible refine Below.alloc ?_ (by simp<;>omega) _)|(with_reducible refine Below.setCell ?_ (by simp<;>omega) _)))) (hb2.mono (by first|(simp; done)|(simp; omega)))
 clear hb2
 have r0:=hq2.cell 0
 have rz0:=hq2.frozen 0
 have r1:=hq2.cell 1
 have rz1:=hq2.frozen 1
 have r2:=hq2.cell 2
 have rz2:=hq2.frozen 2
 have r3:=hq2.cell 3
 have rz3:=hq2.frozen 3
 have r4:=hq2.cell 4
 have rz4:=hq2.frozen 4
 have r5:=hq2.cell 5
 have rz5:=hq2.frozen 5
 have r6:=hq2.cell 6
 have rz6:=hq2.frozen 6
 have r7:=hq2.cell 7
 have rz7:=hq2.frozen 7
 simp at r0 r1 r2 r3 r4 r5 r6 r7
 have HK:=Qo kb
 clear kb hq2
 go_wp2
 refine bodyPost_ret (v:=.agg #[.int .u32 cC,.int .u8 cE,.int .u16 cB,.int .u16 cT,.int .u16 cP,.int .u16 cY,.int .u32 cR,.bool false]) (by simp[results,Tryz.results154,go_sem,r0,r1,r2,r3,r4,r5,r6,r7]) rfl ⟨rfl,?_⟩
 repeat (first|(with_reducible refine Below.setCell ?_ (by simp<;>omega) _))
 exact HK.out
def Zwl (cC cY:Nat) (cV:Bool) (s:Nat) (ex:Bool) (x y:Nat):Bool:=XE cY cV&&(ZhM cC (cC+s) || !ex)&&inR (dnN cC (Qh cC (cC+s))) (upN (cC+s) (Qh cC (cC+s))) x y
theorem Zud (cC cE cB cT cP cY cR:Nat) (cV:Bool) (s:Nat) (ex:Bool) (x y:Nat) (w:World) (cl:ZcJ cC cE cB cT cP cY cR) (hs:s<4294967296) (hx:(Vg cE cB cT cC).1=x) (hy:(Vg cE cB cT cC).2=y) (hr:QI cC (cC+s)=true) :
  Calls Tryz.prog 154 #[.agg #[.int .u32 cC,.int .u8 cE,.int .u16 cB,.int .u16 cT,.int .u16 cP,.int .u16 cY,.int .u32 cR,.bool cV],.int .u32 s,.bool ex] w fun e' w'=>e' = .returned (.agg #[.int .u32 cC,.int .u8 (ZdL cC (cC+s)),.int .u16 (ZeL cC (cC+s)),.int .u16 (ZeM cC (cC+s)),.int .u16 cP,.int .u16 cY,.int .u32 cR,.bool (Zwl cC cY cV s ex x y)])∧Below w.heap.size w w':=by
 have hr2:=(Zap hr).2
 refine ZBZ cC cE cB cT cP cY cR cV s ex (ZhM cC (cC+s)) _ _ _ _ _ x y w cl hs hx hy (fun W => ?_) (fun W => ?_)
 ·have:=ZtX cC (cC+s) W cl.1 (by omega)
  rw[hr,if_pos rfl,if_pos rfl,show((cC+s:Nat):Int)=(cC:Int)+s by omega] at this
  exact this
 ·have:=Zhl cC (cC+s) W cl.1 (by omega)
  rw[hr,show((cC+s:Nat):Int)=(cC:Int)+s by omega] at this
  exact this
theorem Zue (cC cE cB cT cP cY cR:Nat) (cV:Bool) (s:Nat) (ex:Bool) (w:World) (cl:ZcJ cC cE cB cT cP cY cR) (hs:s<4294967296) (hr:QI cC (cC+s)=false) :
  Calls Tryz.prog 154 #[.agg #[.int .u32 cC,.int .u8 cE,.int .u16 cB,.int .u16 cT,.int .u16 cP,.int .u16 cY,.int .u32 cR,.bool cV],.int .u32 s,.bool ex] w fun e' w'=>e' = .returned (.agg #[.int .u32 cC,.int .u8 cE,.int .u16 cB,.int .u16 cT,.int .u16 cP,.int .u16 cY,.int .u32 cR,.bool false])∧Below w.heap.size w w':=by
 refine ZB0 cC cE cB cT cP cY cR cV s ex (ZdL cC (cC+s)) (ZeL cC (cC+s)) (ZeM cC (cC+s)) (ZhM cC (cC+s)) w cl hs (fun W => ?_)
 have:=Zhl cC (cC+s) W cl.1 (by have:=cl.1; omega)
 rw[hr,show((cC+s:Nat):Int)=(cC:Int)+s by omega] at this
 exact this
theorem ZFR (cC cE cB cT cP cY cR:Nat) (cV:Bool) (s:Nat) (e b t cP' cY' cR' z:Nat) (k:Bool) (w:World)
  (HS:Hid (∀ W,Calls Tryz.prog 154 #[.agg #[.int .u32 cC,.int .u8 cE,.int .u16 cB,.int .u16 cT,.int .u16 cP,.int .u16 cY,.int .u32 cR,.bool cV],.int .u32 s,.bool false] W fun e' w'=>e' = .returned (.agg #[.int .u32 z,.int .u8 e,.int .u16 b,.int .u16 t,.int .u16 cP',.int .u16 cY',.int .u32 cR',.bool k])∧Below W.heap.size W w')) :
  Calls Tryz.prog 78 #[.agg #[.int .u32 cC,.int .u8 cE,.int .u16 cB,.int .u16 cT,.int .u16 cP,.int .u16 cY,.int .u32 cR,.bool cV],.int .u32 s] w fun e' w'=>e' = .returned (.agg #[.int .u32 z,.int .u8 e,.int .u16 b,.int .u16 t,.int .u16 cP',.int .u16 cY',.int .u32 cR',.bool k])∧Below w.heap.size w w':=by
 go_enter Tryz.func78,Tryz.ntmps78
 go_wp2_with fail
 refine(HS.out _).mono ?_
 rintro e' w2 ⟨rfl,hb2⟩
 have hq2:Blk w2 (w.heap.size+1) 30 #[.int .u32 0,.int .u8 0,.int .u16 0,.int .u16 0,.int .u16 0,.int .u16 0,.int .u32 0,.bool false]:=Blk.below (by(repeat (first|(with_reducible exact Blk.new _ _ _)|(with_reducible refine Blk.drewN ?_ _)|(with_reducible refine Blk.drew ?_)|((with_reducible refine Blk.newAt ?_ _ _); (simp; done))|(with_reducible refine Blk.far ?_ (by first|(simp; done)|(simp; omega)) _)|(with_reducible refine Blk.alloc ?_ _)))) hb2 (by first|(simp; done)|(simp; omega))
 have kb:Below w.heap.size w w2:=Below.trans (by(repeat (first|(with_reducible exact Below.refl _ _)|(with_reducible refine Below.drew ?_)|(with_reducible refine ZJ ?_ _)|(with_reducible refine Below.alloc ?_ (by simp<;>omega) _)|(with_reducible refine Below.setCell ?_ (by simp<;>omega) _)))) (hb2.mono (by first|(simp; done)|(simp; omega)))
 clear hb2
 have r0:=hq2.cell 0
 have rz0:=hq2.frozen 0
 have r1:=hq2.cell 1
 have rz1:=hq2.frozen 1
 have r2:=hq2.cell 2
 have rz2:=hq2.frozen 2
 have r3:=hq2.cell 3
 have rz3:=hq2.frozen 3
 have r4:=hq2.cell 4
 have rz4:=hq2.frozen 4
 have r5:=hq2.cell 5
 have rz5:=hq2.frozen 5
 have r6:=hq2.cell 6
 have rz6:=hq2.frozen 6
 have r7:=hq2.cell 7
 have rz7:=hq2.frozen 7
 simp at r0 r1 r2 r3 r4 r5 r6 r7
 have HK:=Qo kb
 clear kb hq2
 go_wp2
 refine bodyPost_ret (v:=.agg #[.int .u32 z,.int .u8 e,.int .u16 b,.int .u16 t,.int .u16 cP',.int .u16 cY',.int .u32 cR',.bool k]) (by simp[results,Tryz.results78,go_sem,r0,r1,r2,r3,r4,r5,r6,r7]) rfl ⟨rfl,?_⟩
 repeat (first|(with_reducible refine Below.setCell ?_ (by simp<;>omega) _))
 exact HK.out
theorem ZL8 (cC cE cB cT cP cY cR:Nat) (cV:Bool) (s x y:Nat) (w:World) (cl:ZcJ cC cE cB cT cP cY cR) (hs:s<4294967296) (hx:(Vg cE cB cT cC).1=x) (hy:(Vg cE cB cT cC).2=y) (hr:QI cC (cC+s)=true) :
  Calls Tryz.prog 78 #[.agg #[.int .u32 cC,.int .u8 cE,.int .u16 cB,.int .u16 cT,.int .u16 cP,.int .u16 cY,.int .u32 cR,.bool cV],.int .u32 s] w fun e' w'=>e' = .returned (.agg #[.int .u32 cC,.int .u8 (ZdL cC (cC+s)),.int .u16 (ZeL cC (cC+s)),.int .u16 (ZeM cC (cC+s)),.int .u16 cP,.int .u16 cY,.int .u32 cR,.bool (Zwl cC cY cV s false x y)])∧Below w.heap.size w w' :=
 ZFR cC cE cB cT cP cY cR cV s _ _ _ _ _ _ _ _ w (fun W=>Zud cC cE cB cT cP cY cR cV s false x y W cl hs hx hy hr)
theorem ZL9 (cC cE cB cT cP cY cR:Nat) (cV:Bool) (s:Nat) (w:World) (cl:ZcJ cC cE cB cT cP cY cR) (hs:s<4294967296) (hr:QI cC (cC+s)=false) :
  Calls Tryz.prog 78 #[.agg #[.int .u32 cC,.int .u8 cE,.int .u16 cB,.int .u16 cT,.int .u16 cP,.int .u16 cY,.int .u32 cR,.bool cV],.int .u32 s] w fun e' w'=>e' = .returned (.agg #[.int .u32 cC,.int .u8 cE,.int .u16 cB,.int .u16 cT,.int .u16 cP,.int .u16 cY,.int .u32 cR,.bool false])∧Below w.heap.size w w' :=
 ZFR cC cE cB cT cP cY cR cV s _ _ _ _ _ _ _ _ w (fun W=>Zue cC cE cB cT cP cY cR cV s false W cl hs hr)
theorem Zuf (cC cE cB cT cP cY cR:Nat) (cV:Bool) (s:Nat) (e b t cP' cY' cR' z:Nat) (k:Bool) (w:World)
  (HS:Hid (∀ W,Calls Tryz.prog 154 #[.agg #[.int .u32 cC,.int .u8 cE,.int .u16 cB,.int .u16 cT,.int .u16 cP,.int .u16 cY,.int .u32 cR,.bool cV],.int .u32 s,.bool true] W fun e' w'=>e' = .returned (.agg #[.int .u32 z,.int .u8 e,.int .u16 b,.int .u16 t,.int .u16 cP',.int .u16 cY',.int .u32 cR',.bool k])∧Below W.heap.size W w')) :
  Calls Tryz.prog 79 #[.agg #[.int .u32 cC,.int .u8 cE,.int .u16 cB,.int .u16 cT,.int .u16 cP,.int .u16 cY,.int .u32 cR,.bool cV],.int .u32 s] w fun e' w'=>e' = .returned (.agg #[.int .u32 z,.int .u8 e,.int .u16 b,.int .u16 t,.int .u16 cP',.int .u16 cY',.int .u32 cR',.bool k])∧Below w.heap.size w w':=by
 go_enter Tryz.func79,Tryz.ntmps79
 go_wp2_with fail
 refine(HS.out _).mono ?_
 rintro e' w2 ⟨rfl,hb2⟩
 have hq2:Blk w2 (w.heap.size+1) 30 #[.int .u32 0,.int .u8 0,.int .u16 0,.int .u16 0,.int .u16 0,.int .u16 0,.int .u32 0,.bool false]:=Blk.below (by(repeat (first|(with_reducible exact Blk.new _ _ _)|(with_reducible refine Blk.drewN ?_ _)|(with_reducible refine Blk.drew ?_)|((with_reducible refine Blk.newAt ?_ _ _); (simp; done))|(with_reducible refine Blk.far ?_ (by first|(simp; done)|(simp; omega)) _)|(with_reducible refine Blk.alloc ?_ _)))) hb2 (by first|(simp; done)|(simp; omega))
 have kb:Below w.heap.size w w2:=Below.trans (by(repeat (first|(with_reducible exact Below.refl _ _)|(with_reducible refine Below.drew ?_)|(with_reducible refine ZJ ?_ _)|(with_reducible refine Below.alloc ?_ (by simp<;>omega) _)|(with_reducible refine Below.setCell ?_ (by simp<;>omega) _)))) (hb2.mono (by first|(simp; done)|(simp; omega)))
 clear hb2
 have r0:=hq2.cell 0
 have rz0:=hq2.frozen 0
 have r1:=hq2.cell 1
 have rz1:=hq2.frozen 1
 have r2:=hq2.cell 2
 have rz2:=hq2.frozen 2
 have r3:=hq2.cell 3
 have rz3:=hq2.frozen 3
 have r4:=hq2.cell 4
 have rz4:=hq2.frozen 4
 have r5:=hq2.cell 5
 have rz5:=hq2.frozen 5
 have r6:=hq2.cell 6
 have rz6:=hq2.frozen 6
 have r7:=hq2.cell 7
 have rz7:=hq2.frozen 7
 simp at r0 r1 r2 r3 r4 r5 r6 r7
 have HK:=Qo kb
 clear kb hq2
 go_wp2
 refine bodyPost_ret (v:=.agg #[.int .u32 z,.int .u8 e,.int .u16 b,.int .u16 t,.int .u16 cP',.int .u16 cY',.int .u32 cR',.bool k]) (by simp[results,Tryz.results79,go_sem,r0,r1,r2,r3,r4,r5,r6,r7]) rfl ⟨rfl,?_⟩
 repeat (first|(with_reducible refine Below.setCell ?_ (by simp<;>omega) _))
 exact HK.out
theorem ZB1 (cC cE cB cT cP cY cR:Nat) (cV:Bool) (s x y:Nat) (w:World) (cl:ZcJ cC cE cB cT cP cY cR) (hs:s<4294967296) (hx:(Vg cE cB cT cC).1=x) (hy:(Vg cE cB cT cC).2=y) (hr:QI cC (cC+s)=true) :
  Calls Tryz.prog 79 #[.agg #[.int .u32 cC,.int .u8 cE,.int .u16 cB,.int .u16 cT,.int .u16 cP,.int .u16 cY,.int .u32 cR,.bool cV],.int .u32 s] w fun e' w'=>e' = .returned (.agg #[.int .u32 cC,.int .u8 (ZdL cC (cC+s)),.int .u16 (ZeL cC (cC+s)),.int .u16 (ZeM cC (cC+s)),.int .u16 cP,.int .u16 cY,.int .u32 cR,.bool (Zwl cC cY cV s true x y)])∧Below w.heap.size w w' :=
 Zuf cC cE cB cT cP cY cR cV s _ _ _ _ _ _ _ _ w (fun W=>Zud cC cE cB cT cP cY cR cV s true x y W cl hs hx hy hr)
theorem ZB2 (cC cE cB cT cP cY cR:Nat) (cV:Bool) (s:Nat) (w:World) (cl:ZcJ cC cE cB cT cP cY cR) (hs:s<4294967296) (hr:QI cC (cC+s)=false) :
  Calls Tryz.prog 79 #[.agg #[.int .u32 cC,.int .u8 cE,.int .u16 cB,.int .u16 cT,.int .u16 cP,.int .u16 cY,.int .u32 cR,.bool cV],.int .u32 s] w fun e' w'=>e' = .returned (.agg #[.int .u32 cC,.int .u8 cE,.int .u16 cB,.int .u16 cT,.int .u16 cP,.int .u16 cY,.int .u32 cR,.bool false])∧Below w.heap.size w w' :=
 Zuf cC cE cB cT cP cY cR cV s _ _ _ _ _ _ _ _ w (fun W=>Zue cC cE cB cT cP cY cR cV s true W cl hs hr)
structure Cp where
 C:Nat
 E:Nat
 B:Nat
 T:Nat
 P:Nat
 Y:Nat
 R:Nat
 V:Bool
def Cp.cs (c:Cp):List Value:=[.int .u32 c.C,.int .u8 c.E,.int .u16 c.B,.int .u16 c.T,.int .u16 c.P,.int .u16 c.Y,.int .u32 c.R,.bool c.V]
def Cp.val (c:Cp):Value:=.agg ⟨c.cs⟩
def Cp.Ok (c:Cp):Prop:=ZcJ c.C c.E c.B c.T c.P c.Y c.R
def Zdk (v:Nat):Cp:=⟨v,0,0,0,0,0,0,false⟩
def Cp.lo (c:Cp):Nat:=(Vg c.E c.B c.T c.C).1
def Cp.hi (c:Cp):Nat:=(Vg c.E c.B c.T c.C).2
def Ze9 (c:Cp):Cp:={ c with V:=false }
def ZbV (c:Cp) (tqq:Nat):Cp:={ c with C:=tqq,V:=XE c.Y c.V&&ZbT c.E c.B c.T c.C tqq }
def Zwm (c:Cp) (p:Nat):Cp:={ c with P:=c.P&&&(p%65536),V:=XE c.Y c.V }
def ZiC (c:Cp) (s:Nat) (ex:Bool):Cp :=
 if QI c.C (c.C+s)=true then { c with E:=ZdL c.C (c.C+s),B:=ZeL c.C (c.C+s),T:=ZeM c.C (c.C+s),V:=Zwl c.C c.Y c.V s ex c.lo c.hi } else Ze9 c
def Zjs (c b:Cp):Cp:=if(XE c.Y c.V&&U0 b.C b.P b.Y b.V 32 b.lo b.hi)=true then { c with Y:=b.C } else Ze9 c
def Zip (c b:Cp):Cp:=if(c.V&&decide (c.Y≠0)&&U0 b.C b.P b.Y b.V 64 b.lo b.hi&&decide (b.C=c.Y))=true then { c with Y:=0 } else Ze9 c
def ZdQ (c b:Cp):Cp:={ c with V:=XE b.Y b.V&&Zw5 c.E c.B c.T c.P c.Y c.R b.P c.lo c.hi b.lo b.hi }
def ZhN (c:Cp):Bool:=Zl5 c.C c.E c.B c.T c.P c.Y c.R c.V c.C 0 0 0 0 0 0 false
theorem ZrO {v:Value} (h:XD v=true):∀ u∈[v],XD u=true:=fun u hu=>by obtain rfl:=List.mem_singleton.1 hu; exact h
theorem Zl8 {v x:Value} (h:XD v=true) (hx:XD x=true):∀ u∈[v,x],XD u=true:=fun u hu=>by
 simp only[List.mem_cons,List.not_mem_nil,or_false] at hu
 rcases hu with rfl|rfl<;>assumption
theorem ZrP (c:Cp):ConOk Tryz.prog 77 3 (Con.pure [c.val] (Ze9 c).val) :=
 QE (d:=1) (Q9 Zg (by kernel_rfl)) (ZrO rfl) rfl fun w=>Zt6 c.C c.E c.B c.T c.P c.Y c.R c.V w
theorem ZgI (c:Cp) (tqq:Nat) (h:c.Ok) (ht:tqq<4294967296):ConOk Tryz.prog 71 3 (Con.pure [c.val,.int .u32 tqq] (ZbV c tqq).val) :=
 QE (d:=1) (Q9 Zg (by kernel_rfl)) (Zl8 rfl rfl) rfl fun w=>Zqw c.C c.E c.B c.T c.P c.Y c.R c.V tqq w h ht
theorem Zw8 (c:Cp) (p:Nat) (h:c.Ok) (hp:p<4294967296):ConOk Tryz.prog 80 3 (Con.pure [c.val,.int .u32 p] (Zwm c p).val) :=
 QE (d:=1) (Q9 Zg (by kernel_rfl)) (Zl8 rfl rfl) rfl fun w=>ZBW c.C c.E c.B c.T c.P c.Y c.R c.V p w h hp
theorem Zw9 (c:Cp) (s:Nat) (h:c.Ok) (hs:s<4294967296):ConOk Tryz.prog 78 3 (Con.pure [c.val,.int .u32 s] (ZiC c s false).val):=by
 refine QE (d:=1) (Q9 Zg (by kernel_rfl)) (Zl8 rfl rfl) rfl fun w => ?_
 unfold ZiC
 split
 ·rename_i hr; exact ZL8 c.C c.E c.B c.T c.P c.Y c.R c.V s c.lo c.hi w h hs rfl rfl hr
 ·rename_i hr; exact ZL9 c.C c.E c.B c.T c.P c.Y c.R c.V s w h hs (by simpa using hr)
theorem ZrQ (c:Cp) (s:Nat) (h:c.Ok) (hs:s<4294967296):ConOk Tryz.prog 79 3 (Con.pure [c.val,.int .u32 s] (ZiC c s true).val):=by
 refine QE (d:=1) (Q9 Zg (by kernel_rfl)) (Zl8 rfl rfl) rfl fun w => ?_
 unfold ZiC
 split
 ·rename_i hr; exact ZB1 c.C c.E c.B c.T c.P c.Y c.R c.V s c.lo c.hi w h hs rfl rfl hr
 ·rename_i hr; exact ZB2 c.C c.E c.B c.T c.P c.Y c.R c.V s w h hs (by simpa using hr)
theorem Zug (c b:Cp) (hb:b.Ok):ConOk Tryz.prog 81 3 (Con.pure [c.val,b.val] (Zjs c b).val):=by
 refine QE (d:=1) (Q9 Zg (by kernel_rfl)) (Zl8 rfl rfl) rfl fun w => ?_
 unfold Zjs
 cases hf:XE c.Y c.V
 ·simp only[Bool.false_and,Bool.false_eq_true,if_false]
  exact ZFJ c.C c.E c.B c.T c.P c.Y c.R c.V b.C b.E b.B b.T b.P b.Y b.R b.V w hf
 ·cases ho:U0 b.C b.P b.Y b.V 32 b.lo b.hi
  ·simp only[Bool.and_false,Bool.false_eq_true,if_false]
   exact ZFK c.C c.E c.B c.T c.P c.Y c.R c.V b.C b.E b.B b.T b.P b.Y b.R b.V b.lo b.hi w hb rfl rfl hf ho
  ·simp only[Bool.and_self,if_true]
   exact ZFL c.C c.E c.B c.T c.P c.Y c.R c.V b.C b.E b.B b.T b.P b.Y b.R b.V b.lo b.hi w hb rfl rfl hf ho
theorem Zuh (c b:Cp) (hc:c.Ok) (hb:b.Ok):ConOk Tryz.prog 82 3 (Con.pure [c.val,b.val] (Zip c b).val):=by
 obtain⟨cC,cE,cB,cT,cP,cY,cR,cV⟩:=c
 refine QE (d:=1) (Q9 Zg (by kernel_rfl)) (Zl8 rfl rfl) rfl fun w => ?_
 unfold Zip
 cases cV
 ·simp only[Bool.false_and,Bool.false_eq_true,if_false]
  exact ZFM cC cE cB cT cP cY cR b.C b.E b.B b.T b.P b.Y b.R b.V w
 ·by_cases hy:cY=0
  ·subst hy
   simp only[ne_eq,not_true_eq_false,decide_false,Bool.and_false,Bool.false_and,Bool.false_eq_true,if_false]
   exact ZFN cC cE cB cT cP 0 cR b.C b.E b.B b.T b.P b.Y b.R b.V w rfl
  ·have hy0:((cY:Int)==0)=false:=by simpa using hy
   simp only[ne_eq,hy,not_false_eq_true,decide_true,Bool.and_self,Bool.true_and]
   cases ho:U0 b.C b.P b.Y b.V 64 b.lo b.hi
   ·simp only[Bool.false_and,Bool.false_eq_true,if_false]
    exact ZFO cC cE cB cT cP cY cR b.C b.E b.B b.T b.P b.Y b.R b.V b.lo b.hi w hb rfl rfl hy0 ho
   ·by_cases hn:b.C=cY
    ·simp only[hn,decide_true,Bool.and_self,if_true]
     exact ZFQ cC cE cB cT cP cY cR b.C b.E b.B b.T b.P b.Y b.R b.V b.lo b.hi w hb rfl rfl hy0 ho (by simp[hn]) (by simp[hn]) hc.2.2.2.2.2.1
    ·simp only[hn,decide_false,Bool.and_false,Bool.false_eq_true,if_false]
     have hz:¬ (b.C:Int)=(cY:Int):=fun h=>hn (by omega)
     exact ZFP cC cE cB cT cP cY cR b.C b.E b.B b.T b.P b.Y b.R b.V b.lo b.hi w hb rfl rfl hy0 ho (bne_iff_ne.2 hz) (beq_eq_false_iff_ne.2 hz) hc.2.2.2.2.2.1
theorem ZrR (c b:Cp) (hc:c.Ok) (hb:b.Ok):ConOk Tryz.prog 83 3 (Con.pure [c.val,b.val] (ZdQ c b).val) :=
 QE (d:=1) (Q9 Zg (by kernel_rfl)) (Zl8 rfl rfl) rfl fun w=>Zuc c.C c.E c.B c.T c.P c.Y c.R c.V b.C b.E b.B b.T b.P b.Y b.R b.V c.lo c.hi b.lo b.hi w hc hb rfl rfl rfl rfl
theorem ZrS (c:Cp) (hc:c.Ok) (lo hi:Nat) (hl:lo=c.lo) (hh:hi=c.hi):ConOk Tryz.prog 76 3 (Con.pure [c.val] (.tuple ⟨[.int .u32 lo,.int .u64 hi]⟩)):=by
 subst hl; subst hh
 exact QE (d:=1) (Q9 Zg (by kernel_rfl)) (ZrO rfl) rfl fun w=>ZnC c.C c.E c.B c.T c.P c.Y c.R c.V w hc
theorem ZrT (c:Cp) (hc:c.Ok):ConOk Tryz.prog 85 3 (Con.pure [c.val] (.bool (ZhN c))) :=
 QE (d:=1) (Q9 Zg (by kernel_rfl)) (ZrO rfl) rfl fun w=>ZnD c.C c.E c.B c.T c.P c.Y c.R c.V w hc.1
theorem ZeN (c:Cp) (hc:c.Ok):ConOk Tryz.prog 46 3 (Con.pure [c.val] (.bool (WO c.E c.B c.T c.P c.Y c.R))) :=
 QE (d:=1) (Q9 Zg (by kernel_rfl)) (ZrO rfl) rfl fun w=>Zjr c.C c.E c.B c.T c.P c.Y c.R c.V w hc
theorem ZrU (c:Cp) (a s:Nat) (hc:c.Ok) (ha:a<4294967296) (hs:s<4294967296):ConOk Tryz.prog 100 3 (Con.pure [c.val,.agg ⟨[.int .u32 a,.int .u32 s]⟩] (.bool (Za1 c.lo c.hi a s))) :=
 QE (d:=1) (Q9 Zg (by kernel_rfl)) (Zl8 rfl rfl) rfl fun w=>Zt0 c.C c.E c.B c.T c.P c.Y c.R c.V a s c.lo c.hi w hc ha hs rfl rfl
def rxL (a:Nat) (d zs zs2:List UInt8) (f f2:Nat→Bool) (N m:Nat):Sy.Steps:=[(68,89,ZeT [.pointer (some ⟨66,0,none⟩),.int .u32 (a:Nat),.string ⟨⟨d⟩⟩] zs zs2 f f2 N m,[64,65,66]),(69,89,ZeT [.pointer (some ⟨66,0,none⟩),.int .u32 (a:Nat),.string ⟨⟨d⟩⟩] zs zs2 f f2 N m,[64,65,66])]
def rxM (c:Cp) (d:List UInt8) (k:Bool):Sy.Steps:=[(68,95,Con.pure [c.val] (.string ⟨⟨d⟩⟩),[]),(68,96,Con.pure [c.val] (.bool k),[])]
theorem Zxa (c:Int) (e:Int) (b:Int) (t:Int) (p:Int) (y:Int) (r:Int) (v:Bool):obs (evF Tryz.prog Zc Zb 100 20 95 [ZaJ (Zhn (Ww c) (Zqx e) (ZbU b) (ZbU t) (ZbU p) (ZbU y) (Ww r) v)] (stT []))=Wj (YX [Km (c.fdiv Yg),Km (c.fdiv Yz),Km (c.fdiv Wk),Km (c.fdiv KO),ZdP e,ZdP b,Ze8 b Yz,ZdP t,Ze8 t Yz,ZdP p,Ze8 p Yz,ZdP y,Ze8 y Yz,Km (r.fdiv Yg),Km (r.fdiv Yz),Km (r.fdiv Wk)]) True:=by kernel_rfl
def ZFS:=Bx.mk (by have h:=@Zxa;simp(maxSteps:=99999999) only[Zx.v,ZF.v,Zw.v,-eq_self] at h;exact h)
def ZrV (a:List Value) (b:Nat→Bool) (c:Nat):=a.all (okV b c)
def ZB4 (a b c d:Prop):=a∧ZwX b c d
def ZB5 (a b c d e f:Prop):=a∧b∧ZB4 c d e f
def Jk (a b:Nat) (c:List Nat) (d:List Value):=List.map (rnV (lift a b c) 3) d
def Zfa (a:Prop):=Vt (Vt a)
def ZgJ (a b:Nat) (c:List Nat) (d:List UInt8):=Jk a b c (u8s d)
def ZkN (a:Bool) (b c d e:Prop):=ZB5 (true=true) (a=true) b c d e
def ZkO (a b c d:Prop):=ZkN true a b c d
def ZhO (a b:Nat) (c:List Nat) (d:Nat→Bool) (e:Nat):=Jk a b c (bls d e)
def Wm:=ZcC 1
def ZgK (a:List UInt8) (b:Nat→Bool) (c d e:Prop) (f:List UInt8) (g:List Value):=ZkN (ZrV (u8s a) b 3) c d e (ZtQ f g)
def JG (a b c d:Nat) (e:Nat→Bool) (f:Nat):=ZhO 67 a [b,c,d] e f
def Zui (a:Nat) (b:Nat→Bool) (c:Nat):=JG a 64 65 66 b c
def Zuj (a:Nat→Bool) (b:Nat) (c:Nat→Bool) (d e f:Prop) (g:Nat→Bool) (h:Nat) (i:List Value):=ZkN (ZrV (bls a b) c 3) d e f (Zjl g h i)
def Zjt (a:List Value) (b:Prop) (c:List UInt8) (d:Nat→Bool) (e:Nat) (f:List Nat):=X4 (ZkO Ze Ze Ze (ZgD a)) b (ZgK c d Ze Ze Ze c (ZgJ 67 e f c))
def XF (a:Nat→Bool) (b:Nat) (c:Nat→Bool) (d:List Value):=Zuj a b c Ze Ze Ze a b d
def Wz (a:Nat→Bool) (b:Nat) (c:Nat→Bool) (d:Nat) (e:Nat→Bool) (f:Nat):=XF a b c (Zui d e f)
def Vv (a b:Prop):=X4 Qc a b
def QO (a:Nat):=Ze∧a≤a
def ZH:=Bx.mk (aI @ZrV.eq_1 (aI @ZB4.eq_1 (aI @ZB5.eq_1 (aI @Jk.eq_1 (aI @Zfa.eq_1 (aI @ZgJ.eq_1 (aI @ZkN.eq_1 (aI @ZkO.eq_1 (aI @ZhO.eq_1 (aI @Wm.eq_1 (aI @ZgK.eq_1 (aI @JG.eq_1 (aI @Zui.eq_1 (aI @Zuj.eq_1 (aI @Zjt.eq_1 (aI @XF.eq_1 (aI @Wz.eq_1 (aI @Vv.eq_1 @QO.eq_1))))))))))))))))))
theorem ZB3 (a:Nat) (v:Nat) (d:List UInt8) (zs:List UInt8) (zs2:List UInt8) (f:Nat→Bool) (f2:Nat→Bool) (N:Nat) (m:Nat):evF Tryz.prog (Zk 3 (Za (rxL a d zs zs2 f f2 N m)) Zc) Zb 100 20 43 [ZN,ZX a,Wm,ZX v] (Zgt 67 (arR true zs f N m) (Zf2 N m) [] 0)=JC QB 68 [(66,UG N m),(65,Jg 65 f2 m),(64,KS zs2)] [(65,m),(64,N),(67,1),(65,m),(64,N)] 0 (Zfa (Vl (Vv (Yl a) (YX [ZdO (QW v) Yg]=YX d)) (Zjt (Yr N m) (Wz f m (fun l=>l.blt 67) 68 f m) zs (fun l=>l.blt 67) 68 [64,65,66]) (QO m) (QO N))):=by kernel_rfl
def ZMa:=Bx.mk (by have h:=@ZB3;simp(maxSteps:=99999999) only[Zx.v,ZF.v,ZD.v,ZO.v,X0.v,ZR.v,Ud.v,Zp.v,Zw.v,ZH.v,-eq_self] at h;exact h)
def Jl:=ZcC 2
def XB:=Bx.mk @Jl.eq_1
theorem ZB6 (a:Nat) (v:Nat) (d:List UInt8) (zs:List UInt8) (zs2:List UInt8) (f:Nat→Bool) (f2:Nat→Bool) (N:Nat) (m:Nat):evF Tryz.prog (Zk 3 (Za (rxL a d zs zs2 f f2 N m)) Zc) Zb 100 20 43 [ZN,ZX a,Jl,ZX v] (Zgt 67 (arR true zs f N m) (Zf2 N m) [] 0)=JC QB 68 [(66,UG N m),(65,Jg 65 f2 m),(64,KS zs2)] [(65,m),(64,N),(67,2),(65,m),(64,N)] 0 (Zfa (Vl (Vv (Yl a) (YX [ZdO (QW v) Yg,ZdO (QW v) Yz]=YX d)) (Zjt (Yr N m) (Wz f m (fun l=>l.blt 67) 68 f m) zs (fun l=>l.blt 67) 68 [64,65,66]) (QO m) (QO N))):=by kernel_rfl
def ZMb:=Bx.mk (by have h:=@ZB6;simp(maxSteps:=99999999) only[Zx.v,ZF.v,ZD.v,ZO.v,X0.v,ZR.v,Ud.v,Zp.v,Zw.v,ZH.v,XB.v,-eq_self] at h;exact h)
theorem ZB7 (a:Nat) (v:Nat) (d:List UInt8) (zs:List UInt8) (zs2:List UInt8) (f:Nat→Bool) (f2:Nat→Bool) (N:Nat) (m:Nat):evF Tryz.prog (Zk 3 (Za (rxL a d zs zs2 f f2 N m)) Zc) Zb 100 20 43 [ZN,ZX a,Kn,ZX v] (Zgt 67 (arR true zs f N m) (Zf2 N m) [] 0)=JC QB 68 [(66,UG N m),(65,Jg 65 f2 m),(64,KS zs2)] [(65,m),(64,N),(67,4),(65,m),(64,N)] 0 (Zfa (Vl (Vv (Yl a) (YX [ZdO (QW v) Yg,ZdO (QW v) Yz,ZdO (QW v) Wk,ZdO (QW v) KO]=YX d)) (Zjt (Yr N m) (Wz f m (fun l=>l.blt 67) 68 f m) zs (fun l=>l.blt 67) 68 [64,65,66]) (QO m) (QO N))):=by kernel_rfl
def ZMc:=Bx.mk (by have h:=@ZB7;simp(maxSteps:=99999999) only[Zx.v,ZF.v,ZD.v,ZO.v,X0.v,ZR.v,Ud.v,Zp.v,Zw.v,ZH.v,-eq_self] at h;exact h)
def ZmH (a:Int):=ZFa u16 a
def QK (a:Nat):=ZmH ↑a
def ZB8 (a:Value) (b:Int) (c d e f g:Value) (h:Bool):=Zhn a (Zgr b) c d e f g h
def ZB9 (a:Nat) (b:Int) (c d e f g:Value) (h:Bool):=ZB8 (ZX a) b c d e f g h
def Zxc (a:Nat) (b:Int) (c d:Nat) (e f:Value) (g:Nat) (h:Bool):=ZB9 a b (QK c) (QK d) e f (ZX g) h
def Zuk (a:Nat) (b:Int) (c d:Nat) (e:Value) (f g:Nat) (h:Bool):=Zxc a b c d e (QK f) g h
def ZdR (a:Nat) (b:Int) (c d e f g:Nat) (h:Bool):=Zuk a b c d (QK e) f g h
def Z6 (a b c d e f g:Nat) (h:Bool):=ZaJ (ZdR a ↑b c d e f g h)
def Zul (a b:Int):=u32.wrap (a.tdiv b)
def Zju (a:Prop) (b:Bool) (c:Prop):=XQ (QF a b) c
def Zjv (a:Nat) (b:Int):=(QW a).tmod b
def Zum (a:Nat) (b:Int):=Zul (QW a) b
def ZbW (a:Nat):=Zjv a YD
def Jm (a:Bool) (b:Int) (c:Bool) (d:Prop):=ZaM a (UF b c) d
def ZgL (a b c:Bool):=ZdF True a b c
def ZdS (a:Prop) (b:Nat):=a∧ZeS YD b=true
def Zfb (a:Prop) (b c:Nat):=ZdS (ZdS a b) c
def Zc3 (a:Prop) (b c d e:Nat):=Zfb (Zfb a b c) d e
def ZhP (a:Nat):=Zum a YD
def ZhQ (a:Nat):=(ZhP a).toNat
def ZM (a:Value) (b c d e f g h:Nat) (i:Bool):=a=Z6 b c d e f g h i
def XR (a:Prop) (b:Bool):=J5 a b b
def Zbp (a:Bool):=ZgL a a a
def Q6 (a:Prop):=ZL (ZL a)
def WA (a:Prop):=Q6 (Q6 a)
def Qz (a b c:Prop) (d e:Nat):=ZlU a (Vl b c (Ze∧d≤d) (Ze∧e≤e))
def Qg (a b:Prop) (c:List Value) (d:Prop) (e:List UInt8) (f:Nat→Bool) (g:Nat) (h:List Nat) (i j:Nat):=Qz a b (Zjt c d e f g h) i j
def ZcK (a:Prop):=WA (WA a)
def Zl:=Bx.mk (aI @ZmH.eq_1 (aI @QK.eq_1 (aI @ZB8.eq_1 (aI @ZB9.eq_1 (aI @Zxc.eq_1 (aI @Zuk.eq_1 (aI @ZdR.eq_1 (aI @Z6.eq_1 (aI @Zul.eq_1 (aI @Zju.eq_1 (aI @Zjv.eq_1 (aI @Zum.eq_1 (aI @ZbW.eq_1 (aI @Jm.eq_1 (aI @ZgL.eq_1 (aI @ZdS.eq_1 (aI @Zfb.eq_1 (aI @Zc3.eq_1 (aI @ZhP.eq_1 (aI @ZhQ.eq_1 (aI @ZM.eq_1 (aI @XR.eq_1 (aI @Zbp.eq_1 (aI @Q6.eq_1 (aI @WA.eq_1 (aI @Qz.eq_1 (aI @Qg.eq_1 @ZcK.eq_1)))))))))))))))))))))))))))
theorem Zxb (a:Nat) (x:Cp) (d:List UInt8) (zs:List UInt8) (zs2:List UInt8) (f:Nat→Bool) (f2:Nat→Bool) (k:Bool) (N:Nat) (m:Nat):evF Tryz.prog (Zk 3 (Za (rxL a d zs zs2 f f2 N m++rxM x d k)) Zc) Zb 100 20 45 (Vm ZN a (cpV x.C x.E x.B x.T x.P x.Y x.R true)) (ZdK 67 (arR true zs f N m) N m 28 239075320)=JC QB 68 [(65,ZbP 65 (0+ZhQ a*1) [Value.bool k] (bls f2 m)),(64,KS zs2),(66,UG N m)] [(65,m),(64,N),(65,m),(64,N)] 28 (Jm (ZbR (0+ZhQ a*1+1) (bls f2 m)) (ZhP a) (YO (ZhP a) m) (ZL (XQ (Q6 (Qg (Zju (XR (ZdS (Zfb (ZdS (Zc3 (Zfb (ZdS (ZcK (Zbp (ZbW a !=Zr))) N) N N) N N N N) N) N N) N) (ZbW a !=Zr)) (!decide (Vu a≤VF N YD)) (ZM (Z6 x.C x.E x.B x.T x.P x.Y x.R true) x.C x.E x.B x.T x.P x.Y x.R x.V)) (Vv (Yl a) (QR (YX d))) (Yr N m) (Wz f m (fun l=>l.blt 67) 68 f m) zs (fun l=>l.blt 67) 68 [64,65,66] m N)) (ZM (Z6 x.C x.E x.B x.T x.P x.Y x.R true) x.C x.E x.B x.T x.P x.Y x.R x.V)))):=by kernel_rfl
def ZFT:=Bx.mk (by have h:=@Zxb;simp(maxSteps:=99999999) only[Zx.v,ZF.v,ZD.v,ZO.v,X0.v,ZR.v,Ud.v,Zp.v,Zw.v,ZH.v,Zl.v,-eq_self] at h;exact h)
def V9 (a:Prop):=Y5 (Y5 a)
def ZdT (a:Prop):=Y5 (V9 a)
def ZB:=Bx.mk (aI @V9.eq_1 @ZdT.eq_1)
theorem Zxd (a:Nat) (x:Cp) (d:List UInt8) (zs:List UInt8) (zs2:List UInt8) (f:Nat→Bool) (f2:Nat→Bool) (k:Bool) (N:Nat) (m:Nat):evF Tryz.prog (Zk 3 (Za (rxL a d zs zs2 f f2 N m++rxM x d k)) Zc) Zb 100 20 45 (Vm ZN a (cpV x.C x.E x.B x.T x.P x.Y x.R false)) (ZdK 67 (arR true zs f N m) N m 28 4194296)=JC QB 68 [(65,ZbP 65 (0+ZhQ a*1) Zam (bls f2 m)),(64,KS zs2),(66,UG N m)] [(65,m),(64,N),(65,m),(64,N)] 28 (Jm (ZbR (0+ZhQ a*1+1) (bls f2 m)) (ZhP a) (YO (ZhP a) m) (ZdT (Qg (Zju (XR (ZdS (Zc3 (Zc3 (Zfb (ZcK (Zbp (ZbW a !=Zr))) N N) N N N N) N N N N) N) (ZbW a !=Zr)) (!decide (Vu a≤VF N YD)) (ZM (Z6 x.C x.E x.B x.T x.P x.Y x.R false) x.C x.E x.B x.T x.P x.Y x.R x.V)) (Vv (Yl a) (QR (YX d))) (Yr N m) (Wz f m (fun l=>l.blt 67) 68 f m) zs (fun l=>l.blt 67) 68 [64,65,66] m N))):=by kernel_rfl
def ZFU:=Bx.mk (by have h:=@Zxd;simp(maxSteps:=99999999) only[Zx.v,ZF.v,ZD.v,ZO.v,ZU.v,X0.v,ZR.v,Ud.v,Zp.v,Zw.v,ZH.v,Zl.v,ZB.v,-eq_self] at h;exact h)
end Go.Proofs.YtagacmljbgkmoaaGreatDoor
