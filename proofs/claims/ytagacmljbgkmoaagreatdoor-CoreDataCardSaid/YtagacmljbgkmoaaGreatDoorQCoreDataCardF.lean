/-
  CoreDataCard: the proof's last part: the statement holds, with no condition.
-/
import Derived.ChangeSlices
import Derived.OpenShut
import Derived.Test.YtagacmljbgkmoaaGreatDoorCards
import Derived.Test.YtagacmljbgkmoaaGreatDoorQCoreDataCardE
import Derived.Test.YtagacmljbgkmoaaGreatDoorTie
set_option linter.unusedSimpArgs false
set_option linter.unusedVariables false
set_option linter.unusedSectionVars false
namespace Go.Proofs.YtagacmljbgkmoaaGreatDoor
open Go.IntKind (u8 u16 u32 u64 i64)
open Go.RowKit
open Sy
set_option maxRecDepth 100000
def pt0:Pt:=⟨0,false,0,J2⟩
def Zi6 (s:List UInt8×(Nat→Bool)) (x:Pt):List UInt8×(Nat→Bool) :=
 if x.w=true then(QW (4*(x.a%1024)) (leW 4 x.v) s.1,Qr s.2 (4*(x.a%1024)/16) false) else(QW (16*(x.a%256)) x.c.bs s.1,Qr s.2 (16*(x.a%256)/16) (x.c.V&&x.c.snd))
def Z2 (l:List Pt) (k:Nat):List UInt8×(Nat→Bool):=(l.take k).foldl Zi6 (List.replicate 4096 0,fun _=>false)
theorem ZfH (l:List Pt) (k:Nat) (h:k<l.length):Z2 l (k+1)=Zi6 (Z2 l k) (l.getD k pt0):=by
 unfold Z2
 rw[List.take_succ_eq_append_getElem h,List.foldl_append,List.getD_eq_getElem?_getD,List.getElem?_eq_getElem h]
 rfl
theorem Zg9 (s:List UInt8×(Nat→Bool)) (x:Pt) (h:s.1.length=4096):(Zi6 s x).1.length=4096:=by
 unfold Zi6
 split
 ·show(QW _ _ _).length=4096
  rw[Vj _ _ _ (by rw[YS,h]; omega),h]
 ·show(QW _ _ _).length=4096
  rw[Vj _ _ _ (by rw[show x.c.bs.length=16 from WH _ _ _ _ _ _ _,h]; omega),h]
theorem Zbn:∀ (l:List Pt) (s:List UInt8×(Nat→Bool)),s.1.length=4096→(l.foldl Zi6 s).1.length=4096
 | [],_,h=>h
 | x::l,s,h=>Zbn l _ (Zg9 s x h)
theorem ZcX (l:List Pt) (k:Nat):(Z2 l k).1.length=4096:=Zbn _ _ List.length_replicate
def Pt.Ok (x:Pt):Prop:=x.a<65536∧x.v<4294967296∧x.c.Ok
theorem Uu (x:Pt):x.cs.length=11:=rfl
theorem Zi7:∀ (l:List Pt) (k j:Nat),k<l.length→j<11→Zc undef (Z6 l) (11*k+j)=Zc undef (l.getD k pt0).cs j
 | [],_,_,h,_=>absurd h (Nat.not_lt_zero _)
 | x::l,0,j,_,hj=>by
  show Zc undef (x.cs++Z6 l) (11*0+j)=Zc undef x.cs j
  rw[Y5,Y5,Nat.mul_zero,Nat.zero_add,Zbg _ _ _ _ (by rw[Uu]; exact hj)]
 | x::l,k+1,j,h,hj=>by
  show Zc undef (x.cs++Z6 l) (11*(k+1)+j)=_
  rw[Y5,Un _ _ _ _ (by rw[Uu]; omega),Uu,show 11*(k+1)+j-11=11*k+j by omega,← Y5,Zi7 l k j (by simpa using h) hj]
  simp
theorem Vn:∀ l:List Pt,(Z6 l).length=11*l.length
 | []=>rfl
 | x::l=>by
  show(x.cs++Z6 l).length=_
  rw[List.length_append,Vn l,Uu,List.length_cons]; omega
theorem Zi8 (x:Pt):∀ v∈x.cs,ZP v=true:=fun v hv=>List.all_eq_true.1 (show x.cs.all ZP=true from rfl) v hv
theorem YM (l:List Pt):∀ v∈Z6 l,ZP v=true:=fun v hv=>by
 obtain⟨x,_,h⟩:=List.mem_flatMap.1 hv
 exact Zi8 x v h
theorem JU (l:List Pt) (k j n:Nat) (h:k<l.length) (hj:j<11) (hn:n=11*k+j):Zc undef (Z6 l) n=Zc undef (l.getD k pt0).cs j:=by rw[hn,Zi7 l k j h hj]
theorem pu_0 (l:List Pt) (k:Nat) (h:k<l.length):Zb (Zc undef (Z6 l) (0+k*11))=((l.getD k pt0).a:Nat):=by rw[JU l k 0 _ h (by omega) (by omega)]; rfl
theorem pu_1 (l:List Pt) (k:Nat) (h:k<l.length):Zv (Zc undef (Z6 l) (0+k*11+1))=(l.getD k pt0).w:=by rw[JU l k 1 _ h (by omega) (by omega)]; rfl
theorem pu_2 (l:List Pt) (k:Nat) (h:k<l.length):Zb (Zc undef (Z6 l) (0+k*11+1+1))=((l.getD k pt0).v:Nat):=by rw[JU l k 2 _ h (by omega) (by omega)]; rfl
theorem pu_3 (l:List Pt) (k:Nat) (h:k<l.length):Zb (Zc undef (Z6 l) (0+k*11+1+1+1))=((l.getD k pt0).c.C:Nat):=by rw[JU l k 3 _ h (by omega) (by omega)]; rfl
theorem pu_4 (l:List Pt) (k:Nat) (h:k<l.length):Zb (Zc undef (Z6 l) (0+k*11+1+1+1+1))=((l.getD k pt0).c.E:Nat):=by rw[JU l k 4 _ h (by omega) (by omega)]; rfl
theorem pu_5 (l:List Pt) (k:Nat) (h:k<l.length):Zb (Zc undef (Z6 l) (0+k*11+1+1+1+1+1))=((l.getD k pt0).c.B:Nat):=by rw[JU l k 5 _ h (by omega) (by omega)]; rfl
theorem pu_6 (l:List Pt) (k:Nat) (h:k<l.length):Zb (Zc undef (Z6 l) (0+k*11+1+1+1+1+1+1))=((l.getD k pt0).c.T:Nat):=by rw[JU l k 6 _ h (by omega) (by omega)]; rfl
theorem pu_7 (l:List Pt) (k:Nat) (h:k<l.length):Zb (Zc undef (Z6 l) (0+k*11+1+1+1+1+1+1+1))=((l.getD k pt0).c.P:Nat):=by rw[JU l k 7 _ h (by omega) (by omega)]; rfl
theorem pu_8 (l:List Pt) (k:Nat) (h:k<l.length):Zb (Zc undef (Z6 l) (0+k*11+1+1+1+1+1+1+1+1))=((l.getD k pt0).c.Y:Nat):=by rw[JU l k 8 _ h (by omega) (by omega)]; rfl
theorem pu_9 (l:List Pt) (k:Nat) (h:k<l.length):Zb (Zc undef (Z6 l) (0+k*11+1+1+1+1+1+1+1+1+1))=((l.getD k pt0).c.R:Nat):=by rw[JU l k 9 _ h (by omega) (by omega)]; rfl
theorem ZnK (l:List Pt) (k:Nat) (h:k<l.length):Zv (Zc undef (Z6 l) (0+k*11+1+1+1+1+1+1+1+1+1+1))=(l.getD k pt0).c.V:=by rw[JU l k 10 _ h (by omega) (by omega)]; rfl
theorem Zlj (l:List Pt) (k:Nat) (h:k<l.length):ZI (0+k*11+11) (Z6 l)=true:=Kh _ _ (by rw[Vn]; omega)
theorem Zi9 (l:List Pt) (k:Nat) (h:k<l.length):Zi [Value.int u16 (0:Int),Value.bool false,Value.int u32 (0:Int),Value.int u32 (0:Int),Value.int u8 (0:Int),Value.int u16 (0:Int),Value.int u16 (0:Int),Value.int u16 (0:Int),Value.int u16 (0:Int),Value.int u32 (0:Int),Value.bool false] (Z6 l) (0+k*11)=true:=by
 unfold Zi Zi Zi Zi Zi Zi Zi Zi Zi Zi Zi Zi
 rw[JU l k 0 _ h (by omega) (by omega),JU l k 1 _ h (by omega) (by omega),JU l k 2 _ h (by omega) (by omega),JU l k 3 _ h (by omega) (by omega),JU l k 4 _ h (by omega) (by omega),JU l k 5 _ h (by omega) (by omega),JU l k 6 _ h (by omega) (by omega),JU l k 7 _ h (by omega) (by omega),JU l k 8 _ h (by omega) (by omega),JU l k 9 _ h (by omega) (by omega),JU l k 10 _ h (by omega) (by omega)]
 rfl
theorem Zb2 {q:Nat→Bool} (h:∀ l,l<72→q l=true) (N m n:Nat):(∀ v∈([.pointer (some ⟨67,0,none⟩),.slice (some ⟨65,0,none⟩) N (big+65)]:List Value),okV q 3 v=true)∧(∀ v∈([.int .i64 (m:Nat),.slice (some ⟨66,0,none⟩) n (big+66)]:List Value),okV q 3 v=true)∧∀ v∈([.slice (some ⟨69,0,none⟩) N (big+69),.slice (some ⟨70,0,none⟩) m (big+70)]:List Value),okV q 3 v=true:=by
 have h5:=h 65 (by omega)
 have h6:=h 66 (by omega)
 have h7:=h 67 (by omega)
 have h9:=h 69 (by omega)
 have h10:=h 70 (by omega)
 refine⟨?_,?_,?_⟩<;>intro v hv<;>simp only[rr, tt, List.mem_cons,List.not_mem_nil,or_false] at hv<;>rcases hv with rfl|rfl<;>simp[okV,Xv,h5,h6,h7,h9,h10,ZP,big]
theorem Zb3 {q:Nat→Bool} (h:∀ l,l<72→q l=true) (rw:Bool) (zs:List UInt8) (f:Nat→Bool) (N m n:Nat) {l:Sy.Heap} (hl:OkH q l):OkH q (arM rw zs f N m n++(arN rw zs f N m++l)):=by
 obtain⟨c1,c2,c3⟩:=Zb2 h N m n
 exact⟨⟨h 68 (by omega),rfl,fun v hv=>Qa 3 v (c1 v hv)⟩,⟨h 67 (by omega),rfl,fun v hv=>Qa 3 v (c2 v hv)⟩,⟨h 66 (by omega),h 66 (by omega),Qf (Zr _)⟩,⟨h 65 (by omega),h 65 (by omega),Qf (Zm zs)⟩,⟨h 71 (by omega),rfl,fun v hv=>Qa 3 v (c3 v hv)⟩,⟨h 70 (by omega),h 70 (by omega),Qf (QI f m)⟩,⟨h 69 (by omega),h 69 (by omega),Qf (Zm zs)⟩,hl⟩
theorem ZhM {q:Nat→Bool} (h:∀ l,l<72→q l=true):∀ x∈meE,okV q 3 x.2=true:=fun x hx=>by
 have h8:=h 68 (by omega)
 have h11:=h 71 (by omega)
 simp only[rr, tt, meE,List.mem_cons,List.not_mem_nil,or_false] at hx
 rcases hx with rfl|rfl<;>simp[okV,Xv,h8,h11]
theorem Zlk {q:Nat→Bool} (h:q 64=true) (n k:Nat):∀ x∈meX n k,okV q 3 x.2=true:=fun x hx=>by
 simp only[rr, tt, meX,List.mem_cons,List.not_mem_nil,or_false] at hx
 rcases hx with rfl|rfl<;>simp[okV,Xv,h,ZP,big]
theorem Zll (l:List Pt) (zs:List UInt8) (f:Nat→Bool) (N m n k:Nat):(meI l zs f N m n k).Wf :=
 ⟨by show 64≤72; omega,Sf.Ok.mk' 3 (Zb3 (ltZ 72) true zs f N m n ⟨⟨rfl,rfl,Qf (YM l)⟩,trivial⟩) rfl (fun x hx=>by
  rcases List.mem_append.1 (show x∈meE++meX l.length k from hx) with hx|hx
  ·exact ZhM (ltZ 72) x hx
  ·exact Zlk rfl _ _ x hx)⟩
theorem ZcY (zs:List UInt8) (f:Nat→Bool) (N m n:Nat):(meF zs f N m n).Ok (Yo 72 72 id (fun l=>Nat.blt l 72)) :=
 Sf.Ok.mk' 3 (by have:=Zb3 (Zbm 72) true zs f N m n (l:=[]) trivial; rwa [List.append_nil] at this) rfl (ZhM (Zbm 72))
theorem Jb {h1:Sy.Heap} {q:Nat→Bool} (hq:∀ l,l<72→q l=true) (zs:List UInt8) (f:Nat→Bool) (N m n:Nat) {cs ws ds es:List Value} {l:Sy.Heap} (h68:Sy.look h1 68=some ⟨true,none,[.pointer (some ⟨67,0,none⟩),.slice (some ⟨65,0,none⟩) N (big+65)],none⟩) (h67:Sy.look h1 67=some ⟨true,none,[.int .i64 (m:Nat),.slice (some ⟨66,0,none⟩) n (big+66)],none⟩)
  (h66:Sy.look h1 66=some ⟨true,some (66,1),ws,none⟩) (h65:Sy.look h1 65=some ⟨true,some (65,1),cs,none⟩) (h71:Sy.look h1 71=some ⟨true,none,[.slice (some ⟨69,0,none⟩) N (big+69),.slice (some ⟨70,0,none⟩) m (big+70)],none⟩) (h70:Sy.look h1 70=some ⟨true,some (70,1),es,none⟩) (h69:Sy.look h1 69=some ⟨true,some (69,1),ds,none⟩)
  (hw:ws=v64 (Za f n)) (hc:cs=u8s zs) (he:es=bls f m) (hd:ds=u8s zs) (hl:YQ 3 q id h1 l):YQ 3 q id h1 (arM true zs f N m n++(arN true zs f N m++l)):=by
 obtain⟨c1,c2,c3⟩:=Zb2 hq N m n
 refine⟨⟨hq 68 (by omega),List.all_eq_true.2 c1,rfl,?_⟩,⟨hq 67 (by omega),List.all_eq_true.2 c2,rfl,?_⟩,⟨hq 66 (by omega),Zn (Zr _),hq 66 (by omega),?_⟩,⟨hq 65 (by omega),Zn (Zm zs),hq 65 (by omega),?_⟩,⟨hq 71 (by omega),List.all_eq_true.2 c3,rfl,?_⟩,⟨hq 70 (by omega),Zn (QI f m),hq 70 (by omega),?_⟩,⟨hq 69 (by omega),Zn (Zm zs),hq 69 (by omega),?_⟩,hl⟩
 ·simp only[rr, tt, id,h68]; exact⟨rfl,rfl,trivial,(Q7 _ rfl _).symm⟩
 ·simp only[rr, tt, id,h67]; exact⟨rfl,rfl,trivial,(Q7 _ rfl _).symm⟩
 ·simp only[rr, tt, id,h66]; exact⟨rfl,rfl,trivial,by rw[Q7 _ rfl,hw]⟩
 ·simp only[rr, tt, id,h65]; exact⟨rfl,rfl,trivial,by rw[Q7 _ rfl,hc]⟩
 ·simp only[rr, tt, id,h71]; exact⟨rfl,rfl,trivial,(Q7 _ rfl _).symm⟩
 ·simp only[rr, tt, id,h70]; exact⟨rfl,rfl,trivial,by rw[Q7 _ rfl,he]⟩
 ·simp only[rr, tt, id,h69]; exact⟨rfl,rfl,trivial,by rw[Q7 _ rfl,hd]⟩
theorem ZfI {h1:Sy.Heap} {q:Nat→Bool} (hq:∀ l,l<72→q l=true) (l:List Pt) (h64:Sy.look h1 64=some ⟨false,some (0,0),Z6 l,none⟩):YQ 3 q id h1 [(64,⟨false,some (0,0),Z6 l,none⟩)]:=by
 refine⟨⟨hq 64 (by omega),Zn (YM l),hq 0 (by omega),?_⟩,trivial⟩
 simp only[rr, tt, id,h64]; exact⟨rfl,rfl,trivial,(Q7 _ rfl _).symm⟩
def Z7 (l:List Pt):Nat:=min l.length 100
theorem ZfJ (l:List Pt) (k:Nat):ArOk (Z2 l k).1 4096 256 4:=⟨ZcX l k,by omega,by omega,by omega,by omega⟩
theorem ZhN (l:List Pt) (k:Nat):ArK (Z2 l k).1 4096 256:=⟨ZcX l k,by omega,by omega,by omega⟩
theorem Zja (l:List Pt) (hok:∀ x∈l,x.Ok) :
  ∀ k:{ k:Nat // k≤Z7 l },XX Tryz.prog 70 (QC Tryz.prog 14 0) ((meI l (Z2 l k.1).1 (Z2 l k.1).2 4096 256 4 k.1).fr 70) (.exit 0) ((meF (Z2 l (Z7 l)).1 (Z2 l (Z7 l)).2 4096 256 4).fr 70):=by
 refine ZcW (L:=100) (Xy _ _ 14) (fun _ h=>h) (X:={ k:Nat // k≤Z7 l }) (fun k=>meI l (Z2 l k.1).1 (Z2 l k.1).2 4096 256 4 k.1) (fun _=>meF (Z2 l (Z7 l)).1 (Z2 l (Z7 l)).2 4096 256 4) (fun _ => .exit 0) (fun k=>Z7 l-k.1) (fun k=>Zll _ _ _ _ _ _ _) ?_
 rintro⟨k,hk⟩
 have hK:Z7 l≤l.length∧Z7 l≤100:=⟨Nat.min_le_left _ _,Nat.min_le_right _ _⟩
 have f1:∀ (zs:List UInt8) (p:Nat→Bool),(u8s zs).all (okV p 3)=true:=fun zs p=>Zn (Zm _)
 have f2:∀ (zs:List UInt8) (σ:Nat→Nat),(u8s zs).map (rnV σ 3)=u8s zs:=fun zs σ=>Zp (Zm _)
 have f3:∀ (f:Nat→Bool) (p:Nat→Bool),(bls f 256).all (okV p 3)=true:=fun f p=>Zn (QI f 256)
 have f4:∀ (f:Nat→Bool) (σ:Nat→Nat),(bls f 256).map (rnV σ 3)=bls f 256:=fun f σ=>Zp (QI f 256)
 have f5:∀ (f:Nat→Bool) (σ:Nat→Nat),(v64 (Za f 4)).map (rnV σ 3)=v64 (Za f 4):=fun f σ=>Zp (Zr _)
 have f6:∀ (f:Nat→Bool) (p:Nat→Bool),(v64 (Za f 4)).all (okV p 3)=true:=fun f p=>Zn (Zr _)
 by_cases hlt:k<Z7 l
 ·have hkl:k<l.length:=by omega
  have hkl2:decide ((k:Int)<(l.length:Int))=true:=decide_eq_true (by omega)
  have hk100:decide ((k:Int)<(100:Int))=true:=decide_eq_true (by omega)
  have hk0:decide ((0:Int)≤(k:Int))=true:=decide_eq_true (by omega)
  have hx:(l.getD k pt0).Ok:=by
   rw[List.getD_eq_getElem?_getD,List.getElem?_eq_getElem hkl]; exact hok _ (List.getElem_mem hkl)
  have hs:=ZfH l k hkl
  obtain⟨x1,x2,x3⟩:=hx
  have e4:i64.wrap ((k:Int)+(1:Int))=((k+1:Nat):Int):=Yj k (by omega)
  have q0:=pu_0 l k hkl; have q1:=pu_1 l k hkl; have q2:=pu_2 l k hkl; have q3:=pu_3 l k hkl; have q4:=pu_4 l k hkl; have q5:=pu_5 l k hkl
  have q6:=pu_6 l k hkl; have q7:=pu_7 l k hkl; have q8:=pu_8 l k hkl; have q9:=pu_9 l k hkl; have q10:=ZnK l k hkl; have q11:=Zlj l k hkl; have q12:=Zi9 l k hkl
  generalize hX:l.getD k pt0=X at *
  cases hw:X.w
  ·have hput:Z2 l (k+1)=(QW (16*(X.a%256)) X.c.bs (Z2 l k).1,Qr (Z2 l k).2 (16*(X.a%256)/16) (X.c.V&&X.c.snd)):=by rw[hs]; unfold Zi6; rw[hw,if_neg (by decide)]
   have hcon:=ZbX (16*(X.a%256)) X.c.C X.c.E X.c.B X.c.T X.c.P X.c.Y X.c.R X.c.V (Z2 l k).1 (Z2 l k).2 4096 256 4 (ZfJ l k) (by obtain⟨h1,h2,h3,h4,h5,h6,h7⟩:=x3; exact⟨h1,h2,h3,h4,h5,h6,h7⟩) (by omega) (by omega)
   have hcon2:=Zg8 (16*(X.a%256)) X.c (Z2 l k).1 (Z2 l k).2 4096 256 (ZhN l k) x3 (by omega) (by omega)
   have hr:=me_c l (Z2 l k).1 (Z2 l k).2 4096 256 4 k (16*(X.a%256)) X.c (Z2 l (k+1)).1 (Z2 l (k+1)).2
   have e1:u32.wrap ((16:Int)*u32.wrap (((X.a:Nat):Int).tmod (256:Int)))=((16*(X.a%256):Nat):Int):=by
    rw[show((X.a:Nat):Int).tmod (256:Int)=((X.a%256:Nat):Int) from(Int.ofNat_tmod X.a 256).symm,XQ (X.a%256) (by omega),show(16:Int)*((X.a%256:Nat):Int)=((16*(X.a%256):Nat):Int) by omega,XQ _ (by omega)]
   simp only[rr, tt, e4] at hr
   refine⟨_,_,_,_,.normal,_,3,fun l=>Nat.blt l 72,id,Zt (L:=100) Zg (Zs (Zj fun x hx=>by
    simp only[rr, tt, meLc,List.mem_cons,List.not_mem_nil,or_false] at hx
    rcases hx with rfl|rfl
    ·rw[hput]; exact hcon
    ·rw[hput]; exact hcon2) (Zf _)) (Ze _) 20,hr,?_,.inl ⟨rfl,⟨k+1,by omega⟩,by show Z7 l-(k+1)<Z7 l-k; omega,rfl,rfl,rfl,?_⟩⟩
   ·simp only[rr, tt, Int.toNat_natCast,e1,hkl2,hk100,hk0,q0,q1,q2,q3,q4,q5,q6,q7,q8,q9,q10,q11,q12,hw,f1,f2,f3,f4,f5,f6,Bool.and_self,cond_true,and_true,true_and,and_self,Nat.le_refl]
   ·exact⟨fun _ _=>rfl,Jb (ltZ 72) _ _ _ _ _ rfl rfl rfl rfl rfl rfl rfl rfl rfl rfl rfl (ZfI (ltZ 72) l rfl),rfl,⟨⟨rfl,Nat.le_refl _⟩,⟨rfl,Nat.le_refl _⟩,⟨rfl,Nat.le_refl _⟩,⟨rfl,Nat.le_refl _⟩,trivial⟩,by repeat' (first|exact trivial|refine⟨⟨by kernel_rfl,by kernel_rfl⟩,?_⟩),Nat.le_refl _,fun l hl=>QZ hl,ZcY _ _ _ _ _,fun x _ _ => .inl rfl⟩
  ·have hput:Z2 l (k+1)=(QW (4*(X.a%1024)) (leW 4 X.v) (Z2 l k).1,Qr (Z2 l k).2 (4*(X.a%1024)/16) false):=by rw[hs]; unfold Zi6; rw[hw,if_pos rfl]
   have hcon:=Zag 4 (4*(X.a%1024)) X.v (Z2 l k).1 (Z2 l k).2 4096 256 4 (ZfJ l k) (by omega) x2 (by omega) (by omega)
   have hcon2:=Zi4 4 (4*(X.a%1024)) X.v (Z2 l k).1 (Z2 l k).2 4096 256 (ZhN l k) (by omega) x2 (by omega) (by omega)
   have hr:=me_w l (Z2 l k).1 (Z2 l k).2 4096 256 4 k (4*(X.a%1024)) X.v (Z2 l (k+1)).1 (Z2 l (k+1)).2
   have e1:u32.wrap ((4:Int)*u32.wrap (((X.a:Nat):Int).tmod (1024:Int)))=((4*(X.a%1024):Nat):Int):=by
    rw[show((X.a:Nat):Int).tmod (1024:Int)=((X.a%1024:Nat):Int) from(Int.ofNat_tmod X.a 1024).symm,XQ (X.a%1024) (by omega),show(4:Int)*((X.a%1024:Nat):Int)=((4*(X.a%1024):Nat):Int) by omega,XQ _ (by omega)]
   simp only[rr, tt, e4] at hr
   refine⟨_,_,_,_,.normal,_,3,fun l=>Nat.blt l 72,id,Zt (L:=100) Zg (Zs (Zj fun x hx=>by
    simp only[rr, tt, meLw,List.mem_cons,List.not_mem_nil,or_false] at hx
    rcases hx with rfl|rfl
    ·rw[hput]; exact hcon
    ·rw[hput]; exact hcon2) (Zf _)) (Ze _) 20,hr,?_,.inl ⟨rfl,⟨k+1,by omega⟩,by show Z7 l-(k+1)<Z7 l-k; omega,rfl,rfl,rfl,?_⟩⟩
   ·simp only[rr, tt, Int.toNat_natCast,e1,hkl2,hk100,hk0,q0,q1,q2,q11,q12,hw,f1,f2,f3,f4,f5,f6,Bool.and_self,cond_true,and_true,true_and,and_self,Nat.le_refl]
   ·exact⟨fun _ _=>rfl,Jb (ltZ 72) _ _ _ _ _ rfl rfl rfl rfl rfl rfl rfl rfl rfl rfl rfl (ZfI (ltZ 72) l rfl),rfl,⟨⟨rfl,Nat.le_refl _⟩,⟨rfl,Nat.le_refl _⟩,⟨rfl,Nat.le_refl _⟩,⟨rfl,Nat.le_refl _⟩,trivial⟩,by repeat' (first|exact trivial|refine⟨⟨by kernel_rfl,by kernel_rfl⟩,?_⟩),Nat.le_refl _,fun l hl=>QZ hl,ZcY _ _ _ _ _,fun x _ _ => .inl rfl⟩
 ·have hkk:k=Z7 l:=by omega
  subst hkk
  have hsF:=fun {h1:Sy.Heap} (h68:Sy.look h1 68=_) (h67:Sy.look h1 67=_) (h66:Sy.look h1 66=_) (h65:Sy.look h1 65=_) (h71:Sy.look h1 71=_) (h70:Sy.look h1 70=_) (h69:Sy.look h1 69=_)=>Jb (h1:=h1) (l:=[]) (ltZ 72) (Z2 l (Z7 l)).1 (Z2 l (Z7 l)).2 4096 256 4 h68 h67 h66 h65 h71 h70 h69 rfl rfl rfl rfl trivial
  simp only[rr, tt, List.append_nil] at hsF
  by_cases hle:l.length≤Z7 l
  ·have d1:decide (((Z7 l:Nat):Int)<(l.length:Int))=false:=decide_eq_false (by omega)
   have hr:=me_e l (Z2 l (Z7 l)).1 (Z2 l (Z7 l)).2 4096 256 4 (Z7 l)
   refine⟨_,_,_,_,.exit 0,_,3,fun l=>Nat.blt l 72,id,Zt (L:=100) Zg (Zf _) (Ze _) 20,hr,?_,.inr ⟨by simp,rfl,rfl,?_⟩⟩
   ·simp only[rr, tt, d1,and_true,true_and,and_self]
   ·exact⟨fun _ _=>rfl,hsF rfl rfl rfl rfl rfl rfl rfl,rfl,⟨⟨rfl,Nat.le_refl _⟩,⟨rfl,Nat.le_refl _⟩,⟨rfl,Nat.le_refl _⟩,⟨rfl,Nat.le_refl _⟩,trivial⟩,by repeat' (first|exact trivial|refine⟨⟨by kernel_rfl,by kernel_rfl⟩,?_⟩),Nat.le_refl _,fun l hl=>QZ hl,ZcY _ _ _ _ _,fun x _ _ => .inl rfl⟩
  ·have h100:Z7 l=100:=by unfold Z7 at *; omega
   have d1:decide (((Z7 l:Nat):Int)<(l.length:Int))=true:=decide_eq_true (by omega)
   have d2:decide (((Z7 l:Nat):Int)<(100:Int))=false:=decide_eq_false (by omega)
   have hr:=me_h l (Z2 l (Z7 l)).1 (Z2 l (Z7 l)).2 4096 256 4 (Z7 l)
   refine⟨_,_,_,_,.exit 0,_,3,fun l=>Nat.blt l 72,id,Zt (L:=100) Zg (Zf _) (Ze _) 20,hr,?_,.inr ⟨by simp,rfl,rfl,?_⟩⟩
   ·simp only[rr, tt, d1,d2,and_true,true_and,and_self]
   ·exact⟨fun _ _=>rfl,hsF rfl rfl rfl rfl rfl rfl rfl,rfl,⟨⟨rfl,Nat.le_refl _⟩,⟨rfl,Nat.le_refl _⟩,⟨rfl,Nat.le_refl _⟩,⟨rfl,Nat.le_refl _⟩,trivial⟩,by repeat' (first|exact trivial|refine⟨⟨by kernel_rfl,by kernel_rfl⟩,?_⟩),Nat.le_refl _,fun l hl=>QZ hl,ZcY _ _ _ _ _,fun x _ _ => .inl rfl⟩
structure MeHyp (l:List Pt) (zs:List UInt8) (f:Nat→Bool) (zs2:List UInt8) (f2:Nat→Bool) (N m n:Nat):Prop where
 ok:∀ x∈l,x.Ok
 zs:zs=List.replicate 4096 0
 f:f=fun _=>false
 zs2:zs2=(Z2 l (Z7 l)).1
 f2:f2=(Z2 l (Z7 l)).2
 N:N=4096
 m:m=256
 n:n=4
def ZnL (l:List Pt) (zs:List UInt8) (f:Nat→Bool) (zs2:List UInt8) (f2:Nat→Bool) (N m n:Nat) (h:MeHyp l zs f zs2 f2 N m n):Ent Tryz.prog :=
 ZjF Tryz.prog 14 0 70 (meI l zs f N m n 0) (.exit 0) (meF zs2 f2 N m n) (by kernel_rfl) (by kernel_rfl) (by
  obtain⟨h1,rfl,rfl,rfl,rfl,rfl,rfl,rfl⟩:=h
  exact Zja l h1 ⟨0,Nat.zero_le _⟩)
def nwC (zs:List UInt8) (f:Nat→Bool) (N m n:Nat):Con:=⟨[.int .i64 16],64,[],[],.tuple ⟨[.pointer (some ⟨67,0,none⟩),.int .i64 0]⟩,68,arW true zs f N m n,arO N n⟩
def nrC (zs:List UInt8) (f:Nat→Bool) (N m:Nat):Con:=⟨[.int .i64 16],64,[],[],.tuple ⟨[.pointer (some ⟨66,0,none⟩),.int .i64 0]⟩,67,arR true zs f N m,Zas N m⟩
def mmL (zs:List UInt8) (f:Nat→Bool) (N m n:Nat):Sy.Steps:=[(65,9,nwC zs f N m n,[]),(69,41,nrC zs f N m,[])]
theorem mm_a (l:List Pt) (zs:List UInt8) (f:Nat→Bool) (zs2:List UInt8) (f2:Nat→Bool) (N m n:Nat) (h:MeHyp l zs f zs2 f2 N m n):evF Tryz.prog (Zz 3 (Zd (mmL zs f N m n)) Zk) (ZaW [ZnL l zs f zs2 f2 N m n h]) 100 20 14 [Value.slice (some ⟨64,0,none⟩) l.length (big+64)] ⟨65,[(64,⟨false,some (0,0),Z6 l,none⟩)],[],0,[],0,True⟩=some (Value.tuple { toList:=[Value.pointer (some ⟨68,0,none⟩),.pointer (some ⟨71,0,none⟩)] },{ n:=72,h:=[(68,⟨true,none,[Value.pointer (some ⟨67,0,none⟩),.slice (some ⟨65,0,none⟩) N 9223372036854775873],none⟩),(67,⟨true,none,[Value.int .i64 (↑m),.slice (some ⟨66,0,none⟩) n 9223372036854775874],none⟩),(66,⟨true,some (66,1),v64 (Za f2 n),none⟩),(65,⟨true,some (65,1),u8s zs2,none⟩),(71,⟨true,none,[Value.slice (some ⟨69,0,none⟩) N 9223372036854775877,.slice (some ⟨70,0,none⟩) m 9223372036854775878],none⟩),(70,⟨true,some (70,1),bls f2 m,none⟩),(69,⟨true,some (69,1),u8s zs2,none⟩),(64,⟨false,some (0,0),Z6 l,none⟩)],lo:=[(66,n),(65,N),(70,m),(69,N),(70,m),(69,N),(66,n),(65,N)],esc:=0,T:=[],k:=0,O:=((True∧True∧(rr (Value.int .i64 16)∧True)∧True∧True)∧True∧(rr (Value.int .i64 16)∧True)∧True∧True)∧(rr (Value.pointer (some ⟨68,0,none⟩))∧rr (Value.pointer (some ⟨71,0,none⟩))∧rr (Value.slice (some ⟨64,0,none⟩) l.length 9223372036854775872)∧rr (Value.int .i64 0)∧True)∧((tt∧tt∧True∧rr [Value.pointer (some ⟨67,0,none⟩),.slice (some ⟨65,0,none⟩) N 9223372036854775873])∧(tt∧tt∧True∧rr [Value.int .i64 (↑m),.slice (some ⟨66,0,none⟩) n 9223372036854775874])∧(tt∧tt∧True∧rr (v64 (Za f n)))∧(tt∧tt∧True∧rr (u8s zs))∧(tt∧tt∧True∧rr [Value.slice (some ⟨69,0,none⟩) N 9223372036854775877,.slice (some ⟨70,0,none⟩) m 9223372036854775878])∧(tt∧tt∧True∧rr (bls f m))∧(tt∧tt∧True∧rr (u8s zs))∧(tt∧tt∧True∧rr (Z6 l))∧True)∧(n≤n∧N≤N∧m≤m∧N≤N∧True)∧True:St }):=by kernel_rfl
theorem mm_0 (zs:List UInt8) (f:Nat→Bool) (N m n:Nat):evF Tryz.prog (Zz 3 (Zd (mmL zs f N m n)) Zk) Zh 100 20 14 [Value.slice none 0 0] ⟨65,[],[],0,[],0,True⟩=some (Value.tuple { toList:=[Value.pointer (some ⟨68,0,none⟩),.pointer (some ⟨71,0,none⟩)] },{ n:=72,h:=[(71,⟨true,none,[Value.slice (some ⟨69,0,none⟩) N 9223372036854775877,.slice (some ⟨70,0,none⟩) m 9223372036854775878],none⟩),(70,⟨true,some (70,1),bls f m,none⟩),(69,⟨true,some (69,1),u8s zs,none⟩),(68,⟨true,none,[Value.pointer (some ⟨67,0,none⟩),.slice (some ⟨65,0,none⟩) N 9223372036854775873],none⟩),(67,⟨true,none,[Value.int .i64 (↑m),.slice (some ⟨66,0,none⟩) n 9223372036854775874],none⟩),(66,⟨true,some (66,1),v64 (Za f n),none⟩),(65,⟨true,some (65,1),u8s zs,none⟩)],lo:=[(70,m),(69,N),(66,n),(65,N)],esc:=0,T:=[],k:=0,O:=(True∧True∧(rr (Value.int .i64 16)∧True)∧True∧True)∧True∧(rr (Value.int .i64 16)∧True)∧True∧True:St }):=by kernel_rfl
theorem mm_1 (zs:List UInt8) (f:Nat→Bool) (N m n:Nat):evF Tryz.prog (Zz 3 (Zd (mmL zs f N m n)) Zk) Zh 100 20 14 [Value.slice (some { block:=64,off:=0,spot:=some 64 }) 0 (big+64)] ⟨65,[],[],0,[],0,True⟩=some (Value.tuple { toList:=[Value.pointer (some ⟨68,0,none⟩),.pointer (some ⟨71,0,none⟩)] },{ n:=72,h:=[(71,⟨true,none,[Value.slice (some ⟨69,0,none⟩) N 9223372036854775877,.slice (some ⟨70,0,none⟩) m 9223372036854775878],none⟩),(70,⟨true,some (70,1),bls f m,none⟩),(69,⟨true,some (69,1),u8s zs,none⟩),(68,⟨true,none,[Value.pointer (some ⟨67,0,none⟩),.slice (some ⟨65,0,none⟩) N 9223372036854775873],none⟩),(67,⟨true,none,[Value.int .i64 (↑m),.slice (some ⟨66,0,none⟩) n 9223372036854775874],none⟩),(66,⟨true,some (66,1),v64 (Za f n),none⟩),(65,⟨true,some (65,1),u8s zs,none⟩)],lo:=[(70,m),(69,N),(66,n),(65,N)],esc:=0,T:=[],k:=0,O:=(True∧True∧(rr (Value.int .i64 16)∧True)∧True∧True)∧True∧(rr (Value.int .i64 16)∧True)∧True∧True:St }):=by kernel_rfl
def sl1 (k:Nat) (g n:Nat):Value:=match k with|0 => .slice none 0 0|1 => .slice (some ⟨g,0,some g⟩) 0 (big+g)|_ => .slice (some ⟨g,0,none⟩) n (big+g)
def WP (k:Nat) (g:Nat) (cells:List Value):Sy.Heap:=match k with|0=>[]|1=>[]|_=>[(g,⟨false,some (0,0),cells,none⟩)]
def Zb4 (k n:Nat):Prop:=k≤2∧(k<2→n=0)
theorem Zlm (n:Nat):v64 (Za (fun _=>false) n)=z64 n:=by
 unfold v64 z64 Za
 rw[List.map_map]
 have h0:∀ k:Nat,bn (fun _=>false) k=0:=fun k=>by induction k with
  | zero=>rfl
  | succ k ih=>simp[bn,ih]
 simp only[rr, tt, Function.comp_def,h0,List.map_const',List.length_range]
 rfl
theorem Zln:ConOk Tryz.prog 9 3 (nwC (List.replicate 4096 0) (fun _=>false) 4096 256 4)∧FlatC (nwC (List.replicate 4096 0) (fun _=>false) 4096 256 4):=by
 have h:=Zgx 16 (by omega) (by omega)
 have e:Zkf 16=nwC (List.replicate 4096 0) (fun _=>false) 4096 256 4:=by
  unfold Zkf nwC arW arL
  rw[Zlm]
  rfl
 rw[e] at h
 exact h
theorem Zlo:ConOk Tryz.prog 41 3 (nrC (List.replicate 4096 0) (fun _=>false) 4096 256)∧FlatC (nrC (List.replicate 4096 0) (fun _=>false) 4096 256):=Zg3 16 (by omega) (by omega)
def Zlp (args:List Value) (h:Sy.Heap) (zs:List UInt8) (f:Nat→Bool) (N m n:Nat):Con:=⟨args,65,h,[],.tuple ⟨[.pointer (some ⟨68,0,none⟩),.pointer (some ⟨71,0,none⟩)]⟩,72,arM true zs f N m n++arN true zs f N m,Zl8 N m n⟩
theorem Zha:∀ l,l<72→Yo 65 72 id (fun l=>Nat.blt l 72) l=true:=fun l hl=>by
 show(Nat.blt l NG||(bif Nat.blt l 65 then(Nat.beq l l&&Nat.blt l 72) else Nat.blt l 72))=true
 rw[QY hl,Nat.beq_refl]
 cases Nat.blt l NG<;>cases Nat.blt l 65<;>rfl
theorem Zjb {q:Nat→Bool} (h:∀ l,l<72→q l=true) (zs:List UInt8) (f:Nat→Bool) (N m n:Nat):∀ x∈arM true zs f N m n++arN true zs f N m,∀ v∈x.2.cells,okV q 3 v=true:=fun x hx v hv=>by
 obtain⟨c1,c2,c3⟩:=Zb2 h N m n
 simp only[rr, tt, arM,arN,List.cons_append,List.nil_append,List.mem_cons,List.not_mem_nil,or_false] at hx
 rcases hx with rfl|rfl|rfl|rfl|rfl|rfl|rfl
 ·exact c1 v hv
 ·exact c2 v hv
 ·exact Qd (Zr _ v hv) 3
 ·exact Qd (Zm zs v hv) 3
 ·exact c3 v hv
 ·exact Qd (QI f m v hv) 3
 ·exact Qd (Zm zs v hv) 3
theorem Zhb (zs:List UInt8) (f:Nat→Bool) (N m n:Nat):∀ x∈arM true zs f N m n++arN true zs f N m,x.2.op≠none→∀ v∈x.2.cells,ZP v=true:=fun x hx hne=>by
 simp only[rr, tt, arM,arN,List.cons_append,List.nil_append,List.mem_cons,List.not_mem_nil,or_false] at hx
 rcases hx with rfl|rfl|rfl|rfl|rfl|rfl|rfl
 ·exact absurd rfl hne
 ·exact absurd rfl hne
 ·exact Zr _
 ·exact Zm zs
 ·exact absurd rfl hne
 ·exact QI f m
 ·exact Zm zs
theorem Zb5 {call:Z1} (hc:Zx Tryz.prog call) {args:List Value} {h:Sy.Heap} {zs:List UInt8} {f:Nat→Bool} {N m n:Nat} {s':Sy.St} (ha:args.all (okV (fun l=>Nat.blt l 65) 3)=true) (hh:OkH (fun l=>Nat.blt l 65) h)
  (hr:call 14 args ⟨65,h,[],0,[],0,True⟩=some (.tuple ⟨[.pointer (some ⟨68,0,none⟩),.pointer (some ⟨71,0,none⟩)]⟩,s')) (hO:s'.O) (hs:YQ 3 (fun l=>Nat.blt l 72) id s'.h (arM true zs f N m n++arN true zs f N m)) (hlo:Wn (fun l=>Nat.blt l 72) id s'.lo (Zl8 N m n)) (hro:∀ x∈h,x.2.rw=false) :
  ConOk Tryz.prog 14 3 (Zlp args h zs f N m n)∧FlatC (Zlp args h zs f N m n):=by
 have hres:okV (fun l=>Nat.blt l 72) 3 (.tuple ⟨[.pointer (some ⟨68,0,none⟩),.pointer (some ⟨71,0,none⟩)]⟩)=true:=rfl
 have hk:=Zb3 Zha true zs f N m n (l:=[]) trivial
 rw[List.append_nil] at hk
 refine⟨ZZ hc ⟨by show 64≤65; omega,by show 65≤72; omega,hh,rfl,rfl,rfl,ha,hres,Zjb (ltZ 72) zs f N m n⟩ hr hO (p:=fun l=>Nat.blt l 72) (σ:=id) ?_,⟨Zhb zs f N m n⟩⟩
 exact⟨fun _ _=>rfl,hs,rfl,hlo,⟨hres,by rw[XY]; rfl⟩,rfl,hk,rfl,Qa 3 _ rfl,fun x hx hrw => .inl rfl⟩
theorem Zjc (k:Nat) (l:List Pt) (hk:Zb4 k l.length) (hok:∀ x∈l,x.Ok):ConOk Tryz.prog 14 3 (Zlp [sl1 k 64 l.length] (WP k 64 (Z6 l)) (Z2 l (Z7 l)).1 (Z2 l (Z7 l)).2 4096 256 4)∧FlatC (Zlp [sl1 k 64 l.length] (WP k 64 (Z6 l)) (Z2 l (Z7 l)).1 (Z2 l (Z7 l)).2 4096 256 4):=by
 have hb:∀ x∈mmL (List.replicate 4096 0) (fun _=>false) 4096 256 4,ConOk Tryz.prog x.2.1 3 x.2.2.1∧FlatC x.2.2.1:=fun x hx=>by
  simp only[rr, tt, mmL,List.mem_cons,List.not_mem_nil,or_false] at hx
  rcases hx with rfl|rfl
  ·exact Zln
  ·exact Zlo
 have hseen:=fun(zs:List UInt8) (f:Nat→Bool) {h1:Sy.Heap} (h68:Sy.look h1 68=_) (h67:Sy.look h1 67=_) (h66:Sy.look h1 66=_) (h65:Sy.look h1 65=_) (h71:Sy.look h1 71=_) (h70:Sy.look h1 70=_) (h69:Sy.look h1 69=_)=>Jb (h1:=h1) (l:=[]) (ltZ 72) zs f 4096 256 4 h68 h67 h66 h65 h71 h70 h69 rfl rfl rfl rfl trivial
 simp only[rr, tt, List.append_nil] at hseen
 obtain⟨hk2,hk0⟩:=hk
 by_cases h2:k=2
 ·subst h2
  have hr:=mm_a l (List.replicate 4096 0) (fun _=>false) (Z2 l (Z7 l)).1 (Z2 l (Z7 l)).2 4096 256 4 ⟨hok,rfl,rfl,rfl,rfl,rfl,rfl,rfl⟩
  refine Zb5 (Zt (L:=100) Zg (Zs (Zj hb) (Zf _)) (Vi _) 20) rfl ⟨⟨rfl,rfl,Qf (YM l)⟩,trivial⟩ hr ?_ (hseen _ _ rfl rfl rfl rfl rfl rfl rfl) ⟨⟨rfl,Nat.le_refl _⟩,⟨rfl,Nat.le_refl _⟩,⟨rfl,Nat.le_refl _⟩,⟨rfl,Nat.le_refl _⟩,trivial⟩ (fun x hx=>by obtain rfl:=List.mem_singleton.1 hx; rfl)
  simp only[rr, tt, and_true,true_and,and_self,Nat.le_refl]
 ·have hl:l=[]:=List.length_eq_zero_iff.1 (hk0 (by omega))
  subst hl
  have h01:k=0∨k=1:=by omega
  rcases h01 with rfl|rfl
  ·have hr:=mm_0 (List.replicate 4096 0) (fun _=>false) 4096 256 4
   refine Zb5 (Zt (L:=100) Zg (Zs (Zj hb) (Zf _)) (Ze _) 20) rfl trivial hr ?_ (hseen _ _ rfl rfl rfl rfl rfl rfl rfl) ⟨⟨rfl,Nat.le_refl _⟩,⟨rfl,Nat.le_refl _⟩,⟨rfl,Nat.le_refl _⟩,⟨rfl,Nat.le_refl _⟩,trivial⟩ (fun x hx=>by cases hx)
   simp only[rr, tt, and_true,true_and,and_self,Nat.le_refl]
  ·have hr:=mm_1 (List.replicate 4096 0) (fun _=>false) 4096 256 4
   refine Zb5 (Zt (L:=100) Zg (Zs (Zj hb) (Zf _)) (Ze _) 20) rfl trivial hr ?_ (hseen _ _ rfl rfl rfl rfl rfl rfl rfl) ⟨⟨rfl,Nat.le_refl _⟩,⟨rfl,Nat.le_refl _⟩,⟨rfl,Nat.le_refl _⟩,⟨rfl,Nat.le_refl _⟩,trivial⟩ (fun x hx=>by cases hx)
   simp only[rr, tt, and_true,true_and,and_self,Nat.le_refl]
def tdE (a k:Nat):List (Nat×Value):=[(0,.pointer (some ⟨67,0,none⟩)),(3,.int .i64 (a:Nat)),(4,.int .i64 (k:Nat))]
def tdI (zs:List UInt8) (f:Nat→Bool) (N m n a k:Nat):Sf:=⟨68,tdE a k,arW false zs f N m n,arO N n⟩
def tdF (a:Nat):Sf:=⟨68,[(3,.int .i64 (a:Nat))],[],[]⟩
theorem td_n (zs:List UInt8) (f:Nat→Bool) (N:Nat) (m:Nat) (n:Nat) (a:Nat) (k:Nat):Option.map (ZfE 19 [0,3,4] [64,65,66,67]) (evC Tryz.prog (evF Tryz.prog (Zz 3 (Zd [(68,47,Zmp k zs f N m n,[64,65,66,67])]) Zk) Zh 100 20) (Zh 18) 19 100 (QC Tryz.prog 18 0) (Sf.frT 19 (tdI zs f N m n a k) [(7,true)]))=some (Exit.normal,{ e:=mkE 19 [(0,.pointer (some ⟨67,0,none⟩)),(3,.int .i64 (i64.wrap ((↑a:Int)+(0:Int)))),(4,.int .i64 (i64.wrap ((↑k:Int)+(1:Int))))],s:={ n:=68,h:=[(67,⟨false,none,[Value.pointer (some ⟨66,0,none⟩),.slice (some ⟨64,0,none⟩) N 9223372036854775872],none⟩),(66,⟨false,none,[Value.int .i64 (↑m),.slice (some ⟨65,0,none⟩) n 9223372036854775873],none⟩),(65,⟨false,some (65,1),v64 (Za f n),none⟩),(64,⟨false,some (64,1),u8s zs,none⟩)],lo:=[(65,n),(64,N)],esc:=0,T:=[],k:=0,O:=(True∧decide ((↑k:Int)<i64.wrap ((↑N:Int).tdiv (256:Int)))=true)∧True∧(rr (Value.pointer (some ⟨67,0,none⟩))∧rr (Value.int .i64 (↑k))∧True)∧((tt∧tt∧tt∧tt∧tt∧True∧rr [Value.pointer (some ⟨66,0,none⟩),.slice (some ⟨64,0,none⟩) N 9223372036854775872])∧(tt∧tt∧tt∧tt∧tt∧True∧rr [Value.int .i64 (↑m),.slice (some ⟨65,0,none⟩) n 9223372036854775873])∧(tt∧(v64 (Za f n)).all (okV (fun l=>l.blt 68) 3)=true∧tt∧tt∧tt∧True∧v64 (Za f n)=List.map (rnV (lift 68 68 [64,65,66,67]) 3) (v64 (Za f n)))∧(tt∧(u8s zs).all (okV (fun l=>l.blt 68) 3)=true∧tt∧tt∧tt∧True∧u8s zs=List.map (rnV (lift 68 68 [64,65,66,67]) 3) (u8s zs))∧True)∧(tt∧n≤n)∧(tt∧N≤N)∧True:St }:Fr }):=by kernel_rfl
theorem td_y (zs:List UInt8) (f:Nat→Bool) (N:Nat) (m:Nat) (n:Nat) (a:Nat) (k:Nat) (tl:List Nat):Option.map (ZfE 19 [0,3,4] [64,65,66,67]) (evC Tryz.prog (evF Tryz.prog (Zz 3 (Zd [(68,47,tgYC k zs f N m n tl,[64,65,66,67])]) Zk) Zh 100 20) (Zh 18) 19 100 (QC Tryz.prog 18 0) (Sf.frT 19 (tdI zs f N m n a k) [(7,true)]))=some (Exit.normal,{ e:=mkE 19 [(0,.pointer (some ⟨67,0,none⟩)),(3,.int .i64 (i64.wrap ((↑a:Int)+(↑tl.length:Int)))),(4,.int .i64 (i64.wrap ((↑k:Int)+(1:Int))))],s:={ n:=69,h:=[(67,⟨false,none,[Value.pointer (some ⟨66,0,none⟩),.slice (some ⟨64,0,none⟩) N 9223372036854775872],none⟩),(66,⟨false,none,[Value.int .i64 (↑m),.slice (some ⟨65,0,none⟩) n 9223372036854775873],none⟩),(65,⟨false,some (65,1),v64 (Za f n),none⟩),(64,⟨false,some (64,1),u8s zs,none⟩)],lo:=[(65,n),(64,N)],esc:=0,T:=[],k:=0,O:=(True∧decide ((↑k:Int)<i64.wrap ((↑N:Int).tdiv (256:Int)))=true)∧True∧(rr (Value.pointer (some ⟨67,0,none⟩))∧rr (Value.int .i64 (↑k))∧True)∧((tt∧tt∧tt∧tt∧tt∧True∧rr [Value.pointer (some ⟨66,0,none⟩),.slice (some ⟨64,0,none⟩) N 9223372036854775872])∧(tt∧tt∧tt∧tt∧tt∧True∧rr [Value.int .i64 (↑m),.slice (some ⟨65,0,none⟩) n 9223372036854775873])∧(tt∧(v64 (Za f n)).all (okV (fun l=>l.blt 68) 3)=true∧tt∧tt∧tt∧True∧v64 (Za f n)=List.map (rnV (lift 68 68 [64,65,66,67]) 3) (v64 (Za f n)))∧(tt∧(u8s zs).all (okV (fun l=>l.blt 68) 3)=true∧tt∧tt∧tt∧True∧u8s zs=List.map (rnV (lift 68 68 [64,65,66,67]) 3) (u8s zs))∧True)∧(tt∧n≤n)∧(tt∧N≤N)∧True:St }:Fr }):=by kernel_rfl
theorem td_e (zs:List UInt8) (f:Nat→Bool) (N:Nat) (m:Nat) (n:Nat) (a:Nat) (k:Nat):Option.map (ZfE 19 [3] []) (evC Tryz.prog (evF Tryz.prog Zk Zh 100 20) (Zh 18) 19 100 (QC Tryz.prog 18 0) (Sf.frT 19 (tdI zs f N m n a k) [(7,false)]))=some (Exit.exit 0,{ e:=mkE 19 [(3,.int .i64 (↑a))],s:={ n:=68,h:=[],lo:=[(65,n),(64,N)],esc:=0,T:=[],k:=0,O:=True∧decide ((↑k:Int)<i64.wrap ((↑N:Int).tdiv (256:Int)))=false:St }:Fr }):=by kernel_rfl
def ZS (f:Nat→Bool):Nat→Nat
 | 0=>0
 | k+1=>ZS f k+(tgK f k 16).length
theorem Zam (f:Nat→Bool):∀ k,ZS f k≤16*k
 | 0=>Nat.le_refl _
 | k+1=>by
  have h1:=Zam f k
  have h2:=Zaj f k 16
  show ZS f k+(tgK f k 16).length≤_
  omega
theorem ZhO (f:Nat→Bool) (g:Nat):∀ k,tgK f g k=[]→∀ i,i<k→f (16*g+i)=false
 | 0,_,_,h=>absurd h (Nat.not_lt_zero _)
 | k+1,h,i,hi=>by
  unfold tgK at h
  cases hf:f (16*g+k)
  ·rw[hf] at h
   rcases Nat.lt_or_ge i k with h1|h1
   ·exact ZhO f g k h i h1
   ·rw[show i=k by omega]; exact hf
  ·rw[hf] at h
   have:tgK f g k++[(16*g+k)*16]=[]:=h
   simp at this
theorem ZfK (a:Nat) (q:Nat→Bool):(tdF a).Ok q:=Sf.Ok.mk' 3 trivial rfl (fun x hx=>by obtain rfl:=List.mem_singleton.1 hx; rfl)
theorem Zlq (zs:List UInt8) (f:Nat→Bool) (N m n a k:Nat):(tdI zs f N m n a k).Wf :=
 ⟨by show 64≤68; omega,Sf.Ok.mk' 3 (XL KU false zs f N m n) rfl (fun x hx=>by
  simp only[rr, tt, tdI,tdE,List.mem_cons,List.not_mem_nil,or_false] at hx
  rcases hx with rfl|rfl|rfl<;>rfl)⟩
theorem Zjd (zs:List UInt8) (f:Nat→Bool) (N m n:Nat) (h:ArOk zs N m n) (P:Nat) (hP:N=P*256) :
  ∀ k:{ k:Nat // k≤P },XX Tryz.prog 19 (QC Tryz.prog 18 0) ((tdI zs f N m n (ZS f k.1) k.1).fr 19) (.exit 0) ((tdF (ZS f P)).fr 19):=by
 have hh:=h
 obtain⟨hl,h1,h2,h3,h4⟩:=h
 refine ZcW (L:=100) (Xy _ _ 18) (fun _ h=>h) (X:={ k:Nat // k≤P }) (fun k=>tdI zs f N m n (ZS f k.1) k.1) (fun _=>tdF (ZS f P)) (fun _ => .exit 0) (fun k=>P-k.1) (fun k=>Zlq _ _ _ _ _ _ _) ?_
 rintro⟨k,hk⟩
 have v1:∀ (σ:Nat→Nat),(v64 (Za f n)).map (rnV σ 3)=v64 (Za f n):=fun σ=>Zp (Zr _)
 have v2:∀ (p:Nat→Bool),(v64 (Za f n)).all (okV p 3)=true:=fun p=>Zn (Zr _)
 have u1:∀ (zs:List UInt8) (p:Nat→Bool),(u8s zs).all (okV p 3)=true:=fun zs p=>Zn (Zm _)
 have u2:∀ (zs:List UInt8) (σ:Nat→Nat),(u8s zs).map (rnV σ 3)=u8s zs:=fun zs σ=>Zp (Zm _)
 have eN:i64.wrap ((N:Int).tdiv (256:Int))=(P:Int):=by
  rw[show(N:Int).tdiv (256:Int)=((N/256:Nat):Int) from(Int.ofNat_tdiv N 256).symm,Ye _ (by omega),hP,Nat.mul_div_cancel _ (by omega)]
 have hro:∀ y∈arW false zs f N m n,id y.1=y.1:=fun _ _=>rfl
 by_cases hlt:k<P
 ·have d1:decide ((k:Int)<(P:Int))=true:=decide_eq_true (by omega)
  have hc:=Zam f k
  have hl16:=Zaj f k 16
  have e2:i64.wrap (((ZS f k:Nat):Int)+((tgK f k 16).length:Nat))=((ZS f (k+1):Nat):Int):=by
   rw[VI,Ye _ (by omega)]; rfl
  have e3:i64.wrap ((k:Int)+(1:Int))=((k+1:Nat):Int):=Yj k (by omega)
  by_cases hL:tgK f k 16=[]
  ·have hr:=td_n zs f N m n (ZS f k) k
   have e2':i64.wrap (((ZS f k:Nat):Int)+(0:Int))=((ZS f (k+1):Nat):Int):=by
    rw[hL] at e2; exact e2
   simp only[rr, tt, e2',e3] at hr
   refine⟨_,_,_,_,.normal,_,3,fun l=>Nat.blt l 68,id,Zt (L:=100) Zg (Zs (Zj fun x hx=>by
    obtain rfl:=List.mem_singleton.1 hx
    exact ZiA k zs f N m n hh (by omega) (ZhO f k 16 hL)) (Zf _)) (Ze _) 20,hr,?_,.inl ⟨rfl,⟨k+1,by omega⟩,by show P-(k+1)<P-k; omega,rfl,rfl,rfl,?_⟩⟩
   ·simp only[rr, tt, eN,d1,v1,v2,u1,u2,and_true,true_and,and_self,Nat.le_refl]
   ·exact⟨fun _ _=>rfl,Wt KU (fun _ _=>rfl) zs f N m n rfl rfl rfl rfl,rfl,⟨⟨rfl,Nat.le_refl _⟩,⟨rfl,Nat.le_refl _⟩,trivial⟩,by repeat' (first|exact trivial|refine⟨⟨by kernel_rfl,by kernel_rfl⟩,?_⟩),Nat.le_refl _,fun l hl=>QZ hl,ZfK _ _,fun x _ _ => .inl rfl⟩
  ·have hr:=td_y zs f N m n (ZS f k) k (tgK f k 16)
   simp only[rr, tt, e2,e3] at hr
   refine⟨_,_,_,_,.normal,_,3,fun l=>Nat.blt l 68,id,Zt (L:=100) Zg (Zs (Zj fun x hx=>by
    obtain rfl:=List.mem_singleton.1 hx
    exact⟨Zi1 k zs f N m n _ hh (by omega) rfl hL,⟨fun x hx _=>by obtain rfl:=List.mem_singleton.1 hx; exact QE _⟩⟩) (Zf _)) (Ze _) 20,hr,?_,.inl ⟨rfl,⟨k+1,by omega⟩,by show P-(k+1)<P-k; omega,rfl,rfl,rfl,?_⟩⟩
   ·simp only[rr, tt, eN,d1,v1,v2,u1,u2,and_true,true_and,and_self,Nat.le_refl]
   ·exact⟨fun _ _=>rfl,Wt KU (fun _ _=>rfl) zs f N m n rfl rfl rfl rfl,rfl,⟨⟨rfl,Nat.le_refl _⟩,⟨rfl,Nat.le_refl _⟩,trivial⟩,by repeat' (first|exact trivial|refine⟨⟨by kernel_rfl,by kernel_rfl⟩,?_⟩),Nat.le_refl _,fun l hl=>QZ hl,ZfK _ _,fun x _ _ => .inl rfl⟩
 ·have hkk:k=P:=by omega
  subst hkk
  have d1:decide ((k:Int)<(k:Int))=false:=decide_eq_false (by omega)
  have hr:=td_e zs f N m n (ZS f k) k
  refine⟨_,_,_,_,.exit 0,_,3,fun l=>Nat.blt l 68,id,Zt (L:=100) Zg (Zf _) (Ze _) 20,hr,?_,.inr ⟨by simp,rfl,rfl,?_⟩⟩
  ·simp only[rr, tt, eN,d1,and_self]
  ·exact⟨fun _ _=>rfl,trivial,rfl,trivial,by repeat' (first|exact trivial|refine⟨⟨by kernel_rfl,by kernel_rfl⟩,?_⟩),Nat.le_refl _,fun l hl=>QZ hl,ZfK _ _,fun x _ _ => .inl rfl⟩
def ZnM (zs:List UInt8) (f:Nat→Bool) (N m n P v:Nat) (h:ArOk zs N m n∧N=P*256∧v=ZS f P):Ent Tryz.prog :=
 ZjF Tryz.prog 18 0 19 (tdI zs f N m n 0 0) (.exit 0) (tdF v) (by kernel_rfl) (by kernel_rfl) (by
  obtain⟨h1,h2,rfl⟩:=h
  exact Zjd zs f N m n h1 P h2 ⟨0,Nat.zero_le _⟩)
theorem td_a (zs:List UInt8) (f:Nat→Bool) (N m n P v:Nat) (h:ArOk zs N m n∧N=P*256∧v=ZS f P):obs (evF Tryz.prog Zk (ZaW [ZnM zs f N m n P v h]) 100 20 18 [Value.pointer (some ⟨67,0,none⟩)] ⟨68,arW false zs f N m n,arO N n,0,[],0,True⟩)=some (Value.int .i64 (↑v),True∧(rr (Value.pointer (some ⟨67,0,none⟩))∧rr (Value.int .i64 0)∧rr (Value.int .i64 0)∧True)∧((tt∧tt∧True∧rr [Value.pointer (some ⟨66,0,none⟩),.slice (some ⟨64,0,none⟩) N 9223372036854775872])∧(tt∧tt∧True∧rr [Value.int .i64 (↑m),.slice (some ⟨65,0,none⟩) n 9223372036854775873])∧(tt∧tt∧True∧rr (v64 (Za f n)))∧(tt∧tt∧True∧rr (u8s zs))∧True)∧(n≤n∧N≤N∧True)∧True):=by kernel_rfl
def tdC (v:Nat) (zs:List UInt8) (f:Nat→Bool) (N m n:Nat):Con:=ZdC [.pointer (some ⟨67,0,none⟩)] (.int .i64 (v:Nat)) zs f N m n
theorem ZhP (zs:List UInt8) (f:Nat→Bool) (N m n P:Nat) (h:ArOk zs N m n) (hP:N=P*256):ConOk Tryz.prog 18 3 (tdC (ZS f P) zs f N m n)∧FlatC (tdC (ZS f P) zs f N m n):=by
 have hr:=td_a zs f N m n P (ZS f P) ⟨h,hP,rfl⟩
 refine Yx (Zt (L:=100) Zg (Zf _) (Vi _) 20) rfl rfl rfl hr ?_
 simp only[rr, tt, and_true,true_and,and_self,Nat.le_refl]
def Zat (rc:List Value) (args:List Value) (fr':Nat→Cp) (t:Nat) (zs:List UInt8) (f:Nat→Bool) (N m n:Nat):Con:=⟨args,68,arW false zs f N m n++ZF rc,arO N n,.tuple ⟨[Q8 fr',.int .i64 (t:Nat)]⟩,68,[],[]⟩
def Zhc (rc:List Value) (args:List Value) (fr':Nat→Cp) (zs zs':List UInt8) (f f':Nat→Bool) (N m n:Nat):Con:=⟨args,68,arW true zs f N m n++ZF rc,arO N n,.tuple ⟨[Q8 fr',.int .i64 0]⟩,68,arW true zs' f' N m n,arO N n⟩
def Zl9 (s zs:List UInt8) (f:Nat→Bool) (N m n:Nat):Con:=ZdC [.pointer (some ⟨67,0,none⟩),.int .u32 0,.int .i64 (N:Nat)] (.tuple ⟨[.string ⟨⟨s⟩⟩,.bool true]⟩) zs f N m n
def cdL (k:Nat) (l:List Pt) (rc:List Value) (dc:Con) (c1 c2:Nat) (s s2 zs zs2:List UInt8) (f f2:Nat→Bool) (N m n:Nat):Sy.Steps :=
 [(67,14,Zlp [sl1 k 64 l.length] (WP k 64 (Z6 l)) zs f N m n,[64]),(74,10,gwC [] rc (.bool true),[]),(74,18,tdC c1 zs f N m n,[67,68,69,70]),(74,19,Zl9 s zs f N m n,[67,68,69,70]),
   (74,13,dc,[67,68,69,70]),(75,19,Zl9 s2 zs2 f2 N m n,[67,68,69,70]),(75,18,tdC c2 zs2 f2 N m n,[67,68,69,70])]
theorem Zlr (i:In) (fr fr':Nat→Cp) (l:List Pt) (rc:List Value) (c1 c2:Nat) (s s2 zs zs2:List UInt8) (f f2:Nat→Bool) (N m n t:Nat):obs (evF Tryz.prog (Zz 3 (Zd (cdL 0 l rc (Zat rc (mvA fr i) frN t zs f N m n) c1 c2 s s2 zs zs2 f f2 N m n)) Zk) Zh 100 20 5 [Q8 fr,i.val,sl1 0 64 l.length] ⟨65,WP 0 64 (Z6 l)++ZF rc,[],0,(tb 44 11269927075840),0,True⟩)=some (Value.bool true,((((((((((((((((((((((((((((((((((((((((((((((((((True∧True∧(rr (Value.slice none 0 0)∧True)∧True∧True)∧rr false)∧True∧True∧((tt∧rc.all (okV (fun l=>l.blt 64) 3)=true∧tt∧tt∧tt∧True∧rc=List.map (rnV (lift 64 74 []) 3) rc)∧True)∧True)∧rr false)∧rr false)∧rr false)∧True∧(rr (Value.pointer (some ⟨70,0,none⟩))∧True)∧((tt∧tt∧tt∧tt∧tt∧True∧rr [Value.pointer (some ⟨69,0,none⟩),.slice (some ⟨67,0,none⟩) N 9223372036854775875])∧(tt∧tt∧tt∧tt∧tt∧True∧rr [Value.int .i64 (↑m),.slice (some ⟨68,0,none⟩) n 9223372036854775876])∧(tt∧(v64 (Za f n)).all (okV (fun l=>l.blt 68) 3)=true∧tt∧tt∧tt∧True∧v64 (Za f n)=List.map (rnV (lift 68 74 [67,68,69,70]) 3) (v64 (Za f n)))∧(tt∧(u8s zs).all (okV (fun l=>l.blt 68) 3)=true∧tt∧tt∧tt∧True∧u8s zs=List.map (rnV (lift 68 74 [67,68,69,70]) 3) (u8s zs))∧True)∧(tt∧n≤n)∧(tt∧N≤N)∧True)∧rr false)∧rr false)∧rr false)∧rr false)∧rr false)∧rr false)∧rr false)∧True∧(rr (Value.pointer (some ⟨70,0,none⟩))∧rr (Value.int .u32 0)∧rr (Value.int .i64 (↑N))∧True)∧((tt∧tt∧tt∧tt∧tt∧True∧rr [Value.pointer (some ⟨69,0,none⟩),.slice (some ⟨67,0,none⟩) N 9223372036854775875])∧(tt∧tt∧tt∧tt∧tt∧True∧rr [Value.int .i64 (↑m),.slice (some ⟨68,0,none⟩) n 9223372036854775876])∧(tt∧(v64 (Za f n)).all (okV (fun l=>l.blt 68) 3)=true∧tt∧tt∧tt∧True∧v64 (Za f n)=List.map (rnV (lift 68 74 [67,68,69,70]) 3) (v64 (Za f n)))∧(tt∧(u8s zs).all (okV (fun l=>l.blt 68) 3)=true∧tt∧tt∧tt∧True∧u8s zs=List.map (rnV (lift 68 74 [67,68,69,70]) 3) (u8s zs))∧True)∧(tt∧n≤n)∧(tt∧N≤N)∧True)∧True∧(rr (Value.agg { toList:=(frL fr) })∧rr (Value.agg ⟨[.int .i64 i.op,.int .i64 i.a,.int .i64 i.b,.int .i64 i.c,.int .i64 i.m]⟩)∧rr (Value.pointer (some ⟨70,0,none⟩))∧True)∧((tt∧tt∧tt∧tt∧tt∧True∧rr [Value.pointer (some ⟨69,0,none⟩),.slice (some ⟨67,0,none⟩) N 9223372036854775875])∧(tt∧tt∧tt∧tt∧tt∧True∧rr [Value.int .i64 (↑m),.slice (some ⟨68,0,none⟩) n 9223372036854775876])∧(tt∧(v64 (Za f n)).all (okV (fun l=>l.blt 68) 3)=true∧tt∧tt∧tt∧True∧v64 (Za f n)=List.map (rnV (lift 68 74 [67,68,69,70]) 3) (v64 (Za f n)))∧(tt∧(u8s zs).all (okV (fun l=>l.blt 68) 3)=true∧tt∧tt∧tt∧True∧u8s zs=List.map (rnV (lift 68 74 [67,68,69,70]) 3) (u8s zs))∧(tt∧rc.all (okV (fun l=>l.blt 68) 3)=true∧tt∧tt∧tt∧True∧rc=List.map (rnV (lift 68 74 [67,68,69,70]) 3) rc)∧True)∧(tt∧n≤n)∧(tt∧N≤N)∧True)∧rr false)∧rr false)∧rr false)∧rr false)∧rr false)∧rr false)∧rr false)∧True∧(rr (Value.pointer (some ⟨70,0,none⟩))∧rr (Value.int .u32 0)∧rr (Value.int .i64 (↑N))∧True)∧((tt∧tt∧tt∧tt∧tt∧True∧rr [Value.pointer (some ⟨69,0,none⟩),.slice (some ⟨67,0,none⟩) N 9223372036854775875])∧(tt∧tt∧tt∧tt∧tt∧True∧rr [Value.int .i64 (↑m),.slice (some ⟨68,0,none⟩) n 9223372036854775876])∧(tt∧(v64 (Za f2 n)).all (okV (fun l=>l.blt 68) 3)=true∧tt∧tt∧tt∧True∧v64 (Za f n)=List.map (rnV (lift 68 75 [67,68,69,70]) 3) (v64 (Za f2 n)))∧(tt∧(u8s zs2).all (okV (fun l=>l.blt 68) 3)=true∧tt∧tt∧tt∧True∧u8s zs=List.map (rnV (lift 68 75 [67,68,69,70]) 3) (u8s zs2))∧True)∧(tt∧n≤n)∧(tt∧N≤N)∧True)∧decide (i.op≥(20:Int))=false)∧decide (i.op≥(20:Int))=false)∧decide (i.op≥(20:Int))=false)∧decide (i.op≥(20:Int))=false)∧rr false)∧rr false)∧rr false)∧rr false)∧((↑t:Int) !=(0:Int))=true)∧((↑t:Int) !=(0:Int))=true)∧((↑t:Int) !=(0:Int))=true)∧tt)∧Zl s s2=true)∧Zl s s2=true)∧True∧(rr (Value.pointer (some ⟨70,0,none⟩))∧True)∧((tt∧tt∧tt∧tt∧tt∧True∧rr [Value.pointer (some ⟨69,0,none⟩),.slice (some ⟨67,0,none⟩) N 9223372036854775875])∧(tt∧tt∧tt∧tt∧tt∧True∧rr [Value.int .i64 (↑m),.slice (some ⟨68,0,none⟩) n 9223372036854775876])∧(tt∧(v64 (Za f2 n)).all (okV (fun l=>l.blt 68) 3)=true∧tt∧tt∧tt∧True∧v64 (Za f n)=List.map (rnV (lift 68 75 [67,68,69,70]) 3) (v64 (Za f2 n)))∧(tt∧(u8s zs2).all (okV (fun l=>l.blt 68) 3)=true∧tt∧tt∧tt∧True∧u8s zs=List.map (rnV (lift 68 75 [67,68,69,70]) 3) (u8s zs2))∧True)∧(tt∧n≤n)∧(tt∧N≤N)∧True)∧Zl s s2=true)∧Zl s s2=true)∧Zl s s2=true)∧((↑c2:Int)==(↑c1:Int))=true)∧((↑c2:Int)==(↑c1:Int))=true)∧((↑c2:Int)==(↑c1:Int))=true)∧((↑t:Int)==(0:Int))=false)∧((↑t:Int)==(0:Int))=false)∧((↑t:Int)==(0:Int))=false)∧((↑c2:Int)==(↑c1:Int))=true)∧((↑t:Int)==(0:Int))=false)∧((↑c2:Int)==(↑c1:Int))=true):=by kernel_rfl
theorem Zls (i:In) (fr fr':Nat→Cp) (l:List Pt) (rc:List Value) (c1 c2:Nat) (s s2 zs zs2:List UInt8) (f f2:Nat→Bool) (N m n t:Nat):obs (evF Tryz.prog (Zz 3 (Zd (cdL 0 l rc (Zat rc (mvA fr i) frN t zs f N m n) c1 c2 s s2 zs zs2 f f2 N m n)) Zk) Zh 100 20 5 [Q8 fr,i.val,sl1 0 64 l.length] ⟨65,WP 0 64 (Z6 l)++ZF rc,[],0,(tb 44 11269993922560),0,True⟩)=some (Value.bool true,((((((((((((((((((((((((((((((((((((((((((((((((((True∧True∧(rr (Value.slice none 0 0)∧True)∧True∧True)∧rr false)∧True∧True∧((tt∧rc.all (okV (fun l=>l.blt 64) 3)=true∧tt∧tt∧tt∧True∧rc=List.map (rnV (lift 64 74 []) 3) rc)∧True)∧True)∧rr false)∧rr false)∧rr false)∧True∧(rr (Value.pointer (some ⟨70,0,none⟩))∧True)∧((tt∧tt∧tt∧tt∧tt∧True∧rr [Value.pointer (some ⟨69,0,none⟩),.slice (some ⟨67,0,none⟩) N 9223372036854775875])∧(tt∧tt∧tt∧tt∧tt∧True∧rr [Value.int .i64 (↑m),.slice (some ⟨68,0,none⟩) n 9223372036854775876])∧(tt∧(v64 (Za f n)).all (okV (fun l=>l.blt 68) 3)=true∧tt∧tt∧tt∧True∧v64 (Za f n)=List.map (rnV (lift 68 74 [67,68,69,70]) 3) (v64 (Za f n)))∧(tt∧(u8s zs).all (okV (fun l=>l.blt 68) 3)=true∧tt∧tt∧tt∧True∧u8s zs=List.map (rnV (lift 68 74 [67,68,69,70]) 3) (u8s zs))∧True)∧(tt∧n≤n)∧(tt∧N≤N)∧True)∧rr false)∧rr false)∧rr false)∧rr false)∧rr false)∧rr false)∧rr false)∧True∧(rr (Value.pointer (some ⟨70,0,none⟩))∧rr (Value.int .u32 0)∧rr (Value.int .i64 (↑N))∧True)∧((tt∧tt∧tt∧tt∧tt∧True∧rr [Value.pointer (some ⟨69,0,none⟩),.slice (some ⟨67,0,none⟩) N 9223372036854775875])∧(tt∧tt∧tt∧tt∧tt∧True∧rr [Value.int .i64 (↑m),.slice (some ⟨68,0,none⟩) n 9223372036854775876])∧(tt∧(v64 (Za f n)).all (okV (fun l=>l.blt 68) 3)=true∧tt∧tt∧tt∧True∧v64 (Za f n)=List.map (rnV (lift 68 74 [67,68,69,70]) 3) (v64 (Za f n)))∧(tt∧(u8s zs).all (okV (fun l=>l.blt 68) 3)=true∧tt∧tt∧tt∧True∧u8s zs=List.map (rnV (lift 68 74 [67,68,69,70]) 3) (u8s zs))∧True)∧(tt∧n≤n)∧(tt∧N≤N)∧True)∧True∧(rr (Value.agg { toList:=(frL fr) })∧rr (Value.agg ⟨[.int .i64 i.op,.int .i64 i.a,.int .i64 i.b,.int .i64 i.c,.int .i64 i.m]⟩)∧rr (Value.pointer (some ⟨70,0,none⟩))∧True)∧((tt∧tt∧tt∧tt∧tt∧True∧rr [Value.pointer (some ⟨69,0,none⟩),.slice (some ⟨67,0,none⟩) N 9223372036854775875])∧(tt∧tt∧tt∧tt∧tt∧True∧rr [Value.int .i64 (↑m),.slice (some ⟨68,0,none⟩) n 9223372036854775876])∧(tt∧(v64 (Za f n)).all (okV (fun l=>l.blt 68) 3)=true∧tt∧tt∧tt∧True∧v64 (Za f n)=List.map (rnV (lift 68 74 [67,68,69,70]) 3) (v64 (Za f n)))∧(tt∧(u8s zs).all (okV (fun l=>l.blt 68) 3)=true∧tt∧tt∧tt∧True∧u8s zs=List.map (rnV (lift 68 74 [67,68,69,70]) 3) (u8s zs))∧(tt∧rc.all (okV (fun l=>l.blt 68) 3)=true∧tt∧tt∧tt∧True∧rc=List.map (rnV (lift 68 74 [67,68,69,70]) 3) rc)∧True)∧(tt∧n≤n)∧(tt∧N≤N)∧True)∧rr false)∧rr false)∧rr false)∧rr false)∧rr false)∧rr false)∧rr false)∧True∧(rr (Value.pointer (some ⟨70,0,none⟩))∧rr (Value.int .u32 0)∧rr (Value.int .i64 (↑N))∧True)∧((tt∧tt∧tt∧tt∧tt∧True∧rr [Value.pointer (some ⟨69,0,none⟩),.slice (some ⟨67,0,none⟩) N 9223372036854775875])∧(tt∧tt∧tt∧tt∧tt∧True∧rr [Value.int .i64 (↑m),.slice (some ⟨68,0,none⟩) n 9223372036854775876])∧(tt∧(v64 (Za f2 n)).all (okV (fun l=>l.blt 68) 3)=true∧tt∧tt∧tt∧True∧v64 (Za f n)=List.map (rnV (lift 68 75 [67,68,69,70]) 3) (v64 (Za f2 n)))∧(tt∧(u8s zs2).all (okV (fun l=>l.blt 68) 3)=true∧tt∧tt∧tt∧True∧u8s zs=List.map (rnV (lift 68 75 [67,68,69,70]) 3) (u8s zs2))∧True)∧(tt∧n≤n)∧(tt∧N≤N)∧True)∧decide (i.op≥(20:Int))=true)∧decide (i.op≥(20:Int))=true)∧decide (i.op≥(20:Int))=true)∧decide (i.op≥(20:Int))=true)∧decide (i.op≤(22:Int))=true)∧decide (i.op≤(22:Int))=true)∧decide (i.op≤(22:Int))=true)∧decide (i.op≤(22:Int))=true)∧((↑t:Int) !=(0:Int))=true)∧((↑t:Int) !=(0:Int))=true)∧((↑t:Int) !=(0:Int))=true)∧tt)∧Zl s s2=true)∧Zl s s2=true)∧True∧(rr (Value.pointer (some ⟨70,0,none⟩))∧True)∧((tt∧tt∧tt∧tt∧tt∧True∧rr [Value.pointer (some ⟨69,0,none⟩),.slice (some ⟨67,0,none⟩) N 9223372036854775875])∧(tt∧tt∧tt∧tt∧tt∧True∧rr [Value.int .i64 (↑m),.slice (some ⟨68,0,none⟩) n 9223372036854775876])∧(tt∧(v64 (Za f2 n)).all (okV (fun l=>l.blt 68) 3)=true∧tt∧tt∧tt∧True∧v64 (Za f n)=List.map (rnV (lift 68 75 [67,68,69,70]) 3) (v64 (Za f2 n)))∧(tt∧(u8s zs2).all (okV (fun l=>l.blt 68) 3)=true∧tt∧tt∧tt∧True∧u8s zs=List.map (rnV (lift 68 75 [67,68,69,70]) 3) (u8s zs2))∧True)∧(tt∧n≤n)∧(tt∧N≤N)∧True)∧Zl s s2=true)∧Zl s s2=true)∧Zl s s2=true)∧((↑c2:Int)==(↑c1:Int))=true)∧((↑c2:Int)==(↑c1:Int))=true)∧((↑c2:Int)==(↑c1:Int))=true)∧((↑t:Int)==(0:Int))=false)∧((↑t:Int)==(0:Int))=false)∧((↑t:Int)==(0:Int))=false)∧((↑c2:Int)==(↑c1:Int))=true)∧((↑t:Int)==(0:Int))=false)∧((↑c2:Int)==(↑c1:Int))=true):=by kernel_rfl
theorem Zlt (i:In) (fr fr':Nat→Cp) (l:List Pt) (rc:List Value) (c1 c2:Nat) (s s2 zs zs2:List UInt8) (f f2:Nat→Bool) (N m n t:Nat):obs (evF Tryz.prog (Zz 3 (Zd (cdL 0 l rc (Zat rc (mvA fr i) frN t zs f N m n) c1 c2 s s2 zs zs2 f f2 N m n)) Zk) Zh 100 20 5 [Q8 fr,i.val,sl1 0 64 l.length] ⟨65,WP 0 64 (Z6 l)++ZF rc,[],0,(tb 44 11269931008000),0,True⟩)=some (Value.bool true,((((((((((((((((((((((((((((((((((((((((((((((((((True∧True∧(rr (Value.slice none 0 0)∧True)∧True∧True)∧rr false)∧True∧True∧((tt∧rc.all (okV (fun l=>l.blt 64) 3)=true∧tt∧tt∧tt∧True∧rc=List.map (rnV (lift 64 74 []) 3) rc)∧True)∧True)∧rr false)∧rr false)∧rr false)∧True∧(rr (Value.pointer (some ⟨70,0,none⟩))∧True)∧((tt∧tt∧tt∧tt∧tt∧True∧rr [Value.pointer (some ⟨69,0,none⟩),.slice (some ⟨67,0,none⟩) N 9223372036854775875])∧(tt∧tt∧tt∧tt∧tt∧True∧rr [Value.int .i64 (↑m),.slice (some ⟨68,0,none⟩) n 9223372036854775876])∧(tt∧(v64 (Za f n)).all (okV (fun l=>l.blt 68) 3)=true∧tt∧tt∧tt∧True∧v64 (Za f n)=List.map (rnV (lift 68 74 [67,68,69,70]) 3) (v64 (Za f n)))∧(tt∧(u8s zs).all (okV (fun l=>l.blt 68) 3)=true∧tt∧tt∧tt∧True∧u8s zs=List.map (rnV (lift 68 74 [67,68,69,70]) 3) (u8s zs))∧True)∧(tt∧n≤n)∧(tt∧N≤N)∧True)∧rr false)∧rr false)∧rr false)∧rr false)∧rr false)∧rr false)∧rr false)∧True∧(rr (Value.pointer (some ⟨70,0,none⟩))∧rr (Value.int .u32 0)∧rr (Value.int .i64 (↑N))∧True)∧((tt∧tt∧tt∧tt∧tt∧True∧rr [Value.pointer (some ⟨69,0,none⟩),.slice (some ⟨67,0,none⟩) N 9223372036854775875])∧(tt∧tt∧tt∧tt∧tt∧True∧rr [Value.int .i64 (↑m),.slice (some ⟨68,0,none⟩) n 9223372036854775876])∧(tt∧(v64 (Za f n)).all (okV (fun l=>l.blt 68) 3)=true∧tt∧tt∧tt∧True∧v64 (Za f n)=List.map (rnV (lift 68 74 [67,68,69,70]) 3) (v64 (Za f n)))∧(tt∧(u8s zs).all (okV (fun l=>l.blt 68) 3)=true∧tt∧tt∧tt∧True∧u8s zs=List.map (rnV (lift 68 74 [67,68,69,70]) 3) (u8s zs))∧True)∧(tt∧n≤n)∧(tt∧N≤N)∧True)∧True∧(rr (Value.agg { toList:=(frL fr) })∧rr (Value.agg ⟨[.int .i64 i.op,.int .i64 i.a,.int .i64 i.b,.int .i64 i.c,.int .i64 i.m]⟩)∧rr (Value.pointer (some ⟨70,0,none⟩))∧True)∧((tt∧tt∧tt∧tt∧tt∧True∧rr [Value.pointer (some ⟨69,0,none⟩),.slice (some ⟨67,0,none⟩) N 9223372036854775875])∧(tt∧tt∧tt∧tt∧tt∧True∧rr [Value.int .i64 (↑m),.slice (some ⟨68,0,none⟩) n 9223372036854775876])∧(tt∧(v64 (Za f n)).all (okV (fun l=>l.blt 68) 3)=true∧tt∧tt∧tt∧True∧v64 (Za f n)=List.map (rnV (lift 68 74 [67,68,69,70]) 3) (v64 (Za f n)))∧(tt∧(u8s zs).all (okV (fun l=>l.blt 68) 3)=true∧tt∧tt∧tt∧True∧u8s zs=List.map (rnV (lift 68 74 [67,68,69,70]) 3) (u8s zs))∧(tt∧rc.all (okV (fun l=>l.blt 68) 3)=true∧tt∧tt∧tt∧True∧rc=List.map (rnV (lift 68 74 [67,68,69,70]) 3) rc)∧True)∧(tt∧n≤n)∧(tt∧N≤N)∧True)∧rr false)∧rr false)∧rr false)∧rr false)∧rr false)∧rr false)∧rr false)∧True∧(rr (Value.pointer (some ⟨70,0,none⟩))∧rr (Value.int .u32 0)∧rr (Value.int .i64 (↑N))∧True)∧((tt∧tt∧tt∧tt∧tt∧True∧rr [Value.pointer (some ⟨69,0,none⟩),.slice (some ⟨67,0,none⟩) N 9223372036854775875])∧(tt∧tt∧tt∧tt∧tt∧True∧rr [Value.int .i64 (↑m),.slice (some ⟨68,0,none⟩) n 9223372036854775876])∧(tt∧(v64 (Za f2 n)).all (okV (fun l=>l.blt 68) 3)=true∧tt∧tt∧tt∧True∧v64 (Za f n)=List.map (rnV (lift 68 75 [67,68,69,70]) 3) (v64 (Za f2 n)))∧(tt∧(u8s zs2).all (okV (fun l=>l.blt 68) 3)=true∧tt∧tt∧tt∧True∧u8s zs=List.map (rnV (lift 68 75 [67,68,69,70]) 3) (u8s zs2))∧True)∧(tt∧n≤n)∧(tt∧N≤N)∧True)∧decide (i.op≥(20:Int))=true)∧decide (i.op≥(20:Int))=true)∧decide (i.op≥(20:Int))=true)∧decide (i.op≥(20:Int))=true)∧decide (i.op≤(22:Int))=false)∧decide (i.op≤(22:Int))=false)∧decide (i.op≤(22:Int))=false)∧decide (i.op≤(22:Int))=false)∧((↑t:Int) !=(0:Int))=true)∧((↑t:Int) !=(0:Int))=true)∧((↑t:Int) !=(0:Int))=true)∧tt)∧Zl s s2=true)∧Zl s s2=true)∧True∧(rr (Value.pointer (some ⟨70,0,none⟩))∧True)∧((tt∧tt∧tt∧tt∧tt∧True∧rr [Value.pointer (some ⟨69,0,none⟩),.slice (some ⟨67,0,none⟩) N 9223372036854775875])∧(tt∧tt∧tt∧tt∧tt∧True∧rr [Value.int .i64 (↑m),.slice (some ⟨68,0,none⟩) n 9223372036854775876])∧(tt∧(v64 (Za f2 n)).all (okV (fun l=>l.blt 68) 3)=true∧tt∧tt∧tt∧True∧v64 (Za f n)=List.map (rnV (lift 68 75 [67,68,69,70]) 3) (v64 (Za f2 n)))∧(tt∧(u8s zs2).all (okV (fun l=>l.blt 68) 3)=true∧tt∧tt∧tt∧True∧u8s zs=List.map (rnV (lift 68 75 [67,68,69,70]) 3) (u8s zs2))∧True)∧(tt∧n≤n)∧(tt∧N≤N)∧True)∧Zl s s2=true)∧Zl s s2=true)∧Zl s s2=true)∧((↑c2:Int)==(↑c1:Int))=true)∧((↑c2:Int)==(↑c1:Int))=true)∧((↑c2:Int)==(↑c1:Int))=true)∧((↑t:Int)==(0:Int))=false)∧((↑t:Int)==(0:Int))=false)∧((↑t:Int)==(0:Int))=false)∧((↑c2:Int)==(↑c1:Int))=true)∧((↑t:Int)==(0:Int))=false)∧((↑c2:Int)==(↑c1:Int))=true):=by kernel_rfl
theorem Zlu (i:In) (fr fr':Nat→Cp) (l:List Pt) (rc:List Value) (c1 c2:Nat) (s s2 zs zs2:List UInt8) (f f2:Nat→Bool) (N m n t:Nat):obs (evF Tryz.prog (Zz 3 (Zd (cdL 0 l rc (Zat rc (mvA fr i) frN t zs f N m n) c1 c2 s s2 zs zs2 f f2 N m n)) Zk) Zh 100 20 5 [Q8 fr,i.val,sl1 0 64 l.length] ⟨65,WP 0 64 (Z6 l)++ZF rc,[],0,(tb 44 11269931008000),0,True⟩)=some (Value.bool true,((((((((((((((((((((((((((((((((((((((((((((((((((True∧True∧(rr (Value.slice none 0 0)∧True)∧True∧True)∧rr false)∧True∧True∧((tt∧rc.all (okV (fun l=>l.blt 64) 3)=true∧tt∧tt∧tt∧True∧rc=List.map (rnV (lift 64 74 []) 3) rc)∧True)∧True)∧rr false)∧rr false)∧rr false)∧True∧(rr (Value.pointer (some ⟨70,0,none⟩))∧True)∧((tt∧tt∧tt∧tt∧tt∧True∧rr [Value.pointer (some ⟨69,0,none⟩),.slice (some ⟨67,0,none⟩) N 9223372036854775875])∧(tt∧tt∧tt∧tt∧tt∧True∧rr [Value.int .i64 (↑m),.slice (some ⟨68,0,none⟩) n 9223372036854775876])∧(tt∧(v64 (Za f n)).all (okV (fun l=>l.blt 68) 3)=true∧tt∧tt∧tt∧True∧v64 (Za f n)=List.map (rnV (lift 68 74 [67,68,69,70]) 3) (v64 (Za f n)))∧(tt∧(u8s zs).all (okV (fun l=>l.blt 68) 3)=true∧tt∧tt∧tt∧True∧u8s zs=List.map (rnV (lift 68 74 [67,68,69,70]) 3) (u8s zs))∧True)∧(tt∧n≤n)∧(tt∧N≤N)∧True)∧rr false)∧rr false)∧rr false)∧rr false)∧rr false)∧rr false)∧rr false)∧True∧(rr (Value.pointer (some ⟨70,0,none⟩))∧rr (Value.int .u32 0)∧rr (Value.int .i64 (↑N))∧True)∧((tt∧tt∧tt∧tt∧tt∧True∧rr [Value.pointer (some ⟨69,0,none⟩),.slice (some ⟨67,0,none⟩) N 9223372036854775875])∧(tt∧tt∧tt∧tt∧tt∧True∧rr [Value.int .i64 (↑m),.slice (some ⟨68,0,none⟩) n 9223372036854775876])∧(tt∧(v64 (Za f n)).all (okV (fun l=>l.blt 68) 3)=true∧tt∧tt∧tt∧True∧v64 (Za f n)=List.map (rnV (lift 68 74 [67,68,69,70]) 3) (v64 (Za f n)))∧(tt∧(u8s zs).all (okV (fun l=>l.blt 68) 3)=true∧tt∧tt∧tt∧True∧u8s zs=List.map (rnV (lift 68 74 [67,68,69,70]) 3) (u8s zs))∧True)∧(tt∧n≤n)∧(tt∧N≤N)∧True)∧True∧(rr (Value.agg { toList:=(frL fr) })∧rr (Value.agg ⟨[.int .i64 i.op,.int .i64 i.a,.int .i64 i.b,.int .i64 i.c,.int .i64 i.m]⟩)∧rr (Value.pointer (some ⟨70,0,none⟩))∧True)∧((tt∧tt∧tt∧tt∧tt∧True∧rr [Value.pointer (some ⟨69,0,none⟩),.slice (some ⟨67,0,none⟩) N 9223372036854775875])∧(tt∧tt∧tt∧tt∧tt∧True∧rr [Value.int .i64 (↑m),.slice (some ⟨68,0,none⟩) n 9223372036854775876])∧(tt∧(v64 (Za f n)).all (okV (fun l=>l.blt 68) 3)=true∧tt∧tt∧tt∧True∧v64 (Za f n)=List.map (rnV (lift 68 74 [67,68,69,70]) 3) (v64 (Za f n)))∧(tt∧(u8s zs).all (okV (fun l=>l.blt 68) 3)=true∧tt∧tt∧tt∧True∧u8s zs=List.map (rnV (lift 68 74 [67,68,69,70]) 3) (u8s zs))∧(tt∧rc.all (okV (fun l=>l.blt 68) 3)=true∧tt∧tt∧tt∧True∧rc=List.map (rnV (lift 68 74 [67,68,69,70]) 3) rc)∧True)∧(tt∧n≤n)∧(tt∧N≤N)∧True)∧rr false)∧rr false)∧rr false)∧rr false)∧rr false)∧rr false)∧rr false)∧True∧(rr (Value.pointer (some ⟨70,0,none⟩))∧rr (Value.int .u32 0)∧rr (Value.int .i64 (↑N))∧True)∧((tt∧tt∧tt∧tt∧tt∧True∧rr [Value.pointer (some ⟨69,0,none⟩),.slice (some ⟨67,0,none⟩) N 9223372036854775875])∧(tt∧tt∧tt∧tt∧tt∧True∧rr [Value.int .i64 (↑m),.slice (some ⟨68,0,none⟩) n 9223372036854775876])∧(tt∧(v64 (Za f2 n)).all (okV (fun l=>l.blt 68) 3)=true∧tt∧tt∧tt∧True∧v64 (Za f n)=List.map (rnV (lift 68 75 [67,68,69,70]) 3) (v64 (Za f2 n)))∧(tt∧(u8s zs2).all (okV (fun l=>l.blt 68) 3)=true∧tt∧tt∧tt∧True∧u8s zs=List.map (rnV (lift 68 75 [67,68,69,70]) 3) (u8s zs2))∧True)∧(tt∧n≤n)∧(tt∧N≤N)∧True)∧decide (i.op≥(20:Int))=true)∧decide (i.op≥(20:Int))=true)∧decide (i.op≥(20:Int))=true)∧decide (i.op≥(20:Int))=true)∧decide (i.op≤(22:Int))=false)∧decide (i.op≤(22:Int))=false)∧decide (i.op≤(22:Int))=false)∧decide (i.op≤(22:Int))=false)∧((↑t:Int) !=(0:Int))=true)∧((↑t:Int) !=(0:Int))=true)∧((↑t:Int) !=(0:Int))=true)∧tt)∧Zl s s2=true)∧Zl s s2=true)∧True∧(rr (Value.pointer (some ⟨70,0,none⟩))∧True)∧((tt∧tt∧tt∧tt∧tt∧True∧rr [Value.pointer (some ⟨69,0,none⟩),.slice (some ⟨67,0,none⟩) N 9223372036854775875])∧(tt∧tt∧tt∧tt∧tt∧True∧rr [Value.int .i64 (↑m),.slice (some ⟨68,0,none⟩) n 9223372036854775876])∧(tt∧(v64 (Za f2 n)).all (okV (fun l=>l.blt 68) 3)=true∧tt∧tt∧tt∧True∧v64 (Za f n)=List.map (rnV (lift 68 75 [67,68,69,70]) 3) (v64 (Za f2 n)))∧(tt∧(u8s zs2).all (okV (fun l=>l.blt 68) 3)=true∧tt∧tt∧tt∧True∧u8s zs=List.map (rnV (lift 68 75 [67,68,69,70]) 3) (u8s zs2))∧True)∧(tt∧n≤n)∧(tt∧N≤N)∧True)∧Zl s s2=true)∧Zl s s2=true)∧Zl s s2=true)∧((↑c2:Int)==(↑c1:Int))=true)∧((↑c2:Int)==(↑c1:Int))=true)∧((↑c2:Int)==(↑c1:Int))=true)∧((↑t:Int)==(0:Int))=false)∧((↑t:Int)==(0:Int))=false)∧((↑t:Int)==(0:Int))=false)∧((↑c2:Int)==(↑c1:Int))=true)∧((↑t:Int)==(0:Int))=false)∧((↑c2:Int)==(↑c1:Int))=true):=by kernel_rfl
theorem Zlv (i:In) (fr fr':Nat→Cp) (l:List Pt) (rc:List Value) (c1 c2:Nat) (s s2 zs zs2:List UInt8) (f f2:Nat→Bool) (N m n:Nat):obs (evF Tryz.prog (Zz 3 (Zd (cdL 0 l rc (Zat rc (mvA fr i) fr' 0 zs f N m n) c1 c2 s s2 zs zs2 f f2 N m n)) Zk) Zh 100 20 5 [Q8 fr,i.val,sl1 0 64 l.length] ⟨65,WP 0 64 (Z6 l)++ZF rc,[],0,(tb 44 17591649173504),0,True⟩)=some (Value.bool true,((((((((((((((((((((((((((((((((((((((((((((((((((True∧True∧(rr (Value.slice none 0 0)∧True)∧True∧True)∧rr false)∧True∧True∧((tt∧rc.all (okV (fun l=>l.blt 64) 3)=true∧tt∧tt∧tt∧True∧rc=List.map (rnV (lift 64 74 []) 3) rc)∧True)∧True)∧rr false)∧rr false)∧rr false)∧True∧(rr (Value.pointer (some ⟨70,0,none⟩))∧True)∧((tt∧tt∧tt∧tt∧tt∧True∧rr [Value.pointer (some ⟨69,0,none⟩),.slice (some ⟨67,0,none⟩) N 9223372036854775875])∧(tt∧tt∧tt∧tt∧tt∧True∧rr [Value.int .i64 (↑m),.slice (some ⟨68,0,none⟩) n 9223372036854775876])∧(tt∧(v64 (Za f n)).all (okV (fun l=>l.blt 68) 3)=true∧tt∧tt∧tt∧True∧v64 (Za f n)=List.map (rnV (lift 68 74 [67,68,69,70]) 3) (v64 (Za f n)))∧(tt∧(u8s zs).all (okV (fun l=>l.blt 68) 3)=true∧tt∧tt∧tt∧True∧u8s zs=List.map (rnV (lift 68 74 [67,68,69,70]) 3) (u8s zs))∧True)∧(tt∧n≤n)∧(tt∧N≤N)∧True)∧rr false)∧rr false)∧rr false)∧rr false)∧rr false)∧rr false)∧rr false)∧True∧(rr (Value.pointer (some ⟨70,0,none⟩))∧rr (Value.int .u32 0)∧rr (Value.int .i64 (↑N))∧True)∧((tt∧tt∧tt∧tt∧tt∧True∧rr [Value.pointer (some ⟨69,0,none⟩),.slice (some ⟨67,0,none⟩) N 9223372036854775875])∧(tt∧tt∧tt∧tt∧tt∧True∧rr [Value.int .i64 (↑m),.slice (some ⟨68,0,none⟩) n 9223372036854775876])∧(tt∧(v64 (Za f n)).all (okV (fun l=>l.blt 68) 3)=true∧tt∧tt∧tt∧True∧v64 (Za f n)=List.map (rnV (lift 68 74 [67,68,69,70]) 3) (v64 (Za f n)))∧(tt∧(u8s zs).all (okV (fun l=>l.blt 68) 3)=true∧tt∧tt∧tt∧True∧u8s zs=List.map (rnV (lift 68 74 [67,68,69,70]) 3) (u8s zs))∧True)∧(tt∧n≤n)∧(tt∧N≤N)∧True)∧True∧(rr (Value.agg { toList:=(frL fr) })∧rr (Value.agg ⟨[.int .i64 i.op,.int .i64 i.a,.int .i64 i.b,.int .i64 i.c,.int .i64 i.m]⟩)∧rr (Value.pointer (some ⟨70,0,none⟩))∧True)∧((tt∧tt∧tt∧tt∧tt∧True∧rr [Value.pointer (some ⟨69,0,none⟩),.slice (some ⟨67,0,none⟩) N 9223372036854775875])∧(tt∧tt∧tt∧tt∧tt∧True∧rr [Value.int .i64 (↑m),.slice (some ⟨68,0,none⟩) n 9223372036854775876])∧(tt∧(v64 (Za f n)).all (okV (fun l=>l.blt 68) 3)=true∧tt∧tt∧tt∧True∧v64 (Za f n)=List.map (rnV (lift 68 74 [67,68,69,70]) 3) (v64 (Za f n)))∧(tt∧(u8s zs).all (okV (fun l=>l.blt 68) 3)=true∧tt∧tt∧tt∧True∧u8s zs=List.map (rnV (lift 68 74 [67,68,69,70]) 3) (u8s zs))∧(tt∧rc.all (okV (fun l=>l.blt 68) 3)=true∧tt∧tt∧tt∧True∧rc=List.map (rnV (lift 68 74 [67,68,69,70]) 3) rc)∧True)∧(tt∧n≤n)∧(tt∧N≤N)∧True)∧rr false)∧rr false)∧rr false)∧rr false)∧rr false)∧rr false)∧rr false)∧True∧(rr (Value.pointer (some ⟨70,0,none⟩))∧rr (Value.int .u32 0)∧rr (Value.int .i64 (↑N))∧True)∧((tt∧tt∧tt∧tt∧tt∧True∧rr [Value.pointer (some ⟨69,0,none⟩),.slice (some ⟨67,0,none⟩) N 9223372036854775875])∧(tt∧tt∧tt∧tt∧tt∧True∧rr [Value.int .i64 (↑m),.slice (some ⟨68,0,none⟩) n 9223372036854775876])∧(tt∧(v64 (Za f2 n)).all (okV (fun l=>l.blt 68) 3)=true∧tt∧tt∧tt∧True∧v64 (Za f n)=List.map (rnV (lift 68 75 [67,68,69,70]) 3) (v64 (Za f2 n)))∧(tt∧(u8s zs2).all (okV (fun l=>l.blt 68) 3)=true∧tt∧tt∧tt∧True∧u8s zs=List.map (rnV (lift 68 75 [67,68,69,70]) 3) (u8s zs2))∧True)∧(tt∧n≤n)∧(tt∧N≤N)∧True)∧decide (i.op≥(20:Int))=false)∧decide (i.op≥(20:Int))=false)∧decide (i.op≥(20:Int))=false)∧decide (i.op≥(20:Int))=false)∧rr false)∧rr false)∧rr false)∧rr false)∧rr false)∧rr false)∧rr false)∧(!i.op==(24:Int))=true)∧Zl s s2=true)∧Zl s s2=true)∧True∧(rr (Value.pointer (some ⟨70,0,none⟩))∧True)∧((tt∧tt∧tt∧tt∧tt∧True∧rr [Value.pointer (some ⟨69,0,none⟩),.slice (some ⟨67,0,none⟩) N 9223372036854775875])∧(tt∧tt∧tt∧tt∧tt∧True∧rr [Value.int .i64 (↑m),.slice (some ⟨68,0,none⟩) n 9223372036854775876])∧(tt∧(v64 (Za f2 n)).all (okV (fun l=>l.blt 68) 3)=true∧tt∧tt∧tt∧True∧v64 (Za f n)=List.map (rnV (lift 68 75 [67,68,69,70]) 3) (v64 (Za f2 n)))∧(tt∧(u8s zs2).all (okV (fun l=>l.blt 68) 3)=true∧tt∧tt∧tt∧True∧u8s zs=List.map (rnV (lift 68 75 [67,68,69,70]) 3) (u8s zs2))∧True)∧(tt∧n≤n)∧(tt∧N≤N)∧True)∧Zl s s2=true)∧Zl s s2=true)∧Zl s s2=true)∧((↑c2:Int)==(↑c1:Int))=true)∧((↑c2:Int)==(↑c1:Int))=true)∧((↑c2:Int)==(↑c1:Int))=true)∧tt)∧tt)∧tt)∧((↑c2:Int)==(↑c1:Int))=true)∧tt)∧((↑c2:Int)==(↑c1:Int))=true):=by kernel_rfl
theorem Zlw (i:In) (fr fr':Nat→Cp) (l:List Pt) (rc:List Value) (c1 c2:Nat) (s s2 zs zs2:List UInt8) (f f2:Nat→Bool) (N m n:Nat):obs (evF Tryz.prog (Zz 3 (Zd (cdL 0 l rc (Zat rc (mvA fr i) fr' 0 zs f N m n) c1 c2 s s2 zs zs2 f f2 N m n)) Zk) Zh 100 20 5 [Q8 fr,i.val,sl1 0 64 l.length] ⟨65,WP 0 64 (Z6 l)++ZF rc,[],0,(tb 44 17591653105664),0,True⟩)=some (Value.bool true,((((((((((((((((((((((((((((((((((((((((((((((((((True∧True∧(rr (Value.slice none 0 0)∧True)∧True∧True)∧rr false)∧True∧True∧((tt∧rc.all (okV (fun l=>l.blt 64) 3)=true∧tt∧tt∧tt∧True∧rc=List.map (rnV (lift 64 74 []) 3) rc)∧True)∧True)∧rr false)∧rr false)∧rr false)∧True∧(rr (Value.pointer (some ⟨70,0,none⟩))∧True)∧((tt∧tt∧tt∧tt∧tt∧True∧rr [Value.pointer (some ⟨69,0,none⟩),.slice (some ⟨67,0,none⟩) N 9223372036854775875])∧(tt∧tt∧tt∧tt∧tt∧True∧rr [Value.int .i64 (↑m),.slice (some ⟨68,0,none⟩) n 9223372036854775876])∧(tt∧(v64 (Za f n)).all (okV (fun l=>l.blt 68) 3)=true∧tt∧tt∧tt∧True∧v64 (Za f n)=List.map (rnV (lift 68 74 [67,68,69,70]) 3) (v64 (Za f n)))∧(tt∧(u8s zs).all (okV (fun l=>l.blt 68) 3)=true∧tt∧tt∧tt∧True∧u8s zs=List.map (rnV (lift 68 74 [67,68,69,70]) 3) (u8s zs))∧True)∧(tt∧n≤n)∧(tt∧N≤N)∧True)∧rr false)∧rr false)∧rr false)∧rr false)∧rr false)∧rr false)∧rr false)∧True∧(rr (Value.pointer (some ⟨70,0,none⟩))∧rr (Value.int .u32 0)∧rr (Value.int .i64 (↑N))∧True)∧((tt∧tt∧tt∧tt∧tt∧True∧rr [Value.pointer (some ⟨69,0,none⟩),.slice (some ⟨67,0,none⟩) N 9223372036854775875])∧(tt∧tt∧tt∧tt∧tt∧True∧rr [Value.int .i64 (↑m),.slice (some ⟨68,0,none⟩) n 9223372036854775876])∧(tt∧(v64 (Za f n)).all (okV (fun l=>l.blt 68) 3)=true∧tt∧tt∧tt∧True∧v64 (Za f n)=List.map (rnV (lift 68 74 [67,68,69,70]) 3) (v64 (Za f n)))∧(tt∧(u8s zs).all (okV (fun l=>l.blt 68) 3)=true∧tt∧tt∧tt∧True∧u8s zs=List.map (rnV (lift 68 74 [67,68,69,70]) 3) (u8s zs))∧True)∧(tt∧n≤n)∧(tt∧N≤N)∧True)∧True∧(rr (Value.agg { toList:=(frL fr) })∧rr (Value.agg ⟨[.int .i64 i.op,.int .i64 i.a,.int .i64 i.b,.int .i64 i.c,.int .i64 i.m]⟩)∧rr (Value.pointer (some ⟨70,0,none⟩))∧True)∧((tt∧tt∧tt∧tt∧tt∧True∧rr [Value.pointer (some ⟨69,0,none⟩),.slice (some ⟨67,0,none⟩) N 9223372036854775875])∧(tt∧tt∧tt∧tt∧tt∧True∧rr [Value.int .i64 (↑m),.slice (some ⟨68,0,none⟩) n 9223372036854775876])∧(tt∧(v64 (Za f n)).all (okV (fun l=>l.blt 68) 3)=true∧tt∧tt∧tt∧True∧v64 (Za f n)=List.map (rnV (lift 68 74 [67,68,69,70]) 3) (v64 (Za f n)))∧(tt∧(u8s zs).all (okV (fun l=>l.blt 68) 3)=true∧tt∧tt∧tt∧True∧u8s zs=List.map (rnV (lift 68 74 [67,68,69,70]) 3) (u8s zs))∧(tt∧rc.all (okV (fun l=>l.blt 68) 3)=true∧tt∧tt∧tt∧True∧rc=List.map (rnV (lift 68 74 [67,68,69,70]) 3) rc)∧True)∧(tt∧n≤n)∧(tt∧N≤N)∧True)∧rr false)∧rr false)∧rr false)∧rr false)∧rr false)∧rr false)∧rr false)∧True∧(rr (Value.pointer (some ⟨70,0,none⟩))∧rr (Value.int .u32 0)∧rr (Value.int .i64 (↑N))∧True)∧((tt∧tt∧tt∧tt∧tt∧True∧rr [Value.pointer (some ⟨69,0,none⟩),.slice (some ⟨67,0,none⟩) N 9223372036854775875])∧(tt∧tt∧tt∧tt∧tt∧True∧rr [Value.int .i64 (↑m),.slice (some ⟨68,0,none⟩) n 9223372036854775876])∧(tt∧(v64 (Za f2 n)).all (okV (fun l=>l.blt 68) 3)=true∧tt∧tt∧tt∧True∧v64 (Za f n)=List.map (rnV (lift 68 75 [67,68,69,70]) 3) (v64 (Za f2 n)))∧(tt∧(u8s zs2).all (okV (fun l=>l.blt 68) 3)=true∧tt∧tt∧tt∧True∧u8s zs=List.map (rnV (lift 68 75 [67,68,69,70]) 3) (u8s zs2))∧True)∧(tt∧n≤n)∧(tt∧N≤N)∧True)∧decide (i.op≥(20:Int))=true)∧decide (i.op≥(20:Int))=true)∧decide (i.op≥(20:Int))=true)∧decide (i.op≥(20:Int))=true)∧decide (i.op≤(22:Int))=false)∧decide (i.op≤(22:Int))=false)∧decide (i.op≤(22:Int))=false)∧decide (i.op≤(22:Int))=false)∧rr false)∧rr false)∧rr false)∧(!i.op==(24:Int))=true)∧Zl s s2=true)∧Zl s s2=true)∧True∧(rr (Value.pointer (some ⟨70,0,none⟩))∧True)∧((tt∧tt∧tt∧tt∧tt∧True∧rr [Value.pointer (some ⟨69,0,none⟩),.slice (some ⟨67,0,none⟩) N 9223372036854775875])∧(tt∧tt∧tt∧tt∧tt∧True∧rr [Value.int .i64 (↑m),.slice (some ⟨68,0,none⟩) n 9223372036854775876])∧(tt∧(v64 (Za f2 n)).all (okV (fun l=>l.blt 68) 3)=true∧tt∧tt∧tt∧True∧v64 (Za f n)=List.map (rnV (lift 68 75 [67,68,69,70]) 3) (v64 (Za f2 n)))∧(tt∧(u8s zs2).all (okV (fun l=>l.blt 68) 3)=true∧tt∧tt∧tt∧True∧u8s zs=List.map (rnV (lift 68 75 [67,68,69,70]) 3) (u8s zs2))∧True)∧(tt∧n≤n)∧(tt∧N≤N)∧True)∧Zl s s2=true)∧Zl s s2=true)∧Zl s s2=true)∧((↑c2:Int)==(↑c1:Int))=true)∧((↑c2:Int)==(↑c1:Int))=true)∧((↑c2:Int)==(↑c1:Int))=true)∧tt)∧tt)∧tt)∧((↑c2:Int)==(↑c1:Int))=true)∧tt)∧((↑c2:Int)==(↑c1:Int))=true):=by kernel_rfl
theorem ZnN (i:In) (fr fr':Nat→Cp) (l:List Pt) (rc:List Value) (c1 c2:Nat) (s s2 zs zs2:List UInt8) (f f2:Nat→Bool) (N m n:Nat):obs (evF Tryz.prog (Zz 3 (Zd (cdL 0 l rc (Zhc rc (mvA fr i) fr' zs zs2 f f2 N m n) c1 c2 s s2 zs zs2 f f2 N m n)) Zk) Zh 100 20 5 [Q8 fr,i.val,sl1 0 64 l.length] ⟨65,WP 0 64 (Z6 l)++ZF rc,[],0,(tb 39 548748918784),0,True⟩)=some (Value.bool (decide ((↑c2:Int)≤(↑c1:Int))),(((((((((((((((((((((((((((((((((((((((((((((True∧True∧(rr (Value.slice none 0 0)∧True)∧True∧True)∧rr false)∧True∧True∧((tt∧rc.all (okV (fun l=>l.blt 64) 3)=true∧tt∧tt∧tt∧True∧rc=List.map (rnV (lift 64 74 []) 3) rc)∧True)∧True)∧rr false)∧rr false)∧rr false)∧True∧(rr (Value.pointer (some ⟨70,0,none⟩))∧True)∧((tt∧tt∧tt∧tt∧tt∧True∧rr [Value.pointer (some ⟨69,0,none⟩),.slice (some ⟨67,0,none⟩) N 9223372036854775875])∧(tt∧tt∧tt∧tt∧tt∧True∧rr [Value.int .i64 (↑m),.slice (some ⟨68,0,none⟩) n 9223372036854775876])∧(tt∧(v64 (Za f n)).all (okV (fun l=>l.blt 68) 3)=true∧tt∧tt∧tt∧True∧v64 (Za f n)=List.map (rnV (lift 68 74 [67,68,69,70]) 3) (v64 (Za f n)))∧(tt∧(u8s zs).all (okV (fun l=>l.blt 68) 3)=true∧tt∧tt∧tt∧True∧u8s zs=List.map (rnV (lift 68 74 [67,68,69,70]) 3) (u8s zs))∧True)∧(tt∧n≤n)∧(tt∧N≤N)∧True)∧rr false)∧rr false)∧rr false)∧rr false)∧rr false)∧rr false)∧rr false)∧True∧(rr (Value.pointer (some ⟨70,0,none⟩))∧rr (Value.int .u32 0)∧rr (Value.int .i64 (↑N))∧True)∧((tt∧tt∧tt∧tt∧tt∧True∧rr [Value.pointer (some ⟨69,0,none⟩),.slice (some ⟨67,0,none⟩) N 9223372036854775875])∧(tt∧tt∧tt∧tt∧tt∧True∧rr [Value.int .i64 (↑m),.slice (some ⟨68,0,none⟩) n 9223372036854775876])∧(tt∧(v64 (Za f n)).all (okV (fun l=>l.blt 68) 3)=true∧tt∧tt∧tt∧True∧v64 (Za f n)=List.map (rnV (lift 68 74 [67,68,69,70]) 3) (v64 (Za f n)))∧(tt∧(u8s zs).all (okV (fun l=>l.blt 68) 3)=true∧tt∧tt∧tt∧True∧u8s zs=List.map (rnV (lift 68 74 [67,68,69,70]) 3) (u8s zs))∧True)∧(tt∧n≤n)∧(tt∧N≤N)∧True)∧True∧(rr (Value.agg { toList:=(frL fr) })∧rr (Value.agg ⟨[.int .i64 i.op,.int .i64 i.a,.int .i64 i.b,.int .i64 i.c,.int .i64 i.m]⟩)∧rr (Value.pointer (some ⟨70,0,none⟩))∧True)∧((tt∧tt∧tt∧tt∧tt∧True∧rr [Value.pointer (some ⟨69,0,none⟩),.slice (some ⟨67,0,none⟩) N 9223372036854775875])∧(tt∧tt∧tt∧tt∧tt∧True∧rr [Value.int .i64 (↑m),.slice (some ⟨68,0,none⟩) n 9223372036854775876])∧(tt∧(v64 (Za f n)).all (okV (fun l=>l.blt 68) 3)=true∧tt∧tt∧tt∧True∧v64 (Za f n)=List.map (rnV (lift 68 74 [67,68,69,70]) 3) (v64 (Za f n)))∧(tt∧(u8s zs).all (okV (fun l=>l.blt 68) 3)=true∧tt∧tt∧tt∧True∧u8s zs=List.map (rnV (lift 68 74 [67,68,69,70]) 3) (u8s zs))∧(tt∧rc.all (okV (fun l=>l.blt 68) 3)=true∧tt∧tt∧tt∧True∧rc=List.map (rnV (lift 68 74 [67,68,69,70]) 3) rc)∧True)∧(tt∧n≤n)∧(tt∧N≤N)∧True)∧rr false)∧rr false)∧rr false)∧rr false)∧rr false)∧rr false)∧rr false)∧True∧(rr (Value.pointer (some ⟨70,0,none⟩))∧rr (Value.int .u32 0)∧rr (Value.int .i64 (↑N))∧True)∧((tt∧tt∧tt∧tt∧tt∧True∧rr [Value.pointer (some ⟨69,0,none⟩),.slice (some ⟨67,0,none⟩) N 9223372036854775875])∧(tt∧tt∧tt∧tt∧tt∧True∧rr [Value.int .i64 (↑m),.slice (some ⟨68,0,none⟩) n 9223372036854775876])∧(tt∧(v64 (Za f2 n)).all (okV (fun l=>l.blt 68) 3)=true∧tt∧tt∧tt∧True∧v64 (Za f2 n)=List.map (rnV (lift 68 75 [67,68,69,70]) 3) (v64 (Za f2 n)))∧(tt∧(u8s zs2).all (okV (fun l=>l.blt 68) 3)=true∧tt∧tt∧tt∧True∧u8s zs2=List.map (rnV (lift 68 75 [67,68,69,70]) 3) (u8s zs2))∧True)∧(tt∧n≤n)∧(tt∧N≤N)∧True)∧decide (i.op≥(20:Int))=true)∧decide (i.op≥(20:Int))=true)∧decide (i.op≥(20:Int))=true)∧decide (i.op≥(20:Int))=true)∧decide (i.op≤(22:Int))=true)∧decide (i.op≤(22:Int))=true)∧decide (i.op≤(22:Int))=true)∧decide (i.op≤(22:Int))=true)∧rr false)∧rr false)∧rr false)∧rr false)∧(i.op !=(24:Int))=true)∧(i.op !=(24:Int))=true)∧(i.op !=(24:Int))=true)∧(i.op !=(24:Int))=true)∧(i.op !=(24:Int))=true)∧(i.op !=(24:Int))=true)∧(i.op !=(24:Int))=true)∧(i.op !=(24:Int))=true)∧tt)∧True∧(rr (Value.pointer (some ⟨70,0,none⟩))∧True)∧((tt∧tt∧tt∧tt∧tt∧True∧rr [Value.pointer (some ⟨69,0,none⟩),.slice (some ⟨67,0,none⟩) N 9223372036854775875])∧(tt∧tt∧tt∧tt∧tt∧True∧rr [Value.int .i64 (↑m),.slice (some ⟨68,0,none⟩) n 9223372036854775876])∧(tt∧(v64 (Za f2 n)).all (okV (fun l=>l.blt 68) 3)=true∧tt∧tt∧tt∧True∧v64 (Za f2 n)=List.map (rnV (lift 68 75 [67,68,69,70]) 3) (v64 (Za f2 n)))∧(tt∧(u8s zs2).all (okV (fun l=>l.blt 68) 3)=true∧tt∧tt∧tt∧True∧u8s zs2=List.map (rnV (lift 68 75 [67,68,69,70]) 3) (u8s zs2))∧True)∧(tt∧n≤n)∧(tt∧N≤N)∧True):=by kernel_rfl
theorem ZnO (i:In) (fr fr':Nat→Cp) (l:List Pt) (rc:List Value) (c1 c2:Nat) (s s2 zs zs2:List UInt8) (f f2:Nat→Bool) (N m n:Nat):obs (evF Tryz.prog (Zz 3 (Zd (cdL 0 l rc (Zhc rc (mvA fr i) fr' zs zs2 f f2 N m n) c1 c2 s s2 zs zs2 f f2 N m n)) Zk) Zh 100 20 5 [Q8 fr,i.val,sl1 0 64 l.length] ⟨65,WP 0 64 (Z6 l)++ZF rc,[],0,(tb 39 274881839104),0,True⟩)=some (Value.bool (decide ((↑c2:Int)≤(↑c1:Int))),((((bif ZI (0+i.a.toNat*8+7+1) (frL fr)&&Zi [Value.bool false] (frL fr) (0+i.a.toNat*8+7) then((bif decide ((0:Int)≤i.a)&&decide (i.a<(16:Int)) then(((((((((((((((((((((((((((((((((((((((True∧True∧(rr (Value.slice none 0 0)∧True)∧True∧True)∧rr false)∧True∧True∧((tt∧rc.all (okV (fun l=>l.blt 64) 3)=true∧tt∧tt∧tt∧True∧rc=List.map (rnV (lift 64 74 []) 3) rc)∧True)∧True)∧rr false)∧rr false)∧rr false)∧True∧(rr (Value.pointer (some ⟨70,0,none⟩))∧True)∧((tt∧tt∧tt∧tt∧tt∧True∧rr [Value.pointer (some ⟨69,0,none⟩),.slice (some ⟨67,0,none⟩) N 9223372036854775875])∧(tt∧tt∧tt∧tt∧tt∧True∧rr [Value.int .i64 (↑m),.slice (some ⟨68,0,none⟩) n 9223372036854775876])∧(tt∧(v64 (Za f n)).all (okV (fun l=>l.blt 68) 3)=true∧tt∧tt∧tt∧True∧v64 (Za f n)=List.map (rnV (lift 68 74 [67,68,69,70]) 3) (v64 (Za f n)))∧(tt∧(u8s zs).all (okV (fun l=>l.blt 68) 3)=true∧tt∧tt∧tt∧True∧u8s zs=List.map (rnV (lift 68 74 [67,68,69,70]) 3) (u8s zs))∧True)∧(tt∧n≤n)∧(tt∧N≤N)∧True)∧rr false)∧rr false)∧rr false)∧rr false)∧rr false)∧rr false)∧rr false)∧True∧(rr (Value.pointer (some ⟨70,0,none⟩))∧rr (Value.int .u32 0)∧rr (Value.int .i64 (↑N))∧True)∧((tt∧tt∧tt∧tt∧tt∧True∧rr [Value.pointer (some ⟨69,0,none⟩),.slice (some ⟨67,0,none⟩) N 9223372036854775875])∧(tt∧tt∧tt∧tt∧tt∧True∧rr [Value.int .i64 (↑m),.slice (some ⟨68,0,none⟩) n 9223372036854775876])∧(tt∧(v64 (Za f n)).all (okV (fun l=>l.blt 68) 3)=true∧tt∧tt∧tt∧True∧v64 (Za f n)=List.map (rnV (lift 68 74 [67,68,69,70]) 3) (v64 (Za f n)))∧(tt∧(u8s zs).all (okV (fun l=>l.blt 68) 3)=true∧tt∧tt∧tt∧True∧u8s zs=List.map (rnV (lift 68 74 [67,68,69,70]) 3) (u8s zs))∧True)∧(tt∧n≤n)∧(tt∧N≤N)∧True)∧True∧(rr (Value.agg { toList:=(frL fr) })∧rr (Value.agg ⟨[.int .i64 i.op,.int .i64 i.a,.int .i64 i.b,.int .i64 i.c,.int .i64 i.m]⟩)∧rr (Value.pointer (some ⟨70,0,none⟩))∧True)∧((tt∧tt∧tt∧tt∧tt∧True∧rr [Value.pointer (some ⟨69,0,none⟩),.slice (some ⟨67,0,none⟩) N 9223372036854775875])∧(tt∧tt∧tt∧tt∧tt∧True∧rr [Value.int .i64 (↑m),.slice (some ⟨68,0,none⟩) n 9223372036854775876])∧(tt∧(v64 (Za f n)).all (okV (fun l=>l.blt 68) 3)=true∧tt∧tt∧tt∧True∧v64 (Za f n)=List.map (rnV (lift 68 74 [67,68,69,70]) 3) (v64 (Za f n)))∧(tt∧(u8s zs).all (okV (fun l=>l.blt 68) 3)=true∧tt∧tt∧tt∧True∧u8s zs=List.map (rnV (lift 68 74 [67,68,69,70]) 3) (u8s zs))∧(tt∧rc.all (okV (fun l=>l.blt 68) 3)=true∧tt∧tt∧tt∧True∧rc=List.map (rnV (lift 68 74 [67,68,69,70]) 3) rc)∧True)∧(tt∧n≤n)∧(tt∧N≤N)∧True)∧rr false)∧rr false)∧rr false)∧rr false)∧rr false)∧rr false)∧rr false)∧True∧(rr (Value.pointer (some ⟨70,0,none⟩))∧rr (Value.int .u32 0)∧rr (Value.int .i64 (↑N))∧True)∧((tt∧tt∧tt∧tt∧tt∧True∧rr [Value.pointer (some ⟨69,0,none⟩),.slice (some ⟨67,0,none⟩) N 9223372036854775875])∧(tt∧tt∧tt∧tt∧tt∧True∧rr [Value.int .i64 (↑m),.slice (some ⟨68,0,none⟩) n 9223372036854775876])∧(tt∧(v64 (Za f2 n)).all (okV (fun l=>l.blt 68) 3)=true∧tt∧tt∧tt∧True∧v64 (Za f2 n)=List.map (rnV (lift 68 75 [67,68,69,70]) 3) (v64 (Za f2 n)))∧(tt∧(u8s zs2).all (okV (fun l=>l.blt 68) 3)=true∧tt∧tt∧tt∧True∧u8s zs2=List.map (rnV (lift 68 75 [67,68,69,70]) 3) (u8s zs2))∧True)∧(tt∧n≤n)∧(tt∧N≤N)∧True)∧decide (i.op≥(20:Int))=true)∧decide (i.op≥(20:Int))=true)∧decide (i.op≥(20:Int))=true)∧decide (i.op≥(20:Int))=true)∧decide (i.op≤(22:Int))=false)∧decide (i.op≤(22:Int))=false)∧decide (i.op≤(22:Int))=false)∧decide (i.op≤(22:Int))=false)∧rr false)∧rr false)∧rr false)∧(!i.op==(24:Int))=false)∧(i.op !=(24:Int))=false)∧(i.op !=(24:Int))=false)∧(i.op !=(24:Int))=false)∧(i.op !=(24:Int))=false else False)∧(i.op !=(24:Int))=false)∧(i.op !=(24:Int))=false else False)∧(i.op !=(24:Int))=false)∧(i.op !=(24:Int))=false)∧(!Zv (Zc undef (frL fr) (0+i.a.toNat*8+7)))=true)∧True∧(rr (Value.pointer (some ⟨70,0,none⟩))∧True)∧((tt∧tt∧tt∧tt∧tt∧True∧rr [Value.pointer (some ⟨69,0,none⟩),.slice (some ⟨67,0,none⟩) N 9223372036854775875])∧(tt∧tt∧tt∧tt∧tt∧True∧rr [Value.int .i64 (↑m),.slice (some ⟨68,0,none⟩) n 9223372036854775876])∧(tt∧(v64 (Za f2 n)).all (okV (fun l=>l.blt 68) 3)=true∧tt∧tt∧tt∧True∧v64 (Za f2 n)=List.map (rnV (lift 68 75 [67,68,69,70]) 3) (v64 (Za f2 n)))∧(tt∧(u8s zs2).all (okV (fun l=>l.blt 68) 3)=true∧tt∧tt∧tt∧True∧u8s zs2=List.map (rnV (lift 68 75 [67,68,69,70]) 3) (u8s zs2))∧True)∧(tt∧n≤n)∧(tt∧N≤N)∧True):=by kernel_rfl
theorem ZnP (i:In) (fr fr':Nat→Cp) (l:List Pt) (rc:List Value) (c1 c2:Nat) (s s2 zs zs2:List UInt8) (f f2:Nat→Bool) (N m n:Nat):obs (evF Tryz.prog (Zz 3 (Zd (cdL 0 l rc (Zhc rc (mvA fr i) fr' zs zs2 f f2 N m n) c1 c2 s s2 zs zs2 f f2 N m n)) Zk) Zh 100 20 5 [Q8 fr,i.val,sl1 0 64 l.length] ⟨65,WP 0 64 (Z6 l)++ZF rc,[],0,(tb 39 3932160),0,True⟩)=some (Value.bool (decide ((↑c2:Int)≤i64.wrap ((↑c1:Int)+(1:Int)))),((((bif ZI (0+i.a.toNat*8+7+1) (frL fr)&&Zi [Value.bool false] (frL fr) (0+i.a.toNat*8+7) then((bif decide ((0:Int)≤i.a)&&decide (i.a<(16:Int)) then(((((((((((((((((((((((((((((((((((((((True∧True∧(rr (Value.slice none 0 0)∧True)∧True∧True)∧rr false)∧True∧True∧((tt∧rc.all (okV (fun l=>l.blt 64) 3)=true∧tt∧tt∧tt∧True∧rc=List.map (rnV (lift 64 74 []) 3) rc)∧True)∧True)∧rr false)∧rr false)∧rr false)∧True∧(rr (Value.pointer (some ⟨70,0,none⟩))∧True)∧((tt∧tt∧tt∧tt∧tt∧True∧rr [Value.pointer (some ⟨69,0,none⟩),.slice (some ⟨67,0,none⟩) N 9223372036854775875])∧(tt∧tt∧tt∧tt∧tt∧True∧rr [Value.int .i64 (↑m),.slice (some ⟨68,0,none⟩) n 9223372036854775876])∧(tt∧(v64 (Za f n)).all (okV (fun l=>l.blt 68) 3)=true∧tt∧tt∧tt∧True∧v64 (Za f n)=List.map (rnV (lift 68 74 [67,68,69,70]) 3) (v64 (Za f n)))∧(tt∧(u8s zs).all (okV (fun l=>l.blt 68) 3)=true∧tt∧tt∧tt∧True∧u8s zs=List.map (rnV (lift 68 74 [67,68,69,70]) 3) (u8s zs))∧True)∧(tt∧n≤n)∧(tt∧N≤N)∧True)∧rr false)∧rr false)∧rr false)∧rr false)∧rr false)∧rr false)∧rr false)∧True∧(rr (Value.pointer (some ⟨70,0,none⟩))∧rr (Value.int .u32 0)∧rr (Value.int .i64 (↑N))∧True)∧((tt∧tt∧tt∧tt∧tt∧True∧rr [Value.pointer (some ⟨69,0,none⟩),.slice (some ⟨67,0,none⟩) N 9223372036854775875])∧(tt∧tt∧tt∧tt∧tt∧True∧rr [Value.int .i64 (↑m),.slice (some ⟨68,0,none⟩) n 9223372036854775876])∧(tt∧(v64 (Za f n)).all (okV (fun l=>l.blt 68) 3)=true∧tt∧tt∧tt∧True∧v64 (Za f n)=List.map (rnV (lift 68 74 [67,68,69,70]) 3) (v64 (Za f n)))∧(tt∧(u8s zs).all (okV (fun l=>l.blt 68) 3)=true∧tt∧tt∧tt∧True∧u8s zs=List.map (rnV (lift 68 74 [67,68,69,70]) 3) (u8s zs))∧True)∧(tt∧n≤n)∧(tt∧N≤N)∧True)∧True∧(rr (Value.agg { toList:=(frL fr) })∧rr (Value.agg ⟨[.int .i64 i.op,.int .i64 i.a,.int .i64 i.b,.int .i64 i.c,.int .i64 i.m]⟩)∧rr (Value.pointer (some ⟨70,0,none⟩))∧True)∧((tt∧tt∧tt∧tt∧tt∧True∧rr [Value.pointer (some ⟨69,0,none⟩),.slice (some ⟨67,0,none⟩) N 9223372036854775875])∧(tt∧tt∧tt∧tt∧tt∧True∧rr [Value.int .i64 (↑m),.slice (some ⟨68,0,none⟩) n 9223372036854775876])∧(tt∧(v64 (Za f n)).all (okV (fun l=>l.blt 68) 3)=true∧tt∧tt∧tt∧True∧v64 (Za f n)=List.map (rnV (lift 68 74 [67,68,69,70]) 3) (v64 (Za f n)))∧(tt∧(u8s zs).all (okV (fun l=>l.blt 68) 3)=true∧tt∧tt∧tt∧True∧u8s zs=List.map (rnV (lift 68 74 [67,68,69,70]) 3) (u8s zs))∧(tt∧rc.all (okV (fun l=>l.blt 68) 3)=true∧tt∧tt∧tt∧True∧rc=List.map (rnV (lift 68 74 [67,68,69,70]) 3) rc)∧True)∧(tt∧n≤n)∧(tt∧N≤N)∧True)∧rr false)∧rr false)∧rr false)∧rr false)∧rr false)∧rr false)∧rr false)∧True∧(rr (Value.pointer (some ⟨70,0,none⟩))∧rr (Value.int .u32 0)∧rr (Value.int .i64 (↑N))∧True)∧((tt∧tt∧tt∧tt∧tt∧True∧rr [Value.pointer (some ⟨69,0,none⟩),.slice (some ⟨67,0,none⟩) N 9223372036854775875])∧(tt∧tt∧tt∧tt∧tt∧True∧rr [Value.int .i64 (↑m),.slice (some ⟨68,0,none⟩) n 9223372036854775876])∧(tt∧(v64 (Za f2 n)).all (okV (fun l=>l.blt 68) 3)=true∧tt∧tt∧tt∧True∧v64 (Za f2 n)=List.map (rnV (lift 68 75 [67,68,69,70]) 3) (v64 (Za f2 n)))∧(tt∧(u8s zs2).all (okV (fun l=>l.blt 68) 3)=true∧tt∧tt∧tt∧True∧u8s zs2=List.map (rnV (lift 68 75 [67,68,69,70]) 3) (u8s zs2))∧True)∧(tt∧n≤n)∧(tt∧N≤N)∧True)∧decide (i.op≥(20:Int))=true)∧decide (i.op≥(20:Int))=true)∧decide (i.op≥(20:Int))=true)∧decide (i.op≥(20:Int))=true)∧decide (i.op≤(22:Int))=false)∧decide (i.op≤(22:Int))=false)∧decide (i.op≤(22:Int))=false)∧decide (i.op≤(22:Int))=false)∧rr false)∧rr false)∧rr false)∧(!i.op==(24:Int))=false)∧(i.op !=(24:Int))=false)∧(i.op !=(24:Int))=false)∧(i.op !=(24:Int))=false)∧(i.op !=(24:Int))=false else False)∧(i.op !=(24:Int))=false)∧(i.op !=(24:Int))=false else False)∧(i.op !=(24:Int))=false)∧(i.op !=(24:Int))=false)∧(!Zv (Zc undef (frL fr) (0+i.a.toNat*8+7)))=false)∧True∧(rr (Value.pointer (some ⟨70,0,none⟩))∧True)∧((tt∧tt∧tt∧tt∧tt∧True∧rr [Value.pointer (some ⟨69,0,none⟩),.slice (some ⟨67,0,none⟩) N 9223372036854775875])∧(tt∧tt∧tt∧tt∧tt∧True∧rr [Value.int .i64 (↑m),.slice (some ⟨68,0,none⟩) n 9223372036854775876])∧(tt∧(v64 (Za f2 n)).all (okV (fun l=>l.blt 68) 3)=true∧tt∧tt∧tt∧True∧v64 (Za f2 n)=List.map (rnV (lift 68 75 [67,68,69,70]) 3) (v64 (Za f2 n)))∧(tt∧(u8s zs2).all (okV (fun l=>l.blt 68) 3)=true∧tt∧tt∧tt∧True∧u8s zs2=List.map (rnV (lift 68 75 [67,68,69,70]) 3) (u8s zs2))∧True)∧(tt∧n≤n)∧(tt∧N≤N)∧True):=by kernel_rfl
theorem Zlx (i:In) (fr fr':Nat→Cp) (l:List Pt) (rc:List Value) (c1 c2:Nat) (s s2 zs zs2:List UInt8) (f f2:Nat→Bool) (N m n t:Nat):obs (evF Tryz.prog (Zz 3 (Zd (cdL 1 l rc (Zat rc (mvA fr i) frN t zs f N m n) c1 c2 s s2 zs zs2 f f2 N m n)) Zk) Zh 100 20 5 [Q8 fr,i.val,sl1 1 64 l.length] ⟨65,WP 1 64 (Z6 l)++ZF rc,[],0,(tb 44 11269927075840),0,True⟩)=some (Value.bool true,((((((((((((((((((((((((((((((((((((((((((((((((((True∧True∧(rr (Value.slice (some { block:=64,off:=0,spot:=some 64 }) 0 9223372036854775872)∧True)∧True∧True)∧rr false)∧True∧True∧((tt∧rc.all (okV (fun l=>l.blt 64) 3)=true∧tt∧tt∧tt∧True∧rc=List.map (rnV (lift 64 74 []) 3) rc)∧True)∧True)∧rr false)∧rr false)∧rr false)∧True∧(rr (Value.pointer (some ⟨70,0,none⟩))∧True)∧((tt∧tt∧tt∧tt∧tt∧True∧rr [Value.pointer (some ⟨69,0,none⟩),.slice (some ⟨67,0,none⟩) N 9223372036854775875])∧(tt∧tt∧tt∧tt∧tt∧True∧rr [Value.int .i64 (↑m),.slice (some ⟨68,0,none⟩) n 9223372036854775876])∧(tt∧(v64 (Za f n)).all (okV (fun l=>l.blt 68) 3)=true∧tt∧tt∧tt∧True∧v64 (Za f n)=List.map (rnV (lift 68 74 [67,68,69,70]) 3) (v64 (Za f n)))∧(tt∧(u8s zs).all (okV (fun l=>l.blt 68) 3)=true∧tt∧tt∧tt∧True∧u8s zs=List.map (rnV (lift 68 74 [67,68,69,70]) 3) (u8s zs))∧True)∧(tt∧n≤n)∧(tt∧N≤N)∧True)∧rr false)∧rr false)∧rr false)∧rr false)∧rr false)∧rr false)∧rr false)∧True∧(rr (Value.pointer (some ⟨70,0,none⟩))∧rr (Value.int .u32 0)∧rr (Value.int .i64 (↑N))∧True)∧((tt∧tt∧tt∧tt∧tt∧True∧rr [Value.pointer (some ⟨69,0,none⟩),.slice (some ⟨67,0,none⟩) N 9223372036854775875])∧(tt∧tt∧tt∧tt∧tt∧True∧rr [Value.int .i64 (↑m),.slice (some ⟨68,0,none⟩) n 9223372036854775876])∧(tt∧(v64 (Za f n)).all (okV (fun l=>l.blt 68) 3)=true∧tt∧tt∧tt∧True∧v64 (Za f n)=List.map (rnV (lift 68 74 [67,68,69,70]) 3) (v64 (Za f n)))∧(tt∧(u8s zs).all (okV (fun l=>l.blt 68) 3)=true∧tt∧tt∧tt∧True∧u8s zs=List.map (rnV (lift 68 74 [67,68,69,70]) 3) (u8s zs))∧True)∧(tt∧n≤n)∧(tt∧N≤N)∧True)∧True∧(rr (Value.agg { toList:=(frL fr) })∧rr (Value.agg ⟨[.int .i64 i.op,.int .i64 i.a,.int .i64 i.b,.int .i64 i.c,.int .i64 i.m]⟩)∧rr (Value.pointer (some ⟨70,0,none⟩))∧True)∧((tt∧tt∧tt∧tt∧tt∧True∧rr [Value.pointer (some ⟨69,0,none⟩),.slice (some ⟨67,0,none⟩) N 9223372036854775875])∧(tt∧tt∧tt∧tt∧tt∧True∧rr [Value.int .i64 (↑m),.slice (some ⟨68,0,none⟩) n 9223372036854775876])∧(tt∧(v64 (Za f n)).all (okV (fun l=>l.blt 68) 3)=true∧tt∧tt∧tt∧True∧v64 (Za f n)=List.map (rnV (lift 68 74 [67,68,69,70]) 3) (v64 (Za f n)))∧(tt∧(u8s zs).all (okV (fun l=>l.blt 68) 3)=true∧tt∧tt∧tt∧True∧u8s zs=List.map (rnV (lift 68 74 [67,68,69,70]) 3) (u8s zs))∧(tt∧rc.all (okV (fun l=>l.blt 68) 3)=true∧tt∧tt∧tt∧True∧rc=List.map (rnV (lift 68 74 [67,68,69,70]) 3) rc)∧True)∧(tt∧n≤n)∧(tt∧N≤N)∧True)∧rr false)∧rr false)∧rr false)∧rr false)∧rr false)∧rr false)∧rr false)∧True∧(rr (Value.pointer (some ⟨70,0,none⟩))∧rr (Value.int .u32 0)∧rr (Value.int .i64 (↑N))∧True)∧((tt∧tt∧tt∧tt∧tt∧True∧rr [Value.pointer (some ⟨69,0,none⟩),.slice (some ⟨67,0,none⟩) N 9223372036854775875])∧(tt∧tt∧tt∧tt∧tt∧True∧rr [Value.int .i64 (↑m),.slice (some ⟨68,0,none⟩) n 9223372036854775876])∧(tt∧(v64 (Za f2 n)).all (okV (fun l=>l.blt 68) 3)=true∧tt∧tt∧tt∧True∧v64 (Za f n)=List.map (rnV (lift 68 75 [67,68,69,70]) 3) (v64 (Za f2 n)))∧(tt∧(u8s zs2).all (okV (fun l=>l.blt 68) 3)=true∧tt∧tt∧tt∧True∧u8s zs=List.map (rnV (lift 68 75 [67,68,69,70]) 3) (u8s zs2))∧True)∧(tt∧n≤n)∧(tt∧N≤N)∧True)∧decide (i.op≥(20:Int))=false)∧decide (i.op≥(20:Int))=false)∧decide (i.op≥(20:Int))=false)∧decide (i.op≥(20:Int))=false)∧rr false)∧rr false)∧rr false)∧rr false)∧((↑t:Int) !=(0:Int))=true)∧((↑t:Int) !=(0:Int))=true)∧((↑t:Int) !=(0:Int))=true)∧tt)∧Zl s s2=true)∧Zl s s2=true)∧True∧(rr (Value.pointer (some ⟨70,0,none⟩))∧True)∧((tt∧tt∧tt∧tt∧tt∧True∧rr [Value.pointer (some ⟨69,0,none⟩),.slice (some ⟨67,0,none⟩) N 9223372036854775875])∧(tt∧tt∧tt∧tt∧tt∧True∧rr [Value.int .i64 (↑m),.slice (some ⟨68,0,none⟩) n 9223372036854775876])∧(tt∧(v64 (Za f2 n)).all (okV (fun l=>l.blt 68) 3)=true∧tt∧tt∧tt∧True∧v64 (Za f n)=List.map (rnV (lift 68 75 [67,68,69,70]) 3) (v64 (Za f2 n)))∧(tt∧(u8s zs2).all (okV (fun l=>l.blt 68) 3)=true∧tt∧tt∧tt∧True∧u8s zs=List.map (rnV (lift 68 75 [67,68,69,70]) 3) (u8s zs2))∧True)∧(tt∧n≤n)∧(tt∧N≤N)∧True)∧Zl s s2=true)∧Zl s s2=true)∧Zl s s2=true)∧((↑c2:Int)==(↑c1:Int))=true)∧((↑c2:Int)==(↑c1:Int))=true)∧((↑c2:Int)==(↑c1:Int))=true)∧((↑t:Int)==(0:Int))=false)∧((↑t:Int)==(0:Int))=false)∧((↑t:Int)==(0:Int))=false)∧((↑c2:Int)==(↑c1:Int))=true)∧((↑t:Int)==(0:Int))=false)∧((↑c2:Int)==(↑c1:Int))=true):=by kernel_rfl
theorem Zly (i:In) (fr fr':Nat→Cp) (l:List Pt) (rc:List Value) (c1 c2:Nat) (s s2 zs zs2:List UInt8) (f f2:Nat→Bool) (N m n t:Nat):obs (evF Tryz.prog (Zz 3 (Zd (cdL 1 l rc (Zat rc (mvA fr i) frN t zs f N m n) c1 c2 s s2 zs zs2 f f2 N m n)) Zk) Zh 100 20 5 [Q8 fr,i.val,sl1 1 64 l.length] ⟨65,WP 1 64 (Z6 l)++ZF rc,[],0,(tb 44 11269993922560),0,True⟩)=some (Value.bool true,((((((((((((((((((((((((((((((((((((((((((((((((((True∧True∧(rr (Value.slice (some { block:=64,off:=0,spot:=some 64 }) 0 9223372036854775872)∧True)∧True∧True)∧rr false)∧True∧True∧((tt∧rc.all (okV (fun l=>l.blt 64) 3)=true∧tt∧tt∧tt∧True∧rc=List.map (rnV (lift 64 74 []) 3) rc)∧True)∧True)∧rr false)∧rr false)∧rr false)∧True∧(rr (Value.pointer (some ⟨70,0,none⟩))∧True)∧((tt∧tt∧tt∧tt∧tt∧True∧rr [Value.pointer (some ⟨69,0,none⟩),.slice (some ⟨67,0,none⟩) N 9223372036854775875])∧(tt∧tt∧tt∧tt∧tt∧True∧rr [Value.int .i64 (↑m),.slice (some ⟨68,0,none⟩) n 9223372036854775876])∧(tt∧(v64 (Za f n)).all (okV (fun l=>l.blt 68) 3)=true∧tt∧tt∧tt∧True∧v64 (Za f n)=List.map (rnV (lift 68 74 [67,68,69,70]) 3) (v64 (Za f n)))∧(tt∧(u8s zs).all (okV (fun l=>l.blt 68) 3)=true∧tt∧tt∧tt∧True∧u8s zs=List.map (rnV (lift 68 74 [67,68,69,70]) 3) (u8s zs))∧True)∧(tt∧n≤n)∧(tt∧N≤N)∧True)∧rr false)∧rr false)∧rr false)∧rr false)∧rr false)∧rr false)∧rr false)∧True∧(rr (Value.pointer (some ⟨70,0,none⟩))∧rr (Value.int .u32 0)∧rr (Value.int .i64 (↑N))∧True)∧((tt∧tt∧tt∧tt∧tt∧True∧rr [Value.pointer (some ⟨69,0,none⟩),.slice (some ⟨67,0,none⟩) N 9223372036854775875])∧(tt∧tt∧tt∧tt∧tt∧True∧rr [Value.int .i64 (↑m),.slice (some ⟨68,0,none⟩) n 9223372036854775876])∧(tt∧(v64 (Za f n)).all (okV (fun l=>l.blt 68) 3)=true∧tt∧tt∧tt∧True∧v64 (Za f n)=List.map (rnV (lift 68 74 [67,68,69,70]) 3) (v64 (Za f n)))∧(tt∧(u8s zs).all (okV (fun l=>l.blt 68) 3)=true∧tt∧tt∧tt∧True∧u8s zs=List.map (rnV (lift 68 74 [67,68,69,70]) 3) (u8s zs))∧True)∧(tt∧n≤n)∧(tt∧N≤N)∧True)∧True∧(rr (Value.agg { toList:=(frL fr) })∧rr (Value.agg ⟨[.int .i64 i.op,.int .i64 i.a,.int .i64 i.b,.int .i64 i.c,.int .i64 i.m]⟩)∧rr (Value.pointer (some ⟨70,0,none⟩))∧True)∧((tt∧tt∧tt∧tt∧tt∧True∧rr [Value.pointer (some ⟨69,0,none⟩),.slice (some ⟨67,0,none⟩) N 9223372036854775875])∧(tt∧tt∧tt∧tt∧tt∧True∧rr [Value.int .i64 (↑m),.slice (some ⟨68,0,none⟩) n 9223372036854775876])∧(tt∧(v64 (Za f n)).all (okV (fun l=>l.blt 68) 3)=true∧tt∧tt∧tt∧True∧v64 (Za f n)=List.map (rnV (lift 68 74 [67,68,69,70]) 3) (v64 (Za f n)))∧(tt∧(u8s zs).all (okV (fun l=>l.blt 68) 3)=true∧tt∧tt∧tt∧True∧u8s zs=List.map (rnV (lift 68 74 [67,68,69,70]) 3) (u8s zs))∧(tt∧rc.all (okV (fun l=>l.blt 68) 3)=true∧tt∧tt∧tt∧True∧rc=List.map (rnV (lift 68 74 [67,68,69,70]) 3) rc)∧True)∧(tt∧n≤n)∧(tt∧N≤N)∧True)∧rr false)∧rr false)∧rr false)∧rr false)∧rr false)∧rr false)∧rr false)∧True∧(rr (Value.pointer (some ⟨70,0,none⟩))∧rr (Value.int .u32 0)∧rr (Value.int .i64 (↑N))∧True)∧((tt∧tt∧tt∧tt∧tt∧True∧rr [Value.pointer (some ⟨69,0,none⟩),.slice (some ⟨67,0,none⟩) N 9223372036854775875])∧(tt∧tt∧tt∧tt∧tt∧True∧rr [Value.int .i64 (↑m),.slice (some ⟨68,0,none⟩) n 9223372036854775876])∧(tt∧(v64 (Za f2 n)).all (okV (fun l=>l.blt 68) 3)=true∧tt∧tt∧tt∧True∧v64 (Za f n)=List.map (rnV (lift 68 75 [67,68,69,70]) 3) (v64 (Za f2 n)))∧(tt∧(u8s zs2).all (okV (fun l=>l.blt 68) 3)=true∧tt∧tt∧tt∧True∧u8s zs=List.map (rnV (lift 68 75 [67,68,69,70]) 3) (u8s zs2))∧True)∧(tt∧n≤n)∧(tt∧N≤N)∧True)∧decide (i.op≥(20:Int))=true)∧decide (i.op≥(20:Int))=true)∧decide (i.op≥(20:Int))=true)∧decide (i.op≥(20:Int))=true)∧decide (i.op≤(22:Int))=true)∧decide (i.op≤(22:Int))=true)∧decide (i.op≤(22:Int))=true)∧decide (i.op≤(22:Int))=true)∧((↑t:Int) !=(0:Int))=true)∧((↑t:Int) !=(0:Int))=true)∧((↑t:Int) !=(0:Int))=true)∧tt)∧Zl s s2=true)∧Zl s s2=true)∧True∧(rr (Value.pointer (some ⟨70,0,none⟩))∧True)∧((tt∧tt∧tt∧tt∧tt∧True∧rr [Value.pointer (some ⟨69,0,none⟩),.slice (some ⟨67,0,none⟩) N 9223372036854775875])∧(tt∧tt∧tt∧tt∧tt∧True∧rr [Value.int .i64 (↑m),.slice (some ⟨68,0,none⟩) n 9223372036854775876])∧(tt∧(v64 (Za f2 n)).all (okV (fun l=>l.blt 68) 3)=true∧tt∧tt∧tt∧True∧v64 (Za f n)=List.map (rnV (lift 68 75 [67,68,69,70]) 3) (v64 (Za f2 n)))∧(tt∧(u8s zs2).all (okV (fun l=>l.blt 68) 3)=true∧tt∧tt∧tt∧True∧u8s zs=List.map (rnV (lift 68 75 [67,68,69,70]) 3) (u8s zs2))∧True)∧(tt∧n≤n)∧(tt∧N≤N)∧True)∧Zl s s2=true)∧Zl s s2=true)∧Zl s s2=true)∧((↑c2:Int)==(↑c1:Int))=true)∧((↑c2:Int)==(↑c1:Int))=true)∧((↑c2:Int)==(↑c1:Int))=true)∧((↑t:Int)==(0:Int))=false)∧((↑t:Int)==(0:Int))=false)∧((↑t:Int)==(0:Int))=false)∧((↑c2:Int)==(↑c1:Int))=true)∧((↑t:Int)==(0:Int))=false)∧((↑c2:Int)==(↑c1:Int))=true):=by kernel_rfl
theorem Zlz (i:In) (fr fr':Nat→Cp) (l:List Pt) (rc:List Value) (c1 c2:Nat) (s s2 zs zs2:List UInt8) (f f2:Nat→Bool) (N m n t:Nat):obs (evF Tryz.prog (Zz 3 (Zd (cdL 1 l rc (Zat rc (mvA fr i) frN t zs f N m n) c1 c2 s s2 zs zs2 f f2 N m n)) Zk) Zh 100 20 5 [Q8 fr,i.val,sl1 1 64 l.length] ⟨65,WP 1 64 (Z6 l)++ZF rc,[],0,(tb 44 11269931008000),0,True⟩)=some (Value.bool true,((((((((((((((((((((((((((((((((((((((((((((((((((True∧True∧(rr (Value.slice (some { block:=64,off:=0,spot:=some 64 }) 0 9223372036854775872)∧True)∧True∧True)∧rr false)∧True∧True∧((tt∧rc.all (okV (fun l=>l.blt 64) 3)=true∧tt∧tt∧tt∧True∧rc=List.map (rnV (lift 64 74 []) 3) rc)∧True)∧True)∧rr false)∧rr false)∧rr false)∧True∧(rr (Value.pointer (some ⟨70,0,none⟩))∧True)∧((tt∧tt∧tt∧tt∧tt∧True∧rr [Value.pointer (some ⟨69,0,none⟩),.slice (some ⟨67,0,none⟩) N 9223372036854775875])∧(tt∧tt∧tt∧tt∧tt∧True∧rr [Value.int .i64 (↑m),.slice (some ⟨68,0,none⟩) n 9223372036854775876])∧(tt∧(v64 (Za f n)).all (okV (fun l=>l.blt 68) 3)=true∧tt∧tt∧tt∧True∧v64 (Za f n)=List.map (rnV (lift 68 74 [67,68,69,70]) 3) (v64 (Za f n)))∧(tt∧(u8s zs).all (okV (fun l=>l.blt 68) 3)=true∧tt∧tt∧tt∧True∧u8s zs=List.map (rnV (lift 68 74 [67,68,69,70]) 3) (u8s zs))∧True)∧(tt∧n≤n)∧(tt∧N≤N)∧True)∧rr false)∧rr false)∧rr false)∧rr false)∧rr false)∧rr false)∧rr false)∧True∧(rr (Value.pointer (some ⟨70,0,none⟩))∧rr (Value.int .u32 0)∧rr (Value.int .i64 (↑N))∧True)∧((tt∧tt∧tt∧tt∧tt∧True∧rr [Value.pointer (some ⟨69,0,none⟩),.slice (some ⟨67,0,none⟩) N 9223372036854775875])∧(tt∧tt∧tt∧tt∧tt∧True∧rr [Value.int .i64 (↑m),.slice (some ⟨68,0,none⟩) n 9223372036854775876])∧(tt∧(v64 (Za f n)).all (okV (fun l=>l.blt 68) 3)=true∧tt∧tt∧tt∧True∧v64 (Za f n)=List.map (rnV (lift 68 74 [67,68,69,70]) 3) (v64 (Za f n)))∧(tt∧(u8s zs).all (okV (fun l=>l.blt 68) 3)=true∧tt∧tt∧tt∧True∧u8s zs=List.map (rnV (lift 68 74 [67,68,69,70]) 3) (u8s zs))∧True)∧(tt∧n≤n)∧(tt∧N≤N)∧True)∧True∧(rr (Value.agg { toList:=(frL fr) })∧rr (Value.agg ⟨[.int .i64 i.op,.int .i64 i.a,.int .i64 i.b,.int .i64 i.c,.int .i64 i.m]⟩)∧rr (Value.pointer (some ⟨70,0,none⟩))∧True)∧((tt∧tt∧tt∧tt∧tt∧True∧rr [Value.pointer (some ⟨69,0,none⟩),.slice (some ⟨67,0,none⟩) N 9223372036854775875])∧(tt∧tt∧tt∧tt∧tt∧True∧rr [Value.int .i64 (↑m),.slice (some ⟨68,0,none⟩) n 9223372036854775876])∧(tt∧(v64 (Za f n)).all (okV (fun l=>l.blt 68) 3)=true∧tt∧tt∧tt∧True∧v64 (Za f n)=List.map (rnV (lift 68 74 [67,68,69,70]) 3) (v64 (Za f n)))∧(tt∧(u8s zs).all (okV (fun l=>l.blt 68) 3)=true∧tt∧tt∧tt∧True∧u8s zs=List.map (rnV (lift 68 74 [67,68,69,70]) 3) (u8s zs))∧(tt∧rc.all (okV (fun l=>l.blt 68) 3)=true∧tt∧tt∧tt∧True∧rc=List.map (rnV (lift 68 74 [67,68,69,70]) 3) rc)∧True)∧(tt∧n≤n)∧(tt∧N≤N)∧True)∧rr false)∧rr false)∧rr false)∧rr false)∧rr false)∧rr false)∧rr false)∧True∧(rr (Value.pointer (some ⟨70,0,none⟩))∧rr (Value.int .u32 0)∧rr (Value.int .i64 (↑N))∧True)∧((tt∧tt∧tt∧tt∧tt∧True∧rr [Value.pointer (some ⟨69,0,none⟩),.slice (some ⟨67,0,none⟩) N 9223372036854775875])∧(tt∧tt∧tt∧tt∧tt∧True∧rr [Value.int .i64 (↑m),.slice (some ⟨68,0,none⟩) n 9223372036854775876])∧(tt∧(v64 (Za f2 n)).all (okV (fun l=>l.blt 68) 3)=true∧tt∧tt∧tt∧True∧v64 (Za f n)=List.map (rnV (lift 68 75 [67,68,69,70]) 3) (v64 (Za f2 n)))∧(tt∧(u8s zs2).all (okV (fun l=>l.blt 68) 3)=true∧tt∧tt∧tt∧True∧u8s zs=List.map (rnV (lift 68 75 [67,68,69,70]) 3) (u8s zs2))∧True)∧(tt∧n≤n)∧(tt∧N≤N)∧True)∧decide (i.op≥(20:Int))=true)∧decide (i.op≥(20:Int))=true)∧decide (i.op≥(20:Int))=true)∧decide (i.op≥(20:Int))=true)∧decide (i.op≤(22:Int))=false)∧decide (i.op≤(22:Int))=false)∧decide (i.op≤(22:Int))=false)∧decide (i.op≤(22:Int))=false)∧((↑t:Int) !=(0:Int))=true)∧((↑t:Int) !=(0:Int))=true)∧((↑t:Int) !=(0:Int))=true)∧tt)∧Zl s s2=true)∧Zl s s2=true)∧True∧(rr (Value.pointer (some ⟨70,0,none⟩))∧True)∧((tt∧tt∧tt∧tt∧tt∧True∧rr [Value.pointer (some ⟨69,0,none⟩),.slice (some ⟨67,0,none⟩) N 9223372036854775875])∧(tt∧tt∧tt∧tt∧tt∧True∧rr [Value.int .i64 (↑m),.slice (some ⟨68,0,none⟩) n 9223372036854775876])∧(tt∧(v64 (Za f2 n)).all (okV (fun l=>l.blt 68) 3)=true∧tt∧tt∧tt∧True∧v64 (Za f n)=List.map (rnV (lift 68 75 [67,68,69,70]) 3) (v64 (Za f2 n)))∧(tt∧(u8s zs2).all (okV (fun l=>l.blt 68) 3)=true∧tt∧tt∧tt∧True∧u8s zs=List.map (rnV (lift 68 75 [67,68,69,70]) 3) (u8s zs2))∧True)∧(tt∧n≤n)∧(tt∧N≤N)∧True)∧Zl s s2=true)∧Zl s s2=true)∧Zl s s2=true)∧((↑c2:Int)==(↑c1:Int))=true)∧((↑c2:Int)==(↑c1:Int))=true)∧((↑c2:Int)==(↑c1:Int))=true)∧((↑t:Int)==(0:Int))=false)∧((↑t:Int)==(0:Int))=false)∧((↑t:Int)==(0:Int))=false)∧((↑c2:Int)==(↑c1:Int))=true)∧((↑t:Int)==(0:Int))=false)∧((↑c2:Int)==(↑c1:Int))=true):=by kernel_rfl
theorem ZlA (i:In) (fr fr':Nat→Cp) (l:List Pt) (rc:List Value) (c1 c2:Nat) (s s2 zs zs2:List UInt8) (f f2:Nat→Bool) (N m n t:Nat):obs (evF Tryz.prog (Zz 3 (Zd (cdL 1 l rc (Zat rc (mvA fr i) frN t zs f N m n) c1 c2 s s2 zs zs2 f f2 N m n)) Zk) Zh 100 20 5 [Q8 fr,i.val,sl1 1 64 l.length] ⟨65,WP 1 64 (Z6 l)++ZF rc,[],0,(tb 44 11269931008000),0,True⟩)=some (Value.bool true,((((((((((((((((((((((((((((((((((((((((((((((((((True∧True∧(rr (Value.slice (some { block:=64,off:=0,spot:=some 64 }) 0 9223372036854775872)∧True)∧True∧True)∧rr false)∧True∧True∧((tt∧rc.all (okV (fun l=>l.blt 64) 3)=true∧tt∧tt∧tt∧True∧rc=List.map (rnV (lift 64 74 []) 3) rc)∧True)∧True)∧rr false)∧rr false)∧rr false)∧True∧(rr (Value.pointer (some ⟨70,0,none⟩))∧True)∧((tt∧tt∧tt∧tt∧tt∧True∧rr [Value.pointer (some ⟨69,0,none⟩),.slice (some ⟨67,0,none⟩) N 9223372036854775875])∧(tt∧tt∧tt∧tt∧tt∧True∧rr [Value.int .i64 (↑m),.slice (some ⟨68,0,none⟩) n 9223372036854775876])∧(tt∧(v64 (Za f n)).all (okV (fun l=>l.blt 68) 3)=true∧tt∧tt∧tt∧True∧v64 (Za f n)=List.map (rnV (lift 68 74 [67,68,69,70]) 3) (v64 (Za f n)))∧(tt∧(u8s zs).all (okV (fun l=>l.blt 68) 3)=true∧tt∧tt∧tt∧True∧u8s zs=List.map (rnV (lift 68 74 [67,68,69,70]) 3) (u8s zs))∧True)∧(tt∧n≤n)∧(tt∧N≤N)∧True)∧rr false)∧rr false)∧rr false)∧rr false)∧rr false)∧rr false)∧rr false)∧True∧(rr (Value.pointer (some ⟨70,0,none⟩))∧rr (Value.int .u32 0)∧rr (Value.int .i64 (↑N))∧True)∧((tt∧tt∧tt∧tt∧tt∧True∧rr [Value.pointer (some ⟨69,0,none⟩),.slice (some ⟨67,0,none⟩) N 9223372036854775875])∧(tt∧tt∧tt∧tt∧tt∧True∧rr [Value.int .i64 (↑m),.slice (some ⟨68,0,none⟩) n 9223372036854775876])∧(tt∧(v64 (Za f n)).all (okV (fun l=>l.blt 68) 3)=true∧tt∧tt∧tt∧True∧v64 (Za f n)=List.map (rnV (lift 68 74 [67,68,69,70]) 3) (v64 (Za f n)))∧(tt∧(u8s zs).all (okV (fun l=>l.blt 68) 3)=true∧tt∧tt∧tt∧True∧u8s zs=List.map (rnV (lift 68 74 [67,68,69,70]) 3) (u8s zs))∧True)∧(tt∧n≤n)∧(tt∧N≤N)∧True)∧True∧(rr (Value.agg { toList:=(frL fr) })∧rr (Value.agg ⟨[.int .i64 i.op,.int .i64 i.a,.int .i64 i.b,.int .i64 i.c,.int .i64 i.m]⟩)∧rr (Value.pointer (some ⟨70,0,none⟩))∧True)∧((tt∧tt∧tt∧tt∧tt∧True∧rr [Value.pointer (some ⟨69,0,none⟩),.slice (some ⟨67,0,none⟩) N 9223372036854775875])∧(tt∧tt∧tt∧tt∧tt∧True∧rr [Value.int .i64 (↑m),.slice (some ⟨68,0,none⟩) n 9223372036854775876])∧(tt∧(v64 (Za f n)).all (okV (fun l=>l.blt 68) 3)=true∧tt∧tt∧tt∧True∧v64 (Za f n)=List.map (rnV (lift 68 74 [67,68,69,70]) 3) (v64 (Za f n)))∧(tt∧(u8s zs).all (okV (fun l=>l.blt 68) 3)=true∧tt∧tt∧tt∧True∧u8s zs=List.map (rnV (lift 68 74 [67,68,69,70]) 3) (u8s zs))∧(tt∧rc.all (okV (fun l=>l.blt 68) 3)=true∧tt∧tt∧tt∧True∧rc=List.map (rnV (lift 68 74 [67,68,69,70]) 3) rc)∧True)∧(tt∧n≤n)∧(tt∧N≤N)∧True)∧rr false)∧rr false)∧rr false)∧rr false)∧rr false)∧rr false)∧rr false)∧True∧(rr (Value.pointer (some ⟨70,0,none⟩))∧rr (Value.int .u32 0)∧rr (Value.int .i64 (↑N))∧True)∧((tt∧tt∧tt∧tt∧tt∧True∧rr [Value.pointer (some ⟨69,0,none⟩),.slice (some ⟨67,0,none⟩) N 9223372036854775875])∧(tt∧tt∧tt∧tt∧tt∧True∧rr [Value.int .i64 (↑m),.slice (some ⟨68,0,none⟩) n 9223372036854775876])∧(tt∧(v64 (Za f2 n)).all (okV (fun l=>l.blt 68) 3)=true∧tt∧tt∧tt∧True∧v64 (Za f n)=List.map (rnV (lift 68 75 [67,68,69,70]) 3) (v64 (Za f2 n)))∧(tt∧(u8s zs2).all (okV (fun l=>l.blt 68) 3)=true∧tt∧tt∧tt∧True∧u8s zs=List.map (rnV (lift 68 75 [67,68,69,70]) 3) (u8s zs2))∧True)∧(tt∧n≤n)∧(tt∧N≤N)∧True)∧decide (i.op≥(20:Int))=true)∧decide (i.op≥(20:Int))=true)∧decide (i.op≥(20:Int))=true)∧decide (i.op≥(20:Int))=true)∧decide (i.op≤(22:Int))=false)∧decide (i.op≤(22:Int))=false)∧decide (i.op≤(22:Int))=false)∧decide (i.op≤(22:Int))=false)∧((↑t:Int) !=(0:Int))=true)∧((↑t:Int) !=(0:Int))=true)∧((↑t:Int) !=(0:Int))=true)∧tt)∧Zl s s2=true)∧Zl s s2=true)∧True∧(rr (Value.pointer (some ⟨70,0,none⟩))∧True)∧((tt∧tt∧tt∧tt∧tt∧True∧rr [Value.pointer (some ⟨69,0,none⟩),.slice (some ⟨67,0,none⟩) N 9223372036854775875])∧(tt∧tt∧tt∧tt∧tt∧True∧rr [Value.int .i64 (↑m),.slice (some ⟨68,0,none⟩) n 9223372036854775876])∧(tt∧(v64 (Za f2 n)).all (okV (fun l=>l.blt 68) 3)=true∧tt∧tt∧tt∧True∧v64 (Za f n)=List.map (rnV (lift 68 75 [67,68,69,70]) 3) (v64 (Za f2 n)))∧(tt∧(u8s zs2).all (okV (fun l=>l.blt 68) 3)=true∧tt∧tt∧tt∧True∧u8s zs=List.map (rnV (lift 68 75 [67,68,69,70]) 3) (u8s zs2))∧True)∧(tt∧n≤n)∧(tt∧N≤N)∧True)∧Zl s s2=true)∧Zl s s2=true)∧Zl s s2=true)∧((↑c2:Int)==(↑c1:Int))=true)∧((↑c2:Int)==(↑c1:Int))=true)∧((↑c2:Int)==(↑c1:Int))=true)∧((↑t:Int)==(0:Int))=false)∧((↑t:Int)==(0:Int))=false)∧((↑t:Int)==(0:Int))=false)∧((↑c2:Int)==(↑c1:Int))=true)∧((↑t:Int)==(0:Int))=false)∧((↑c2:Int)==(↑c1:Int))=true):=by kernel_rfl
theorem ZlB (i:In) (fr fr':Nat→Cp) (l:List Pt) (rc:List Value) (c1 c2:Nat) (s s2 zs zs2:List UInt8) (f f2:Nat→Bool) (N m n:Nat):obs (evF Tryz.prog (Zz 3 (Zd (cdL 1 l rc (Zat rc (mvA fr i) fr' 0 zs f N m n) c1 c2 s s2 zs zs2 f f2 N m n)) Zk) Zh 100 20 5 [Q8 fr,i.val,sl1 1 64 l.length] ⟨65,WP 1 64 (Z6 l)++ZF rc,[],0,(tb 44 17591649173504),0,True⟩)=some (Value.bool true,((((((((((((((((((((((((((((((((((((((((((((((((((True∧True∧(rr (Value.slice (some { block:=64,off:=0,spot:=some 64 }) 0 9223372036854775872)∧True)∧True∧True)∧rr false)∧True∧True∧((tt∧rc.all (okV (fun l=>l.blt 64) 3)=true∧tt∧tt∧tt∧True∧rc=List.map (rnV (lift 64 74 []) 3) rc)∧True)∧True)∧rr false)∧rr false)∧rr false)∧True∧(rr (Value.pointer (some ⟨70,0,none⟩))∧True)∧((tt∧tt∧tt∧tt∧tt∧True∧rr [Value.pointer (some ⟨69,0,none⟩),.slice (some ⟨67,0,none⟩) N 9223372036854775875])∧(tt∧tt∧tt∧tt∧tt∧True∧rr [Value.int .i64 (↑m),.slice (some ⟨68,0,none⟩) n 9223372036854775876])∧(tt∧(v64 (Za f n)).all (okV (fun l=>l.blt 68) 3)=true∧tt∧tt∧tt∧True∧v64 (Za f n)=List.map (rnV (lift 68 74 [67,68,69,70]) 3) (v64 (Za f n)))∧(tt∧(u8s zs).all (okV (fun l=>l.blt 68) 3)=true∧tt∧tt∧tt∧True∧u8s zs=List.map (rnV (lift 68 74 [67,68,69,70]) 3) (u8s zs))∧True)∧(tt∧n≤n)∧(tt∧N≤N)∧True)∧rr false)∧rr false)∧rr false)∧rr false)∧rr false)∧rr false)∧rr false)∧True∧(rr (Value.pointer (some ⟨70,0,none⟩))∧rr (Value.int .u32 0)∧rr (Value.int .i64 (↑N))∧True)∧((tt∧tt∧tt∧tt∧tt∧True∧rr [Value.pointer (some ⟨69,0,none⟩),.slice (some ⟨67,0,none⟩) N 9223372036854775875])∧(tt∧tt∧tt∧tt∧tt∧True∧rr [Value.int .i64 (↑m),.slice (some ⟨68,0,none⟩) n 9223372036854775876])∧(tt∧(v64 (Za f n)).all (okV (fun l=>l.blt 68) 3)=true∧tt∧tt∧tt∧True∧v64 (Za f n)=List.map (rnV (lift 68 74 [67,68,69,70]) 3) (v64 (Za f n)))∧(tt∧(u8s zs).all (okV (fun l=>l.blt 68) 3)=true∧tt∧tt∧tt∧True∧u8s zs=List.map (rnV (lift 68 74 [67,68,69,70]) 3) (u8s zs))∧True)∧(tt∧n≤n)∧(tt∧N≤N)∧True)∧True∧(rr (Value.agg { toList:=(frL fr) })∧rr (Value.agg ⟨[.int .i64 i.op,.int .i64 i.a,.int .i64 i.b,.int .i64 i.c,.int .i64 i.m]⟩)∧rr (Value.pointer (some ⟨70,0,none⟩))∧True)∧((tt∧tt∧tt∧tt∧tt∧True∧rr [Value.pointer (some ⟨69,0,none⟩),.slice (some ⟨67,0,none⟩) N 9223372036854775875])∧(tt∧tt∧tt∧tt∧tt∧True∧rr [Value.int .i64 (↑m),.slice (some ⟨68,0,none⟩) n 9223372036854775876])∧(tt∧(v64 (Za f n)).all (okV (fun l=>l.blt 68) 3)=true∧tt∧tt∧tt∧True∧v64 (Za f n)=List.map (rnV (lift 68 74 [67,68,69,70]) 3) (v64 (Za f n)))∧(tt∧(u8s zs).all (okV (fun l=>l.blt 68) 3)=true∧tt∧tt∧tt∧True∧u8s zs=List.map (rnV (lift 68 74 [67,68,69,70]) 3) (u8s zs))∧(tt∧rc.all (okV (fun l=>l.blt 68) 3)=true∧tt∧tt∧tt∧True∧rc=List.map (rnV (lift 68 74 [67,68,69,70]) 3) rc)∧True)∧(tt∧n≤n)∧(tt∧N≤N)∧True)∧rr false)∧rr false)∧rr false)∧rr false)∧rr false)∧rr false)∧rr false)∧True∧(rr (Value.pointer (some ⟨70,0,none⟩))∧rr (Value.int .u32 0)∧rr (Value.int .i64 (↑N))∧True)∧((tt∧tt∧tt∧tt∧tt∧True∧rr [Value.pointer (some ⟨69,0,none⟩),.slice (some ⟨67,0,none⟩) N 9223372036854775875])∧(tt∧tt∧tt∧tt∧tt∧True∧rr [Value.int .i64 (↑m),.slice (some ⟨68,0,none⟩) n 9223372036854775876])∧(tt∧(v64 (Za f2 n)).all (okV (fun l=>l.blt 68) 3)=true∧tt∧tt∧tt∧True∧v64 (Za f n)=List.map (rnV (lift 68 75 [67,68,69,70]) 3) (v64 (Za f2 n)))∧(tt∧(u8s zs2).all (okV (fun l=>l.blt 68) 3)=true∧tt∧tt∧tt∧True∧u8s zs=List.map (rnV (lift 68 75 [67,68,69,70]) 3) (u8s zs2))∧True)∧(tt∧n≤n)∧(tt∧N≤N)∧True)∧decide (i.op≥(20:Int))=false)∧decide (i.op≥(20:Int))=false)∧decide (i.op≥(20:Int))=false)∧decide (i.op≥(20:Int))=false)∧rr false)∧rr false)∧rr false)∧rr false)∧rr false)∧rr false)∧rr false)∧(!i.op==(24:Int))=true)∧Zl s s2=true)∧Zl s s2=true)∧True∧(rr (Value.pointer (some ⟨70,0,none⟩))∧True)∧((tt∧tt∧tt∧tt∧tt∧True∧rr [Value.pointer (some ⟨69,0,none⟩),.slice (some ⟨67,0,none⟩) N 9223372036854775875])∧(tt∧tt∧tt∧tt∧tt∧True∧rr [Value.int .i64 (↑m),.slice (some ⟨68,0,none⟩) n 9223372036854775876])∧(tt∧(v64 (Za f2 n)).all (okV (fun l=>l.blt 68) 3)=true∧tt∧tt∧tt∧True∧v64 (Za f n)=List.map (rnV (lift 68 75 [67,68,69,70]) 3) (v64 (Za f2 n)))∧(tt∧(u8s zs2).all (okV (fun l=>l.blt 68) 3)=true∧tt∧tt∧tt∧True∧u8s zs=List.map (rnV (lift 68 75 [67,68,69,70]) 3) (u8s zs2))∧True)∧(tt∧n≤n)∧(tt∧N≤N)∧True)∧Zl s s2=true)∧Zl s s2=true)∧Zl s s2=true)∧((↑c2:Int)==(↑c1:Int))=true)∧((↑c2:Int)==(↑c1:Int))=true)∧((↑c2:Int)==(↑c1:Int))=true)∧tt)∧tt)∧tt)∧((↑c2:Int)==(↑c1:Int))=true)∧tt)∧((↑c2:Int)==(↑c1:Int))=true):=by kernel_rfl
theorem ZlC (i:In) (fr fr':Nat→Cp) (l:List Pt) (rc:List Value) (c1 c2:Nat) (s s2 zs zs2:List UInt8) (f f2:Nat→Bool) (N m n:Nat):obs (evF Tryz.prog (Zz 3 (Zd (cdL 1 l rc (Zat rc (mvA fr i) fr' 0 zs f N m n) c1 c2 s s2 zs zs2 f f2 N m n)) Zk) Zh 100 20 5 [Q8 fr,i.val,sl1 1 64 l.length] ⟨65,WP 1 64 (Z6 l)++ZF rc,[],0,(tb 44 17591653105664),0,True⟩)=some (Value.bool true,((((((((((((((((((((((((((((((((((((((((((((((((((True∧True∧(rr (Value.slice (some { block:=64,off:=0,spot:=some 64 }) 0 9223372036854775872)∧True)∧True∧True)∧rr false)∧True∧True∧((tt∧rc.all (okV (fun l=>l.blt 64) 3)=true∧tt∧tt∧tt∧True∧rc=List.map (rnV (lift 64 74 []) 3) rc)∧True)∧True)∧rr false)∧rr false)∧rr false)∧True∧(rr (Value.pointer (some ⟨70,0,none⟩))∧True)∧((tt∧tt∧tt∧tt∧tt∧True∧rr [Value.pointer (some ⟨69,0,none⟩),.slice (some ⟨67,0,none⟩) N 9223372036854775875])∧(tt∧tt∧tt∧tt∧tt∧True∧rr [Value.int .i64 (↑m),.slice (some ⟨68,0,none⟩) n 9223372036854775876])∧(tt∧(v64 (Za f n)).all (okV (fun l=>l.blt 68) 3)=true∧tt∧tt∧tt∧True∧v64 (Za f n)=List.map (rnV (lift 68 74 [67,68,69,70]) 3) (v64 (Za f n)))∧(tt∧(u8s zs).all (okV (fun l=>l.blt 68) 3)=true∧tt∧tt∧tt∧True∧u8s zs=List.map (rnV (lift 68 74 [67,68,69,70]) 3) (u8s zs))∧True)∧(tt∧n≤n)∧(tt∧N≤N)∧True)∧rr false)∧rr false)∧rr false)∧rr false)∧rr false)∧rr false)∧rr false)∧True∧(rr (Value.pointer (some ⟨70,0,none⟩))∧rr (Value.int .u32 0)∧rr (Value.int .i64 (↑N))∧True)∧((tt∧tt∧tt∧tt∧tt∧True∧rr [Value.pointer (some ⟨69,0,none⟩),.slice (some ⟨67,0,none⟩) N 9223372036854775875])∧(tt∧tt∧tt∧tt∧tt∧True∧rr [Value.int .i64 (↑m),.slice (some ⟨68,0,none⟩) n 9223372036854775876])∧(tt∧(v64 (Za f n)).all (okV (fun l=>l.blt 68) 3)=true∧tt∧tt∧tt∧True∧v64 (Za f n)=List.map (rnV (lift 68 74 [67,68,69,70]) 3) (v64 (Za f n)))∧(tt∧(u8s zs).all (okV (fun l=>l.blt 68) 3)=true∧tt∧tt∧tt∧True∧u8s zs=List.map (rnV (lift 68 74 [67,68,69,70]) 3) (u8s zs))∧True)∧(tt∧n≤n)∧(tt∧N≤N)∧True)∧True∧(rr (Value.agg { toList:=(frL fr) })∧rr (Value.agg ⟨[.int .i64 i.op,.int .i64 i.a,.int .i64 i.b,.int .i64 i.c,.int .i64 i.m]⟩)∧rr (Value.pointer (some ⟨70,0,none⟩))∧True)∧((tt∧tt∧tt∧tt∧tt∧True∧rr [Value.pointer (some ⟨69,0,none⟩),.slice (some ⟨67,0,none⟩) N 9223372036854775875])∧(tt∧tt∧tt∧tt∧tt∧True∧rr [Value.int .i64 (↑m),.slice (some ⟨68,0,none⟩) n 9223372036854775876])∧(tt∧(v64 (Za f n)).all (okV (fun l=>l.blt 68) 3)=true∧tt∧tt∧tt∧True∧v64 (Za f n)=List.map (rnV (lift 68 74 [67,68,69,70]) 3) (v64 (Za f n)))∧(tt∧(u8s zs).all (okV (fun l=>l.blt 68) 3)=true∧tt∧tt∧tt∧True∧u8s zs=List.map (rnV (lift 68 74 [67,68,69,70]) 3) (u8s zs))∧(tt∧rc.all (okV (fun l=>l.blt 68) 3)=true∧tt∧tt∧tt∧True∧rc=List.map (rnV (lift 68 74 [67,68,69,70]) 3) rc)∧True)∧(tt∧n≤n)∧(tt∧N≤N)∧True)∧rr false)∧rr false)∧rr false)∧rr false)∧rr false)∧rr false)∧rr false)∧True∧(rr (Value.pointer (some ⟨70,0,none⟩))∧rr (Value.int .u32 0)∧rr (Value.int .i64 (↑N))∧True)∧((tt∧tt∧tt∧tt∧tt∧True∧rr [Value.pointer (some ⟨69,0,none⟩),.slice (some ⟨67,0,none⟩) N 9223372036854775875])∧(tt∧tt∧tt∧tt∧tt∧True∧rr [Value.int .i64 (↑m),.slice (some ⟨68,0,none⟩) n 9223372036854775876])∧(tt∧(v64 (Za f2 n)).all (okV (fun l=>l.blt 68) 3)=true∧tt∧tt∧tt∧True∧v64 (Za f n)=List.map (rnV (lift 68 75 [67,68,69,70]) 3) (v64 (Za f2 n)))∧(tt∧(u8s zs2).all (okV (fun l=>l.blt 68) 3)=true∧tt∧tt∧tt∧True∧u8s zs=List.map (rnV (lift 68 75 [67,68,69,70]) 3) (u8s zs2))∧True)∧(tt∧n≤n)∧(tt∧N≤N)∧True)∧decide (i.op≥(20:Int))=true)∧decide (i.op≥(20:Int))=true)∧decide (i.op≥(20:Int))=true)∧decide (i.op≥(20:Int))=true)∧decide (i.op≤(22:Int))=false)∧decide (i.op≤(22:Int))=false)∧decide (i.op≤(22:Int))=false)∧decide (i.op≤(22:Int))=false)∧rr false)∧rr false)∧rr false)∧(!i.op==(24:Int))=true)∧Zl s s2=true)∧Zl s s2=true)∧True∧(rr (Value.pointer (some ⟨70,0,none⟩))∧True)∧((tt∧tt∧tt∧tt∧tt∧True∧rr [Value.pointer (some ⟨69,0,none⟩),.slice (some ⟨67,0,none⟩) N 9223372036854775875])∧(tt∧tt∧tt∧tt∧tt∧True∧rr [Value.int .i64 (↑m),.slice (some ⟨68,0,none⟩) n 9223372036854775876])∧(tt∧(v64 (Za f2 n)).all (okV (fun l=>l.blt 68) 3)=true∧tt∧tt∧tt∧True∧v64 (Za f n)=List.map (rnV (lift 68 75 [67,68,69,70]) 3) (v64 (Za f2 n)))∧(tt∧(u8s zs2).all (okV (fun l=>l.blt 68) 3)=true∧tt∧tt∧tt∧True∧u8s zs=List.map (rnV (lift 68 75 [67,68,69,70]) 3) (u8s zs2))∧True)∧(tt∧n≤n)∧(tt∧N≤N)∧True)∧Zl s s2=true)∧Zl s s2=true)∧Zl s s2=true)∧((↑c2:Int)==(↑c1:Int))=true)∧((↑c2:Int)==(↑c1:Int))=true)∧((↑c2:Int)==(↑c1:Int))=true)∧tt)∧tt)∧tt)∧((↑c2:Int)==(↑c1:Int))=true)∧tt)∧((↑c2:Int)==(↑c1:Int))=true):=by kernel_rfl
theorem ZnQ (i:In) (fr fr':Nat→Cp) (l:List Pt) (rc:List Value) (c1 c2:Nat) (s s2 zs zs2:List UInt8) (f f2:Nat→Bool) (N m n:Nat):obs (evF Tryz.prog (Zz 3 (Zd (cdL 1 l rc (Zhc rc (mvA fr i) fr' zs zs2 f f2 N m n) c1 c2 s s2 zs zs2 f f2 N m n)) Zk) Zh 100 20 5 [Q8 fr,i.val,sl1 1 64 l.length] ⟨65,WP 1 64 (Z6 l)++ZF rc,[],0,(tb 39 548748918784),0,True⟩)=some (Value.bool (decide ((↑c2:Int)≤(↑c1:Int))),(((((((((((((((((((((((((((((((((((((((((((((True∧True∧(rr (Value.slice (some { block:=64,off:=0,spot:=some 64 }) 0 9223372036854775872)∧True)∧True∧True)∧rr false)∧True∧True∧((tt∧rc.all (okV (fun l=>l.blt 64) 3)=true∧tt∧tt∧tt∧True∧rc=List.map (rnV (lift 64 74 []) 3) rc)∧True)∧True)∧rr false)∧rr false)∧rr false)∧True∧(rr (Value.pointer (some ⟨70,0,none⟩))∧True)∧((tt∧tt∧tt∧tt∧tt∧True∧rr [Value.pointer (some ⟨69,0,none⟩),.slice (some ⟨67,0,none⟩) N 9223372036854775875])∧(tt∧tt∧tt∧tt∧tt∧True∧rr [Value.int .i64 (↑m),.slice (some ⟨68,0,none⟩) n 9223372036854775876])∧(tt∧(v64 (Za f n)).all (okV (fun l=>l.blt 68) 3)=true∧tt∧tt∧tt∧True∧v64 (Za f n)=List.map (rnV (lift 68 74 [67,68,69,70]) 3) (v64 (Za f n)))∧(tt∧(u8s zs).all (okV (fun l=>l.blt 68) 3)=true∧tt∧tt∧tt∧True∧u8s zs=List.map (rnV (lift 68 74 [67,68,69,70]) 3) (u8s zs))∧True)∧(tt∧n≤n)∧(tt∧N≤N)∧True)∧rr false)∧rr false)∧rr false)∧rr false)∧rr false)∧rr false)∧rr false)∧True∧(rr (Value.pointer (some ⟨70,0,none⟩))∧rr (Value.int .u32 0)∧rr (Value.int .i64 (↑N))∧True)∧((tt∧tt∧tt∧tt∧tt∧True∧rr [Value.pointer (some ⟨69,0,none⟩),.slice (some ⟨67,0,none⟩) N 9223372036854775875])∧(tt∧tt∧tt∧tt∧tt∧True∧rr [Value.int .i64 (↑m),.slice (some ⟨68,0,none⟩) n 9223372036854775876])∧(tt∧(v64 (Za f n)).all (okV (fun l=>l.blt 68) 3)=true∧tt∧tt∧tt∧True∧v64 (Za f n)=List.map (rnV (lift 68 74 [67,68,69,70]) 3) (v64 (Za f n)))∧(tt∧(u8s zs).all (okV (fun l=>l.blt 68) 3)=true∧tt∧tt∧tt∧True∧u8s zs=List.map (rnV (lift 68 74 [67,68,69,70]) 3) (u8s zs))∧True)∧(tt∧n≤n)∧(tt∧N≤N)∧True)∧True∧(rr (Value.agg { toList:=(frL fr) })∧rr (Value.agg ⟨[.int .i64 i.op,.int .i64 i.a,.int .i64 i.b,.int .i64 i.c,.int .i64 i.m]⟩)∧rr (Value.pointer (some ⟨70,0,none⟩))∧True)∧((tt∧tt∧tt∧tt∧tt∧True∧rr [Value.pointer (some ⟨69,0,none⟩),.slice (some ⟨67,0,none⟩) N 9223372036854775875])∧(tt∧tt∧tt∧tt∧tt∧True∧rr [Value.int .i64 (↑m),.slice (some ⟨68,0,none⟩) n 9223372036854775876])∧(tt∧(v64 (Za f n)).all (okV (fun l=>l.blt 68) 3)=true∧tt∧tt∧tt∧True∧v64 (Za f n)=List.map (rnV (lift 68 74 [67,68,69,70]) 3) (v64 (Za f n)))∧(tt∧(u8s zs).all (okV (fun l=>l.blt 68) 3)=true∧tt∧tt∧tt∧True∧u8s zs=List.map (rnV (lift 68 74 [67,68,69,70]) 3) (u8s zs))∧(tt∧rc.all (okV (fun l=>l.blt 68) 3)=true∧tt∧tt∧tt∧True∧rc=List.map (rnV (lift 68 74 [67,68,69,70]) 3) rc)∧True)∧(tt∧n≤n)∧(tt∧N≤N)∧True)∧rr false)∧rr false)∧rr false)∧rr false)∧rr false)∧rr false)∧rr false)∧True∧(rr (Value.pointer (some ⟨70,0,none⟩))∧rr (Value.int .u32 0)∧rr (Value.int .i64 (↑N))∧True)∧((tt∧tt∧tt∧tt∧tt∧True∧rr [Value.pointer (some ⟨69,0,none⟩),.slice (some ⟨67,0,none⟩) N 9223372036854775875])∧(tt∧tt∧tt∧tt∧tt∧True∧rr [Value.int .i64 (↑m),.slice (some ⟨68,0,none⟩) n 9223372036854775876])∧(tt∧(v64 (Za f2 n)).all (okV (fun l=>l.blt 68) 3)=true∧tt∧tt∧tt∧True∧v64 (Za f2 n)=List.map (rnV (lift 68 75 [67,68,69,70]) 3) (v64 (Za f2 n)))∧(tt∧(u8s zs2).all (okV (fun l=>l.blt 68) 3)=true∧tt∧tt∧tt∧True∧u8s zs2=List.map (rnV (lift 68 75 [67,68,69,70]) 3) (u8s zs2))∧True)∧(tt∧n≤n)∧(tt∧N≤N)∧True)∧decide (i.op≥(20:Int))=true)∧decide (i.op≥(20:Int))=true)∧decide (i.op≥(20:Int))=true)∧decide (i.op≥(20:Int))=true)∧decide (i.op≤(22:Int))=true)∧decide (i.op≤(22:Int))=true)∧decide (i.op≤(22:Int))=true)∧decide (i.op≤(22:Int))=true)∧rr false)∧rr false)∧rr false)∧rr false)∧(i.op !=(24:Int))=true)∧(i.op !=(24:Int))=true)∧(i.op !=(24:Int))=true)∧(i.op !=(24:Int))=true)∧(i.op !=(24:Int))=true)∧(i.op !=(24:Int))=true)∧(i.op !=(24:Int))=true)∧(i.op !=(24:Int))=true)∧tt)∧True∧(rr (Value.pointer (some ⟨70,0,none⟩))∧True)∧((tt∧tt∧tt∧tt∧tt∧True∧rr [Value.pointer (some ⟨69,0,none⟩),.slice (some ⟨67,0,none⟩) N 9223372036854775875])∧(tt∧tt∧tt∧tt∧tt∧True∧rr [Value.int .i64 (↑m),.slice (some ⟨68,0,none⟩) n 9223372036854775876])∧(tt∧(v64 (Za f2 n)).all (okV (fun l=>l.blt 68) 3)=true∧tt∧tt∧tt∧True∧v64 (Za f2 n)=List.map (rnV (lift 68 75 [67,68,69,70]) 3) (v64 (Za f2 n)))∧(tt∧(u8s zs2).all (okV (fun l=>l.blt 68) 3)=true∧tt∧tt∧tt∧True∧u8s zs2=List.map (rnV (lift 68 75 [67,68,69,70]) 3) (u8s zs2))∧True)∧(tt∧n≤n)∧(tt∧N≤N)∧True):=by kernel_rfl
theorem ZnR (i:In) (fr fr':Nat→Cp) (l:List Pt) (rc:List Value) (c1 c2:Nat) (s s2 zs zs2:List UInt8) (f f2:Nat→Bool) (N m n:Nat):obs (evF Tryz.prog (Zz 3 (Zd (cdL 1 l rc (Zhc rc (mvA fr i) fr' zs zs2 f f2 N m n) c1 c2 s s2 zs zs2 f f2 N m n)) Zk) Zh 100 20 5 [Q8 fr,i.val,sl1 1 64 l.length] ⟨65,WP 1 64 (Z6 l)++ZF rc,[],0,(tb 39 274881839104),0,True⟩)=some (Value.bool (decide ((↑c2:Int)≤(↑c1:Int))),((((bif ZI (0+i.a.toNat*8+7+1) (frL fr)&&Zi [Value.bool false] (frL fr) (0+i.a.toNat*8+7) then((bif decide ((0:Int)≤i.a)&&decide (i.a<(16:Int)) then(((((((((((((((((((((((((((((((((((((((True∧True∧(rr (Value.slice (some { block:=64,off:=0,spot:=some 64 }) 0 9223372036854775872)∧True)∧True∧True)∧rr false)∧True∧True∧((tt∧rc.all (okV (fun l=>l.blt 64) 3)=true∧tt∧tt∧tt∧True∧rc=List.map (rnV (lift 64 74 []) 3) rc)∧True)∧True)∧rr false)∧rr false)∧rr false)∧True∧(rr (Value.pointer (some ⟨70,0,none⟩))∧True)∧((tt∧tt∧tt∧tt∧tt∧True∧rr [Value.pointer (some ⟨69,0,none⟩),.slice (some ⟨67,0,none⟩) N 9223372036854775875])∧(tt∧tt∧tt∧tt∧tt∧True∧rr [Value.int .i64 (↑m),.slice (some ⟨68,0,none⟩) n 9223372036854775876])∧(tt∧(v64 (Za f n)).all (okV (fun l=>l.blt 68) 3)=true∧tt∧tt∧tt∧True∧v64 (Za f n)=List.map (rnV (lift 68 74 [67,68,69,70]) 3) (v64 (Za f n)))∧(tt∧(u8s zs).all (okV (fun l=>l.blt 68) 3)=true∧tt∧tt∧tt∧True∧u8s zs=List.map (rnV (lift 68 74 [67,68,69,70]) 3) (u8s zs))∧True)∧(tt∧n≤n)∧(tt∧N≤N)∧True)∧rr false)∧rr false)∧rr false)∧rr false)∧rr false)∧rr false)∧rr false)∧True∧(rr (Value.pointer (some ⟨70,0,none⟩))∧rr (Value.int .u32 0)∧rr (Value.int .i64 (↑N))∧True)∧((tt∧tt∧tt∧tt∧tt∧True∧rr [Value.pointer (some ⟨69,0,none⟩),.slice (some ⟨67,0,none⟩) N 9223372036854775875])∧(tt∧tt∧tt∧tt∧tt∧True∧rr [Value.int .i64 (↑m),.slice (some ⟨68,0,none⟩) n 9223372036854775876])∧(tt∧(v64 (Za f n)).all (okV (fun l=>l.blt 68) 3)=true∧tt∧tt∧tt∧True∧v64 (Za f n)=List.map (rnV (lift 68 74 [67,68,69,70]) 3) (v64 (Za f n)))∧(tt∧(u8s zs).all (okV (fun l=>l.blt 68) 3)=true∧tt∧tt∧tt∧True∧u8s zs=List.map (rnV (lift 68 74 [67,68,69,70]) 3) (u8s zs))∧True)∧(tt∧n≤n)∧(tt∧N≤N)∧True)∧True∧(rr (Value.agg { toList:=(frL fr) })∧rr (Value.agg ⟨[.int .i64 i.op,.int .i64 i.a,.int .i64 i.b,.int .i64 i.c,.int .i64 i.m]⟩)∧rr (Value.pointer (some ⟨70,0,none⟩))∧True)∧((tt∧tt∧tt∧tt∧tt∧True∧rr [Value.pointer (some ⟨69,0,none⟩),.slice (some ⟨67,0,none⟩) N 9223372036854775875])∧(tt∧tt∧tt∧tt∧tt∧True∧rr [Value.int .i64 (↑m),.slice (some ⟨68,0,none⟩) n 9223372036854775876])∧(tt∧(v64 (Za f n)).all (okV (fun l=>l.blt 68) 3)=true∧tt∧tt∧tt∧True∧v64 (Za f n)=List.map (rnV (lift 68 74 [67,68,69,70]) 3) (v64 (Za f n)))∧(tt∧(u8s zs).all (okV (fun l=>l.blt 68) 3)=true∧tt∧tt∧tt∧True∧u8s zs=List.map (rnV (lift 68 74 [67,68,69,70]) 3) (u8s zs))∧(tt∧rc.all (okV (fun l=>l.blt 68) 3)=true∧tt∧tt∧tt∧True∧rc=List.map (rnV (lift 68 74 [67,68,69,70]) 3) rc)∧True)∧(tt∧n≤n)∧(tt∧N≤N)∧True)∧rr false)∧rr false)∧rr false)∧rr false)∧rr false)∧rr false)∧rr false)∧True∧(rr (Value.pointer (some ⟨70,0,none⟩))∧rr (Value.int .u32 0)∧rr (Value.int .i64 (↑N))∧True)∧((tt∧tt∧tt∧tt∧tt∧True∧rr [Value.pointer (some ⟨69,0,none⟩),.slice (some ⟨67,0,none⟩) N 9223372036854775875])∧(tt∧tt∧tt∧tt∧tt∧True∧rr [Value.int .i64 (↑m),.slice (some ⟨68,0,none⟩) n 9223372036854775876])∧(tt∧(v64 (Za f2 n)).all (okV (fun l=>l.blt 68) 3)=true∧tt∧tt∧tt∧True∧v64 (Za f2 n)=List.map (rnV (lift 68 75 [67,68,69,70]) 3) (v64 (Za f2 n)))∧(tt∧(u8s zs2).all (okV (fun l=>l.blt 68) 3)=true∧tt∧tt∧tt∧True∧u8s zs2=List.map (rnV (lift 68 75 [67,68,69,70]) 3) (u8s zs2))∧True)∧(tt∧n≤n)∧(tt∧N≤N)∧True)∧decide (i.op≥(20:Int))=true)∧decide (i.op≥(20:Int))=true)∧decide (i.op≥(20:Int))=true)∧decide (i.op≥(20:Int))=true)∧decide (i.op≤(22:Int))=false)∧decide (i.op≤(22:Int))=false)∧decide (i.op≤(22:Int))=false)∧decide (i.op≤(22:Int))=false)∧rr false)∧rr false)∧rr false)∧(!i.op==(24:Int))=false)∧(i.op !=(24:Int))=false)∧(i.op !=(24:Int))=false)∧(i.op !=(24:Int))=false)∧(i.op !=(24:Int))=false else False)∧(i.op !=(24:Int))=false)∧(i.op !=(24:Int))=false else False)∧(i.op !=(24:Int))=false)∧(i.op !=(24:Int))=false)∧(!Zv (Zc undef (frL fr) (0+i.a.toNat*8+7)))=true)∧True∧(rr (Value.pointer (some ⟨70,0,none⟩))∧True)∧((tt∧tt∧tt∧tt∧tt∧True∧rr [Value.pointer (some ⟨69,0,none⟩),.slice (some ⟨67,0,none⟩) N 9223372036854775875])∧(tt∧tt∧tt∧tt∧tt∧True∧rr [Value.int .i64 (↑m),.slice (some ⟨68,0,none⟩) n 9223372036854775876])∧(tt∧(v64 (Za f2 n)).all (okV (fun l=>l.blt 68) 3)=true∧tt∧tt∧tt∧True∧v64 (Za f2 n)=List.map (rnV (lift 68 75 [67,68,69,70]) 3) (v64 (Za f2 n)))∧(tt∧(u8s zs2).all (okV (fun l=>l.blt 68) 3)=true∧tt∧tt∧tt∧True∧u8s zs2=List.map (rnV (lift 68 75 [67,68,69,70]) 3) (u8s zs2))∧True)∧(tt∧n≤n)∧(tt∧N≤N)∧True):=by kernel_rfl
theorem ZnS (i:In) (fr fr':Nat→Cp) (l:List Pt) (rc:List Value) (c1 c2:Nat) (s s2 zs zs2:List UInt8) (f f2:Nat→Bool) (N m n:Nat):obs (evF Tryz.prog (Zz 3 (Zd (cdL 1 l rc (Zhc rc (mvA fr i) fr' zs zs2 f f2 N m n) c1 c2 s s2 zs zs2 f f2 N m n)) Zk) Zh 100 20 5 [Q8 fr,i.val,sl1 1 64 l.length] ⟨65,WP 1 64 (Z6 l)++ZF rc,[],0,(tb 39 3932160),0,True⟩)=some (Value.bool (decide ((↑c2:Int)≤i64.wrap ((↑c1:Int)+(1:Int)))),((((bif ZI (0+i.a.toNat*8+7+1) (frL fr)&&Zi [Value.bool false] (frL fr) (0+i.a.toNat*8+7) then((bif decide ((0:Int)≤i.a)&&decide (i.a<(16:Int)) then(((((((((((((((((((((((((((((((((((((((True∧True∧(rr (Value.slice (some { block:=64,off:=0,spot:=some 64 }) 0 9223372036854775872)∧True)∧True∧True)∧rr false)∧True∧True∧((tt∧rc.all (okV (fun l=>l.blt 64) 3)=true∧tt∧tt∧tt∧True∧rc=List.map (rnV (lift 64 74 []) 3) rc)∧True)∧True)∧rr false)∧rr false)∧rr false)∧True∧(rr (Value.pointer (some ⟨70,0,none⟩))∧True)∧((tt∧tt∧tt∧tt∧tt∧True∧rr [Value.pointer (some ⟨69,0,none⟩),.slice (some ⟨67,0,none⟩) N 9223372036854775875])∧(tt∧tt∧tt∧tt∧tt∧True∧rr [Value.int .i64 (↑m),.slice (some ⟨68,0,none⟩) n 9223372036854775876])∧(tt∧(v64 (Za f n)).all (okV (fun l=>l.blt 68) 3)=true∧tt∧tt∧tt∧True∧v64 (Za f n)=List.map (rnV (lift 68 74 [67,68,69,70]) 3) (v64 (Za f n)))∧(tt∧(u8s zs).all (okV (fun l=>l.blt 68) 3)=true∧tt∧tt∧tt∧True∧u8s zs=List.map (rnV (lift 68 74 [67,68,69,70]) 3) (u8s zs))∧True)∧(tt∧n≤n)∧(tt∧N≤N)∧True)∧rr false)∧rr false)∧rr false)∧rr false)∧rr false)∧rr false)∧rr false)∧True∧(rr (Value.pointer (some ⟨70,0,none⟩))∧rr (Value.int .u32 0)∧rr (Value.int .i64 (↑N))∧True)∧((tt∧tt∧tt∧tt∧tt∧True∧rr [Value.pointer (some ⟨69,0,none⟩),.slice (some ⟨67,0,none⟩) N 9223372036854775875])∧(tt∧tt∧tt∧tt∧tt∧True∧rr [Value.int .i64 (↑m),.slice (some ⟨68,0,none⟩) n 9223372036854775876])∧(tt∧(v64 (Za f n)).all (okV (fun l=>l.blt 68) 3)=true∧tt∧tt∧tt∧True∧v64 (Za f n)=List.map (rnV (lift 68 74 [67,68,69,70]) 3) (v64 (Za f n)))∧(tt∧(u8s zs).all (okV (fun l=>l.blt 68) 3)=true∧tt∧tt∧tt∧True∧u8s zs=List.map (rnV (lift 68 74 [67,68,69,70]) 3) (u8s zs))∧True)∧(tt∧n≤n)∧(tt∧N≤N)∧True)∧True∧(rr (Value.agg { toList:=(frL fr) })∧rr (Value.agg ⟨[.int .i64 i.op,.int .i64 i.a,.int .i64 i.b,.int .i64 i.c,.int .i64 i.m]⟩)∧rr (Value.pointer (some ⟨70,0,none⟩))∧True)∧((tt∧tt∧tt∧tt∧tt∧True∧rr [Value.pointer (some ⟨69,0,none⟩),.slice (some ⟨67,0,none⟩) N 9223372036854775875])∧(tt∧tt∧tt∧tt∧tt∧True∧rr [Value.int .i64 (↑m),.slice (some ⟨68,0,none⟩) n 9223372036854775876])∧(tt∧(v64 (Za f n)).all (okV (fun l=>l.blt 68) 3)=true∧tt∧tt∧tt∧True∧v64 (Za f n)=List.map (rnV (lift 68 74 [67,68,69,70]) 3) (v64 (Za f n)))∧(tt∧(u8s zs).all (okV (fun l=>l.blt 68) 3)=true∧tt∧tt∧tt∧True∧u8s zs=List.map (rnV (lift 68 74 [67,68,69,70]) 3) (u8s zs))∧(tt∧rc.all (okV (fun l=>l.blt 68) 3)=true∧tt∧tt∧tt∧True∧rc=List.map (rnV (lift 68 74 [67,68,69,70]) 3) rc)∧True)∧(tt∧n≤n)∧(tt∧N≤N)∧True)∧rr false)∧rr false)∧rr false)∧rr false)∧rr false)∧rr false)∧rr false)∧True∧(rr (Value.pointer (some ⟨70,0,none⟩))∧rr (Value.int .u32 0)∧rr (Value.int .i64 (↑N))∧True)∧((tt∧tt∧tt∧tt∧tt∧True∧rr [Value.pointer (some ⟨69,0,none⟩),.slice (some ⟨67,0,none⟩) N 9223372036854775875])∧(tt∧tt∧tt∧tt∧tt∧True∧rr [Value.int .i64 (↑m),.slice (some ⟨68,0,none⟩) n 9223372036854775876])∧(tt∧(v64 (Za f2 n)).all (okV (fun l=>l.blt 68) 3)=true∧tt∧tt∧tt∧True∧v64 (Za f2 n)=List.map (rnV (lift 68 75 [67,68,69,70]) 3) (v64 (Za f2 n)))∧(tt∧(u8s zs2).all (okV (fun l=>l.blt 68) 3)=true∧tt∧tt∧tt∧True∧u8s zs2=List.map (rnV (lift 68 75 [67,68,69,70]) 3) (u8s zs2))∧True)∧(tt∧n≤n)∧(tt∧N≤N)∧True)∧decide (i.op≥(20:Int))=true)∧decide (i.op≥(20:Int))=true)∧decide (i.op≥(20:Int))=true)∧decide (i.op≥(20:Int))=true)∧decide (i.op≤(22:Int))=false)∧decide (i.op≤(22:Int))=false)∧decide (i.op≤(22:Int))=false)∧decide (i.op≤(22:Int))=false)∧rr false)∧rr false)∧rr false)∧(!i.op==(24:Int))=false)∧(i.op !=(24:Int))=false)∧(i.op !=(24:Int))=false)∧(i.op !=(24:Int))=false)∧(i.op !=(24:Int))=false else False)∧(i.op !=(24:Int))=false)∧(i.op !=(24:Int))=false else False)∧(i.op !=(24:Int))=false)∧(i.op !=(24:Int))=false)∧(!Zv (Zc undef (frL fr) (0+i.a.toNat*8+7)))=false)∧True∧(rr (Value.pointer (some ⟨70,0,none⟩))∧True)∧((tt∧tt∧tt∧tt∧tt∧True∧rr [Value.pointer (some ⟨69,0,none⟩),.slice (some ⟨67,0,none⟩) N 9223372036854775875])∧(tt∧tt∧tt∧tt∧tt∧True∧rr [Value.int .i64 (↑m),.slice (some ⟨68,0,none⟩) n 9223372036854775876])∧(tt∧(v64 (Za f2 n)).all (okV (fun l=>l.blt 68) 3)=true∧tt∧tt∧tt∧True∧v64 (Za f2 n)=List.map (rnV (lift 68 75 [67,68,69,70]) 3) (v64 (Za f2 n)))∧(tt∧(u8s zs2).all (okV (fun l=>l.blt 68) 3)=true∧tt∧tt∧tt∧True∧u8s zs2=List.map (rnV (lift 68 75 [67,68,69,70]) 3) (u8s zs2))∧True)∧(tt∧n≤n)∧(tt∧N≤N)∧True):=by kernel_rfl
theorem ZlD (i:In) (fr fr':Nat→Cp) (l:List Pt) (rc:List Value) (c1 c2:Nat) (s s2 zs zs2:List UInt8) (f f2:Nat→Bool) (N m n t:Nat):obs (evF Tryz.prog (Zz 3 (Zd (cdL 2 l rc (Zat rc (mvA fr i) frN t zs f N m n) c1 c2 s s2 zs zs2 f f2 N m n)) Zk) Zh 100 20 5 [Q8 fr,i.val,sl1 2 64 l.length] ⟨65,WP 2 64 (Z6 l)++ZF rc,[],0,(tb 44 11269927075840),0,True⟩)=some (Value.bool true,((((((((((((((((((((((((((((((((((((((((((((((((((True∧True∧(rr (Value.slice (some ⟨64,0,none⟩) l.length 9223372036854775872)∧True)∧((tt∧(Z6 l).all (okV (fun l=>l.blt 65) 3)=true∧tt∧tt∧tt∧True∧Z6 l=List.map (rnV (lift 65 67 [64]) 3) (Z6 l))∧True)∧True)∧rr false)∧True∧True∧((tt∧rc.all (okV (fun l=>l.blt 64) 3)=true∧tt∧tt∧tt∧True∧rc=List.map (rnV (lift 64 74 []) 3) rc)∧True)∧True)∧rr false)∧rr false)∧rr false)∧True∧(rr (Value.pointer (some ⟨70,0,none⟩))∧True)∧((tt∧tt∧tt∧tt∧tt∧True∧rr [Value.pointer (some ⟨69,0,none⟩),.slice (some ⟨67,0,none⟩) N 9223372036854775875])∧(tt∧tt∧tt∧tt∧tt∧True∧rr [Value.int .i64 (↑m),.slice (some ⟨68,0,none⟩) n 9223372036854775876])∧(tt∧(v64 (Za f n)).all (okV (fun l=>l.blt 68) 3)=true∧tt∧tt∧tt∧True∧v64 (Za f n)=List.map (rnV (lift 68 74 [67,68,69,70]) 3) (v64 (Za f n)))∧(tt∧(u8s zs).all (okV (fun l=>l.blt 68) 3)=true∧tt∧tt∧tt∧True∧u8s zs=List.map (rnV (lift 68 74 [67,68,69,70]) 3) (u8s zs))∧True)∧(tt∧n≤n)∧(tt∧N≤N)∧True)∧rr false)∧rr false)∧rr false)∧rr false)∧rr false)∧rr false)∧rr false)∧True∧(rr (Value.pointer (some ⟨70,0,none⟩))∧rr (Value.int .u32 0)∧rr (Value.int .i64 (↑N))∧True)∧((tt∧tt∧tt∧tt∧tt∧True∧rr [Value.pointer (some ⟨69,0,none⟩),.slice (some ⟨67,0,none⟩) N 9223372036854775875])∧(tt∧tt∧tt∧tt∧tt∧True∧rr [Value.int .i64 (↑m),.slice (some ⟨68,0,none⟩) n 9223372036854775876])∧(tt∧(v64 (Za f n)).all (okV (fun l=>l.blt 68) 3)=true∧tt∧tt∧tt∧True∧v64 (Za f n)=List.map (rnV (lift 68 74 [67,68,69,70]) 3) (v64 (Za f n)))∧(tt∧(u8s zs).all (okV (fun l=>l.blt 68) 3)=true∧tt∧tt∧tt∧True∧u8s zs=List.map (rnV (lift 68 74 [67,68,69,70]) 3) (u8s zs))∧True)∧(tt∧n≤n)∧(tt∧N≤N)∧True)∧True∧(rr (Value.agg { toList:=(frL fr) })∧rr (Value.agg ⟨[.int .i64 i.op,.int .i64 i.a,.int .i64 i.b,.int .i64 i.c,.int .i64 i.m]⟩)∧rr (Value.pointer (some ⟨70,0,none⟩))∧True)∧((tt∧tt∧tt∧tt∧tt∧True∧rr [Value.pointer (some ⟨69,0,none⟩),.slice (some ⟨67,0,none⟩) N 9223372036854775875])∧(tt∧tt∧tt∧tt∧tt∧True∧rr [Value.int .i64 (↑m),.slice (some ⟨68,0,none⟩) n 9223372036854775876])∧(tt∧(v64 (Za f n)).all (okV (fun l=>l.blt 68) 3)=true∧tt∧tt∧tt∧True∧v64 (Za f n)=List.map (rnV (lift 68 74 [67,68,69,70]) 3) (v64 (Za f n)))∧(tt∧(u8s zs).all (okV (fun l=>l.blt 68) 3)=true∧tt∧tt∧tt∧True∧u8s zs=List.map (rnV (lift 68 74 [67,68,69,70]) 3) (u8s zs))∧(tt∧rc.all (okV (fun l=>l.blt 68) 3)=true∧tt∧tt∧tt∧True∧rc=List.map (rnV (lift 68 74 [67,68,69,70]) 3) rc)∧True)∧(tt∧n≤n)∧(tt∧N≤N)∧True)∧rr false)∧rr false)∧rr false)∧rr false)∧rr false)∧rr false)∧rr false)∧True∧(rr (Value.pointer (some ⟨70,0,none⟩))∧rr (Value.int .u32 0)∧rr (Value.int .i64 (↑N))∧True)∧((tt∧tt∧tt∧tt∧tt∧True∧rr [Value.pointer (some ⟨69,0,none⟩),.slice (some ⟨67,0,none⟩) N 9223372036854775875])∧(tt∧tt∧tt∧tt∧tt∧True∧rr [Value.int .i64 (↑m),.slice (some ⟨68,0,none⟩) n 9223372036854775876])∧(tt∧(v64 (Za f2 n)).all (okV (fun l=>l.blt 68) 3)=true∧tt∧tt∧tt∧True∧v64 (Za f n)=List.map (rnV (lift 68 75 [67,68,69,70]) 3) (v64 (Za f2 n)))∧(tt∧(u8s zs2).all (okV (fun l=>l.blt 68) 3)=true∧tt∧tt∧tt∧True∧u8s zs=List.map (rnV (lift 68 75 [67,68,69,70]) 3) (u8s zs2))∧True)∧(tt∧n≤n)∧(tt∧N≤N)∧True)∧decide (i.op≥(20:Int))=false)∧decide (i.op≥(20:Int))=false)∧decide (i.op≥(20:Int))=false)∧decide (i.op≥(20:Int))=false)∧rr false)∧rr false)∧rr false)∧rr false)∧((↑t:Int) !=(0:Int))=true)∧((↑t:Int) !=(0:Int))=true)∧((↑t:Int) !=(0:Int))=true)∧tt)∧Zl s s2=true)∧Zl s s2=true)∧True∧(rr (Value.pointer (some ⟨70,0,none⟩))∧True)∧((tt∧tt∧tt∧tt∧tt∧True∧rr [Value.pointer (some ⟨69,0,none⟩),.slice (some ⟨67,0,none⟩) N 9223372036854775875])∧(tt∧tt∧tt∧tt∧tt∧True∧rr [Value.int .i64 (↑m),.slice (some ⟨68,0,none⟩) n 9223372036854775876])∧(tt∧(v64 (Za f2 n)).all (okV (fun l=>l.blt 68) 3)=true∧tt∧tt∧tt∧True∧v64 (Za f n)=List.map (rnV (lift 68 75 [67,68,69,70]) 3) (v64 (Za f2 n)))∧(tt∧(u8s zs2).all (okV (fun l=>l.blt 68) 3)=true∧tt∧tt∧tt∧True∧u8s zs=List.map (rnV (lift 68 75 [67,68,69,70]) 3) (u8s zs2))∧True)∧(tt∧n≤n)∧(tt∧N≤N)∧True)∧Zl s s2=true)∧Zl s s2=true)∧Zl s s2=true)∧((↑c2:Int)==(↑c1:Int))=true)∧((↑c2:Int)==(↑c1:Int))=true)∧((↑c2:Int)==(↑c1:Int))=true)∧((↑t:Int)==(0:Int))=false)∧((↑t:Int)==(0:Int))=false)∧((↑t:Int)==(0:Int))=false)∧((↑c2:Int)==(↑c1:Int))=true)∧((↑t:Int)==(0:Int))=false)∧((↑c2:Int)==(↑c1:Int))=true):=by kernel_rfl
theorem ZlE (i:In) (fr fr':Nat→Cp) (l:List Pt) (rc:List Value) (c1 c2:Nat) (s s2 zs zs2:List UInt8) (f f2:Nat→Bool) (N m n t:Nat):obs (evF Tryz.prog (Zz 3 (Zd (cdL 2 l rc (Zat rc (mvA fr i) frN t zs f N m n) c1 c2 s s2 zs zs2 f f2 N m n)) Zk) Zh 100 20 5 [Q8 fr,i.val,sl1 2 64 l.length] ⟨65,WP 2 64 (Z6 l)++ZF rc,[],0,(tb 44 11269993922560),0,True⟩)=some (Value.bool true,((((((((((((((((((((((((((((((((((((((((((((((((((True∧True∧(rr (Value.slice (some ⟨64,0,none⟩) l.length 9223372036854775872)∧True)∧((tt∧(Z6 l).all (okV (fun l=>l.blt 65) 3)=true∧tt∧tt∧tt∧True∧Z6 l=List.map (rnV (lift 65 67 [64]) 3) (Z6 l))∧True)∧True)∧rr false)∧True∧True∧((tt∧rc.all (okV (fun l=>l.blt 64) 3)=true∧tt∧tt∧tt∧True∧rc=List.map (rnV (lift 64 74 []) 3) rc)∧True)∧True)∧rr false)∧rr false)∧rr false)∧True∧(rr (Value.pointer (some ⟨70,0,none⟩))∧True)∧((tt∧tt∧tt∧tt∧tt∧True∧rr [Value.pointer (some ⟨69,0,none⟩),.slice (some ⟨67,0,none⟩) N 9223372036854775875])∧(tt∧tt∧tt∧tt∧tt∧True∧rr [Value.int .i64 (↑m),.slice (some ⟨68,0,none⟩) n 9223372036854775876])∧(tt∧(v64 (Za f n)).all (okV (fun l=>l.blt 68) 3)=true∧tt∧tt∧tt∧True∧v64 (Za f n)=List.map (rnV (lift 68 74 [67,68,69,70]) 3) (v64 (Za f n)))∧(tt∧(u8s zs).all (okV (fun l=>l.blt 68) 3)=true∧tt∧tt∧tt∧True∧u8s zs=List.map (rnV (lift 68 74 [67,68,69,70]) 3) (u8s zs))∧True)∧(tt∧n≤n)∧(tt∧N≤N)∧True)∧rr false)∧rr false)∧rr false)∧rr false)∧rr false)∧rr false)∧rr false)∧True∧(rr (Value.pointer (some ⟨70,0,none⟩))∧rr (Value.int .u32 0)∧rr (Value.int .i64 (↑N))∧True)∧((tt∧tt∧tt∧tt∧tt∧True∧rr [Value.pointer (some ⟨69,0,none⟩),.slice (some ⟨67,0,none⟩) N 9223372036854775875])∧(tt∧tt∧tt∧tt∧tt∧True∧rr [Value.int .i64 (↑m),.slice (some ⟨68,0,none⟩) n 9223372036854775876])∧(tt∧(v64 (Za f n)).all (okV (fun l=>l.blt 68) 3)=true∧tt∧tt∧tt∧True∧v64 (Za f n)=List.map (rnV (lift 68 74 [67,68,69,70]) 3) (v64 (Za f n)))∧(tt∧(u8s zs).all (okV (fun l=>l.blt 68) 3)=true∧tt∧tt∧tt∧True∧u8s zs=List.map (rnV (lift 68 74 [67,68,69,70]) 3) (u8s zs))∧True)∧(tt∧n≤n)∧(tt∧N≤N)∧True)∧True∧(rr (Value.agg { toList:=(frL fr) })∧rr (Value.agg ⟨[.int .i64 i.op,.int .i64 i.a,.int .i64 i.b,.int .i64 i.c,.int .i64 i.m]⟩)∧rr (Value.pointer (some ⟨70,0,none⟩))∧True)∧((tt∧tt∧tt∧tt∧tt∧True∧rr [Value.pointer (some ⟨69,0,none⟩),.slice (some ⟨67,0,none⟩) N 9223372036854775875])∧(tt∧tt∧tt∧tt∧tt∧True∧rr [Value.int .i64 (↑m),.slice (some ⟨68,0,none⟩) n 9223372036854775876])∧(tt∧(v64 (Za f n)).all (okV (fun l=>l.blt 68) 3)=true∧tt∧tt∧tt∧True∧v64 (Za f n)=List.map (rnV (lift 68 74 [67,68,69,70]) 3) (v64 (Za f n)))∧(tt∧(u8s zs).all (okV (fun l=>l.blt 68) 3)=true∧tt∧tt∧tt∧True∧u8s zs=List.map (rnV (lift 68 74 [67,68,69,70]) 3) (u8s zs))∧(tt∧rc.all (okV (fun l=>l.blt 68) 3)=true∧tt∧tt∧tt∧True∧rc=List.map (rnV (lift 68 74 [67,68,69,70]) 3) rc)∧True)∧(tt∧n≤n)∧(tt∧N≤N)∧True)∧rr false)∧rr false)∧rr false)∧rr false)∧rr false)∧rr false)∧rr false)∧True∧(rr (Value.pointer (some ⟨70,0,none⟩))∧rr (Value.int .u32 0)∧rr (Value.int .i64 (↑N))∧True)∧((tt∧tt∧tt∧tt∧tt∧True∧rr [Value.pointer (some ⟨69,0,none⟩),.slice (some ⟨67,0,none⟩) N 9223372036854775875])∧(tt∧tt∧tt∧tt∧tt∧True∧rr [Value.int .i64 (↑m),.slice (some ⟨68,0,none⟩) n 9223372036854775876])∧(tt∧(v64 (Za f2 n)).all (okV (fun l=>l.blt 68) 3)=true∧tt∧tt∧tt∧True∧v64 (Za f n)=List.map (rnV (lift 68 75 [67,68,69,70]) 3) (v64 (Za f2 n)))∧(tt∧(u8s zs2).all (okV (fun l=>l.blt 68) 3)=true∧tt∧tt∧tt∧True∧u8s zs=List.map (rnV (lift 68 75 [67,68,69,70]) 3) (u8s zs2))∧True)∧(tt∧n≤n)∧(tt∧N≤N)∧True)∧decide (i.op≥(20:Int))=true)∧decide (i.op≥(20:Int))=true)∧decide (i.op≥(20:Int))=true)∧decide (i.op≥(20:Int))=true)∧decide (i.op≤(22:Int))=true)∧decide (i.op≤(22:Int))=true)∧decide (i.op≤(22:Int))=true)∧decide (i.op≤(22:Int))=true)∧((↑t:Int) !=(0:Int))=true)∧((↑t:Int) !=(0:Int))=true)∧((↑t:Int) !=(0:Int))=true)∧tt)∧Zl s s2=true)∧Zl s s2=true)∧True∧(rr (Value.pointer (some ⟨70,0,none⟩))∧True)∧((tt∧tt∧tt∧tt∧tt∧True∧rr [Value.pointer (some ⟨69,0,none⟩),.slice (some ⟨67,0,none⟩) N 9223372036854775875])∧(tt∧tt∧tt∧tt∧tt∧True∧rr [Value.int .i64 (↑m),.slice (some ⟨68,0,none⟩) n 9223372036854775876])∧(tt∧(v64 (Za f2 n)).all (okV (fun l=>l.blt 68) 3)=true∧tt∧tt∧tt∧True∧v64 (Za f n)=List.map (rnV (lift 68 75 [67,68,69,70]) 3) (v64 (Za f2 n)))∧(tt∧(u8s zs2).all (okV (fun l=>l.blt 68) 3)=true∧tt∧tt∧tt∧True∧u8s zs=List.map (rnV (lift 68 75 [67,68,69,70]) 3) (u8s zs2))∧True)∧(tt∧n≤n)∧(tt∧N≤N)∧True)∧Zl s s2=true)∧Zl s s2=true)∧Zl s s2=true)∧((↑c2:Int)==(↑c1:Int))=true)∧((↑c2:Int)==(↑c1:Int))=true)∧((↑c2:Int)==(↑c1:Int))=true)∧((↑t:Int)==(0:Int))=false)∧((↑t:Int)==(0:Int))=false)∧((↑t:Int)==(0:Int))=false)∧((↑c2:Int)==(↑c1:Int))=true)∧((↑t:Int)==(0:Int))=false)∧((↑c2:Int)==(↑c1:Int))=true):=by kernel_rfl
theorem ZlF (i:In) (fr fr':Nat→Cp) (l:List Pt) (rc:List Value) (c1 c2:Nat) (s s2 zs zs2:List UInt8) (f f2:Nat→Bool) (N m n t:Nat):obs (evF Tryz.prog (Zz 3 (Zd (cdL 2 l rc (Zat rc (mvA fr i) frN t zs f N m n) c1 c2 s s2 zs zs2 f f2 N m n)) Zk) Zh 100 20 5 [Q8 fr,i.val,sl1 2 64 l.length] ⟨65,WP 2 64 (Z6 l)++ZF rc,[],0,(tb 44 11269931008000),0,True⟩)=some (Value.bool true,((((((((((((((((((((((((((((((((((((((((((((((((((True∧True∧(rr (Value.slice (some ⟨64,0,none⟩) l.length 9223372036854775872)∧True)∧((tt∧(Z6 l).all (okV (fun l=>l.blt 65) 3)=true∧tt∧tt∧tt∧True∧Z6 l=List.map (rnV (lift 65 67 [64]) 3) (Z6 l))∧True)∧True)∧rr false)∧True∧True∧((tt∧rc.all (okV (fun l=>l.blt 64) 3)=true∧tt∧tt∧tt∧True∧rc=List.map (rnV (lift 64 74 []) 3) rc)∧True)∧True)∧rr false)∧rr false)∧rr false)∧True∧(rr (Value.pointer (some ⟨70,0,none⟩))∧True)∧((tt∧tt∧tt∧tt∧tt∧True∧rr [Value.pointer (some ⟨69,0,none⟩),.slice (some ⟨67,0,none⟩) N 9223372036854775875])∧(tt∧tt∧tt∧tt∧tt∧True∧rr [Value.int .i64 (↑m),.slice (some ⟨68,0,none⟩) n 9223372036854775876])∧(tt∧(v64 (Za f n)).all (okV (fun l=>l.blt 68) 3)=true∧tt∧tt∧tt∧True∧v64 (Za f n)=List.map (rnV (lift 68 74 [67,68,69,70]) 3) (v64 (Za f n)))∧(tt∧(u8s zs).all (okV (fun l=>l.blt 68) 3)=true∧tt∧tt∧tt∧True∧u8s zs=List.map (rnV (lift 68 74 [67,68,69,70]) 3) (u8s zs))∧True)∧(tt∧n≤n)∧(tt∧N≤N)∧True)∧rr false)∧rr false)∧rr false)∧rr false)∧rr false)∧rr false)∧rr false)∧True∧(rr (Value.pointer (some ⟨70,0,none⟩))∧rr (Value.int .u32 0)∧rr (Value.int .i64 (↑N))∧True)∧((tt∧tt∧tt∧tt∧tt∧True∧rr [Value.pointer (some ⟨69,0,none⟩),.slice (some ⟨67,0,none⟩) N 9223372036854775875])∧(tt∧tt∧tt∧tt∧tt∧True∧rr [Value.int .i64 (↑m),.slice (some ⟨68,0,none⟩) n 9223372036854775876])∧(tt∧(v64 (Za f n)).all (okV (fun l=>l.blt 68) 3)=true∧tt∧tt∧tt∧True∧v64 (Za f n)=List.map (rnV (lift 68 74 [67,68,69,70]) 3) (v64 (Za f n)))∧(tt∧(u8s zs).all (okV (fun l=>l.blt 68) 3)=true∧tt∧tt∧tt∧True∧u8s zs=List.map (rnV (lift 68 74 [67,68,69,70]) 3) (u8s zs))∧True)∧(tt∧n≤n)∧(tt∧N≤N)∧True)∧True∧(rr (Value.agg { toList:=(frL fr) })∧rr (Value.agg ⟨[.int .i64 i.op,.int .i64 i.a,.int .i64 i.b,.int .i64 i.c,.int .i64 i.m]⟩)∧rr (Value.pointer (some ⟨70,0,none⟩))∧True)∧((tt∧tt∧tt∧tt∧tt∧True∧rr [Value.pointer (some ⟨69,0,none⟩),.slice (some ⟨67,0,none⟩) N 9223372036854775875])∧(tt∧tt∧tt∧tt∧tt∧True∧rr [Value.int .i64 (↑m),.slice (some ⟨68,0,none⟩) n 9223372036854775876])∧(tt∧(v64 (Za f n)).all (okV (fun l=>l.blt 68) 3)=true∧tt∧tt∧tt∧True∧v64 (Za f n)=List.map (rnV (lift 68 74 [67,68,69,70]) 3) (v64 (Za f n)))∧(tt∧(u8s zs).all (okV (fun l=>l.blt 68) 3)=true∧tt∧tt∧tt∧True∧u8s zs=List.map (rnV (lift 68 74 [67,68,69,70]) 3) (u8s zs))∧(tt∧rc.all (okV (fun l=>l.blt 68) 3)=true∧tt∧tt∧tt∧True∧rc=List.map (rnV (lift 68 74 [67,68,69,70]) 3) rc)∧True)∧(tt∧n≤n)∧(tt∧N≤N)∧True)∧rr false)∧rr false)∧rr false)∧rr false)∧rr false)∧rr false)∧rr false)∧True∧(rr (Value.pointer (some ⟨70,0,none⟩))∧rr (Value.int .u32 0)∧rr (Value.int .i64 (↑N))∧True)∧((tt∧tt∧tt∧tt∧tt∧True∧rr [Value.pointer (some ⟨69,0,none⟩),.slice (some ⟨67,0,none⟩) N 9223372036854775875])∧(tt∧tt∧tt∧tt∧tt∧True∧rr [Value.int .i64 (↑m),.slice (some ⟨68,0,none⟩) n 9223372036854775876])∧(tt∧(v64 (Za f2 n)).all (okV (fun l=>l.blt 68) 3)=true∧tt∧tt∧tt∧True∧v64 (Za f n)=List.map (rnV (lift 68 75 [67,68,69,70]) 3) (v64 (Za f2 n)))∧(tt∧(u8s zs2).all (okV (fun l=>l.blt 68) 3)=true∧tt∧tt∧tt∧True∧u8s zs=List.map (rnV (lift 68 75 [67,68,69,70]) 3) (u8s zs2))∧True)∧(tt∧n≤n)∧(tt∧N≤N)∧True)∧decide (i.op≥(20:Int))=true)∧decide (i.op≥(20:Int))=true)∧decide (i.op≥(20:Int))=true)∧decide (i.op≥(20:Int))=true)∧decide (i.op≤(22:Int))=false)∧decide (i.op≤(22:Int))=false)∧decide (i.op≤(22:Int))=false)∧decide (i.op≤(22:Int))=false)∧((↑t:Int) !=(0:Int))=true)∧((↑t:Int) !=(0:Int))=true)∧((↑t:Int) !=(0:Int))=true)∧tt)∧Zl s s2=true)∧Zl s s2=true)∧True∧(rr (Value.pointer (some ⟨70,0,none⟩))∧True)∧((tt∧tt∧tt∧tt∧tt∧True∧rr [Value.pointer (some ⟨69,0,none⟩),.slice (some ⟨67,0,none⟩) N 9223372036854775875])∧(tt∧tt∧tt∧tt∧tt∧True∧rr [Value.int .i64 (↑m),.slice (some ⟨68,0,none⟩) n 9223372036854775876])∧(tt∧(v64 (Za f2 n)).all (okV (fun l=>l.blt 68) 3)=true∧tt∧tt∧tt∧True∧v64 (Za f n)=List.map (rnV (lift 68 75 [67,68,69,70]) 3) (v64 (Za f2 n)))∧(tt∧(u8s zs2).all (okV (fun l=>l.blt 68) 3)=true∧tt∧tt∧tt∧True∧u8s zs=List.map (rnV (lift 68 75 [67,68,69,70]) 3) (u8s zs2))∧True)∧(tt∧n≤n)∧(tt∧N≤N)∧True)∧Zl s s2=true)∧Zl s s2=true)∧Zl s s2=true)∧((↑c2:Int)==(↑c1:Int))=true)∧((↑c2:Int)==(↑c1:Int))=true)∧((↑c2:Int)==(↑c1:Int))=true)∧((↑t:Int)==(0:Int))=false)∧((↑t:Int)==(0:Int))=false)∧((↑t:Int)==(0:Int))=false)∧((↑c2:Int)==(↑c1:Int))=true)∧((↑t:Int)==(0:Int))=false)∧((↑c2:Int)==(↑c1:Int))=true):=by kernel_rfl
theorem ZlG (i:In) (fr fr':Nat→Cp) (l:List Pt) (rc:List Value) (c1 c2:Nat) (s s2 zs zs2:List UInt8) (f f2:Nat→Bool) (N m n t:Nat):obs (evF Tryz.prog (Zz 3 (Zd (cdL 2 l rc (Zat rc (mvA fr i) frN t zs f N m n) c1 c2 s s2 zs zs2 f f2 N m n)) Zk) Zh 100 20 5 [Q8 fr,i.val,sl1 2 64 l.length] ⟨65,WP 2 64 (Z6 l)++ZF rc,[],0,(tb 44 11269931008000),0,True⟩)=some (Value.bool true,((((((((((((((((((((((((((((((((((((((((((((((((((True∧True∧(rr (Value.slice (some ⟨64,0,none⟩) l.length 9223372036854775872)∧True)∧((tt∧(Z6 l).all (okV (fun l=>l.blt 65) 3)=true∧tt∧tt∧tt∧True∧Z6 l=List.map (rnV (lift 65 67 [64]) 3) (Z6 l))∧True)∧True)∧rr false)∧True∧True∧((tt∧rc.all (okV (fun l=>l.blt 64) 3)=true∧tt∧tt∧tt∧True∧rc=List.map (rnV (lift 64 74 []) 3) rc)∧True)∧True)∧rr false)∧rr false)∧rr false)∧True∧(rr (Value.pointer (some ⟨70,0,none⟩))∧True)∧((tt∧tt∧tt∧tt∧tt∧True∧rr [Value.pointer (some ⟨69,0,none⟩),.slice (some ⟨67,0,none⟩) N 9223372036854775875])∧(tt∧tt∧tt∧tt∧tt∧True∧rr [Value.int .i64 (↑m),.slice (some ⟨68,0,none⟩) n 9223372036854775876])∧(tt∧(v64 (Za f n)).all (okV (fun l=>l.blt 68) 3)=true∧tt∧tt∧tt∧True∧v64 (Za f n)=List.map (rnV (lift 68 74 [67,68,69,70]) 3) (v64 (Za f n)))∧(tt∧(u8s zs).all (okV (fun l=>l.blt 68) 3)=true∧tt∧tt∧tt∧True∧u8s zs=List.map (rnV (lift 68 74 [67,68,69,70]) 3) (u8s zs))∧True)∧(tt∧n≤n)∧(tt∧N≤N)∧True)∧rr false)∧rr false)∧rr false)∧rr false)∧rr false)∧rr false)∧rr false)∧True∧(rr (Value.pointer (some ⟨70,0,none⟩))∧rr (Value.int .u32 0)∧rr (Value.int .i64 (↑N))∧True)∧((tt∧tt∧tt∧tt∧tt∧True∧rr [Value.pointer (some ⟨69,0,none⟩),.slice (some ⟨67,0,none⟩) N 9223372036854775875])∧(tt∧tt∧tt∧tt∧tt∧True∧rr [Value.int .i64 (↑m),.slice (some ⟨68,0,none⟩) n 9223372036854775876])∧(tt∧(v64 (Za f n)).all (okV (fun l=>l.blt 68) 3)=true∧tt∧tt∧tt∧True∧v64 (Za f n)=List.map (rnV (lift 68 74 [67,68,69,70]) 3) (v64 (Za f n)))∧(tt∧(u8s zs).all (okV (fun l=>l.blt 68) 3)=true∧tt∧tt∧tt∧True∧u8s zs=List.map (rnV (lift 68 74 [67,68,69,70]) 3) (u8s zs))∧True)∧(tt∧n≤n)∧(tt∧N≤N)∧True)∧True∧(rr (Value.agg { toList:=(frL fr) })∧rr (Value.agg ⟨[.int .i64 i.op,.int .i64 i.a,.int .i64 i.b,.int .i64 i.c,.int .i64 i.m]⟩)∧rr (Value.pointer (some ⟨70,0,none⟩))∧True)∧((tt∧tt∧tt∧tt∧tt∧True∧rr [Value.pointer (some ⟨69,0,none⟩),.slice (some ⟨67,0,none⟩) N 9223372036854775875])∧(tt∧tt∧tt∧tt∧tt∧True∧rr [Value.int .i64 (↑m),.slice (some ⟨68,0,none⟩) n 9223372036854775876])∧(tt∧(v64 (Za f n)).all (okV (fun l=>l.blt 68) 3)=true∧tt∧tt∧tt∧True∧v64 (Za f n)=List.map (rnV (lift 68 74 [67,68,69,70]) 3) (v64 (Za f n)))∧(tt∧(u8s zs).all (okV (fun l=>l.blt 68) 3)=true∧tt∧tt∧tt∧True∧u8s zs=List.map (rnV (lift 68 74 [67,68,69,70]) 3) (u8s zs))∧(tt∧rc.all (okV (fun l=>l.blt 68) 3)=true∧tt∧tt∧tt∧True∧rc=List.map (rnV (lift 68 74 [67,68,69,70]) 3) rc)∧True)∧(tt∧n≤n)∧(tt∧N≤N)∧True)∧rr false)∧rr false)∧rr false)∧rr false)∧rr false)∧rr false)∧rr false)∧True∧(rr (Value.pointer (some ⟨70,0,none⟩))∧rr (Value.int .u32 0)∧rr (Value.int .i64 (↑N))∧True)∧((tt∧tt∧tt∧tt∧tt∧True∧rr [Value.pointer (some ⟨69,0,none⟩),.slice (some ⟨67,0,none⟩) N 9223372036854775875])∧(tt∧tt∧tt∧tt∧tt∧True∧rr [Value.int .i64 (↑m),.slice (some ⟨68,0,none⟩) n 9223372036854775876])∧(tt∧(v64 (Za f2 n)).all (okV (fun l=>l.blt 68) 3)=true∧tt∧tt∧tt∧True∧v64 (Za f n)=List.map (rnV (lift 68 75 [67,68,69,70]) 3) (v64 (Za f2 n)))∧(tt∧(u8s zs2).all (okV (fun l=>l.blt 68) 3)=true∧tt∧tt∧tt∧True∧u8s zs=List.map (rnV (lift 68 75 [67,68,69,70]) 3) (u8s zs2))∧True)∧(tt∧n≤n)∧(tt∧N≤N)∧True)∧decide (i.op≥(20:Int))=true)∧decide (i.op≥(20:Int))=true)∧decide (i.op≥(20:Int))=true)∧decide (i.op≥(20:Int))=true)∧decide (i.op≤(22:Int))=false)∧decide (i.op≤(22:Int))=false)∧decide (i.op≤(22:Int))=false)∧decide (i.op≤(22:Int))=false)∧((↑t:Int) !=(0:Int))=true)∧((↑t:Int) !=(0:Int))=true)∧((↑t:Int) !=(0:Int))=true)∧tt)∧Zl s s2=true)∧Zl s s2=true)∧True∧(rr (Value.pointer (some ⟨70,0,none⟩))∧True)∧((tt∧tt∧tt∧tt∧tt∧True∧rr [Value.pointer (some ⟨69,0,none⟩),.slice (some ⟨67,0,none⟩) N 9223372036854775875])∧(tt∧tt∧tt∧tt∧tt∧True∧rr [Value.int .i64 (↑m),.slice (some ⟨68,0,none⟩) n 9223372036854775876])∧(tt∧(v64 (Za f2 n)).all (okV (fun l=>l.blt 68) 3)=true∧tt∧tt∧tt∧True∧v64 (Za f n)=List.map (rnV (lift 68 75 [67,68,69,70]) 3) (v64 (Za f2 n)))∧(tt∧(u8s zs2).all (okV (fun l=>l.blt 68) 3)=true∧tt∧tt∧tt∧True∧u8s zs=List.map (rnV (lift 68 75 [67,68,69,70]) 3) (u8s zs2))∧True)∧(tt∧n≤n)∧(tt∧N≤N)∧True)∧Zl s s2=true)∧Zl s s2=true)∧Zl s s2=true)∧((↑c2:Int)==(↑c1:Int))=true)∧((↑c2:Int)==(↑c1:Int))=true)∧((↑c2:Int)==(↑c1:Int))=true)∧((↑t:Int)==(0:Int))=false)∧((↑t:Int)==(0:Int))=false)∧((↑t:Int)==(0:Int))=false)∧((↑c2:Int)==(↑c1:Int))=true)∧((↑t:Int)==(0:Int))=false)∧((↑c2:Int)==(↑c1:Int))=true):=by kernel_rfl
theorem ZlH (i:In) (fr fr':Nat→Cp) (l:List Pt) (rc:List Value) (c1 c2:Nat) (s s2 zs zs2:List UInt8) (f f2:Nat→Bool) (N m n:Nat):obs (evF Tryz.prog (Zz 3 (Zd (cdL 2 l rc (Zat rc (mvA fr i) fr' 0 zs f N m n) c1 c2 s s2 zs zs2 f f2 N m n)) Zk) Zh 100 20 5 [Q8 fr,i.val,sl1 2 64 l.length] ⟨65,WP 2 64 (Z6 l)++ZF rc,[],0,(tb 44 17591649173504),0,True⟩)=some (Value.bool true,((((((((((((((((((((((((((((((((((((((((((((((((((True∧True∧(rr (Value.slice (some ⟨64,0,none⟩) l.length 9223372036854775872)∧True)∧((tt∧(Z6 l).all (okV (fun l=>l.blt 65) 3)=true∧tt∧tt∧tt∧True∧Z6 l=List.map (rnV (lift 65 67 [64]) 3) (Z6 l))∧True)∧True)∧rr false)∧True∧True∧((tt∧rc.all (okV (fun l=>l.blt 64) 3)=true∧tt∧tt∧tt∧True∧rc=List.map (rnV (lift 64 74 []) 3) rc)∧True)∧True)∧rr false)∧rr false)∧rr false)∧True∧(rr (Value.pointer (some ⟨70,0,none⟩))∧True)∧((tt∧tt∧tt∧tt∧tt∧True∧rr [Value.pointer (some ⟨69,0,none⟩),.slice (some ⟨67,0,none⟩) N 9223372036854775875])∧(tt∧tt∧tt∧tt∧tt∧True∧rr [Value.int .i64 (↑m),.slice (some ⟨68,0,none⟩) n 9223372036854775876])∧(tt∧(v64 (Za f n)).all (okV (fun l=>l.blt 68) 3)=true∧tt∧tt∧tt∧True∧v64 (Za f n)=List.map (rnV (lift 68 74 [67,68,69,70]) 3) (v64 (Za f n)))∧(tt∧(u8s zs).all (okV (fun l=>l.blt 68) 3)=true∧tt∧tt∧tt∧True∧u8s zs=List.map (rnV (lift 68 74 [67,68,69,70]) 3) (u8s zs))∧True)∧(tt∧n≤n)∧(tt∧N≤N)∧True)∧rr false)∧rr false)∧rr false)∧rr false)∧rr false)∧rr false)∧rr false)∧True∧(rr (Value.pointer (some ⟨70,0,none⟩))∧rr (Value.int .u32 0)∧rr (Value.int .i64 (↑N))∧True)∧((tt∧tt∧tt∧tt∧tt∧True∧rr [Value.pointer (some ⟨69,0,none⟩),.slice (some ⟨67,0,none⟩) N 9223372036854775875])∧(tt∧tt∧tt∧tt∧tt∧True∧rr [Value.int .i64 (↑m),.slice (some ⟨68,0,none⟩) n 9223372036854775876])∧(tt∧(v64 (Za f n)).all (okV (fun l=>l.blt 68) 3)=true∧tt∧tt∧tt∧True∧v64 (Za f n)=List.map (rnV (lift 68 74 [67,68,69,70]) 3) (v64 (Za f n)))∧(tt∧(u8s zs).all (okV (fun l=>l.blt 68) 3)=true∧tt∧tt∧tt∧True∧u8s zs=List.map (rnV (lift 68 74 [67,68,69,70]) 3) (u8s zs))∧True)∧(tt∧n≤n)∧(tt∧N≤N)∧True)∧True∧(rr (Value.agg { toList:=(frL fr) })∧rr (Value.agg ⟨[.int .i64 i.op,.int .i64 i.a,.int .i64 i.b,.int .i64 i.c,.int .i64 i.m]⟩)∧rr (Value.pointer (some ⟨70,0,none⟩))∧True)∧((tt∧tt∧tt∧tt∧tt∧True∧rr [Value.pointer (some ⟨69,0,none⟩),.slice (some ⟨67,0,none⟩) N 9223372036854775875])∧(tt∧tt∧tt∧tt∧tt∧True∧rr [Value.int .i64 (↑m),.slice (some ⟨68,0,none⟩) n 9223372036854775876])∧(tt∧(v64 (Za f n)).all (okV (fun l=>l.blt 68) 3)=true∧tt∧tt∧tt∧True∧v64 (Za f n)=List.map (rnV (lift 68 74 [67,68,69,70]) 3) (v64 (Za f n)))∧(tt∧(u8s zs).all (okV (fun l=>l.blt 68) 3)=true∧tt∧tt∧tt∧True∧u8s zs=List.map (rnV (lift 68 74 [67,68,69,70]) 3) (u8s zs))∧(tt∧rc.all (okV (fun l=>l.blt 68) 3)=true∧tt∧tt∧tt∧True∧rc=List.map (rnV (lift 68 74 [67,68,69,70]) 3) rc)∧True)∧(tt∧n≤n)∧(tt∧N≤N)∧True)∧rr false)∧rr false)∧rr false)∧rr false)∧rr false)∧rr false)∧rr false)∧True∧(rr (Value.pointer (some ⟨70,0,none⟩))∧rr (Value.int .u32 0)∧rr (Value.int .i64 (↑N))∧True)∧((tt∧tt∧tt∧tt∧tt∧True∧rr [Value.pointer (some ⟨69,0,none⟩),.slice (some ⟨67,0,none⟩) N 9223372036854775875])∧(tt∧tt∧tt∧tt∧tt∧True∧rr [Value.int .i64 (↑m),.slice (some ⟨68,0,none⟩) n 9223372036854775876])∧(tt∧(v64 (Za f2 n)).all (okV (fun l=>l.blt 68) 3)=true∧tt∧tt∧tt∧True∧v64 (Za f n)=List.map (rnV (lift 68 75 [67,68,69,70]) 3) (v64 (Za f2 n)))∧(tt∧(u8s zs2).all (okV (fun l=>l.blt 68) 3)=true∧tt∧tt∧tt∧True∧u8s zs=List.map (rnV (lift 68 75 [67,68,69,70]) 3) (u8s zs2))∧True)∧(tt∧n≤n)∧(tt∧N≤N)∧True)∧decide (i.op≥(20:Int))=false)∧decide (i.op≥(20:Int))=false)∧decide (i.op≥(20:Int))=false)∧decide (i.op≥(20:Int))=false)∧rr false)∧rr false)∧rr false)∧rr false)∧rr false)∧rr false)∧rr false)∧(!i.op==(24:Int))=true)∧Zl s s2=true)∧Zl s s2=true)∧True∧(rr (Value.pointer (some ⟨70,0,none⟩))∧True)∧((tt∧tt∧tt∧tt∧tt∧True∧rr [Value.pointer (some ⟨69,0,none⟩),.slice (some ⟨67,0,none⟩) N 9223372036854775875])∧(tt∧tt∧tt∧tt∧tt∧True∧rr [Value.int .i64 (↑m),.slice (some ⟨68,0,none⟩) n 9223372036854775876])∧(tt∧(v64 (Za f2 n)).all (okV (fun l=>l.blt 68) 3)=true∧tt∧tt∧tt∧True∧v64 (Za f n)=List.map (rnV (lift 68 75 [67,68,69,70]) 3) (v64 (Za f2 n)))∧(tt∧(u8s zs2).all (okV (fun l=>l.blt 68) 3)=true∧tt∧tt∧tt∧True∧u8s zs=List.map (rnV (lift 68 75 [67,68,69,70]) 3) (u8s zs2))∧True)∧(tt∧n≤n)∧(tt∧N≤N)∧True)∧Zl s s2=true)∧Zl s s2=true)∧Zl s s2=true)∧((↑c2:Int)==(↑c1:Int))=true)∧((↑c2:Int)==(↑c1:Int))=true)∧((↑c2:Int)==(↑c1:Int))=true)∧tt)∧tt)∧tt)∧((↑c2:Int)==(↑c1:Int))=true)∧tt)∧((↑c2:Int)==(↑c1:Int))=true):=by kernel_rfl
theorem ZlI (i:In) (fr fr':Nat→Cp) (l:List Pt) (rc:List Value) (c1 c2:Nat) (s s2 zs zs2:List UInt8) (f f2:Nat→Bool) (N m n:Nat):obs (evF Tryz.prog (Zz 3 (Zd (cdL 2 l rc (Zat rc (mvA fr i) fr' 0 zs f N m n) c1 c2 s s2 zs zs2 f f2 N m n)) Zk) Zh 100 20 5 [Q8 fr,i.val,sl1 2 64 l.length] ⟨65,WP 2 64 (Z6 l)++ZF rc,[],0,(tb 44 17591653105664),0,True⟩)=some (Value.bool true,((((((((((((((((((((((((((((((((((((((((((((((((((True∧True∧(rr (Value.slice (some ⟨64,0,none⟩) l.length 9223372036854775872)∧True)∧((tt∧(Z6 l).all (okV (fun l=>l.blt 65) 3)=true∧tt∧tt∧tt∧True∧Z6 l=List.map (rnV (lift 65 67 [64]) 3) (Z6 l))∧True)∧True)∧rr false)∧True∧True∧((tt∧rc.all (okV (fun l=>l.blt 64) 3)=true∧tt∧tt∧tt∧True∧rc=List.map (rnV (lift 64 74 []) 3) rc)∧True)∧True)∧rr false)∧rr false)∧rr false)∧True∧(rr (Value.pointer (some ⟨70,0,none⟩))∧True)∧((tt∧tt∧tt∧tt∧tt∧True∧rr [Value.pointer (some ⟨69,0,none⟩),.slice (some ⟨67,0,none⟩) N 9223372036854775875])∧(tt∧tt∧tt∧tt∧tt∧True∧rr [Value.int .i64 (↑m),.slice (some ⟨68,0,none⟩) n 9223372036854775876])∧(tt∧(v64 (Za f n)).all (okV (fun l=>l.blt 68) 3)=true∧tt∧tt∧tt∧True∧v64 (Za f n)=List.map (rnV (lift 68 74 [67,68,69,70]) 3) (v64 (Za f n)))∧(tt∧(u8s zs).all (okV (fun l=>l.blt 68) 3)=true∧tt∧tt∧tt∧True∧u8s zs=List.map (rnV (lift 68 74 [67,68,69,70]) 3) (u8s zs))∧True)∧(tt∧n≤n)∧(tt∧N≤N)∧True)∧rr false)∧rr false)∧rr false)∧rr false)∧rr false)∧rr false)∧rr false)∧True∧(rr (Value.pointer (some ⟨70,0,none⟩))∧rr (Value.int .u32 0)∧rr (Value.int .i64 (↑N))∧True)∧((tt∧tt∧tt∧tt∧tt∧True∧rr [Value.pointer (some ⟨69,0,none⟩),.slice (some ⟨67,0,none⟩) N 9223372036854775875])∧(tt∧tt∧tt∧tt∧tt∧True∧rr [Value.int .i64 (↑m),.slice (some ⟨68,0,none⟩) n 9223372036854775876])∧(tt∧(v64 (Za f n)).all (okV (fun l=>l.blt 68) 3)=true∧tt∧tt∧tt∧True∧v64 (Za f n)=List.map (rnV (lift 68 74 [67,68,69,70]) 3) (v64 (Za f n)))∧(tt∧(u8s zs).all (okV (fun l=>l.blt 68) 3)=true∧tt∧tt∧tt∧True∧u8s zs=List.map (rnV (lift 68 74 [67,68,69,70]) 3) (u8s zs))∧True)∧(tt∧n≤n)∧(tt∧N≤N)∧True)∧True∧(rr (Value.agg { toList:=(frL fr) })∧rr (Value.agg ⟨[.int .i64 i.op,.int .i64 i.a,.int .i64 i.b,.int .i64 i.c,.int .i64 i.m]⟩)∧rr (Value.pointer (some ⟨70,0,none⟩))∧True)∧((tt∧tt∧tt∧tt∧tt∧True∧rr [Value.pointer (some ⟨69,0,none⟩),.slice (some ⟨67,0,none⟩) N 9223372036854775875])∧(tt∧tt∧tt∧tt∧tt∧True∧rr [Value.int .i64 (↑m),.slice (some ⟨68,0,none⟩) n 9223372036854775876])∧(tt∧(v64 (Za f n)).all (okV (fun l=>l.blt 68) 3)=true∧tt∧tt∧tt∧True∧v64 (Za f n)=List.map (rnV (lift 68 74 [67,68,69,70]) 3) (v64 (Za f n)))∧(tt∧(u8s zs).all (okV (fun l=>l.blt 68) 3)=true∧tt∧tt∧tt∧True∧u8s zs=List.map (rnV (lift 68 74 [67,68,69,70]) 3) (u8s zs))∧(tt∧rc.all (okV (fun l=>l.blt 68) 3)=true∧tt∧tt∧tt∧True∧rc=List.map (rnV (lift 68 74 [67,68,69,70]) 3) rc)∧True)∧(tt∧n≤n)∧(tt∧N≤N)∧True)∧rr false)∧rr false)∧rr false)∧rr false)∧rr false)∧rr false)∧rr false)∧True∧(rr (Value.pointer (some ⟨70,0,none⟩))∧rr (Value.int .u32 0)∧rr (Value.int .i64 (↑N))∧True)∧((tt∧tt∧tt∧tt∧tt∧True∧rr [Value.pointer (some ⟨69,0,none⟩),.slice (some ⟨67,0,none⟩) N 9223372036854775875])∧(tt∧tt∧tt∧tt∧tt∧True∧rr [Value.int .i64 (↑m),.slice (some ⟨68,0,none⟩) n 9223372036854775876])∧(tt∧(v64 (Za f2 n)).all (okV (fun l=>l.blt 68) 3)=true∧tt∧tt∧tt∧True∧v64 (Za f n)=List.map (rnV (lift 68 75 [67,68,69,70]) 3) (v64 (Za f2 n)))∧(tt∧(u8s zs2).all (okV (fun l=>l.blt 68) 3)=true∧tt∧tt∧tt∧True∧u8s zs=List.map (rnV (lift 68 75 [67,68,69,70]) 3) (u8s zs2))∧True)∧(tt∧n≤n)∧(tt∧N≤N)∧True)∧decide (i.op≥(20:Int))=true)∧decide (i.op≥(20:Int))=true)∧decide (i.op≥(20:Int))=true)∧decide (i.op≥(20:Int))=true)∧decide (i.op≤(22:Int))=false)∧decide (i.op≤(22:Int))=false)∧decide (i.op≤(22:Int))=false)∧decide (i.op≤(22:Int))=false)∧rr false)∧rr false)∧rr false)∧(!i.op==(24:Int))=true)∧Zl s s2=true)∧Zl s s2=true)∧True∧(rr (Value.pointer (some ⟨70,0,none⟩))∧True)∧((tt∧tt∧tt∧tt∧tt∧True∧rr [Value.pointer (some ⟨69,0,none⟩),.slice (some ⟨67,0,none⟩) N 9223372036854775875])∧(tt∧tt∧tt∧tt∧tt∧True∧rr [Value.int .i64 (↑m),.slice (some ⟨68,0,none⟩) n 9223372036854775876])∧(tt∧(v64 (Za f2 n)).all (okV (fun l=>l.blt 68) 3)=true∧tt∧tt∧tt∧True∧v64 (Za f n)=List.map (rnV (lift 68 75 [67,68,69,70]) 3) (v64 (Za f2 n)))∧(tt∧(u8s zs2).all (okV (fun l=>l.blt 68) 3)=true∧tt∧tt∧tt∧True∧u8s zs=List.map (rnV (lift 68 75 [67,68,69,70]) 3) (u8s zs2))∧True)∧(tt∧n≤n)∧(tt∧N≤N)∧True)∧Zl s s2=true)∧Zl s s2=true)∧Zl s s2=true)∧((↑c2:Int)==(↑c1:Int))=true)∧((↑c2:Int)==(↑c1:Int))=true)∧((↑c2:Int)==(↑c1:Int))=true)∧tt)∧tt)∧tt)∧((↑c2:Int)==(↑c1:Int))=true)∧tt)∧((↑c2:Int)==(↑c1:Int))=true):=by kernel_rfl
theorem ZnT (i:In) (fr fr':Nat→Cp) (l:List Pt) (rc:List Value) (c1 c2:Nat) (s s2 zs zs2:List UInt8) (f f2:Nat→Bool) (N m n:Nat):obs (evF Tryz.prog (Zz 3 (Zd (cdL 2 l rc (Zhc rc (mvA fr i) fr' zs zs2 f f2 N m n) c1 c2 s s2 zs zs2 f f2 N m n)) Zk) Zh 100 20 5 [Q8 fr,i.val,sl1 2 64 l.length] ⟨65,WP 2 64 (Z6 l)++ZF rc,[],0,(tb 39 548748918784),0,True⟩)=some (Value.bool (decide ((↑c2:Int)≤(↑c1:Int))),(((((((((((((((((((((((((((((((((((((((((((((True∧True∧(rr (Value.slice (some ⟨64,0,none⟩) l.length 9223372036854775872)∧True)∧((tt∧(Z6 l).all (okV (fun l=>l.blt 65) 3)=true∧tt∧tt∧tt∧True∧Z6 l=List.map (rnV (lift 65 67 [64]) 3) (Z6 l))∧True)∧True)∧rr false)∧True∧True∧((tt∧rc.all (okV (fun l=>l.blt 64) 3)=true∧tt∧tt∧tt∧True∧rc=List.map (rnV (lift 64 74 []) 3) rc)∧True)∧True)∧rr false)∧rr false)∧rr false)∧True∧(rr (Value.pointer (some ⟨70,0,none⟩))∧True)∧((tt∧tt∧tt∧tt∧tt∧True∧rr [Value.pointer (some ⟨69,0,none⟩),.slice (some ⟨67,0,none⟩) N 9223372036854775875])∧(tt∧tt∧tt∧tt∧tt∧True∧rr [Value.int .i64 (↑m),.slice (some ⟨68,0,none⟩) n 9223372036854775876])∧(tt∧(v64 (Za f n)).all (okV (fun l=>l.blt 68) 3)=true∧tt∧tt∧tt∧True∧v64 (Za f n)=List.map (rnV (lift 68 74 [67,68,69,70]) 3) (v64 (Za f n)))∧(tt∧(u8s zs).all (okV (fun l=>l.blt 68) 3)=true∧tt∧tt∧tt∧True∧u8s zs=List.map (rnV (lift 68 74 [67,68,69,70]) 3) (u8s zs))∧True)∧(tt∧n≤n)∧(tt∧N≤N)∧True)∧rr false)∧rr false)∧rr false)∧rr false)∧rr false)∧rr false)∧rr false)∧True∧(rr (Value.pointer (some ⟨70,0,none⟩))∧rr (Value.int .u32 0)∧rr (Value.int .i64 (↑N))∧True)∧((tt∧tt∧tt∧tt∧tt∧True∧rr [Value.pointer (some ⟨69,0,none⟩),.slice (some ⟨67,0,none⟩) N 9223372036854775875])∧(tt∧tt∧tt∧tt∧tt∧True∧rr [Value.int .i64 (↑m),.slice (some ⟨68,0,none⟩) n 9223372036854775876])∧(tt∧(v64 (Za f n)).all (okV (fun l=>l.blt 68) 3)=true∧tt∧tt∧tt∧True∧v64 (Za f n)=List.map (rnV (lift 68 74 [67,68,69,70]) 3) (v64 (Za f n)))∧(tt∧(u8s zs).all (okV (fun l=>l.blt 68) 3)=true∧tt∧tt∧tt∧True∧u8s zs=List.map (rnV (lift 68 74 [67,68,69,70]) 3) (u8s zs))∧True)∧(tt∧n≤n)∧(tt∧N≤N)∧True)∧True∧(rr (Value.agg { toList:=(frL fr) })∧rr (Value.agg ⟨[.int .i64 i.op,.int .i64 i.a,.int .i64 i.b,.int .i64 i.c,.int .i64 i.m]⟩)∧rr (Value.pointer (some ⟨70,0,none⟩))∧True)∧((tt∧tt∧tt∧tt∧tt∧True∧rr [Value.pointer (some ⟨69,0,none⟩),.slice (some ⟨67,0,none⟩) N 9223372036854775875])∧(tt∧tt∧tt∧tt∧tt∧True∧rr [Value.int .i64 (↑m),.slice (some ⟨68,0,none⟩) n 9223372036854775876])∧(tt∧(v64 (Za f n)).all (okV (fun l=>l.blt 68) 3)=true∧tt∧tt∧tt∧True∧v64 (Za f n)=List.map (rnV (lift 68 74 [67,68,69,70]) 3) (v64 (Za f n)))∧(tt∧(u8s zs).all (okV (fun l=>l.blt 68) 3)=true∧tt∧tt∧tt∧True∧u8s zs=List.map (rnV (lift 68 74 [67,68,69,70]) 3) (u8s zs))∧(tt∧rc.all (okV (fun l=>l.blt 68) 3)=true∧tt∧tt∧tt∧True∧rc=List.map (rnV (lift 68 74 [67,68,69,70]) 3) rc)∧True)∧(tt∧n≤n)∧(tt∧N≤N)∧True)∧rr false)∧rr false)∧rr false)∧rr false)∧rr false)∧rr false)∧rr false)∧True∧(rr (Value.pointer (some ⟨70,0,none⟩))∧rr (Value.int .u32 0)∧rr (Value.int .i64 (↑N))∧True)∧((tt∧tt∧tt∧tt∧tt∧True∧rr [Value.pointer (some ⟨69,0,none⟩),.slice (some ⟨67,0,none⟩) N 9223372036854775875])∧(tt∧tt∧tt∧tt∧tt∧True∧rr [Value.int .i64 (↑m),.slice (some ⟨68,0,none⟩) n 9223372036854775876])∧(tt∧(v64 (Za f2 n)).all (okV (fun l=>l.blt 68) 3)=true∧tt∧tt∧tt∧True∧v64 (Za f2 n)=List.map (rnV (lift 68 75 [67,68,69,70]) 3) (v64 (Za f2 n)))∧(tt∧(u8s zs2).all (okV (fun l=>l.blt 68) 3)=true∧tt∧tt∧tt∧True∧u8s zs2=List.map (rnV (lift 68 75 [67,68,69,70]) 3) (u8s zs2))∧True)∧(tt∧n≤n)∧(tt∧N≤N)∧True)∧decide (i.op≥(20:Int))=true)∧decide (i.op≥(20:Int))=true)∧decide (i.op≥(20:Int))=true)∧decide (i.op≥(20:Int))=true)∧decide (i.op≤(22:Int))=true)∧decide (i.op≤(22:Int))=true)∧decide (i.op≤(22:Int))=true)∧decide (i.op≤(22:Int))=true)∧rr false)∧rr false)∧rr false)∧rr false)∧(i.op !=(24:Int))=true)∧(i.op !=(24:Int))=true)∧(i.op !=(24:Int))=true)∧(i.op !=(24:Int))=true)∧(i.op !=(24:Int))=true)∧(i.op !=(24:Int))=true)∧(i.op !=(24:Int))=true)∧(i.op !=(24:Int))=true)∧tt)∧True∧(rr (Value.pointer (some ⟨70,0,none⟩))∧True)∧((tt∧tt∧tt∧tt∧tt∧True∧rr [Value.pointer (some ⟨69,0,none⟩),.slice (some ⟨67,0,none⟩) N 9223372036854775875])∧(tt∧tt∧tt∧tt∧tt∧True∧rr [Value.int .i64 (↑m),.slice (some ⟨68,0,none⟩) n 9223372036854775876])∧(tt∧(v64 (Za f2 n)).all (okV (fun l=>l.blt 68) 3)=true∧tt∧tt∧tt∧True∧v64 (Za f2 n)=List.map (rnV (lift 68 75 [67,68,69,70]) 3) (v64 (Za f2 n)))∧(tt∧(u8s zs2).all (okV (fun l=>l.blt 68) 3)=true∧tt∧tt∧tt∧True∧u8s zs2=List.map (rnV (lift 68 75 [67,68,69,70]) 3) (u8s zs2))∧True)∧(tt∧n≤n)∧(tt∧N≤N)∧True):=by kernel_rfl
theorem ZnU (i:In) (fr fr':Nat→Cp) (l:List Pt) (rc:List Value) (c1 c2:Nat) (s s2 zs zs2:List UInt8) (f f2:Nat→Bool) (N m n:Nat):obs (evF Tryz.prog (Zz 3 (Zd (cdL 2 l rc (Zhc rc (mvA fr i) fr' zs zs2 f f2 N m n) c1 c2 s s2 zs zs2 f f2 N m n)) Zk) Zh 100 20 5 [Q8 fr,i.val,sl1 2 64 l.length] ⟨65,WP 2 64 (Z6 l)++ZF rc,[],0,(tb 39 274881839104),0,True⟩)=some (Value.bool (decide ((↑c2:Int)≤(↑c1:Int))),((((bif ZI (0+i.a.toNat*8+7+1) (frL fr)&&Zi [Value.bool false] (frL fr) (0+i.a.toNat*8+7) then((bif decide ((0:Int)≤i.a)&&decide (i.a<(16:Int)) then(((((((((((((((((((((((((((((((((((((((True∧True∧(rr (Value.slice (some ⟨64,0,none⟩) l.length 9223372036854775872)∧True)∧((tt∧(Z6 l).all (okV (fun l=>l.blt 65) 3)=true∧tt∧tt∧tt∧True∧Z6 l=List.map (rnV (lift 65 67 [64]) 3) (Z6 l))∧True)∧True)∧rr false)∧True∧True∧((tt∧rc.all (okV (fun l=>l.blt 64) 3)=true∧tt∧tt∧tt∧True∧rc=List.map (rnV (lift 64 74 []) 3) rc)∧True)∧True)∧rr false)∧rr false)∧rr false)∧True∧(rr (Value.pointer (some ⟨70,0,none⟩))∧True)∧((tt∧tt∧tt∧tt∧tt∧True∧rr [Value.pointer (some ⟨69,0,none⟩),.slice (some ⟨67,0,none⟩) N 9223372036854775875])∧(tt∧tt∧tt∧tt∧tt∧True∧rr [Value.int .i64 (↑m),.slice (some ⟨68,0,none⟩) n 9223372036854775876])∧(tt∧(v64 (Za f n)).all (okV (fun l=>l.blt 68) 3)=true∧tt∧tt∧tt∧True∧v64 (Za f n)=List.map (rnV (lift 68 74 [67,68,69,70]) 3) (v64 (Za f n)))∧(tt∧(u8s zs).all (okV (fun l=>l.blt 68) 3)=true∧tt∧tt∧tt∧True∧u8s zs=List.map (rnV (lift 68 74 [67,68,69,70]) 3) (u8s zs))∧True)∧(tt∧n≤n)∧(tt∧N≤N)∧True)∧rr false)∧rr false)∧rr false)∧rr false)∧rr false)∧rr false)∧rr false)∧True∧(rr (Value.pointer (some ⟨70,0,none⟩))∧rr (Value.int .u32 0)∧rr (Value.int .i64 (↑N))∧True)∧((tt∧tt∧tt∧tt∧tt∧True∧rr [Value.pointer (some ⟨69,0,none⟩),.slice (some ⟨67,0,none⟩) N 9223372036854775875])∧(tt∧tt∧tt∧tt∧tt∧True∧rr [Value.int .i64 (↑m),.slice (some ⟨68,0,none⟩) n 9223372036854775876])∧(tt∧(v64 (Za f n)).all (okV (fun l=>l.blt 68) 3)=true∧tt∧tt∧tt∧True∧v64 (Za f n)=List.map (rnV (lift 68 74 [67,68,69,70]) 3) (v64 (Za f n)))∧(tt∧(u8s zs).all (okV (fun l=>l.blt 68) 3)=true∧tt∧tt∧tt∧True∧u8s zs=List.map (rnV (lift 68 74 [67,68,69,70]) 3) (u8s zs))∧True)∧(tt∧n≤n)∧(tt∧N≤N)∧True)∧True∧(rr (Value.agg { toList:=(frL fr) })∧rr (Value.agg ⟨[.int .i64 i.op,.int .i64 i.a,.int .i64 i.b,.int .i64 i.c,.int .i64 i.m]⟩)∧rr (Value.pointer (some ⟨70,0,none⟩))∧True)∧((tt∧tt∧tt∧tt∧tt∧True∧rr [Value.pointer (some ⟨69,0,none⟩),.slice (some ⟨67,0,none⟩) N 9223372036854775875])∧(tt∧tt∧tt∧tt∧tt∧True∧rr [Value.int .i64 (↑m),.slice (some ⟨68,0,none⟩) n 9223372036854775876])∧(tt∧(v64 (Za f n)).all (okV (fun l=>l.blt 68) 3)=true∧tt∧tt∧tt∧True∧v64 (Za f n)=List.map (rnV (lift 68 74 [67,68,69,70]) 3) (v64 (Za f n)))∧(tt∧(u8s zs).all (okV (fun l=>l.blt 68) 3)=true∧tt∧tt∧tt∧True∧u8s zs=List.map (rnV (lift 68 74 [67,68,69,70]) 3) (u8s zs))∧(tt∧rc.all (okV (fun l=>l.blt 68) 3)=true∧tt∧tt∧tt∧True∧rc=List.map (rnV (lift 68 74 [67,68,69,70]) 3) rc)∧True)∧(tt∧n≤n)∧(tt∧N≤N)∧True)∧rr false)∧rr false)∧rr false)∧rr false)∧rr false)∧rr false)∧rr false)∧True∧(rr (Value.pointer (some ⟨70,0,none⟩))∧rr (Value.int .u32 0)∧rr (Value.int .i64 (↑N))∧True)∧((tt∧tt∧tt∧tt∧tt∧True∧rr [Value.pointer (some ⟨69,0,none⟩),.slice (some ⟨67,0,none⟩) N 9223372036854775875])∧(tt∧tt∧tt∧tt∧tt∧True∧rr [Value.int .i64 (↑m),.slice (some ⟨68,0,none⟩) n 9223372036854775876])∧(tt∧(v64 (Za f2 n)).all (okV (fun l=>l.blt 68) 3)=true∧tt∧tt∧tt∧True∧v64 (Za f2 n)=List.map (rnV (lift 68 75 [67,68,69,70]) 3) (v64 (Za f2 n)))∧(tt∧(u8s zs2).all (okV (fun l=>l.blt 68) 3)=true∧tt∧tt∧tt∧True∧u8s zs2=List.map (rnV (lift 68 75 [67,68,69,70]) 3) (u8s zs2))∧True)∧(tt∧n≤n)∧(tt∧N≤N)∧True)∧decide (i.op≥(20:Int))=true)∧decide (i.op≥(20:Int))=true)∧decide (i.op≥(20:Int))=true)∧decide (i.op≥(20:Int))=true)∧decide (i.op≤(22:Int))=false)∧decide (i.op≤(22:Int))=false)∧decide (i.op≤(22:Int))=false)∧decide (i.op≤(22:Int))=false)∧rr false)∧rr false)∧rr false)∧(!i.op==(24:Int))=false)∧(i.op !=(24:Int))=false)∧(i.op !=(24:Int))=false)∧(i.op !=(24:Int))=false)∧(i.op !=(24:Int))=false else False)∧(i.op !=(24:Int))=false)∧(i.op !=(24:Int))=false else False)∧(i.op !=(24:Int))=false)∧(i.op !=(24:Int))=false)∧(!Zv (Zc undef (frL fr) (0+i.a.toNat*8+7)))=true)∧True∧(rr (Value.pointer (some ⟨70,0,none⟩))∧True)∧((tt∧tt∧tt∧tt∧tt∧True∧rr [Value.pointer (some ⟨69,0,none⟩),.slice (some ⟨67,0,none⟩) N 9223372036854775875])∧(tt∧tt∧tt∧tt∧tt∧True∧rr [Value.int .i64 (↑m),.slice (some ⟨68,0,none⟩) n 9223372036854775876])∧(tt∧(v64 (Za f2 n)).all (okV (fun l=>l.blt 68) 3)=true∧tt∧tt∧tt∧True∧v64 (Za f2 n)=List.map (rnV (lift 68 75 [67,68,69,70]) 3) (v64 (Za f2 n)))∧(tt∧(u8s zs2).all (okV (fun l=>l.blt 68) 3)=true∧tt∧tt∧tt∧True∧u8s zs2=List.map (rnV (lift 68 75 [67,68,69,70]) 3) (u8s zs2))∧True)∧(tt∧n≤n)∧(tt∧N≤N)∧True):=by kernel_rfl
theorem ZnV (i:In) (fr fr':Nat→Cp) (l:List Pt) (rc:List Value) (c1 c2:Nat) (s s2 zs zs2:List UInt8) (f f2:Nat→Bool) (N m n:Nat):obs (evF Tryz.prog (Zz 3 (Zd (cdL 2 l rc (Zhc rc (mvA fr i) fr' zs zs2 f f2 N m n) c1 c2 s s2 zs zs2 f f2 N m n)) Zk) Zh 100 20 5 [Q8 fr,i.val,sl1 2 64 l.length] ⟨65,WP 2 64 (Z6 l)++ZF rc,[],0,(tb 39 3932160),0,True⟩)=some (Value.bool (decide ((↑c2:Int)≤i64.wrap ((↑c1:Int)+(1:Int)))),((((bif ZI (0+i.a.toNat*8+7+1) (frL fr)&&Zi [Value.bool false] (frL fr) (0+i.a.toNat*8+7) then((bif decide ((0:Int)≤i.a)&&decide (i.a<(16:Int)) then(((((((((((((((((((((((((((((((((((((((True∧True∧(rr (Value.slice (some ⟨64,0,none⟩) l.length 9223372036854775872)∧True)∧((tt∧(Z6 l).all (okV (fun l=>l.blt 65) 3)=true∧tt∧tt∧tt∧True∧Z6 l=List.map (rnV (lift 65 67 [64]) 3) (Z6 l))∧True)∧True)∧rr false)∧True∧True∧((tt∧rc.all (okV (fun l=>l.blt 64) 3)=true∧tt∧tt∧tt∧True∧rc=List.map (rnV (lift 64 74 []) 3) rc)∧True)∧True)∧rr false)∧rr false)∧rr false)∧True∧(rr (Value.pointer (some ⟨70,0,none⟩))∧True)∧((tt∧tt∧tt∧tt∧tt∧True∧rr [Value.pointer (some ⟨69,0,none⟩),.slice (some ⟨67,0,none⟩) N 9223372036854775875])∧(tt∧tt∧tt∧tt∧tt∧True∧rr [Value.int .i64 (↑m),.slice (some ⟨68,0,none⟩) n 9223372036854775876])∧(tt∧(v64 (Za f n)).all (okV (fun l=>l.blt 68) 3)=true∧tt∧tt∧tt∧True∧v64 (Za f n)=List.map (rnV (lift 68 74 [67,68,69,70]) 3) (v64 (Za f n)))∧(tt∧(u8s zs).all (okV (fun l=>l.blt 68) 3)=true∧tt∧tt∧tt∧True∧u8s zs=List.map (rnV (lift 68 74 [67,68,69,70]) 3) (u8s zs))∧True)∧(tt∧n≤n)∧(tt∧N≤N)∧True)∧rr false)∧rr false)∧rr false)∧rr false)∧rr false)∧rr false)∧rr false)∧True∧(rr (Value.pointer (some ⟨70,0,none⟩))∧rr (Value.int .u32 0)∧rr (Value.int .i64 (↑N))∧True)∧((tt∧tt∧tt∧tt∧tt∧True∧rr [Value.pointer (some ⟨69,0,none⟩),.slice (some ⟨67,0,none⟩) N 9223372036854775875])∧(tt∧tt∧tt∧tt∧tt∧True∧rr [Value.int .i64 (↑m),.slice (some ⟨68,0,none⟩) n 9223372036854775876])∧(tt∧(v64 (Za f n)).all (okV (fun l=>l.blt 68) 3)=true∧tt∧tt∧tt∧True∧v64 (Za f n)=List.map (rnV (lift 68 74 [67,68,69,70]) 3) (v64 (Za f n)))∧(tt∧(u8s zs).all (okV (fun l=>l.blt 68) 3)=true∧tt∧tt∧tt∧True∧u8s zs=List.map (rnV (lift 68 74 [67,68,69,70]) 3) (u8s zs))∧True)∧(tt∧n≤n)∧(tt∧N≤N)∧True)∧True∧(rr (Value.agg { toList:=(frL fr) })∧rr (Value.agg ⟨[.int .i64 i.op,.int .i64 i.a,.int .i64 i.b,.int .i64 i.c,.int .i64 i.m]⟩)∧rr (Value.pointer (some ⟨70,0,none⟩))∧True)∧((tt∧tt∧tt∧tt∧tt∧True∧rr [Value.pointer (some ⟨69,0,none⟩),.slice (some ⟨67,0,none⟩) N 9223372036854775875])∧(tt∧tt∧tt∧tt∧tt∧True∧rr [Value.int .i64 (↑m),.slice (some ⟨68,0,none⟩) n 9223372036854775876])∧(tt∧(v64 (Za f n)).all (okV (fun l=>l.blt 68) 3)=true∧tt∧tt∧tt∧True∧v64 (Za f n)=List.map (rnV (lift 68 74 [67,68,69,70]) 3) (v64 (Za f n)))∧(tt∧(u8s zs).all (okV (fun l=>l.blt 68) 3)=true∧tt∧tt∧tt∧True∧u8s zs=List.map (rnV (lift 68 74 [67,68,69,70]) 3) (u8s zs))∧(tt∧rc.all (okV (fun l=>l.blt 68) 3)=true∧tt∧tt∧tt∧True∧rc=List.map (rnV (lift 68 74 [67,68,69,70]) 3) rc)∧True)∧(tt∧n≤n)∧(tt∧N≤N)∧True)∧rr false)∧rr false)∧rr false)∧rr false)∧rr false)∧rr false)∧rr false)∧True∧(rr (Value.pointer (some ⟨70,0,none⟩))∧rr (Value.int .u32 0)∧rr (Value.int .i64 (↑N))∧True)∧((tt∧tt∧tt∧tt∧tt∧True∧rr [Value.pointer (some ⟨69,0,none⟩),.slice (some ⟨67,0,none⟩) N 9223372036854775875])∧(tt∧tt∧tt∧tt∧tt∧True∧rr [Value.int .i64 (↑m),.slice (some ⟨68,0,none⟩) n 9223372036854775876])∧(tt∧(v64 (Za f2 n)).all (okV (fun l=>l.blt 68) 3)=true∧tt∧tt∧tt∧True∧v64 (Za f2 n)=List.map (rnV (lift 68 75 [67,68,69,70]) 3) (v64 (Za f2 n)))∧(tt∧(u8s zs2).all (okV (fun l=>l.blt 68) 3)=true∧tt∧tt∧tt∧True∧u8s zs2=List.map (rnV (lift 68 75 [67,68,69,70]) 3) (u8s zs2))∧True)∧(tt∧n≤n)∧(tt∧N≤N)∧True)∧decide (i.op≥(20:Int))=true)∧decide (i.op≥(20:Int))=true)∧decide (i.op≥(20:Int))=true)∧decide (i.op≥(20:Int))=true)∧decide (i.op≤(22:Int))=false)∧decide (i.op≤(22:Int))=false)∧decide (i.op≤(22:Int))=false)∧decide (i.op≤(22:Int))=false)∧rr false)∧rr false)∧rr false)∧(!i.op==(24:Int))=false)∧(i.op !=(24:Int))=false)∧(i.op !=(24:Int))=false)∧(i.op !=(24:Int))=false)∧(i.op !=(24:Int))=false else False)∧(i.op !=(24:Int))=false)∧(i.op !=(24:Int))=false else False)∧(i.op !=(24:Int))=false)∧(i.op !=(24:Int))=false)∧(!Zv (Zc undef (frL fr) (0+i.a.toNat*8+7)))=false)∧True∧(rr (Value.pointer (some ⟨70,0,none⟩))∧True)∧((tt∧tt∧tt∧tt∧tt∧True∧rr [Value.pointer (some ⟨69,0,none⟩),.slice (some ⟨67,0,none⟩) N 9223372036854775875])∧(tt∧tt∧tt∧tt∧tt∧True∧rr [Value.int .i64 (↑m),.slice (some ⟨68,0,none⟩) n 9223372036854775876])∧(tt∧(v64 (Za f2 n)).all (okV (fun l=>l.blt 68) 3)=true∧tt∧tt∧tt∧True∧v64 (Za f2 n)=List.map (rnV (lift 68 75 [67,68,69,70]) 3) (v64 (Za f2 n)))∧(tt∧(u8s zs2).all (okV (fun l=>l.blt 68) 3)=true∧tt∧tt∧tt∧True∧u8s zs2=List.map (rnV (lift 68 75 [67,68,69,70]) 3) (u8s zs2))∧True)∧(tt∧n≤n)∧(tt∧N≤N)∧True):=by kernel_rfl
theorem Zan:VD Tryz.prog=true:=by kernel_rfl
def ZnW (code a b:Int):Value:=.tuple (if code=3 then #[.int .u32 ((a+b)%4294967296),.int .i64 0,.bool true] else if code=6 then #[.int .u32 0,.int .i64 7,.bool true] else #[.int .u32 0,.int .i64 0,.bool false])
def Zma (code a b:Int):Bool:=((decide (code<3)||decide (15<code))||decide (code=3)||(decide (code=6)&&decide (b=0)))&&decide (0≤a)&&decide (0≤b)
def ZcZ:ZaV:=fun f args _=>bif Nat.beq f 39 then
 match args with
 | [.int .i64 code,.int .u32 a,.int .u32 b]=>some (Con.pure [.int .i64 code,.int .u32 a,.int .u32 b] (ZnW code a b),[],Zma code a b=true)
 | _=>none
 else none
theorem Zbo:JB Tryz.prog 3 ZcZ:=by
 intro f args s c ρ q h hq
 unfold ZcZ at h
 obtain⟨h2,h3⟩:=ZQ h
 clear h
 have h2:=eB h2
 subst h2
 split at h3
 ·rename_i code a b
  cases h3
  unfold Zma at hq
  simp only[rr, tt, Bool.and_eq_true,Bool.or_eq_true,decide_eq_true_eq] at hq
  obtain⟨⟨hx,ha⟩,hb⟩:=hq
  obtain⟨x,rfl⟩:=Int.eq_ofNat_of_zero_le ha
  obtain⟨y,rfl⟩:=Int.eq_ofNat_of_zero_le hb
  refine ZV (d:=1) (Qt Zan (by kernel_rfl)) (fun u hu => ?_) ?_ fun w => ?_
  ·simp only[rr, tt, List.mem_cons,List.not_mem_nil,or_false] at hu
   rcases hu with rfl|rfl|rfl<;>rfl
  ·unfold ZnW
   split
   ·rfl
   ·split<;>rfl
  ·exact ZdF code x y w (hx.elim (fun hx=>hx.elim .inl fun h => .inr (.inl h)) fun hx => .inr (.inr ⟨hx.1,by have:=hx.2; omega⟩))
 ·cases h3
def Y9:Sy.Heap:=[(0,⟨false,none,ZB,none⟩)]
def Qb (a b c d e f g:Int) (v:Bool):List Value:=[.int .u32 a,.int .u8 b,.int .u16 c,.int .u16 d,.int .u16 e,.int .u16 f,.int .u32 g,.bool v]
def atN {α:Type} (d:α) (i:Nat):List (Nat×α)→α
 | []=>d
 | x::l=>bif Nat.beq x.1 i then x.2 else atN d i l
def frLk (l:List (Nat×List Value)):Nat→Nat→List Value
 | _,0=>[]
 | i,n+1=>atN (Qb 0 0 0 0 0 0 0 false) i l++frLk l (i+1) n
def frV (l:List (Nat×List Value)):Value:=.agg ⟨frLk l 0 17⟩
def ZlJ (k:IntKind):List (Nat×Int)→Nat→Nat→List Value
 | _,_,0=>[]
 | [],i,n+1 => .int k 0::ZlJ k [] (i+1) n
 | x::l,i,n+1=>bif Nat.beq x.1 i then .int k x.2::ZlJ k l (i+1) n else .int k 0::ZlJ k (x::l) (i+1) n
def arC (rw:Bool) (by' tg:List (Nat×Int)):Sy.Heap:=[(67,⟨rw,none,[.pointer (some ⟨66,0,none⟩),.slice (some ⟨64,0,none⟩) 4096 (big+64)],none⟩),(66,⟨rw,none,[.int .i64 256,.slice (some ⟨65,0,none⟩) 4 (big+65)],none⟩),(65,⟨rw,some (65,1),ZlJ .u64 tg 0 4,none⟩),(64,⟨rw,some (64,1),ZlJ .u8 by' 0 4096,none⟩)]
def Zc0:List (Nat×Nat):=[(65,4),(64,4096)]
def ZlK:FuncId→List Value→Option Con:=fun f args=>bif Nat.beq f 39 then
 match args with
 | [.int .i64 code,.int .u32 a,.int .u32 b]=>bif Zma code a b then some (Con.pure [.int .i64 code,.int .u32 a,.int .u32 b] (ZnW code a b)) else none
 | _=>none
 else none
theorem ZfL:∀ f args c,ZlK f args=some c→ConOk Tryz.prog f 3 c∧FlatC c:=by
 intro f args c h
 unfold ZlK at h
 obtain⟨h2,h3⟩:=ZQ h
 split at h3
 ·rename_i code a b
  obtain⟨h4,h5⟩:=ZQ h3
  cases h5
  refine⟨Zbo f [.int .i64 code,.int .u32 a,.int .u32 b] ⟨64,[],[],0,[],0,True⟩ _ [] (Zma code a b=true) ?_ h4,⟨fun x hx=>by cases hx⟩⟩
  unfold ZcZ
  rw[h2]
  rfl
 ·cases h3
def VP (f:FuncId) (c:Con):Prop:=ZcE 3 (evF Tryz.prog (Zex 3 ZlK Zk) Zh 1000 40) f c
theorem Qq {f:FuncId} {c:Con} (h:VP f c=True):ConOk Tryz.prog f 3 c∧FlatC c:=Za3 (Zt Zan (ZcF ZfL (Zf _)) (Ze _) 40) h
def newC:Con:=⟨[.int .i64 16],64,[],[],.tuple ⟨[.pointer (some ⟨67,0,none⟩),.int .i64 0]⟩,68,arC true [] [],Zc0⟩
theorem Zje:VP 9 newC=True:=by kernel_rfl
def k0C:Con:=⟨[(frV [(1,Qb 256 0 256 320 27 0 0 true),(16,Qb 0 0 0 64 5 0 0 true)]),(.agg ⟨[.int .i64 1,.int .i64 3,.int .i64 0,.int .i64 0,.int .i64 (-7)]⟩),.pointer (some ⟨67,0,none⟩)],68,Y9,[],(.tuple ⟨[(frV [(1,Qb 256 0 256 320 27 0 0 true),(3,Qb 4294967289 0 0 0 0 0 0 false),(16,Qb 4 0 0 64 5 0 0 true)]),.int .i64 0]⟩),68,[],[]⟩
theorem ZlL:VP 13 k0C=True:=by kernel_rfl
def k1C:Con:=⟨[(frV [(1,Qb 256 0 256 320 27 0 0 true),(3,Qb 4294967289 0 0 0 0 0 0 false),(16,Qb 4 0 0 64 5 0 0 true)]),(.agg ⟨[.int .i64 3,.int .i64 3,.int .i64 3,.int .i64 3,.int .i64 0]⟩),.pointer (some ⟨67,0,none⟩)],68,Y9,[],(.tuple ⟨[(frV [(1,Qb 256 0 256 320 27 0 0 true),(3,Qb 4294967282 0 0 0 0 0 0 false),(16,Qb 8 0 0 64 5 0 0 true)]),.int .i64 0]⟩),68,[],[]⟩
theorem ZlM:VP 13 k1C=True:=by kernel_rfl
def k2C:Con:=⟨[(frV [(1,Qb 256 0 256 320 27 0 0 true),(3,Qb 4294967282 0 0 0 0 0 0 false),(16,Qb 8 0 0 64 5 0 0 true)]),(.agg ⟨[.int .i64 22,.int .i64 3,.int .i64 1,.int .i64 0,.int .i64 2]⟩),.pointer (some ⟨67,0,none⟩)],68,arC false [] []++Y9,Zc0,(.tuple ⟨[(frV []),.int .i64 5]⟩),68,[],[]⟩
theorem ZlN:VP 13 k2C=True:=by kernel_rfl
def k3C:Con:=⟨[(frV [(1,Qb 256 0 256 320 27 0 0 true),(3,Qb 4294967282 0 0 0 0 0 0 false),(16,Qb 8 0 0 64 5 0 0 true)]),(.agg ⟨[.int .i64 22,.int .i64 3,.int .i64 3,.int .i64 0,.int .i64 0]⟩),.pointer (some ⟨67,0,none⟩)],68,Y9,[],(.tuple ⟨[(frV []),.int .i64 1]⟩),68,[],[]⟩
theorem ZlO:VP 13 k3C=True:=by kernel_rfl
def k4C:Con:=⟨[(frV [(1,Qb 256 0 256 320 27 0 0 true),(3,Qb 4294967282 0 0 0 0 0 0 false),(16,Qb 8 0 0 64 5 0 0 true)]),(.agg ⟨[.int .i64 24,.int .i64 1,.int .i64 1,.int .i64 0,.int .i64 16]⟩),.pointer (some ⟨67,0,none⟩)],68,arC true [] []++Y9,Zc0,(.tuple ⟨[(frV [(1,Qb 256 0 256 320 27 0 0 true),(3,Qb 4294967282 0 0 0 0 0 0 false),(16,Qb 12 0 0 64 5 0 0 true)]),.int .i64 0]⟩),68,arC true [(273,1),(278,1),(279,64),(280,1),(281,27)] [(0,131072)],Zc0⟩
theorem ZlP:VP 13 k4C=True:=by kernel_rfl
def k5C:Con:=⟨[(frV [(1,Qb 256 0 256 320 27 0 0 true),(3,Qb 4294967282 0 0 0 0 0 0 false),(16,Qb 8 0 0 64 5 0 0 true)]),(.agg ⟨[.int .i64 23,.int .i64 4,.int .i64 1,.int .i64 0,.int .i64 16]⟩),.pointer (some ⟨67,0,none⟩)],68,arC false [(273,1),(278,1),(279,64),(280,1),(281,27)] [(0,131072)]++Y9,Zc0,(.tuple ⟨[.int .i64 1,.bool true]⟩),68,[],[]⟩
theorem ZlQ:VP 21 k5C=True:=by kernel_rfl
def Zb6:List (FuncId×Con):=[(13,k0C),(13,k1C),(13,k2C),(13,k3C),(13,k4C),(21,k5C)]
theorem ZdG:∀ x∈Zb6,ConOk Tryz.prog x.1 3 x.2∧FlatC x.2:=by
 intro x hx
 simp only[rr, tt, Zb6,List.mem_cons,List.not_mem_nil,or_false] at hx
 rcases hx with rfl|rfl|rfl|rfl|rfl|rfl
 ·exact Qq ZlL
 ·exact Qq ZlM
 ·exact Qq ZlN
 ·exact Qq ZlO
 ·exact Qq ZlP
 ·exact Qq ZlQ
def k6C:Con:=⟨[(frV [(1,Qb 256 0 256 320 27 0 0 true),(3,Qb 4294967282 0 0 0 0 0 0 false),(16,Qb 8 0 0 64 5 0 0 true)]),(.agg ⟨[.int .i64 19,.int .i64 4,.int .i64 1,.int .i64 0,.int .i64 16]⟩),.pointer (some ⟨67,0,none⟩)],68,[],[],(.tuple ⟨[.int .i64 0,.bool false]⟩),68,[],[]⟩
theorem ZlR:VP 21 k6C=True:=by kernel_rfl
def k7C:Con:=⟨[(frV [(1,Qb 256 0 256 320 27 0 0 true),(3,Qb 4294967282 0 0 0 0 0 0 false),(16,Qb 8 0 0 64 5 0 0 true)]),(.agg ⟨[.int .i64 23,.int .i64 4,.int .i64 1,.int .i64 0,.int .i64 8]⟩),.pointer (some ⟨67,0,none⟩)],68,arC false [(273,1),(278,1),(279,64),(280,1),(281,27)] [(0,131072)]++Y9,Zc0,(.tuple ⟨[.int .i64 0,.bool false]⟩),68,[],[]⟩
theorem ZlS:VP 21 k7C=True:=by kernel_rfl
def k8C:Con:=⟨[(frV [(1,Qb 256 0 256 320 27 0 0 true),(3,Qb 4294967282 0 0 0 0 0 0 false),(16,Qb 8 0 0 64 5 0 0 true)]),(.agg ⟨[.int .i64 30,.int .i64 5,.int .i64 1,.int .i64 0,.int .i64 0]⟩),.pointer (some ⟨67,0,none⟩)],68,Y9,[],(.tuple ⟨[(frV []),.int .i64 3]⟩),68,[],[]⟩
theorem ZlT:VP 13 k8C=True:=by kernel_rfl
def k9C:Con:=⟨[(frV [(1,Qb 256 0 256 320 27 0 0 true),(16,Qb 0 0 0 64 5 0 0 true)]),(.agg ⟨[.int .i64 25,.int .i64 3,.int .i64 3,.int .i64 0,.int .i64 16]⟩),.pointer (some ⟨67,0,none⟩)],68,Y9,[],(.tuple ⟨[(frV [(1,Qb 256 0 256 320 27 0 0 true),(16,Qb 64 0 0 64 5 0 0 true)]),.int .i64 0]⟩),68,[],[]⟩
theorem ZlU:VP 13 k9C=True:=by kernel_rfl
def k10C:Con:=⟨[(frV [(1,Qb 256 0 256 320 27 0 0 true),(16,Qb 64 0 0 64 5 0 0 true)]),.pointer (some ⟨67,0,none⟩)],68,[],[],(.tuple ⟨[(.agg ⟨[.int .i64 0,.int .i64 0,.int .i64 0,.int .i64 0,.int .i64 0]⟩),.int .i64 4]⟩),68,[],[]⟩
theorem Zjf:VP 25 k10C=True:=by kernel_rfl
def k11C:Con:=⟨[(frV [(1,Qb 256 0 256 320 27 0 0 true),(3,Qb 4294967282 0 0 0 0 0 0 false),(16,Qb 8 0 0 64 5 0 0 true)]),(.agg ⟨[.int .i64 1,.int .i64 16,.int .i64 0,.int .i64 0,.int .i64 0]⟩),.pointer (some ⟨67,0,none⟩)],68,Y9,[],(.tuple ⟨[(frV []),.int .i64 6]⟩),68,[],[]⟩
theorem Zjg:VP 13 k11C=True:=by kernel_rfl
def Zb7:List (FuncId×Con):=[(21,k6C),(21,k7C),(13,k8C),(13,k9C),(25,k10C),(13,k11C)]
theorem ZdH:∀ x∈Zb7,ConOk Tryz.prog x.1 3 x.2∧FlatC x.2:=by
 intro x hx
 simp only[rr, tt, Zb7,List.mem_cons,List.not_mem_nil,or_false] at hx
 rcases hx with rfl|rfl|rfl|rfl|rfl|rfl
 ·exact Qq ZlR
 ·exact Qq ZlS
 ·exact Qq ZlT
 ·exact Qq ZlU
 ·exact Qq Zjf
 ·exact Qq Zjg
def k12C:Con:=⟨[(frV [(1,Qb 256 0 256 320 27 0 0 true),(3,Qb 4294967282 0 0 0 0 0 0 false),(16,Qb 8 0 0 64 5 0 0 true)]),(.agg ⟨[.int .i64 6,.int .i64 3,.int .i64 3,.int .i64 0,.int .i64 0]⟩),.pointer (some ⟨67,0,none⟩)],68,Y9,[],(.tuple ⟨[(frV []),.int .i64 7]⟩),68,[],[]⟩
theorem Zjh:VP 13 k12C=True:=by kernel_rfl
def k13C:Con:=⟨[(frV [(1,Qb 256 0 256 320 3 0 0 true),(3,Qb 4294967282 0 0 0 0 0 0 false),(16,Qb 8 0 0 64 5 0 0 true)]),(.agg ⟨[.int .i64 24,.int .i64 1,.int .i64 1,.int .i64 0,.int .i64 0]⟩),.pointer (some ⟨67,0,none⟩)],68,Y9,[],(.tuple ⟨[(frV []),.int .i64 3]⟩),68,[],[]⟩
theorem Zji:VP 13 k13C=True:=by kernel_rfl
def k14C:Con:=⟨[(frV [(1,Qb 256 0 256 320 3 0 0 true),(3,Qb 4294967282 0 0 0 0 0 0 false),(16,Qb 8 0 0 64 5 0 0 true)]),(.agg ⟨[.int .i64 23,.int .i64 4,.int .i64 1,.int .i64 0,.int .i64 16]⟩),.pointer (some ⟨67,0,none⟩)],68,arC false [(273,1),(278,1),(279,64),(280,1),(281,27)] [(0,131072)]++Y9,Zc0,(.tuple ⟨[(frV [(1,Qb 256 0 256 320 3 0 0 true),(3,Qb 4294967282 0 0 0 0 0 0 false),(4,Qb 256 0 256 320 27 0 0 false),(16,Qb 12 0 0 64 5 0 0 true)]),.int .i64 0]⟩),68,[],[]⟩
theorem Zjj:VP 13 k14C=True:=by kernel_rfl
def k15C:Con:=⟨[(frV [(1,Qb 256 0 256 320 27 0 0 true),(3,Qb 4294967282 0 0 0 0 0 0 false),(16,Qb 8 0 0 64 5 0 0 true)]),(.agg ⟨[.int .i64 29,.int .i64 2,.int .i64 0,.int .i64 0,.int .i64 3]⟩),.pointer (some ⟨67,0,none⟩)],68,Y9,[],(.tuple ⟨[(frV [(1,Qb 256 0 256 320 27 0 0 true),(2,Qb 12 0 0 64 5 0 0 true),(3,Qb 4294967282 0 0 0 0 0 0 false),(16,Qb 20 0 0 64 5 0 0 true)]),.int .i64 0]⟩),68,[],[]⟩
theorem Zjk:VP 13 k15C=True:=by kernel_rfl
def k16C:Con:=⟨[(frV [(1,Qb 256 0 256 320 27 0 0 true),(3,Qb 4294967282 0 0 0 0 0 0 false),(16,Qb 8 0 0 64 5 0 0 true)]),(.agg ⟨[.int .i64 52,.int .i64 0,.int .i64 0,.int .i64 0,.int .i64 3]⟩),.pointer (some ⟨67,0,none⟩)],68,Y9,[],(.tuple ⟨[(frV [(1,Qb 256 0 256 320 27 0 0 true),(3,Qb 4294967282 0 0 0 0 0 0 false),(16,Qb 8 0 0 64 5 0 0 true)]),.int .i64 0]⟩),68,[],[]⟩
theorem Zjl:VP 13 k16C=True:=by kernel_rfl
def k17C:Con:=⟨[(frV [(1,Qb 256 0 256 320 27 0 0 true),(16,Qb 0 0 0 64 5 0 0 true)]),.pointer (some ⟨67,0,none⟩)],68,arC false [(273,1),(278,1),(279,64),(280,1),(281,27)] [(0,131072)]++Y9,Zc0,(.tuple ⟨[(.agg ⟨[.int .i64 0,.int .i64 0,.int .i64 0,.int .i64 0,.int .i64 0]⟩),.int .i64 0]⟩),68,[],[]⟩
theorem Zjm:VP 25 k17C=True:=by kernel_rfl
def Zb8:List (FuncId×Con):=[(13,k12C),(13,k13C),(13,k14C),(13,k15C),(13,k16C),(25,k17C)]
theorem ZdI:∀ x∈Zb8,ConOk Tryz.prog x.1 3 x.2∧FlatC x.2:=by
 intro x hx
 simp only[rr, tt, Zb8,List.mem_cons,List.not_mem_nil,or_false] at hx
 rcases hx with rfl|rfl|rfl|rfl|rfl|rfl
 ·exact Qq Zjh
 ·exact Qq Zji
 ·exact Qq Zjj
 ·exact Qq Zjk
 ·exact Qq Zjl
 ·exact Qq Zjm
def k18C:Con:=⟨[(frV [(1,Qb 256 0 256 320 27 0 0 true),(3,Qb 4294967282 0 0 0 0 0 0 false),(16,Qb 8 0 0 64 5 0 0 true)]),(.agg ⟨[.int .i64 44,.int .i64 7,.int .i64 1,.int .i64 0,.int .i64 0]⟩),.pointer (some ⟨67,0,none⟩)],68,Y9,[],(.tuple ⟨[(frV [(1,Qb 256 0 256 320 27 0 0 true),(3,Qb 4294967282 0 0 0 0 0 0 false),(7,Qb 64 0 0 0 0 0 0 false),(16,Qb 12 0 0 64 5 0 0 true)]),.int .i64 0]⟩),68,[],[]⟩
theorem Zjn:VP 13 k18C=True:=by kernel_rfl
def k19C:Con:=⟨[(frV [(1,Qb 0 21 0 2048 1 0 0 true),(3,Qb 4294967282 0 0 0 0 0 0 false),(16,Qb 8 0 0 64 5 0 0 true)]),(.agg ⟨[.int .i64 44,.int .i64 7,.int .i64 1,.int .i64 0,.int .i64 0]⟩),.pointer (some ⟨67,0,none⟩)],68,Y9,[],(.tuple ⟨[(frV [(1,Qb 0 21 0 2048 1 0 0 true),(3,Qb 4294967282 0 0 0 0 0 0 false),(7,Qb 4294967295 0 0 0 0 0 0 false),(16,Qb 12 0 0 64 5 0 0 true)]),.int .i64 0]⟩),68,[],[]⟩
theorem Zjo:VP 13 k19C=True:=by kernel_rfl
def k20C:Con:=⟨[(frV [(1,Qb 65536 21 0 2048 1 0 0 true),(3,Qb 4294967282 0 0 0 0 0 0 false),(16,Qb 8 0 0 64 5 0 0 true)]),(.agg ⟨[.int .i64 19,.int .i64 7,.int .i64 1,.int .i64 0,.int .i64 0]⟩),.pointer (some ⟨67,0,none⟩)],68,arC false [(273,1),(278,1),(279,64),(280,1),(281,27)] [(0,131072)]++Y9,Zc0,(.tuple ⟨[(frV []),.int .i64 4]⟩),68,[],[]⟩
theorem Zjp:VP 13 k20C=True:=by kernel_rfl
def k21C:Con:=⟨[(frV [(1,Qb 256 0 256 320 27 0 0 true),(3,Qb 4294967282 0 0 0 0 0 0 false),(5,Qb 32 0 0 256 4 0 0 true),(16,Qb 8 0 0 64 5 0 0 true)]),(.agg ⟨[.int .i64 30,.int .i64 5,.int .i64 5,.int .i64 0,.int .i64 0]⟩),.pointer (some ⟨67,0,none⟩)],68,Y9,[],(.tuple ⟨[(frV [(1,Qb 256 0 256 320 27 0 0 true),(3,Qb 4294967282 0 0 0 0 0 0 false),(5,Qb 12 0 0 64 5 0 0 true),(16,Qb 32 0 0 256 4 0 0 true)]),.int .i64 0]⟩),68,[],[]⟩
theorem Zjq:VP 13 k21C=True:=by kernel_rfl
def k22C:Con:=⟨[(frV [(1,Qb 256 0 256 320 27 0 0 true),(3,Qb 4294967282 0 0 0 0 0 0 false),(5,Qb 32 0 0 256 4 3 0 true),(16,Qb 8 0 0 64 5 0 0 true)]),(.agg ⟨[.int .i64 30,.int .i64 6,.int .i64 5,.int .i64 0,.int .i64 0]⟩),.pointer (some ⟨67,0,none⟩)],68,Y9,[],(.tuple ⟨[(frV []),.int .i64 2]⟩),68,[],[]⟩
theorem Zjr:VP 13 k22C=True:=by kernel_rfl
def k23C:Con:=⟨[(frV [(1,Qb 256 0 256 320 27 0 0 true),(3,Qb 4294967289 0 0 0 0 0 0 false),(16,Qb 4 0 0 64 5 0 0 true)]),(.agg ⟨[.int .i64 22,.int .i64 3,.int .i64 1,.int .i64 0,.int .i64 4]⟩),.pointer (some ⟨67,0,none⟩)],68,arC true [] []++Y9,Zc0,(.tuple ⟨[(frV [(1,Qb 256 0 256 320 27 0 0 true),(3,Qb 4294967289 0 0 0 0 0 0 false),(16,Qb 8 0 0 64 5 0 0 true)]),.int .i64 0]⟩),68,arC true [(260,249),(261,255),(262,255),(263,255)] [],Zc0⟩
theorem Zjs:VP 13 k23C=True:=by kernel_rfl
def Zb9:List (FuncId×Con):=[(13,k18C),(13,k19C),(13,k20C),(13,k21C),(13,k22C),(13,k23C)]
theorem ZdJ:∀ x∈Zb9,ConOk Tryz.prog x.1 3 x.2∧FlatC x.2:=by
 intro x hx
 simp only[rr, tt, Zb9,List.mem_cons,List.not_mem_nil,or_false] at hx
 rcases hx with rfl|rfl|rfl|rfl|rfl|rfl
 ·exact Qq Zjn
 ·exact Qq Zjo
 ·exact Qq Zjp
 ·exact Qq Zjq
 ·exact Qq Zjr
 ·exact Qq Zjs
def k24C:Con:=⟨[(frV [(1,Qb 256 0 256 320 27 0 0 true),(3,Qb 4294967289 0 0 0 0 0 0 false),(16,Qb 8 0 0 64 5 0 0 true)]),(.agg ⟨[.int .i64 22,.int .i64 3,.int .i64 1,.int .i64 0,.int .i64 62]⟩),.pointer (some ⟨67,0,none⟩)],68,Y9,[],(.tuple ⟨[(frV []),.int .i64 4]⟩),68,[],[]⟩
theorem Zjt:VP 13 k24C=True:=by kernel_rfl
def k25C:Con:=⟨[(frV [(1,Qb 256 0 256 320 27 0 0 true),(3,Qb 4294967289 0 0 0 0 0 0 false),(16,Qb 8 0 0 64 5 0 0 true)]),(.agg ⟨[.int .i64 53,.int .i64 0,.int .i64 0,.int .i64 0,.int .i64 0]⟩),.pointer (some ⟨67,0,none⟩)],68,Y9,[],(.tuple ⟨[(frV []),.int .i64 6]⟩),68,[],[]⟩
theorem Zju:VP 13 k25C=True:=by kernel_rfl
def k26C:Con:=⟨[(frV [(1,Qb 256 0 256 320 27 0 0 true),(3,Qb 4294967289 0 0 0 0 0 0 false),(16,Qb 8 0 0 64 5 0 0 true)]),(.agg ⟨[.int .i64 24,.int .i64 1,.int .i64 1,.int .i64 0,.int .i64 16]⟩),.pointer (some ⟨67,0,none⟩)],68,arC true [(260,249),(261,255),(262,255),(263,255)] []++Y9,Zc0,(.tuple ⟨[(frV [(1,Qb 256 0 256 320 27 0 0 true),(3,Qb 4294967289 0 0 0 0 0 0 false),(16,Qb 12 0 0 64 5 0 0 true)]),.int .i64 0]⟩),68,arC true [(260,249),(261,255),(262,255),(263,255),(273,1),(278,1),(279,64),(280,1),(281,27)] [(0,131072)],Zc0⟩
theorem Zjv:VP 13 k26C=True:=by kernel_rfl
def k27C:Con:=⟨[(frV [(1,Qb 256 0 256 320 27 0 0 true),(3,Qb 4294967289 0 0 0 0 0 0 false),(16,Qb 8 0 0 64 5 0 0 true)]),(.agg ⟨[.int .i64 23,.int .i64 4,.int .i64 1,.int .i64 0,.int .i64 16]⟩),.pointer (some ⟨67,0,none⟩)],68,arC false [(260,249),(261,255),(262,255),(263,255),(273,1),(278,1),(279,64),(280,1),(281,27)] [(0,131072)]++Y9,Zc0,(.tuple ⟨[(frV [(1,Qb 256 0 256 320 27 0 0 true),(3,Qb 4294967289 0 0 0 0 0 0 false),(4,Qb 256 0 256 320 27 0 0 true),(16,Qb 12 0 0 64 5 0 0 true)]),.int .i64 0]⟩),68,[],[]⟩
theorem Zjw:VP 13 k27C=True:=by kernel_rfl
def Zca:List (FuncId×Con):=[(13,k24C),(13,k25C),(13,k26C),(13,k27C)]
theorem ZdK:∀ x∈Zca,ConOk Tryz.prog x.1 3 x.2∧FlatC x.2:=by
 intro x hx
 simp only[rr, tt, Zca,List.mem_cons,List.not_mem_nil,or_false] at hx
 rcases hx with rfl|rfl|rfl|rfl
 ·exact Qq Zjt
 ·exact Qq Zju
 ·exact Qq Zjv
 ·exact Qq Zjw
def Zhd:List (FuncId×Con):=(9,newC)::(Zb6++(Zb7++(Zb8++(Zb9++Zca))))
theorem Zc1:∀ x∈Zhd,ConOk Tryz.prog x.1 3 x.2∧FlatC x.2:=by
 intro x hx
 simp only[rr, tt, Zhd,List.mem_cons,List.mem_append] at hx
 rcases hx with rfl|h|h|h|h|h
 ·exact Qq Zje
 ·exact ZdG x h
 ·exact ZdH x h
 ·exact ZdI x h
 ·exact ZdJ x h
 ·exact ZdK x h
def ZhQ:Con:=⟨[],64,Y9,[],.bool true,64,[],[]⟩
def LRun (f:FuncId) (c:Con):Prop:=ZcE 3 (evF Tryz.prog (Zgn 3 Zhd (Zex 3 ZlK Zk)) Zh 1000 40) f c
theorem ZfM {f:FuncId} {c:Con} (h:LRun f c=True):ConOk Tryz.prog f 3 c∧FlatC c:=Za3 (Zt Zan (Zgo Zc1 (ZcF ZfL (Zf _))) (Ze _) 40) h
theorem Zbp:LRun 10 ZhQ=True:=by kernel_rfl
theorem ZJ:∀ l:List UInt8,Zl l l=true
 | []=>rfl
 | a::l=>by
  show(Nat.beq a.toNat a.toNat&&Zl l l)=true
  rw[Nat.beq_refl,ZJ l]; rfl
theorem ZlV:ConOk Tryz.prog 10 3 (gwC [] ZB (.bool true))∧FlatC (gwC [] ZB (.bool true)):=ZfM Zbp
theorem ZfN (zs:List UInt8) (f:Nat→Bool) (h:ArOk zs 4096 256 4):ConOk Tryz.prog 19 3 (Zl9 zs zs f 4096 256 4)∧FlatC (Zl9 zs zs f 4096 256 4):=by
 have hr:=Zkj 0 4096 zs f 4096 256 4 h (by omega) (by omega)
 have e:(zs.drop 0).take 4096=zs:=by rw[List.drop_zero]; exact List.take_of_length_le (by rw[h.len]; omega)
 unfold rwC at hr
 rw[e] at hr
 exact hr
def Zao (fr:Nat→Cp) (i:In) (k:Nat) (l:List Pt):Prop:=∃ (call:Z1) (T:List (Nat×Bool)) (q:Prop),Zx Tryz.prog call∧obs (call 5 [Q8 fr,i.val,sl1 k 64 l.length] ⟨65,WP k 64 (Z6 l)++ZF ZB,[],0,T,0,True⟩)=some (.bool true,q)∧q
theorem ZfO {k:Nat} {l:List Pt} {dc:Con} {zs2:List UInt8} {f2:Nat→Bool} (hk:Zb4 k l.length) (hok:∀ x∈l,x.Ok) (hd:ConOk Tryz.prog 13 3 dc∧FlatC dc) (h2:ArOk zs2 4096 256 4) :
  Zx Tryz.prog (evF Tryz.prog (Zz 3 (Zd (cdL k l ZB dc (ZS (Z2 l (Z7 l)).2 16) (ZS f2 16) (Z2 l (Z7 l)).1 zs2 (Z2 l (Z7 l)).1 zs2 (Z2 l (Z7 l)).2 f2 4096 256 4)) Zk) Zh 100 20):=by
 refine Zt (L:=100) Zg (Zs (Zj fun x hx => ?_) (Zf _)) (Ze _) 20
 have h1:=ZfJ l (Z7 l)
 simp only[rr, tt, cdL,List.mem_cons,List.not_mem_nil,or_false] at hx
 rcases hx with rfl|rfl|rfl|rfl|rfl|rfl|rfl
 ·exact Zjc k l hk hok
 ·exact ZlV
 ·exact ZhP _ _ 4096 256 4 16 h1 rfl
 ·exact ZfN _ _ h1
 ·exact hd
 ·exact ZfN _ _ h2
 ·exact ZhP _ _ 4096 256 4 16 h2 rfl
theorem Zbq {k n:Nat} (h:Zb4 k n):k=0∨k=1∨k=2:=by obtain⟨h1,_⟩:=h; omega
theorem XM (fr fr':Nat→Cp) (i:In) (k:Nat) (l:List Pt) (t:Nat) (hk:Zb4 k l.length) (hok:∀ x∈l,x.Ok) (hd:ConOk Tryz.prog 13 3 (Vl (mvA fr i) fr' t (Z2 l (Z7 l)).1 (Z2 l (Z7 l)).2 4096 256 4)∧FlatC (Vl (mvA fr i) fr' t (Z2 l (Z7 l)).1 (Z2 l (Z7 l)).2 4096 256 4))
  (ht:t≠0→fr'=frN) (h0:t=0→¬ (20≤i.op∧i.op≤22)∧¬ i.op=24):Zao fr i k l:=by
 have p1:∀ (p:Nat→Bool),(Z6 l).all (okV p 3)=true:=fun p=>Zn (YM l)
 have p2:∀ (σ:Nat→Nat),(Z6 l).map (rnV σ 3)=Z6 l:=fun σ=>Zp (YM l)
 have v1:∀ (f:Nat→Bool) (σ:Nat→Nat),(v64 (Za f 4)).map (rnV σ 3)=v64 (Za f 4):=fun f σ=>Zp (Zr _)
 have v2:∀ (f:Nat→Bool) (p:Nat→Bool),(v64 (Za f 4)).all (okV p 3)=true:=fun f p=>Zn (Zr _)
 have u1:∀ (zs:List UInt8) (p:Nat→Bool),(u8s zs).all (okV p 3)=true:=fun zs p=>Zn (Zm _)
 have u2:∀ (zs:List UInt8) (σ:Nat→Nat),(u8s zs).map (rnV σ 3)=u8s zs:=fun zs σ=>Zp (Zm _)
 have hb:=ZfO hk hok hd (ZfJ l (Z7 l)) (f2:=(Z2 l (Z7 l)).2)
 rcases Zbq hk with rfl|rfl|rfl
 ·by_cases t0:t=0
  ·obtain⟨n1,n2⟩:=h0 t0
   have e24:=QR n2
   subst t0
   by_cases c1:i.op<20
   ·have g20:decide (i.op≥(20:Int))=false:=decide_eq_false (by omega)
    exact⟨_,_,_,hb,Zlv i fr fr' l ZB _ _ _ _ _ _ _ _ 4096 256 4,by simp only[rr, tt, g20,e24,p1,p2,v1,v2,u1,u2,ZE,Zw,ZJ,beq_self_eq_true,Bool.and_self,Bool.not_true,Bool.not_false,cond_true,and_true,true_and,and_self,Nat.le_refl]⟩
   ·have g20:decide (i.op≥(20:Int))=true:=decide_eq_true (by omega)
    have l22:decide (i.op≤(22:Int))=false:=decide_eq_false (by omega)
    exact⟨_,_,_,hb,Zlw i fr fr' l ZB _ _ _ _ _ _ _ _ 4096 256 4,by simp only[rr, tt, g20,l22,e24,p1,p2,v1,v2,u1,u2,ZE,Zw,ZJ,beq_self_eq_true,Bool.and_self,Bool.not_true,Bool.not_false,cond_true,and_true,true_and,and_self,Nat.le_refl]⟩
  ·have hfr:=ht t0
   subst hfr
   have t1:(((t:Nat):Int) !=(0:Int))=true:=bne_iff_ne.2 (by omega)
   have t2:(((t:Nat):Int)==(0:Int))=false:=beq_eq_false_iff_ne.2 (by omega)
   by_cases c1:i.op<20
   ·have g20:decide (i.op≥(20:Int))=false:=decide_eq_false (by omega)
    have e24:(i.op==(24:Int))=false:=QR (by omega)
    exact⟨_,_,_,hb,Zlr i fr fr l ZB _ _ _ _ _ _ _ _ 4096 256 4 t,by simp only[rr, tt, t1,t2,g20,e24,p1,p2,v1,v2,u1,u2,ZE,Zw,ZJ,beq_self_eq_true,Bool.and_self,Bool.not_true,Bool.not_false,cond_true,and_true,true_and,and_self,Nat.le_refl]⟩
   ·have g20:decide (i.op≥(20:Int))=true:=decide_eq_true (by omega)
    by_cases c2:i.op≤22
    ·have l22:decide (i.op≤(22:Int))=true:=decide_eq_true c2
     exact⟨_,_,_,hb,Zls i fr fr l ZB _ _ _ _ _ _ _ _ 4096 256 4 t,by simp only[rr, tt, t1,t2,g20,l22,p1,p2,v1,v2,u1,u2,ZE,Zw,ZJ,beq_self_eq_true,Bool.and_self,Bool.not_true,Bool.not_false,cond_true,and_true,true_and,and_self,Nat.le_refl]⟩
    ·have l22:decide (i.op≤(22:Int))=false:=decide_eq_false c2
     by_cases c3:i.op=24
     ·have e24:(i.op==(24:Int))=true:=ZmE c3
      exact⟨_,_,_,hb,Zlu i fr fr l ZB _ _ _ _ _ _ _ _ 4096 256 4 t,by simp only[rr, tt, t1,t2,g20,l22,e24,p1,p2,v1,v2,u1,u2,ZE,Zw,ZJ,beq_self_eq_true,Bool.and_self,Bool.not_true,Bool.not_false,cond_true,and_true,true_and,and_self,Nat.le_refl]⟩
     ·have e24:(i.op==(24:Int))=false:=QR c3
      exact⟨_,_,_,hb,Zlt i fr fr l ZB _ _ _ _ _ _ _ _ 4096 256 4 t,by simp only[rr, tt, t1,t2,g20,l22,e24,p1,p2,v1,v2,u1,u2,ZE,Zw,ZJ,beq_self_eq_true,Bool.and_self,Bool.not_true,Bool.not_false,cond_true,and_true,true_and,and_self,Nat.le_refl]⟩
 ·by_cases t0:t=0
  ·obtain⟨n1,n2⟩:=h0 t0
   have e24:=QR n2
   subst t0
   by_cases c1:i.op<20
   ·have g20:decide (i.op≥(20:Int))=false:=decide_eq_false (by omega)
    exact⟨_,_,_,hb,ZlB i fr fr' l ZB _ _ _ _ _ _ _ _ 4096 256 4,by simp only[rr, tt, g20,e24,p1,p2,v1,v2,u1,u2,ZE,Zw,ZJ,beq_self_eq_true,Bool.and_self,Bool.not_true,Bool.not_false,cond_true,and_true,true_and,and_self,Nat.le_refl]⟩
   ·have g20:decide (i.op≥(20:Int))=true:=decide_eq_true (by omega)
    have l22:decide (i.op≤(22:Int))=false:=decide_eq_false (by omega)
    exact⟨_,_,_,hb,ZlC i fr fr' l ZB _ _ _ _ _ _ _ _ 4096 256 4,by simp only[rr, tt, g20,l22,e24,p1,p2,v1,v2,u1,u2,ZE,Zw,ZJ,beq_self_eq_true,Bool.and_self,Bool.not_true,Bool.not_false,cond_true,and_true,true_and,and_self,Nat.le_refl]⟩
  ·have hfr:=ht t0
   subst hfr
   have t1:(((t:Nat):Int) !=(0:Int))=true:=bne_iff_ne.2 (by omega)
   have t2:(((t:Nat):Int)==(0:Int))=false:=beq_eq_false_iff_ne.2 (by omega)
   by_cases c1:i.op<20
   ·have g20:decide (i.op≥(20:Int))=false:=decide_eq_false (by omega)
    have e24:(i.op==(24:Int))=false:=QR (by omega)
    exact⟨_,_,_,hb,Zlx i fr fr l ZB _ _ _ _ _ _ _ _ 4096 256 4 t,by simp only[rr, tt, t1,t2,g20,e24,p1,p2,v1,v2,u1,u2,ZE,Zw,ZJ,beq_self_eq_true,Bool.and_self,Bool.not_true,Bool.not_false,cond_true,and_true,true_and,and_self,Nat.le_refl]⟩
   ·have g20:decide (i.op≥(20:Int))=true:=decide_eq_true (by omega)
    by_cases c2:i.op≤22
    ·have l22:decide (i.op≤(22:Int))=true:=decide_eq_true c2
     exact⟨_,_,_,hb,Zly i fr fr l ZB _ _ _ _ _ _ _ _ 4096 256 4 t,by simp only[rr, tt, t1,t2,g20,l22,p1,p2,v1,v2,u1,u2,ZE,Zw,ZJ,beq_self_eq_true,Bool.and_self,Bool.not_true,Bool.not_false,cond_true,and_true,true_and,and_self,Nat.le_refl]⟩
    ·have l22:decide (i.op≤(22:Int))=false:=decide_eq_false c2
     by_cases c3:i.op=24
     ·have e24:(i.op==(24:Int))=true:=ZmE c3
      exact⟨_,_,_,hb,ZlA i fr fr l ZB _ _ _ _ _ _ _ _ 4096 256 4 t,by simp only[rr, tt, t1,t2,g20,l22,e24,p1,p2,v1,v2,u1,u2,ZE,Zw,ZJ,beq_self_eq_true,Bool.and_self,Bool.not_true,Bool.not_false,cond_true,and_true,true_and,and_self,Nat.le_refl]⟩
     ·have e24:(i.op==(24:Int))=false:=QR c3
      exact⟨_,_,_,hb,Zlz i fr fr l ZB _ _ _ _ _ _ _ _ 4096 256 4 t,by simp only[rr, tt, t1,t2,g20,l22,e24,p1,p2,v1,v2,u1,u2,ZE,Zw,ZJ,beq_self_eq_true,Bool.and_self,Bool.not_true,Bool.not_false,cond_true,and_true,true_and,and_self,Nat.le_refl]⟩
 ·by_cases t0:t=0
  ·obtain⟨n1,n2⟩:=h0 t0
   have e24:=QR n2
   subst t0
   by_cases c1:i.op<20
   ·have g20:decide (i.op≥(20:Int))=false:=decide_eq_false (by omega)
    exact⟨_,_,_,hb,ZlH i fr fr' l ZB _ _ _ _ _ _ _ _ 4096 256 4,by simp only[rr, tt, g20,e24,p1,p2,v1,v2,u1,u2,ZE,Zw,ZJ,beq_self_eq_true,Bool.and_self,Bool.not_true,Bool.not_false,cond_true,and_true,true_and,and_self,Nat.le_refl]⟩
   ·have g20:decide (i.op≥(20:Int))=true:=decide_eq_true (by omega)
    have l22:decide (i.op≤(22:Int))=false:=decide_eq_false (by omega)
    exact⟨_,_,_,hb,ZlI i fr fr' l ZB _ _ _ _ _ _ _ _ 4096 256 4,by simp only[rr, tt, g20,l22,e24,p1,p2,v1,v2,u1,u2,ZE,Zw,ZJ,beq_self_eq_true,Bool.and_self,Bool.not_true,Bool.not_false,cond_true,and_true,true_and,and_self,Nat.le_refl]⟩
  ·have hfr:=ht t0
   subst hfr
   have t1:(((t:Nat):Int) !=(0:Int))=true:=bne_iff_ne.2 (by omega)
   have t2:(((t:Nat):Int)==(0:Int))=false:=beq_eq_false_iff_ne.2 (by omega)
   by_cases c1:i.op<20
   ·have g20:decide (i.op≥(20:Int))=false:=decide_eq_false (by omega)
    have e24:(i.op==(24:Int))=false:=QR (by omega)
    exact⟨_,_,_,hb,ZlD i fr fr l ZB _ _ _ _ _ _ _ _ 4096 256 4 t,by simp only[rr, tt, t1,t2,g20,e24,p1,p2,v1,v2,u1,u2,ZE,Zw,ZJ,beq_self_eq_true,Bool.and_self,Bool.not_true,Bool.not_false,cond_true,and_true,true_and,and_self,Nat.le_refl]⟩
   ·have g20:decide (i.op≥(20:Int))=true:=decide_eq_true (by omega)
    by_cases c2:i.op≤22
    ·have l22:decide (i.op≤(22:Int))=true:=decide_eq_true c2
     exact⟨_,_,_,hb,ZlE i fr fr l ZB _ _ _ _ _ _ _ _ 4096 256 4 t,by simp only[rr, tt, t1,t2,g20,l22,p1,p2,v1,v2,u1,u2,ZE,Zw,ZJ,beq_self_eq_true,Bool.and_self,Bool.not_true,Bool.not_false,cond_true,and_true,true_and,and_self,Nat.le_refl]⟩
    ·have l22:decide (i.op≤(22:Int))=false:=decide_eq_false c2
     by_cases c3:i.op=24
     ·have e24:(i.op==(24:Int))=true:=ZmE c3
      exact⟨_,_,_,hb,ZlG i fr fr l ZB _ _ _ _ _ _ _ _ 4096 256 4 t,by simp only[rr, tt, t1,t2,g20,l22,e24,p1,p2,v1,v2,u1,u2,ZE,Zw,ZJ,beq_self_eq_true,Bool.and_self,Bool.not_true,Bool.not_false,cond_true,and_true,true_and,and_self,Nat.le_refl]⟩
     ·have e24:(i.op==(24:Int))=false:=QR c3
      exact⟨_,_,_,hb,ZlF i fr fr l ZB _ _ _ _ _ _ _ _ 4096 256 4 t,by simp only[rr, tt, t1,t2,g20,l22,e24,p1,p2,v1,v2,u1,u2,ZE,Zw,ZJ,beq_self_eq_true,Bool.and_self,Bool.not_true,Bool.not_false,cond_true,and_true,true_and,and_self,Nat.le_refl]⟩
theorem ZlW (fr fr':Nat→Cp) (op:Int) (a b c:Nat) (m:Int) (k:Nat) (l:List Pt) (zs2:List UInt8) (f2:Nat→Bool) (ha0:a<16) (hk:Zb4 k l.length) (hok:∀ x∈l,x.Ok) (hd:ConOk Tryz.prog 13 3 (ZjP (mvA fr (inS op a b c m)) fr' (Z2 l (Z7 l)).1 zs2 (Z2 l (Z7 l)).2 f2 4096 256 4)∧FlatC (ZjP (mvA fr (inS op a b c m)) fr' (Z2 l (Z7 l)).1 zs2 (Z2 l (Z7 l)).2 f2 4096 256 4)) (h2:ArOk zs2 4096 256 4)
  (hop:(20≤op∧op≤22)∨op=24) (hc:ZS f2 16≤ZS (Z2 l (Z7 l)).2 16∨(op=24∧(fr a).V=true∧ZS f2 16≤ZS (Z2 l (Z7 l)).2 16+1)):Zao fr (inS op a b c m) k l:=by
 have p1:∀ (p:Nat→Bool),(Z6 l).all (okV p 3)=true:=fun p=>Zn (YM l)
 have p2:∀ (σ:Nat→Nat),(Z6 l).map (rnV σ 3)=Z6 l:=fun σ=>Zp (YM l)
 have v1:∀ (f:Nat→Bool) (σ:Nat→Nat),(v64 (Za f 4)).map (rnV σ 3)=v64 (Za f 4):=fun f σ=>Zp (Zr _)
 have v2:∀ (f:Nat→Bool) (p:Nat→Bool),(v64 (Za f 4)).all (okV p 3)=true:=fun f p=>Zn (Zr _)
 have u1:∀ (zs:List UInt8) (p:Nat→Bool),(u8s zs).all (okV p 3)=true:=fun zs p=>Zn (Zm _)
 have u2:∀ (zs:List UInt8) (σ:Nat→Nat),(u8s zs).map (rnV σ 3)=u8s zs:=fun zs σ=>Zp (Zm _)
 have hb:=ZfO hk hok hd h2 (f2:=f2)
 have ha:a<17:=by omega
 have y0:decide ((0:Int)≤(a:Int))=true:=decide_eq_true (by omega)
 have y1:decide ((a:Int)<16)=true:=decide_eq_true (by omega)
 have q7:Zv (Zc undef (frL fr) (0+a*8+7))=(fr a).V:=by rw[WI fr a 7 _ ha (by omega) (by omega)]; rfl
 have q8:ZI (0+a*8+7+1) (frL fr)=true:=Kh _ _ (by rw[JJ,U9]; omega)
 have q9:Zi [Value.bool false] (frL fr) (0+a*8+7)=true:=by
  unfold Zi Zi
  rw[WI fr a 7 _ ha (by omega) (by omega)]
  rfl
 have hw:i64.wrap (((ZS (Z2 l (Z7 l)).2 16:Nat):Int)+(1:Int))=((ZS (Z2 l (Z7 l)).2 16+1:Nat):Int):=by
  have:=Zam (Z2 l (Z7 l)).2 16
  rw[show((ZS (Z2 l (Z7 l)).2 16:Nat):Int)+(1:Int)=((ZS (Z2 l (Z7 l)).2 16+1:Nat):Int) by omega,Ye _ (by omega)]
 have g20:decide (op≥(20:Int))=true:=decide_eq_true (by omega)
 rcases Zbq hk with rfl|rfl|rfl
 ·rcases hop with h20|rfl
  ·have hcc:ZS f2 16≤ZS (Z2 l (Z7 l)).2 16:=by rcases hc with h|⟨h,_⟩<;>omega
   have l22:decide (op≤(22:Int))=true:=decide_eq_true h20.2
   have n24:(op !=(24:Int))=true:=bne_iff_ne.2 (by omega)
   have hr:=ZnN (inS op a b c m) fr fr' l ZB (ZS (Z2 l (Z7 l)).2 16) (ZS f2 16) (Z2 l (Z7 l)).1 zs2 (Z2 l (Z7 l)).1 zs2 (Z2 l (Z7 l)).2 f2 4096 256 4
   have dc:decide (((ZS f2 16:Nat):Int)≤((ZS (Z2 l (Z7 l)).2 16:Nat):Int))=true:=decide_eq_true (by omega)
   rw[dc] at hr
   exact⟨_,_,_,hb,hr,by simp only[rr, tt, inS,g20,l22,n24,p1,p2,v1,v2,u1,u2,ZE,Zw,ZJ,beq_self_eq_true,Bool.and_self,Bool.not_true,Bool.not_false,cond_true,and_true,true_and,and_self,Nat.le_refl]⟩
  ·have l22:decide ((24:Int)≤(22:Int))=false:=rfl
   have n24:((24:Int) !=(24:Int))=false:=rfl
   cases hV:(fr a).V
   ·have hcc:ZS f2 16≤ZS (Z2 l (Z7 l)).2 16:=by
     rcases hc with h|⟨_,h,_⟩
     ·exact h
     ·rw[hV] at h; cases h
    have hr:=ZnO (inS 24 a b c m) fr fr' l ZB (ZS (Z2 l (Z7 l)).2 16) (ZS f2 16) (Z2 l (Z7 l)).1 zs2 (Z2 l (Z7 l)).1 zs2 (Z2 l (Z7 l)).2 f2 4096 256 4
    have dc:decide (((ZS f2 16:Nat):Int)≤((ZS (Z2 l (Z7 l)).2 16:Nat):Int))=true:=decide_eq_true (by omega)
    rw[dc] at hr
    exact⟨_,_,_,hb,hr,by simp only[rr, tt, inS,Int.toNat_natCast,y0,y1,q7,q8,q9,hV,g20,l22,n24,p1,p2,v1,v2,u1,u2,ZE,Zw,ZJ,beq_self_eq_true,Bool.and_self,Bool.not_true,Bool.not_false,cond_true,and_true,true_and,and_self,Nat.le_refl]⟩
   ·have hr:=ZnP (inS 24 a b c m) fr fr' l ZB (ZS (Z2 l (Z7 l)).2 16) (ZS f2 16) (Z2 l (Z7 l)).1 zs2 (Z2 l (Z7 l)).1 zs2 (Z2 l (Z7 l)).2 f2 4096 256 4
    have dc:decide (((ZS f2 16:Nat):Int)≤((ZS (Z2 l (Z7 l)).2 16+1:Nat):Int))=true:=decide_eq_true (by
     rcases hc with h|⟨_,_,h⟩<;>omega)
    rw[hw,dc] at hr
    exact⟨_,_,_,hb,hr,by simp only[rr, tt, inS,Int.toNat_natCast,y0,y1,q7,q8,q9,hV,g20,l22,n24,p1,p2,v1,v2,u1,u2,ZE,Zw,ZJ,beq_self_eq_true,Bool.and_self,Bool.not_true,Bool.not_false,cond_true,and_true,true_and,and_self,Nat.le_refl]⟩
 ·rcases hop with h20|rfl
  ·have hcc:ZS f2 16≤ZS (Z2 l (Z7 l)).2 16:=by rcases hc with h|⟨h,_⟩<;>omega
   have l22:decide (op≤(22:Int))=true:=decide_eq_true h20.2
   have n24:(op !=(24:Int))=true:=bne_iff_ne.2 (by omega)
   have hr:=ZnQ (inS op a b c m) fr fr' l ZB (ZS (Z2 l (Z7 l)).2 16) (ZS f2 16) (Z2 l (Z7 l)).1 zs2 (Z2 l (Z7 l)).1 zs2 (Z2 l (Z7 l)).2 f2 4096 256 4
   have dc:decide (((ZS f2 16:Nat):Int)≤((ZS (Z2 l (Z7 l)).2 16:Nat):Int))=true:=decide_eq_true (by omega)
   rw[dc] at hr
   exact⟨_,_,_,hb,hr,by simp only[rr, tt, inS,g20,l22,n24,p1,p2,v1,v2,u1,u2,ZE,Zw,ZJ,beq_self_eq_true,Bool.and_self,Bool.not_true,Bool.not_false,cond_true,and_true,true_and,and_self,Nat.le_refl]⟩
  ·have l22:decide ((24:Int)≤(22:Int))=false:=rfl
   have n24:((24:Int) !=(24:Int))=false:=rfl
   cases hV:(fr a).V
   ·have hcc:ZS f2 16≤ZS (Z2 l (Z7 l)).2 16:=by
     rcases hc with h|⟨_,h,_⟩
     ·exact h
     ·rw[hV] at h; cases h
    have hr:=ZnR (inS 24 a b c m) fr fr' l ZB (ZS (Z2 l (Z7 l)).2 16) (ZS f2 16) (Z2 l (Z7 l)).1 zs2 (Z2 l (Z7 l)).1 zs2 (Z2 l (Z7 l)).2 f2 4096 256 4
    have dc:decide (((ZS f2 16:Nat):Int)≤((ZS (Z2 l (Z7 l)).2 16:Nat):Int))=true:=decide_eq_true (by omega)
    rw[dc] at hr
    exact⟨_,_,_,hb,hr,by simp only[rr, tt, inS,Int.toNat_natCast,y0,y1,q7,q8,q9,hV,g20,l22,n24,p1,p2,v1,v2,u1,u2,ZE,Zw,ZJ,beq_self_eq_true,Bool.and_self,Bool.not_true,Bool.not_false,cond_true,and_true,true_and,and_self,Nat.le_refl]⟩
   ·have hr:=ZnS (inS 24 a b c m) fr fr' l ZB (ZS (Z2 l (Z7 l)).2 16) (ZS f2 16) (Z2 l (Z7 l)).1 zs2 (Z2 l (Z7 l)).1 zs2 (Z2 l (Z7 l)).2 f2 4096 256 4
    have dc:decide (((ZS f2 16:Nat):Int)≤((ZS (Z2 l (Z7 l)).2 16+1:Nat):Int))=true:=decide_eq_true (by
     rcases hc with h|⟨_,_,h⟩<;>omega)
    rw[hw,dc] at hr
    exact⟨_,_,_,hb,hr,by simp only[rr, tt, inS,Int.toNat_natCast,y0,y1,q7,q8,q9,hV,g20,l22,n24,p1,p2,v1,v2,u1,u2,ZE,Zw,ZJ,beq_self_eq_true,Bool.and_self,Bool.not_true,Bool.not_false,cond_true,and_true,true_and,and_self,Nat.le_refl]⟩
 ·rcases hop with h20|rfl
  ·have hcc:ZS f2 16≤ZS (Z2 l (Z7 l)).2 16:=by rcases hc with h|⟨h,_⟩<;>omega
   have l22:decide (op≤(22:Int))=true:=decide_eq_true h20.2
   have n24:(op !=(24:Int))=true:=bne_iff_ne.2 (by omega)
   have hr:=ZnT (inS op a b c m) fr fr' l ZB (ZS (Z2 l (Z7 l)).2 16) (ZS f2 16) (Z2 l (Z7 l)).1 zs2 (Z2 l (Z7 l)).1 zs2 (Z2 l (Z7 l)).2 f2 4096 256 4
   have dc:decide (((ZS f2 16:Nat):Int)≤((ZS (Z2 l (Z7 l)).2 16:Nat):Int))=true:=decide_eq_true (by omega)
   rw[dc] at hr
   exact⟨_,_,_,hb,hr,by simp only[rr, tt, inS,g20,l22,n24,p1,p2,v1,v2,u1,u2,ZE,Zw,ZJ,beq_self_eq_true,Bool.and_self,Bool.not_true,Bool.not_false,cond_true,and_true,true_and,and_self,Nat.le_refl]⟩
  ·have l22:decide ((24:Int)≤(22:Int))=false:=rfl
   have n24:((24:Int) !=(24:Int))=false:=rfl
   cases hV:(fr a).V
   ·have hcc:ZS f2 16≤ZS (Z2 l (Z7 l)).2 16:=by
     rcases hc with h|⟨_,h,_⟩
     ·exact h
     ·rw[hV] at h; cases h
    have hr:=ZnU (inS 24 a b c m) fr fr' l ZB (ZS (Z2 l (Z7 l)).2 16) (ZS f2 16) (Z2 l (Z7 l)).1 zs2 (Z2 l (Z7 l)).1 zs2 (Z2 l (Z7 l)).2 f2 4096 256 4
    have dc:decide (((ZS f2 16:Nat):Int)≤((ZS (Z2 l (Z7 l)).2 16:Nat):Int))=true:=decide_eq_true (by omega)
    rw[dc] at hr
    exact⟨_,_,_,hb,hr,by simp only[rr, tt, inS,Int.toNat_natCast,y0,y1,q7,q8,q9,hV,g20,l22,n24,p1,p2,v1,v2,u1,u2,ZE,Zw,ZJ,beq_self_eq_true,Bool.and_self,Bool.not_true,Bool.not_false,cond_true,and_true,true_and,and_self,Nat.le_refl]⟩
   ·have hr:=ZnV (inS 24 a b c m) fr fr' l ZB (ZS (Z2 l (Z7 l)).2 16) (ZS f2 16) (Z2 l (Z7 l)).1 zs2 (Z2 l (Z7 l)).1 zs2 (Z2 l (Z7 l)).2 f2 4096 256 4
    have dc:decide (((ZS f2 16:Nat):Int)≤((ZS (Z2 l (Z7 l)).2 16+1:Nat):Int))=true:=decide_eq_true (by
     rcases hc with h|⟨_,_,h⟩<;>omega)
    rw[hw,dc] at hr
    exact⟨_,_,_,hb,hr,by simp only[rr, tt, inS,Int.toNat_natCast,y0,y1,q7,q8,q9,hV,g20,l22,n24,p1,p2,v1,v2,u1,u2,ZE,Zw,ZJ,beq_self_eq_true,Bool.and_self,Bool.not_true,Bool.not_false,cond_true,and_true,true_and,and_self,Nat.le_refl]⟩
def Zau (f:Nat→Bool):Nat→Nat
 | 0=>0
 | n+1=>Zau f n+(if f n=true then 1 else 0)
theorem ZfP (f:Nat→Bool) (g:Nat):∀ k,Zau f (16*g+k)=Zau f (16*g)+(tgK f g k).length
 | 0=>rfl
 | k+1=>by
  have h:=ZfP f g k
  show Zau f (16*g+k)+(if f (16*g+k)=true then 1 else 0)=Zau f (16*g)+(bif f (16*g+k) then tgK f g k++[(16*g+k)*16] else tgK f g k).length
  cases f (16*g+k)
  ·rw[if_neg (by decide),cond_false]; omega
  ·rw[if_pos rfl,cond_true,List.length_append,List.length_singleton]; omega
theorem W9 (f:Nat→Bool):∀ P,ZS f P=Zau f (16*P)
 | 0=>rfl
 | P+1=>by
  show ZS f P+(tgK f P 16).length=_
  rw[W9 f P,show 16*(P+1)=16*P+16 by omega,ZfP f P 16]
theorem ZfQ (f:Nat→Bool) (g:Nat):∀ n,Zau (Qr f g false) n≤Zau f n
 | 0=>Nat.le_refl _
 | n+1=>by
  have h:=ZfQ f g n
  show Zau (Qr f g false) n+(if Qr f g false n=true then 1 else 0)≤Zau f n+(if f n=true then 1 else 0)
  by_cases hn:n=g
  ·have:Qr f g false n=false:=by unfold Qr; rw[if_pos hn]
   rw[this,if_neg (by decide)]; omega
  ·have:Qr f g false n=f n:=by unfold Qr; rw[if_neg hn]
   rw[this]; omega
theorem Zc2 (f:Nat→Bool) (g:Nat) (b:Bool):∀ n,n≤g→Zau (Qr f g b) n=Zau f n
 | 0,_=>rfl
 | n+1,h=>by
  show Zau (Qr f g b) n+(if Qr f g b n=true then 1 else 0)=Zau f n+(if f n=true then 1 else 0)
  have:Qr f g b n=f n:=by unfold Qr; rw[if_neg (by omega)]
  rw[this,Zc2 f g b n (by omega)]
theorem Zc3 (f:Nat→Bool) (g:Nat) (b:Bool):∀ n,Zau (Qr f g b) n≤Zau f n+1
 | 0=>Nat.zero_le _
 | n+1=>by
  have h:=Zc3 f g b n
  show Zau (Qr f g b) n+(if Qr f g b n=true then 1 else 0)≤Zau f n+(if f n=true then 1 else 0)+1
  by_cases hn:n=g
  ·have h2:=Zc2 f g b n (by omega)
   have h3:(if Qr f g b n=true then 1 else 0)≤1:=by split<;>omega
   omega
  ·have:Qr f g b n=f n:=by unfold Qr; rw[if_neg hn]
   rw[this]; omega
theorem Zhe (f:Nat→Bool) (g:Nat):ZS (Qr f g false) 16≤ZS f 16:=by rw[W9,W9]; exact ZfQ f g _
theorem ZlX (f:Nat→Bool) (g:Nat) (b:Bool):ZS (Qr f g b) 16≤ZS f 16+1:=by
 rw[W9,W9]
 exact Zc3 f g b (16*16)
theorem ZfR {op:Int} (h:0<Yt op):op=17∨op=18∨op=19∨op=20∨op=21∨op=22∨op=23∨op=24:=by
 unfold Yt at h
 split at h
 ·omega
 ·split at h
  ·omega
  ·split at h
   ·omega
   ·split at h
    ·omega
    ·omega
theorem ZnX {op:Int} (h:Yt op=0):¬ (20≤op∧op≤22)∧¬ op=24:=by
 unfold Yt at h
 split at h
 ·cases h
 ·split at h
  ·cases h
  ·split at h
   ·cases h
   ·split at h
    ·cases h
    ·omega
theorem Zhf (fr:Nat→Cp) (hfr:Wp fr) (i:In) (k:Nat) (l:List Pt) (hk:Zb4 k l.length) (hok:∀ x∈l,x.Ok):Zao fr i k l:=by
 have har:=ZfJ l (Z7 l)
 cases hm:XO i
 ·exact XM fr frN i k l 6 hk hok (Znz fr i _ _ 4096 256 4 hfr hm) (fun _=>rfl) (fun h=>by cases h)
 obtain⟨r1,r2,r3,r4,r5,r6,_,_⟩:=Zfn hm
 obtain⟨op,a,b,c,m⟩:=i
 simp only at r1 r2 r3 r4 r5 r6
 obtain⟨a,rfl⟩:=Int.eq_ofNat_of_zero_le r1
 obtain⟨b,rfl⟩:=Int.eq_ofNat_of_zero_le r3
 obtain⟨c,rfl⟩:=Int.eq_ofNat_of_zero_le r5
 have a0:a<16:=by omega
 have b0:b<16:=by omega
 have c0:c<16:=by omega
 change XO (inS op a b c m)=true at hm
 show Zao fr (inS op a b c m) k l
 by_cases k53:op=53
 ·subst k53; exact XM fr frN _ k l 6 hk hok (ZiW fr a b c m _ _ 4096 256 4 hfr hm) (fun _=>rfl) (fun h=>by cases h)
 by_cases k50:op=50
 ·subst k50; exact XM fr fr _ k l 0 hk hok (Zfs fr a b c m _ _ 4096 256 4 hfr hm) (fun h=>absurd rfl h) (fun _=>by show ¬ ((20:Int)≤50∧(50:Int)≤22)∧¬ (50:Int)=24; omega)
 by_cases k51:op=51
 ·subst k51; exact XM fr fr _ k l 0 hk hok (Zft fr a b c m _ _ 4096 256 4 hfr hm) (fun h=>absurd rfl h) (fun _=>by show ¬ ((20:Int)≤51∧(51:Int)≤22)∧¬ (51:Int)=24; omega)
 by_cases k52:op=52
 ·subst k52; exact XM fr fr _ k l 0 hk hok (Zfu fr a b c m _ _ 4096 256 4 hfr hm) (fun h=>absurd rfl h) (fun _=>by show ¬ ((20:Int)≤52∧(52:Int)≤22)∧¬ (52:Int)=24; omega)
 by_cases k29:op=29
 ·subst k29; exact XM fr _ _ k l 0 hk hok (ZkW fr a b c m _ _ 4096 256 4 hfr a0 hm) (fun h=>absurd rfl h) (fun _=>by show ¬ ((20:Int)≤29∧(29:Int)≤22)∧¬ (29:Int)=24; omega)
 by_cases k30:op=30
 ·subst k30
  by_cases ht:WR (fr b) 4=0
  ·exact XM fr _ _ k l 0 hk hok (ZiX fr a b c m _ _ 4096 256 4 hfr a0 b0 hm ht) (fun h=>absurd rfl h) (fun _=>by show ¬ ((20:Int)≤30∧(30:Int)≤22)∧¬ (30:Int)=24; omega)
  ·exact XM fr _ _ k l _ hk hok (ZiY fr a b c m _ _ 4096 256 4 hfr a0 b0 hm ht) (fun _=>rfl) (fun h=>absurd h ht)
 by_cases hw:Yt op=0
 ·have h0:=ZnX hw
  cases hi:tkI op
  ·cases hj:rkI op
   ·exact XM fr _ _ k l 0 hk hok (Zk3 fr op a b c m _ _ 4096 256 4 hfr a0 b0 c0 hm k53 k50 k51 k52 k29 k30 hw hi hj) (fun h=>absurd rfl h) (fun _=>h0)
   ·by_cases ht:rkT op (fr c).C=0
    ·exact XM fr _ _ k l 0 hk hok (Zk1 fr op a b c m _ _ 4096 256 4 hfr a0 b0 c0 hm k53 k50 k51 k52 k29 k30 hw hi hj ht) (fun h=>absurd rfl h) (fun _=>h0)
    ·exact XM fr _ _ k l _ hk hok (Zk2 fr op a b c m _ _ 4096 256 4 hfr a0 b0 c0 hm k53 k50 k51 k52 k29 k30 hw hi hj ht) (fun _=>rfl) (fun h=>absurd h ht)
  ·cases hkk:tkS op (fr a).C (fr b).C
   ·exact XM fr _ _ k l 0 hk hok (Zk0 fr op a b c m _ _ 4096 256 4 hfr a0 b0 hm k53 k50 k51 k52 k29 k30 hw hi hkk) (fun h=>absurd rfl h) (fun _=>h0)
   ·exact XM fr _ _ k l 0 hk hok (ZkZ fr op a b c m _ _ 4096 256 4 hfr a0 b0 hm k53 k50 k51 k52 k29 k30 hw hi hkk) (fun h=>absurd rfl h) (fun _=>h0)
 have hw:0<Yt op:=by omega
 have hT:=fun(hmv:ConOk Tryz.prog 37 3 (Y8 fr (inS op a b c m) J2 (Ya fr op a b m 4096) (Z2 l (Z7 l)).1 (Z2 l (Z7 l)).2 4096 256 4)∧FlatC (Y8 fr (inS op a b c m) J2 (Ya fr op a b m 4096) (Z2 l (Z7 l)).1 (Z2 l (Z7 l)).2 4096 256 4)) (ht:Ya fr op a b m 4096≠0) =>
  XM fr _ _ k l _ hk hok (ZkX fr op a b c m _ _ 4096 256 4 hfr a0 hm k53 k50 k51 k52 k29 k30 hw _ _ hmv ht) (fun _=>rfl) (fun h=>absurd h ht)
 have hO:=fun(r:Cp) (h0:¬ (20≤op∧op≤22)∧¬ op=24) (hmv:ConOk Tryz.prog 37 3 (Y8 fr (inS op a b c m) r 0 (Z2 l (Z7 l)).1 (Z2 l (Z7 l)).2 4096 256 4)∧FlatC (Y8 fr (inS op a b c m) r 0 (Z2 l (Z7 l)).1 (Z2 l (Z7 l)).2 4096 256 4)) =>
  XM fr _ _ k l 0 hk hok (ZkY fr op a b c m _ _ 4096 256 4 hfr a0 hm k53 k50 k51 k52 k29 k30 hw r hmv) (fun h=>absurd rfl h) (fun _=>h0)
 have hS:=fun(r:Cp) (zs2:List UInt8) (f2:Nat→Bool) (h2:ArOk zs2 4096 256 4) (hop:(20≤op∧op≤22)∨op=24) (hc:ZS f2 16≤ZS (Z2 l (Z7 l)).2 16∨(op=24∧(fr a).V=true∧ZS f2 16≤ZS (Z2 l (Z7 l)).2 16+1))
   (hmv:ConOk Tryz.prog 37 3 (Zbi (mvA fr (inS op a b c m)) (.tuple ⟨[r.val,.int .i64 0]⟩) (Z2 l (Z7 l)).1 zs2 (Z2 l (Z7 l)).2 f2 4096 256 4)∧FlatC (Zbi (mvA fr (inS op a b c m)) (.tuple ⟨[r.val,.int .i64 0]⟩) (Z2 l (Z7 l)).1 zs2 (Z2 l (Z7 l)).2 f2 4096 256 4)) =>
  ZlW fr _ op a b c m k l zs2 f2 a0 hk hok (Zk4 fr op a b c m _ _ 4096 256 4 hfr a0 hm k53 k50 k51 k52 k29 k30 hw r zs2 f2 hmv) h2 hop hc
 have hlen:∀ (i:Nat) (bs:List UInt8),i+bs.length≤4096→ArOk (QW i bs (Z2 l (Z7 l)).1) 4096 256 4:=fun i bs hi=>⟨by rw[Vj _ _ _ (by rw[har.len]; exact hi),har.len],har.tags,har.words,har.few,har.big⟩
 by_cases ht:Ya fr op a b m 4096=0
 ·obtain⟨hin,hal,_⟩:=VJ (show J3 (fr b) (atS fr b m) (Yt op) (Y7 fr op a) 4096=0 from ht)
  rcases ZfR hw with rfl|rfl|rfl|rfl|rfl|rfl|rfl|rfl
  ·exact hO _ (by omega) (ZiD fr 17 a b c m _ _ 4096 256 4 har hfr a0 b0 (by omega) (by omega) (by omega) (by omega) hw (by omega) (by decide) ht)
  ·exact hO _ (by omega) (ZiD fr 18 a b c m _ _ 4096 256 4 har hfr a0 b0 (by omega) (by omega) (by omega) (by omega) hw (by omega) (by decide) ht)
  ·exact hO _ (by omega) (ZiD fr 19 a b c m _ _ 4096 256 4 har hfr a0 b0 (by omega) (by omega) (by omega) (by omega) hw (by omega) (by decide) ht)
  ·exact hS _ _ _ (hlen _ _ (by rw[YS]; exact hin)) (by omega) (.inl (Zhe _ _)) (Zkv fr a b c m _ _ 4096 256 4 har hfr a0 b0 ht)
  ·exact hS _ _ _ (hlen _ _ (by rw[YS]; exact hin)) (by omega) (.inl (Zhe _ _)) (Zkw fr a b c m _ _ 4096 256 4 har hfr a0 b0 ht)
  ·exact hS _ _ _ (hlen _ _ (by rw[YS]; exact hin)) (by omega) (.inl (Zhe _ _)) (Zkx fr a b c m _ _ 4096 256 4 har hfr a0 b0 ht)
  ·exact hO _ (by omega) (ZmH fr a b c m _ _ 4096 256 4 har hfr a0 b0 _ (Zi2 _ _ _ 4096 256 4 har hal hin) ht)
  ·cases hV:(fr a).V
   ·have hmv:=ZmJ fr a b c m (Z2 l (Z7 l)).1 (Z2 l (Z7 l)).2 4096 256 4 har hfr a0 b0 hV ht
    rw[hV,Bool.false_and] at hmv
    exact hS _ _ _ (hlen _ _ (by rw[WH]; exact hin)) (by omega) (.inl (Zhe _ _)) hmv
   ·exact hS _ _ _ (hlen _ _ (by rw[WH]; exact hin)) (by omega) (.inr ⟨rfl,hV,ZlX _ _ _⟩) (ZmI fr a b c m _ _ 4096 256 4 har hfr a0 b0 hV ht)
 ·rcases ZfR hw with rfl|rfl|rfl|rfl|rfl|rfl|rfl|rfl
  ·exact hT (ZgC fr 17 a b c m _ _ 4096 256 4 har hfr a0 b0 (by omega) (by omega) (by omega) (by omega) hw ht) ht
  ·exact hT (ZgC fr 18 a b c m _ _ 4096 256 4 har hfr a0 b0 (by omega) (by omega) (by omega) (by omega) hw ht) ht
  ·exact hT (ZgC fr 19 a b c m _ _ 4096 256 4 har hfr a0 b0 (by omega) (by omega) (by omega) (by omega) hw ht) ht
  ·exact hT (Zks fr a b c m _ _ 4096 256 4 har hfr a0 b0 ht) ht
  ·exact hT (Zkt fr a b c m _ _ 4096 256 4 har hfr a0 b0 ht) ht
  ·exact hT (Zku fr a b c m _ _ 4096 256 4 har hfr a0 b0 ht) ht
  ·exact hT (ZgC fr 23 a b c m _ _ 4096 256 4 har hfr a0 b0 (by omega) (by omega) (by omega) (by omega) hw ht) ht
  ·cases hV:(fr a).V
   ·exact hT (ZmG fr a b c m _ _ 4096 256 4 har hfr a0 b0 hV ht) ht
   ·exact hT (ZmF fr a b c m _ _ 4096 256 4 har hfr a0 b0 hV ht) ht
end Go.Proofs.YtagacmljbgkmoaaGreatDoor
namespace Go.Proofs.YtagacmljbgkmoaaGreatDoor
open Go.IntKind (u8 u16 u32 u64 i64)
open Go.ChangeShapes Go.WideShapes Go.Deep Go.RowKit
open Sy
set_option maxRecDepth 100000
structure S1Is (W:World) (v:Value) (k:Nat) (cells:List Value) (n B O C:Nat) (S:Option Nat):Prop where
 is:v=(match k with|0 => .slice none 0 0|1 => .slice (some ⟨B,O,S⟩) 0 C|_ => .slice (some ⟨B,O,none⟩) n C)
 ok:Zb4 k n
 le:n≤C
 at_:2≤k→∃ arr ty fr,W.heap[B]? = some (.cells arr ty fr)∧O+cells.length≤arr.size∧∀ j v,cells[j]? = some v→arr[O+j]? = some v
section
variable {H:Type} {enc:TypeId×Value→H} {W:World} {base:Nat} {spare:Nat→Bool} {held:Bool}
theorem ZhR {a:Addr} {v:Value} (h:W.cell? a=some v):∃ arr ty fr,W.heap[a.block]? = some (.cells arr ty fr)∧arr[a.off]? = some v∧a.spot=none:=by
 have hs:=World.cell?_spot h
 unfold World.cell? at h
 split at h
 ·rename_i c t f hb
  rw[hs] at h
  exact⟨c,t,f,hb,by simpa using h,hs⟩
 ·cases h
theorem ZnY {a:Addr} (h:a.spot=none) (i:Nat):(a.add i).block=a.block∧(a.add i).off=a.off+i:=by
 obtain⟨b,o,s⟩:=a
 subst h
 unfold Addr.add
 split<;>simp_all
theorem ZnZ {a:Addr} {cells:List Value} (h0:0<cells.length) (h:∀ i v,cells[i]? = some v→W.cell? (a.add i)=some v):a.spot=none∧∃ arr ty fr,W.heap[a.block]? = some (.cells arr ty fr)∧a.off+cells.length≤arr.size∧∀ j v,cells[j]? = some v→arr[a.off+j]? = some v:=by
 have h1:=h 0 _ (List.getElem?_eq_getElem h0)
 rw[show a.add 0=a by unfold Addr.add; simp] at h1
 obtain⟨arr,ty,fr,q1,q2,q3⟩:=ZhR h1
 have hat:∀ j v,cells[j]? = some v→arr[a.off+j]? = some v:=fun j v hj=>by
  obtain⟨arr',ty',fr',p1,p2,_⟩:=ZhR (h j v hj)
  obtain⟨e1,e2⟩:=ZnY q3 j
  rw[e1,q1] at p1
  cases p1
  rw[e2] at p2
  exact p2
 refine⟨q3,arr,ty,fr,q1,?_,hat⟩
 have:=hat (cells.length-1) _ (List.getElem?_eq_getElem (by omega))
 have:=(Array.getElem?_eq_some_iff.1 this).1
 omega
theorem Zjx {n:Nat} {u:Value} {y} (h:DataW.trod enc Tryz.prog W base spare held n 22 [u]=some y):∃ a:Nat,u = .int .u32 a∧a<4294967296:=by
 obtain⟨a,e,_,hw⟩:=DataW.trod_int Tryz.underlying22 h
 simp at e; subst e
 have b:=Zky hw
 obtain⟨a,rfl⟩:=Int.eq_ofNat_of_zero_le b.1
 exact⟨a,rfl,by omega⟩
theorem ZfS {n:Nat} {u:Value} {y} (h:DataW.trod enc Tryz.prog W base spare held n 28 [u]=some y):∃ a:Nat,u = .int .u16 a∧a<65536:=by
 obtain⟨a,e,_,hw⟩:=DataW.trod_int Tryz.underlying28 h
 simp at e; subst e
 have b:=Zkz hw
 obtain⟨a,rfl⟩:=Int.eq_ofNat_of_zero_le b.1
 exact⟨a,rfl,by omega⟩
theorem k_u8 {n:Nat} {u:Value} {y} (h:DataW.trod enc Tryz.prog W base spare held n 5 [u]=some y):∃ a:Nat,u = .int .u8 a∧a<256:=by
 obtain⟨a,e,_,hw⟩:=DataW.trod_int Tryz.underlying5 h
 simp at e; subst e
 have b:=ZmK hw
 obtain⟨a,rfl⟩:=Int.eq_ofNat_of_zero_le b.1
 exact⟨a,rfl,by omega⟩
theorem ZfT {n:Nat} {u:Value} {y} (h:DataW.trod enc Tryz.prog W base spare held n 3 [u]=some y):∃ a:Int,u = .int .i64 a:=by
 obtain⟨a,e,_,hw⟩:=DataW.trod_int Tryz.underlying3 h
 simp at e; subst e
 exact⟨a,rfl⟩
theorem ZhS {n:Nat} {u:Value} {y} (h:DataW.trod enc Tryz.prog W base spare held n 4 [u]=some y):∃ a:Bool,u = .bool a:=by
 obtain⟨a,e,_⟩:=DataW.trod_bool Tryz.underlying4 h
 simp at e; subst e
 exact⟨a,rfl⟩
theorem Zjy {fuel:Nat} {cs:List Value} {x} (h:DataW.trod enc Tryz.prog W base spare held fuel 30 cs=some x) (hl:cs.length=8):∃ c:Cp,cs=c.cs∧c.Ok:=by
 obtain⟨xs,n,_,_,_,hlen,hg⟩:=DataW.trod_struct Tryz.underlying30 h
 match cs,hl with
 | [u0,u1,u2,u3,u4,u5,u6,u7],_ =>
  have hx:∀ j,j<8→∃ y,xs[j]? = some y:=fun j hj=>⟨xs[j]'(by simp at hlen; omega),List.getElem?_eq_getElem _⟩
  obtain⟨y0,e0⟩:=hx 0 (by omega)
  obtain⟨y1,e1⟩:=hx 1 (by omega)
  obtain⟨y2,e2⟩:=hx 2 (by omega)
  obtain⟨y3,e3⟩:=hx 3 (by omega)
  obtain⟨y4,e4⟩:=hx 4 (by omega)
  obtain⟨y5,e5⟩:=hx 5 (by omega)
  obtain⟨y6,e6⟩:=hx 6 (by omega)
  obtain⟨y7,e7⟩:=hx 7 (by omega)
  have t0:=(hg 0 _ rfl).trans e0
  have t1:=(hg 1 _ rfl).trans e1
  have t2:=(hg 2 _ rfl).trans e2
  have t3:=(hg 3 _ rfl).trans e3
  have t4:=(hg 4 _ rfl).trans e4
  have t5:=(hg 5 _ rfl).trans e5
  have t6:=(hg 6 _ rfl).trans e6
  have t7:=(hg 7 _ rfl).trans e7
  have c22:Tryz.prog.cellsOf 22=1:=by kernel_rfl
  have c23:Tryz.prog.cellsOf 28=1:=by kernel_rfl
  have c24:Tryz.prog.cellsOf 5=1:=by kernel_rfl
  have c25:Tryz.prog.cellsOf 4=1:=by kernel_rfl
  replace t0:DataW.trod enc Tryz.prog W base spare held n 22 [u0]=some y0:=by simpa [c22,c23,c24,c25] using t0
  replace t1:DataW.trod enc Tryz.prog W base spare held n 5 [u1]=some y1:=by simpa [c22,c23,c24,c25] using t1
  replace t2:DataW.trod enc Tryz.prog W base spare held n 28 [u2]=some y2:=by simpa [c22,c23,c24,c25] using t2
  replace t3:DataW.trod enc Tryz.prog W base spare held n 28 [u3]=some y3:=by simpa [c22,c23,c24,c25] using t3
  replace t4:DataW.trod enc Tryz.prog W base spare held n 28 [u4]=some y4:=by simpa [c22,c23,c24,c25] using t4
  replace t5:DataW.trod enc Tryz.prog W base spare held n 28 [u5]=some y5:=by simpa [c22,c23,c24,c25] using t5
  replace t6:DataW.trod enc Tryz.prog W base spare held n 22 [u6]=some y6:=by simpa [c22,c23,c24,c25] using t6
  replace t7:DataW.trod enc Tryz.prog W base spare held n 4 [u7]=some y7:=by simpa [c22,c23,c24,c25] using t7
  obtain⟨cC,rfl,b0⟩:=Zjx t0
  obtain⟨cE,rfl,b1⟩:=k_u8 t1
  obtain⟨cB,rfl,b2⟩:=ZfS t2
  obtain⟨cT,rfl,b3⟩:=ZfS t3
  obtain⟨cP,rfl,b4⟩:=ZfS t4
  obtain⟨cY,rfl,b5⟩:=ZfS t5
  obtain⟨cR,rfl,b6⟩:=Zjx t6
  obtain⟨cV,rfl⟩:=ZhS t7
  exact⟨⟨cC,cE,cB,cT,cP,cY,cR,cV⟩,rfl,⟨b0,b1,b2,b3,b4,b5,b6⟩⟩
theorem Zn0 {fuel:Nat} {cs:List Value} {x} (h:DataW.trod enc Tryz.prog W base spare held fuel 90 cs=some x) (hl:cs.length=11):∃ y:Pt,cs=y.cs∧y.Ok:=by
 obtain⟨xs,n,_,_,_,hlen,hg⟩:=DataW.trod_struct Tryz.underlying90 h
 match cs,hl with
 | [z0,z1,z2,z3,z4,z5,z6,z7,z8,z9,z10],_ =>
  have hx:∀ j,j<4→∃ y,xs[j]? = some y:=fun j hj=>⟨xs[j]'(by simp at hlen; omega),List.getElem?_eq_getElem _⟩
  obtain⟨y0,e0⟩:=hx 0 (by omega)
  obtain⟨y1,e1⟩:=hx 1 (by omega)
  obtain⟨y2,e2⟩:=hx 2 (by omega)
  obtain⟨y3,e3⟩:=hx 3 (by omega)
  have t0:=(hg 0 _ rfl).trans e0
  have t1:=(hg 1 _ rfl).trans e1
  have t2:=(hg 2 _ rfl).trans e2
  have t3:=(hg 3 _ rfl).trans e3
  have c22:Tryz.prog.cellsOf 22=1:=by kernel_rfl
  have c23:Tryz.prog.cellsOf 28=1:=by kernel_rfl
  have c24:Tryz.prog.cellsOf 4=1:=by kernel_rfl
  have c25:Tryz.prog.cellsOf 30=8:=by kernel_rfl
  replace t0:DataW.trod enc Tryz.prog W base spare held n 28 [z0]=some y0:=by simpa [c22,c23,c24,c25] using t0
  replace t1:DataW.trod enc Tryz.prog W base spare held n 4 [z1]=some y1:=by simpa [c22,c23,c24,c25] using t1
  replace t2:DataW.trod enc Tryz.prog W base spare held n 22 [z2]=some y2:=by simpa [c22,c23,c24,c25] using t2
  replace t3:DataW.trod enc Tryz.prog W base spare held n 30 [z3,z4,z5,z6,z7,z8,z9,z10]=some y3:=by simpa [c22,c23,c24,c25] using t3
  obtain⟨a,rfl,b0⟩:=ZfS t0
  obtain⟨w,rfl⟩:=ZhS t1
  obtain⟨v,rfl,b2⟩:=Zjx t2
  obtain⟨c,he,hc⟩:=Zjy t3 rfl
  exact⟨⟨a,w,v,c⟩,by rw[he]; rfl,b0,b2,hc⟩
theorem ZhT (fr:Nat→Cp):∀ (n k:Nat) (cs:List Value),cs.length=8*n→(∀ j,j<n→(cs.drop (8*j)).take 8=(fr (k+j)).cs)→cs=frK fr k n
 | 0,_,cs,h,_=>List.length_eq_zero_iff.1 (by omega)
 | n+1,k,cs,h,hj=>by
  have h0:=hj 0 (by omega)
  rw[Nat.mul_zero,List.drop_zero,Nat.add_zero] at h0
  have h1:=ZhT fr n (k+1) (cs.drop 8) (by rw[List.length_drop]; omega) (fun j hjn=>by
   have:=hj (j+1) (by omega)
   rw[List.drop_drop,show 8+8*j=8*(j+1) by omega,this,show k+1+j=k+(j+1) by omega])
  show cs=(fr k).cs++frK fr (k+1) n
  rw[← h0,← h1,List.take_append_drop]
theorem Zjz {fuel:Nat} {cs:List Value} {x} (h:DataW.trod enc Tryz.prog W base spare held fuel 33 cs=some x) (hl:cs.length=136):∃ fr:Nat→Cp,cs=frL fr∧Wp fr:=by
 obtain⟨xs,n,_,_,_,hlen,hg⟩:=DataW.trod_struct Tryz.underlying33 h
 have hx:∀ j,j<2→∃ y,xs[j]? = some y:=fun j hj=>⟨xs[j]'(by simp at hlen; omega),List.getElem?_eq_getElem _⟩
 obtain⟨y0,e0⟩:=hx 0 (by omega)
 obtain⟨y1,e1⟩:=hx 1 (by omega)
 have t0:=(hg 0 _ rfl).trans e0
 have t1:=(hg 1 _ rfl).trans e1
 have c25:Tryz.prog.cellsOf 30=8:=by kernel_rfl
 have c26:Tryz.prog.cellsOf 31=128:=by kernel_rfl
 replace t0:DataW.trod enc Tryz.prog W base spare held n 31 (cs.take 128)=some y0:=by simpa [c25,c26] using t0
 replace t1:DataW.trod enc Tryz.prog W base spare held n 30 ((cs.drop 128).take 8)=some y1:=by simpa [c25,c26] using t1
 obtain⟨zs,m,_,_,_,hzl,hzg⟩:=DataW.trod_array Tryz.underlying31 t0
 have hk:∀ j,j<17→∃ c:Cp,(cs.drop (8*j)).take 8=c.cs∧c.Ok:=fun j hj=>by
  by_cases h16:j<16
  ·have:=hzg j h16
   rw[c25] at this
   have e:((cs.take 128).drop (j*8)).take 8=(cs.drop (8*j)).take 8:=by
    rw[List.drop_take,List.take_take,Nat.mul_comm,Nat.min_eq_left (by omega)]
   rw[e,List.getElem?_eq_getElem (by omega:j<zs.length)] at this
   exact Zjy this (by rw[List.length_take,List.length_drop,hl]; omega)
  ·have hj16:j=16:=by omega
   subst hj16
   exact Zjy t1 (by rw[List.length_take,List.length_drop,hl]; rfl)
 have hfr:∃ fr:Nat→Cp,∀ j,j<17→(cs.drop (8*j)).take 8=(fr j).cs∧(fr j).Ok:=⟨fun j=>if h:j<17 then Classical.choose (hk j h) else J2,fun j hj=>by
  have:=Classical.choose_spec (hk j hj)
  simp only[rr, tt, hj,dif_pos]
  exact this⟩
 obtain⟨fr,hfr⟩:=hfr
 refine⟨fun j=>if j<17 then fr j else J2,?_,fun j => ?_⟩
 ·rw[JJ]
  refine ZhT _ 17 0 cs (by rw[hl]) (fun j hj => ?_)
  rw[Nat.zero_add,if_pos hj]
  exact(hfr j hj).1
 ·show(if j<17 then fr j else J2).Ok
  split
  ·rename_i hj; exact(hfr j hj).2
  ·exact⟨by decide,by decide,by decide,by decide,by decide,by decide,by decide⟩
theorem ZjA {fuel:Nat} {cs:List Value} {x} (h:DataW.trod enc Tryz.prog W base spare held fuel 40 cs=some x) (hl:cs.length=5):∃ i:In,cs=[.int .i64 i.op,.int .i64 i.a,.int .i64 i.b,.int .i64 i.c,.int .i64 i.m]:=by
 obtain⟨xs,n,_,_,_,hlen,hg⟩:=DataW.trod_struct Tryz.underlying40 h
 match cs,hl with
 | [u0,u1,u2,u3,u4],_ =>
  have hx:∀ j,j<5→∃ y,xs[j]? = some y:=fun j hj=>⟨xs[j]'(by simp at hlen; omega),List.getElem?_eq_getElem _⟩
  obtain⟨y0,e0⟩:=hx 0 (by omega)
  obtain⟨y1,e1⟩:=hx 1 (by omega)
  obtain⟨y2,e2⟩:=hx 2 (by omega)
  obtain⟨y3,e3⟩:=hx 3 (by omega)
  obtain⟨y4,e4⟩:=hx 4 (by omega)
  have t0:=(hg 0 _ rfl).trans e0
  have t1:=(hg 1 _ rfl).trans e1
  have t2:=(hg 2 _ rfl).trans e2
  have t3:=(hg 3 _ rfl).trans e3
  have t4:=(hg 4 _ rfl).trans e4
  have c23:Tryz.prog.cellsOf 3=1:=by kernel_rfl
  replace t0:DataW.trod enc Tryz.prog W base spare held n 3 [u0]=some y0:=by simpa [c23] using t0
  replace t1:DataW.trod enc Tryz.prog W base spare held n 3 [u1]=some y1:=by simpa [c23] using t1
  replace t2:DataW.trod enc Tryz.prog W base spare held n 3 [u2]=some y2:=by simpa [c23] using t2
  replace t3:DataW.trod enc Tryz.prog W base spare held n 3 [u3]=some y3:=by simpa [c23] using t3
  replace t4:DataW.trod enc Tryz.prog W base spare held n 3 [u4]=some y4:=by simpa [c23] using t4
  obtain⟨a0,rfl⟩:=ZfT t0
  obtain⟨a1,rfl⟩:=ZfT t1
  obtain⟨a2,rfl⟩:=ZfT t2
  obtain⟨a3,rfl⟩:=ZfT t3
  obtain⟨a4,rfl⟩:=ZfT t4
  exact⟨⟨a0,a1,a2,a3,a4⟩,rfl⟩
theorem Zhg (l:List Pt) (q:Nat) (h:q<11*l.length):(Z6 l)[q]? = ((l.getD (q/11) pt0).cs)[q%11]?:=by
 have h1:=Zi7 l (q/11) (q%11) (by omega) (Nat.mod_lt _ (by omega))
 rw[Y5,Y5,show 11*(q/11)+q%11=q by omega] at h1
 rw[List.getElem?_eq_getElem (by rw[Vn]; exact h),List.getElem?_eq_getElem (by rw[Uu]; exact Nat.mod_lt _ (by omega))]
 rw[List.getD_eq_getElem?_getD,List.getD_eq_getElem?_getD,List.getElem?_eq_getElem (by rw[Vn]; exact h),List.getElem?_eq_getElem (by rw[Uu]; exact Nat.mod_lt _ (by omega))] at h1
 exact congrArg some h1
theorem ZfU {fuel:Nat} {u:Value} {x:DataW H×List MemPlace} (h:DataW.trod enc Tryz.prog W base spare held fuel 42 [u]=some x) :
  ∃ (k:Nat) (l:List Pt) (B O C:Nat) (S:Option Nat),S1Is W u k (Z6 l) l.length B O C S∧∀ y∈l,y.Ok:=by
 have c0:Tryz.prog.cellsOf 90=11:=by kernel_rfl
 rcases open_slice Tryz.underlying42 h with⟨h1,_⟩|⟨a,len,cap,m,n,D,Pl,h1,_,hl,_,hm,_,hi⟩
 ·simp only[rr, tt, List.cons.injEq,and_true] at h1
  exact⟨0,[],0,0,0,none,⟨h1,⟨by omega,fun _=>rfl⟩,Nat.le_refl _,fun h=>by omega⟩,fun y hy=>by cases hy⟩
 ·simp only[rr, tt, List.cons.injEq,and_true] at h1
  subst h1
  have hlm:len≤m:=by rw[hm]; split<;>omega
  by_cases h0:len=0
  ·subst h0
   obtain⟨b,o,s⟩:=a
   exact⟨1,[],b,o,cap,s,⟨rfl,⟨by omega,fun _=>rfl⟩,Nat.zero_le _,fun h=>by omega⟩,fun y hy=>by cases hy⟩
  ·have hR:∀ i,i<len→∃ y:Pt,y.Ok∧∀ j v,y.cs[j]? = some v→W.cell? ((a.add (i*11)).add j)=some v:=fun i hil=>by
    obtain⟨cs',hc,ht'⟩:=hi i (by omega)
    rw[c0] at hc
    obtain⟨_,hcl,hat⟩:=World.cells?_some hc
    obtain⟨y,rfl,hy⟩:=Zn0 ht' hcl
    exact⟨y,hy,fun j v hj=>by
     have hj11:j<11:=(List.getElem?_eq_some_iff.1 hj).1
     exact(hat j hj11).trans hj⟩
   have hR2:∃ R:Nat→Pt,∀ i,i<len→(R i).Ok∧∀ j v,(R i).cs[j]? = some v→W.cell? ((a.add (i*11)).add j)=some v:=⟨fun i=>if h:i<len then Classical.choose (hR i h) else pt0,fun i hil=>by
    have:=Classical.choose_spec (hR i hil)
    simp only[rr, tt, hil,dif_pos]
    exact this⟩
   obtain⟨R,hR⟩:=hR2
   have hlen:((List.range len).map R).length=len:=by simp
   have h0r:∀ i,i<len→((List.range len).map R).getD i pt0=R i:=fun i hil=>by
    rw[List.getD_eq_getElem?_getD,List.getElem?_map,List.getElem?_range hil]; rfl
   have hspot:a.spot=none:=by
    have:=(hR 0 (by omega)).2 0 _ rfl
    have hsp:=World.cell?_spot this
    simpa [Addr.add] using hsp
   have hget:∀ q v,(Z6 ((List.range len).map R))[q]? = some v→W.cell? (a.add q)=some v:=by
    intro q v hv
    have hq:q<11*len:=by
     have:=(List.getElem?_eq_some_iff.1 hv).1
     rw[Vn,hlen] at this; exact this
    rw[Zhg _ _ (by rw[hlen]; exact hq),h0r _ (by omega)] at hv
    have:=(hR (q/11) (by omega)).2 _ _ hv
    obtain⟨b,o,s⟩:=a
    simp only at hspot
    subst hspot
    rw[Go.WideShapes.add_plain,Go.WideShapes.add_plain] at this
    rw[Go.WideShapes.add_plain,show o+q=o+q/11*11+q%11 by omega]
    exact this
   obtain⟨hs,hrow⟩:=ZnZ (a:=a) (cells:=Z6 ((List.range len).map R)) (by rw[Vn,hlen]; omega) hget
   obtain⟨b,o,s⟩:=a
   simp only at hs
   subst hs
   refine⟨2,(List.range len).map R,b,o,cap,none,⟨by rw[hlen]; rfl,⟨by omega,fun h=>by omega⟩,by rw[hlen]; exact hl,fun _=>hrow⟩,fun y hy => ?_⟩
   obtain⟨i,hi',rfl⟩:=List.mem_map.1 hy
   exact(hR i (by simpa using hi')).1
end
end Go.Proofs.YtagacmljbgkmoaaGreatDoor
namespace Go.Proofs.YtagacmljbgkmoaaGreatDoor
open Go.IntKind (u8 u16 u32 u64 i64)
open Go.ChangeShapes Go.WideShapes Go.ChangeAt Go.RowKit
open Sy
set_option maxRecDepth 100000
def Zbs (B O C:Nat) (S:Option Nat):Ren :=
 ⟨fun l=>if l<NG then l else B,fun l=>if l<NG then 0 else O,fun _=>(O,S),fun _=>C,fun l=>Nat.blt l 65,fun _ h=>if_pos h,fun _ h=>if_pos h,fun l h=>QY (Nat.lt_trans h (by decide))⟩
theorem Zc4 (r:Ren) (g:Nat):r.cap (big+g)=r.c g:=YV r g
theorem ZlY {W:World} {v:Value} {k n B O C:Nat} {S:Option Nat} {cells:List Value} (h:S1Is W v k cells n B O C S):v=(Zbs B O C S).val (sl1 k 64 n):=by
 have hb:(Zbs B O C S).b 64=B:=rfl
 have hw:(Zbs B O C S).w 64=O:=rfl
 have ho:(Zbs B O C S).o 64=(O,S):=rfl
 have hc:(Zbs B O C S).c 64=C:=rfl
 rw[h.is]
 rcases k with _|_|k
 ·show Value.slice none 0 0=(Zbs B O C S).val (.slice none 0 0)
  rw[ZD]; simp only[rr, tt, Option.map_none,Ren.cap]; rfl
 ·show Value.slice (some ⟨B,O,S⟩) 0 C=(Zbs B O C S).val (.slice (some ⟨64,0,some 64⟩) 0 (big+64))
  rw[ZD,Zc4,hc]; simp[Ren.addr,hb,ho]
 ·show Value.slice (some ⟨B,O,none⟩) n C=(Zbs B O C S).val (.slice (some ⟨64,0,none⟩) n (big+64))
  rw[ZD,Zc4,hc]; simp[Ren.addr,hb,hw]
theorem ZlZ {k n B O C:Nat} {S:Option Nat}:bnd (Zbs B O C S).d (sl1 k 64 n)=true:=by
 unfold sl1
 split
 ·exact Zu _ rfl
 ·rw[ZY]; rfl
 ·rw[ZY]; rfl
theorem Zc5 {k:Nat} {cells:List Value} (hf:∀ u∈cells,ZP u=true):∀ x∈WP k 64 cells++ZF ZB,(x.1=64∨x.1=0)∧x.2.rw=false∧(∀ p,x.2.op=some p→p=(0,0))∧∀ u∈x.2.cells,ZP u=true:=by
 intro x hx
 rcases List.mem_append.1 hx with hx|hx
 ·unfold WP at hx
  split at hx
  ·cases hx
  ·cases hx
  ·obtain rfl:=List.mem_singleton.1 hx
   exact⟨.inl rfl,rfl,(fun p hp=>by cases hp; rfl),hf⟩
 ·obtain rfl:=List.mem_singleton.1 hx
  exact⟨.inr rfl,rfl,(fun p hp=>by cases hp),W6⟩
theorem ZjB {W:World} {v:Value} {k n B O C:Nat} {S:Option Nat} {cells:List Value} (h:S1Is W v k cells n B O C S) (hf:∀ u∈cells,ZP u=true) (hW:ZjL W 0 ZB) (T:List (Nat×Bool)) :
  Sy.Good (Zbs B O C S) ⟨65,WP k 64 cells++ZF ZB,[],0,T,0,True⟩ W:=by
 refine⟨fun g kb hk => ?_,fun g g' k k' e1 e2 hrw _ => ?_,fun g kb hk => ?_,fun x hx=>by cases hx⟩
 ·have hm:=ZG hk
  rcases List.mem_append.1 hm with hx|hx
  ·unfold WP at hx
   split at hx
   ·cases hx
   ·cases hx
   ·rename_i k0 k1
    have e:=List.mem_singleton.1 hx
    simp only[rr, tt, Prod.mk.injEq] at e
    obtain⟨rfl,rfl⟩:=e
    have hk2:2≤k:=by
     rcases Nat.lt_or_ge k 2 with h|h
     ·have:k=0∨k=1:=by omega
      rcases this with h|h
      ·exact absurd h k0
      ·exact absurd h k1
     ·exact h
    obtain⟨arr,ty,fr,p1,p2,p3⟩:=h.at_ hk2
    refine .inl ⟨rfl,arr,ty,fr,p1,⟨.inl rfl,p2⟩,fun j u hj => ?_,fun h=>by cases h⟩
    rw[ZN _ (hf u (List.mem_of_getElem? hj))]
    exact p3 j u hj
  ·have e:=List.mem_singleton.1 hx
   simp only[rr, tt, Prod.mk.injEq] at e
   obtain⟨rfl,rfl⟩:=e
   obtain⟨arr,ty,h1,h2⟩:=hW
   have hb:(Zbs B O C S).b 0=0:=(Zbs B O C S).hb _ (by decide)
   have hw:(Zbs B O C S).w 0=0:=(Zbs B O C S).hw _ (by decide)
   refine .inl ⟨rfl,arr,ty,(0,0),by rw[hb]; exact h1,?_,fun j v hj => ?_,fun hrw=>by cases hrw⟩
   ·refine⟨hw,?_⟩
    show arr.size=ZB.length
    rw[← h2]; simp
   ·have hv:v∈ZB:=List.mem_of_getElem? hj
    rw[ZN _ (W6 v hv),← Array.getElem?_toList,h2,hw,Nat.zero_add]
    exact hj
 ·have:=(Zc5 (k:=_) hf _ (ZG e1)).2.1
  simp only[] at this
  rw[this] at hrw; cases hrw
 ·obtain⟨q1,_,q3,q4⟩:=Zc5 (k:=k) hf _ (ZG hk)
  have hg:g<65:=by
   rcases q1 with q1|q1
   ·have:g=64:=q1
    omega
   ·have:g=0:=q1
    omega
  exact⟨QY hg,fun p hp=>by rw[q3 p hp]; rfl,fun u hu=>⟨Zu _ (q4 u hu),Yg (q4 u hu)⟩⟩
theorem Zhh {call:Z1} (hcall:Zx Tryz.prog call) {f:FuncId} {W:World} {v:Value} {k B O C:Nat} {S:Option Nat} {l:List Pt} {fr:Nat→Cp} {i:In} (h:S1Is W v k (Z6 l) l.length B O C S) (hW:ZjL W 0 ZB) {T:List (Nat×Bool)} {q:Prop}
  (hr:obs (call f [Q8 fr,i.val,sl1 k 64 l.length] ⟨65,WP k 64 (Z6 l)++ZF ZB,[],0,T,0,True⟩)=some (.bool true,q)) (hq:q) :
  Calls Tryz.prog f #[Q8 fr,i.val,v] W fun e W'=>e = .returned (.bool true)∧Below W.heap.size W W':=by
 have hb:∀ u∈[Q8 fr,i.val,sl1 k 64 l.length],bnd (Zbs B O C S).d u=true:=fun u hu=>by
  simp only[rr, tt, List.mem_cons,List.not_mem_nil,or_false] at hu
  rcases hu with rfl|rfl|rfl
  ·exact Q6 _ rfl
  ·exact Q6 _ rfl
  ·exact ZlZ
 have hw:WFn ⟨65,WP k 64 (Z6 l)++ZF ZB,[],0,T,0,True⟩:=⟨fun g kb hk=>by
  have q1:=(Zc5 (k:=k) (YM l) _ (ZG hk)).1
  show g<65
  rcases q1 with q1|q1
  ·have:g=64:=q1
   omega
  ·have:g=0:=q1
   omega,fun x hx=>by cases hx⟩
 have hro:(WP k 64 (Z6 l)++ZF ZB).all (fun y => !y.2.rw)=true:=List.all_eq_true.2 fun x hx=>by rw[(Zc5 (YM l) x hx).2.1]; rfl
 have h1:=Zet hcall hr hq hw hro (ZjB h (YM l) hW T) (fun l hl=>QZ hl) hb
 have hm:[Q8 fr,i.val,sl1 k 64 l.length].map (Zbs B O C S).val=[Q8 fr,i.val,v]:=by
  simp only[rr, tt, List.map_cons,List.map_nil,← ZlY h,List.cons.injEq,and_true]
  exact⟨YH _ rfl,YH _ rfl⟩
 rw[hm] at h1
 exact h1
section
variable {H:Type} {enc:TypeId×Value→H} {W:World} {base:Nat} {spare:Nat→Bool} {held:Bool}
theorem ZdL {rc:Reach} {b0:Nat} {v:Value} {d:DataW H} {p:List MemPlace} (hv:Value.okWide Tryz.prog W rc b0 33 v) (h:DataW.Trod enc Tryz.prog W base spare held 33 v d p):∃ fr:Nat→Cp,v=Q8 fr∧Wp fr:=by
 obtain⟨cs,rfl,hsz⟩:=okWide_struct Tryz.underlying33 hv
 obtain⟨cs⟩:=cs
 have c0:Tryz.prog.cellsOf 33=136:=by kernel_rfl
 obtain⟨fuel,hf⟩:=h
 obtain⟨fr,e,hfr⟩:=Zjz hf (hsz.trans c0)
 have e':cs=frL fr:=e
 subst e'
 exact⟨fr,rfl,hfr⟩
theorem ZdM {rc:Reach} {b0:Nat} {v:Value} {d:DataW H} {p:List MemPlace} (hv:Value.okWide Tryz.prog W rc b0 40 v) (h:DataW.Trod enc Tryz.prog W base spare held 40 v d p):∃ i:In,v=i.val:=by
 obtain⟨cs,rfl,hsz⟩:=okWide_struct Tryz.underlying40 hv
 obtain⟨cs⟩:=cs
 have c0:Tryz.prog.cellsOf 40=5:=by kernel_rfl
 obtain⟨fuel,hf⟩:=h
 obtain⟨i,e⟩:=ZjA hf (hsz.trans c0)
 have e':cs=[.int .i64 i.op,.int .i64 i.a,.int .i64 i.b,.int .i64 i.c,.int .i64 i.m]:=e
 subst e'
 exact⟨i,rfl⟩
theorem ZfV {rc:Reach} {b0:Nat} {v:Value} {d:DataW H} {p:List MemPlace} (hv:Value.okWide Tryz.prog W rc b0 42 v) (h:DataW.Trod enc Tryz.prog W base spare held 42 v d p) :
  ∃ (k:Nat) (l:List Pt) (B O C:Nat) (S:Option Nat),S1Is W v k (Z6 l) l.length B O C S∧∀ y∈l,y.Ok:=by
 obtain⟨A,len,cap,rfl⟩:=okWide_slice Tryz.underlying42 hv
 obtain⟨fuel,hf⟩:=h
 exact ZfU hf
end
theorem Zbr:ZcQ 5 Tryz.f5:=by
 intro H enc W base args ds p hL hval hA
 rw[Tryz.params5] at hA hval
 obtain⟨v0,vs0,d0,ds0,p0,q0,hargs,rfl,rfl,h0,r0⟩:=trodAll_cons hA
 obtain⟨v1,vs1,d1,ds1,p1,q1,rfl,rfl,rfl,h1,r1⟩:=trodAll_cons r0
 obtain⟨v2,vs2,d2,ds2,p2,q2,rfl,rfl,rfl,h2,r2⟩:=trodAll_cons r1
 obtain⟨rfl,rfl,rfl⟩:=trodAll_nil r2
 obtain rfl:args = #[v0,v1,v2]:=by cases args; simp_all
 obtain⟨fr,rfl,hfr⟩:=ZdL (hval 0 _ v0 rfl rfl) h0
 obtain⟨i,rfl⟩:=ZdM (hval 1 _ v1 rfl rfl) h1
 obtain⟨k,l,B,O,C,S,hs,hok⟩:=ZfV (hval 2 _ v2 rfl rfl) h2
 obtain⟨call,T,q,hc,hr,hq⟩:=Zhf fr hfr i k l hs.ok hok
 exact Zhh hc hs (Ze8 hL) hr hq
set_option maxRecDepth 100000 in
theorem VO:Rows.CoreDataSaid :=
 OpenClaim.holds_of_wide 5 Tryz.f5 rfl rfl rfl rfl rfl rfl rfl ⟨rfl,rfl,rfl,rfl,rfl⟩ rfl rfl rfl rfl rfl (by kernel_rfl) Tryz.func5 (by kernel_rfl)
  (of_decide_eq_true (by kernel_rfl)) (by unfold Func.isWrapper; first|(rw[if_pos (by decide +kernel)]; kernel_rfl)|(rw[if_neg (by decide +kernel)]; exact⟨rfl,rfl⟩))
  (fun os started H enc _=>Zb0 5 Tryz.f5 Rows.coreDataSpec Rows.coreDataRow.domain Tryz.func5 (by kernel_rfl) rfl rfl
   (fun H ds hd=>by match ds,hd with|[d0,d1,d2],_=>exact⟨rfl,rfl,rfl⟩) (by decide +kernel) Zbr os started H enc
   (ChangeSpec.witness_shaped (enc:=enc) (C:=Tryz.checked) (os:=os) (X:=fun w _=>laidMetH Tryz.prog ZbZ w) false (World.doorLaid Tryz.prog 400 os) #[.agg #[.int .u32 0,.int .u8 0,.int .u16 0,.int .u16 0,.int .u16 0,.int .u16 0,.int .u32 0,.bool false,.int .u32 0,.int .u8 0,.int .u16 0,.int .u16 0,.int .u16 0,.int .u16 0,.int .u32 0,.bool false,.int .u32 0,.int .u8 0,.int .u16 0,.int .u16 0,.int .u16 0,.int .u16 0,.int .u32 0,.bool false,.int .u32 0,.int .u8 0,.int .u16 0,.int .u16 0,.int .u16 0,.int .u16 0,.int .u32 0,.bool false,.int .u32 0,.int .u8 0,.int .u16 0,.int .u16 0,.int .u16 0,.int .u16 0,.int .u32 0,.bool false,.int .u32 0,.int .u8 0,.int .u16 0,.int .u16 0,.int .u16 0,.int .u16 0,.int .u32 0,.bool false,.int .u32 0,.int .u8 0,.int .u16 0,.int .u16 0,.int .u16 0,.int .u16 0,.int .u32 0,.bool false,.int .u32 0,.int .u8 0,.int .u16 0,.int .u16 0,.int .u16 0,.int .u16 0,.int .u32 0,.bool false,.int .u32 0,.int .u8 0,.int .u16 0,.int .u16 0,.int .u16 0,.int .u16 0,.int .u32 0,.bool false,.int .u32 0,.int .u8 0,.int .u16 0,.int .u16 0,.int .u16 0,.int .u16 0,.int .u32 0,.bool false,.int .u32 0,.int .u8 0,.int .u16 0,.int .u16 0,.int .u16 0,.int .u16 0,.int .u32 0,.bool false,.int .u32 0,.int .u8 0,.int .u16 0,.int .u16 0,.int .u16 0,.int .u16 0,.int .u32 0,.bool false,.int .u32 0,.int .u8 0,.int .u16 0,.int .u16 0,.int .u16 0,.int .u16 0,.int .u32 0,.bool false,.int .u32 0,.int .u8 0,.int .u16 0,.int .u16 0,.int .u16 0,.int .u16 0,.int .u32 0,.bool false,.int .u32 0,.int .u8 0,.int .u16 0,.int .u16 0,.int .u16 0,.int .u16 0,.int .u32 0,.bool false,.int .u32 0,.int .u8 0,.int .u16 0,.int .u16 0,.int .u16 0,.int .u16 0,.int .u32 0,.bool false,.int .u32 0,.int .u8 0,.int .u16 0,.int .u16 0,.int .u16 0,.int .u16 0,.int .u32 0,.bool false],.agg #[.int .i64 0,.int .i64 0,.int .i64 0,.int .i64 0,.int .i64 0],.slice none 0 0] 8 rfl (World.shaped_of_RefB (by kernel_rfl) (by kernel_rfl)) (by kernel_rfl) (by kernel_rfl) (by kernel_rfl) (ZgD os _)))
theorem coreData_proved:Rows.CoreDataCardSaid :=
 Claim7.holds_tied_plain_at .later [] [.data] true Rows.coreDataCard.stood.harness false
  VO (fun _ h=>by cases h) (by kernel_rfl) (fun _ h=>by cases h) coreData_row_tie rfl ⟨rfl,rfl⟩ (by kernel_rfl) rfl
  (fun f fn hf hfn=>by
   obtain rfl:f=5:=Option.some.inj ((show Tryz.prog.funcNamed Rows.coreDataRow.func=some 5 by kernel_rfl).symm.trans hf) |>.symm
   obtain rfl:fn=Tryz.f5:=(Option.some.inj (Tryz.func5.symm.trans hfn)).symm
   exact⟨by kernel_rfl,fun j t ht=>by
    rw[Tryz.params5] at ht
    have hm:t∈[33,40,42]:=by simpa using Array.mem_of_getElem? ht
    have hall:(([33,40,42]:List TypeId).all fun u => !Tryz.prog.wantsStandIn u)=true:=by kernel_rfl
    exact(show Tryz.prog.wantsStandIn t=false by simpa using List.all_eq_true.1 hall t hm)⟩)
  (by kernel_rfl)
end Go.Proofs.YtagacmljbgkmoaaGreatDoor
#print axioms Go.Proofs.YtagacmljbgkmoaaGreatDoor.coreData_proved
