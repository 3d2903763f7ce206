/-
  LoaderLoads: part 4 of the proof.
-/
import Derived.Laws.BitsAllLaws
import Derived.Test.YtliidiceljdgmaaGreatQLoaderLoadsC
set_option linter.unusedSimpArgs false
set_option linter.unusedVariables false
set_option linter.unusedSectionVars false
namespace Go.Proofs.YtliidiceljdgmaaGreat
open Go.IntKind (u8 u16 u32 u64 i64)
open Go.RowKit
open Sy
theorem Zo0 (bs:List Bool) (v:Bool) (cap:Nat) (k:Nat):evC Tryz.prog ZD (Zf 97) 19 100 (ZB Tryz.prog 97 0) (Sf.frT 19 (Zd2 bs v cap k) [(0,true),(1,true)])=some (Exit.ret,{ e:=[[Value.slice (some ⟨64,0,none⟩) bs.length cap,.bool v,unk,unk,.int .i64 (↑k),.int .i64 (↑k),unk,.int .i64 (↑bs.length),.int .i64 (↑k),.bool (decide ((↑k:Int)<(↑bs.length:Int))),.int .i64 (↑k),.bool v,.slice (some ⟨64,0,none⟩) bs.length cap,.int .i64 (↑k),.pointer (some { block:=64,off:=0+(↑k:Int).toNat*1 }),.bool (Zw (Zd undef (Y9 bs) (0+(↑k:Int).toNat*1)))],[Value.bool (v==Zw (Zd undef (Y9 bs) (0+(↑k:Int).toNat*1))),.int .i64 (↑k),unk,unk,unk,unk,unk,unk,unk,unk,unk,unk,unk,unk,unk,unk]],s:={ n:=65,h:=[(64,{ rw:=false,op:=none,cells:=Y9 bs,it:=none })],lo:=[],esc:=0,T:=[],k:=2,O:=(bif Qc (0+(↑k:Int).toNat*1+1) (Y9 bs)&&Zs [Value.bool false] (Y9 bs) (0+(↑k:Int).toNat*1) then bif decide ((0:Int)≤(↑k:Int))&&decide ((↑k:Int)<(↑bs.length:Int)) then True∧decide ((↑k:Int)<(↑bs.length:Int))=true else False else False)∧(v==Zw (Zd undef (Y9 bs) (0+(↑k:Int).toNat*1)))=true } }):=by kernel_rfl
theorem Zo1 (bs:List Bool) (v:Bool) (cap:Nat) (k:Nat):evC Tryz.prog ZD (Zf 97) 19 100 (ZB Tryz.prog 97 0) (Sf.frT 19 (Zd2 bs v cap k) [(0,true),(1,false)])=some (Exit.normal,{ e:=mkE 19 [(0,Value.slice (some ⟨64,0,none⟩) bs.length cap),(1,.bool v),(5,.int .i64 (↑k)),(7,.int .i64 (↑bs.length)),(8,.int .i64 (i64.wrap ((↑k:Int)+(1:Int)))),(9,.bool (decide ((↑k:Int)<(↑bs.length:Int)))),(10,.int .i64 (↑k)),(11,.bool v),(12,.slice (some ⟨64,0,none⟩) bs.length cap),(13,.int .i64 (↑k)),(14,.pointer (some { block:=64,off:=0+(↑k:Int).toNat*1 })),(15,.bool (Zw (Zd undef (Y9 bs) (0+(↑k:Int).toNat*1)))),(16,Value.bool (v==Zw (Zd undef (Y9 bs) (0+(↑k:Int).toNat*1)))),(18,.int .i64 (i64.wrap ((↑k:Int)+(1:Int))))],s:={ n:=65,h:=[(64,{ rw:=false,op:=none,cells:=Y9 bs,it:=none })],lo:=[],esc:=0,T:=[],k:=2,O:=(bif Qc (0+(↑k:Int).toNat*1+1) (Y9 bs)&&Zs [Value.bool false] (Y9 bs) (0+(↑k:Int).toNat*1) then bif decide ((0:Int)≤(↑k:Int))&&decide ((↑k:Int)<(↑bs.length:Int)) then True∧decide ((↑k:Int)<(↑bs.length:Int))=true else False else False)∧(v==Zw (Zd undef (Y9 bs) (0+(↑k:Int).toNat*1)))=false } }):=by kernel_rfl
theorem Zo2 (bs:List Bool) (v:Bool) (cap:Nat) (k:Nat):evC Tryz.prog ZD (Zf 97) 19 100 (ZB Tryz.prog 97 0) (Sf.frT 19 (Zd2 bs v cap k) [(0,false)])=some (Exit.exit 0,{ e:=mkE 19 [(0,Value.slice (some ⟨64,0,none⟩) bs.length cap),(1,.bool v),(7,.int .i64 (↑bs.length)),(8,.int .i64 (↑k)),(9,.bool (decide ((↑k:Int)<(↑bs.length:Int))))],s:={ n:=65,h:=[(64,{ rw:=false,op:=none,cells:=Y9 bs,it:=none })],lo:=[],esc:=0,T:=[],k:=1,O:=True∧decide ((↑k:Int)<(↑bs.length:Int))=false } }):=by kernel_rfl
theorem ng65:NG≤65:=by decide
def Zmt (j:Nat):Sf:=⟨65,[(4,.int .i64 (j:Nat))],[],[]⟩
def Zmu:Sf:=⟨65,[],[],[]⟩
theorem ZgP (bs:List Bool) (v:Bool) (cap k:Nat) (hc:Nat.blt cap big=true):(Zd2 bs v cap k).Wf :=
 ⟨ng65,Sf.Ok.mk' 3 ⟨⟨rfl,rfl,Zv (Vf bs)⟩,trivial⟩ rfl (by simp[Zd2,okV,QP,hc,ZP])⟩
theorem Zd7 (bs:List Bool) (v:Bool) (cap k:Nat) (e:Sf) (hc:Nat.blt cap big=true) (hl:bs.length<9000000000000000000) (hk:k<bs.length) (hv:bs.getD k false≠v) (hn:e.n=65) (he:e.Ok (Z3 65 65 id (fun l=>Nat.blt l 65))) :
  ∃ g,evC Tryz.prog ZD (Zf 97) 19 100 (ZB Tryz.prog 97 0) ((Zd2 bs v cap k).frT 19 [(0,true),(1,false)])=some (.normal,g)∧g.s.O ∧
   Sf.Leads 3 (fun l=>Nat.blt l 65) id (Zd2 bs v cap k) g (Zd2 bs v cap (k+1)) e:=by
 refine⟨_,Zo1 bs v cap k,?_,?_⟩
 ·simp only[rr, tt, ZbO,UR,ZdM,Int.toNat_natCast,Nat.zero_add,Nat.mul_one]
  exact⟨Qi (by simp; omega) (Qi (by simp; omega) ⟨trivial,by simp; omega⟩),by simpa using fun e:v=_=>hv e.symm⟩
 ·refine⟨fun _ _=>rfl,⟨⟨rfl,Zh (Vf bs),rfl,rfl,rfl,trivial,(Zi (Vf bs)).symm⟩,trivial⟩,rfl,trivial,⟨⟨?_,by rw[Yd]; kernel_rfl⟩,⟨rfl,by kernel_rfl⟩,⟨rfl,by kernel_rfl⟩,⟨rfl,?_⟩,trivial⟩,Nat.le_refl _,fun l hl=>ZN hl,?_,?_⟩
  ·simp[okV,QP,hc]
  ·refine Eq.trans (b:=Value.int .i64 (i64.wrap ((k:Int)+1))) (by kernel_rfl) ?_
   rw[ZQ k (by omega)]; rfl
  ·rw[hn]; exact he
  ·intro x _ _; exact .inl rfl
theorem ZgQ (bs:List Bool) (v:Bool) (cap j:Nat) (hc:Nat.blt cap big=true) (hl:bs.length<9000000000000000000) (hj:j<bs.length) (hv:bs.getD j false=v) (hn:∀ i,i<j→bs.getD i false≠v) :
  ∀ x:{ k:Nat // k≤j },Qj Tryz.prog 19 (ZB Tryz.prog 97 0) ((Zd2 bs v cap x.1).fr 19) .ret ((Zmt j).fr 19):=by
 refine Yc (L:=100) (Zx _) (ZU _ _ 97) (fun _ h=>h) (X:={ k:Nat // k≤j }) (fun x=>Zd2 bs v cap x.1) (fun _=>Zmt j) (fun _ => .ret) (fun x=>j-x.1) (fun x=>ZgP bs v cap x.1 hc) ?_
 rintro⟨k,hk⟩
 by_cases h:k=j
 ·subst h
  refine⟨[(0,true),(1,true)],.ret,_,3,fun l=>Nat.blt l 65,id,Zo0 bs v cap k,?_,.inr ⟨by simp,rfl,?_⟩⟩
  ·simp only[rr, tt, ZbO,UR,ZdM,Int.toNat_natCast,Nat.zero_add,Nat.mul_one,hv]
   exact⟨Qi (by simp; omega) (Qi (by simp; omega) ⟨trivial,by simp; omega⟩),by simp⟩
  ·exact⟨fun _ _=>rfl,trivial,rfl,trivial,⟨⟨rfl,by kernel_rfl⟩,trivial⟩,Nat.le_refl _,fun l hl=>ZN hl,Sf.Ok.mk' 3 trivial rfl (by simp[Zmt,okV,ZP]),fun x hx=>by cases hx⟩
 ·obtain⟨g,h1,h2,h3⟩:=Zd7 bs v cap k (Zmt j) hc hl (by omega) (hn k (by omega)) rfl (Sf.Ok.mk' 3 trivial rfl (by simp[Zmt,okV,ZP]))
  exact⟨_,.normal,g,3,_,_,h1,h2,.inl ⟨rfl,⟨k+1,by omega⟩,by show j-(k+1)<j-k; omega,rfl,rfl,h3⟩⟩
theorem ZiH (bs:List Bool) (v:Bool) (cap:Nat) (hc:Nat.blt cap big=true) (hl:bs.length<9000000000000000000) (hn:∀ i,i<bs.length→bs.getD i false≠v) :
  ∀ x:{ k:Nat // k≤bs.length },Qj Tryz.prog 19 (ZB Tryz.prog 97 0) ((Zd2 bs v cap x.1).fr 19) (.exit 0) (Zmu.fr 19):=by
 refine Yc (L:=100) (Zx _) (ZU _ _ 97) (fun _ h=>h) (X:={ k:Nat // k≤bs.length }) (fun x=>Zd2 bs v cap x.1) (fun _=>Zmu) (fun _ => .exit 0) (fun x=>bs.length-x.1) (fun x=>ZgP bs v cap x.1 hc) ?_
 rintro⟨k,hk⟩
 by_cases h:k<bs.length
 ·obtain⟨g,h1,h2,h3⟩:=Zd7 bs v cap k Zmu hc hl h (hn k h) rfl (Sf.Ok.mk' 3 trivial rfl (by simp[Zmu]))
  exact⟨_,.normal,g,3,_,_,h1,h2,.inl ⟨rfl,⟨k+1,by omega⟩,by show bs.length-(k+1)<bs.length-k; omega,rfl,rfl,h3⟩⟩
 ·refine⟨[(0,false)],.exit 0,_,3,fun l=>Nat.blt l 65,id,Zo2 bs v cap k,?_,.inr ⟨by simp,rfl,?_⟩⟩
  ·simp; omega
  ·exact⟨fun _ _=>rfl,trivial,rfl,trivial,trivial,Nat.le_refl _,fun l hl=>ZN hl,Sf.Ok.mk' 3 trivial rfl (by simp[Zmu]),fun x hx=>by cases hx⟩
def Zlm (bs:List Bool) (v:Bool) (cap j:Nat) (hc:Nat.blt cap big=true) (hl:bs.length<9000000000000000000) (hj:j<bs.length) (hv:bs.getD j false=v) (hn:∀ i,i<j→bs.getD i false≠v):Ent Tryz.prog :=
 Vl Tryz.prog 97 0 19 (Zd2 bs v cap 0) .ret (Zmt j) (by kernel_rfl) (by kernel_rfl) (ZgQ bs v cap j hc hl hj hv hn ⟨0,Nat.zero_le _⟩)
def Zln (bs:List Bool) (v:Bool) (cap:Nat) (hc:Nat.blt cap big=true) (hl:bs.length<9000000000000000000) (hn:∀ i,i<bs.length→bs.getD i false≠v):Ent Tryz.prog :=
 Vl Tryz.prog 97 0 19 (Zd2 bs v cap 0) (.exit 0) Zmu (by kernel_rfl) (by kernel_rfl) (ZiH bs v cap hc hl hn ⟨0,Nat.zero_le _⟩)
def Zc1 (bs:List Bool) (cap:Nat):Con:=⟨[.slice (some ⟨64,0,none⟩) bs.length cap],65,[(64,⟨false,none,Y9 bs,none⟩)],[],.bool (!bs.any id),65,[],[]⟩
def Zm1 (bs:List Bool) (cap:Nat) (T:List (Nat×Bool)):St:={ (Zc1 bs cap).s0 with T:=T }
theorem Zm2 (bs:List Bool) (cap j:Nat) (hc:cap.blt big=true) (hl:bs.length<9000000000000000000) (hj:j<bs.length) (hv:bs.getD j false=true) (hn:∀ (i:Nat),i<j→bs.getD i false≠true):evF Tryz.prog ZD (Ut [Zlm bs true cap j hc hl hj hv hn]) 100 5 37 [Value.slice (some ⟨64,0,none⟩) bs.length cap] (Zm1 bs cap [(10^9,true)])=some (Value.bool !decide ((↑j:Int)≥(0:Int)),{ n:=65,h:=[(64,⟨false,none,Y9 bs,none⟩)],lo:=[],esc:=0,T:=[(1000000000,true)],k:=0,O:=True∧(rr (Value.slice (some ⟨64,0,none⟩) bs.length cap)∧rr (Value.bool true)∧rr (Value.int .i64 (↑bs.length))∧rr (Value.int .i64 0)∧True)∧((tt∧tt∧True∧rr (Y9 bs))∧True)∧True∧True:St }):=by kernel_rfl
theorem Zm3 (bs:List Bool) (cap:Nat) (hc:cap.blt big=true) (hl:bs.length<9000000000000000000) (hn:∀ (i:Nat),i<bs.length→bs.getD i false≠true):evF Tryz.prog ZD (Ut [Zln bs true cap hc hl hn]) 100 5 37 [Value.slice (some ⟨64,0,none⟩) bs.length cap] (Zm1 bs cap [(10^9,true)])=some (Value.bool true,{ n:=65,h:=[(64,⟨false,none,Y9 bs,none⟩)],lo:=[],esc:=0,T:=[(1000000000,true)],k:=0,O:=True∧(rr (Value.slice (some ⟨64,0,none⟩) bs.length cap)∧rr (Value.bool true)∧rr (Value.int .i64 (↑bs.length))∧rr (Value.int .i64 0)∧True)∧((tt∧tt∧True∧rr (Y9 bs))∧True)∧True∧True:St }):=by kernel_rfl
theorem ZK:VH Tryz.prog=true:=by kernel_rfl
theorem ZiI (bs:List Bool) (v:Bool) (h:∃ i,i<bs.length∧bs.getD i false=v):∃ j,j<bs.length∧bs.getD j false=v∧∀ i,i<j→bs.getD i false≠v:=by
 obtain⟨i,hi,hv⟩:=h
 induction i using Nat.strongRecOn with
 | _ i ih =>
  by_cases h:∃ k,k<i∧bs.getD k false=v
  ·obtain⟨k,hk,hkv⟩:=h
   exact ih k hk (by omega) hkv
  ·exact⟨i,hi,hv,fun k hk e=>h ⟨k,hk,e⟩⟩
theorem Zd8 (bs:List Bool):bs.any id=true↔∃ i,i<bs.length∧bs.getD i false=true:=by
 rw[List.any_eq_true]
 constructor
 ·rintro⟨b,hb,h⟩
  obtain⟨i,hi,rfl⟩:=List.getElem_of_mem hb
  exact⟨i,hi,by rw[List.getD_eq_getElem?_getD,List.getElem?_eq_getElem hi]; exact h⟩
 ·rintro⟨i,hi,h⟩
  rw[List.getD_eq_getElem?_getD,List.getElem?_eq_getElem hi] at h
  exact⟨bs[i],List.getElem_mem hi,h⟩
theorem Zd9 (bs:List Bool) (cap:Nat) (hc:Nat.blt cap big=true):(Zc1 bs cap).Wf 3 :=
 ⟨ng65,Nat.le_refl _,⟨⟨rfl,rfl,Zv (Vf bs)⟩,trivial⟩,rfl,rfl,rfl,by simp[Zc1,okV,QP,hc],rfl,fun x hx=>by cases hx⟩
theorem Zlo (bs:List Bool) (cap:Nat) (hc:Nat.blt cap big=true) (hl:bs.length<9000000000000000000):ConOk Tryz.prog 37 3 (Zc1 bs cap):=by
 by_cases h:∃ i,i<bs.length∧bs.getD i false=true
 ·obtain⟨j,hj,hv,hn⟩:=ZiI bs true h
  refine ZF (Zu ZK (Zx _) (QR _) 5) (Zd9 bs cap hc) (Zm2 bs cap j hc hl hj hv hn) ?_ (p:=fun l=>Nat.blt l 65) (σ:=id) ?_
  ·exact⟨trivial,⟨rfl,rfl,rfl,rfl,trivial⟩,⟨⟨rfl,rfl,trivial,rfl⟩,trivial⟩,trivial,trivial⟩
  ·have:bs.any id=true:=(Zd8 bs).2 h
   refine⟨fun _ _=>rfl,trivial,rfl,trivial,⟨rfl,?_⟩,rfl,trivial,rfl,XJ _ _,fun x hx=>by cases hx⟩
   rw[Yd]; simp[Zc1,this]
 ·have hn:∀ i,i<bs.length→bs.getD i false≠true:=fun i hi e=>h ⟨i,hi,e⟩
  refine ZF (Zu ZK (Zx _) (QR _) 5) (Zd9 bs cap hc) (Zm3 bs cap hc hl hn) ?_ (p:=fun l=>Nat.blt l 65) (σ:=id) ?_
  ·exact⟨trivial,⟨rfl,rfl,rfl,rfl,trivial⟩,⟨⟨rfl,rfl,trivial,rfl⟩,trivial⟩,trivial,trivial⟩
  ·have:bs.any id=false:=by
    cases hb:bs.any id
    ·rfl
    ·exact absurd ((Zd8 bs).1 hb) h
   refine⟨fun _ _=>rfl,trivial,rfl,trivial,⟨rfl,?_⟩,rfl,trivial,rfl,XJ _ _,fun x hx=>by cases hx⟩
   rw[Yd]; simp[Zc1,this]
def ZgR (l:List Value):List Bool:=l.map Zw
def Zc2:WH:=fun f args s=>bif Nat.beq f 37 then
 match args with
 | [.slice (some a) _ cap]=>(Sy.look s.h a.block).map fun k=>(Zc1 (ZgR k.cells) cap,[a.block],Nat.blt cap big=true∧(ZgR k.cells).length<9000000000000000000)
 | _=>none
 else none
theorem Ze5:YN Tryz.prog 3 Zc2:=by
 intro f args s c ρ q h hq
 unfold Zc2 at h
 obtain⟨h1,h⟩:=ZL h
 have h1:=eB h1
 subst h1
 split at h
 ·obtain⟨k,_,h⟩:=oM h
  simp only[rr, tt, Prod.mk.injEq] at h
  obtain⟨rfl,rfl,rfl⟩:=h
  exact Zlo _ _ hq.1 hq.2
 ·cases h
def Ze6 (x:Int):Prop:=0≤x∧x<4294967296
def Zlp (x:Int):Prop:=0≤x∧x<18446744073709551616
def Zo3 (x:Int):Con:=Con.pure [.int .u32 x] (.tuple ⟨[.int .u32 (Zgr x.toNat:Nat),.int .u32 (Ze0 x.toNat:Nat)]⟩)
def Zo4 (b t:Int):Con:=Con.pure [.int .u32 b,.int .u64 t] (.tuple ⟨[.int .u8 (KP b.toNat t.toNat:Nat),.int .u16 (KY b.toNat t.toNat:Nat),.int .u16 (KZ b.toNat t.toNat:Nat),.bool (KA b.toNat t.toNat),.bool (Qg b.toNat t.toNat)]⟩)
def ZgS:WH:=fun f args _ =>
 match args with
 | [.int _ x]=>bif Nat.beq f 98 then some (Zo3 x,[],Ze6 x) else bif Nat.beq f 108 then some (Zo3 x,[],Ze6 x) else none
 | [.int _ b,.int _ t]=>bif Nat.beq f 75 then some (Zo4 b t,[],Ze6 b∧Zlp t) else bif Nat.beq f 107 then some (Zo4 b t,[],Ze6 b∧Zlp t) else none
 | _=>none
theorem ZgT {w w':World} (h:∃ m,w'=w.drewN m):Below w.heap.size w w':=by
 obtain⟨m,rfl⟩:=h
 exact ZI (Below.refl _ _) m
theorem ZgU {f:FuncId} (he:Wg Tryz.prog f) (h:∀ (s:Nat) (w:World),s<4294967296→Calls Tryz.prog f #[.int .u32 s] w fun e' w'=>e' = .returned (.tuple #[.int .u32 (Zgr s),.int .u32 (Ze0 s)])∧∃ m,w'=w.drewN m) (x:Int) (hx:Ze6 x):ConOk Tryz.prog f 3 (Zo3 x):=by
 refine Q4 he (fun u hu => ?_) rfl fun w => ?_
 ·obtain rfl:=List.mem_singleton.1 hu; rfl
 ·have:=h x.toNat w (by have:=hx.1; have:=hx.2; omega)
  rw[show((x.toNat:Nat):Int)=x from Int.toNat_of_nonneg hx.1] at this
  exact this.mono fun _ _ ⟨a,b⟩=>⟨a,ZgT b⟩
theorem ZgV {f:FuncId} (he:Wg Tryz.prog f) (h:∀ (b t:Nat) (w:World),b<4294967296→t<18446744073709551616→Calls Tryz.prog f #[.int .u32 b,.int .u64 t] w fun e' w'=>e' = .returned (.tuple #[.int .u8 (KP b t),.int .u16 (KY b t),.int .u16 (KZ b t),.bool (KA b t),.bool (Qg b t)])∧∃ m,w'=w.drewN m)
  (b t:Int) (hb:Ze6 b) (ht:Zlp t):ConOk Tryz.prog f 3 (Zo4 b t):=by
 refine Q4 he (fun u hu => ?_) rfl fun w => ?_
 ·rcases List.mem_cons.1 hu with rfl|hu
  ·rfl
  ·obtain rfl:=List.mem_singleton.1 hu; rfl
 ·have:=h b.toNat t.toNat w (by have:=hb.1; have:=hb.2; omega) (by have:=ht.1; have:=ht.2; omega)
  rw[show((b.toNat:Nat):Int)=b from Int.toNat_of_nonneg hb.1,show((t.toNat:Nat):Int)=t from Int.toNat_of_nonneg ht.1] at this
  exact this.mono fun _ _ ⟨a,b⟩=>⟨a,ZgT b⟩
theorem ZgW:YN Tryz.prog 3 ZgS:=by
 intro f args s c ρ q h hq
 unfold ZgS at h
 split at h
 ·rename_i k x
  cases h1:Nat.beq f 98<;>rw[h1] at h
  ·simp only[rr, tt, cond_false] at h
   obtain⟨h2,h⟩:=ZL h
   have h2:=eB h2
   subst h2
   cases h
   exact ZgU (YO ZK (by kernel_rfl)) (fun s w hs=>Ziv s w hs) x hq
  ·cases h
   have h1:=eB h1
   subst h1
   exact ZgU (YO ZK (by kernel_rfl)) (fun s w hs=>Zk5 s w hs) x hq
 ·rename_i k b k' t
  cases h1:Nat.beq f 75<;>rw[h1] at h
  ·simp only[rr, tt, cond_false] at h
   obtain⟨h2,h⟩:=ZL h
   have h2:=eB h2
   subst h2
   cases h
   exact ZgV (YO ZK (by kernel_rfl)) (fun b t w hb ht=>J8 b t w hb ht) b t hq.1 hq.2
  ·cases h
   have h1:=eB h1
   subst h1
   exact ZgV (YO ZK (by kernel_rfl)) (fun b t w hb ht=>UW b t w hb ht) b t hq.1 hq.2
 ·cases h
def Ze7:WH:=WK Zc2 ZgS
theorem Uj:YN Tryz.prog 3 Ze7:=XQ Ze5 ZgW
theorem Zlq (n:Int):obs (evF Tryz.prog (ZH 3 Ze7) Zf 100 10 74 [Value.int .i64 n] (stT []))=some (Value.tuple { toList:=[Value.int .u32 (↑(Zgr (bits BinOp.andNot u32 (u32.wrap (i64.wrap (i64.wrap (n+(256:Int))-(1:Int)))) (255:Int)).toNat):Int),.int .u32 (if(256:Int)>(↑(Ze0 (bits BinOp.andNot u32 (u32.wrap (i64.wrap (i64.wrap (n+(256:Int))-(1:Int)))) (255:Int)).toNat):Int) then(256:Int) else(↑(Ze0 (bits BinOp.andNot u32 (u32.wrap (i64.wrap (i64.wrap (n+(256:Int))-(1:Int)))) (255:Int)).toNat):Int))] },True∧((0:Int)≤bits BinOp.andNot u32 (u32.wrap (i64.wrap (i64.wrap (n+(256:Int))-(1:Int)))) (255:Int)∧bits BinOp.andNot u32 (u32.wrap (i64.wrap (i64.wrap (n+(256:Int))-(1:Int)))) (255:Int)<(4294967296:Int))∧(rr (Value.int .u32 (bits BinOp.andNot u32 (u32.wrap (i64.wrap (i64.wrap (n+(256:Int))-(1:Int)))) (255:Int)))∧True)∧True∧True):=by kernel_rfl
theorem ZiJ (n:Int):obs (evF Tryz.prog (ZH 3 Ze7) Zf 100 10 88 [Value.int .u32 n] (stT []))=some (Value.tuple { toList:=[Value.int .u32 (↑(Zgr (u32.wrap (u32.wrap ((u32.wrap (u32.wrap (n+(256:Int))-(1:Int))).tdiv (256:Int))*(256:Int))).toNat):Int),.int .u32 (if(256:Int)>(↑(Ze0 (u32.wrap (u32.wrap ((u32.wrap (u32.wrap (n+(256:Int))-(1:Int))).tdiv (256:Int))*(256:Int))).toNat):Int) then(256:Int) else(↑(Ze0 (u32.wrap (u32.wrap ((u32.wrap (u32.wrap (n+(256:Int))-(1:Int))).tdiv (256:Int))*(256:Int))).toNat):Int))] },True∧((0:Int)≤u32.wrap (u32.wrap ((u32.wrap (u32.wrap (n+(256:Int))-(1:Int))).tdiv (256:Int))*(256:Int))∧u32.wrap (u32.wrap ((u32.wrap (u32.wrap (n+(256:Int))-(1:Int))).tdiv (256:Int))*(256:Int))<(4294967296:Int))∧(rr (Value.int .u32 (u32.wrap (u32.wrap ((u32.wrap (u32.wrap (n+(256:Int))-(1:Int))).tdiv (256:Int))*(256:Int))))∧True)∧True∧True):=by kernel_rfl
theorem Ze8 (a e:Nat) (ha:a<4294967296) (he:e≤32):a&&&(4294967295-(2^e-1))=a/2^e*2^e:=by
 have h0:=Qz e
 have h2:2^e≤2^32:=Nat.pow_le_pow_right (by omega) he
 have h1:4294967295-(2^e-1)=2^32-((2^e-1)+1):=by omega
 rw[h1]
 apply Nat.eq_of_testBit_eq
 intro i
 rw[Nat.testBit_and,Nat.testBit_two_pow_sub_succ (by omega),Nat.testBit_two_pow_sub_one,Nat.testBit_mul_two_pow,Nat.testBit_div_two_pow]
 by_cases hi:e≤i
 ·rw[Nat.sub_add_cancel hi]
  have e1:decide (i<e)=false:=by simp; omega
  have e2:decide (e≤i)=true:=by simpa using hi
  rw[e1,e2]
  by_cases h64:i<32
  ·have e3:decide (i<32)=true:=by simpa using h64
   rw[e3]; simp
  ·have:a.testBit i=false:=Nat.testBit_lt_two_pow (Nat.lt_of_lt_of_le ha (Nat.pow_le_pow_right (n:=2) (by omega) (show 32≤i by omega)))
   rw[this]; simp
 ·have e1:decide (i<e)=true:=by simp; omega
  have e2:decide (e≤i)=false:=by simpa using hi
  rw[e1,e2]; simp
theorem ZjT (a e:Nat) (ha:a<4294967296) (he:e≤31):bits .andNot .u32 (a:Int) (((2^e-1:Nat)):Int)=((a/2^e*2^e:Nat):Int):=by
 have h2:2^e≤2^31:=Nat.pow_le_pow_right (by omega) he
 rw[u32_andNot_nat a (2^e-1) ha (by omega),Ze8 a e ha (by omega)]
def ZG (n:Nat):Nat:=(n+255)/256*256
theorem ZiK (n:Nat) (h:n≤1000000):bits .andNot .u32 (u32.wrap (i64.wrap (i64.wrap ((n:Int)+256)-1))) 255=((ZG n:Nat):Int):=by
 have e1:u32.wrap (i64.wrap (i64.wrap ((n:Int)+256)-1))=((n+255:Nat):Int):=by
  rw[wrap_i64 (x:=(n:Int)+256) (by omega) (by omega),wrap_i64 (by omega) (by omega),IntKind.wrap_u32]; omega
 rw[e1]
 exact ZjT (n+255) 8 (by omega) (by omega)
theorem ZgX (n:Nat) (h:n≤1000000):u32.wrap (u32.wrap ((u32.wrap (u32.wrap ((n:Int)+256)-1)).tdiv 256)*256)=((ZG n:Nat):Int):=by
 have e1:u32.wrap (u32.wrap ((n:Int)+256)-1)=((n+255:Nat):Int):=by
  rw[IntKind.wrap_u32,IntKind.wrap_u32]; omega
 rw[e1,show((256:Int))=((256:Nat):Int) from rfl,← Int.ofNat_tdiv,IntKind.wrap_u32,IntKind.wrap_u32]
 unfold ZG; omega
theorem ZjU (a:Nat):(if(256:Int)>(a:Int) then(256:Int) else(a:Int))=((max a 256:Nat):Int):=by split<;>omega
theorem Za4 (n:Nat) (h:n≤100000):Zgr (ZG n)=ZG n∧max (Ze0 (ZG n)) 256=256:=by
 have hs:ZG n≤100352:=by unfold ZG; omega
 have he:Z2 0 (ZG n)≤6:=by
  rcases Nat.lt_or_ge 6 (Z2 0 (ZG n)) with hlt|hge
  ·have:=Wn hlt
   unfold YP at this
   have h1:=ZeZ (ZG n) 6
   have h2:=ZcU 0 6
   simp only[rr, tt, decide_eq_false_iff_not] at this
   omega
  ·exact hge
 have hu:upN (ZG n) (Z2 0 (ZG n))=ZG n:=by
  have:=ZgC ((n+255)/256) 8 (Z2 0 (ZG n)) (by omega)
  exact this
 have hp:2^Z2 0 (ZG n)≤2^6:=Nat.pow_le_pow_right (by omega) he
 unfold Zgr Ze0
 rw[hu,if_neg (by omega),if_neg (by omega)]
 exact⟨rfl,by omega⟩
def ZjV (x:Int):Value:=.tuple ⟨[.int .u32 (ZG x.toNat:Nat),.int .u32 256]⟩
def ZjW (x:Int):Con:=Con.pure [.int .i64 x] (ZjV x)
def ZgY (x:Int):Con:=Con.pure [.int .u32 x] (ZjV x)
def Zom (x:Int):Prop:=0≤x∧x≤100000
theorem ZgZ (x:Int) (h:Zom x):ConOk Tryz.prog 74 3 (ZjW x):=by
 obtain⟨n,rfl⟩:=Int.eq_ofNat_of_zero_le h.1
 have hn:n≤100000:=by have:=h.2; omega
 have hr:=Zlq (n:Int)
 rw[ZiK n (by omega),Int.toNat_natCast,ZjU,(Za4 n hn).1,(Za4 n hn).2] at hr
 refine WD (Zu ZK (Z1 Uj) (Zj _) 10) hr ?_ rfl rfl
 exact⟨trivial,⟨by omega,by unfold ZG; omega⟩,⟨rfl,trivial⟩,trivial,trivial⟩
theorem Ze9 (x:Int) (h:Zom x):ConOk Tryz.prog 88 3 (ZgY x):=by
 obtain⟨n,rfl⟩:=Int.eq_ofNat_of_zero_le h.1
 have hn:n≤100000:=by have:=h.2; omega
 have hr:=ZiJ (n:Int)
 rw[ZgX n (by omega),Int.toNat_natCast,ZjU,(Za4 n hn).1,(Za4 n hn).2] at hr
 refine WD (Zu ZK (Z1 Uj) (Zj _) 10) hr ?_ rfl rfl
 exact⟨trivial,⟨by omega,by unfold ZG; omega⟩,⟨rfl,trivial⟩,trivial,trivial⟩
def Zlr:WH:=fun f args _ =>
 match args with
 | [.int _ x]=>bif Nat.beq f 74 then some (ZjW x,[],Zom x) else bif Nat.beq f 88 then some (ZgY x,[],Zom x) else none
 | _=>none
theorem ZiL:YN Tryz.prog 3 Zlr:=by
 intro f args s c ρ q h hq
 unfold Zlr at h
 split at h
 ·rename_i k x
  cases h1:Nat.beq f 74<;>rw[h1] at h
  ·simp only[rr, tt, cond_false] at h
   obtain⟨h2,h⟩:=ZL h
   have h2:=eB h2
   subst h2
   cases h
   exact Ze9 x hq
  ·cases h
   have h1:=eB h1
   subst h1
   exact ZgZ x hq
 ·cases h
def Zc3:WH:=WK Zlr Ze7
theorem Za5:YN Tryz.prog 3 Zc3:=XQ ZiL Uj
theorem Zfa (Ze Zc types:Int) (nc nr ns:Nat) (data:List UInt8):evF Tryz.prog (ZH 3 Zc3) Zf 100 10 40 [YE Ze Zc types nc nr ns data] ⟨67,[],[],0,[(0,true)],0,True⟩=some (Value.tuple { toList:=[Value.agg ⟨[.int .u32 0,.int .u32 0,.int .u32 0,.int .u32 0,.int .u32 0,.int .u32 0,.int .u32 0,.int .u32 0]⟩,.bool false] },{ n:=77,h:=[],lo:=[],esc:=0,T:=[],k:=1,O:=((True∧((0:Int)≤i64.wrap ((4:Int)*(↑nc:Int))∧i64.wrap ((4:Int)*(↑nc:Int))≤(100000:Int))∧(rr (Value.int .i64 (i64.wrap ((4:Int)*(↑nc:Int))))∧True)∧True∧True)∧((0:Int)≤(↑(Zr data):Int)∧(↑(Zr data):Int)≤(100000:Int))∧(rr (Value.int .i64 (↑(Zr data)))∧True)∧True∧True)∧decide (u32.wrap (u32.wrap (bits BinOp.andNot u32 (u32.wrap (u32.wrap (u32.wrap (bits BinOp.andNot u32 (u32.wrap (u32.wrap (u32.wrap ((0:Int)+(↑(ZG (i64.wrap ((4:Int)*(↑nc:Int))).toNat):Int))+(256:Int))-(1:Int))) (255:Int)+(↑(ZG (↑(Zr data):Int).toNat):Int))+(256:Int))-(1:Int))) (255:Int)+u32.wrap (i64.wrap (Zc*(↑ns:Int))))+(256:Int))>u32.wrap (u32.wrap Ze*(256:Int)))=true:St }):=by kernel_rfl
theorem Zg0 (Ze Zc types:Int) (nc nr ns:Nat) (data:List UInt8):evF Tryz.prog (ZH 3 Zc3) Zf 100 10 40 [YE Ze Zc types nc nr ns data] ⟨67,[],[],0,[(0,false)],0,True⟩=some (Value.tuple { toList:=[Value.agg ⟨[.int .u32 0,.int .u32 (↑(ZG (i64.wrap ((4:Int)*(↑nc:Int))).toNat):Int),.int .u32 (bits BinOp.andNot u32 (u32.wrap (u32.wrap (u32.wrap ((0:Int)+(↑(ZG (i64.wrap ((4:Int)*(↑nc:Int))).toNat):Int))+(256:Int))-(1:Int))) (255:Int)),.int .u32 (↑(ZG (↑(Zr data):Int).toNat):Int),.int .u32 (bits BinOp.andNot u32 (u32.wrap (u32.wrap (u32.wrap (bits BinOp.andNot u32 (u32.wrap (u32.wrap (u32.wrap ((0:Int)+(↑(ZG (i64.wrap ((4:Int)*(↑nc:Int))).toNat):Int))+(256:Int))-(1:Int))) (255:Int)+(↑(ZG (↑(Zr data):Int).toNat):Int))+(256:Int))-(1:Int))) (255:Int)),.int .u32 (u32.wrap (i64.wrap (Zc*(↑ns:Int)))),.int .u32 (bits BinOp.andNot u32 (u32.wrap (u32.wrap (u32.wrap (bits BinOp.andNot u32 (u32.wrap (u32.wrap (u32.wrap (bits BinOp.andNot u32 (u32.wrap (u32.wrap (u32.wrap ((0:Int)+(↑(ZG (i64.wrap ((4:Int)*(↑nc:Int))).toNat):Int))+(256:Int))-(1:Int))) (255:Int)+(↑(ZG (↑(Zr data):Int).toNat):Int))+(256:Int))-(1:Int))) (255:Int)+u32.wrap (i64.wrap (Zc*(↑ns:Int))))+(256:Int))-(1:Int))) (255:Int)),.int .u32 (u32.wrap (u32.wrap (u32.wrap Ze*(256:Int))-u32.wrap (bits BinOp.andNot u32 (u32.wrap (u32.wrap (u32.wrap (bits BinOp.andNot u32 (u32.wrap (u32.wrap (u32.wrap ((0:Int)+(↑(ZG (i64.wrap ((4:Int)*(↑nc:Int))).toNat):Int))+(256:Int))-(1:Int))) (255:Int)+(↑(ZG (↑(Zr data):Int).toNat):Int))+(256:Int))-(1:Int))) (255:Int)+u32.wrap (i64.wrap (Zc*(↑ns:Int))))))]⟩,.bool true] },{ n:=79,h:=[],lo:=[],esc:=0,T:=[],k:=1,O:=((True∧((0:Int)≤i64.wrap ((4:Int)*(↑nc:Int))∧i64.wrap ((4:Int)*(↑nc:Int))≤(100000:Int))∧(rr (Value.int .i64 (i64.wrap ((4:Int)*(↑nc:Int))))∧True)∧True∧True)∧((0:Int)≤(↑(Zr data):Int)∧(↑(Zr data):Int)≤(100000:Int))∧(rr (Value.int .i64 (↑(Zr data)))∧True)∧True∧True)∧decide (u32.wrap (u32.wrap (bits BinOp.andNot u32 (u32.wrap (u32.wrap (u32.wrap (bits BinOp.andNot u32 (u32.wrap (u32.wrap (u32.wrap ((0:Int)+(↑(ZG (i64.wrap ((4:Int)*(↑nc:Int))).toNat):Int))+(256:Int))-(1:Int))) (255:Int)+(↑(ZG (↑(Zr data):Int).toNat):Int))+(256:Int))-(1:Int))) (255:Int)+u32.wrap (i64.wrap (Zc*(↑ns:Int))))+(256:Int))>u32.wrap (u32.wrap Ze*(256:Int)))=false:St }):=by kernel_rfl
theorem Zc4 (Ze Zc types:Int) (nc nr ns:Nat) (data:List UInt8):evF Tryz.prog (ZH 3 Zc3) Zf 100 10 56 [YE Ze Zc types nc nr ns data] ⟨67,[],[],0,[(0,true)],0,True⟩=some (Value.tuple { toList:=[Value.agg ⟨[.int .u32 0,.int .u32 0,.int .u32 0,.int .u32 0,.int .u32 0,.int .u32 0,.int .u32 0,.int .u32 0]⟩,.bool false] },{ n:=70,h:=[],lo:=[],esc:=0,T:=[],k:=1,O:=((True∧((0:Int)≤u32.wrap ((4:Int)*u32.wrap (↑nc))∧u32.wrap ((4:Int)*u32.wrap (↑nc))≤(100000:Int))∧(rr (Value.int .u32 (u32.wrap ((4:Int)*u32.wrap (↑nc))))∧True)∧True∧True)∧((0:Int)≤u32.wrap (↑(Zr data))∧u32.wrap (↑(Zr data))≤(100000:Int))∧(rr (Value.int .u32 (u32.wrap (↑(Zr data))))∧True)∧True∧True)∧decide (u32.wrap (u32.wrap (u32.wrap (u32.wrap (u32.wrap ((u32.wrap (u32.wrap ((↑(ZG (u32.wrap ((4:Int)*u32.wrap (↑nc))).toNat):Int)+(256:Int))-(1:Int))).tdiv (256:Int))*(256:Int))+(↑(ZG (u32.wrap (↑(Zr data))).toNat):Int))+u32.wrap (i64.wrap (Zc*(↑ns:Int))))+(256:Int))>u32.wrap (i64.wrap (Ze*(256:Int))))=true:St }):=by kernel_rfl
theorem Zfb (Ze Zc types:Int) (nc nr ns:Nat) (data:List UInt8):evF Tryz.prog (ZH 3 Zc3) Zf 100 10 56 [YE Ze Zc types nc nr ns data] ⟨67,[],[],0,[(0,false)],0,True⟩=some (Value.tuple { toList:=[Value.agg ⟨[.int .u32 0,.int .u32 (↑(ZG (u32.wrap ((4:Int)*u32.wrap (↑nc))).toNat):Int),.int .u32 (u32.wrap (u32.wrap ((u32.wrap (u32.wrap ((↑(ZG (u32.wrap ((4:Int)*u32.wrap (↑nc))).toNat):Int)+(256:Int))-(1:Int))).tdiv (256:Int))*(256:Int))),.int .u32 (↑(ZG (u32.wrap (↑(Zr data))).toNat):Int),.int .u32 (u32.wrap (u32.wrap (u32.wrap ((u32.wrap (u32.wrap ((↑(ZG (u32.wrap ((4:Int)*u32.wrap (↑nc))).toNat):Int)+(256:Int))-(1:Int))).tdiv (256:Int))*(256:Int))+(↑(ZG (u32.wrap (↑(Zr data))).toNat):Int))),.int .u32 (u32.wrap (i64.wrap (Zc*(↑ns:Int)))),.int .u32 (u32.wrap (u32.wrap (u32.wrap (u32.wrap ((u32.wrap (u32.wrap ((↑(ZG (u32.wrap ((4:Int)*u32.wrap (↑nc))).toNat):Int)+(256:Int))-(1:Int))).tdiv (256:Int))*(256:Int))+(↑(ZG (u32.wrap (↑(Zr data))).toNat):Int))+u32.wrap (i64.wrap (Zc*(↑ns:Int))))),.int .u32 (u32.wrap (u32.wrap (i64.wrap (Ze*(256:Int)))-u32.wrap (u32.wrap (u32.wrap (u32.wrap ((u32.wrap (u32.wrap ((↑(ZG (u32.wrap ((4:Int)*u32.wrap (↑nc))).toNat):Int)+(256:Int))-(1:Int))).tdiv (256:Int))*(256:Int))+(↑(ZG (u32.wrap (↑(Zr data))).toNat):Int))+u32.wrap (i64.wrap (Zc*(↑ns:Int))))))]⟩,.bool true] },{ n:=70,h:=[],lo:=[],esc:=0,T:=[],k:=1,O:=((True∧((0:Int)≤u32.wrap ((4:Int)*u32.wrap (↑nc))∧u32.wrap ((4:Int)*u32.wrap (↑nc))≤(100000:Int))∧(rr (Value.int .u32 (u32.wrap ((4:Int)*u32.wrap (↑nc))))∧True)∧True∧True)∧((0:Int)≤u32.wrap (↑(Zr data))∧u32.wrap (↑(Zr data))≤(100000:Int))∧(rr (Value.int .u32 (u32.wrap (↑(Zr data))))∧True)∧True∧True)∧decide (u32.wrap (u32.wrap (u32.wrap (u32.wrap (u32.wrap ((u32.wrap (u32.wrap ((↑(ZG (u32.wrap ((4:Int)*u32.wrap (↑nc))).toNat):Int)+(256:Int))-(1:Int))).tdiv (256:Int))*(256:Int))+(↑(ZG (u32.wrap (↑(Zr data))).toNat):Int))+u32.wrap (i64.wrap (Zc*(↑ns:Int))))+(256:Int))>u32.wrap (i64.wrap (Ze*(256:Int))))=false:St }):=by kernel_rfl
section
variable {P:Program} {call:Qb} {f:FuncId}
theorem Vh (hcall:ZA P call) {args:List Value} {n:Nat} {T:List (Nat×Bool)} {v:Value} {s':St} (hng:NG≤n) (ha:args.all (okV (fun l=>Nat.blt l n) 3)=true) (h:call f args ⟨n,[],[],0,T,0,True⟩=some (v,s')) (hO:s'.O) (hv:Yr v=true) (hu:isU v=false):ConOk P f 3 ⟨args,n,[],[],v,n,[],[]⟩:=by
 refine ZF hcall (T:=T) (v:=v) (s':=s') (p:=fun _=>false) (σ:=id) ⟨hng,Nat.le_refl _,trivial,rfl,rfl,rfl,ha,Qy hv 1,fun x hx=>by cases hx⟩ h hO ?_
 exact⟨fun _ _=>rfl,trivial,rfl,trivial,⟨Qy hv 1,(Yd 3 v).symm⟩,hu,trivial,rfl,Yb _ hv,fun x hx=>by cases hx⟩
end
def ZX (Zc:Int) (nc ns len:Nat):Nat:=ZG (4*nc)+ZG len+Zc.toNat*ns
def Zo (Ze Zc:Int) (nc ns len:Nat):Bool:=decide (ZX Zc nc ns len+256>Ze.toNat*256)
def pk (b:Bool) (x:Nat):Int:=bif b then 0 else(x:Int)
def Zg1 (Ze Zc:Int) (nc ns len:Nat):Value :=
 .agg ⟨[.int .u32 0,.int .u32 (pk (Zo Ze Zc nc ns len) (ZG (4*nc))),.int .u32 (pk (Zo Ze Zc nc ns len) (ZG (4*nc))),.int .u32 (pk (Zo Ze Zc nc ns len) (ZG len)),.int .u32 (pk (Zo Ze Zc nc ns len) (ZG (4*nc)+ZG len)),.int .u32 (pk (Zo Ze Zc nc ns len) (Zc.toNat*ns)),.int .u32 (pk (Zo Ze Zc nc ns len) (ZX Zc nc ns len)),.int .u32 (pk (Zo Ze Zc nc ns len) (Ze.toNat*256-ZX Zc nc ns len))]⟩
def Zcv (Ze Zc:Int) (nc ns len:Nat):Value:=.tuple ⟨[Zg1 Ze Zc nc ns len,.bool (!Zo Ze Zc nc ns len)]⟩
def Xr (Ze Zc:Int) (nc ns len:Nat):Prop:=0≤Ze∧Ze≤1024∧0≤Zc∧Zc≤4096∧Zc%256=0∧nc≤4096∧ns≤4∧len≤16384
def Zon (Ze Zc types:Int) (nc nr ns:Nat) (data:List UInt8):Con:=⟨[YE Ze Zc types nc nr ns data],67,[],[],Zcv Ze Zc nc ns data.length,67,[],[]⟩
theorem Kl (x:Nat) (h:x%256=0) (hx:x≤10000000):bits .andNot .u32 (u32.wrap (u32.wrap ((x:Int)+256)-1)) 255=(x:Int):=by
 have e1:u32.wrap (u32.wrap ((x:Int)+256)-1)=((x+255:Nat):Int):=by
  rw[IntKind.wrap_u32,IntKind.wrap_u32]; omega
 have e2:=ZjT (x+255) 8 (by omega) (by omega)
 rw[show(((2^8-1:Nat)):Int)=255 from rfl] at e2
 rw[e1,e2]
 omega
theorem Zea (x:Nat) (h:x%256=0) (hx:x≤10000000):u32.wrap (u32.wrap ((u32.wrap (u32.wrap ((x:Int)+256)-1)).tdiv 256)*256)=(x:Int):=by
 have e1:u32.wrap (u32.wrap ((x:Int)+256)-1)=((x+255:Nat):Int):=by
  rw[IntKind.wrap_u32,IntKind.wrap_u32]; omega
 rw[e1,show((256:Int))=((256:Nat):Int) from rfl,← Int.ofNat_tdiv,IntKind.wrap_u32,IntKind.wrap_u32]
 omega
theorem Y0 (n:Nat):ZG n%256=0:=by unfold ZG; omega
theorem Xg (n:Nat):ZG n≤n+255:=by unfold ZG; omega
theorem VL (x:Nat) (h:x<4294967296):u32.wrap (x:Int)=(x:Int):=by rw[IntKind.wrap_u32]; omega
theorem X4 (x y:Nat) (h:x+y<4294967296):u32.wrap ((x:Int)+(y:Int))=((x+y:Nat):Int):=by rw[IntKind.wrap_u32]; omega
theorem Jq {f:FuncId} {Ze Zc types:Int} {nc nr ns:Nat} {data:List UInt8} {T:List (Nat×Bool)} {s':St} {v:Value} (h:evF Tryz.prog (ZH 3 Zc3) Zf 100 10 f [YE Ze Zc types nc nr ns data] ⟨67,[],[],0,T,0,True⟩=some (v,s')) (hv:v=Zcv Ze Zc nc ns data.length) (hO:s'.O):ConOk Tryz.prog f 3 (Zon Ze Zc types nc nr ns data):=by
 subst hv
 refine Vh (Zu ZK (Z1 Za5) (Zj _) 10) (by decide) ?_ h hO rfl rfl
 kernel_rfl
theorem Km {s ns:Nat} (h1:s≤4096) (h2:ns≤4):s*ns≤16384:=Nat.mul_le_mul h1 h2
theorem ZiM (Ze Zc types:Int) (nc nr ns:Nat) (data:List UInt8) (h:Xr Ze Zc nc ns data.length):ConOk Tryz.prog 40 3 (Zon Ze Zc types nc nr ns data):=by
 obtain⟨h1,h2,h3,h4,h5,h6,h7,h8⟩:=h
 obtain⟨p,rfl⟩:=Int.eq_ofNat_of_zero_le h1
 obtain⟨s,rfl⟩:=Int.eq_ofNat_of_zero_le h3
 have hs:=Km (s:=s) (ns:=ns) (by omega) h7
 have q1:=Xg (4*nc)
 have q2:=Xg data.length
 have m1:=Y0 (4*nc)
 have m2:=Y0 data.length
 have m3:s*ns%256=0:=by rw[Nat.mul_mod,show s%256=0 by omega]; simp
 have e1:i64.wrap ((4:Int)*(nc:Int))=((4*nc:Nat):Int):=by rw[wrap_i64 (by omega) (by omega)]; omega
 have e2:u32.wrap ((0:Int)+((ZG (4*nc):Nat):Int))=((ZG (4*nc):Nat):Int):=by rw[IntKind.wrap_u32]; omega
 have e3:i64.wrap ((s:Int)*(ns:Int))=((s*ns:Nat):Int):=by rw[Int.ofNat_mul_ofNat,wrap_i64 (by omega) (by omega)]
 have e4:u32.wrap (u32.wrap (p:Int)*(256:Int))=((p*256:Nat):Int):=by rw[IntKind.wrap_u32,IntKind.wrap_u32]; omega
 have hd:=Zfa (p:Int) (s:Int) types nc nr ns data
 have hk:=Zg0 (p:Int) (s:Int) types nc nr ns data
 simp only[rr, tt, e1,Int.toNat_natCast,Zq,e2,Kl _ m1 (by omega),X4 (ZG (4*nc)) (ZG data.length) (by omega),Kl (ZG (4*nc)+ZG data.length) (by omega) (by omega),e3,VL (s*ns) (by omega),X4 (ZG (4*nc)+ZG data.length) (s*ns) (by omega),Kl (ZG (4*nc)+ZG data.length+s*ns) (by omega) (by omega),e4] at hd hk
 cases hb:Zo (p:Int) (s:Int) nc ns data.length
 ·have hb':ZG (4*nc)+ZG data.length+s*ns+256≤p*256:=by
   unfold Zo ZX at hb; simp only[rr, tt, Int.toNat_natCast,decide_eq_false_iff_not] at hb; omega
  have e5:u32.wrap (((p*256:Nat):Int)-((ZG (4*nc)+ZG data.length+s*ns:Nat):Int))=((p*256-(ZG (4*nc)+ZG data.length+s*ns):Nat):Int):=by rw[IntKind.wrap_u32]; omega
  rw[e5] at hk
  refine Jq (T:=[(0,false)]) hk ?_ ?_
  ·unfold Zcv Zg1
   rw[hb]
   rfl
  ·refine⟨⟨⟨trivial,⟨by omega,by omega⟩,⟨trivial,trivial⟩,trivial,trivial⟩,⟨by omega,by omega⟩,⟨trivial,trivial⟩,trivial,trivial⟩,?_⟩
   rw[IntKind.wrap_u32]
   simp only[rr, tt, decide_eq_false_iff_not]; omega
 ·have hb':¬ (ZG (4*nc)+ZG data.length+s*ns+256≤p*256):=by
   unfold Zo ZX at hb; simp only[rr, tt, Int.toNat_natCast,decide_eq_true_eq] at hb; omega
  refine Jq (T:=[(0,true)]) hd ?_ ?_
  ·unfold Zcv Zg1
   rw[hb]
   rfl
  ·refine⟨⟨⟨trivial,⟨by omega,by omega⟩,⟨trivial,trivial⟩,trivial,trivial⟩,⟨by omega,by omega⟩,⟨trivial,trivial⟩,trivial,trivial⟩,?_⟩
   rw[IntKind.wrap_u32]
   simp only[rr, tt, decide_eq_true_eq]; omega
theorem Zls (Ze Zc types:Int) (nc nr ns:Nat) (data:List UInt8) (h:Xr Ze Zc nc ns data.length):ConOk Tryz.prog 56 3 (Zon Ze Zc types nc nr ns data):=by
 obtain⟨h1,h2,h3,h4,h5,h6,h7,h8⟩:=h
 obtain⟨p,rfl⟩:=Int.eq_ofNat_of_zero_le h1
 obtain⟨s,rfl⟩:=Int.eq_ofNat_of_zero_le h3
 have hs:=Km (s:=s) (ns:=ns) (by omega) h7
 have q1:=Xg (4*nc)
 have q2:=Xg data.length
 have m1:=Y0 (4*nc)
 have m2:=Y0 data.length
 have m3:s*ns%256=0:=by rw[Nat.mul_mod,show s%256=0 by omega]; simp
 have e1:u32.wrap ((4:Int)*u32.wrap (nc:Int))=((4*nc:Nat):Int):=by rw[IntKind.wrap_u32,IntKind.wrap_u32]; omega
 have e2:=VL data.length (by omega)
 have e3:i64.wrap ((s:Int)*(ns:Int))=((s*ns:Nat):Int):=by rw[Int.ofNat_mul_ofNat,wrap_i64 (by omega) (by omega)]
 have e4:u32.wrap (i64.wrap ((p:Int)*(256:Int)))=((p*256:Nat):Int):=by rw[wrap_i64 (by omega) (by omega),IntKind.wrap_u32]; omega
 have hd:=Zc4 (p:Int) (s:Int) types nc nr ns data
 have hk:=Zfb (p:Int) (s:Int) types nc nr ns data
 simp only[rr, tt, e1,Int.toNat_natCast,Zq,e2,Zea _ m1 (by omega),X4 (ZG (4*nc)) (ZG data.length) (by omega),e3,VL (s*ns) (by omega),X4 (ZG (4*nc)+ZG data.length) (s*ns) (by omega),e4] at hd hk
 cases hb:Zo (p:Int) (s:Int) nc ns data.length
 ·have hb':ZG (4*nc)+ZG data.length+s*ns+256≤p*256:=by
   unfold Zo ZX at hb; simp only[rr, tt, Int.toNat_natCast,decide_eq_false_iff_not] at hb; omega
  have e5:u32.wrap (((p*256:Nat):Int)-((ZG (4*nc)+ZG data.length+s*ns:Nat):Int))=((p*256-(ZG (4*nc)+ZG data.length+s*ns):Nat):Int):=by rw[IntKind.wrap_u32]; omega
  rw[e5] at hk
  refine Jq (T:=[(0,false)]) hk ?_ ?_
  ·unfold Zcv Zg1
   rw[hb]
   rfl
  ·refine⟨⟨⟨trivial,⟨by omega,by omega⟩,⟨trivial,trivial⟩,trivial,trivial⟩,⟨by omega,by omega⟩,⟨trivial,trivial⟩,trivial,trivial⟩,?_⟩
   rw[IntKind.wrap_u32]
   simp only[rr, tt, decide_eq_false_iff_not]; omega
 ·have hb':¬ (ZG (4*nc)+ZG data.length+s*ns+256≤p*256):=by
   unfold Zo ZX at hb; simp only[rr, tt, Int.toNat_natCast,decide_eq_true_eq] at hb; omega
  refine Jq (T:=[(0,true)]) hd ?_ ?_
  ·unfold Zcv Zg1
   rw[hb]
   rfl
  ·refine⟨⟨⟨trivial,⟨by omega,by omega⟩,⟨trivial,trivial⟩,trivial,trivial⟩,⟨by omega,by omega⟩,⟨trivial,trivial⟩,trivial,trivial⟩,?_⟩
   rw[IntKind.wrap_u32]
   simp only[rr, tt, decide_eq_true_eq]; omega
def Zg2:WH:=fun f args _ =>
 match args with
 | [.agg ⟨[.int _ Ze,.int _ Zc,.int _ types,.slice (some a) nc _,.string ⟨⟨data⟩⟩,.slice (some b) nr _,.slice (some c) ns _]⟩] =>
  bif Nat.beq f 40||Nat.beq f 56 then some (Zon Ze Zc types nc nr ns data,[a.block,b.block,c.block],Xr Ze Zc nc ns data.length) else none
 | _=>none
theorem Zg3:YN Tryz.prog 3 Zg2:=by
 intro f args s c ρ q h hq
 unfold Zg2 at h
 split at h
 ·obtain⟨h2,h⟩:=ZL h
  cases h
  simp only[rr, tt, Bool.or_eq_true] at h2
  rcases h2 with h2|h2
  ·have h2:=eB h2
   subst h2
   exact ZiM _ _ _ _ _ _ _ hq
  ·have h2:=eB h2
   subst h2
   exact Zls _ _ _ _ _ _ _ hq
 ·cases h
def YT:WH:=WK Zg2 Zc3
theorem W3:YN Tryz.prog 3 YT:=XQ Zg3 Za5
def VS (a b c d e f g h:Int):Value:=.agg ⟨[.int .u32 a,.int .u32 b,.int .u32 c,.int .u32 d,.int .u32 e,.int .u32 f,.int .u32 g,.int .u32 h]⟩
def Zm4 (at_:Int) (code:Bool) (off size perms typ:Int):Value:=.agg ⟨[.int .u32 at_,.bool code,.int .u32 off,.int .u32 size,.int .u16 perms,.int .u16 typ]⟩
theorem ZiN (Ze Zc types:Int) (nc nr ns:Nat) (data:List UInt8) (a b c d e f g h x off size perms typ behind:Int):evF Tryz.prog (ZH 3 YT) Zf 100 10 41 [YE Ze Zc types nc nr ns data,VS a b c d e f g h,Zm4 x false off size perms typ,.int .u32 behind] ⟨67,[],[],0,[(1,true)],0,True⟩=some (Value.bool false,{ n:=72,h:=[],lo:=[],esc:=0,T:=[],k:=2,O:=(True∧(tt∧6<9000000000000000000)∧(rr (Value.slice (some ⟨71,0,none⟩) 6 6)∧True)∧((tt∧tt∧tt∧tt∧tt∧True∧rr [Value.bool (x.tmod (16:Int) !=(0:Int)),.bool (decide (x<behind)),.bool (decide (u64.wrap (u64.wrap x+(16:Int))>u64.wrap (↑(Zr data)))),.bool (decide (u64.wrap (u64.wrap off+u64.wrap size)>u64.wrap (↑(Zr data)))),.bool (bits BinOp.andNot u16 perms (155:Int) !=(0:Int)),.bool (decide (i64.wrap typ>types))])∧True)∧True)∧(!!(x.tmod (16:Int) !=(0:Int)||(decide (x<behind)||(decide (u64.wrap (u64.wrap x+(16:Int))>u64.wrap (↑(Zr data)))||(decide (u64.wrap (u64.wrap off+u64.wrap size)>u64.wrap (↑(Zr data)))||(bits BinOp.andNot u16 perms (155:Int) !=(0:Int)||(decide (i64.wrap typ>types)||false)))))))=true:St }):=by kernel_rfl
theorem ZiO (Ze Zc types:Int) (nc nr ns:Nat) (data:List UInt8) (a b c d e f g h x off size perms typ behind:Int):evF Tryz.prog (ZH 3 YT) Zf 100 10 41 [YE Ze Zc types nc nr ns data,VS a b c d e f g h,Zm4 x false off size perms typ,.int .u32 behind] ⟨67,[],[],0,[(1,false)],0,True⟩=some (Value.bool (KA (u32.wrap (c+off)).toNat (u64.wrap (u64.wrap (u32.wrap (c+off))+u64.wrap size)).toNat),{ n:=72,h:=[],lo:=[],esc:=0,T:=[],k:=2,O:=((True∧(tt∧6<9000000000000000000)∧(rr (Value.slice (some ⟨71,0,none⟩) 6 6)∧True)∧((tt∧tt∧tt∧tt∧tt∧True∧rr [Value.bool (x.tmod (16:Int) !=(0:Int)),.bool (decide (x<behind)),.bool (decide (u64.wrap (u64.wrap x+(16:Int))>u64.wrap (↑(Zr data)))),.bool (decide (u64.wrap (u64.wrap off+u64.wrap size)>u64.wrap (↑(Zr data)))),.bool (bits BinOp.andNot u16 perms (155:Int) !=(0:Int)),.bool (decide (i64.wrap typ>types))])∧True)∧True)∧(!!(x.tmod (16:Int) !=(0:Int)||(decide (x<behind)||(decide (u64.wrap (u64.wrap x+(16:Int))>u64.wrap (↑(Zr data)))||(decide (u64.wrap (u64.wrap off+u64.wrap size)>u64.wrap (↑(Zr data)))||(bits BinOp.andNot u16 perms (155:Int) !=(0:Int)||(decide (i64.wrap typ>types)||false)))))))=false)∧(((0:Int)≤u32.wrap (c+off)∧u32.wrap (c+off)<(4294967296:Int))∧(0:Int)≤u64.wrap (u64.wrap (u32.wrap (c+off))+u64.wrap size)∧u64.wrap (u64.wrap (u32.wrap (c+off))+u64.wrap size)<(18446744073709551616:Int))∧(rr (Value.int .u32 (u32.wrap (c+off)))∧rr (Value.int .u64 (u64.wrap (u64.wrap (u32.wrap (c+off))+u64.wrap size)))∧True)∧True∧True:St }):=by kernel_rfl
theorem ZiP (Ze Zc types:Int) (nc nr ns:Nat) (data:List UInt8) (a b c d e f g h x off size perms typ behind:Int):evF Tryz.prog (ZH 3 YT) Zf 100 10 41 [YE Ze Zc types nc nr ns data,VS a b c d e f g h,Zm4 x true off size perms typ,.int .u32 behind] ⟨67,[],[],0,[(1,true)],0,True⟩=some (Value.bool false,{ n:=72,h:=[],lo:=[],esc:=0,T:=[],k:=2,O:=(True∧(tt∧6<9000000000000000000)∧(rr (Value.slice (some ⟨71,0,none⟩) 6 6)∧True)∧((tt∧tt∧tt∧tt∧tt∧True∧rr [Value.bool (x.tmod (16:Int) !=(0:Int)),.bool (decide (x<behind)),.bool (decide (u64.wrap (u64.wrap x+(16:Int))>u64.wrap (↑(Zr data)))),.bool (decide (u64.wrap (u64.wrap off+u64.wrap size)>u64.wrap ((4:Int)*u64.wrap (↑nc)))),.bool (bits BinOp.andNot u16 perms (133:Int) !=(0:Int)),.bool (decide (i64.wrap typ>types))])∧True)∧True)∧(!!(x.tmod (16:Int) !=(0:Int)||(decide (x<behind)||(decide (u64.wrap (u64.wrap x+(16:Int))>u64.wrap (↑(Zr data)))||(decide (u64.wrap (u64.wrap off+u64.wrap size)>u64.wrap ((4:Int)*u64.wrap (↑nc)))||(bits BinOp.andNot u16 perms (133:Int) !=(0:Int)||(decide (i64.wrap typ>types)||false)))))))=true:St }):=by kernel_rfl
theorem ZiQ (Ze Zc types:Int) (nc nr ns:Nat) (data:List UInt8) (a b c d e f g h x off size perms typ behind:Int):evF Tryz.prog (ZH 3 YT) Zf 100 10 41 [YE Ze Zc types nc nr ns data,VS a b c d e f g h,Zm4 x true off size perms typ,.int .u32 behind] ⟨67,[],[],0,[(1,false)],0,True⟩=some (Value.bool (KA (u32.wrap (a+off)).toNat (u64.wrap (u64.wrap (u32.wrap (a+off))+u64.wrap size)).toNat),{ n:=72,h:=[],lo:=[],esc:=0,T:=[],k:=2,O:=((True∧(tt∧6<9000000000000000000)∧(rr (Value.slice (some ⟨71,0,none⟩) 6 6)∧True)∧((tt∧tt∧tt∧tt∧tt∧True∧rr [Value.bool (x.tmod (16:Int) !=(0:Int)),.bool (decide (x<behind)),.bool (decide (u64.wrap (u64.wrap x+(16:Int))>u64.wrap (↑(Zr data)))),.bool (decide (u64.wrap (u64.wrap off+u64.wrap size)>u64.wrap ((4:Int)*u64.wrap (↑nc)))),.bool (bits BinOp.andNot u16 perms (133:Int) !=(0:Int)),.bool (decide (i64.wrap typ>types))])∧True)∧True)∧(!!(x.tmod (16:Int) !=(0:Int)||(decide (x<behind)||(decide (u64.wrap (u64.wrap x+(16:Int))>u64.wrap (↑(Zr data)))||(decide (u64.wrap (u64.wrap off+u64.wrap size)>u64.wrap ((4:Int)*u64.wrap (↑nc)))||(bits BinOp.andNot u16 perms (133:Int) !=(0:Int)||(decide (i64.wrap typ>types)||false)))))))=false)∧(((0:Int)≤u32.wrap (a+off)∧u32.wrap (a+off)<(4294967296:Int))∧(0:Int)≤u64.wrap (u64.wrap (u32.wrap (a+off))+u64.wrap size)∧u64.wrap (u64.wrap (u32.wrap (a+off))+u64.wrap size)<(18446744073709551616:Int))∧(rr (Value.int .u32 (u32.wrap (a+off)))∧rr (Value.int .u64 (u64.wrap (u64.wrap (u32.wrap (a+off))+u64.wrap size)))∧True)∧True∧True:St }):=by kernel_rfl
def Zca (nc len:Nat) (code:Bool):Nat:=bif code then 4*nc else len
def Zc5 (code:Bool):Int:=bif code then 133 else 155
def Vs (types:Int) (nc len:Nat) (r:Rl) (behind:Nat):Bool :=
 decide (r.at_%16≠0)||(decide (r.at_<behind)||(decide (r.at_+16>len)||(decide (r.off+r.size>Zca nc len r.code)||(bits .andNot .u16 (r.perms:Int) (Zc5 r.code) !=0||decide ((r.typ:Int)>types)))))
def Zy (types:Int) (nc len a c:Nat) (r:Rl) (behind:Nat):Bool:=!Vs types nc len r behind&&KA ((bif r.code then a else c)+r.off) ((bif r.code then a else c)+r.off+r.size)
structure RlOk (r:Rl):Prop where
 at_:r.at_<4294967296
 off:r.off<4294967296
 size:r.size<4294967296
 perms:r.perms<65536
 typ:r.typ<65536
def relV (r:Rl):Value:=Zm4 r.at_ r.code r.off r.size r.perms r.typ
def Zg4 (Ze Zc types:Int) (nc nr ns:Nat) (data:List UInt8) (a:Nat) (b:Int) (c:Nat) (d e f g h:Int) (r:Rl) (behind:Nat):Con :=
 ⟨[YE Ze Zc types nc nr ns data,VS a b c d e f g h,relV r,.int .u32 (behind:Int)],67,[],[],.bool (Zy types nc data.length a c r behind),67,[],[]⟩
theorem Vi (types:Int) (nc len:Nat) (code:Bool) (at_ off size perms typ w:Nat) (pm:Int) (behind:Nat) (hr:RlOk ⟨at_,code,off,size,perms,typ⟩) (hn:nc≤4096) (hl:len≤16384) (hw:w=Zca nc len code) (hp:pm=Zc5 code) :
  ((at_:Int).tmod 16 !=0||(decide ((at_:Int)<(behind:Int))||(decide (u64.wrap (u64.wrap (at_:Int)+16)>u64.wrap (len:Int))||(decide (u64.wrap (u64.wrap (off:Int)+u64.wrap (size:Int))>u64.wrap (w:Int))||(bits BinOp.andNot u16 (perms:Int) pm !=0||(decide (i64.wrap (typ:Int)>types)||false))))))=Vs types nc len ⟨at_,code,off,size,perms,typ⟩ behind:=by
 subst hw hp
 obtain⟨h1,h2,h3,h4,h5⟩:=hr
 simp only[] at h1 h2 h3 h4 h5
 have hw:Zca nc len code≤16384:=by unfold Zca; cases code<;>simp<;>omega
 unfold Vs
 rw[Bool.or_false]
 congr 1
 ·rw[show(16:Int)=((16:Nat):Int) from rfl,← Int.ofNat_tmod]
  rw[Bool.eq_iff_iff]; simp only[rr, tt, bne_iff_ne,ne_eq,decide_eq_true_eq]; omega
 congr 1
 ·rw[Bool.eq_iff_iff]; simp only[rr, tt, decide_eq_true_eq]; omega
 congr 1
 ·rw[Bool.eq_iff_iff,IntKind.wrap_u64,IntKind.wrap_u64,IntKind.wrap_u64]; simp only[rr, tt, decide_eq_true_eq]; omega
 congr 1
 ·rw[Bool.eq_iff_iff,IntKind.wrap_u64,IntKind.wrap_u64,IntKind.wrap_u64,IntKind.wrap_u64]; simp only[rr, tt, decide_eq_true_eq]; omega
 congr 1
 ·rw[wrap_i64 (by omega) (by omega)]
theorem Zeb (a:Nat) (r:Rl) (ha:a≤100000) (ho:r.off+r.size≤16384):KA (u32.wrap ((a:Int)+(r.off:Int))).toNat (u64.wrap (u64.wrap (u32.wrap ((a:Int)+(r.off:Int)))+u64.wrap (r.size:Int))).toNat=KA (a+r.off) (a+r.off+r.size):=by
 have e1:u32.wrap ((a:Int)+(r.off:Int))=((a+r.off:Nat):Int):=by rw[IntKind.wrap_u32]; omega
 have e2:u64.wrap (u64.wrap ((a+r.off:Nat):Int)+u64.wrap (r.size:Int))=((a+r.off+r.size:Nat):Int):=by rw[IntKind.wrap_u64,IntKind.wrap_u64,IntKind.wrap_u64]; omega
 rw[e1,e2]; rfl
def QC (nc len:Nat) (a c:Nat) (r:Rl):Prop:=RlOk r∧nc≤4096∧len≤16384∧a≤100000∧c≤100000
theorem Jr {f:FuncId} {args:List Value} {T:List (Nat×Bool)} {s':St} {v v':Value} (h:evF Tryz.prog (ZH 3 YT) Zf 100 10 f args ⟨67,[],[],0,T,0,True⟩=some (v,s')) (ha:args.all (okV (fun l=>Nat.blt l 67) 3)=true) (hv:v=v') (hO:s'.O) (hf:Yr v'=true) (hu:isU v'=false):ConOk Tryz.prog f 3 ⟨args,67,[],[],v',67,[],[]⟩:=by
 subst hv
 exact Vh (Zu ZK (Z1 W3) (Zj _) 10) (by decide) ha h hO hf hu
theorem Zfc (Ze Zc types:Int) (nc nr ns:Nat) (data:List UInt8) (a:Nat) (b:Int) (c:Nat) (d e f g h:Int) (r:Rl) (behind:Nat) (hq:QC nc data.length a c r):ConOk Tryz.prog 41 3 (Zg4 Ze Zc types nc nr ns data a b c d e f g h r behind):=by
 obtain⟨hr,hn,hl,ha,hc⟩:=hq
 have hb4:u64.wrap ((4:Int)*u64.wrap (nc:Int))=u64.wrap ((4*nc:Nat):Int):=by
  rw[IntKind.wrap_u64,IntKind.wrap_u64,IntKind.wrap_u64]; omega
 obtain⟨at_,code,off,size,perms,typ⟩:=r
 have hall:∀ x:Bool,(Zg4 Ze Zc types nc nr ns data a b c d e f g h ⟨at_,x,off,size,perms,typ⟩ behind).args.all (okV (fun l=>Nat.blt l 67) 3)=true:=fun x=>by kernel_rfl
 have hw:∀ x,Vs types nc data.length ⟨at_,x,off,size,perms,typ⟩ behind=false→off+size≤16384:=fun x hx=>by
  unfold Vs at hx
  simp only[rr, tt, Bool.or_eq_false_iff,decide_eq_false_iff_not] at hx
  have h1:=hx.2.2.2.1
  have h2:Zca nc data.length x≤16384:=by unfold Zca; cases x<;>simp<;>omega
  omega
 have hO6:(6:Nat)<9000000000000000000:=by omega
 cases code
 ·have hd:=ZiN Ze Zc types nc nr ns data a b c d e f g h at_ off size perms typ behind
  have hk:=ZiO Ze Zc types nc nr ns data a b c d e f g h at_ off size perms typ behind
  have ho:=Vi types nc data.length false at_ off size perms typ data.length 155 behind hr hn hl rfl rfl
  rw[Zq,ho] at hd hk
  cases hb:Vs types nc data.length ⟨at_,false,off,size,perms,typ⟩ behind<;>rw[hb] at hd hk
  ·refine Jr hk (hall false) ?_ ?_ rfl rfl
   ·have:=Zeb c ⟨at_,false,off,size,perms,typ⟩ hc (hw _ hb)
    simp only[] at this
    rw[this]; simp only[rr, tt, Zy,hb,Bool.not_false,Bool.true_and,cond_false]
   ·refine⟨?_,?_⟩
    ·simp[hO6]
    ·simp only[rr, tt, IntKind.wrap_u64,IntKind.wrap_u32]
     refine⟨⟨by omega,by omega⟩,?_,trivial,trivial⟩
     simp
  ·refine Jr hd (hall false) ?_ ?_ rfl rfl
   ·simp only[rr, tt, Zy,hb,Bool.not_true,Bool.false_and]
   ·simp[hO6]
 ·have hd:=ZiP Ze Zc types nc nr ns data a b c d e f g h at_ off size perms typ behind
  have hk:=ZiQ Ze Zc types nc nr ns data a b c d e f g h at_ off size perms typ behind
  have ho:=Vi types nc data.length true at_ off size perms typ (4*nc) 133 behind hr hn hl rfl rfl
  rw[Zq,hb4,ho] at hd hk
  cases hb:Vs types nc data.length ⟨at_,true,off,size,perms,typ⟩ behind<;>rw[hb] at hd hk
  ·refine Jr hk (hall true) ?_ ?_ rfl rfl
   ·have:=Zeb a ⟨at_,true,off,size,perms,typ⟩ ha (hw _ hb)
    simp only[] at this
    rw[this]; simp only[rr, tt, Zy,hb,Bool.not_false,Bool.true_and,cond_true]
   ·refine⟨?_,?_⟩
    ·simp[hO6]
    ·simp only[rr, tt, IntKind.wrap_u64,IntKind.wrap_u32]
     refine⟨⟨by omega,by omega⟩,?_,trivial,trivial⟩
     simp
  ·refine Jr hd (hall true) ?_ ?_ rfl rfl
   ·simp only[rr, tt, Zy,hb,Bool.not_true,Bool.false_and]
   ·simp[hO6]
theorem Zm5 (Ze Zc types:Int) (nc nr ns:Nat) (data:List UInt8) (a b c d e f g h:Int) (rs:List Rl):evF Tryz.prog (ZH 3 YT) Zf 100 10 87 [YE Ze Zc types nc nr ns data,VS a b c d e f g h,.int .i64 0] ⟨67,[(65,⟨false,some (0,0),rels rs,none⟩)],[],0,(tb 16 65535),0,True⟩=some (Value.bool false,{ n:=70,h:=[(65,⟨false,some (0,0),rels rs,none⟩)],lo:=[],esc:=0,T:=[],k:=16,O:=((((((((((((((((bif Qc 6 (rels rs)&&Zs [Value.int .u32 0,.bool false,.int .u32 0,.int .u32 0,.int .u16 0,.int .u16 0] (rels rs) 0 then bif decide ((0:Int)<(↑nr:Int)) then True else False else False)∧((Zb (Zd undef (rels rs) 0)).tmod (16:Int) !=(0:Int))=true)∧((Zb (Zd undef (rels rs) 0)).tmod (16:Int) !=(0:Int))=true)∧((Zb (Zd undef (rels rs) 0)).tmod (16:Int) !=(0:Int))=true)∧((Zb (Zd undef (rels rs) 0)).tmod (16:Int) !=(0:Int))=true)∧((Zb (Zd undef (rels rs) 0)).tmod (16:Int) !=(0:Int))=true)∧tt)∧tt)∧tt)∧tt)∧tt)∧tt)∧tt)∧tt)∧tt)∧tt)∧true=true:St }):=by kernel_rfl
theorem Zm6 (Ze Zc types:Int) (nc nr ns:Nat) (data:List UInt8) (a b c d e f g h:Int) (rs:List Rl) (x:Int):evF Tryz.prog (ZH 3 YT) Zf 100 10 87 [YE Ze Zc types nc nr ns data,VS a b c d e f g h,.int .i64 x] ⟨67,[(65,⟨false,some (0,0),rels rs,none⟩)],[],0,(tb 16 65535),0,True⟩=some (Value.bool false,{ n:=70,h:=[(65,⟨false,some (0,0),rels rs,none⟩)],lo:=[],esc:=0,T:=[],k:=16,O:=((((((((((((((((bif Qc (0+x.toNat*6+6) (rels rs)&&Zs [Value.int .u32 0,.bool false,.int .u32 0,.int .u32 0,.int .u16 0,.int .u16 0] (rels rs) (0+x.toNat*6) then bif decide ((0:Int)≤x)&&decide (x<(↑nr:Int)) then True else False else False)∧((Zb (Zd undef (rels rs) (0+x.toNat*6))).tmod (16:Int) !=(0:Int))=true)∧((Zb (Zd undef (rels rs) (0+x.toNat*6))).tmod (16:Int) !=(0:Int))=true)∧((Zb (Zd undef (rels rs) (0+x.toNat*6))).tmod (16:Int) !=(0:Int))=true)∧((Zb (Zd undef (rels rs) (0+x.toNat*6))).tmod (16:Int) !=(0:Int))=true)∧((Zb (Zd undef (rels rs) (0+x.toNat*6))).tmod (16:Int) !=(0:Int))=true)∧tt)∧tt)∧tt)∧tt)∧tt)∧tt)∧tt)∧tt)∧tt)∧tt)∧true=true:St }):=by kernel_rfl
theorem Zm7 (Ze Zc types:Int) (nc nr ns:Nat) (data:List UInt8) (a b c d e f g h:Int) (rs:List Rl) (x:Int):evF Tryz.prog (ZH 3 YT) Zf 100 10 87 [YE Ze Zc types nc nr ns data,VS a b c d e f g h,.int .i64 x] ⟨67,[(65,⟨false,some (0,0),rels rs,none⟩)],[],0,(tb 27 134176760),0,True⟩=some (Value.bool false,{ n:=70,h:=[(65,⟨false,some (0,0),rels rs,none⟩)],lo:=[],esc:=0,T:=[],k:=27,O:=(((((((((((((((((bif Qc (0+(i64.wrap (x-(1:Int))).toNat*6+0+1) (rels rs)&&Zs [Value.int .u32 0] (rels rs) (0+(i64.wrap (x-(1:Int))).toNat*6+0) then((bif decide ((0:Int)≤i64.wrap (x-(1:Int)))&&decide (i64.wrap (x-(1:Int))<(↑nr:Int)) then((((((((bif Qc (0+x.toNat*6+6) (rels rs)&&Zs [Value.int .u32 0,.bool false,.int .u32 0,.int .u32 0,.int .u16 0,.int .u16 0] (rels rs) (0+x.toNat*6) then bif decide ((0:Int)≤x)&&decide (x<(↑nr:Int)) then True else False else False)∧((Zb (Zd undef (rels rs) (0+x.toNat*6))).tmod (16:Int) !=(0:Int))=false)∧((Zb (Zd undef (rels rs) (0+x.toNat*6))).tmod (16:Int) !=(0:Int))=false)∧((Zb (Zd undef (rels rs) (0+x.toNat*6))).tmod (16:Int) !=(0:Int))=false)∧decide (x>(0:Int))=true)∧decide (x>(0:Int))=true)∧decide (x>(0:Int))=true)∧decide (x>(0:Int))=true)∧decide (x>(0:Int))=true else False)∧decide (x>(0:Int))=true)∧decide (x>(0:Int))=true else False)∧decide (x>(0:Int))=true)∧decide (x>(0:Int))=true)∧decide (x>(0:Int))=true)∧((Zb (Zd undef (rels rs) (0+x.toNat*6))).tmod (16:Int) !=(0:Int))=false)∧decide (x>(0:Int))=true)∧((Zb (Zd undef (rels rs) (0+x.toNat*6))).tmod (16:Int) !=(0:Int))=false)∧decide (Zb (Zd undef (rels rs) (0+(i64.wrap (x-(1:Int))).toNat*6+0))≥Zb (Zd undef (rels rs) (0+x.toNat*6)))=true)∧decide (Zb (Zd undef (rels rs) (0+(i64.wrap (x-(1:Int))).toNat*6+0))≥Zb (Zd undef (rels rs) (0+x.toNat*6)))=true)∧decide (Zb (Zd undef (rels rs) (0+(i64.wrap (x-(1:Int))).toNat*6+0))≥Zb (Zd undef (rels rs) (0+x.toNat*6)))=true)∧decide (Zb (Zd undef (rels rs) (0+(i64.wrap (x-(1:Int))).toNat*6+0))≥Zb (Zd undef (rels rs) (0+x.toNat*6)))=true)∧decide (Zb (Zd undef (rels rs) (0+(i64.wrap (x-(1:Int))).toNat*6+0))≥Zb (Zd undef (rels rs) (0+x.toNat*6)))=true)∧decide (Zb (Zd undef (rels rs) (0+(i64.wrap (x-(1:Int))).toNat*6+0))≥Zb (Zd undef (rels rs) (0+x.toNat*6)))=true)∧decide (Zb (Zd undef (rels rs) (0+(i64.wrap (x-(1:Int))).toNat*6+0))≥Zb (Zd undef (rels rs) (0+x.toNat*6)))=true)∧decide (Zb (Zd undef (rels rs) (0+(i64.wrap (x-(1:Int))).toNat*6+0))≥Zb (Zd undef (rels rs) (0+x.toNat*6)))=true)∧decide (Zb (Zd undef (rels rs) (0+(i64.wrap (x-(1:Int))).toNat*6+0))≥Zb (Zd undef (rels rs) (0+x.toNat*6)))=true)∧decide (Zb (Zd undef (rels rs) (0+(i64.wrap (x-(1:Int))).toNat*6+0))≥Zb (Zd undef (rels rs) (0+x.toNat*6)))=true)∧true=true:St }):=by kernel_rfl
theorem Zm8 (Ze Zc types:Int) (nc nr ns:Nat) (data:List UInt8) (a b c d e f g h:Int) (rs:List Rl):evF Tryz.prog (ZH 3 YT) Zf 100 10 87 [YE Ze Zc types nc nr ns data,VS a b c d e f g h,.int .i64 0] ⟨67,[(65,⟨false,some (0,0),rels rs,none⟩)],[],0,(tb 27 67108864),0,True⟩=some (Value.bool false,{ n:=70,h:=[(65,⟨false,some (0,0),rels rs,none⟩)],lo:=[],esc:=0,T:=[],k:=27,O:=(((((((((((((((((((((((((((bif Qc 6 (rels rs)&&Zs [Value.int .u32 0,.bool false,.int .u32 0,.int .u32 0,.int .u16 0,.int .u16 0] (rels rs) 0 then bif decide ((0:Int)<(↑nr:Int)) then True else False else False)∧((Zb (Zd undef (rels rs) 0)).tmod (16:Int) !=(0:Int))=false)∧((Zb (Zd undef (rels rs) 0)).tmod (16:Int) !=(0:Int))=false)∧((Zb (Zd undef (rels rs) 0)).tmod (16:Int) !=(0:Int))=false)∧rr false)∧rr false)∧rr false)∧rr false)∧rr false)∧rr false)∧rr false)∧rr false)∧rr false)∧rr false)∧((Zb (Zd undef (rels rs) 0)).tmod (16:Int) !=(0:Int))=false)∧rr false)∧((Zb (Zd undef (rels rs) 0)).tmod (16:Int) !=(0:Int))=false)∧rr false)∧rr false)∧rr false)∧rr false)∧rr false)∧rr false)∧rr false)∧rr false)∧rr false)∧rr false)∧decide (u64.wrap (u64.wrap (Zb (Zd undef (rels rs) 0))+(16:Int))>u64.wrap (↑(Zr data)))=true:St }):=by kernel_rfl
theorem Zm9 (Ze Zc types:Int) (nc nr ns:Nat) (data:List UInt8) (a b c d e f g h:Int) (rs:List Rl) (x:Int):evF Tryz.prog (ZH 3 YT) Zf 100 10 87 [YE Ze Zc types nc nr ns data,VS a b c d e f g h,.int .i64 x] ⟨67,[(65,⟨false,some (0,0),rels rs,none⟩)],[],0,(tb 27 67133432),0,True⟩=some (Value.bool false,{ n:=70,h:=[(65,⟨false,some (0,0),rels rs,none⟩)],lo:=[],esc:=0,T:=[],k:=27,O:=(((((((((((((((((bif Qc (0+(i64.wrap (x-(1:Int))).toNat*6+0+1) (rels rs)&&Zs [Value.int .u32 0] (rels rs) (0+(i64.wrap (x-(1:Int))).toNat*6+0) then((bif decide ((0:Int)≤i64.wrap (x-(1:Int)))&&decide (i64.wrap (x-(1:Int))<(↑nr:Int)) then((((((((bif Qc (0+x.toNat*6+6) (rels rs)&&Zs [Value.int .u32 0,.bool false,.int .u32 0,.int .u32 0,.int .u16 0,.int .u16 0] (rels rs) (0+x.toNat*6) then bif decide ((0:Int)≤x)&&decide (x<(↑nr:Int)) then True else False else False)∧((Zb (Zd undef (rels rs) (0+x.toNat*6))).tmod (16:Int) !=(0:Int))=false)∧((Zb (Zd undef (rels rs) (0+x.toNat*6))).tmod (16:Int) !=(0:Int))=false)∧((Zb (Zd undef (rels rs) (0+x.toNat*6))).tmod (16:Int) !=(0:Int))=false)∧decide (x>(0:Int))=true)∧decide (x>(0:Int))=true)∧decide (x>(0:Int))=true)∧decide (x>(0:Int))=true)∧decide (x>(0:Int))=true else False)∧decide (x>(0:Int))=true)∧decide (x>(0:Int))=true else False)∧decide (x>(0:Int))=true)∧decide (x>(0:Int))=true)∧decide (x>(0:Int))=true)∧((Zb (Zd undef (rels rs) (0+x.toNat*6))).tmod (16:Int) !=(0:Int))=false)∧decide (x>(0:Int))=true)∧((Zb (Zd undef (rels rs) (0+x.toNat*6))).tmod (16:Int) !=(0:Int))=false)∧decide (Zb (Zd undef (rels rs) (0+(i64.wrap (x-(1:Int))).toNat*6+0))≥Zb (Zd undef (rels rs) (0+x.toNat*6)))=false)∧decide (Zb (Zd undef (rels rs) (0+(i64.wrap (x-(1:Int))).toNat*6+0))≥Zb (Zd undef (rels rs) (0+x.toNat*6)))=false)∧decide (Zb (Zd undef (rels rs) (0+(i64.wrap (x-(1:Int))).toNat*6+0))≥Zb (Zd undef (rels rs) (0+x.toNat*6)))=false)∧decide (Zb (Zd undef (rels rs) (0+(i64.wrap (x-(1:Int))).toNat*6+0))≥Zb (Zd undef (rels rs) (0+x.toNat*6)))=false)∧decide (Zb (Zd undef (rels rs) (0+(i64.wrap (x-(1:Int))).toNat*6+0))≥Zb (Zd undef (rels rs) (0+x.toNat*6)))=false)∧decide (Zb (Zd undef (rels rs) (0+(i64.wrap (x-(1:Int))).toNat*6+0))≥Zb (Zd undef (rels rs) (0+x.toNat*6)))=false)∧decide (Zb (Zd undef (rels rs) (0+(i64.wrap (x-(1:Int))).toNat*6+0))≥Zb (Zd undef (rels rs) (0+x.toNat*6)))=false)∧decide (Zb (Zd undef (rels rs) (0+(i64.wrap (x-(1:Int))).toNat*6+0))≥Zb (Zd undef (rels rs) (0+x.toNat*6)))=false)∧decide (Zb (Zd undef (rels rs) (0+(i64.wrap (x-(1:Int))).toNat*6+0))≥Zb (Zd undef (rels rs) (0+x.toNat*6)))=false)∧decide (Zb (Zd undef (rels rs) (0+(i64.wrap (x-(1:Int))).toNat*6+0))≥Zb (Zd undef (rels rs) (0+x.toNat*6)))=false)∧decide (u64.wrap (u64.wrap (Zb (Zd undef (rels rs) (0+x.toNat*6)))+(16:Int))>u64.wrap (↑(Zr data)))=true:St }):=by kernel_rfl
theorem Zna (Ze Zc types:Int) (nc nr ns:Nat) (data:List UInt8) (a b c d e f g h:Int) (rs:List Rl):evF Tryz.prog (ZH 3 YT) Zf 100 10 87 [YE Ze Zc types nc nr ns data,VS a b c d e f g h,.int .i64 0] ⟨67,[(65,⟨false,some (0,0),rels rs,none⟩)],[],0,(tb 42 4397778075648),0,True⟩=some (Value.bool false,{ n:=70,h:=[(65,⟨false,some (0,0),rels rs,none⟩)],lo:=[],esc:=0,T:=[],k:=42,O:=((((((((((((((((((((((((((((((((((((((((((bif Qc 6 (rels rs)&&Zs [Value.int .u32 0,.bool false,.int .u32 0,.int .u32 0,.int .u16 0,.int .u16 0] (rels rs) 0 then bif decide ((0:Int)<(↑nr:Int)) then True else False else False)∧((Zb (Zd undef (rels rs) 0)).tmod (16:Int) !=(0:Int))=false)∧((Zb (Zd undef (rels rs) 0)).tmod (16:Int) !=(0:Int))=false)∧((Zb (Zd undef (rels rs) 0)).tmod (16:Int) !=(0:Int))=false)∧rr false)∧rr false)∧rr false)∧rr false)∧rr false)∧rr false)∧rr false)∧rr false)∧rr false)∧rr false)∧((Zb (Zd undef (rels rs) 0)).tmod (16:Int) !=(0:Int))=false)∧rr false)∧((Zb (Zd undef (rels rs) 0)).tmod (16:Int) !=(0:Int))=false)∧rr false)∧rr false)∧rr false)∧rr false)∧rr false)∧rr false)∧rr false)∧rr false)∧rr false)∧rr false)∧decide (u64.wrap (u64.wrap (Zb (Zd undef (rels rs) 0))+(16:Int))>u64.wrap (↑(Zr data)))=false)∧Zw (Zd undef (rels rs) 1)=false)∧decide (u64.wrap (u64.wrap (Zb (Zd undef (rels rs) 2))+u64.wrap (Zb (Zd undef (rels rs) 3)))>u64.wrap (↑(Zr data)))=true)∧decide (u64.wrap (u64.wrap (Zb (Zd undef (rels rs) 2))+u64.wrap (Zb (Zd undef (rels rs) 3)))>u64.wrap (↑(Zr data)))=true)∧decide (u64.wrap (u64.wrap (Zb (Zd undef (rels rs) 2))+u64.wrap (Zb (Zd undef (rels rs) 3)))>u64.wrap (↑(Zr data)))=true)∧decide (u64.wrap (u64.wrap (Zb (Zd undef (rels rs) 2))+u64.wrap (Zb (Zd undef (rels rs) 3)))>u64.wrap (↑(Zr data)))=true)∧decide (u64.wrap (u64.wrap (Zb (Zd undef (rels rs) 2))+u64.wrap (Zb (Zd undef (rels rs) 3)))>u64.wrap (↑(Zr data)))=true)∧decide (u64.wrap (u64.wrap (Zb (Zd undef (rels rs) 2))+u64.wrap (Zb (Zd undef (rels rs) 3)))>u64.wrap (↑(Zr data)))=true)∧tt)∧tt)∧tt)∧tt)∧tt)∧tt)∧tt)∧true=true:St }):=by kernel_rfl
theorem Znb (Ze Zc types:Int) (nc nr ns:Nat) (data:List UInt8) (a b c d e f g h:Int) (rs:List Rl):evF Tryz.prog (ZH 3 YT) Zf 100 10 87 [YE Ze Zc types nc nr ns data,VS a b c d e f g h,.int .i64 0] ⟨67,[(65,⟨false,some (0,0),rels rs,none⟩)],[],0,(tb 42 4380866641920),0,True⟩=some (Value.bool false,{ n:=70,h:=[(65,⟨false,some (0,0),rels rs,none⟩)],lo:=[],esc:=0,T:=[],k:=42,O:=((((((((((((((((((((((((((((((((((((((((((bif Qc 6 (rels rs)&&Zs [Value.int .u32 0,.bool false,.int .u32 0,.int .u32 0,.int .u16 0,.int .u16 0] (rels rs) 0 then bif decide ((0:Int)<(↑nr:Int)) then True else False else False)∧((Zb (Zd undef (rels rs) 0)).tmod (16:Int) !=(0:Int))=false)∧((Zb (Zd undef (rels rs) 0)).tmod (16:Int) !=(0:Int))=false)∧((Zb (Zd undef (rels rs) 0)).tmod (16:Int) !=(0:Int))=false)∧rr false)∧rr false)∧rr false)∧rr false)∧rr false)∧rr false)∧rr false)∧rr false)∧rr false)∧rr false)∧((Zb (Zd undef (rels rs) 0)).tmod (16:Int) !=(0:Int))=false)∧rr false)∧((Zb (Zd undef (rels rs) 0)).tmod (16:Int) !=(0:Int))=false)∧rr false)∧rr false)∧rr false)∧rr false)∧rr false)∧rr false)∧rr false)∧rr false)∧rr false)∧rr false)∧decide (u64.wrap (u64.wrap (Zb (Zd undef (rels rs) 0))+(16:Int))>u64.wrap (↑(Zr data)))=false)∧Zw (Zd undef (rels rs) 1)=false)∧decide (u64.wrap (u64.wrap (Zb (Zd undef (rels rs) 2))+u64.wrap (Zb (Zd undef (rels rs) 3)))>u64.wrap (↑(Zr data)))=false)∧decide (u64.wrap (u64.wrap (Zb (Zd undef (rels rs) 2))+u64.wrap (Zb (Zd undef (rels rs) 3)))>u64.wrap (↑(Zr data)))=false)∧decide (u64.wrap (u64.wrap (Zb (Zd undef (rels rs) 2))+u64.wrap (Zb (Zd undef (rels rs) 3)))>u64.wrap (↑(Zr data)))=false)∧decide (u64.wrap (u64.wrap (Zb (Zd undef (rels rs) 2))+u64.wrap (Zb (Zd undef (rels rs) 3)))>u64.wrap (↑(Zr data)))=false)∧decide (u64.wrap (u64.wrap (Zb (Zd undef (rels rs) 2))+u64.wrap (Zb (Zd undef (rels rs) 3)))>u64.wrap (↑(Zr data)))=false)∧decide (u64.wrap (u64.wrap (Zb (Zd undef (rels rs) 2))+u64.wrap (Zb (Zd undef (rels rs) 3)))>u64.wrap (↑(Zr data)))=false)∧(bits BinOp.andNot u16 (Zb (Zd undef (rels rs) 4)) (155:Int) !=(0:Int))=true)∧(bits BinOp.andNot u16 (Zb (Zd undef (rels rs) 4)) (155:Int) !=(0:Int))=true)∧(bits BinOp.andNot u16 (Zb (Zd undef (rels rs) 4)) (155:Int) !=(0:Int))=true)∧(bits BinOp.andNot u16 (Zb (Zd undef (rels rs) 4)) (155:Int) !=(0:Int))=true)∧(bits BinOp.andNot u16 (Zb (Zd undef (rels rs) 4)) (155:Int) !=(0:Int))=true)∧(bits BinOp.andNot u16 (Zb (Zd undef (rels rs) 4)) (155:Int) !=(0:Int))=true)∧(bits BinOp.andNot u16 (Zb (Zd undef (rels rs) 4)) (155:Int) !=(0:Int))=true)∧true=true:St }):=by kernel_rfl
theorem Znc (Ze Zc types:Int) (nc nr ns:Nat) (data:List UInt8) (a b c d e f g h:Int) (rs:List Rl):evF Tryz.prog (ZH 3 YT) Zf 100 10 87 [YE Ze Zc types nc nr ns data,VS a b c d e f g h,.int .i64 0] ⟨67,[(65,⟨false,some (0,0),rels rs,none⟩)],[],0,(tb 42 2199023255552),0,True⟩=some (Value.bool false,{ n:=70,h:=[(65,⟨false,some (0,0),rels rs,none⟩)],lo:=[],esc:=0,T:=[],k:=42,O:=((((((((((((((((((((((((((((((((((((((((((bif Qc 6 (rels rs)&&Zs [Value.int .u32 0,.bool false,.int .u32 0,.int .u32 0,.int .u16 0,.int .u16 0] (rels rs) 0 then bif decide ((0:Int)<(↑nr:Int)) then True else False else False)∧((Zb (Zd undef (rels rs) 0)).tmod (16:Int) !=(0:Int))=false)∧((Zb (Zd undef (rels rs) 0)).tmod (16:Int) !=(0:Int))=false)∧((Zb (Zd undef (rels rs) 0)).tmod (16:Int) !=(0:Int))=false)∧rr false)∧rr false)∧rr false)∧rr false)∧rr false)∧rr false)∧rr false)∧rr false)∧rr false)∧rr false)∧((Zb (Zd undef (rels rs) 0)).tmod (16:Int) !=(0:Int))=false)∧rr false)∧((Zb (Zd undef (rels rs) 0)).tmod (16:Int) !=(0:Int))=false)∧rr false)∧rr false)∧rr false)∧rr false)∧rr false)∧rr false)∧rr false)∧rr false)∧rr false)∧rr false)∧decide (u64.wrap (u64.wrap (Zb (Zd undef (rels rs) 0))+(16:Int))>u64.wrap (↑(Zr data)))=false)∧Zw (Zd undef (rels rs) 1)=false)∧decide (u64.wrap (u64.wrap (Zb (Zd undef (rels rs) 2))+u64.wrap (Zb (Zd undef (rels rs) 3)))>u64.wrap (↑(Zr data)))=false)∧decide (u64.wrap (u64.wrap (Zb (Zd undef (rels rs) 2))+u64.wrap (Zb (Zd undef (rels rs) 3)))>u64.wrap (↑(Zr data)))=false)∧decide (u64.wrap (u64.wrap (Zb (Zd undef (rels rs) 2))+u64.wrap (Zb (Zd undef (rels rs) 3)))>u64.wrap (↑(Zr data)))=false)∧decide (u64.wrap (u64.wrap (Zb (Zd undef (rels rs) 2))+u64.wrap (Zb (Zd undef (rels rs) 3)))>u64.wrap (↑(Zr data)))=false)∧decide (u64.wrap (u64.wrap (Zb (Zd undef (rels rs) 2))+u64.wrap (Zb (Zd undef (rels rs) 3)))>u64.wrap (↑(Zr data)))=false)∧decide (u64.wrap (u64.wrap (Zb (Zd undef (rels rs) 2))+u64.wrap (Zb (Zd undef (rels rs) 3)))>u64.wrap (↑(Zr data)))=false)∧(bits BinOp.andNot u16 (Zb (Zd undef (rels rs) 4)) (155:Int) !=(0:Int))=false)∧(bits BinOp.andNot u16 (Zb (Zd undef (rels rs) 4)) (155:Int) !=(0:Int))=false)∧(bits BinOp.andNot u16 (Zb (Zd undef (rels rs) 4)) (155:Int) !=(0:Int))=false)∧(bits BinOp.andNot u16 (Zb (Zd undef (rels rs) 4)) (155:Int) !=(0:Int))=false)∧(bits BinOp.andNot u16 (Zb (Zd undef (rels rs) 4)) (155:Int) !=(0:Int))=false)∧(bits BinOp.andNot u16 (Zb (Zd undef (rels rs) 4)) (155:Int) !=(0:Int))=false)∧(bits BinOp.andNot u16 (Zb (Zd undef (rels rs) 4)) (155:Int) !=(0:Int))=false)∧decide (i64.wrap (Zb (Zd undef (rels rs) 5))>types)=true:St }):=by kernel_rfl
theorem Znd (Ze Zc types:Int) (nc nr ns:Nat) (data:List UInt8) (a b c d e f g h:Int) (rs:List Rl):evF Tryz.prog (ZH 3 YT) Zf 100 10 87 [YE Ze Zc types nc nr ns data,VS a b c d e f g h,.int .i64 0] ⟨67,[(65,⟨false,some (0,0),rels rs,none⟩)],[],0,(tb 44 13194139533312),0,True⟩=some (Value.bool (KA (u32.wrap (c+Zb (Zd undef (rels rs) 2))).toNat (u64.wrap (u64.wrap (u32.wrap (c+Zb (Zd undef (rels rs) 2)))+u64.wrap (Zb (Zd undef (rels rs) 3)))).toNat),{ n:=70,h:=[(65,⟨false,some (0,0),rels rs,none⟩)],lo:=[],esc:=0,T:=[],k:=44,O:=(((((((((((((((((((((((((((((((((((((((((((((bif Qc 6 (rels rs)&&Zs [Value.int .u32 0,.bool false,.int .u32 0,.int .u32 0,.int .u16 0,.int .u16 0] (rels rs) 0 then bif decide ((0:Int)<(↑nr:Int)) then True else False else False)∧((Zb (Zd undef (rels rs) 0)).tmod (16:Int) !=(0:Int))=false)∧((Zb (Zd undef (rels rs) 0)).tmod (16:Int) !=(0:Int))=false)∧((Zb (Zd undef (rels rs) 0)).tmod (16:Int) !=(0:Int))=false)∧rr false)∧rr false)∧rr false)∧rr false)∧rr false)∧rr false)∧rr false)∧rr false)∧rr false)∧rr false)∧((Zb (Zd undef (rels rs) 0)).tmod (16:Int) !=(0:Int))=false)∧rr false)∧((Zb (Zd undef (rels rs) 0)).tmod (16:Int) !=(0:Int))=false)∧rr false)∧rr false)∧rr false)∧rr false)∧rr false)∧rr false)∧rr false)∧rr false)∧rr false)∧rr false)∧decide (u64.wrap (u64.wrap (Zb (Zd undef (rels rs) 0))+(16:Int))>u64.wrap (↑(Zr data)))=false)∧Zw (Zd undef (rels rs) 1)=false)∧decide (u64.wrap (u64.wrap (Zb (Zd undef (rels rs) 2))+u64.wrap (Zb (Zd undef (rels rs) 3)))>u64.wrap (↑(Zr data)))=false)∧decide (u64.wrap (u64.wrap (Zb (Zd undef (rels rs) 2))+u64.wrap (Zb (Zd undef (rels rs) 3)))>u64.wrap (↑(Zr data)))=false)∧decide (u64.wrap (u64.wrap (Zb (Zd undef (rels rs) 2))+u64.wrap (Zb (Zd undef (rels rs) 3)))>u64.wrap (↑(Zr data)))=false)∧decide (u64.wrap (u64.wrap (Zb (Zd undef (rels rs) 2))+u64.wrap (Zb (Zd undef (rels rs) 3)))>u64.wrap (↑(Zr data)))=false)∧decide (u64.wrap (u64.wrap (Zb (Zd undef (rels rs) 2))+u64.wrap (Zb (Zd undef (rels rs) 3)))>u64.wrap (↑(Zr data)))=false)∧decide (u64.wrap (u64.wrap (Zb (Zd undef (rels rs) 2))+u64.wrap (Zb (Zd undef (rels rs) 3)))>u64.wrap (↑(Zr data)))=false)∧(bits BinOp.andNot u16 (Zb (Zd undef (rels rs) 4)) (155:Int) !=(0:Int))=false)∧(bits BinOp.andNot u16 (Zb (Zd undef (rels rs) 4)) (155:Int) !=(0:Int))=false)∧(bits BinOp.andNot u16 (Zb (Zd undef (rels rs) 4)) (155:Int) !=(0:Int))=false)∧(bits BinOp.andNot u16 (Zb (Zd undef (rels rs) 4)) (155:Int) !=(0:Int))=false)∧(bits BinOp.andNot u16 (Zb (Zd undef (rels rs) 4)) (155:Int) !=(0:Int))=false)∧(bits BinOp.andNot u16 (Zb (Zd undef (rels rs) 4)) (155:Int) !=(0:Int))=false)∧(bits BinOp.andNot u16 (Zb (Zd undef (rels rs) 4)) (155:Int) !=(0:Int))=false)∧decide (i64.wrap (Zb (Zd undef (rels rs) 5))>types)=false)∧(((0:Int)≤u32.wrap (c+Zb (Zd undef (rels rs) 2))∧u32.wrap (c+Zb (Zd undef (rels rs) 2))<(4294967296:Int))∧(0:Int)≤u64.wrap (u64.wrap (u32.wrap (c+Zb (Zd undef (rels rs) 2)))+u64.wrap (Zb (Zd undef (rels rs) 3)))∧u64.wrap (u64.wrap (u32.wrap (c+Zb (Zd undef (rels rs) 2)))+u64.wrap (Zb (Zd undef (rels rs) 3)))<(18446744073709551616:Int))∧(rr (Value.int .u32 (u32.wrap (c+Zb (Zd undef (rels rs) 2))))∧rr (Value.int .u64 (u64.wrap (u64.wrap (u32.wrap (c+Zb (Zd undef (rels rs) 2)))+u64.wrap (Zb (Zd undef (rels rs) 3)))))∧True)∧True∧True)∧Qg (u32.wrap (c+Zb (Zd undef (rels rs) 2))).toNat (u64.wrap (u64.wrap (u32.wrap (c+Zb (Zd undef (rels rs) 2)))+u64.wrap (Zb (Zd undef (rels rs) 3)))).toNat=true)∧Qg (u32.wrap (c+Zb (Zd undef (rels rs) 2))).toNat (u64.wrap (u64.wrap (u32.wrap (c+Zb (Zd undef (rels rs) 2)))+u64.wrap (Zb (Zd undef (rels rs) 3)))).toNat=true:St }):=by kernel_rfl
theorem Zne (Ze Zc types:Int) (nc nr ns:Nat) (data:List UInt8) (a b c d e f g h:Int) (rs:List Rl):evF Tryz.prog (ZH 3 YT) Zf 100 10 87 [YE Ze Zc types nc nr ns data,VS a b c d e f g h,.int .i64 0] ⟨67,[(65,⟨false,some (0,0),rels rs,none⟩)],[],0,(tb 42 4397912293376),0,True⟩=some (Value.bool false,{ n:=70,h:=[(65,⟨false,some (0,0),rels rs,none⟩)],lo:=[],esc:=0,T:=[],k:=42,O:=((((((((((((((((((((((((((((((((((((((((((bif Qc 6 (rels rs)&&Zs [Value.int .u32 0,.bool false,.int .u32 0,.int .u32 0,.int .u16 0,.int .u16 0] (rels rs) 0 then bif decide ((0:Int)<(↑nr:Int)) then True else False else False)∧((Zb (Zd undef (rels rs) 0)).tmod (16:Int) !=(0:Int))=false)∧((Zb (Zd undef (rels rs) 0)).tmod (16:Int) !=(0:Int))=false)∧((Zb (Zd undef (rels rs) 0)).tmod (16:Int) !=(0:Int))=false)∧rr false)∧rr false)∧rr false)∧rr false)∧rr false)∧rr false)∧rr false)∧rr false)∧rr false)∧rr false)∧((Zb (Zd undef (rels rs) 0)).tmod (16:Int) !=(0:Int))=false)∧rr false)∧((Zb (Zd undef (rels rs) 0)).tmod (16:Int) !=(0:Int))=false)∧rr false)∧rr false)∧rr false)∧rr false)∧rr false)∧rr false)∧rr false)∧rr false)∧rr false)∧rr false)∧decide (u64.wrap (u64.wrap (Zb (Zd undef (rels rs) 0))+(16:Int))>u64.wrap (↑(Zr data)))=false)∧Zw (Zd undef (rels rs) 1)=true)∧decide (u64.wrap (u64.wrap (Zb (Zd undef (rels rs) 2))+u64.wrap (Zb (Zd undef (rels rs) 3)))>u64.wrap ((4:Int)*u64.wrap (↑nc)))=true)∧decide (u64.wrap (u64.wrap (Zb (Zd undef (rels rs) 2))+u64.wrap (Zb (Zd undef (rels rs) 3)))>u64.wrap ((4:Int)*u64.wrap (↑nc)))=true)∧decide (u64.wrap (u64.wrap (Zb (Zd undef (rels rs) 2))+u64.wrap (Zb (Zd undef (rels rs) 3)))>u64.wrap ((4:Int)*u64.wrap (↑nc)))=true)∧decide (u64.wrap (u64.wrap (Zb (Zd undef (rels rs) 2))+u64.wrap (Zb (Zd undef (rels rs) 3)))>u64.wrap ((4:Int)*u64.wrap (↑nc)))=true)∧decide (u64.wrap (u64.wrap (Zb (Zd undef (rels rs) 2))+u64.wrap (Zb (Zd undef (rels rs) 3)))>u64.wrap ((4:Int)*u64.wrap (↑nc)))=true)∧decide (u64.wrap (u64.wrap (Zb (Zd undef (rels rs) 2))+u64.wrap (Zb (Zd undef (rels rs) 3)))>u64.wrap ((4:Int)*u64.wrap (↑nc)))=true)∧tt)∧tt)∧tt)∧tt)∧tt)∧tt)∧tt)∧true=true:St }):=by kernel_rfl
theorem Znf (Ze Zc types:Int) (nc nr ns:Nat) (data:List UInt8) (a b c d e f g h:Int) (rs:List Rl):evF Tryz.prog (ZH 3 YT) Zf 100 10 87 [YE Ze Zc types nc nr ns data,VS a b c d e f g h,.int .i64 0] ⟨67,[(65,⟨false,some (0,0),rels rs,none⟩)],[],0,(tb 42 4381000859648),0,True⟩=some (Value.bool false,{ n:=70,h:=[(65,⟨false,some (0,0),rels rs,none⟩)],lo:=[],esc:=0,T:=[],k:=42,O:=((((((((((((((((((((((((((((((((((((((((((bif Qc 6 (rels rs)&&Zs [Value.int .u32 0,.bool false,.int .u32 0,.int .u32 0,.int .u16 0,.int .u16 0] (rels rs) 0 then bif decide ((0:Int)<(↑nr:Int)) then True else False else False)∧((Zb (Zd undef (rels rs) 0)).tmod (16:Int) !=(0:Int))=false)∧((Zb (Zd undef (rels rs) 0)).tmod (16:Int) !=(0:Int))=false)∧((Zb (Zd undef (rels rs) 0)).tmod (16:Int) !=(0:Int))=false)∧rr false)∧rr false)∧rr false)∧rr false)∧rr false)∧rr false)∧rr false)∧rr false)∧rr false)∧rr false)∧((Zb (Zd undef (rels rs) 0)).tmod (16:Int) !=(0:Int))=false)∧rr false)∧((Zb (Zd undef (rels rs) 0)).tmod (16:Int) !=(0:Int))=false)∧rr false)∧rr false)∧rr false)∧rr false)∧rr false)∧rr false)∧rr false)∧rr false)∧rr false)∧rr false)∧decide (u64.wrap (u64.wrap (Zb (Zd undef (rels rs) 0))+(16:Int))>u64.wrap (↑(Zr data)))=false)∧Zw (Zd undef (rels rs) 1)=true)∧decide (u64.wrap (u64.wrap (Zb (Zd undef (rels rs) 2))+u64.wrap (Zb (Zd undef (rels rs) 3)))>u64.wrap ((4:Int)*u64.wrap (↑nc)))=false)∧decide (u64.wrap (u64.wrap (Zb (Zd undef (rels rs) 2))+u64.wrap (Zb (Zd undef (rels rs) 3)))>u64.wrap ((4:Int)*u64.wrap (↑nc)))=false)∧decide (u64.wrap (u64.wrap (Zb (Zd undef (rels rs) 2))+u64.wrap (Zb (Zd undef (rels rs) 3)))>u64.wrap ((4:Int)*u64.wrap (↑nc)))=false)∧decide (u64.wrap (u64.wrap (Zb (Zd undef (rels rs) 2))+u64.wrap (Zb (Zd undef (rels rs) 3)))>u64.wrap ((4:Int)*u64.wrap (↑nc)))=false)∧decide (u64.wrap (u64.wrap (Zb (Zd undef (rels rs) 2))+u64.wrap (Zb (Zd undef (rels rs) 3)))>u64.wrap ((4:Int)*u64.wrap (↑nc)))=false)∧decide (u64.wrap (u64.wrap (Zb (Zd undef (rels rs) 2))+u64.wrap (Zb (Zd undef (rels rs) 3)))>u64.wrap ((4:Int)*u64.wrap (↑nc)))=false)∧(bits BinOp.andNot u16 (Zb (Zd undef (rels rs) 4)) (133:Int) !=(0:Int))=true)∧(bits BinOp.andNot u16 (Zb (Zd undef (rels rs) 4)) (133:Int) !=(0:Int))=true)∧(bits BinOp.andNot u16 (Zb (Zd undef (rels rs) 4)) (133:Int) !=(0:Int))=true)∧(bits BinOp.andNot u16 (Zb (Zd undef (rels rs) 4)) (133:Int) !=(0:Int))=true)∧(bits BinOp.andNot u16 (Zb (Zd undef (rels rs) 4)) (133:Int) !=(0:Int))=true)∧(bits BinOp.andNot u16 (Zb (Zd undef (rels rs) 4)) (133:Int) !=(0:Int))=true)∧(bits BinOp.andNot u16 (Zb (Zd undef (rels rs) 4)) (133:Int) !=(0:Int))=true)∧true=true:St }):=by kernel_rfl
theorem Zng (Ze Zc types:Int) (nc nr ns:Nat) (data:List UInt8) (a b c d e f g h:Int) (rs:List Rl):evF Tryz.prog (ZH 3 YT) Zf 100 10 87 [YE Ze Zc types nc nr ns data,VS a b c d e f g h,.int .i64 0] ⟨67,[(65,⟨false,some (0,0),rels rs,none⟩)],[],0,(tb 42 2199157473280),0,True⟩=some (Value.bool false,{ n:=70,h:=[(65,⟨false,some (0,0),rels rs,none⟩)],lo:=[],esc:=0,T:=[],k:=42,O:=((((((((((((((((((((((((((((((((((((((((((bif Qc 6 (rels rs)&&Zs [Value.int .u32 0,.bool false,.int .u32 0,.int .u32 0,.int .u16 0,.int .u16 0] (rels rs) 0 then bif decide ((0:Int)<(↑nr:Int)) then True else False else False)∧((Zb (Zd undef (rels rs) 0)).tmod (16:Int) !=(0:Int))=false)∧((Zb (Zd undef (rels rs) 0)).tmod (16:Int) !=(0:Int))=false)∧((Zb (Zd undef (rels rs) 0)).tmod (16:Int) !=(0:Int))=false)∧rr false)∧rr false)∧rr false)∧rr false)∧rr false)∧rr false)∧rr false)∧rr false)∧rr false)∧rr false)∧((Zb (Zd undef (rels rs) 0)).tmod (16:Int) !=(0:Int))=false)∧rr false)∧((Zb (Zd undef (rels rs) 0)).tmod (16:Int) !=(0:Int))=false)∧rr false)∧rr false)∧rr false)∧rr false)∧rr false)∧rr false)∧rr false)∧rr false)∧rr false)∧rr false)∧decide (u64.wrap (u64.wrap (Zb (Zd undef (rels rs) 0))+(16:Int))>u64.wrap (↑(Zr data)))=false)∧Zw (Zd undef (rels rs) 1)=true)∧decide (u64.wrap (u64.wrap (Zb (Zd undef (rels rs) 2))+u64.wrap (Zb (Zd undef (rels rs) 3)))>u64.wrap ((4:Int)*u64.wrap (↑nc)))=false)∧decide (u64.wrap (u64.wrap (Zb (Zd undef (rels rs) 2))+u64.wrap (Zb (Zd undef (rels rs) 3)))>u64.wrap ((4:Int)*u64.wrap (↑nc)))=false)∧decide (u64.wrap (u64.wrap (Zb (Zd undef (rels rs) 2))+u64.wrap (Zb (Zd undef (rels rs) 3)))>u64.wrap ((4:Int)*u64.wrap (↑nc)))=false)∧decide (u64.wrap (u64.wrap (Zb (Zd undef (rels rs) 2))+u64.wrap (Zb (Zd undef (rels rs) 3)))>u64.wrap ((4:Int)*u64.wrap (↑nc)))=false)∧decide (u64.wrap (u64.wrap (Zb (Zd undef (rels rs) 2))+u64.wrap (Zb (Zd undef (rels rs) 3)))>u64.wrap ((4:Int)*u64.wrap (↑nc)))=false)∧decide (u64.wrap (u64.wrap (Zb (Zd undef (rels rs) 2))+u64.wrap (Zb (Zd undef (rels rs) 3)))>u64.wrap ((4:Int)*u64.wrap (↑nc)))=false)∧(bits BinOp.andNot u16 (Zb (Zd undef (rels rs) 4)) (133:Int) !=(0:Int))=false)∧(bits BinOp.andNot u16 (Zb (Zd undef (rels rs) 4)) (133:Int) !=(0:Int))=false)∧(bits BinOp.andNot u16 (Zb (Zd undef (rels rs) 4)) (133:Int) !=(0:Int))=false)∧(bits BinOp.andNot u16 (Zb (Zd undef (rels rs) 4)) (133:Int) !=(0:Int))=false)∧(bits BinOp.andNot u16 (Zb (Zd undef (rels rs) 4)) (133:Int) !=(0:Int))=false)∧(bits BinOp.andNot u16 (Zb (Zd undef (rels rs) 4)) (133:Int) !=(0:Int))=false)∧(bits BinOp.andNot u16 (Zb (Zd undef (rels rs) 4)) (133:Int) !=(0:Int))=false)∧decide (i64.wrap (Zb (Zd undef (rels rs) 5))>types)=true:St }):=by kernel_rfl
theorem Znh (Ze Zc types:Int) (nc nr ns:Nat) (data:List UInt8) (a b c d e f g h:Int) (rs:List Rl):evF Tryz.prog (ZH 3 YT) Zf 100 10 87 [YE Ze Zc types nc nr ns data,VS a b c d e f g h,.int .i64 0] ⟨67,[(65,⟨false,some (0,0),rels rs,none⟩)],[],0,(tb 44 13194273751040),0,True⟩=some (Value.bool (KA (u32.wrap (a+Zb (Zd undef (rels rs) 2))).toNat (u64.wrap (u64.wrap (u32.wrap (a+Zb (Zd undef (rels rs) 2)))+u64.wrap (Zb (Zd undef (rels rs) 3)))).toNat),{ n:=70,h:=[(65,⟨false,some (0,0),rels rs,none⟩)],lo:=[],esc:=0,T:=[],k:=44,O:=(((((((((((((((((((((((((((((((((((((((((((((bif Qc 6 (rels rs)&&Zs [Value.int .u32 0,.bool false,.int .u32 0,.int .u32 0,.int .u16 0,.int .u16 0] (rels rs) 0 then bif decide ((0:Int)<(↑nr:Int)) then True else False else False)∧((Zb (Zd undef (rels rs) 0)).tmod (16:Int) !=(0:Int))=false)∧((Zb (Zd undef (rels rs) 0)).tmod (16:Int) !=(0:Int))=false)∧((Zb (Zd undef (rels rs) 0)).tmod (16:Int) !=(0:Int))=false)∧rr false)∧rr false)∧rr false)∧rr false)∧rr false)∧rr false)∧rr false)∧rr false)∧rr false)∧rr false)∧((Zb (Zd undef (rels rs) 0)).tmod (16:Int) !=(0:Int))=false)∧rr false)∧((Zb (Zd undef (rels rs) 0)).tmod (16:Int) !=(0:Int))=false)∧rr false)∧rr false)∧rr false)∧rr false)∧rr false)∧rr false)∧rr false)∧rr false)∧rr false)∧rr false)∧decide (u64.wrap (u64.wrap (Zb (Zd undef (rels rs) 0))+(16:Int))>u64.wrap (↑(Zr data)))=false)∧Zw (Zd undef (rels rs) 1)=true)∧decide (u64.wrap (u64.wrap (Zb (Zd undef (rels rs) 2))+u64.wrap (Zb (Zd undef (rels rs) 3)))>u64.wrap ((4:Int)*u64.wrap (↑nc)))=false)∧decide (u64.wrap (u64.wrap (Zb (Zd undef (rels rs) 2))+u64.wrap (Zb (Zd undef (rels rs) 3)))>u64.wrap ((4:Int)*u64.wrap (↑nc)))=false)∧decide (u64.wrap (u64.wrap (Zb (Zd undef (rels rs) 2))+u64.wrap (Zb (Zd undef (rels rs) 3)))>u64.wrap ((4:Int)*u64.wrap (↑nc)))=false)∧decide (u64.wrap (u64.wrap (Zb (Zd undef (rels rs) 2))+u64.wrap (Zb (Zd undef (rels rs) 3)))>u64.wrap ((4:Int)*u64.wrap (↑nc)))=false)∧decide (u64.wrap (u64.wrap (Zb (Zd undef (rels rs) 2))+u64.wrap (Zb (Zd undef (rels rs) 3)))>u64.wrap ((4:Int)*u64.wrap (↑nc)))=false)∧decide (u64.wrap (u64.wrap (Zb (Zd undef (rels rs) 2))+u64.wrap (Zb (Zd undef (rels rs) 3)))>u64.wrap ((4:Int)*u64.wrap (↑nc)))=false)∧(bits BinOp.andNot u16 (Zb (Zd undef (rels rs) 4)) (133:Int) !=(0:Int))=false)∧(bits BinOp.andNot u16 (Zb (Zd undef (rels rs) 4)) (133:Int) !=(0:Int))=false)∧(bits BinOp.andNot u16 (Zb (Zd undef (rels rs) 4)) (133:Int) !=(0:Int))=false)∧(bits BinOp.andNot u16 (Zb (Zd undef (rels rs) 4)) (133:Int) !=(0:Int))=false)∧(bits BinOp.andNot u16 (Zb (Zd undef (rels rs) 4)) (133:Int) !=(0:Int))=false)∧(bits BinOp.andNot u16 (Zb (Zd undef (rels rs) 4)) (133:Int) !=(0:Int))=false)∧(bits BinOp.andNot u16 (Zb (Zd undef (rels rs) 4)) (133:Int) !=(0:Int))=false)∧decide (i64.wrap (Zb (Zd undef (rels rs) 5))>types)=false)∧(((0:Int)≤u32.wrap (a+Zb (Zd undef (rels rs) 2))∧u32.wrap (a+Zb (Zd undef (rels rs) 2))<(4294967296:Int))∧(0:Int)≤u64.wrap (u64.wrap (u32.wrap (a+Zb (Zd undef (rels rs) 2)))+u64.wrap (Zb (Zd undef (rels rs) 3)))∧u64.wrap (u64.wrap (u32.wrap (a+Zb (Zd undef (rels rs) 2)))+u64.wrap (Zb (Zd undef (rels rs) 3)))<(18446744073709551616:Int))∧(rr (Value.int .u32 (u32.wrap (a+Zb (Zd undef (rels rs) 2))))∧rr (Value.int .u64 (u64.wrap (u64.wrap (u32.wrap (a+Zb (Zd undef (rels rs) 2)))+u64.wrap (Zb (Zd undef (rels rs) 3)))))∧True)∧True∧True)∧Qg (u32.wrap (a+Zb (Zd undef (rels rs) 2))).toNat (u64.wrap (u64.wrap (u32.wrap (a+Zb (Zd undef (rels rs) 2)))+u64.wrap (Zb (Zd undef (rels rs) 3)))).toNat=true)∧Qg (u32.wrap (a+Zb (Zd undef (rels rs) 2))).toNat (u64.wrap (u64.wrap (u32.wrap (a+Zb (Zd undef (rels rs) 2)))+u64.wrap (Zb (Zd undef (rels rs) 3)))).toNat=true:St }):=by kernel_rfl
theorem Zni (Ze Zc types:Int) (nc nr ns:Nat) (data:List UInt8) (a b c d e f g h:Int) (rs:List Rl) (x:Int):evF Tryz.prog (ZH 3 YT) Zf 100 10 87 [YE Ze Zc types nc nr ns data,VS a b c d e f g h,.int .i64 x] ⟨67,[(65,⟨false,some (0,0),rels rs,none⟩)],[],0,(tb 42 4397778100216),0,True⟩=some (Value.bool false,{ n:=70,h:=[(65,⟨false,some (0,0),rels rs,none⟩)],lo:=[],esc:=0,T:=[],k:=42,O:=((((((((((((((((((((((((((((((((bif Qc (0+(i64.wrap (x-(1:Int))).toNat*6+0+1) (rels rs)&&Zs [Value.int .u32 0] (rels rs) (0+(i64.wrap (x-(1:Int))).toNat*6+0) then((bif decide ((0:Int)≤i64.wrap (x-(1:Int)))&&decide (i64.wrap (x-(1:Int))<(↑nr:Int)) then((((((((bif Qc (0+x.toNat*6+6) (rels rs)&&Zs [Value.int .u32 0,.bool false,.int .u32 0,.int .u32 0,.int .u16 0,.int .u16 0] (rels rs) (0+x.toNat*6) then bif decide ((0:Int)≤x)&&decide (x<(↑nr:Int)) then True else False else False)∧((Zb (Zd undef (rels rs) (0+x.toNat*6))).tmod (16:Int) !=(0:Int))=false)∧((Zb (Zd undef (rels rs) (0+x.toNat*6))).tmod (16:Int) !=(0:Int))=false)∧((Zb (Zd undef (rels rs) (0+x.toNat*6))).tmod (16:Int) !=(0:Int))=false)∧decide (x>(0:Int))=true)∧decide (x>(0:Int))=true)∧decide (x>(0:Int))=true)∧decide (x>(0:Int))=true)∧decide (x>(0:Int))=true else False)∧decide (x>(0:Int))=true)∧decide (x>(0:Int))=true else False)∧decide (x>(0:Int))=true)∧decide (x>(0:Int))=true)∧decide (x>(0:Int))=true)∧((Zb (Zd undef (rels rs) (0+x.toNat*6))).tmod (16:Int) !=(0:Int))=false)∧decide (x>(0:Int))=true)∧((Zb (Zd undef (rels rs) (0+x.toNat*6))).tmod (16:Int) !=(0:Int))=false)∧decide (Zb (Zd undef (rels rs) (0+(i64.wrap (x-(1:Int))).toNat*6+0))≥Zb (Zd undef (rels rs) (0+x.toNat*6)))=false)∧decide (Zb (Zd undef (rels rs) (0+(i64.wrap (x-(1:Int))).toNat*6+0))≥Zb (Zd undef (rels rs) (0+x.toNat*6)))=false)∧decide (Zb (Zd undef (rels rs) (0+(i64.wrap (x-(1:Int))).toNat*6+0))≥Zb (Zd undef (rels rs) (0+x.toNat*6)))=false)∧decide (Zb (Zd undef (rels rs) (0+(i64.wrap (x-(1:Int))).toNat*6+0))≥Zb (Zd undef (rels rs) (0+x.toNat*6)))=false)∧decide (Zb (Zd undef (rels rs) (0+(i64.wrap (x-(1:Int))).toNat*6+0))≥Zb (Zd undef (rels rs) (0+x.toNat*6)))=false)∧decide (Zb (Zd undef (rels rs) (0+(i64.wrap (x-(1:Int))).toNat*6+0))≥Zb (Zd undef (rels rs) (0+x.toNat*6)))=false)∧decide (Zb (Zd undef (rels rs) (0+(i64.wrap (x-(1:Int))).toNat*6+0))≥Zb (Zd undef (rels rs) (0+x.toNat*6)))=false)∧decide (Zb (Zd undef (rels rs) (0+(i64.wrap (x-(1:Int))).toNat*6+0))≥Zb (Zd undef (rels rs) (0+x.toNat*6)))=false)∧decide (Zb (Zd undef (rels rs) (0+(i64.wrap (x-(1:Int))).toNat*6+0))≥Zb (Zd undef (rels rs) (0+x.toNat*6)))=false)∧decide (Zb (Zd undef (rels rs) (0+(i64.wrap (x-(1:Int))).toNat*6+0))≥Zb (Zd undef (rels rs) (0+x.toNat*6)))=false)∧decide (u64.wrap (u64.wrap (Zb (Zd undef (rels rs) (0+x.toNat*6)))+(16:Int))>u64.wrap (↑(Zr data)))=false)∧Zw (Zd undef (rels rs) (0+x.toNat*6+1))=false)∧decide (u64.wrap (u64.wrap (Zb (Zd undef (rels rs) (0+x.toNat*6+1+1)))+u64.wrap (Zb (Zd undef (rels rs) (0+x.toNat*6+1+1+1))))>u64.wrap (↑(Zr data)))=true)∧decide (u64.wrap (u64.wrap (Zb (Zd undef (rels rs) (0+x.toNat*6+1+1)))+u64.wrap (Zb (Zd undef (rels rs) (0+x.toNat*6+1+1+1))))>u64.wrap (↑(Zr data)))=true)∧decide (u64.wrap (u64.wrap (Zb (Zd undef (rels rs) (0+x.toNat*6+1+1)))+u64.wrap (Zb (Zd undef (rels rs) (0+x.toNat*6+1+1+1))))>u64.wrap (↑(Zr data)))=true)∧decide (u64.wrap (u64.wrap (Zb (Zd undef (rels rs) (0+x.toNat*6+1+1)))+u64.wrap (Zb (Zd undef (rels rs) (0+x.toNat*6+1+1+1))))>u64.wrap (↑(Zr data)))=true)∧decide (u64.wrap (u64.wrap (Zb (Zd undef (rels rs) (0+x.toNat*6+1+1)))+u64.wrap (Zb (Zd undef (rels rs) (0+x.toNat*6+1+1+1))))>u64.wrap (↑(Zr data)))=true)∧decide (u64.wrap (u64.wrap (Zb (Zd undef (rels rs) (0+x.toNat*6+1+1)))+u64.wrap (Zb (Zd undef (rels rs) (0+x.toNat*6+1+1+1))))>u64.wrap (↑(Zr data)))=true)∧tt)∧tt)∧tt)∧tt)∧tt)∧tt)∧tt)∧true=true:St }):=by kernel_rfl
theorem Znj (Ze Zc types:Int) (nc nr ns:Nat) (data:List UInt8) (a b c d e f g h:Int) (rs:List Rl) (x:Int):evF Tryz.prog (ZH 3 YT) Zf 100 10 87 [YE Ze Zc types nc nr ns data,VS a b c d e f g h,.int .i64 x] ⟨67,[(65,⟨false,some (0,0),rels rs,none⟩)],[],0,(tb 42 4380866666488),0,True⟩=some (Value.bool false,{ n:=70,h:=[(65,⟨false,some (0,0),rels rs,none⟩)],lo:=[],esc:=0,T:=[],k:=42,O:=((((((((((((((((((((((((((((((((bif Qc (0+(i64.wrap (x-(1:Int))).toNat*6+0+1) (rels rs)&&Zs [Value.int .u32 0] (rels rs) (0+(i64.wrap (x-(1:Int))).toNat*6+0) then((bif decide ((0:Int)≤i64.wrap (x-(1:Int)))&&decide (i64.wrap (x-(1:Int))<(↑nr:Int)) then((((((((bif Qc (0+x.toNat*6+6) (rels rs)&&Zs [Value.int .u32 0,.bool false,.int .u32 0,.int .u32 0,.int .u16 0,.int .u16 0] (rels rs) (0+x.toNat*6) then bif decide ((0:Int)≤x)&&decide (x<(↑nr:Int)) then True else False else False)∧((Zb (Zd undef (rels rs) (0+x.toNat*6))).tmod (16:Int) !=(0:Int))=false)∧((Zb (Zd undef (rels rs) (0+x.toNat*6))).tmod (16:Int) !=(0:Int))=false)∧((Zb (Zd undef (rels rs) (0+x.toNat*6))).tmod (16:Int) !=(0:Int))=false)∧decide (x>(0:Int))=true)∧decide (x>(0:Int))=true)∧decide (x>(0:Int))=true)∧decide (x>(0:Int))=true)∧decide (x>(0:Int))=true else False)∧decide (x>(0:Int))=true)∧decide (x>(0:Int))=true else False)∧decide (x>(0:Int))=true)∧decide (x>(0:Int))=true)∧decide (x>(0:Int))=true)∧((Zb (Zd undef (rels rs) (0+x.toNat*6))).tmod (16:Int) !=(0:Int))=false)∧decide (x>(0:Int))=true)∧((Zb (Zd undef (rels rs) (0+x.toNat*6))).tmod (16:Int) !=(0:Int))=false)∧decide (Zb (Zd undef (rels rs) (0+(i64.wrap (x-(1:Int))).toNat*6+0))≥Zb (Zd undef (rels rs) (0+x.toNat*6)))=false)∧decide (Zb (Zd undef (rels rs) (0+(i64.wrap (x-(1:Int))).toNat*6+0))≥Zb (Zd undef (rels rs) (0+x.toNat*6)))=false)∧decide (Zb (Zd undef (rels rs) (0+(i64.wrap (x-(1:Int))).toNat*6+0))≥Zb (Zd undef (rels rs) (0+x.toNat*6)))=false)∧decide (Zb (Zd undef (rels rs) (0+(i64.wrap (x-(1:Int))).toNat*6+0))≥Zb (Zd undef (rels rs) (0+x.toNat*6)))=false)∧decide (Zb (Zd undef (rels rs) (0+(i64.wrap (x-(1:Int))).toNat*6+0))≥Zb (Zd undef (rels rs) (0+x.toNat*6)))=false)∧decide (Zb (Zd undef (rels rs) (0+(i64.wrap (x-(1:Int))).toNat*6+0))≥Zb (Zd undef (rels rs) (0+x.toNat*6)))=false)∧decide (Zb (Zd undef (rels rs) (0+(i64.wrap (x-(1:Int))).toNat*6+0))≥Zb (Zd undef (rels rs) (0+x.toNat*6)))=false)∧decide (Zb (Zd undef (rels rs) (0+(i64.wrap (x-(1:Int))).toNat*6+0))≥Zb (Zd undef (rels rs) (0+x.toNat*6)))=false)∧decide (Zb (Zd undef (rels rs) (0+(i64.wrap (x-(1:Int))).toNat*6+0))≥Zb (Zd undef (rels rs) (0+x.toNat*6)))=false)∧decide (Zb (Zd undef (rels rs) (0+(i64.wrap (x-(1:Int))).toNat*6+0))≥Zb (Zd undef (rels rs) (0+x.toNat*6)))=false)∧decide (u64.wrap (u64.wrap (Zb (Zd undef (rels rs) (0+x.toNat*6)))+(16:Int))>u64.wrap (↑(Zr data)))=false)∧Zw (Zd undef (rels rs) (0+x.toNat*6+1))=false)∧decide (u64.wrap (u64.wrap (Zb (Zd undef (rels rs) (0+x.toNat*6+1+1)))+u64.wrap (Zb (Zd undef (rels rs) (0+x.toNat*6+1+1+1))))>u64.wrap (↑(Zr data)))=false)∧decide (u64.wrap (u64.wrap (Zb (Zd undef (rels rs) (0+x.toNat*6+1+1)))+u64.wrap (Zb (Zd undef (rels rs) (0+x.toNat*6+1+1+1))))>u64.wrap (↑(Zr data)))=false)∧decide (u64.wrap (u64.wrap (Zb (Zd undef (rels rs) (0+x.toNat*6+1+1)))+u64.wrap (Zb (Zd undef (rels rs) (0+x.toNat*6+1+1+1))))>u64.wrap (↑(Zr data)))=false)∧decide (u64.wrap (u64.wrap (Zb (Zd undef (rels rs) (0+x.toNat*6+1+1)))+u64.wrap (Zb (Zd undef (rels rs) (0+x.toNat*6+1+1+1))))>u64.wrap (↑(Zr data)))=false)∧decide (u64.wrap (u64.wrap (Zb (Zd undef (rels rs) (0+x.toNat*6+1+1)))+u64.wrap (Zb (Zd undef (rels rs) (0+x.toNat*6+1+1+1))))>u64.wrap (↑(Zr data)))=false)∧decide (u64.wrap (u64.wrap (Zb (Zd undef (rels rs) (0+x.toNat*6+1+1)))+u64.wrap (Zb (Zd undef (rels rs) (0+x.toNat*6+1+1+1))))>u64.wrap (↑(Zr data)))=false)∧(bits BinOp.andNot u16 (Zb (Zd undef (rels rs) (0+x.toNat*6+1+1+1+1))) (155:Int) !=(0:Int))=true)∧(bits BinOp.andNot u16 (Zb (Zd undef (rels rs) (0+x.toNat*6+1+1+1+1))) (155:Int) !=(0:Int))=true)∧(bits BinOp.andNot u16 (Zb (Zd undef (rels rs) (0+x.toNat*6+1+1+1+1))) (155:Int) !=(0:Int))=true)∧(bits BinOp.andNot u16 (Zb (Zd undef (rels rs) (0+x.toNat*6+1+1+1+1))) (155:Int) !=(0:Int))=true)∧(bits BinOp.andNot u16 (Zb (Zd undef (rels rs) (0+x.toNat*6+1+1+1+1))) (155:Int) !=(0:Int))=true)∧(bits BinOp.andNot u16 (Zb (Zd undef (rels rs) (0+x.toNat*6+1+1+1+1))) (155:Int) !=(0:Int))=true)∧(bits BinOp.andNot u16 (Zb (Zd undef (rels rs) (0+x.toNat*6+1+1+1+1))) (155:Int) !=(0:Int))=true)∧true=true:St }):=by kernel_rfl
theorem Znk (Ze Zc types:Int) (nc nr ns:Nat) (data:List UInt8) (a b c d e f g h:Int) (rs:List Rl) (x:Int):evF Tryz.prog (ZH 3 YT) Zf 100 10 87 [YE Ze Zc types nc nr ns data,VS a b c d e f g h,.int .i64 x] ⟨67,[(65,⟨false,some (0,0),rels rs,none⟩)],[],0,(tb 42 2199023280120),0,True⟩=some (Value.bool false,{ n:=70,h:=[(65,⟨false,some (0,0),rels rs,none⟩)],lo:=[],esc:=0,T:=[],k:=42,O:=((((((((((((((((((((((((((((((((bif Qc (0+(i64.wrap (x-(1:Int))).toNat*6+0+1) (rels rs)&&Zs [Value.int .u32 0] (rels rs) (0+(i64.wrap (x-(1:Int))).toNat*6+0) then((bif decide ((0:Int)≤i64.wrap (x-(1:Int)))&&decide (i64.wrap (x-(1:Int))<(↑nr:Int)) then((((((((bif Qc (0+x.toNat*6+6) (rels rs)&&Zs [Value.int .u32 0,.bool false,.int .u32 0,.int .u32 0,.int .u16 0,.int .u16 0] (rels rs) (0+x.toNat*6) then bif decide ((0:Int)≤x)&&decide (x<(↑nr:Int)) then True else False else False)∧((Zb (Zd undef (rels rs) (0+x.toNat*6))).tmod (16:Int) !=(0:Int))=false)∧((Zb (Zd undef (rels rs) (0+x.toNat*6))).tmod (16:Int) !=(0:Int))=false)∧((Zb (Zd undef (rels rs) (0+x.toNat*6))).tmod (16:Int) !=(0:Int))=false)∧decide (x>(0:Int))=true)∧decide (x>(0:Int))=true)∧decide (x>(0:Int))=true)∧decide (x>(0:Int))=true)∧decide (x>(0:Int))=true else False)∧decide (x>(0:Int))=true)∧decide (x>(0:Int))=true else False)∧decide (x>(0:Int))=true)∧decide (x>(0:Int))=true)∧decide (x>(0:Int))=true)∧((Zb (Zd undef (rels rs) (0+x.toNat*6))).tmod (16:Int) !=(0:Int))=false)∧decide (x>(0:Int))=true)∧((Zb (Zd undef (rels rs) (0+x.toNat*6))).tmod (16:Int) !=(0:Int))=false)∧decide (Zb (Zd undef (rels rs) (0+(i64.wrap (x-(1:Int))).toNat*6+0))≥Zb (Zd undef (rels rs) (0+x.toNat*6)))=false)∧decide (Zb (Zd undef (rels rs) (0+(i64.wrap (x-(1:Int))).toNat*6+0))≥Zb (Zd undef (rels rs) (0+x.toNat*6)))=false)∧decide (Zb (Zd undef (rels rs) (0+(i64.wrap (x-(1:Int))).toNat*6+0))≥Zb (Zd undef (rels rs) (0+x.toNat*6)))=false)∧decide (Zb (Zd undef (rels rs) (0+(i64.wrap (x-(1:Int))).toNat*6+0))≥Zb (Zd undef (rels rs) (0+x.toNat*6)))=false)∧decide (Zb (Zd undef (rels rs) (0+(i64.wrap (x-(1:Int))).toNat*6+0))≥Zb (Zd undef (rels rs) (0+x.toNat*6)))=false)∧decide (Zb (Zd undef (rels rs) (0+(i64.wrap (x-(1:Int))).toNat*6+0))≥Zb (Zd undef (rels rs) (0+x.toNat*6)))=false)∧decide (Zb (Zd undef (rels rs) (0+(i64.wrap (x-(1:Int))).toNat*6+0))≥Zb (Zd undef (rels rs) (0+x.toNat*6)))=false)∧decide (Zb (Zd undef (rels rs) (0+(i64.wrap (x-(1:Int))).toNat*6+0))≥Zb (Zd undef (rels rs) (0+x.toNat*6)))=false)∧decide (Zb (Zd undef (rels rs) (0+(i64.wrap (x-(1:Int))).toNat*6+0))≥Zb (Zd undef (rels rs) (0+x.toNat*6)))=false)∧decide (Zb (Zd undef (rels rs) (0+(i64.wrap (x-(1:Int))).toNat*6+0))≥Zb (Zd undef (rels rs) (0+x.toNat*6)))=false)∧decide (u64.wrap (u64.wrap (Zb (Zd undef (rels rs) (0+x.toNat*6)))+(16:Int))>u64.wrap (↑(Zr data)))=false)∧Zw (Zd undef (rels rs) (0+x.toNat*6+1))=false)∧decide (u64.wrap (u64.wrap (Zb (Zd undef (rels rs) (0+x.toNat*6+1+1)))+u64.wrap (Zb (Zd undef (rels rs) (0+x.toNat*6+1+1+1))))>u64.wrap (↑(Zr data)))=false)∧decide (u64.wrap (u64.wrap (Zb (Zd undef (rels rs) (0+x.toNat*6+1+1)))+u64.wrap (Zb (Zd undef (rels rs) (0+x.toNat*6+1+1+1))))>u64.wrap (↑(Zr data)))=false)∧decide (u64.wrap (u64.wrap (Zb (Zd undef (rels rs) (0+x.toNat*6+1+1)))+u64.wrap (Zb (Zd undef (rels rs) (0+x.toNat*6+1+1+1))))>u64.wrap (↑(Zr data)))=false)∧decide (u64.wrap (u64.wrap (Zb (Zd undef (rels rs) (0+x.toNat*6+1+1)))+u64.wrap (Zb (Zd undef (rels rs) (0+x.toNat*6+1+1+1))))>u64.wrap (↑(Zr data)))=false)∧decide (u64.wrap (u64.wrap (Zb (Zd undef (rels rs) (0+x.toNat*6+1+1)))+u64.wrap (Zb (Zd undef (rels rs) (0+x.toNat*6+1+1+1))))>u64.wrap (↑(Zr data)))=false)∧decide (u64.wrap (u64.wrap (Zb (Zd undef (rels rs) (0+x.toNat*6+1+1)))+u64.wrap (Zb (Zd undef (rels rs) (0+x.toNat*6+1+1+1))))>u64.wrap (↑(Zr data)))=false)∧(bits BinOp.andNot u16 (Zb (Zd undef (rels rs) (0+x.toNat*6+1+1+1+1))) (155:Int) !=(0:Int))=false)∧(bits BinOp.andNot u16 (Zb (Zd undef (rels rs) (0+x.toNat*6+1+1+1+1))) (155:Int) !=(0:Int))=false)∧(bits BinOp.andNot u16 (Zb (Zd undef (rels rs) (0+x.toNat*6+1+1+1+1))) (155:Int) !=(0:Int))=false)∧(bits BinOp.andNot u16 (Zb (Zd undef (rels rs) (0+x.toNat*6+1+1+1+1))) (155:Int) !=(0:Int))=false)∧(bits BinOp.andNot u16 (Zb (Zd undef (rels rs) (0+x.toNat*6+1+1+1+1))) (155:Int) !=(0:Int))=false)∧(bits BinOp.andNot u16 (Zb (Zd undef (rels rs) (0+x.toNat*6+1+1+1+1))) (155:Int) !=(0:Int))=false)∧(bits BinOp.andNot u16 (Zb (Zd undef (rels rs) (0+x.toNat*6+1+1+1+1))) (155:Int) !=(0:Int))=false)∧decide (i64.wrap (Zb (Zd undef (rels rs) (0+x.toNat*6+1+1+1+1+1)))>types)=true:St }):=by kernel_rfl
theorem Znl (Ze Zc types:Int) (nc nr ns:Nat) (data:List UInt8) (a b c d e f g h:Int) (rs:List Rl) (x:Int):evF Tryz.prog (ZH 3 YT) Zf 100 10 87 [YE Ze Zc types nc nr ns data,VS a b c d e f g h,.int .i64 x] ⟨67,[(65,⟨false,some (0,0),rels rs,none⟩)],[],0,(tb 44 13194139557880),0,True⟩=some (Value.bool (KA (u32.wrap (c+Zb (Zd undef (rels rs) (0+x.toNat*6+1+1)))).toNat (u64.wrap (u64.wrap (u32.wrap (c+Zb (Zd undef (rels rs) (0+x.toNat*6+1+1))))+u64.wrap (Zb (Zd undef (rels rs) (0+x.toNat*6+1+1+1))))).toNat),{ n:=70,h:=[(65,⟨false,some (0,0),rels rs,none⟩)],lo:=[],esc:=0,T:=[],k:=44,O:=(((((((((((((((((((((((((((((((((((bif Qc (0+(i64.wrap (x-(1:Int))).toNat*6+0+1) (rels rs)&&Zs [Value.int .u32 0] (rels rs) (0+(i64.wrap (x-(1:Int))).toNat*6+0) then((bif decide ((0:Int)≤i64.wrap (x-(1:Int)))&&decide (i64.wrap (x-(1:Int))<(↑nr:Int)) then((((((((bif Qc (0+x.toNat*6+6) (rels rs)&&Zs [Value.int .u32 0,.bool false,.int .u32 0,.int .u32 0,.int .u16 0,.int .u16 0] (rels rs) (0+x.toNat*6) then bif decide ((0:Int)≤x)&&decide (x<(↑nr:Int)) then True else False else False)∧((Zb (Zd undef (rels rs) (0+x.toNat*6))).tmod (16:Int) !=(0:Int))=false)∧((Zb (Zd undef (rels rs) (0+x.toNat*6))).tmod (16:Int) !=(0:Int))=false)∧((Zb (Zd undef (rels rs) (0+x.toNat*6))).tmod (16:Int) !=(0:Int))=false)∧decide (x>(0:Int))=true)∧decide (x>(0:Int))=true)∧decide (x>(0:Int))=true)∧decide (x>(0:Int))=true)∧decide (x>(0:Int))=true else False)∧decide (x>(0:Int))=true)∧decide (x>(0:Int))=true else False)∧decide (x>(0:Int))=true)∧decide (x>(0:Int))=true)∧decide (x>(0:Int))=true)∧((Zb (Zd undef (rels rs) (0+x.toNat*6))).tmod (16:Int) !=(0:Int))=false)∧decide (x>(0:Int))=true)∧((Zb (Zd undef (rels rs) (0+x.toNat*6))).tmod (16:Int) !=(0:Int))=false)∧decide (Zb (Zd undef (rels rs) (0+(i64.wrap (x-(1:Int))).toNat*6+0))≥Zb (Zd undef (rels rs) (0+x.toNat*6)))=false)∧decide (Zb (Zd undef (rels rs) (0+(i64.wrap (x-(1:Int))).toNat*6+0))≥Zb (Zd undef (rels rs) (0+x.toNat*6)))=false)∧decide (Zb (Zd undef (rels rs) (0+(i64.wrap (x-(1:Int))).toNat*6+0))≥Zb (Zd undef (rels rs) (0+x.toNat*6)))=false)∧decide (Zb (Zd undef (rels rs) (0+(i64.wrap (x-(1:Int))).toNat*6+0))≥Zb (Zd undef (rels rs) (0+x.toNat*6)))=false)∧decide (Zb (Zd undef (rels rs) (0+(i64.wrap (x-(1:Int))).toNat*6+0))≥Zb (Zd undef (rels rs) (0+x.toNat*6)))=false)∧decide (Zb (Zd undef (rels rs) (0+(i64.wrap (x-(1:Int))).toNat*6+0))≥Zb (Zd undef (rels rs) (0+x.toNat*6)))=false)∧decide (Zb (Zd undef (rels rs) (0+(i64.wrap (x-(1:Int))).toNat*6+0))≥Zb (Zd undef (rels rs) (0+x.toNat*6)))=false)∧decide (Zb (Zd undef (rels rs) (0+(i64.wrap (x-(1:Int))).toNat*6+0))≥Zb (Zd undef (rels rs) (0+x.toNat*6)))=false)∧decide (Zb (Zd undef (rels rs) (0+(i64.wrap (x-(1:Int))).toNat*6+0))≥Zb (Zd undef (rels rs) (0+x.toNat*6)))=false)∧decide (Zb (Zd undef (rels rs) (0+(i64.wrap (x-(1:Int))).toNat*6+0))≥Zb (Zd undef (rels rs) (0+x.toNat*6)))=false)∧decide (u64.wrap (u64.wrap (Zb (Zd undef (rels rs) (0+x.toNat*6)))+(16:Int))>u64.wrap (↑(Zr data)))=false)∧Zw (Zd undef (rels rs) (0+x.toNat*6+1))=false)∧decide (u64.wrap (u64.wrap (Zb (Zd undef (rels rs) (0+x.toNat*6+1+1)))+u64.wrap (Zb (Zd undef (rels rs) (0+x.toNat*6+1+1+1))))>u64.wrap (↑(Zr data)))=false)∧decide (u64.wrap (u64.wrap (Zb (Zd undef (rels rs) (0+x.toNat*6+1+1)))+u64.wrap (Zb (Zd undef (rels rs) (0+x.toNat*6+1+1+1))))>u64.wrap (↑(Zr data)))=false)∧decide (u64.wrap (u64.wrap (Zb (Zd undef (rels rs) (0+x.toNat*6+1+1)))+u64.wrap (Zb (Zd undef (rels rs) (0+x.toNat*6+1+1+1))))>u64.wrap (↑(Zr data)))=false)∧decide (u64.wrap (u64.wrap (Zb (Zd undef (rels rs) (0+x.toNat*6+1+1)))+u64.wrap (Zb (Zd undef (rels rs) (0+x.toNat*6+1+1+1))))>u64.wrap (↑(Zr data)))=false)∧decide (u64.wrap (u64.wrap (Zb (Zd undef (rels rs) (0+x.toNat*6+1+1)))+u64.wrap (Zb (Zd undef (rels rs) (0+x.toNat*6+1+1+1))))>u64.wrap (↑(Zr data)))=false)∧decide (u64.wrap (u64.wrap (Zb (Zd undef (rels rs) (0+x.toNat*6+1+1)))+u64.wrap (Zb (Zd undef (rels rs) (0+x.toNat*6+1+1+1))))>u64.wrap (↑(Zr data)))=false)∧(bits BinOp.andNot u16 (Zb (Zd undef (rels rs) (0+x.toNat*6+1+1+1+1))) (155:Int) !=(0:Int))=false)∧(bits BinOp.andNot u16 (Zb (Zd undef (rels rs) (0+x.toNat*6+1+1+1+1))) (155:Int) !=(0:Int))=false)∧(bits BinOp.andNot u16 (Zb (Zd undef (rels rs) (0+x.toNat*6+1+1+1+1))) (155:Int) !=(0:Int))=false)∧(bits BinOp.andNot u16 (Zb (Zd undef (rels rs) (0+x.toNat*6+1+1+1+1))) (155:Int) !=(0:Int))=false)∧(bits BinOp.andNot u16 (Zb (Zd undef (rels rs) (0+x.toNat*6+1+1+1+1))) (155:Int) !=(0:Int))=false)∧(bits BinOp.andNot u16 (Zb (Zd undef (rels rs) (0+x.toNat*6+1+1+1+1))) (155:Int) !=(0:Int))=false)∧(bits BinOp.andNot u16 (Zb (Zd undef (rels rs) (0+x.toNat*6+1+1+1+1))) (155:Int) !=(0:Int))=false)∧decide (i64.wrap (Zb (Zd undef (rels rs) (0+x.toNat*6+1+1+1+1+1)))>types)=false)∧(((0:Int)≤u32.wrap (c+Zb (Zd undef (rels rs) (0+x.toNat*6+1+1)))∧u32.wrap (c+Zb (Zd undef (rels rs) (0+x.toNat*6+1+1)))<(4294967296:Int))∧(0:Int)≤u64.wrap (u64.wrap (u32.wrap (c+Zb (Zd undef (rels rs) (0+x.toNat*6+1+1))))+u64.wrap (Zb (Zd undef (rels rs) (0+x.toNat*6+1+1+1))))∧u64.wrap (u64.wrap (u32.wrap (c+Zb (Zd undef (rels rs) (0+x.toNat*6+1+1))))+u64.wrap (Zb (Zd undef (rels rs) (0+x.toNat*6+1+1+1))))<(18446744073709551616:Int))∧(rr (Value.int .u32 (u32.wrap (c+Zb (Zd undef (rels rs) (0+x.toNat*6+1+1)))))∧rr (Value.int .u64 (u64.wrap (u64.wrap (u32.wrap (c+Zb (Zd undef (rels rs) (0+x.toNat*6+1+1))))+u64.wrap (Zb (Zd undef (rels rs) (0+x.toNat*6+1+1+1))))))∧True)∧True∧True)∧Qg (u32.wrap (c+Zb (Zd undef (rels rs) (0+x.toNat*6+1+1)))).toNat (u64.wrap (u64.wrap (u32.wrap (c+Zb (Zd undef (rels rs) (0+x.toNat*6+1+1))))+u64.wrap (Zb (Zd undef (rels rs) (0+x.toNat*6+1+1+1))))).toNat=true)∧Qg (u32.wrap (c+Zb (Zd undef (rels rs) (0+x.toNat*6+1+1)))).toNat (u64.wrap (u64.wrap (u32.wrap (c+Zb (Zd undef (rels rs) (0+x.toNat*6+1+1))))+u64.wrap (Zb (Zd undef (rels rs) (0+x.toNat*6+1+1+1))))).toNat=true:St }):=by kernel_rfl
theorem Znm (Ze Zc types:Int) (nc nr ns:Nat) (data:List UInt8) (a b c d e f g h:Int) (rs:List Rl) (x:Int):evF Tryz.prog (ZH 3 YT) Zf 100 10 87 [YE Ze Zc types nc nr ns data,VS a b c d e f g h,.int .i64 x] ⟨67,[(65,⟨false,some (0,0),rels rs,none⟩)],[],0,(tb 42 4397912317944),0,True⟩=some (Value.bool false,{ n:=70,h:=[(65,⟨false,some (0,0),rels rs,none⟩)],lo:=[],esc:=0,T:=[],k:=42,O:=((((((((((((((((((((((((((((((((bif Qc (0+(i64.wrap (x-(1:Int))).toNat*6+0+1) (rels rs)&&Zs [Value.int .u32 0] (rels rs) (0+(i64.wrap (x-(1:Int))).toNat*6+0) then((bif decide ((0:Int)≤i64.wrap (x-(1:Int)))&&decide (i64.wrap (x-(1:Int))<(↑nr:Int)) then((((((((bif Qc (0+x.toNat*6+6) (rels rs)&&Zs [Value.int .u32 0,.bool false,.int .u32 0,.int .u32 0,.int .u16 0,.int .u16 0] (rels rs) (0+x.toNat*6) then bif decide ((0:Int)≤x)&&decide (x<(↑nr:Int)) then True else False else False)∧((Zb (Zd undef (rels rs) (0+x.toNat*6))).tmod (16:Int) !=(0:Int))=false)∧((Zb (Zd undef (rels rs) (0+x.toNat*6))).tmod (16:Int) !=(0:Int))=false)∧((Zb (Zd undef (rels rs) (0+x.toNat*6))).tmod (16:Int) !=(0:Int))=false)∧decide (x>(0:Int))=true)∧decide (x>(0:Int))=true)∧decide (x>(0:Int))=true)∧decide (x>(0:Int))=true)∧decide (x>(0:Int))=true else False)∧decide (x>(0:Int))=true)∧decide (x>(0:Int))=true else False)∧decide (x>(0:Int))=true)∧decide (x>(0:Int))=true)∧decide (x>(0:Int))=true)∧((Zb (Zd undef (rels rs) (0+x.toNat*6))).tmod (16:Int) !=(0:Int))=false)∧decide (x>(0:Int))=true)∧((Zb (Zd undef (rels rs) (0+x.toNat*6))).tmod (16:Int) !=(0:Int))=false)∧decide (Zb (Zd undef (rels rs) (0+(i64.wrap (x-(1:Int))).toNat*6+0))≥Zb (Zd undef (rels rs) (0+x.toNat*6)))=false)∧decide (Zb (Zd undef (rels rs) (0+(i64.wrap (x-(1:Int))).toNat*6+0))≥Zb (Zd undef (rels rs) (0+x.toNat*6)))=false)∧decide (Zb (Zd undef (rels rs) (0+(i64.wrap (x-(1:Int))).toNat*6+0))≥Zb (Zd undef (rels rs) (0+x.toNat*6)))=false)∧decide (Zb (Zd undef (rels rs) (0+(i64.wrap (x-(1:Int))).toNat*6+0))≥Zb (Zd undef (rels rs) (0+x.toNat*6)))=false)∧decide (Zb (Zd undef (rels rs) (0+(i64.wrap (x-(1:Int))).toNat*6+0))≥Zb (Zd undef (rels rs) (0+x.toNat*6)))=false)∧decide (Zb (Zd undef (rels rs) (0+(i64.wrap (x-(1:Int))).toNat*6+0))≥Zb (Zd undef (rels rs) (0+x.toNat*6)))=false)∧decide (Zb (Zd undef (rels rs) (0+(i64.wrap (x-(1:Int))).toNat*6+0))≥Zb (Zd undef (rels rs) (0+x.toNat*6)))=false)∧decide (Zb (Zd undef (rels rs) (0+(i64.wrap (x-(1:Int))).toNat*6+0))≥Zb (Zd undef (rels rs) (0+x.toNat*6)))=false)∧decide (Zb (Zd undef (rels rs) (0+(i64.wrap (x-(1:Int))).toNat*6+0))≥Zb (Zd undef (rels rs) (0+x.toNat*6)))=false)∧decide (Zb (Zd undef (rels rs) (0+(i64.wrap (x-(1:Int))).toNat*6+0))≥Zb (Zd undef (rels rs) (0+x.toNat*6)))=false)∧decide (u64.wrap (u64.wrap (Zb (Zd undef (rels rs) (0+x.toNat*6)))+(16:Int))>u64.wrap (↑(Zr data)))=false)∧Zw (Zd undef (rels rs) (0+x.toNat*6+1))=true)∧decide (u64.wrap (u64.wrap (Zb (Zd undef (rels rs) (0+x.toNat*6+1+1)))+u64.wrap (Zb (Zd undef (rels rs) (0+x.toNat*6+1+1+1))))>u64.wrap ((4:Int)*u64.wrap (↑nc)))=true)∧decide (u64.wrap (u64.wrap (Zb (Zd undef (rels rs) (0+x.toNat*6+1+1)))+u64.wrap (Zb (Zd undef (rels rs) (0+x.toNat*6+1+1+1))))>u64.wrap ((4:Int)*u64.wrap (↑nc)))=true)∧decide (u64.wrap (u64.wrap (Zb (Zd undef (rels rs) (0+x.toNat*6+1+1)))+u64.wrap (Zb (Zd undef (rels rs) (0+x.toNat*6+1+1+1))))>u64.wrap ((4:Int)*u64.wrap (↑nc)))=true)∧decide (u64.wrap (u64.wrap (Zb (Zd undef (rels rs) (0+x.toNat*6+1+1)))+u64.wrap (Zb (Zd undef (rels rs) (0+x.toNat*6+1+1+1))))>u64.wrap ((4:Int)*u64.wrap (↑nc)))=true)∧decide (u64.wrap (u64.wrap (Zb (Zd undef (rels rs) (0+x.toNat*6+1+1)))+u64.wrap (Zb (Zd undef (rels rs) (0+x.toNat*6+1+1+1))))>u64.wrap ((4:Int)*u64.wrap (↑nc)))=true)∧decide (u64.wrap (u64.wrap (Zb (Zd undef (rels rs) (0+x.toNat*6+1+1)))+u64.wrap (Zb (Zd undef (rels rs) (0+x.toNat*6+1+1+1))))>u64.wrap ((4:Int)*u64.wrap (↑nc)))=true)∧tt)∧tt)∧tt)∧tt)∧tt)∧tt)∧tt)∧true=true:St }):=by kernel_rfl
theorem Znn (Ze Zc types:Int) (nc nr ns:Nat) (data:List UInt8) (a b c d e f g h:Int) (rs:List Rl) (x:Int):evF Tryz.prog (ZH 3 YT) Zf 100 10 87 [YE Ze Zc types nc nr ns data,VS a b c d e f g h,.int .i64 x] ⟨67,[(65,⟨false,some (0,0),rels rs,none⟩)],[],0,(tb 42 4381000884216),0,True⟩=some (Value.bool false,{ n:=70,h:=[(65,⟨false,some (0,0),rels rs,none⟩)],lo:=[],esc:=0,T:=[],k:=42,O:=((((((((((((((((((((((((((((((((bif Qc (0+(i64.wrap (x-(1:Int))).toNat*6+0+1) (rels rs)&&Zs [Value.int .u32 0] (rels rs) (0+(i64.wrap (x-(1:Int))).toNat*6+0) then((bif decide ((0:Int)≤i64.wrap (x-(1:Int)))&&decide (i64.wrap (x-(1:Int))<(↑nr:Int)) then((((((((bif Qc (0+x.toNat*6+6) (rels rs)&&Zs [Value.int .u32 0,.bool false,.int .u32 0,.int .u32 0,.int .u16 0,.int .u16 0] (rels rs) (0+x.toNat*6) then bif decide ((0:Int)≤x)&&decide (x<(↑nr:Int)) then True else False else False)∧((Zb (Zd undef (rels rs) (0+x.toNat*6))).tmod (16:Int) !=(0:Int))=false)∧((Zb (Zd undef (rels rs) (0+x.toNat*6))).tmod (16:Int) !=(0:Int))=false)∧((Zb (Zd undef (rels rs) (0+x.toNat*6))).tmod (16:Int) !=(0:Int))=false)∧decide (x>(0:Int))=true)∧decide (x>(0:Int))=true)∧decide (x>(0:Int))=true)∧decide (x>(0:Int))=true)∧decide (x>(0:Int))=true else False)∧decide (x>(0:Int))=true)∧decide (x>(0:Int))=true else False)∧decide (x>(0:Int))=true)∧decide (x>(0:Int))=true)∧decide (x>(0:Int))=true)∧((Zb (Zd undef (rels rs) (0+x.toNat*6))).tmod (16:Int) !=(0:Int))=false)∧decide (x>(0:Int))=true)∧((Zb (Zd undef (rels rs) (0+x.toNat*6))).tmod (16:Int) !=(0:Int))=false)∧decide (Zb (Zd undef (rels rs) (0+(i64.wrap (x-(1:Int))).toNat*6+0))≥Zb (Zd undef (rels rs) (0+x.toNat*6)))=false)∧decide (Zb (Zd undef (rels rs) (0+(i64.wrap (x-(1:Int))).toNat*6+0))≥Zb (Zd undef (rels rs) (0+x.toNat*6)))=false)∧decide (Zb (Zd undef (rels rs) (0+(i64.wrap (x-(1:Int))).toNat*6+0))≥Zb (Zd undef (rels rs) (0+x.toNat*6)))=false)∧decide (Zb (Zd undef (rels rs) (0+(i64.wrap (x-(1:Int))).toNat*6+0))≥Zb (Zd undef (rels rs) (0+x.toNat*6)))=false)∧decide (Zb (Zd undef (rels rs) (0+(i64.wrap (x-(1:Int))).toNat*6+0))≥Zb (Zd undef (rels rs) (0+x.toNat*6)))=false)∧decide (Zb (Zd undef (rels rs) (0+(i64.wrap (x-(1:Int))).toNat*6+0))≥Zb (Zd undef (rels rs) (0+x.toNat*6)))=false)∧decide (Zb (Zd undef (rels rs) (0+(i64.wrap (x-(1:Int))).toNat*6+0))≥Zb (Zd undef (rels rs) (0+x.toNat*6)))=false)∧decide (Zb (Zd undef (rels rs) (0+(i64.wrap (x-(1:Int))).toNat*6+0))≥Zb (Zd undef (rels rs) (0+x.toNat*6)))=false)∧decide (Zb (Zd undef (rels rs) (0+(i64.wrap (x-(1:Int))).toNat*6+0))≥Zb (Zd undef (rels rs) (0+x.toNat*6)))=false)∧decide (Zb (Zd undef (rels rs) (0+(i64.wrap (x-(1:Int))).toNat*6+0))≥Zb (Zd undef (rels rs) (0+x.toNat*6)))=false)∧decide (u64.wrap (u64.wrap (Zb (Zd undef (rels rs) (0+x.toNat*6)))+(16:Int))>u64.wrap (↑(Zr data)))=false)∧Zw (Zd undef (rels rs) (0+x.toNat*6+1))=true)∧decide (u64.wrap (u64.wrap (Zb (Zd undef (rels rs) (0+x.toNat*6+1+1)))+u64.wrap (Zb (Zd undef (rels rs) (0+x.toNat*6+1+1+1))))>u64.wrap ((4:Int)*u64.wrap (↑nc)))=false)∧decide (u64.wrap (u64.wrap (Zb (Zd undef (rels rs) (0+x.toNat*6+1+1)))+u64.wrap (Zb (Zd undef (rels rs) (0+x.toNat*6+1+1+1))))>u64.wrap ((4:Int)*u64.wrap (↑nc)))=false)∧decide (u64.wrap (u64.wrap (Zb (Zd undef (rels rs) (0+x.toNat*6+1+1)))+u64.wrap (Zb (Zd undef (rels rs) (0+x.toNat*6+1+1+1))))>u64.wrap ((4:Int)*u64.wrap (↑nc)))=false)∧decide (u64.wrap (u64.wrap (Zb (Zd undef (rels rs) (0+x.toNat*6+1+1)))+u64.wrap (Zb (Zd undef (rels rs) (0+x.toNat*6+1+1+1))))>u64.wrap ((4:Int)*u64.wrap (↑nc)))=false)∧decide (u64.wrap (u64.wrap (Zb (Zd undef (rels rs) (0+x.toNat*6+1+1)))+u64.wrap (Zb (Zd undef (rels rs) (0+x.toNat*6+1+1+1))))>u64.wrap ((4:Int)*u64.wrap (↑nc)))=false)∧decide (u64.wrap (u64.wrap (Zb (Zd undef (rels rs) (0+x.toNat*6+1+1)))+u64.wrap (Zb (Zd undef (rels rs) (0+x.toNat*6+1+1+1))))>u64.wrap ((4:Int)*u64.wrap (↑nc)))=false)∧(bits BinOp.andNot u16 (Zb (Zd undef (rels rs) (0+x.toNat*6+1+1+1+1))) (133:Int) !=(0:Int))=true)∧(bits BinOp.andNot u16 (Zb (Zd undef (rels rs) (0+x.toNat*6+1+1+1+1))) (133:Int) !=(0:Int))=true)∧(bits BinOp.andNot u16 (Zb (Zd undef (rels rs) (0+x.toNat*6+1+1+1+1))) (133:Int) !=(0:Int))=true)∧(bits BinOp.andNot u16 (Zb (Zd undef (rels rs) (0+x.toNat*6+1+1+1+1))) (133:Int) !=(0:Int))=true)∧(bits BinOp.andNot u16 (Zb (Zd undef (rels rs) (0+x.toNat*6+1+1+1+1))) (133:Int) !=(0:Int))=true)∧(bits BinOp.andNot u16 (Zb (Zd undef (rels rs) (0+x.toNat*6+1+1+1+1))) (133:Int) !=(0:Int))=true)∧(bits BinOp.andNot u16 (Zb (Zd undef (rels rs) (0+x.toNat*6+1+1+1+1))) (133:Int) !=(0:Int))=true)∧true=true:St }):=by kernel_rfl
theorem Zno (Ze Zc types:Int) (nc nr ns:Nat) (data:List UInt8) (a b c d e f g h:Int) (rs:List Rl) (x:Int):evF Tryz.prog (ZH 3 YT) Zf 100 10 87 [YE Ze Zc types nc nr ns data,VS a b c d e f g h,.int .i64 x] ⟨67,[(65,⟨false,some (0,0),rels rs,none⟩)],[],0,(tb 42 2199157497848),0,True⟩=some (Value.bool false,{ n:=70,h:=[(65,⟨false,some (0,0),rels rs,none⟩)],lo:=[],esc:=0,T:=[],k:=42,O:=((((((((((((((((((((((((((((((((bif Qc (0+(i64.wrap (x-(1:Int))).toNat*6+0+1) (rels rs)&&Zs [Value.int .u32 0] (rels rs) (0+(i64.wrap (x-(1:Int))).toNat*6+0) then((bif decide ((0:Int)≤i64.wrap (x-(1:Int)))&&decide (i64.wrap (x-(1:Int))<(↑nr:Int)) then((((((((bif Qc (0+x.toNat*6+6) (rels rs)&&Zs [Value.int .u32 0,.bool false,.int .u32 0,.int .u32 0,.int .u16 0,.int .u16 0] (rels rs) (0+x.toNat*6) then bif decide ((0:Int)≤x)&&decide (x<(↑nr:Int)) then True else False else False)∧((Zb (Zd undef (rels rs) (0+x.toNat*6))).tmod (16:Int) !=(0:Int))=false)∧((Zb (Zd undef (rels rs) (0+x.toNat*6))).tmod (16:Int) !=(0:Int))=false)∧((Zb (Zd undef (rels rs) (0+x.toNat*6))).tmod (16:Int) !=(0:Int))=false)∧decide (x>(0:Int))=true)∧decide (x>(0:Int))=true)∧decide (x>(0:Int))=true)∧decide (x>(0:Int))=true)∧decide (x>(0:Int))=true else False)∧decide (x>(0:Int))=true)∧decide (x>(0:Int))=true else False)∧decide (x>(0:Int))=true)∧decide (x>(0:Int))=true)∧decide (x>(0:Int))=true)∧((Zb (Zd undef (rels rs) (0+x.toNat*6))).tmod (16:Int) !=(0:Int))=false)∧decide (x>(0:Int))=true)∧((Zb (Zd undef (rels rs) (0+x.toNat*6))).tmod (16:Int) !=(0:Int))=false)∧decide (Zb (Zd undef (rels rs) (0+(i64.wrap (x-(1:Int))).toNat*6+0))≥Zb (Zd undef (rels rs) (0+x.toNat*6)))=false)∧decide (Zb (Zd undef (rels rs) (0+(i64.wrap (x-(1:Int))).toNat*6+0))≥Zb (Zd undef (rels rs) (0+x.toNat*6)))=false)∧decide (Zb (Zd undef (rels rs) (0+(i64.wrap (x-(1:Int))).toNat*6+0))≥Zb (Zd undef (rels rs) (0+x.toNat*6)))=false)∧decide (Zb (Zd undef (rels rs) (0+(i64.wrap (x-(1:Int))).toNat*6+0))≥Zb (Zd undef (rels rs) (0+x.toNat*6)))=false)∧decide (Zb (Zd undef (rels rs) (0+(i64.wrap (x-(1:Int))).toNat*6+0))≥Zb (Zd undef (rels rs) (0+x.toNat*6)))=false)∧decide (Zb (Zd undef (rels rs) (0+(i64.wrap (x-(1:Int))).toNat*6+0))≥Zb (Zd undef (rels rs) (0+x.toNat*6)))=false)∧decide (Zb (Zd undef (rels rs) (0+(i64.wrap (x-(1:Int))).toNat*6+0))≥Zb (Zd undef (rels rs) (0+x.toNat*6)))=false)∧decide (Zb (Zd undef (rels rs) (0+(i64.wrap (x-(1:Int))).toNat*6+0))≥Zb (Zd undef (rels rs) (0+x.toNat*6)))=false)∧decide (Zb (Zd undef (rels rs) (0+(i64.wrap (x-(1:Int))).toNat*6+0))≥Zb (Zd undef (rels rs) (0+x.toNat*6)))=false)∧decide (Zb (Zd undef (rels rs) (0+(i64.wrap (x-(1:Int))).toNat*6+0))≥Zb (Zd undef (rels rs) (0+x.toNat*6)))=false)∧decide (u64.wrap (u64.wrap (Zb (Zd undef (rels rs) (0+x.toNat*6)))+(16:Int))>u64.wrap (↑(Zr data)))=false)∧Zw (Zd undef (rels rs) (0+x.toNat*6+1))=true)∧decide (u64.wrap (u64.wrap (Zb (Zd undef (rels rs) (0+x.toNat*6+1+1)))+u64.wrap (Zb (Zd undef (rels rs) (0+x.toNat*6+1+1+1))))>u64.wrap ((4:Int)*u64.wrap (↑nc)))=false)∧decide (u64.wrap (u64.wrap (Zb (Zd undef (rels rs) (0+x.toNat*6+1+1)))+u64.wrap (Zb (Zd undef (rels rs) (0+x.toNat*6+1+1+1))))>u64.wrap ((4:Int)*u64.wrap (↑nc)))=false)∧decide (u64.wrap (u64.wrap (Zb (Zd undef (rels rs) (0+x.toNat*6+1+1)))+u64.wrap (Zb (Zd undef (rels rs) (0+x.toNat*6+1+1+1))))>u64.wrap ((4:Int)*u64.wrap (↑nc)))=false)∧decide (u64.wrap (u64.wrap (Zb (Zd undef (rels rs) (0+x.toNat*6+1+1)))+u64.wrap (Zb (Zd undef (rels rs) (0+x.toNat*6+1+1+1))))>u64.wrap ((4:Int)*u64.wrap (↑nc)))=false)∧decide (u64.wrap (u64.wrap (Zb (Zd undef (rels rs) (0+x.toNat*6+1+1)))+u64.wrap (Zb (Zd undef (rels rs) (0+x.toNat*6+1+1+1))))>u64.wrap ((4:Int)*u64.wrap (↑nc)))=false)∧decide (u64.wrap (u64.wrap (Zb (Zd undef (rels rs) (0+x.toNat*6+1+1)))+u64.wrap (Zb (Zd undef (rels rs) (0+x.toNat*6+1+1+1))))>u64.wrap ((4:Int)*u64.wrap (↑nc)))=false)∧(bits BinOp.andNot u16 (Zb (Zd undef (rels rs) (0+x.toNat*6+1+1+1+1))) (133:Int) !=(0:Int))=false)∧(bits BinOp.andNot u16 (Zb (Zd undef (rels rs) (0+x.toNat*6+1+1+1+1))) (133:Int) !=(0:Int))=false)∧(bits BinOp.andNot u16 (Zb (Zd undef (rels rs) (0+x.toNat*6+1+1+1+1))) (133:Int) !=(0:Int))=false)∧(bits BinOp.andNot u16 (Zb (Zd undef (rels rs) (0+x.toNat*6+1+1+1+1))) (133:Int) !=(0:Int))=false)∧(bits BinOp.andNot u16 (Zb (Zd undef (rels rs) (0+x.toNat*6+1+1+1+1))) (133:Int) !=(0:Int))=false)∧(bits BinOp.andNot u16 (Zb (Zd undef (rels rs) (0+x.toNat*6+1+1+1+1))) (133:Int) !=(0:Int))=false)∧(bits BinOp.andNot u16 (Zb (Zd undef (rels rs) (0+x.toNat*6+1+1+1+1))) (133:Int) !=(0:Int))=false)∧decide (i64.wrap (Zb (Zd undef (rels rs) (0+x.toNat*6+1+1+1+1+1)))>types)=true:St }):=by kernel_rfl
theorem Znp (Ze Zc types:Int) (nc nr ns:Nat) (data:List UInt8) (a b c d e f g h:Int) (rs:List Rl) (x:Int):evF Tryz.prog (ZH 3 YT) Zf 100 10 87 [YE Ze Zc types nc nr ns data,VS a b c d e f g h,.int .i64 x] ⟨67,[(65,⟨false,some (0,0),rels rs,none⟩)],[],0,(tb 44 13194273775608),0,True⟩=some (Value.bool (KA (u32.wrap (a+Zb (Zd undef (rels rs) (0+x.toNat*6+1+1)))).toNat (u64.wrap (u64.wrap (u32.wrap (a+Zb (Zd undef (rels rs) (0+x.toNat*6+1+1))))+u64.wrap (Zb (Zd undef (rels rs) (0+x.toNat*6+1+1+1))))).toNat),{ n:=70,h:=[(65,⟨false,some (0,0),rels rs,none⟩)],lo:=[],esc:=0,T:=[],k:=44,O:=(((((((((((((((((((((((((((((((((((bif Qc (0+(i64.wrap (x-(1:Int))).toNat*6+0+1) (rels rs)&&Zs [Value.int .u32 0] (rels rs) (0+(i64.wrap (x-(1:Int))).toNat*6+0) then((bif decide ((0:Int)≤i64.wrap (x-(1:Int)))&&decide (i64.wrap (x-(1:Int))<(↑nr:Int)) then((((((((bif Qc (0+x.toNat*6+6) (rels rs)&&Zs [Value.int .u32 0,.bool false,.int .u32 0,.int .u32 0,.int .u16 0,.int .u16 0] (rels rs) (0+x.toNat*6) then bif decide ((0:Int)≤x)&&decide (x<(↑nr:Int)) then True else False else False)∧((Zb (Zd undef (rels rs) (0+x.toNat*6))).tmod (16:Int) !=(0:Int))=false)∧((Zb (Zd undef (rels rs) (0+x.toNat*6))).tmod (16:Int) !=(0:Int))=false)∧((Zb (Zd undef (rels rs) (0+x.toNat*6))).tmod (16:Int) !=(0:Int))=false)∧decide (x>(0:Int))=true)∧decide (x>(0:Int))=true)∧decide (x>(0:Int))=true)∧decide (x>(0:Int))=true)∧decide (x>(0:Int))=true else False)∧decide (x>(0:Int))=true)∧decide (x>(0:Int))=true else False)∧decide (x>(0:Int))=true)∧decide (x>(0:Int))=true)∧decide (x>(0:Int))=true)∧((Zb (Zd undef (rels rs) (0+x.toNat*6))).tmod (16:Int) !=(0:Int))=false)∧decide (x>(0:Int))=true)∧((Zb (Zd undef (rels rs) (0+x.toNat*6))).tmod (16:Int) !=(0:Int))=false)∧decide (Zb (Zd undef (rels rs) (0+(i64.wrap (x-(1:Int))).toNat*6+0))≥Zb (Zd undef (rels rs) (0+x.toNat*6)))=false)∧decide (Zb (Zd undef (rels rs) (0+(i64.wrap (x-(1:Int))).toNat*6+0))≥Zb (Zd undef (rels rs) (0+x.toNat*6)))=false)∧decide (Zb (Zd undef (rels rs) (0+(i64.wrap (x-(1:Int))).toNat*6+0))≥Zb (Zd undef (rels rs) (0+x.toNat*6)))=false)∧decide (Zb (Zd undef (rels rs) (0+(i64.wrap (x-(1:Int))).toNat*6+0))≥Zb (Zd undef (rels rs) (0+x.toNat*6)))=false)∧decide (Zb (Zd undef (rels rs) (0+(i64.wrap (x-(1:Int))).toNat*6+0))≥Zb (Zd undef (rels rs) (0+x.toNat*6)))=false)∧decide (Zb (Zd undef (rels rs) (0+(i64.wrap (x-(1:Int))).toNat*6+0))≥Zb (Zd undef (rels rs) (0+x.toNat*6)))=false)∧decide (Zb (Zd undef (rels rs) (0+(i64.wrap (x-(1:Int))).toNat*6+0))≥Zb (Zd undef (rels rs) (0+x.toNat*6)))=false)∧decide (Zb (Zd undef (rels rs) (0+(i64.wrap (x-(1:Int))).toNat*6+0))≥Zb (Zd undef (rels rs) (0+x.toNat*6)))=false)∧decide (Zb (Zd undef (rels rs) (0+(i64.wrap (x-(1:Int))).toNat*6+0))≥Zb (Zd undef (rels rs) (0+x.toNat*6)))=false)∧decide (Zb (Zd undef (rels rs) (0+(i64.wrap (x-(1:Int))).toNat*6+0))≥Zb (Zd undef (rels rs) (0+x.toNat*6)))=false)∧decide (u64.wrap (u64.wrap (Zb (Zd undef (rels rs) (0+x.toNat*6)))+(16:Int))>u64.wrap (↑(Zr data)))=false)∧Zw (Zd undef (rels rs) (0+x.toNat*6+1))=true)∧decide (u64.wrap (u64.wrap (Zb (Zd undef (rels rs) (0+x.toNat*6+1+1)))+u64.wrap (Zb (Zd undef (rels rs) (0+x.toNat*6+1+1+1))))>u64.wrap ((4:Int)*u64.wrap (↑nc)))=false)∧decide (u64.wrap (u64.wrap (Zb (Zd undef (rels rs) (0+x.toNat*6+1+1)))+u64.wrap (Zb (Zd undef (rels rs) (0+x.toNat*6+1+1+1))))>u64.wrap ((4:Int)*u64.wrap (↑nc)))=false)∧decide (u64.wrap (u64.wrap (Zb (Zd undef (rels rs) (0+x.toNat*6+1+1)))+u64.wrap (Zb (Zd undef (rels rs) (0+x.toNat*6+1+1+1))))>u64.wrap ((4:Int)*u64.wrap (↑nc)))=false)∧decide (u64.wrap (u64.wrap (Zb (Zd undef (rels rs) (0+x.toNat*6+1+1)))+u64.wrap (Zb (Zd undef (rels rs) (0+x.toNat*6+1+1+1))))>u64.wrap ((4:Int)*u64.wrap (↑nc)))=false)∧decide (u64.wrap (u64.wrap (Zb (Zd undef (rels rs) (0+x.toNat*6+1+1)))+u64.wrap (Zb (Zd undef (rels rs) (0+x.toNat*6+1+1+1))))>u64.wrap ((4:Int)*u64.wrap (↑nc)))=false)∧decide (u64.wrap (u64.wrap (Zb (Zd undef (rels rs) (0+x.toNat*6+1+1)))+u64.wrap (Zb (Zd undef (rels rs) (0+x.toNat*6+1+1+1))))>u64.wrap ((4:Int)*u64.wrap (↑nc)))=false)∧(bits BinOp.andNot u16 (Zb (Zd undef (rels rs) (0+x.toNat*6+1+1+1+1))) (133:Int) !=(0:Int))=false)∧(bits BinOp.andNot u16 (Zb (Zd undef (rels rs) (0+x.toNat*6+1+1+1+1))) (133:Int) !=(0:Int))=false)∧(bits BinOp.andNot u16 (Zb (Zd undef (rels rs) (0+x.toNat*6+1+1+1+1))) (133:Int) !=(0:Int))=false)∧(bits BinOp.andNot u16 (Zb (Zd undef (rels rs) (0+x.toNat*6+1+1+1+1))) (133:Int) !=(0:Int))=false)∧(bits BinOp.andNot u16 (Zb (Zd undef (rels rs) (0+x.toNat*6+1+1+1+1))) (133:Int) !=(0:Int))=false)∧(bits BinOp.andNot u16 (Zb (Zd undef (rels rs) (0+x.toNat*6+1+1+1+1))) (133:Int) !=(0:Int))=false)∧(bits BinOp.andNot u16 (Zb (Zd undef (rels rs) (0+x.toNat*6+1+1+1+1))) (133:Int) !=(0:Int))=false)∧decide (i64.wrap (Zb (Zd undef (rels rs) (0+x.toNat*6+1+1+1+1+1)))>types)=false)∧(((0:Int)≤u32.wrap (a+Zb (Zd undef (rels rs) (0+x.toNat*6+1+1)))∧u32.wrap (a+Zb (Zd undef (rels rs) (0+x.toNat*6+1+1)))<(4294967296:Int))∧(0:Int)≤u64.wrap (u64.wrap (u32.wrap (a+Zb (Zd undef (rels rs) (0+x.toNat*6+1+1))))+u64.wrap (Zb (Zd undef (rels rs) (0+x.toNat*6+1+1+1))))∧u64.wrap (u64.wrap (u32.wrap (a+Zb (Zd undef (rels rs) (0+x.toNat*6+1+1))))+u64.wrap (Zb (Zd undef (rels rs) (0+x.toNat*6+1+1+1))))<(18446744073709551616:Int))∧(rr (Value.int .u32 (u32.wrap (a+Zb (Zd undef (rels rs) (0+x.toNat*6+1+1)))))∧rr (Value.int .u64 (u64.wrap (u64.wrap (u32.wrap (a+Zb (Zd undef (rels rs) (0+x.toNat*6+1+1))))+u64.wrap (Zb (Zd undef (rels rs) (0+x.toNat*6+1+1+1))))))∧True)∧True∧True)∧Qg (u32.wrap (a+Zb (Zd undef (rels rs) (0+x.toNat*6+1+1)))).toNat (u64.wrap (u64.wrap (u32.wrap (a+Zb (Zd undef (rels rs) (0+x.toNat*6+1+1))))+u64.wrap (Zb (Zd undef (rels rs) (0+x.toNat*6+1+1+1))))).toNat=true)∧Qg (u32.wrap (a+Zb (Zd undef (rels rs) (0+x.toNat*6+1+1)))).toNat (u64.wrap (u64.wrap (u32.wrap (a+Zb (Zd undef (rels rs) (0+x.toNat*6+1+1))))+u64.wrap (Zb (Zd undef (rels rs) (0+x.toNat*6+1+1+1))))).toNat=true:St }):=by kernel_rfl
def ZY (rs:List Rl) (k:Nat):Nat:=match k with|0=>0|k+1=>(rl0 rs k).at_+16
def UZ (Ze Zc types:Int) (nc ns:Nat) (data:List UInt8) (a:Nat) (b:Int) (c:Nat) (d e f g h:Int) (rs:List Rl) (k:Nat):Con :=
 ⟨[YE Ze Zc types nc rs.length ns data,VS a b c d e f g h,.int .i64 (k:Int)],67,[(65,⟨false,some (0,0),rels rs,none⟩)],[],.bool (Zy types nc data.length a c (rl0 rs k) (ZY rs k)),67,[(65,⟨false,some (0,0),rels rs,none⟩)],[]⟩
def VM (nc len a c:Nat) (rs:List Rl) (k:Nat):Prop :=
 QC nc len a c (rl0 rs k)∧k<rs.length∧rs.length≤100000∧match k with|0=>True|k+1=>(rl0 rs k).at_%16=0∧(rl0 rs k).at_+16≤len
theorem Zo5 (Ze Zc types:Int) (nc ns:Nat) (data:List UInt8) (a:Nat) (b:Int) (c:Nat) (d e f g h:Int) (rs:List Rl) (k:Nat):(UZ Ze Zc types nc ns data a b c d e f g h rs k).Wf 3 :=
 ⟨by show NG≤67; decide,Nat.le_refl _,⟨⟨rfl,rfl,Zv (ZC rs)⟩,trivial⟩,rfl,rfl,rfl,by kernel_rfl,rfl,fun x hx v hv=>by
  obtain rfl:=List.mem_singleton.1 hx
  exact ZS (ZC rs v hv) 3⟩
theorem Qa {Ze Zc types:Int} {nc ns:Nat} {data:List UInt8} {a:Nat} {b:Int} {c:Nat} {d e f g h:Int} {rs:List Rl} {k:Nat} {T:List (Nat×Bool)} {v:Value} {n k':Nat} {q:Prop}
  (hr:evF Tryz.prog (ZH 3 YT) Zf 100 10 87 [YE Ze Zc types nc rs.length ns data,VS a b c d e f g h,.int .i64 (k:Int)] ⟨67,[(65,⟨false,some (0,0),rels rs,none⟩)],[],0,T,0,True⟩=some (v,⟨n,[(65,⟨false,some (0,0),rels rs,none⟩)],[],0,[],k',q⟩))
  (hv:v = .bool (Zy types nc data.length a c (rl0 rs k) (ZY rs k))) (hq:q):ConOk Tryz.prog 87 3 (UZ Ze Zc types nc ns data a b c d e f g h rs k):=by
 subst hv
 refine ZF (Zu ZK (Z1 W3) (Zj _) 10) (Zo5 Ze Zc types nc ns data a b c d e f g h rs k) (T:=T) (p:=fun l=>Nat.blt l 67) (σ:=id) hr hq ?_
 exact⟨fun _ _=>rfl,⟨⟨rfl,Zh (ZC rs),rfl,rfl,rfl,trivial,(Zi (ZC rs)).symm⟩,trivial⟩,rfl,trivial,⟨rfl,rfl⟩,rfl,⟨⟨rfl,rfl,Zv (ZC rs)⟩,trivial⟩,rfl,Zz _ rfl,fun x _ _ => .inl rfl⟩
theorem Zlt (Ze Zc types:Int) (nc ns:Nat) (data:List UInt8) (a:Nat) (b:Int) (c:Nat) (d e f g h:Int) (rs:List Rl) (hq:VM nc data.length a c rs 0):ConOk Tryz.prog 87 3 (UZ Ze Zc types nc ns data a b c d e f g h rs 0):=by
 obtain⟨⟨hr,hn,hl,ha,hc⟩,hk,hm,hp⟩:=hq
 rcases hrr:rl0 rs 0 with⟨at_,code,off,size,perms,typ⟩
 rw[hrr] at hr
 have f0:Zb (Zd undef (rels rs) 0)=(at_:Int):=by
  have:=K0 hk; rw[hrr] at this; exact this
 have f1:Zw (Zd undef (rels rs) 1)=code:=by
  have:=Ue hk; rw[hrr] at this; exact this
 have f2:Zb (Zd undef (rels rs) 2)=(off:Int):=by
  have:=Uf hk; rw[hrr] at this; exact this
 have f3:Zb (Zd undef (rels rs) 3)=(size:Int):=by
  have:=Ug hk; rw[hrr] at this; exact this
 have f4:Zb (Zd undef (rels rs) 4)=(perms:Int):=by
  have:=Uh hk; rw[hrr] at this; exact this
 have f5:Zb (Zd undef (rels rs) 5)=(typ:Int):=by
  have:=Ui hk; rw[hrr] at this; exact this
 have g1:Qc 6 (rels rs)=true:=by rw[YZ]; simp; omega
 have g2:Zs [Value.int u32 (0:Int),Value.bool false,Value.int u32 (0:Int),Value.int u32 (0:Int),Value.int u16 (0:Int),Value.int u16 (0:Int)] (rels rs) 0=true:=XD (k:=0) hk _ _ _ _ _ _
 have g3:decide ((0:Int)<(rs.length:Int))=true:=by simp; omega
 have hb4:u64.wrap ((4:Int)*u64.wrap (nc:Int))=u64.wrap ((4*nc:Nat):Int):=by rw[IntKind.wrap_u64,IntKind.wrap_u64,IntKind.wrap_u64]; omega
 have hbh:ZY rs 0=0:=rfl
 cases code
 ·have hor:=Vi types nc data.length false at_ off size perms typ data.length 155 0 hr hn hl rfl rfl
  cases hA:((at_:Int).tmod 16 !=0)
  ·have ha0:at_%16=0:=by
    rw[show(16:Int)=((16:Nat):Int) from rfl,← Int.ofNat_tmod] at hA; simp only[rr, tt, bne_eq_false_iff_eq] at hA; omega
   have hB0:decide ((at_:Int)<((0:Nat):Int))=false:=by simp
   ·cases hC:decide (u64.wrap (u64.wrap (at_:Int)+16)>u64.wrap (data.length:Int))
    ·cases hD:decide (u64.wrap (u64.wrap (off:Int)+u64.wrap (size:Int))>u64.wrap (data.length:Int))
     ·cases hE:(bits BinOp.andNot u16 (perms:Int) 155 !=0)
      ·cases hF:decide (i64.wrap (typ:Int)>types)
       ·have ho:off+size≤16384:=by
         rw[IntKind.wrap_u64,IntKind.wrap_u64,IntKind.wrap_u64,IntKind.wrap_u64] at hD; have:=hr.off; have:=hr.size; simp only[rr, tt, decide_eq_false_iff_not] at *; omega
        have e1:u32.wrap ((c:Int)+(off:Int))=((c+off:Nat):Int):=by rw[IntKind.wrap_u32]; omega
        have e2:u64.wrap (u64.wrap ((c+off:Nat):Int)+u64.wrap (size:Int))=((c+off+size:Nat):Int):=by rw[IntKind.wrap_u64,IntKind.wrap_u64,IntKind.wrap_u64]; omega
        have z1:(0:Int)≤((c+off:Nat):Int):=by omega
        have z2:((c+off:Nat):Int)<4294967296:=by omega
        have z3:(0:Int)≤((c+off+size:Nat):Int):=by omega
        have z4:((c+off+size:Nat):Int)<18446744073709551616:=by omega
        have z5:Qg (c+off) (c+off+size)=true:=by unfold Qg; simp; omega
        have hh:=Znd Ze Zc types nc rs.length ns data a b c d e f g h rs
        try rw[f0] at hh
        try rw[f1] at hh
        try rw[f2] at hh
        try rw[f3] at hh
        try rw[f4] at hh
        try rw[f5] at hh
        try rw[Zq] at hh
        rw[e1,e2,Int.toNat_natCast,Int.toNat_natCast] at hh
        refine Qa hh ?_ ?_
        ·rw[hrr,hbh]; unfold Zy; rw[← hor]; simp only[rr, tt, hA,hC,hD,hE,hF,hB0,Bool.or_false,Bool.not_false,Bool.true_and,cond_false]
        ·simp only[rr, tt, g1,g2,g3,hA,hC,hD,hE,hF,z1,z2,z3,z4,z5,cond_true,Bool.and_true,Bool.and_self,and_true,true_and,eq_self,and_self]
       ·skip
        have hh:=Znc Ze Zc types nc rs.length ns data a b c d e f g h rs
        try rw[f0] at hh
        try rw[f1] at hh
        try rw[f2] at hh
        try rw[f3] at hh
        try rw[f4] at hh
        try rw[f5] at hh
        try rw[Zq] at hh
        refine Qa hh ?_ ?_
        ·rw[hrr,hbh]; unfold Zy; rw[← hor]; simp only[rr, tt, hA,hC,hD,hE,hF,Bool.true_or,Bool.or_true,Bool.not_true,Bool.false_and]
        ·simp only[rr, tt, g1,g2,g3,hA,hC,hD,hE,hF,cond_true,Bool.and_true,Bool.and_self,and_true,true_and,eq_self,and_self]
      ·skip
       have hh:=Znb Ze Zc types nc rs.length ns data a b c d e f g h rs
       try rw[f0] at hh
       try rw[f1] at hh
       try rw[f2] at hh
       try rw[f3] at hh
       try rw[f4] at hh
       try rw[f5] at hh
       try rw[Zq] at hh
       refine Qa hh ?_ ?_
       ·rw[hrr,hbh]; unfold Zy; rw[← hor]; simp only[rr, tt, hA,hC,hD,hE,Bool.true_or,Bool.or_true,Bool.not_true,Bool.false_and]
       ·simp only[rr, tt, g1,g2,g3,hA,hC,hD,hE,cond_true,Bool.and_true,Bool.and_self,and_true,true_and,eq_self,and_self]
     ·skip
      have hh:=Zna Ze Zc types nc rs.length ns data a b c d e f g h rs
      try rw[f0] at hh
      try rw[f1] at hh
      try rw[f2] at hh
      try rw[f3] at hh
      try rw[f4] at hh
      try rw[f5] at hh
      try rw[Zq] at hh
      refine Qa hh ?_ ?_
      ·rw[hrr,hbh]; unfold Zy; rw[← hor]; simp only[rr, tt, hA,hC,hD,Bool.true_or,Bool.or_true,Bool.not_true,Bool.false_and]
      ·simp only[rr, tt, g1,g2,g3,hA,hC,hD,cond_true,Bool.and_true,Bool.and_self,and_true,true_and,eq_self,and_self]
    ·skip
     have hh:=Zm8 Ze Zc types nc rs.length ns data a b c d e f g h rs
     try rw[f0] at hh
     try rw[f1] at hh
     try rw[f2] at hh
     try rw[f3] at hh
     try rw[f4] at hh
     try rw[f5] at hh
     try rw[Zq] at hh
     refine Qa hh ?_ ?_
     ·rw[hrr,hbh]; unfold Zy; rw[← hor]; simp only[rr, tt, hA,hC,Bool.true_or,Bool.or_true,Bool.not_true,Bool.false_and]
     ·simp only[rr, tt, g1,g2,g3,hA,hC,cond_true,Bool.and_true,Bool.and_self,and_true,true_and,eq_self,and_self]
  ·skip
   have hh:=Zm5 Ze Zc types nc rs.length ns data a b c d e f g h rs
   try rw[f0] at hh
   try rw[f1] at hh
   try rw[f2] at hh
   try rw[f3] at hh
   try rw[f4] at hh
   try rw[f5] at hh
   try rw[Zq] at hh
   refine Qa hh ?_ ?_
   ·rw[hrr,hbh]; unfold Zy; rw[← hor]; simp only[rr, tt, hA,Bool.true_or,Bool.or_true,Bool.not_true,Bool.false_and]
   ·simp only[rr, tt, g1,g2,g3,hA,cond_true,Bool.and_true,Bool.and_self,and_true,true_and,eq_self,and_self]
 ·have hor:=Vi types nc data.length true at_ off size perms typ (4*nc) 133 0 hr hn hl rfl rfl
  cases hA:((at_:Int).tmod 16 !=0)
  ·have ha0:at_%16=0:=by
    rw[show(16:Int)=((16:Nat):Int) from rfl,← Int.ofNat_tmod] at hA; simp only[rr, tt, bne_eq_false_iff_eq] at hA; omega
   have hB0:decide ((at_:Int)<((0:Nat):Int))=false:=by simp
   ·cases hC:decide (u64.wrap (u64.wrap (at_:Int)+16)>u64.wrap (data.length:Int))
    ·cases hD:decide (u64.wrap (u64.wrap (off:Int)+u64.wrap (size:Int))>u64.wrap ((4*nc:Nat):Int))
     ·cases hE:(bits BinOp.andNot u16 (perms:Int) 133 !=0)
      ·cases hF:decide (i64.wrap (typ:Int)>types)
       ·have ho:off+size≤16384:=by
         rw[IntKind.wrap_u64,IntKind.wrap_u64,IntKind.wrap_u64,IntKind.wrap_u64] at hD; have:=hr.off; have:=hr.size; simp only[rr, tt, decide_eq_false_iff_not] at *; omega
        have e1:u32.wrap ((a:Int)+(off:Int))=((a+off:Nat):Int):=by rw[IntKind.wrap_u32]; omega
        have e2:u64.wrap (u64.wrap ((a+off:Nat):Int)+u64.wrap (size:Int))=((a+off+size:Nat):Int):=by rw[IntKind.wrap_u64,IntKind.wrap_u64,IntKind.wrap_u64]; omega
        have z1:(0:Int)≤((a+off:Nat):Int):=by omega
        have z2:((a+off:Nat):Int)<4294967296:=by omega
        have z3:(0:Int)≤((a+off+size:Nat):Int):=by omega
        have z4:((a+off+size:Nat):Int)<18446744073709551616:=by omega
        have z5:Qg (a+off) (a+off+size)=true:=by unfold Qg; simp; omega
        have hh:=Znh Ze Zc types nc rs.length ns data a b c d e f g h rs
        try rw[f0] at hh
        try rw[f1] at hh
        try rw[f2] at hh
        try rw[f3] at hh
        try rw[f4] at hh
        try rw[f5] at hh
        try rw[Zq] at hh
        try rw[hb4] at hh
        rw[e1,e2,Int.toNat_natCast,Int.toNat_natCast] at hh
        refine Qa hh ?_ ?_
        ·rw[hrr,hbh]; unfold Zy; rw[← hor]; simp only[rr, tt, hA,hC,hD,hE,hF,hB0,Bool.or_false,Bool.not_false,Bool.true_and,cond_true]
        ·simp only[rr, tt, g1,g2,g3,hA,hC,hD,hE,hF,z1,z2,z3,z4,z5,cond_true,Bool.and_true,Bool.and_self,and_true,true_and,eq_self,and_self]
       ·skip
        have hh:=Zng Ze Zc types nc rs.length ns data a b c d e f g h rs
        try rw[f0] at hh
        try rw[f1] at hh
        try rw[f2] at hh
        try rw[f3] at hh
        try rw[f4] at hh
        try rw[f5] at hh
        try rw[Zq] at hh
        try rw[hb4] at hh
        refine Qa hh ?_ ?_
        ·rw[hrr,hbh]; unfold Zy; rw[← hor]; simp only[rr, tt, hA,hC,hD,hE,hF,Bool.true_or,Bool.or_true,Bool.not_true,Bool.false_and]
        ·simp only[rr, tt, g1,g2,g3,hA,hC,hD,hE,hF,cond_true,Bool.and_true,Bool.and_self,and_true,true_and,eq_self,and_self]
      ·skip
       have hh:=Znf Ze Zc types nc rs.length ns data a b c d e f g h rs
       try rw[f0] at hh
       try rw[f1] at hh
       try rw[f2] at hh
       try rw[f3] at hh
       try rw[f4] at hh
       try rw[f5] at hh
       try rw[Zq] at hh
       try rw[hb4] at hh
       refine Qa hh ?_ ?_
       ·rw[hrr,hbh]; unfold Zy; rw[← hor]; simp only[rr, tt, hA,hC,hD,hE,Bool.true_or,Bool.or_true,Bool.not_true,Bool.false_and]
       ·simp only[rr, tt, g1,g2,g3,hA,hC,hD,hE,cond_true,Bool.and_true,Bool.and_self,and_true,true_and,eq_self,and_self]
     ·skip
      have hh:=Zne Ze Zc types nc rs.length ns data a b c d e f g h rs
      try rw[f0] at hh
      try rw[f1] at hh
      try rw[f2] at hh
      try rw[f3] at hh
      try rw[f4] at hh
      try rw[f5] at hh
      try rw[Zq] at hh
      try rw[hb4] at hh
      refine Qa hh ?_ ?_
      ·rw[hrr,hbh]; unfold Zy; rw[← hor]; simp only[rr, tt, hA,hC,hD,Bool.true_or,Bool.or_true,Bool.not_true,Bool.false_and]
      ·simp only[rr, tt, g1,g2,g3,hA,hC,hD,cond_true,Bool.and_true,Bool.and_self,and_true,true_and,eq_self,and_self]
    ·skip
     have hh:=Zm8 Ze Zc types nc rs.length ns data a b c d e f g h rs
     try rw[f0] at hh
     try rw[f1] at hh
     try rw[f2] at hh
     try rw[f3] at hh
     try rw[f4] at hh
     try rw[f5] at hh
     try rw[Zq] at hh
     try rw[hb4] at hh
     refine Qa hh ?_ ?_
     ·rw[hrr,hbh]; unfold Zy; rw[← hor]; simp only[rr, tt, hA,hC,Bool.true_or,Bool.or_true,Bool.not_true,Bool.false_and]
     ·simp only[rr, tt, g1,g2,g3,hA,hC,cond_true,Bool.and_true,Bool.and_self,and_true,true_and,eq_self,and_self]
  ·skip
   have hh:=Zm5 Ze Zc types nc rs.length ns data a b c d e f g h rs
   try rw[f0] at hh
   try rw[f1] at hh
   try rw[f2] at hh
   try rw[f3] at hh
   try rw[f4] at hh
   try rw[f5] at hh
   try rw[Zq] at hh
   try rw[hb4] at hh
   refine Qa hh ?_ ?_
   ·rw[hrr,hbh]; unfold Zy; rw[← hor]; simp only[rr, tt, hA,Bool.true_or,Bool.or_true,Bool.not_true,Bool.false_and]
   ·simp only[rr, tt, g1,g2,g3,hA,cond_true,Bool.and_true,Bool.and_self,and_true,true_and,eq_self,and_self]
theorem Zlu (Ze Zc types:Int) (nc ns:Nat) (data:List UInt8) (a:Nat) (b:Int) (c:Nat) (d e f g h:Int) (rs:List Rl) (k:Nat) (hq:VM nc data.length a c rs (k+1)):ConOk Tryz.prog 87 3 (UZ Ze Zc types nc ns data a b c d e f g h rs (k+1)):=by
 obtain⟨⟨hr,hn,hl,ha,hc⟩,hk,hm,hp⟩:=hq
 rcases hrr:rl0 rs (k+1) with⟨at_,code,off,size,perms,typ⟩
 rw[hrr] at hr
 have f0:Zb (Zd undef (rels rs) (0+(((k+1:Nat):Int)).toNat*6))=(at_:Int):=by
  rw[Int.toNat_natCast,Nat.zero_add]; have:=K0 hk; rw[hrr] at this; exact this
 have f1:Zw (Zd undef (rels rs) (0+(((k+1:Nat):Int)).toNat*6+1))=code:=by
  rw[Int.toNat_natCast,Nat.zero_add]; have:=Ue hk; rw[hrr] at this; exact this
 have f2:Zb (Zd undef (rels rs) (0+(((k+1:Nat):Int)).toNat*6+1+1))=(off:Int):=by
  rw[Int.toNat_natCast,Nat.zero_add]; have:=Uf hk; rw[hrr] at this; exact this
 have f3:Zb (Zd undef (rels rs) (0+(((k+1:Nat):Int)).toNat*6+1+1+1))=(size:Int):=by
  rw[Int.toNat_natCast,Nat.zero_add]; have:=Ug hk; rw[hrr] at this; exact this
 have f4:Zb (Zd undef (rels rs) (0+(((k+1:Nat):Int)).toNat*6+1+1+1+1))=(perms:Int):=by
  rw[Int.toNat_natCast,Nat.zero_add]; have:=Uh hk; rw[hrr] at this; exact this
 have f5:Zb (Zd undef (rels rs) (0+(((k+1:Nat):Int)).toNat*6+1+1+1+1+1))=(typ:Int):=by
  rw[Int.toNat_natCast,Nat.zero_add]; have:=Ui hk; rw[hrr] at this; exact this
 have hw:i64.wrap (((k+1:Nat):Int)-1)=(k:Int):=by rw[wrap_i64 (by omega) (by omega)]; omega
 have hx:decide (((k+1:Nat):Int)>0)=true:=by rw[decide_eq_true_eq]; omega
 have g1:Qc (0+(((k+1:Nat):Int)).toNat*6+6) (rels rs)=true:=by rw[YZ,Int.toNat_natCast]; simp; omega
 have g2:Zs [Value.int u32 (0:Int),Value.bool false,Value.int u32 (0:Int),Value.int u32 (0:Int),Value.int u16 (0:Int),Value.int u16 (0:Int)] (rels rs) (0+(((k+1:Nat):Int)).toNat*6)=true:=by rw[Int.toNat_natCast,Nat.zero_add]; exact XD hk _ _ _ _ _ _
 have g3:Qc (0+(k:Int).toNat*6+0+1) (rels rs)=true:=by rw[YZ,Int.toNat_natCast]; simp; omega
 have g4:Zs [Value.int u32 (0:Int)] (rels rs) (0+(k:Int).toNat*6+0)=true:=by rw[Int.toNat_natCast,Nat.zero_add,Nat.add_zero]; exact UY (by omega) _
 have g5:decide ((0:Int)≤((k+1:Nat):Int))=true:=by simp; omega
 have g6:decide (((k+1:Nat):Int)<(rs.length:Int))=true:=by simp; omega
 have g7:decide ((0:Int)≤(k:Int))=true:=by simp
 have g8:decide ((k:Int)<(rs.length:Int))=true:=by simp; omega
 have fp:Zb (Zd undef (rels rs) (0+(k:Int).toNat*6+0))=((rl0 rs k).at_:Int):=by rw[Int.toNat_natCast,Nat.zero_add,Nat.add_zero]; exact K0 (by omega)
 have hb4:u64.wrap ((4:Int)*u64.wrap (nc:Int))=u64.wrap ((4*nc:Nat):Int):=by rw[IntKind.wrap_u64,IntKind.wrap_u64,IntKind.wrap_u64]; omega
 have hbh:ZY rs (k+1)=(rl0 rs k).at_+16:=rfl
 cases code
 ·have hor:=Vi types nc data.length false at_ off size perms typ data.length 155 ((rl0 rs k).at_+16) hr hn hl rfl rfl
  cases hA:((at_:Int).tmod 16 !=0)
  ·have ha0:at_%16=0:=by
    rw[show(16:Int)=((16:Nat):Int) from rfl,← Int.ofNat_tmod] at hA; simp only[rr, tt, bne_eq_false_iff_eq] at hA; omega
   have hBB:decide ((at_:Int)<(((rl0 rs k).at_+16:Nat):Int))=decide (((rl0 rs k).at_:Int)≥(at_:Int)):=by
    have:=hp.1; rw[Bool.eq_iff_iff]; simp only[rr, tt, decide_eq_true_eq]; omega
   cases hB:decide (((rl0 rs k).at_:Int)≥(at_:Int))
   ·cases hC:decide (u64.wrap (u64.wrap (at_:Int)+16)>u64.wrap (data.length:Int))
    ·cases hD:decide (u64.wrap (u64.wrap (off:Int)+u64.wrap (size:Int))>u64.wrap (data.length:Int))
     ·cases hE:(bits BinOp.andNot u16 (perms:Int) 155 !=0)
      ·cases hF:decide (i64.wrap (typ:Int)>types)
       ·have ho:off+size≤16384:=by
         rw[IntKind.wrap_u64,IntKind.wrap_u64,IntKind.wrap_u64,IntKind.wrap_u64] at hD; have:=hr.off; have:=hr.size; simp only[rr, tt, decide_eq_false_iff_not] at *; omega
        have e1:u32.wrap ((c:Int)+(off:Int))=((c+off:Nat):Int):=by rw[IntKind.wrap_u32]; omega
        have e2:u64.wrap (u64.wrap ((c+off:Nat):Int)+u64.wrap (size:Int))=((c+off+size:Nat):Int):=by rw[IntKind.wrap_u64,IntKind.wrap_u64,IntKind.wrap_u64]; omega
        have z1:(0:Int)≤((c+off:Nat):Int):=by omega
        have z2:((c+off:Nat):Int)<4294967296:=by omega
        have z3:(0:Int)≤((c+off+size:Nat):Int):=by omega
        have z4:((c+off+size:Nat):Int)<18446744073709551616:=by omega
        have z5:Qg (c+off) (c+off+size)=true:=by unfold Qg; simp; omega
        have hh:=Znl Ze Zc types nc rs.length ns data a b c d e f g h rs ((k+1:Nat):Int)
        try rw[hw] at hh
        try rw[fp] at hh
        try rw[f0] at hh
        try rw[f1] at hh
        try rw[f2] at hh
        try rw[f3] at hh
        try rw[f4] at hh
        try rw[f5] at hh
        try rw[Zq] at hh
        rw[e1,e2,Int.toNat_natCast,Int.toNat_natCast] at hh
        refine Qa hh ?_ ?_
        ·rw[hrr,hbh]; unfold Zy; rw[← hor]; simp only[rr, tt, hA,hB,hC,hD,hE,hF,hBB,Bool.or_false,Bool.not_false,Bool.true_and,cond_false]
        ·simp only[rr, tt, hx,g1,g2,g3,g4,g5,g6,g7,g8,hA,hB,hC,hD,hE,hF,z1,z2,z3,z4,z5,cond_true,Bool.and_true,Bool.and_self,and_true,true_and,eq_self,and_self]
       ·skip
        have hh:=Znk Ze Zc types nc rs.length ns data a b c d e f g h rs ((k+1:Nat):Int)
        try rw[hw] at hh
        try rw[fp] at hh
        try rw[f0] at hh
        try rw[f1] at hh
        try rw[f2] at hh
        try rw[f3] at hh
        try rw[f4] at hh
        try rw[f5] at hh
        try rw[Zq] at hh
        refine Qa hh ?_ ?_
        ·rw[hrr,hbh]; unfold Zy; rw[← hor]; simp only[rr, tt, hA,hB,hC,hD,hE,hF,hBB,Bool.true_or,Bool.or_true,Bool.not_true,Bool.false_and]
        ·simp only[rr, tt, hx,g1,g2,g3,g4,g5,g6,g7,g8,hA,hB,hC,hD,hE,hF,cond_true,Bool.and_true,Bool.and_self,and_true,true_and,eq_self,and_self]
      ·skip
       have hh:=Znj Ze Zc types nc rs.length ns data a b c d e f g h rs ((k+1:Nat):Int)
       try rw[hw] at hh
       try rw[fp] at hh
       try rw[f0] at hh
       try rw[f1] at hh
       try rw[f2] at hh
       try rw[f3] at hh
       try rw[f4] at hh
       try rw[f5] at hh
       try rw[Zq] at hh
       refine Qa hh ?_ ?_
       ·rw[hrr,hbh]; unfold Zy; rw[← hor]; simp only[rr, tt, hA,hB,hC,hD,hE,hBB,Bool.true_or,Bool.or_true,Bool.not_true,Bool.false_and]
       ·simp only[rr, tt, hx,g1,g2,g3,g4,g5,g6,g7,g8,hA,hB,hC,hD,hE,cond_true,Bool.and_true,Bool.and_self,and_true,true_and,eq_self,and_self]
     ·skip
      have hh:=Zni Ze Zc types nc rs.length ns data a b c d e f g h rs ((k+1:Nat):Int)
      try rw[hw] at hh
      try rw[fp] at hh
      try rw[f0] at hh
      try rw[f1] at hh
      try rw[f2] at hh
      try rw[f3] at hh
      try rw[f4] at hh
      try rw[f5] at hh
      try rw[Zq] at hh
      refine Qa hh ?_ ?_
      ·rw[hrr,hbh]; unfold Zy; rw[← hor]; simp only[rr, tt, hA,hB,hC,hD,hBB,Bool.true_or,Bool.or_true,Bool.not_true,Bool.false_and]
      ·simp only[rr, tt, hx,g1,g2,g3,g4,g5,g6,g7,g8,hA,hB,hC,hD,cond_true,Bool.and_true,Bool.and_self,and_true,true_and,eq_self,and_self]
    ·skip
     have hh:=Zm9 Ze Zc types nc rs.length ns data a b c d e f g h rs ((k+1:Nat):Int)
     try rw[hw] at hh
     try rw[fp] at hh
     try rw[f0] at hh
     try rw[f1] at hh
     try rw[f2] at hh
     try rw[f3] at hh
     try rw[f4] at hh
     try rw[f5] at hh
     try rw[Zq] at hh
     refine Qa hh ?_ ?_
     ·rw[hrr,hbh]; unfold Zy; rw[← hor]; simp only[rr, tt, hA,hB,hC,hBB,Bool.true_or,Bool.or_true,Bool.not_true,Bool.false_and]
     ·simp only[rr, tt, hx,g1,g2,g3,g4,g5,g6,g7,g8,hA,hB,hC,cond_true,Bool.and_true,Bool.and_self,and_true,true_and,eq_self,and_self]
   ·skip
    have hh:=Zm7 Ze Zc types nc rs.length ns data a b c d e f g h rs ((k+1:Nat):Int)
    try rw[hw] at hh
    try rw[fp] at hh
    try rw[f0] at hh
    try rw[f1] at hh
    try rw[f2] at hh
    try rw[f3] at hh
    try rw[f4] at hh
    try rw[f5] at hh
    try rw[Zq] at hh
    refine Qa hh ?_ ?_
    ·rw[hrr,hbh]; unfold Zy; rw[← hor]; simp only[rr, tt, hA,hB,hBB,Bool.true_or,Bool.or_true,Bool.not_true,Bool.false_and]
    ·simp only[rr, tt, hx,g1,g2,g3,g4,g5,g6,g7,g8,hA,hB,cond_true,Bool.and_true,Bool.and_self,and_true,true_and,eq_self,and_self]
  ·skip
   have hh:=Zm6 Ze Zc types nc rs.length ns data a b c d e f g h rs ((k+1:Nat):Int)
   try rw[hw] at hh
   try rw[fp] at hh
   try rw[f0] at hh
   try rw[f1] at hh
   try rw[f2] at hh
   try rw[f3] at hh
   try rw[f4] at hh
   try rw[f5] at hh
   try rw[Zq] at hh
   refine Qa hh ?_ ?_
   ·rw[hrr,hbh]; unfold Zy; rw[← hor]; simp only[rr, tt, hA,Bool.true_or,Bool.or_true,Bool.not_true,Bool.false_and]
   ·simp only[rr, tt, hx,g1,g2,g3,g4,g5,g6,g7,g8,hA,cond_true,Bool.and_true,Bool.and_self,and_true,true_and,eq_self,and_self]
 ·have hor:=Vi types nc data.length true at_ off size perms typ (4*nc) 133 ((rl0 rs k).at_+16) hr hn hl rfl rfl
  cases hA:((at_:Int).tmod 16 !=0)
  ·have ha0:at_%16=0:=by
    rw[show(16:Int)=((16:Nat):Int) from rfl,← Int.ofNat_tmod] at hA; simp only[rr, tt, bne_eq_false_iff_eq] at hA; omega
   have hBB:decide ((at_:Int)<(((rl0 rs k).at_+16:Nat):Int))=decide (((rl0 rs k).at_:Int)≥(at_:Int)):=by
    have:=hp.1; rw[Bool.eq_iff_iff]; simp only[rr, tt, decide_eq_true_eq]; omega
   cases hB:decide (((rl0 rs k).at_:Int)≥(at_:Int))
   ·cases hC:decide (u64.wrap (u64.wrap (at_:Int)+16)>u64.wrap (data.length:Int))
    ·cases hD:decide (u64.wrap (u64.wrap (off:Int)+u64.wrap (size:Int))>u64.wrap ((4*nc:Nat):Int))
     ·cases hE:(bits BinOp.andNot u16 (perms:Int) 133 !=0)
      ·cases hF:decide (i64.wrap (typ:Int)>types)
       ·have ho:off+size≤16384:=by
         rw[IntKind.wrap_u64,IntKind.wrap_u64,IntKind.wrap_u64,IntKind.wrap_u64] at hD; have:=hr.off; have:=hr.size; simp only[rr, tt, decide_eq_false_iff_not] at *; omega
        have e1:u32.wrap ((a:Int)+(off:Int))=((a+off:Nat):Int):=by rw[IntKind.wrap_u32]; omega
        have e2:u64.wrap (u64.wrap ((a+off:Nat):Int)+u64.wrap (size:Int))=((a+off+size:Nat):Int):=by rw[IntKind.wrap_u64,IntKind.wrap_u64,IntKind.wrap_u64]; omega
        have z1:(0:Int)≤((a+off:Nat):Int):=by omega
        have z2:((a+off:Nat):Int)<4294967296:=by omega
        have z3:(0:Int)≤((a+off+size:Nat):Int):=by omega
        have z4:((a+off+size:Nat):Int)<18446744073709551616:=by omega
        have z5:Qg (a+off) (a+off+size)=true:=by unfold Qg; simp; omega
        have hh:=Znp Ze Zc types nc rs.length ns data a b c d e f g h rs ((k+1:Nat):Int)
        try rw[hw] at hh
        try rw[fp] at hh
        try rw[f0] at hh
        try rw[f1] at hh
        try rw[f2] at hh
        try rw[f3] at hh
        try rw[f4] at hh
        try rw[f5] at hh
        try rw[Zq] at hh
        try rw[hb4] at hh
        rw[e1,e2,Int.toNat_natCast,Int.toNat_natCast] at hh
        refine Qa hh ?_ ?_
        ·rw[hrr,hbh]; unfold Zy; rw[← hor]; simp only[rr, tt, hA,hB,hC,hD,hE,hF,hBB,Bool.or_false,Bool.not_false,Bool.true_and,cond_true]
        ·simp only[rr, tt, hx,g1,g2,g3,g4,g5,g6,g7,g8,hA,hB,hC,hD,hE,hF,z1,z2,z3,z4,z5,cond_true,Bool.and_true,Bool.and_self,and_true,true_and,eq_self,and_self]
       ·skip
        have hh:=Zno Ze Zc types nc rs.length ns data a b c d e f g h rs ((k+1:Nat):Int)
        try rw[hw] at hh
        try rw[fp] at hh
        try rw[f0] at hh
        try rw[f1] at hh
        try rw[f2] at hh
        try rw[f3] at hh
        try rw[f4] at hh
        try rw[f5] at hh
        try rw[Zq] at hh
        try rw[hb4] at hh
        refine Qa hh ?_ ?_
        ·rw[hrr,hbh]; unfold Zy; rw[← hor]; simp only[rr, tt, hA,hB,hC,hD,hE,hF,hBB,Bool.true_or,Bool.or_true,Bool.not_true,Bool.false_and]
        ·simp only[rr, tt, hx,g1,g2,g3,g4,g5,g6,g7,g8,hA,hB,hC,hD,hE,hF,cond_true,Bool.and_true,Bool.and_self,and_true,true_and,eq_self,and_self]
      ·skip
       have hh:=Znn Ze Zc types nc rs.length ns data a b c d e f g h rs ((k+1:Nat):Int)
       try rw[hw] at hh
       try rw[fp] at hh
       try rw[f0] at hh
       try rw[f1] at hh
       try rw[f2] at hh
       try rw[f3] at hh
       try rw[f4] at hh
       try rw[f5] at hh
       try rw[Zq] at hh
       try rw[hb4] at hh
       refine Qa hh ?_ ?_
       ·rw[hrr,hbh]; unfold Zy; rw[← hor]; simp only[rr, tt, hA,hB,hC,hD,hE,hBB,Bool.true_or,Bool.or_true,Bool.not_true,Bool.false_and]
       ·simp only[rr, tt, hx,g1,g2,g3,g4,g5,g6,g7,g8,hA,hB,hC,hD,hE,cond_true,Bool.and_true,Bool.and_self,and_true,true_and,eq_self,and_self]
     ·skip
      have hh:=Znm Ze Zc types nc rs.length ns data a b c d e f g h rs ((k+1:Nat):Int)
      try rw[hw] at hh
      try rw[fp] at hh
      try rw[f0] at hh
      try rw[f1] at hh
      try rw[f2] at hh
      try rw[f3] at hh
      try rw[f4] at hh
      try rw[f5] at hh
      try rw[Zq] at hh
      try rw[hb4] at hh
      refine Qa hh ?_ ?_
      ·rw[hrr,hbh]; unfold Zy; rw[← hor]; simp only[rr, tt, hA,hB,hC,hD,hBB,Bool.true_or,Bool.or_true,Bool.not_true,Bool.false_and]
      ·simp only[rr, tt, hx,g1,g2,g3,g4,g5,g6,g7,g8,hA,hB,hC,hD,cond_true,Bool.and_true,Bool.and_self,and_true,true_and,eq_self,and_self]
    ·skip
     have hh:=Zm9 Ze Zc types nc rs.length ns data a b c d e f g h rs ((k+1:Nat):Int)
     try rw[hw] at hh
     try rw[fp] at hh
     try rw[f0] at hh
     try rw[f1] at hh
     try rw[f2] at hh
     try rw[f3] at hh
     try rw[f4] at hh
     try rw[f5] at hh
     try rw[Zq] at hh
     try rw[hb4] at hh
     refine Qa hh ?_ ?_
     ·rw[hrr,hbh]; unfold Zy; rw[← hor]; simp only[rr, tt, hA,hB,hC,hBB,Bool.true_or,Bool.or_true,Bool.not_true,Bool.false_and]
     ·simp only[rr, tt, hx,g1,g2,g3,g4,g5,g6,g7,g8,hA,hB,hC,cond_true,Bool.and_true,Bool.and_self,and_true,true_and,eq_self,and_self]
   ·skip
    have hh:=Zm7 Ze Zc types nc rs.length ns data a b c d e f g h rs ((k+1:Nat):Int)
    try rw[hw] at hh
    try rw[fp] at hh
    try rw[f0] at hh
    try rw[f1] at hh
    try rw[f2] at hh
    try rw[f3] at hh
    try rw[f4] at hh
    try rw[f5] at hh
    try rw[Zq] at hh
    try rw[hb4] at hh
    refine Qa hh ?_ ?_
    ·rw[hrr,hbh]; unfold Zy; rw[← hor]; simp only[rr, tt, hA,hB,hBB,Bool.true_or,Bool.or_true,Bool.not_true,Bool.false_and]
    ·simp only[rr, tt, hx,g1,g2,g3,g4,g5,g6,g7,g8,hA,hB,cond_true,Bool.and_true,Bool.and_self,and_true,true_and,eq_self,and_self]
  ·skip
   have hh:=Zm6 Ze Zc types nc rs.length ns data a b c d e f g h rs ((k+1:Nat):Int)
   try rw[hw] at hh
   try rw[fp] at hh
   try rw[f0] at hh
   try rw[f1] at hh
   try rw[f2] at hh
   try rw[f3] at hh
   try rw[f4] at hh
   try rw[f5] at hh
   try rw[Zq] at hh
   try rw[hb4] at hh
   refine Qa hh ?_ ?_
   ·rw[hrr,hbh]; unfold Zy; rw[← hor]; simp only[rr, tt, hA,Bool.true_or,Bool.or_true,Bool.not_true,Bool.false_and]
   ·simp only[rr, tt, hx,g1,g2,g3,g4,g5,g6,g7,g8,hA,cond_true,Bool.and_true,Bool.and_self,and_true,true_and,eq_self,and_self]
def Zcb:List Value→List Rl
 | a::b::c::d::e::f::l=>⟨(Zb a).toNat,Zw b,(Zb c).toNat,(Zb d).toNat,(Zb e).toNat,(Zb f).toNat⟩::Zcb l
 | _=>[]
def Za6:WH:=fun f args _ =>
 match args with
 | [.agg ⟨[.int _ Ze,.int _ Zc,.int _ types,.slice (some i) nc _,.string ⟨⟨data⟩⟩,.slice (some j) nr _,.slice (some k) ns _]⟩,.agg ⟨[.int _ a,.int _ b,.int _ c,.int _ d,.int _ e,.int _ g,.int _ h,.int _ m]⟩,.agg ⟨[.int _ x,.bool code,.int _ off,.int _ size,.int _ perms,.int _ typ]⟩,.int _ behind] =>
  bif Nat.beq f 41 then some (Zg4 Ze Zc types nc nr ns data a.toNat b c.toNat d e g h m ⟨x.toNat,code,off.toNat,size.toNat,perms.toNat,typ.toNat⟩ behind.toNat,[i.block,j.block,k.block],QC nc data.length a.toNat c.toNat ⟨x.toNat,code,off.toNat,size.toNat,perms.toNat,typ.toNat⟩) else none
 | _=>none
theorem Zc6:YN Tryz.prog 3 Za6:=by
 intro f args s c ρ q h hq
 unfold Za6 at h
 split at h
 ·obtain⟨h2,h⟩:=ZL h
  have h2:=eB h2
  subst h2
  cases h
  exact Zfc _ _ _ _ _ _ _ _ _ _ _ _ _ _ _ _ _ hq
 ·cases h
theorem Zcc (Ze Zc types:Int) (nc ns:Nat) (data:List UInt8) (a:Nat) (b:Int) (c:Nat) (d e f g h:Int) (rs:List Rl) (k:Nat) (hq:VM nc data.length a c rs k):ConOk Tryz.prog 87 3 (UZ Ze Zc types nc ns data a b c d e f g h rs k):=by
 cases k with
 | zero=>exact Zlt Ze Zc types nc ns data a b c d e f g h rs hq
 | succ k=>exact Zlu Ze Zc types nc ns data a b c d e f g h rs k hq
def Za7:WH:=fun f args s =>
 match args with
 | [.agg ⟨[.int _ Ze,.int _ Zc,.int _ types,.slice (some i) nc _,.string ⟨⟨data⟩⟩,.slice (some j) _ _,.slice (some k) ns _]⟩,.agg ⟨[.int _ a,.int _ b,.int _ c,.int _ d,.int _ e,.int _ g,.int _ h,.int _ m]⟩,.int _ x] =>
  bif Nat.beq f 87 then(Sy.look s.h j.block).map fun bk=>(UZ Ze Zc types nc ns data a.toNat b c.toNat d e g h m (Zcb bk.cells) x.toNat,[i.block,j.block,k.block],VM nc data.length a.toNat c.toNat (Zcb bk.cells) x.toNat) else none
 | _=>none
theorem Zc7:YN Tryz.prog 3 Za7:=by
 intro f args s c ρ q h hq
 unfold Za7 at h
 split at h
 ·obtain⟨h2,h⟩:=ZL h
  have h2:=eB h2
  subst h2
  obtain⟨bk,_,h⟩:=oM h
  cases h
  exact Zcc _ _ _ _ _ _ _ _ _ _ _ _ _ _ _ _ hq
 ·cases h
def Zbn:WH:=WK Za6 (WK Za7 YT)
theorem Za8:YN Tryz.prog 3 Zbn:=XQ Zc6 (XQ Zc7 W3)
theorem st_a (Ze:Int) (Zc:Int) (types:Int) (nc:Nat) (nr:Nat) (data:List UInt8) (Za:List Nat) (k:Nat):evC Tryz.prog (evF Tryz.prog ZD Zf 100 3) (Zf 72) 19 100 (ZB Tryz.prog 72 0) (Sf.frT 19 (stI Ze Zc types nc nr data Za k) [(0,true),(1,true)])=some (Exit.ret,{ e:=[[Value.slice (some ⟨66,0,none⟩) Za.length 9223372036854775874,.func (Fn.func 39) { toList:=[] } { toList:=[Value.pointer (some ⟨67,0,none⟩)] },unk,unk,.int .i64 (↑k),.int .i64 (↑k),unk,.int .i64 (↑Za.length),.int .i64 (↑k),.bool (decide ((↑k:Int)<(↑Za.length:Int))),.int .i64 (↑k),.func (Fn.func 39) { toList:=[] } { toList:=[Value.pointer (some ⟨67,0,none⟩)] },.slice (some ⟨66,0,none⟩) Za.length 9223372036854775874,.int .i64 (↑k),.pointer (some { block:=66,off:=0+(↑k:Int).toNat*1 }),.int .u32 (Zb (Zd undef (Zk Za) (0+(↑k:Int).toNat*1)))],[Value.bool (decide (i64.wrap (Zb (Zd undef (Zk Za) (0+(↑k:Int).toNat*1)))≥(↑nc:Int))),.int .i64 (↑k),unk,unk,unk,unk,unk,unk,unk,unk,unk,unk,unk,unk,unk,unk]],s:={ n:=71,h:=[(66,⟨false,some (0,0),Zk Za,none⟩),(67,⟨false,none,[Value.int .i64 Ze,.int .i64 Zc,.int .i64 types,.slice (some ⟨64,0,none⟩) nc 9223372036854775872,.string ⟨⟨data⟩⟩,.slice (some ⟨65,0,none⟩) nr 9223372036854775873,.slice (some ⟨66,0,none⟩) Za.length 9223372036854775874],none⟩)],lo:=[],esc:=0,T:=[],k:=2,O:=(bif Qc (0+(↑k:Int).toNat*1+1) (Zk Za)&&Zs [Value.int .u32 0] (Zk Za) (0+(↑k:Int).toNat*1) then bif decide ((0:Int)≤(↑k:Int))&&decide ((↑k:Int)<(↑Za.length:Int)) then True∧decide ((↑k:Int)<(↑Za.length:Int))=true else False else False)∧decide (i64.wrap (Zb (Zd undef (Zk Za) (0+(↑k:Int).toNat*1)))≥(↑nc:Int))=true:St }:Fr }):=by kernel_rfl
theorem st_b (Ze:Int) (Zc:Int) (types:Int) (nc:Nat) (nr:Nat) (data:List UInt8) (Za:List Nat) (k:Nat):evC Tryz.prog (evF Tryz.prog ZD Zf 100 3) (Zf 72) 19 100 (ZB Tryz.prog 72 0) (Sf.frT 19 (stI Ze Zc types nc nr data Za k) [(0,true),(1,false)])=some (Exit.normal,{ e:=mkE 19 [(0,Value.slice (some ⟨66,0,none⟩) Za.length 9223372036854775874),(1,.func (Fn.func 39) { toList:=[] } { toList:=[Value.pointer (some ⟨67,0,none⟩)] }),(5,.int .i64 (↑k)),(7,.int .i64 (↑Za.length)),(8,.int .i64 (i64.wrap ((↑k:Int)+(1:Int)))),(9,.bool (decide ((↑k:Int)<(↑Za.length:Int)))),(10,.int .i64 (↑k)),(11,.func (Fn.func 39) { toList:=[] } { toList:=[Value.pointer (some ⟨67,0,none⟩)] }),(12,.slice (some ⟨66,0,none⟩) Za.length 9223372036854775874),(13,.int .i64 (↑k)),(14,.pointer (some { block:=66,off:=0+(↑k:Int).toNat*1 })),(15,.int .u32 (Zb (Zd undef (Zk Za) (0+(↑k:Int).toNat*1)))),(16,Value.bool (decide (i64.wrap (Zb (Zd undef (Zk Za) (0+(↑k:Int).toNat*1)))≥(↑nc:Int)))),(18,.int .i64 (i64.wrap ((↑k:Int)+(1:Int))))],s:={ n:=71,h:=[(66,⟨false,some (0,0),Zk Za,none⟩),(67,⟨false,none,[Value.int .i64 Ze,.int .i64 Zc,.int .i64 types,.slice (some ⟨64,0,none⟩) nc 9223372036854775872,.string ⟨⟨data⟩⟩,.slice (some ⟨65,0,none⟩) nr 9223372036854775873,.slice (some ⟨66,0,none⟩) Za.length 9223372036854775874],none⟩)],lo:=[],esc:=0,T:=[],k:=2,O:=(bif Qc (0+(↑k:Int).toNat*1+1) (Zk Za)&&Zs [Value.int .u32 0] (Zk Za) (0+(↑k:Int).toNat*1) then bif decide ((0:Int)≤(↑k:Int))&&decide ((↑k:Int)<(↑Za.length:Int)) then True∧decide ((↑k:Int)<(↑Za.length:Int))=true else False else False)∧decide (i64.wrap (Zb (Zd undef (Zk Za) (0+(↑k:Int).toNat*1)))≥(↑nc:Int))=false:St }:Fr }):=by kernel_rfl
theorem st_c (Ze:Int) (Zc:Int) (types:Int) (nc:Nat) (nr:Nat) (data:List UInt8) (Za:List Nat) (k:Nat):evC Tryz.prog (evF Tryz.prog ZD Zf 100 3) (Zf 72) 19 100 (ZB Tryz.prog 72 0) (Sf.frT 19 (stI Ze Zc types nc nr data Za k) [(0,false)])=some (Exit.exit 0,{ e:=mkE 19 [(0,Value.slice (some ⟨66,0,none⟩) Za.length 9223372036854775874),(1,.func (Fn.func 39) { toList:=[] } { toList:=[Value.pointer (some ⟨67,0,none⟩)] }),(7,.int .i64 (↑Za.length)),(8,.int .i64 (↑k)),(9,.bool (decide ((↑k:Int)<(↑Za.length:Int))))],s:={ n:=71,h:=[(66,⟨false,some (0,0),Zk Za,none⟩),(67,⟨false,none,[Value.int .i64 Ze,.int .i64 Zc,.int .i64 types,.slice (some ⟨64,0,none⟩) nc 9223372036854775872,.string ⟨⟨data⟩⟩,.slice (some ⟨65,0,none⟩) nr 9223372036854775873,.slice (some ⟨66,0,none⟩) Za.length 9223372036854775874],none⟩)],lo:=[],esc:=0,T:=[],k:=1,O:=True∧decide ((↑k:Int)<(↑Za.length:Int))=false:St }:Fr }):=by kernel_rfl
theorem Zo6:NG≤71:=by decide
theorem KS {x:Nat} (h:x<4294967296):i64.wrap (x:Int)=x:=wrap_i64 (by omega) (by omega)
theorem ZjX (Ze Zc types:Int) (nc nr:Nat) (data:List UInt8) (Za:List Nat) (k:Nat):(stI Ze Zc types nc nr data Za k).Wf :=
 ⟨Zo6,Sf.Ok.mk' 3 ⟨⟨rfl,rfl,Zv (Zg Za)⟩,⟨rfl,rfl,fun v hv=>ZM 3 v (List.all_eq_true.1 (show(ZjR Ze Zc types nc nr Za.length data).all (okV (fun l=>Nat.blt l 71) 3)=true from by kernel_rfl) v hv)⟩,trivial⟩ rfl (fun x hx=>by
  have:(stI Ze Zc types nc nr data Za k).e.all (fun x=>okV (fun l=>Nat.blt l 71) 3 x.2)=true:=by kernel_rfl
  exact List.all_eq_true.1 this x hx)⟩
theorem Zg5 (Ze Zc types:Int) (nc nr:Nat) (data:List UInt8) (Za:List Nat) (k:Nat) (e:Sf) (hl:Za.length<9000000000000000000) (hx:Za.getD k 0<4294967296) (hk:k<Za.length) (hv:Za.getD k 0<nc) (hn:e.n=71) (he:e.Ok (Z3 71 71 id (fun l=>Nat.blt l 71))) :
  ∃ g,evC Tryz.prog (evF Tryz.prog ZD Zf 100 3) (Zf 72) 19 100 (ZB Tryz.prog 72 0) ((stI Ze Zc types nc nr data Za k).frT 19 [(0,true),(1,false)])=some (.normal,g)∧g.s.O ∧
   Sf.Leads 3 (fun l=>Nat.blt l 71) id (stI Ze Zc types nc nr data Za k) g (stI Ze Zc types nc nr data Za (k+1)) e:=by
 refine⟨_,st_b Ze Zc types nc nr data Za k,?_,?_⟩
 ·simp only[rr, tt, Q8,Qd,Yn,Int.toNat_natCast,Nat.zero_add,Nat.mul_one]
  rw[KS hx]
  exact⟨Qi (by simp; omega) (Qi (by simp; omega) ⟨trivial,by simp; omega⟩),by simp only[rr, tt, decide_eq_false_iff_not]; omega⟩
 ·refine⟨fun _ _=>rfl,⟨⟨rfl,Zh (Zg Za),rfl,rfl,rfl,trivial,(Zi (Zg Za)).symm⟩,⟨rfl,by kernel_rfl,rfl,rfl,rfl,trivial,by kernel_rfl⟩,trivial⟩,rfl,trivial,⟨⟨by kernel_rfl,by kernel_rfl⟩,⟨rfl,by kernel_rfl⟩,⟨rfl,by kernel_rfl⟩,⟨rfl,?_⟩,trivial⟩,Nat.le_refl _,fun l hl=>ZN hl,?_,?_⟩
  ·refine Eq.trans (b:=Value.int .i64 (i64.wrap ((k:Int)+1))) (by kernel_rfl) ?_
   rw[ZQ k (by omega)]; rfl
  ·rw[hn]; exact he
  ·intro x _ _; exact .inl rfl
theorem U0 (j:Nat):(stF j).Ok (Z3 71 71 id (fun l=>Nat.blt l 71)):=Sf.Ok.mk' 3 trivial rfl (by simp[stF,okV,ZP])
theorem U1:stN.Ok (Z3 71 71 id (fun l=>Nat.blt l 71)):=Sf.Ok.mk' 3 trivial rfl (by simp[stN])
theorem ZiR (Ze Zc types:Int) (nc nr:Nat) (data:List UInt8) (Za:List Nat) (j:Nat) (hl:Za.length<9000000000000000000) (hx:∀ x∈Za,x<4294967296) (hj:j<Za.length) (hv:nc≤Za.getD j 0) (hn:∀ i,i<j→Za.getD i 0<nc) :
  ∀ x:{ k:Nat // k≤j },Qj Tryz.prog 19 (ZB Tryz.prog 72 0) ((stI Ze Zc types nc nr data Za x.1).fr 19) .ret ((stF j).fr 19):=by
 have hx':∀ i,i<Za.length→Za.getD i 0<4294967296:=fun i hi=>by
  rw[List.getD_eq_getElem?_getD,List.getElem?_eq_getElem hi]; exact hx _ (List.getElem_mem hi)
 refine Yc (L:=100) (Zu (L:=100) ZK (Zx _) (Zj _) 3) (ZU _ _ 72) (fun _ h=>h) (X:={ k:Nat // k≤j }) (fun x=>stI Ze Zc types nc nr data Za x.1) (fun _=>stF j) (fun _ => .ret) (fun x=>j-x.1) (fun x=>ZjX Ze Zc types nc nr data Za x.1) ?_
 rintro⟨k,hk⟩
 by_cases h:k=j
 ·subst h
  refine⟨[(0,true),(1,true)],.ret,_,3,fun l=>Nat.blt l 71,id,st_a Ze Zc types nc nr data Za k,?_,.inr ⟨by simp,rfl,?_⟩⟩
  ·simp only[rr, tt, Q8,Qd,Yn,Int.toNat_natCast,Nat.zero_add,Nat.mul_one]
   rw[KS (hx' k hj)]
   exact⟨Qi (by simp; omega) (Qi (by simp; omega) ⟨trivial,by simp; omega⟩),by simp only[rr, tt, decide_eq_true_eq]; omega⟩
  ·exact⟨fun _ _=>rfl,trivial,rfl,trivial,⟨⟨rfl,by kernel_rfl⟩,trivial⟩,Nat.le_refl _,fun l hl=>ZN hl,U0 k,fun x hx=>by cases hx⟩
 ·obtain⟨g,h1,h2,h3⟩:=Zg5 Ze Zc types nc nr data Za k (stF j) hl (hx' k (by omega)) (by omega) (hn k (by omega)) rfl (U0 j)
  exact⟨_,.normal,g,3,_,_,h1,h2,.inl ⟨rfl,⟨k+1,by omega⟩,by show j-(k+1)<j-k; omega,rfl,rfl,h3⟩⟩
theorem Zlv (Ze Zc types:Int) (nc nr:Nat) (data:List UInt8) (Za:List Nat) (hl:Za.length<9000000000000000000) (hx:∀ x∈Za,x<4294967296) (hn:∀ i,i<Za.length→Za.getD i 0<nc) :
  ∀ x:{ k:Nat // k≤Za.length },Qj Tryz.prog 19 (ZB Tryz.prog 72 0) ((stI Ze Zc types nc nr data Za x.1).fr 19) (.exit 0) (stN.fr 19):=by
 have hx':∀ i,i<Za.length→Za.getD i 0<4294967296:=fun i hi=>by
  rw[List.getD_eq_getElem?_getD,List.getElem?_eq_getElem hi]; exact hx _ (List.getElem_mem hi)
 refine Yc (L:=100) (Zu (L:=100) ZK (Zx _) (Zj _) 3) (ZU _ _ 72) (fun _ h=>h) (X:={ k:Nat // k≤Za.length }) (fun x=>stI Ze Zc types nc nr data Za x.1) (fun _=>stN) (fun _ => .exit 0) (fun x=>Za.length-x.1) (fun x=>ZjX Ze Zc types nc nr data Za x.1) ?_
 rintro⟨k,hk⟩
 by_cases h:k<Za.length
 ·obtain⟨g,h1,h2,h3⟩:=Zg5 Ze Zc types nc nr data Za k stN hl (hx' k h) h (hn k h) rfl U1
  exact⟨_,.normal,g,3,_,_,h1,h2,.inl ⟨rfl,⟨k+1,by omega⟩,by show Za.length-(k+1)<Za.length-k; omega,rfl,rfl,h3⟩⟩
 ·refine⟨[(0,false)],.exit 0,_,3,fun l=>Nat.blt l 71,id,st_c Ze Zc types nc nr data Za k,?_,.inr ⟨by simp,rfl,?_⟩⟩
  ·simp; omega
  ·exact⟨fun _ _=>rfl,trivial,rfl,trivial,trivial,Nat.le_refl _,fun l hl=>ZN hl,U1,fun x hx=>by cases hx⟩
def Znq (Ze Zc types:Int) (nc nr:Nat) (data:List UInt8) (Za:List Nat) (j:Nat) (hl:Za.length<9000000000000000000) (hx:∀ x∈Za,x<4294967296) (hj:j<Za.length) (hv:nc≤Za.getD j 0) (hn:∀ i,i<j→Za.getD i 0<nc):Ent Tryz.prog :=
 Vl Tryz.prog 72 0 19 (stI Ze Zc types nc nr data Za 0) .ret (stF j) (by kernel_rfl) (by kernel_rfl) (ZiR Ze Zc types nc nr data Za j hl hx hj hv hn ⟨0,Nat.zero_le _⟩)
def Zg6 (Ze Zc types:Int) (nc nr:Nat) (data:List UInt8) (Za:List Nat) (hl:Za.length<9000000000000000000) (hx:∀ x∈Za,x<4294967296) (hn:∀ i,i<Za.length→Za.getD i 0<nc):Ent Tryz.prog :=
 Vl Tryz.prog 72 0 19 (stI Ze Zc types nc nr data Za 0) (.exit 0) stN (by kernel_rfl) (by kernel_rfl) (Zlv Ze Zc types nc nr data Za hl hx hn ⟨0,Nat.zero_le _⟩)
def U2:List Value:=[.int .u32 0,.int .u32 0,.int .u32 0,.int .u32 0,.int .u32 0,.int .u32 0,.int .u32 0,.int .u32 0]
def Zoo (a b c d e f g h:Int):List Value:=[.int .u32 a,.int .u32 b,.int .u32 c,.int .u32 d,.int .u32 e,.int .u32 f,.int .u32 g,.int .u32 h]
def Zbo (Ze Zc types:Int) (nc ns:Nat) (data:List UInt8) (rs:List Rl) (a b c d e f g h:Int) (behind k:Nat):Sf :=
 ⟨72,[(1,.pointer (some ⟨67,0,none⟩)),(2,.pointer (some ⟨68,0,none⟩)),(4,.pointer (some ⟨71,0,none⟩)),(6,.int .u32 (behind:Nat)),(80,.slice (some ⟨65,0,none⟩) rs.length (big+65)),(81,.int .i64 (rs.length:Nat)),(82,.int .i64 (k:Nat))],
  [(65,⟨false,some (0,0),rels rs,none⟩),(67,⟨false,none,ZjR Ze Zc types nc rs.length ns data,none⟩),(68,⟨true,none,U2,none⟩),(71,⟨false,none,Zoo a b c d e f g h,none⟩)],[]⟩
def ZjY:Sf:=⟨72,[(2,.pointer (some ⟨68,0,none⟩)),(3,.int .i64 2)],[(68,⟨true,none,U2,none⟩)],[]⟩
def ZjZ:Sf:=⟨72,[(2,.pointer (some ⟨68,0,none⟩)),(4,.pointer (some ⟨71,0,none⟩))],[(68,⟨true,none,U2,none⟩)],[]⟩
theorem Zlw (Ze:Int) (Zc:Int) (types:Int) (nc:Nat) (ns:Nat) (data:List UInt8) (rs:List Rl) (a:Int) (b:Int) (c:Int) (d:Int) (e:Int) (f:Int) (g:Int) (h:Int) (behind:Nat) (k:Nat):evC Tryz.prog (evF Tryz.prog (ZH 3 Zbn) Zf 100 3) (Zf 9) 98 100 (ZB Tryz.prog 9 0) (Sf.frT 98 (Zbo Ze Zc types nc ns data rs a b c d e f g h behind k) [(0,true),(1,false)])=some (Exit.normal,{ e:=mkE 98 [(1,.pointer (some ⟨67,0,none⟩)),(2,.pointer (some ⟨68,0,none⟩)),(4,.pointer (some ⟨71,0,none⟩)),(6,.int .u32 (u32.wrap (Zb (Zd undef (rels rs) (0+(↑k:Int).toNat*6))+(16:Int)))),(8,.pointer (some ⟨72,0,none⟩)),(80,Value.slice (some ⟨65,0,none⟩) rs.length 9223372036854775873),(81,.int .i64 (↑rs.length)),(82,.int .i64 (i64.wrap ((↑k:Int)+(1:Int)))),(83,.bool (decide ((↑k:Int)<(↑rs.length:Int)))),(84,.pointer (some { block:=65,off:=0+(↑k:Int).toNat*6 })),(85,.agg ⟨[.int .u32 (Zb (Zd undef (rels rs) (0+(↑k:Int).toNat*6))),.bool (Zw (Zd undef (rels rs) (0+(↑k:Int).toNat*6+1))),.int .u32 (Zb (Zd undef (rels rs) (0+(↑k:Int).toNat*6+1+1))),.int .u32 (Zb (Zd undef (rels rs) (0+(↑k:Int).toNat*6+1+1+1))),.int .u16 (Zb (Zd undef (rels rs) (0+(↑k:Int).toNat*6+1+1+1+1))),.int .u16 (Zb (Zd undef (rels rs) (0+(↑k:Int).toNat*6+1+1+1+1+1)))]⟩),(86,.agg ⟨[.int .i64 Ze,.int .i64 Zc,.int .i64 types,.slice (some ⟨64,0,none⟩) nc 9223372036854775872,.string ⟨⟨data⟩⟩,.slice (some ⟨65,0,none⟩) rs.length 9223372036854775873,.slice (some ⟨66,0,none⟩) ns 9223372036854775874]⟩),(87,.agg ⟨[.int .u32 a,.int .u32 b,.int .u32 c,.int .u32 d,.int .u32 e,.int .u32 f,.int .u32 g,.int .u32 h]⟩),(88,.agg ⟨[.int .u32 (Zb (Zd undef (rels rs) (0+(↑k:Int).toNat*6))),.bool (Zw (Zd undef (rels rs) (0+(↑k:Int).toNat*6+1))),.int .u32 (Zb (Zd undef (rels rs) (0+(↑k:Int).toNat*6+1+1))),.int .u32 (Zb (Zd undef (rels rs) (0+(↑k:Int).toNat*6+1+1+1))),.int .u16 (Zb (Zd undef (rels rs) (0+(↑k:Int).toNat*6+1+1+1+1))),.int .u16 (Zb (Zd undef (rels rs) (0+(↑k:Int).toNat*6+1+1+1+1+1)))]⟩),(89,.int .u32 (↑behind)),(90,.bool (Zy types nc data.length a.toNat c.toNat { at_:=(Zb (Zd undef (rels rs) (0+(↑k:Int).toNat*6))).toNat,code:=Zw (Zd undef (rels rs) (0+(↑k:Int).toNat*6+1)),off:=(Zb (Zd undef (rels rs) (0+(↑k:Int).toNat*6+1+1))).toNat,size:=(Zb (Zd undef (rels rs) (0+(↑k:Int).toNat*6+1+1+1))).toNat,perms:=(Zb (Zd undef (rels rs) (0+(↑k:Int).toNat*6+1+1+1+1))).toNat,typ:=(Zb (Zd undef (rels rs) (0+(↑k:Int).toNat*6+1+1+1+1+1))).toNat:Rl } (↑behind:Int).toNat)),(91,.bool !Zy types nc data.length a.toNat c.toNat { at_:=(Zb (Zd undef (rels rs) (0+(↑k:Int).toNat*6))).toNat,code:=Zw (Zd undef (rels rs) (0+(↑k:Int).toNat*6+1)),off:=(Zb (Zd undef (rels rs) (0+(↑k:Int).toNat*6+1+1))).toNat,size:=(Zb (Zd undef (rels rs) (0+(↑k:Int).toNat*6+1+1+1))).toNat,perms:=(Zb (Zd undef (rels rs) (0+(↑k:Int).toNat*6+1+1+1+1))).toNat,typ:=(Zb (Zd undef (rels rs) (0+(↑k:Int).toNat*6+1+1+1+1+1))).toNat:Rl } (↑behind:Int).toNat),(93,.pointer (some ⟨72,0,none⟩)),(94,.int .u32 (Zb (Zd undef (rels rs) (0+(↑k:Int).toNat*6)))),(95,.int .u32 (u32.wrap (Zb (Zd undef (rels rs) (0+(↑k:Int).toNat*6))+(16:Int)))),(96,Value.int .i64 (i64.wrap ((↑k:Int)+(1:Int))))],s:={ n:=73,h:=[(72,⟨true,none,[Value.int .u32 (Zb (Zd undef (rels rs) (0+(↑k:Int).toNat*6))),.bool (Zw (Zd undef (rels rs) (0+(↑k:Int).toNat*6+1))),.int .u32 (Zb (Zd undef (rels rs) (0+(↑k:Int).toNat*6+1+1))),.int .u32 (Zb (Zd undef (rels rs) (0+(↑k:Int).toNat*6+1+1+1))),.int .u16 (Zb (Zd undef (rels rs) (0+(↑k:Int).toNat*6+1+1+1+1))),.int .u16 (Zb (Zd undef (rels rs) (0+(↑k:Int).toNat*6+1+1+1+1+1)))],none⟩),(65,⟨false,some (0,0),rels rs,none⟩),(67,⟨false,none,[Value.int .i64 Ze,.int .i64 Zc,.int .i64 types,.slice (some ⟨64,0,none⟩) nc 9223372036854775872,.string ⟨⟨data⟩⟩,.slice (some ⟨65,0,none⟩) rs.length 9223372036854775873,.slice (some ⟨66,0,none⟩) ns 9223372036854775874],none⟩),(68,⟨true,none,[Value.int .u32 0,.int .u32 0,.int .u32 0,.int .u32 0,.int .u32 0,.int .u32 0,.int .u32 0,.int .u32 0],none⟩),(71,⟨false,none,[Value.int .u32 a,.int .u32 b,.int .u32 c,.int .u32 d,.int .u32 e,.int .u32 f,.int .u32 g,.int .u32 h],none⟩)],lo:=[],esc:=0,T:=[],k:=2,O:=((bif Qc (0+(↑k:Int).toNat*6+6) (rels rs)&&Zs [Value.int .u32 0,.bool false,.int .u32 0,.int .u32 0,.int .u16 0,.int .u16 0] (rels rs) (0+(↑k:Int).toNat*6) then bif decide ((0:Int)≤(↑k:Int))&&decide ((↑k:Int)<(↑rs.length:Int)) then True∧decide ((↑k:Int)<(↑rs.length:Int))=true else False else False)∧QC nc data.length a.toNat c.toNat { at_:=(Zb (Zd undef (rels rs) (0+(↑k:Int).toNat*6))).toNat,code:=Zw (Zd undef (rels rs) (0+(↑k:Int).toNat*6+1)),off:=(Zb (Zd undef (rels rs) (0+(↑k:Int).toNat*6+1+1))).toNat,size:=(Zb (Zd undef (rels rs) (0+(↑k:Int).toNat*6+1+1+1))).toNat,perms:=(Zb (Zd undef (rels rs) (0+(↑k:Int).toNat*6+1+1+1+1))).toNat,typ:=(Zb (Zd undef (rels rs) (0+(↑k:Int).toNat*6+1+1+1+1+1))).toNat:Rl }∧(rr (Value.agg ⟨[.int .i64 Ze,.int .i64 Zc,.int .i64 types,.slice (some ⟨64,0,none⟩) nc 9223372036854775872,.string ⟨⟨data⟩⟩,.slice (some ⟨65,0,none⟩) rs.length 9223372036854775873,.slice (some ⟨66,0,none⟩) ns 9223372036854775874]⟩)∧Value.agg ⟨[.int .u32 a,.int .u32 b,.int .u32 c,.int .u32 d,.int .u32 e,.int .u32 f,.int .u32 g,.int .u32 h]⟩=Value.agg ⟨[.int .u32 (↑a.toNat),.int .u32 b,.int .u32 (↑c.toNat),.int .u32 d,.int .u32 e,.int .u32 f,.int .u32 g,.int .u32 h]⟩∧Value.agg ⟨[.int .u32 (Zb (Zd undef (rels rs) (0+(↑k:Int).toNat*6))),.bool (Zw (Zd undef (rels rs) (0+(↑k:Int).toNat*6+1))),.int .u32 (Zb (Zd undef (rels rs) (0+(↑k:Int).toNat*6+1+1))),.int .u32 (Zb (Zd undef (rels rs) (0+(↑k:Int).toNat*6+1+1+1))),.int .u16 (Zb (Zd undef (rels rs) (0+(↑k:Int).toNat*6+1+1+1+1))),.int .u16 (Zb (Zd undef (rels rs) (0+(↑k:Int).toNat*6+1+1+1+1+1)))]⟩=Value.agg ⟨[.int .u32 (↑(Zb (Zd undef (rels rs) (0+(↑k:Int).toNat*6))).toNat:Int),.bool (Zw (Zd undef (rels rs) (0+(↑k:Int).toNat*6+1))),.int .u32 (↑(Zb (Zd undef (rels rs) (0+(↑k:Int).toNat*6+1+1))).toNat:Int),.int .u32 (↑(Zb (Zd undef (rels rs) (0+(↑k:Int).toNat*6+1+1+1))).toNat:Int),.int .u16 (↑(Zb (Zd undef (rels rs) (0+(↑k:Int).toNat*6+1+1+1+1))).toNat:Int),.int .u16 (↑(Zb (Zd undef (rels rs) (0+(↑k:Int).toNat*6+1+1+1+1+1))).toNat:Int)]⟩∧Value.int .u32 (↑behind)=Value.int .u32 (↑(↑behind:Int).toNat:Int)∧True)∧True∧True)∧(!Zy types nc data.length a.toNat c.toNat { at_:=(Zb (Zd undef (rels rs) (0+(↑k:Int).toNat*6))).toNat,code:=Zw (Zd undef (rels rs) (0+(↑k:Int).toNat*6+1)),off:=(Zb (Zd undef (rels rs) (0+(↑k:Int).toNat*6+1+1))).toNat,size:=(Zb (Zd undef (rels rs) (0+(↑k:Int).toNat*6+1+1+1))).toNat,perms:=(Zb (Zd undef (rels rs) (0+(↑k:Int).toNat*6+1+1+1+1))).toNat,typ:=(Zb (Zd undef (rels rs) (0+(↑k:Int).toNat*6+1+1+1+1+1))).toNat:Rl } (↑behind:Int).toNat)=false:St }:Fr }):=by kernel_rfl
theorem Znr (Ze:Int) (Zc:Int) (types:Int) (nc:Nat) (ns:Nat) (data:List UInt8) (rs:List Rl) (a:Int) (b:Int) (c:Int) (d:Int) (e:Int) (f:Int) (g:Int) (h:Int) (behind:Nat) (k:Nat):evC Tryz.prog (evF Tryz.prog (ZH 3 Zbn) Zf 100 3) (Zf 9) 98 100 (ZB Tryz.prog 9 0) (Sf.frT 98 (Zbo Ze Zc types nc ns data rs a b c d e f g h behind k) [(0,true),(1,true)])=some (Exit.ret,{ e:=mkE 98 [(1,.pointer (some ⟨67,0,none⟩)),(2,.pointer (some ⟨68,0,none⟩)),(3,.int .i64 2),(4,.pointer (some ⟨71,0,none⟩)),(6,.int .u32 (↑behind)),(8,.pointer (some ⟨72,0,none⟩)),(80,Value.slice (some ⟨65,0,none⟩) rs.length 9223372036854775873),(81,.int .i64 (↑rs.length)),(82,.int .i64 (↑k)),(83,.bool (decide ((↑k:Int)<(↑rs.length:Int)))),(84,.pointer (some { block:=65,off:=0+(↑k:Int).toNat*6 })),(85,.agg ⟨[.int .u32 (Zb (Zd undef (rels rs) (0+(↑k:Int).toNat*6))),.bool (Zw (Zd undef (rels rs) (0+(↑k:Int).toNat*6+1))),.int .u32 (Zb (Zd undef (rels rs) (0+(↑k:Int).toNat*6+1+1))),.int .u32 (Zb (Zd undef (rels rs) (0+(↑k:Int).toNat*6+1+1+1))),.int .u16 (Zb (Zd undef (rels rs) (0+(↑k:Int).toNat*6+1+1+1+1))),.int .u16 (Zb (Zd undef (rels rs) (0+(↑k:Int).toNat*6+1+1+1+1+1)))]⟩),(86,.agg ⟨[.int .i64 Ze,.int .i64 Zc,.int .i64 types,.slice (some ⟨64,0,none⟩) nc 9223372036854775872,.string ⟨⟨data⟩⟩,.slice (some ⟨65,0,none⟩) rs.length 9223372036854775873,.slice (some ⟨66,0,none⟩) ns 9223372036854775874]⟩),(87,.agg ⟨[.int .u32 a,.int .u32 b,.int .u32 c,.int .u32 d,.int .u32 e,.int .u32 f,.int .u32 g,.int .u32 h]⟩),(88,.agg ⟨[.int .u32 (Zb (Zd undef (rels rs) (0+(↑k:Int).toNat*6))),.bool (Zw (Zd undef (rels rs) (0+(↑k:Int).toNat*6+1))),.int .u32 (Zb (Zd undef (rels rs) (0+(↑k:Int).toNat*6+1+1))),.int .u32 (Zb (Zd undef (rels rs) (0+(↑k:Int).toNat*6+1+1+1))),.int .u16 (Zb (Zd undef (rels rs) (0+(↑k:Int).toNat*6+1+1+1+1))),.int .u16 (Zb (Zd undef (rels rs) (0+(↑k:Int).toNat*6+1+1+1+1+1)))]⟩),(89,.int .u32 (↑behind)),(90,.bool (Zy types nc data.length a.toNat c.toNat { at_:=(Zb (Zd undef (rels rs) (0+(↑k:Int).toNat*6))).toNat,code:=Zw (Zd undef (rels rs) (0+(↑k:Int).toNat*6+1)),off:=(Zb (Zd undef (rels rs) (0+(↑k:Int).toNat*6+1+1))).toNat,size:=(Zb (Zd undef (rels rs) (0+(↑k:Int).toNat*6+1+1+1))).toNat,perms:=(Zb (Zd undef (rels rs) (0+(↑k:Int).toNat*6+1+1+1+1))).toNat,typ:=(Zb (Zd undef (rels rs) (0+(↑k:Int).toNat*6+1+1+1+1+1))).toNat:Rl } (↑behind:Int).toNat)),(91,.bool !Zy types nc data.length a.toNat c.toNat { at_:=(Zb (Zd undef (rels rs) (0+(↑k:Int).toNat*6))).toNat,code:=Zw (Zd undef (rels rs) (0+(↑k:Int).toNat*6+1)),off:=(Zb (Zd undef (rels rs) (0+(↑k:Int).toNat*6+1+1))).toNat,size:=(Zb (Zd undef (rels rs) (0+(↑k:Int).toNat*6+1+1+1))).toNat,perms:=(Zb (Zd undef (rels rs) (0+(↑k:Int).toNat*6+1+1+1+1))).toNat,typ:=(Zb (Zd undef (rels rs) (0+(↑k:Int).toNat*6+1+1+1+1+1))).toNat:Rl } (↑behind:Int).toNat),(92,.agg ⟨[.int .u32 0,.int .u32 0,.int .u32 0,.int .u32 0,.int .u32 0,.int .u32 0,.int .u32 0,.int .u32 0]⟩)],s:={ n:=73,h:=[(72,⟨true,none,[Value.int .u32 (Zb (Zd undef (rels rs) (0+(↑k:Int).toNat*6))),.bool (Zw (Zd undef (rels rs) (0+(↑k:Int).toNat*6+1))),.int .u32 (Zb (Zd undef (rels rs) (0+(↑k:Int).toNat*6+1+1))),.int .u32 (Zb (Zd undef (rels rs) (0+(↑k:Int).toNat*6+1+1+1))),.int .u16 (Zb (Zd undef (rels rs) (0+(↑k:Int).toNat*6+1+1+1+1))),.int .u16 (Zb (Zd undef (rels rs) (0+(↑k:Int).toNat*6+1+1+1+1+1)))],none⟩),(65,⟨false,some (0,0),rels rs,none⟩),(67,⟨false,none,[Value.int .i64 Ze,.int .i64 Zc,.int .i64 types,.slice (some ⟨64,0,none⟩) nc 9223372036854775872,.string ⟨⟨data⟩⟩,.slice (some ⟨65,0,none⟩) rs.length 9223372036854775873,.slice (some ⟨66,0,none⟩) ns 9223372036854775874],none⟩),(68,⟨true,none,[Value.int .u32 0,.int .u32 0,.int .u32 0,.int .u32 0,.int .u32 0,.int .u32 0,.int .u32 0,.int .u32 0],none⟩),(71,⟨false,none,[Value.int .u32 a,.int .u32 b,.int .u32 c,.int .u32 d,.int .u32 e,.int .u32 f,.int .u32 g,.int .u32 h],none⟩)],lo:=[],esc:=0,T:=[],k:=2,O:=((bif Qc (0+(↑k:Int).toNat*6+6) (rels rs)&&Zs [Value.int .u32 0,.bool false,.int .u32 0,.int .u32 0,.int .u16 0,.int .u16 0] (rels rs) (0+(↑k:Int).toNat*6) then bif decide ((0:Int)≤(↑k:Int))&&decide ((↑k:Int)<(↑rs.length:Int)) then True∧decide ((↑k:Int)<(↑rs.length:Int))=true else False else False)∧QC nc data.length a.toNat c.toNat { at_:=(Zb (Zd undef (rels rs) (0+(↑k:Int).toNat*6))).toNat,code:=Zw (Zd undef (rels rs) (0+(↑k:Int).toNat*6+1)),off:=(Zb (Zd undef (rels rs) (0+(↑k:Int).toNat*6+1+1))).toNat,size:=(Zb (Zd undef (rels rs) (0+(↑k:Int).toNat*6+1+1+1))).toNat,perms:=(Zb (Zd undef (rels rs) (0+(↑k:Int).toNat*6+1+1+1+1))).toNat,typ:=(Zb (Zd undef (rels rs) (0+(↑k:Int).toNat*6+1+1+1+1+1))).toNat:Rl }∧(rr (Value.agg ⟨[.int .i64 Ze,.int .i64 Zc,.int .i64 types,.slice (some ⟨64,0,none⟩) nc 9223372036854775872,.string ⟨⟨data⟩⟩,.slice (some ⟨65,0,none⟩) rs.length 9223372036854775873,.slice (some ⟨66,0,none⟩) ns 9223372036854775874]⟩)∧Value.agg ⟨[.int .u32 a,.int .u32 b,.int .u32 c,.int .u32 d,.int .u32 e,.int .u32 f,.int .u32 g,.int .u32 h]⟩=Value.agg ⟨[.int .u32 (↑a.toNat),.int .u32 b,.int .u32 (↑c.toNat),.int .u32 d,.int .u32 e,.int .u32 f,.int .u32 g,.int .u32 h]⟩∧Value.agg ⟨[.int .u32 (Zb (Zd undef (rels rs) (0+(↑k:Int).toNat*6))),.bool (Zw (Zd undef (rels rs) (0+(↑k:Int).toNat*6+1))),.int .u32 (Zb (Zd undef (rels rs) (0+(↑k:Int).toNat*6+1+1))),.int .u32 (Zb (Zd undef (rels rs) (0+(↑k:Int).toNat*6+1+1+1))),.int .u16 (Zb (Zd undef (rels rs) (0+(↑k:Int).toNat*6+1+1+1+1))),.int .u16 (Zb (Zd undef (rels rs) (0+(↑k:Int).toNat*6+1+1+1+1+1)))]⟩=Value.agg ⟨[.int .u32 (↑(Zb (Zd undef (rels rs) (0+(↑k:Int).toNat*6))).toNat:Int),.bool (Zw (Zd undef (rels rs) (0+(↑k:Int).toNat*6+1))),.int .u32 (↑(Zb (Zd undef (rels rs) (0+(↑k:Int).toNat*6+1+1))).toNat:Int),.int .u32 (↑(Zb (Zd undef (rels rs) (0+(↑k:Int).toNat*6+1+1+1))).toNat:Int),.int .u16 (↑(Zb (Zd undef (rels rs) (0+(↑k:Int).toNat*6+1+1+1+1))).toNat:Int),.int .u16 (↑(Zb (Zd undef (rels rs) (0+(↑k:Int).toNat*6+1+1+1+1+1))).toNat:Int)]⟩∧Value.int .u32 (↑behind)=Value.int .u32 (↑(↑behind:Int).toNat:Int)∧True)∧True∧True)∧(!Zy types nc data.length a.toNat c.toNat { at_:=(Zb (Zd undef (rels rs) (0+(↑k:Int).toNat*6))).toNat,code:=Zw (Zd undef (rels rs) (0+(↑k:Int).toNat*6+1)),off:=(Zb (Zd undef (rels rs) (0+(↑k:Int).toNat*6+1+1))).toNat,size:=(Zb (Zd undef (rels rs) (0+(↑k:Int).toNat*6+1+1+1))).toNat,perms:=(Zb (Zd undef (rels rs) (0+(↑k:Int).toNat*6+1+1+1+1))).toNat,typ:=(Zb (Zd undef (rels rs) (0+(↑k:Int).toNat*6+1+1+1+1+1))).toNat:Rl } (↑behind:Int).toNat)=true:St }:Fr }):=by kernel_rfl
theorem Zns (Ze:Int) (Zc:Int) (types:Int) (nc:Nat) (ns:Nat) (data:List UInt8) (rs:List Rl) (a:Int) (b:Int) (c:Int) (d:Int) (e:Int) (f:Int) (g:Int) (h:Int) (behind:Nat) (k:Nat):evC Tryz.prog (evF Tryz.prog (ZH 3 Zbn) Zf 100 3) (Zf 9) 98 100 (ZB Tryz.prog 9 0) (Sf.frT 98 (Zbo Ze Zc types nc ns data rs a b c d e f g h behind k) [(0,false)])=some (Exit.exit 1,{ e:=mkE 98 [(1,.pointer (some ⟨67,0,none⟩)),(2,.pointer (some ⟨68,0,none⟩)),(4,.pointer (some ⟨71,0,none⟩)),(6,.int .u32 (↑behind)),(80,Value.slice (some ⟨65,0,none⟩) rs.length 9223372036854775873),(81,.int .i64 (↑rs.length)),(82,.int .i64 (↑k)),(83,.bool (decide ((↑k:Int)<(↑rs.length:Int))))],s:={ n:=72,h:=[(65,⟨false,some (0,0),rels rs,none⟩),(67,⟨false,none,[Value.int .i64 Ze,.int .i64 Zc,.int .i64 types,.slice (some ⟨64,0,none⟩) nc 9223372036854775872,.string ⟨⟨data⟩⟩,.slice (some ⟨65,0,none⟩) rs.length 9223372036854775873,.slice (some ⟨66,0,none⟩) ns 9223372036854775874],none⟩),(68,⟨true,none,[Value.int .u32 0,.int .u32 0,.int .u32 0,.int .u32 0,.int .u32 0,.int .u32 0,.int .u32 0,.int .u32 0],none⟩),(71,⟨false,none,[Value.int .u32 a,.int .u32 b,.int .u32 c,.int .u32 d,.int .u32 e,.int .u32 f,.int .u32 g,.int .u32 h],none⟩)],lo:=[],esc:=0,T:=[],k:=1,O:=True∧decide ((↑k:Int)<(↑rs.length:Int))=false:St }:Fr }):=by kernel_rfl
theorem Za9 {types:Int} {nc len a c:Nat} {r:Rl} {behind:Nat} (h:Zy types nc len a c r behind=true):r.at_%16=0∧behind≤r.at_∧r.at_+16≤len:=by
 unfold Zy Vs at h
 simp only[rr, tt, Bool.and_eq_true,Bool.not_eq_true',Bool.or_eq_false_iff,decide_eq_false_iff_not] at h
 obtain⟨⟨h1,h2,h3,_⟩,_⟩:=h
 exact⟨by omega,by omega,by omega⟩
theorem Zj0 (Ze Zc types:Int) (nc ns:Nat) (data:List UInt8) (rs:List Rl) (a b c d e f g h:Int) (behind k:Nat):(Zbo Ze Zc types nc ns data rs a b c d e f g h behind k).Wf :=
 ⟨by show NG≤72; decide,Sf.Ok.mk' 3 ⟨⟨rfl,rfl,Zv (ZC rs)⟩,⟨rfl,rfl,fun v hv=>ZM 3 v (List.all_eq_true.1 (show(ZjR Ze Zc types nc rs.length ns data).all (okV (fun l=>Nat.blt l 72) 3)=true from by kernel_rfl) v hv)⟩,⟨rfl,rfl,fun v hv=>ZM 3 v (List.all_eq_true.1 (show U2.all (okV (fun l=>Nat.blt l 72) 3)=true from by kernel_rfl) v hv)⟩,⟨rfl,rfl,fun v hv=>ZM 3 v (List.all_eq_true.1 (show(Zoo a b c d e f g h).all (okV (fun l=>Nat.blt l 72) 3)=true from by kernel_rfl) v hv)⟩,trivial⟩ rfl (fun x hx=>by
  have:(Zbo Ze Zc types nc ns data rs a b c d e f g h behind k).e.all (fun x=>okV (fun l=>Nat.blt l 72) 3 x.2)=true:=by kernel_rfl
  exact List.all_eq_true.1 this x hx)⟩
theorem Zg7:ZjY.Ok (Z3 72 72 id (fun l=>Nat.blt l 72)):=Sf.Ok.mk' 3 ⟨⟨rfl,rfl,fun v hv=>ZM 3 v (List.all_eq_true.1 (show U2.all (okV (Z3 72 72 id (fun l=>Nat.blt l 72)) 3)=true from by kernel_rfl) v hv)⟩,trivial⟩ rfl (fun x hx=>by
  have:ZjY.e.all (fun x=>okV (Z3 72 72 id (fun l=>Nat.blt l 72)) 3 x.2)=true:=by kernel_rfl
  exact List.all_eq_true.1 this x hx)
theorem Zg8:ZjZ.Ok (Z3 72 72 id (fun l=>Nat.blt l 72)):=Sf.Ok.mk' 3 ⟨⟨rfl,rfl,fun v hv=>ZM 3 v (List.all_eq_true.1 (show U2.all (okV (Z3 72 72 id (fun l=>Nat.blt l 72)) 3)=true from by kernel_rfl) v hv)⟩,trivial⟩ rfl (fun x hx=>by
  have:ZjZ.e.all (fun x=>okV (Z3 72 72 id (fun l=>Nat.blt l 72)) 3 x.2)=true:=by kernel_rfl
  exact List.all_eq_true.1 this x hx)
theorem Zec (Ze Zc types:Int) (nc ns:Nat) (data:List UInt8) (rs:List Rl) (a b c d e f g h:Int) (behind k:Nat) (ex:Sf) (hk:k<rs.length) (hm:rs.length≤100000) (ha:0≤a) (hc:0≤c) (hr:QC nc data.length a.toNat c.toNat (rl0 rs k)) (hv:Zy types nc data.length a.toNat c.toNat (rl0 rs k) behind=true) (hn:ex.n=72) (he:ex.Ok (Z3 72 72 id (fun l=>Nat.blt l 72))) :
  ∃ g1,evC Tryz.prog (evF Tryz.prog (ZH 3 Zbn) Zf 100 3) (Zf 9) 98 100 (ZB Tryz.prog 9 0) ((Zbo Ze Zc types nc ns data rs a b c d e f g h behind k).frT 98 [(0,true),(1,false)])=some (.normal,g1)∧g1.s.O ∧
   Sf.Leads 3 (fun l=>Nat.blt l 72) id (Zbo Ze Zc types nc ns data rs a b c d e f g h behind k) g1 (Zbo Ze Zc types nc ns data rs a b c d e f g h ((rl0 rs k).at_+16) (k+1)) ex:=by
 rcases hrr:rl0 rs k with⟨at_,code,off,size,perms,typ⟩
 rw[hrr] at hr hv
 have f0:Zb (Zd undef (rels rs) (0+k*6))=(at_:Int):=by
  rw[Nat.zero_add]; have:=K0 hk; rw[hrr] at this; exact this
 have f1:Zw (Zd undef (rels rs) (0+k*6+1))=code:=by
  rw[Nat.zero_add]; have:=Ue hk; rw[hrr] at this; exact this
 have f2:Zb (Zd undef (rels rs) (0+k*6+1+1))=(off:Int):=by
  rw[Nat.zero_add]; have:=Uf hk; rw[hrr] at this; exact this
 have f3:Zb (Zd undef (rels rs) (0+k*6+1+1+1))=(size:Int):=by
  rw[Nat.zero_add]; have:=Ug hk; rw[hrr] at this; exact this
 have f4:Zb (Zd undef (rels rs) (0+k*6+1+1+1+1))=(perms:Int):=by
  rw[Nat.zero_add]; have:=Uh hk; rw[hrr] at this; exact this
 have f5:Zb (Zd undef (rels rs) (0+k*6+1+1+1+1+1))=(typ:Int):=by
  rw[Nat.zero_add]; have:=Ui hk; rw[hrr] at this; exact this
 have g1:Qc (0+k*6+6) (rels rs)=true:=by rw[YZ]; simp; omega
 have g2:Zs [Value.int u32 (0:Int),Value.bool false,Value.int u32 (0:Int),Value.int u32 (0:Int),Value.int u16 (0:Int),Value.int u16 (0:Int)] (rels rs) (0+k*6)=true:=by rw[Nat.zero_add]; exact XD hk _ _ _ _ _ _
 have g5:decide ((0:Int)≤(k:Int))=true:=by simp
 have g6:decide ((k:Int)<(rs.length:Int))=true:=by simp; omega
 have ha2:((a.toNat:Nat):Int)=a:=Int.toNat_of_nonneg ha
 have hc2:((c.toNat:Nat):Int)=c:=Int.toNat_of_nonneg hc
 refine⟨_,Zlw Ze Zc types nc ns data rs a b c d e f g h behind k,?_,?_⟩
 ·simp only[rr, tt, f0,f1,f2,f3,f4,f5,Int.toNat_natCast,g5,g6,ha2,hc2,g1,g2,hv,Bool.not_true,Bool.and_self,cond_true]
  exact⟨⟨⟨trivial,trivial⟩,hr,⟨trivial,trivial,trivial,trivial,trivial⟩,trivial,trivial⟩,trivial⟩
 ·refine⟨fun _ _=>rfl,⟨⟨rfl,Zh (ZC rs),rfl,rfl,rfl,trivial,(Zi (ZC rs)).symm⟩,⟨rfl,by kernel_rfl,rfl,rfl,rfl,trivial,by kernel_rfl⟩,⟨rfl,by kernel_rfl,rfl,rfl,rfl,trivial,by kernel_rfl⟩,⟨rfl,by kernel_rfl,rfl,rfl,rfl,trivial,by kernel_rfl⟩,trivial⟩,rfl,trivial,⟨⟨by kernel_rfl,by kernel_rfl⟩,⟨by kernel_rfl,by kernel_rfl⟩,⟨by kernel_rfl,by kernel_rfl⟩,⟨rfl,?_⟩,⟨by kernel_rfl,by kernel_rfl⟩,⟨rfl,by kernel_rfl⟩,⟨rfl,?_⟩,trivial⟩,Nat.le_refl _,fun l hl=>ZN hl,?_,?_⟩
  ·refine Eq.trans (b:=Value.int .u32 (u32.wrap (Zb (Zd undef (rels rs) (0+(k:Int).toNat*6))+16))) (by kernel_rfl) ?_
   rw[Int.toNat_natCast,f0]
   show _=Value.int .u32 ((at_+16:Nat):Int)
   have:=(Za9 hv).2.2; have:=hr.2.2.1; rw[IntKind.wrap_u32]; congr 1; simp only[] at *; omega
  ·refine Eq.trans (b:=Value.int .i64 (i64.wrap ((k:Int)+1))) (by kernel_rfl) ?_
   rw[ZQ k (by omega)]; rfl
  ·rw[hn]; exact he
  ·intro x _ _; exact .inl rfl
theorem Zlx (Ze Zc types:Int) (nc ns:Nat) (data:List UInt8) (rs:List Rl) (a b c d e f g h:Int) (behind k:Nat) (ex:Sf) (hk:k<rs.length) (_:rs.length≤100000) (ha:0≤a) (hc:0≤c) (hr:QC nc data.length a.toNat c.toNat (rl0 rs k)) (hv:Zy types nc data.length a.toNat c.toNat (rl0 rs k) behind=false) (hx:ex=ZjY) :
  ∃ g1,evC Tryz.prog (evF Tryz.prog (ZH 3 Zbn) Zf 100 3) (Zf 9) 98 100 (ZB Tryz.prog 9 0) ((Zbo Ze Zc types nc ns data rs a b c d e f g h behind k).frT 98 [(0,true),(1,true)])=some (.ret,g1)∧g1.s.O ∧
   Sf.Leads 3 (fun l=>Nat.blt l 72) id (Zbo Ze Zc types nc ns data rs a b c d e f g h behind k) g1 ex ex:=by
 rcases hrr:rl0 rs k with⟨at_,code,off,size,perms,typ⟩
 rw[hrr] at hr hv
 have f0:Zb (Zd undef (rels rs) (0+k*6))=(at_:Int):=by
  rw[Nat.zero_add]; have:=K0 hk; rw[hrr] at this; exact this
 have f1:Zw (Zd undef (rels rs) (0+k*6+1))=code:=by
  rw[Nat.zero_add]; have:=Ue hk; rw[hrr] at this; exact this
 have f2:Zb (Zd undef (rels rs) (0+k*6+1+1))=(off:Int):=by
  rw[Nat.zero_add]; have:=Uf hk; rw[hrr] at this; exact this
 have f3:Zb (Zd undef (rels rs) (0+k*6+1+1+1))=(size:Int):=by
  rw[Nat.zero_add]; have:=Ug hk; rw[hrr] at this; exact this
 have f4:Zb (Zd undef (rels rs) (0+k*6+1+1+1+1))=(perms:Int):=by
  rw[Nat.zero_add]; have:=Uh hk; rw[hrr] at this; exact this
 have f5:Zb (Zd undef (rels rs) (0+k*6+1+1+1+1+1))=(typ:Int):=by
  rw[Nat.zero_add]; have:=Ui hk; rw[hrr] at this; exact this
 have g1:Qc (0+k*6+6) (rels rs)=true:=by rw[YZ]; simp; omega
 have g2:Zs [Value.int u32 (0:Int),Value.bool false,Value.int u32 (0:Int),Value.int u32 (0:Int),Value.int u16 (0:Int),Value.int u16 (0:Int)] (rels rs) (0+k*6)=true:=by rw[Nat.zero_add]; exact XD hk _ _ _ _ _ _
 have g5:decide ((0:Int)≤(k:Int))=true:=by simp
 have g6:decide ((k:Int)<(rs.length:Int))=true:=by simp; omega
 have ha2:((a.toNat:Nat):Int)=a:=Int.toNat_of_nonneg ha
 have hc2:((c.toNat:Nat):Int)=c:=Int.toNat_of_nonneg hc
 refine⟨_,Znr Ze Zc types nc ns data rs a b c d e f g h behind k,?_,?_⟩
 ·simp only[rr, tt, f0,f1,f2,f3,f4,f5,Int.toNat_natCast,g5,g6,ha2,hc2,g1,g2,hv,Bool.not_false,Bool.and_self,cond_true]
  exact⟨⟨⟨trivial,trivial⟩,hr,⟨trivial,trivial,trivial,trivial,trivial⟩,trivial,trivial⟩,trivial⟩
 ·subst hx
  exact⟨fun _ _=>rfl,⟨⟨rfl,by kernel_rfl,rfl,rfl,rfl,trivial,by kernel_rfl⟩,trivial⟩,rfl,trivial,⟨⟨by kernel_rfl,by kernel_rfl⟩,⟨rfl,by kernel_rfl⟩,trivial⟩,Nat.le_refl _,fun l hl=>ZN hl,Zg7,fun x _ _ => .inl rfl⟩
theorem Zfd (Ze Zc types:Int) (nc ns:Nat) (data:List UInt8) (rs:List Rl) (a b c d e f g h:Int) (behind k:Nat) (hk:k=rs.length) :
  ∃ g1,evC Tryz.prog (evF Tryz.prog (ZH 3 Zbn) Zf 100 3) (Zf 9) 98 100 (ZB Tryz.prog 9 0) ((Zbo Ze Zc types nc ns data rs a b c d e f g h behind k).frT 98 [(0,false)])=some (.exit 1,g1)∧g1.s.O ∧
   Sf.Leads 3 (fun l=>Nat.blt l 72) id (Zbo Ze Zc types nc ns data rs a b c d e f g h behind k) g1 ZjZ ZjZ:=by
 refine⟨_,Zns Ze Zc types nc ns data rs a b c d e f g h behind k,?_,?_⟩
 ·subst hk; simp
 ·exact⟨fun _ _=>rfl,⟨⟨rfl,by kernel_rfl,rfl,rfl,rfl,trivial,by kernel_rfl⟩,trivial⟩,rfl,trivial,⟨⟨by kernel_rfl,by kernel_rfl⟩,⟨by kernel_rfl,by kernel_rfl⟩,trivial⟩,Nat.le_refl _,fun l hl=>ZN hl,Zg8,fun x _ _ => .inl rfl⟩
theorem Zg9 (Ze Zc types:Int) (nc ns:Nat) (data:List UInt8) (rs:List Rl) (a b c d e f g h:Int) (j:Nat) (hj:j<rs.length) (hm:rs.length≤100000) (ha:0≤a) (hc:0≤c) (hr:∀ i,i<rs.length→QC nc data.length a.toNat c.toNat (rl0 rs i)) (hv:Zy types nc data.length a.toNat c.toNat (rl0 rs j) (ZY rs j)=false) (hn:∀ i,i<j→Zy types nc data.length a.toNat c.toNat (rl0 rs i) (ZY rs i)=true) :
  ∀ x:{ k:Nat // k≤j },Qj Tryz.prog 98 (ZB Tryz.prog 9 0) ((Zbo Ze Zc types nc ns data rs a b c d e f g h (ZY rs x.1) x.1).fr 98) .ret (ZjY.fr 98):=by
 refine Yc (L:=100) (Zu (L:=100) ZK (Z1 Za8) (Zj _) 3) (ZU _ _ 9) (fun _ h=>h) (X:={ k:Nat // k≤j }) (fun x=>Zbo Ze Zc types nc ns data rs a b c d e f g h (ZY rs x.1) x.1) (fun _=>ZjY) (fun _ => .ret) (fun x=>j-x.1) (fun x=>Zj0 Ze Zc types nc ns data rs a b c d e f g h (ZY rs x.1) x.1) ?_
 rintro⟨k,hk⟩
 by_cases h0:k=j
 ·subst h0
  obtain⟨g1,h1,h2,h3⟩:=Zlx Ze Zc types nc ns data rs a b c d e f g h (ZY rs k) k ZjY hj hm ha hc (hr k hj) hv rfl
  exact⟨_,.ret,g1,3,_,_,h1,h2,.inr ⟨by simp,rfl,h3⟩⟩
 ·obtain⟨g1,h1,h2,h3⟩:=Zec Ze Zc types nc ns data rs a b c d e f g h (ZY rs k) k ZjY (by omega) hm ha hc (hr k (by omega)) (hn k (by omega)) rfl Zg7
  exact⟨_,.normal,g1,3,_,_,h1,h2,.inl ⟨rfl,⟨k+1,by omega⟩,by show j-(k+1)<j-k; omega,rfl,rfl,h3⟩⟩
theorem ZiS (Ze Zc types:Int) (nc ns:Nat) (data:List UInt8) (rs:List Rl) (a b c d e f g h:Int) (hm:rs.length≤100000) (ha:0≤a) (hc:0≤c) (hr:∀ i,i<rs.length→QC nc data.length a.toNat c.toNat (rl0 rs i)) (hn:∀ i,i<rs.length→Zy types nc data.length a.toNat c.toNat (rl0 rs i) (ZY rs i)=true) :
  ∀ x:{ k:Nat // k≤rs.length },Qj Tryz.prog 98 (ZB Tryz.prog 9 0) ((Zbo Ze Zc types nc ns data rs a b c d e f g h (ZY rs x.1) x.1).fr 98) (.exit 1) (ZjZ.fr 98):=by
 refine Yc (L:=100) (Zu (L:=100) ZK (Z1 Za8) (Zj _) 3) (ZU _ _ 9) (fun _ h=>h) (X:={ k:Nat // k≤rs.length }) (fun x=>Zbo Ze Zc types nc ns data rs a b c d e f g h (ZY rs x.1) x.1) (fun _=>ZjZ) (fun _ => .exit 1) (fun x=>rs.length-x.1) (fun x=>Zj0 Ze Zc types nc ns data rs a b c d e f g h (ZY rs x.1) x.1) ?_
 rintro⟨k,hk⟩
 by_cases h0:k<rs.length
 ·obtain⟨g1,h1,h2,h3⟩:=Zec Ze Zc types nc ns data rs a b c d e f g h (ZY rs k) k ZjZ h0 hm ha hc (hr k h0) (hn k h0) rfl Zg8
  exact⟨_,.normal,g1,3,_,_,h1,h2,.inl ⟨rfl,⟨k+1,by omega⟩,by show rs.length-(k+1)<rs.length-k; omega,rfl,rfl,h3⟩⟩
 ·obtain⟨g1,h1,h2,h3⟩:=Zfd Ze Zc types nc ns data rs a b c d e f g h (ZY rs k) k (by omega)
  exact⟨_,.exit 1,g1,3,_,_,h1,h2,.inr ⟨by simp,rfl,h3⟩⟩
def Zly (Ze Zc types:Int) (nc ns:Nat) (data:List UInt8) (rs:List Rl) (a b c d e f g h:Int) (j:Nat) (hj:j<rs.length) (hm:rs.length≤100000) (ha:0≤a) (hc:0≤c) (hr:∀ i,i<rs.length→QC nc data.length a.toNat c.toNat (rl0 rs i)) (hv:Zy types nc data.length a.toNat c.toNat (rl0 rs j) (ZY rs j)=false) (hn:∀ i,i<j→Zy types nc data.length a.toNat c.toNat (rl0 rs i) (ZY rs i)=true):Ent Tryz.prog :=
 Vl Tryz.prog 9 0 98 (Zbo Ze Zc types nc ns data rs a b c d e f g h 0 0) .ret ZjY (by kernel_rfl) (by kernel_rfl) (Zg9 Ze Zc types nc ns data rs a b c d e f g h j hj hm ha hc hr hv hn ⟨0,Nat.zero_le _⟩)
def Zlz (Ze Zc types:Int) (nc ns:Nat) (data:List UInt8) (rs:List Rl) (a b c d e f g h:Int) (hm:rs.length≤100000) (ha:0≤a) (hc:0≤c) (hr:∀ i,i<rs.length→QC nc data.length a.toNat c.toNat (rl0 rs i)) (hn:∀ i,i<rs.length→Zy types nc data.length a.toNat c.toNat (rl0 rs i) (ZY rs i)=true):Ent Tryz.prog :=
 Vl Tryz.prog 9 0 98 (Zbo Ze Zc types nc ns data rs a b c d e f g h 0 0) (.exit 1) ZjZ (by kernel_rfl) (by kernel_rfl) (ZiS Ze Zc types nc ns data rs a b c d e f g h hm ha hc hr hn ⟨0,Nat.zero_le _⟩)
theorem ZiT (Ze Zc types:Int) (nc:Nat) (data:List UInt8) (rs:List Rl) (Za:List Nat):evF Tryz.prog (ZH 3 Zbn) Zf 100 10 9 [YE Ze Zc types nc rs.length Za.length data] (Zli rs Za [(0,true)])=some (Value.tuple { toList:=[Value.agg ⟨[.int .u32 0,.int .u32 0,.int .u32 0,.int .u32 0,.int .u32 0,.int .u32 0,.int .u32 0,.int .u32 0]⟩,.int .i64 3] },{ n:=70,h:=[(65,⟨false,some (0,0),rels rs,none⟩),(66,⟨false,some (0,0),Zk Za,none⟩)],lo:=[],esc:=0,T:=[],k:=1,O:=(True∧(tt∧4<9000000000000000000)∧(rr (Value.slice (some ⟨69,0,none⟩) 4 4)∧True)∧((tt∧tt∧tt∧tt∧tt∧True∧rr [Value.bool (decide ((↑nc:Int)>(4096:Int))),.bool (decide ((↑(Zr data):Int)>(16384:Int))),.bool (decide ((↑rs.length:Int)>(256:Int))),.bool (decide ((↑Za.length:Int)>(4:Int)))])∧True)∧True)∧(!!(decide ((↑nc:Int)>(4096:Int))||(decide ((↑(Zr data):Int)>(16384:Int))||(decide ((↑rs.length:Int)>(256:Int))||(decide ((↑Za.length:Int)>(4:Int))||false)))))=true:St }):=by kernel_rfl
theorem ZlA (Ze Zc types:Int) (nc:Nat) (data:List UInt8) (rs:List Rl) (Za:List Nat):evF Tryz.prog (ZH 3 Zbn) Zf 100 10 9 [YE Ze Zc types nc rs.length Za.length data] (Zli rs Za [(0,false),(1,true)])=some (Value.tuple { toList:=[Value.agg ⟨[.int .u32 0,.int .u32 0,.int .u32 0,.int .u32 0,.int .u32 0,.int .u32 0,.int .u32 0,.int .u32 0]⟩,.int .i64 2] },{ n:=71,h:=[(65,⟨false,some (0,0),rels rs,none⟩),(66,⟨false,some (0,0),Zk Za,none⟩)],lo:=[],esc:=0,T:=[],k:=2,O:=(((True∧(tt∧4<9000000000000000000)∧(rr (Value.slice (some ⟨69,0,none⟩) 4 4)∧True)∧((tt∧tt∧tt∧tt∧tt∧True∧rr [Value.bool (decide ((↑nc:Int)>(4096:Int))),.bool (decide ((↑(Zr data):Int)>(16384:Int))),.bool (decide ((↑rs.length:Int)>(256:Int))),.bool (decide ((↑Za.length:Int)>(4:Int)))])∧True)∧True)∧(!!(decide ((↑nc:Int)>(4096:Int))||(decide ((↑(Zr data):Int)>(16384:Int))||(decide ((↑rs.length:Int)>(256:Int))||(decide ((↑Za.length:Int)>(4:Int))||false)))))=false)∧(tt∧9<9000000000000000000)∧(rr (Value.slice (some ⟨70,0,none⟩) 9 9)∧True)∧((tt∧tt∧tt∧tt∧tt∧True∧rr [Value.bool (decide (Ze<(16:Int))),.bool (decide (Ze>(1024:Int))),.bool (decide (Zc<(256:Int))),.bool (decide (Zc>(4096:Int))),.bool (Zc.tmod (256:Int) !=(0:Int)),.bool (decide (types<(0:Int))),.bool (decide (types>(2048:Int))),.bool ((↑nc:Int)==(0:Int)),.bool ((↑Za.length:Int)==(0:Int))])∧True)∧True)∧(!!(decide (Ze<(16:Int))||(decide (Ze>(1024:Int))||(decide (Zc<(256:Int))||(decide (Zc>(4096:Int))||(Zc.tmod (256:Int) !=(0:Int)||(decide (types<(0:Int))||(decide (types>(2048:Int))||((↑nc:Int)==(0:Int)||((↑Za.length:Int)==(0:Int)||false))))))))))=true:St }):=by kernel_rfl
theorem ZlB (Ze Zc types:Int) (nc:Nat) (data:List UInt8) (rs:List Rl) (Za:List Nat) (j:Nat) (hl:Za.length<9000000000000000000) (hx:∀ (x:Nat),x∈Za→x<4294967296) (hj:j<Za.length) (hv:nc≤Za.getD j 0) (hn:∀ (i:Nat),i<j→Za.getD i 0<nc):evF Tryz.prog (ZH 3 Zbn) (Ut [Znq Ze Zc types nc rs.length data Za j hl hx hj hv hn]) 100 10 9 [YE Ze Zc types nc rs.length Za.length data] (Zli rs Za [(0,false),(1,false)])=some (Value.tuple { toList:=[Value.agg ⟨[.int .u32 0,.int .u32 0,.int .u32 0,.int .u32 0,.int .u32 0,.int .u32 0,.int .u32 0,.int .u32 0]⟩,.int .i64 2] },{ n:=71,h:=[(65,⟨false,some (0,0),rels rs,none⟩),(66,⟨false,some (0,0),Zk Za,none⟩)],lo:=[],esc:=0,T:=[],k:=2,O:=((((True∧(tt∧4<9000000000000000000)∧(rr (Value.slice (some ⟨69,0,none⟩) 4 4)∧True)∧((tt∧tt∧tt∧tt∧tt∧True∧rr [Value.bool (decide ((↑nc:Int)>(4096:Int))),.bool (decide ((↑(Zr data):Int)>(16384:Int))),.bool (decide ((↑rs.length:Int)>(256:Int))),.bool (decide ((↑Za.length:Int)>(4:Int)))])∧True)∧True)∧(!!(decide ((↑nc:Int)>(4096:Int))||(decide ((↑(Zr data):Int)>(16384:Int))||(decide ((↑rs.length:Int)>(256:Int))||(decide ((↑Za.length:Int)>(4:Int))||false)))))=false)∧(tt∧9<9000000000000000000)∧(rr (Value.slice (some ⟨70,0,none⟩) 9 9)∧True)∧((tt∧tt∧tt∧tt∧tt∧True∧rr [Value.bool (decide (Ze<(16:Int))),.bool (decide (Ze>(1024:Int))),.bool (decide (Zc<(256:Int))),.bool (decide (Zc>(4096:Int))),.bool (Zc.tmod (256:Int) !=(0:Int)),.bool (decide (types<(0:Int))),.bool (decide (types>(2048:Int))),.bool ((↑nc:Int)==(0:Int)),.bool ((↑Za.length:Int)==(0:Int))])∧True)∧True)∧(!!(decide (Ze<(16:Int))||(decide (Ze>(1024:Int))||(decide (Zc<(256:Int))||(decide (Zc>(4096:Int))||(Zc.tmod (256:Int) !=(0:Int)||(decide (types<(0:Int))||(decide (types>(2048:Int))||((↑nc:Int)==(0:Int)||((↑Za.length:Int)==(0:Int)||false))))))))))=false)∧(rr (Value.slice (some ⟨66,0,none⟩) Za.length 9223372036854775874)∧rr (Value.func (Fn.func 39) { toList:=[] } { toList:=[Value.pointer (some ⟨67,0,none⟩)] })∧rr (Value.int .i64 (↑Za.length))∧rr (Value.int .i64 0)∧True)∧((tt∧tt∧True∧rr (Zk Za))∧(tt∧tt∧True∧rr [Value.int .i64 Ze,.int .i64 Zc,.int .i64 types,.slice (some ⟨64,0,none⟩) nc 9223372036854775872,.string ⟨⟨data⟩⟩,.slice (some ⟨65,0,none⟩) rs.length 9223372036854775873,.slice (some ⟨66,0,none⟩) Za.length 9223372036854775874])∧True)∧True∧True:St }):=by kernel_rfl
theorem ZlC (Ze Zc types:Int) (nc:Nat) (data:List UInt8) (rs:List Rl) (Za:List Nat) (hl:Za.length<9000000000000000000) (hx:∀ (x:Nat),x∈Za→x<4294967296) (hn:∀ (i:Nat),i<Za.length→Za.getD i 0<nc):evF Tryz.prog (ZH 3 Zbn) (Ut [Zg6 Ze Zc types nc rs.length data Za hl hx hn]) 100 10 9 [YE Ze Zc types nc rs.length Za.length data] (Zli rs Za (tb 4 8))=some (Value.tuple { toList:=[Value.agg ⟨[.int .u32 0,.int .u32 0,.int .u32 0,.int .u32 0,.int .u32 0,.int .u32 0,.int .u32 0,.int .u32 0]⟩,.int .i64 13] },{ n:=72,h:=[(65,⟨false,some (0,0),rels rs,none⟩),(66,⟨false,some (0,0),Zk Za,none⟩)],lo:=[],esc:=0,T:=[],k:=4,O:=(((((((True∧(tt∧4<9000000000000000000)∧(rr (Value.slice (some ⟨69,0,none⟩) 4 4)∧True)∧((tt∧tt∧tt∧tt∧tt∧True∧rr [Value.bool (decide ((↑nc:Int)>(4096:Int))),.bool (decide ((↑(Zr data):Int)>(16384:Int))),.bool (decide ((↑rs.length:Int)>(256:Int))),.bool (decide ((↑Za.length:Int)>(4:Int)))])∧True)∧True)∧(!!(decide ((↑nc:Int)>(4096:Int))||(decide ((↑(Zr data):Int)>(16384:Int))||(decide ((↑rs.length:Int)>(256:Int))||(decide ((↑Za.length:Int)>(4:Int))||false)))))=false)∧(tt∧9<9000000000000000000)∧(rr (Value.slice (some ⟨70,0,none⟩) 9 9)∧True)∧((tt∧tt∧tt∧tt∧tt∧True∧rr [Value.bool (decide (Ze<(16:Int))),.bool (decide (Ze>(1024:Int))),.bool (decide (Zc<(256:Int))),.bool (decide (Zc>(4096:Int))),.bool (Zc.tmod (256:Int) !=(0:Int)),.bool (decide (types<(0:Int))),.bool (decide (types>(2048:Int))),.bool ((↑nc:Int)==(0:Int)),.bool ((↑Za.length:Int)==(0:Int))])∧True)∧True)∧(!!(decide (Ze<(16:Int))||(decide (Ze>(1024:Int))||(decide (Zc<(256:Int))||(decide (Zc>(4096:Int))||(Zc.tmod (256:Int) !=(0:Int)||(decide (types<(0:Int))||(decide (types>(2048:Int))||((↑nc:Int)==(0:Int)||((↑Za.length:Int)==(0:Int)||false))))))))))=false)∧(rr (Value.slice (some ⟨66,0,none⟩) Za.length 9223372036854775874)∧rr (Value.func (Fn.func 39) { toList:=[] } { toList:=[Value.pointer (some ⟨67,0,none⟩)] })∧rr (Value.int .i64 (↑Za.length))∧rr (Value.int .i64 0)∧True)∧((tt∧tt∧True∧rr (Zk Za))∧(tt∧tt∧True∧rr [Value.int .i64 Ze,.int .i64 Zc,.int .i64 types,.slice (some ⟨64,0,none⟩) nc 9223372036854775872,.string ⟨⟨data⟩⟩,.slice (some ⟨65,0,none⟩) rs.length 9223372036854775873,.slice (some ⟨66,0,none⟩) Za.length 9223372036854775874])∧True)∧True∧True)∧rr false)∧Xr Ze Zc nc Za.length data.length∧(rr (Value.agg ⟨[.int .i64 Ze,.int .i64 Zc,.int .i64 types,.slice (some ⟨64,0,none⟩) nc 9223372036854775872,.string ⟨⟨data⟩⟩,.slice (some ⟨65,0,none⟩) rs.length 9223372036854775873,.slice (some ⟨66,0,none⟩) Za.length 9223372036854775874]⟩)∧True)∧True∧True)∧(!!Zo Ze Zc nc Za.length data.length)=true:St }):=by kernel_rfl
theorem ZlD (Ze Zc types:Int) (nc:Nat) (data:List UInt8) (rs:List Rl) (Za:List Nat) (hl:Za.length<9000000000000000000) (hx:∀ (x:Nat),x∈Za→x<4294967296) (hn:∀ (i:Nat),i<Za.length→Za.getD i 0<nc) (hm:rs.length≤100000) (ha:(0:Int)≤(0:Int)) (hc:(0:Int)≤pk (Zo Ze Zc nc Za.length data.length) (ZG (4*nc))) (hr:∀ (i:Nat),i<rs.length→QC nc data.length (Int.toNat (0:Int)) (pk (Zo Ze Zc nc Za.length data.length) (ZG (4*nc))).toNat (rl0 rs i)) (j:Nat) (hj:j<rs.length) (hv:Zy types nc data.length (Int.toNat (0:Int)) (pk (Zo Ze Zc nc Za.length data.length) (ZG (4*nc))).toNat (rl0 rs j) (ZY rs j)=false) (hn2:∀ (i:Nat),i<j→Zy types nc data.length (Int.toNat (0:Int)) (pk (Zo Ze Zc nc Za.length data.length) (ZG (4*nc))).toNat (rl0 rs i) (ZY rs i)=true):evF Tryz.prog (ZH 3 Zbn) (Ut [Zg6 Ze Zc types nc rs.length data Za hl hx hn,Zly Ze Zc types nc Za.length data rs (0:Int) (pk (Zo Ze Zc nc Za.length data.length) (ZG (4*nc))) (pk (Zo Ze Zc nc Za.length data.length) (ZG (4*nc))) (pk (Zo Ze Zc nc Za.length data.length) (ZG data.length)) (pk (Zo Ze Zc nc Za.length data.length) (ZG (4*nc)+ZG data.length)) (pk (Zo Ze Zc nc Za.length data.length) (Zc.toNat*Za.length)) (pk (Zo Ze Zc nc Za.length data.length) (ZX Zc nc Za.length data.length)) (pk (Zo Ze Zc nc Za.length data.length) (Ze.toNat*256-ZX Zc nc Za.length data.length)) j hj hm ha hc hr hv hn2]) 100 10 9 [YE Ze Zc types nc rs.length Za.length data] (Zli rs Za (tb 4 0))=some (Value.tuple { toList:=[Value.agg ⟨[.int .u32 0,.int .u32 0,.int .u32 0,.int .u32 0,.int .u32 0,.int .u32 0,.int .u32 0,.int .u32 0]⟩,.int .i64 2] },{ n:=72,h:=[(65,⟨false,some (0,0),rels rs,none⟩),(66,⟨false,some (0,0),Zk Za,none⟩)],lo:=[],esc:=0,T:=[],k:=4,O:=((((((((True∧(tt∧4<9000000000000000000)∧(rr (Value.slice (some ⟨69,0,none⟩) 4 4)∧True)∧((tt∧tt∧tt∧tt∧tt∧True∧rr [Value.bool (decide ((↑nc:Int)>(4096:Int))),.bool (decide ((↑(Zr data):Int)>(16384:Int))),.bool (decide ((↑rs.length:Int)>(256:Int))),.bool (decide ((↑Za.length:Int)>(4:Int)))])∧True)∧True)∧(!!(decide ((↑nc:Int)>(4096:Int))||(decide ((↑(Zr data):Int)>(16384:Int))||(decide ((↑rs.length:Int)>(256:Int))||(decide ((↑Za.length:Int)>(4:Int))||false)))))=false)∧(tt∧9<9000000000000000000)∧(rr (Value.slice (some ⟨70,0,none⟩) 9 9)∧True)∧((tt∧tt∧tt∧tt∧tt∧True∧rr [Value.bool (decide (Ze<(16:Int))),.bool (decide (Ze>(1024:Int))),.bool (decide (Zc<(256:Int))),.bool (decide (Zc>(4096:Int))),.bool (Zc.tmod (256:Int) !=(0:Int)),.bool (decide (types<(0:Int))),.bool (decide (types>(2048:Int))),.bool ((↑nc:Int)==(0:Int)),.bool ((↑Za.length:Int)==(0:Int))])∧True)∧True)∧(!!(decide (Ze<(16:Int))||(decide (Ze>(1024:Int))||(decide (Zc<(256:Int))||(decide (Zc>(4096:Int))||(Zc.tmod (256:Int) !=(0:Int)||(decide (types<(0:Int))||(decide (types>(2048:Int))||((↑nc:Int)==(0:Int)||((↑Za.length:Int)==(0:Int)||false))))))))))=false)∧(rr (Value.slice (some ⟨66,0,none⟩) Za.length 9223372036854775874)∧rr (Value.func (Fn.func 39) { toList:=[] } { toList:=[Value.pointer (some ⟨67,0,none⟩)] })∧rr (Value.int .i64 (↑Za.length))∧rr (Value.int .i64 0)∧True)∧((tt∧tt∧True∧rr (Zk Za))∧(tt∧tt∧True∧rr [Value.int .i64 Ze,.int .i64 Zc,.int .i64 types,.slice (some ⟨64,0,none⟩) nc 9223372036854775872,.string ⟨⟨data⟩⟩,.slice (some ⟨65,0,none⟩) rs.length 9223372036854775873,.slice (some ⟨66,0,none⟩) Za.length 9223372036854775874])∧True)∧True∧True)∧rr false)∧Xr Ze Zc nc Za.length data.length∧(rr (Value.agg ⟨[.int .i64 Ze,.int .i64 Zc,.int .i64 types,.slice (some ⟨64,0,none⟩) nc 9223372036854775872,.string ⟨⟨data⟩⟩,.slice (some ⟨65,0,none⟩) rs.length 9223372036854775873,.slice (some ⟨66,0,none⟩) Za.length 9223372036854775874]⟩)∧True)∧True∧True)∧(!!Zo Ze Zc nc Za.length data.length)=false)∧(rr (Value.pointer (some ⟨67,0,none⟩))∧rr (Value.pointer (some ⟨68,0,none⟩))∧rr (Value.pointer (some ⟨71,0,none⟩))∧rr (Value.int .u32 0)∧rr (Value.slice (some ⟨65,0,none⟩) rs.length 9223372036854775873)∧rr (Value.int .i64 (↑rs.length))∧rr (Value.int .i64 0)∧True)∧((tt∧tt∧True∧rr (rels rs))∧(tt∧tt∧True∧rr [Value.int .i64 Ze,.int .i64 Zc,.int .i64 types,.slice (some ⟨64,0,none⟩) nc 9223372036854775872,.string ⟨⟨data⟩⟩,.slice (some ⟨65,0,none⟩) rs.length 9223372036854775873,.slice (some ⟨66,0,none⟩) Za.length 9223372036854775874])∧(tt∧tt∧True∧rr [Value.int .u32 0,.int .u32 0,.int .u32 0,.int .u32 0,.int .u32 0,.int .u32 0,.int .u32 0,.int .u32 0])∧(tt∧tt∧True∧rr [Value.int .u32 0,.int .u32 (pk (Zo Ze Zc nc Za.length data.length) (ZG (4*nc))),.int .u32 (pk (Zo Ze Zc nc Za.length data.length) (ZG (4*nc))),.int .u32 (pk (Zo Ze Zc nc Za.length data.length) (ZG data.length)),.int .u32 (pk (Zo Ze Zc nc Za.length data.length) (ZG (4*nc)+ZG data.length)),.int .u32 (pk (Zo Ze Zc nc Za.length data.length) (Zc.toNat*Za.length)),.int .u32 (pk (Zo Ze Zc nc Za.length data.length) (ZX Zc nc Za.length data.length)),.int .u32 (pk (Zo Ze Zc nc Za.length data.length) (Ze.toNat*256-ZX Zc nc Za.length data.length))])∧True)∧True∧True:St }):=by kernel_rfl
theorem Znt (Ze Zc types:Int) (nc:Nat) (data:List UInt8) (rs:List Rl) (Za:List Nat) (hl:Za.length<9000000000000000000) (hx:∀ (x:Nat),x∈Za→x<4294967296) (hn:∀ (i:Nat),i<Za.length→Za.getD i 0<nc) (hm:rs.length≤100000) (ha:(0:Int)≤(0:Int)) (hc:(0:Int)≤pk (Zo Ze Zc nc Za.length data.length) (ZG (4*nc))) (hr:∀ (i:Nat),i<rs.length→QC nc data.length (Int.toNat (0:Int)) (pk (Zo Ze Zc nc Za.length data.length) (ZG (4*nc))).toNat (rl0 rs i)) (hn2:∀ (i:Nat),i<rs.length→Zy types nc data.length (Int.toNat (0:Int)) (pk (Zo Ze Zc nc Za.length data.length) (ZG (4*nc))).toNat (rl0 rs i) (ZY rs i)=true):evF Tryz.prog (ZH 3 Zbn) (Ut [Zg6 Ze Zc types nc rs.length data Za hl hx hn,Zlz Ze Zc types nc Za.length data rs (0:Int) (pk (Zo Ze Zc nc Za.length data.length) (ZG (4*nc))) (pk (Zo Ze Zc nc Za.length data.length) (ZG (4*nc))) (pk (Zo Ze Zc nc Za.length data.length) (ZG data.length)) (pk (Zo Ze Zc nc Za.length data.length) (ZG (4*nc)+ZG data.length)) (pk (Zo Ze Zc nc Za.length data.length) (Zc.toNat*Za.length)) (pk (Zo Ze Zc nc Za.length data.length) (ZX Zc nc Za.length data.length)) (pk (Zo Ze Zc nc Za.length data.length) (Ze.toNat*256-ZX Zc nc Za.length data.length)) hm ha hc hr hn2]) 100 10 9 [YE Ze Zc types nc rs.length Za.length data] (Zli rs Za (tb 4 0))=some (Value.tuple { toList:=[Value.agg ⟨[.int .u32 0,.int .u32 (pk (Zo Ze Zc nc Za.length data.length) (ZG (4*nc))),.int .u32 (pk (Zo Ze Zc nc Za.length data.length) (ZG (4*nc))),.int .u32 (pk (Zo Ze Zc nc Za.length data.length) (ZG data.length)),.int .u32 (pk (Zo Ze Zc nc Za.length data.length) (ZG (4*nc)+ZG data.length)),.int .u32 (pk (Zo Ze Zc nc Za.length data.length) (Zc.toNat*Za.length)),.int .u32 (pk (Zo Ze Zc nc Za.length data.length) (ZX Zc nc Za.length data.length)),.int .u32 (pk (Zo Ze Zc nc Za.length data.length) (Ze.toNat*256-ZX Zc nc Za.length data.length))]⟩,.int .i64 0] },{ n:=72,h:=[(65,⟨false,some (0,0),rels rs,none⟩),(66,⟨false,some (0,0),Zk Za,none⟩)],lo:=[],esc:=0,T:=[],k:=4,O:=((((((((True∧(tt∧4<9000000000000000000)∧(rr (Value.slice (some ⟨69,0,none⟩) 4 4)∧True)∧((tt∧tt∧tt∧tt∧tt∧True∧rr [Value.bool (decide ((↑nc:Int)>(4096:Int))),.bool (decide ((↑(Zr data):Int)>(16384:Int))),.bool (decide ((↑rs.length:Int)>(256:Int))),.bool (decide ((↑Za.length:Int)>(4:Int)))])∧True)∧True)∧(!!(decide ((↑nc:Int)>(4096:Int))||(decide ((↑(Zr data):Int)>(16384:Int))||(decide ((↑rs.length:Int)>(256:Int))||(decide ((↑Za.length:Int)>(4:Int))||false)))))=false)∧(tt∧9<9000000000000000000)∧(rr (Value.slice (some ⟨70,0,none⟩) 9 9)∧True)∧((tt∧tt∧tt∧tt∧tt∧True∧rr [Value.bool (decide (Ze<(16:Int))),.bool (decide (Ze>(1024:Int))),.bool (decide (Zc<(256:Int))),.bool (decide (Zc>(4096:Int))),.bool (Zc.tmod (256:Int) !=(0:Int)),.bool (decide (types<(0:Int))),.bool (decide (types>(2048:Int))),.bool ((↑nc:Int)==(0:Int)),.bool ((↑Za.length:Int)==(0:Int))])∧True)∧True)∧(!!(decide (Ze<(16:Int))||(decide (Ze>(1024:Int))||(decide (Zc<(256:Int))||(decide (Zc>(4096:Int))||(Zc.tmod (256:Int) !=(0:Int)||(decide (types<(0:Int))||(decide (types>(2048:Int))||((↑nc:Int)==(0:Int)||((↑Za.length:Int)==(0:Int)||false))))))))))=false)∧(rr (Value.slice (some ⟨66,0,none⟩) Za.length 9223372036854775874)∧rr (Value.func (Fn.func 39) { toList:=[] } { toList:=[Value.pointer (some ⟨67,0,none⟩)] })∧rr (Value.int .i64 (↑Za.length))∧rr (Value.int .i64 0)∧True)∧((tt∧tt∧True∧rr (Zk Za))∧(tt∧tt∧True∧rr [Value.int .i64 Ze,.int .i64 Zc,.int .i64 types,.slice (some ⟨64,0,none⟩) nc 9223372036854775872,.string ⟨⟨data⟩⟩,.slice (some ⟨65,0,none⟩) rs.length 9223372036854775873,.slice (some ⟨66,0,none⟩) Za.length 9223372036854775874])∧True)∧True∧True)∧rr false)∧Xr Ze Zc nc Za.length data.length∧(rr (Value.agg ⟨[.int .i64 Ze,.int .i64 Zc,.int .i64 types,.slice (some ⟨64,0,none⟩) nc 9223372036854775872,.string ⟨⟨data⟩⟩,.slice (some ⟨65,0,none⟩) rs.length 9223372036854775873,.slice (some ⟨66,0,none⟩) Za.length 9223372036854775874]⟩)∧True)∧True∧True)∧(!!Zo Ze Zc nc Za.length data.length)=false)∧(rr (Value.pointer (some ⟨67,0,none⟩))∧rr (Value.pointer (some ⟨68,0,none⟩))∧rr (Value.pointer (some ⟨71,0,none⟩))∧rr (Value.int .u32 0)∧rr (Value.slice (some ⟨65,0,none⟩) rs.length 9223372036854775873)∧rr (Value.int .i64 (↑rs.length))∧rr (Value.int .i64 0)∧True)∧((tt∧tt∧True∧rr (rels rs))∧(tt∧tt∧True∧rr [Value.int .i64 Ze,.int .i64 Zc,.int .i64 types,.slice (some ⟨64,0,none⟩) nc 9223372036854775872,.string ⟨⟨data⟩⟩,.slice (some ⟨65,0,none⟩) rs.length 9223372036854775873,.slice (some ⟨66,0,none⟩) Za.length 9223372036854775874])∧(tt∧tt∧True∧rr [Value.int .u32 0,.int .u32 0,.int .u32 0,.int .u32 0,.int .u32 0,.int .u32 0,.int .u32 0,.int .u32 0])∧(tt∧tt∧True∧rr [Value.int .u32 0,.int .u32 (pk (Zo Ze Zc nc Za.length data.length) (ZG (4*nc))),.int .u32 (pk (Zo Ze Zc nc Za.length data.length) (ZG (4*nc))),.int .u32 (pk (Zo Ze Zc nc Za.length data.length) (ZG data.length)),.int .u32 (pk (Zo Ze Zc nc Za.length data.length) (ZG (4*nc)+ZG data.length)),.int .u32 (pk (Zo Ze Zc nc Za.length data.length) (Zc.toNat*Za.length)),.int .u32 (pk (Zo Ze Zc nc Za.length data.length) (ZX Zc nc Za.length data.length)),.int .u32 (pk (Zo Ze Zc nc Za.length data.length) (Ze.toNat*256-ZX Zc nc Za.length data.length))])∧True)∧True∧True:St }):=by kernel_rfl
def ZO (nc len nr ns:Nat):Bool:=decide ((nc:Int)>4096)||(decide ((len:Int)>16384)||(decide ((nr:Int)>256)||(decide ((ns:Int)>4)||false)))
def QF (Ze Zc types:Int) (nc ns:Nat):Bool:=decide (Ze<16)||(decide (Ze>1024)||(decide (Zc<256)||(decide (Zc>4096)||(Zc.tmod 256 !=0||(decide (types<0)||(decide (types>2048)||((nc:Int)==0||((ns:Int)==0||false))))))))
def UC (nc:Nat) (Za:List Nat):Bool:=(List.range Za.length).any fun i=>decide (nc≤Za.getD i 0)
def W4 (types:Int) (nc len:Nat) (rs:List Rl) (i:Nat):Bool:=Zy types nc len 0 (ZG (4*nc)) (rl0 rs i) (ZY rs i)
def UD (types:Int) (nc len:Nat) (rs:List Rl):Bool:=(List.range rs.length).any fun i => !W4 types nc len rs i
def ZZ (Ze Zc types:Int) (nc:Nat) (data:List UInt8) (rs:List Rl) (Za:List Nat):Nat :=
 bif ZO nc data.length rs.length Za.length then 3
 else bif QF Ze Zc types nc Za.length then 2
 else bif UC nc Za then 2
 else bif Zo Ze Zc nc Za.length data.length then 13
 else bif UD types nc data.length rs then 2 else 0
def pe (e:Nat) (x:Nat):Int:=bif Nat.beq e 0 then(x:Int) else 0
def Kn (Ze Zc types:Int) (nc:Nat) (data:List UInt8) (rs:List Rl) (Za:List Nat):Value :=
 .agg ⟨[.int .u32 0,.int .u32 (pe (ZZ Ze Zc types nc data rs Za) (ZG (4*nc))),.int .u32 (pe (ZZ Ze Zc types nc data rs Za) (ZG (4*nc))),.int .u32 (pe (ZZ Ze Zc types nc data rs Za) (ZG data.length)),.int .u32 (pe (ZZ Ze Zc types nc data rs Za) (ZG (4*nc)+ZG data.length)),.int .u32 (pe (ZZ Ze Zc types nc data rs Za) (Zc.toNat*Za.length)),.int .u32 (pe (ZZ Ze Zc types nc data rs Za) (ZX Zc nc Za.length data.length)),.int .u32 (pe (ZZ Ze Zc types nc data rs Za) (Ze.toNat*256-ZX Zc nc Za.length data.length))]⟩
def Qo (Ze Zc types:Int) (nc:Nat) (data:List UInt8) (rs:List Rl) (Za:List Nat):Value:=.tuple ⟨[Kn Ze Zc types nc data rs Za,.int .i64 (ZZ Ze Zc types nc data rs Za:Nat)]⟩
def imH (rs:List Rl) (Za:List Nat):Sy.Heap:=[(65,⟨false,some (0,0),rels rs,none⟩),(66,⟨false,some (0,0),Zk Za,none⟩)]
def imC (Ze Zc types:Int) (nc:Nat) (data:List UInt8) (rs:List Rl) (Za:List Nat) (v:Value):Con:=⟨[YE Ze Zc types nc rs.length Za.length data],67,imH rs Za,[],v,67,imH rs Za,[]⟩
structure ImOk (rs:List Rl) (Za:List Nat):Prop where
 rels:∀ r∈rs,RlOk r
 nums:∀ x∈Za,x<4294967296
 len:Za.length<9000000000000000000
theorem XU (p:Nat→Bool):∀ n,(List.range n).any p=true→∃ j,j<n∧p j=true∧∀ i,i<j→p i=false
 | 0,h=>by simp at h
 | n+1,h=>by
  by_cases h1:(List.range n).any p=true
  ·obtain⟨j,h2,h3,h4⟩:=XU p n h1
   exact⟨j,by omega,h3,h4⟩
  ·rw[List.range_succ,List.any_append] at h
   simp only[rr, tt, h1,Bool.false_or,List.any_cons,List.any_nil,Bool.or_false] at h
   refine⟨n,by omega,h,fun i hi => ?_⟩
   simp only[rr, tt, Bool.not_eq_true,List.any_eq_false,List.mem_range] at h1
   simpa using h1 i hi
theorem VN {p:Nat→Bool} {n:Nat} (h:(List.range n).any p=false):∀ i,i<n→p i=false:=by
 intro i hi
 simp only[rr, tt, List.any_eq_false,List.mem_range] at h
 simpa using h i hi
theorem imWf (Ze Zc types:Int) (nc:Nat) (data:List UInt8) (rs:List Rl) (Za:List Nat) (v:Value) (hv:Yr v=true):(imC Ze Zc types nc data rs Za v).Wf 3 :=
 ⟨by show NG≤67; decide,Nat.le_refl _,⟨⟨rfl,rfl,Zv (ZC rs)⟩,⟨rfl,rfl,Zv (Zg Za)⟩,trivial⟩,rfl,rfl,rfl,by kernel_rfl,Qy hv 1,fun x hx v hv=>by
  simp only[rr, tt, imC,imH,List.mem_cons,List.not_mem_nil,or_false] at hx
  rcases hx with rfl|rfl
  ·exact ZS (ZC rs v hv) 3
  ·exact ZS (Zg Za v hv) 3⟩
theorem Q2 {call:Qb} (hcall:ZA Tryz.prog call) {f:FuncId} {Ze Zc types:Int} {nc:Nat} {data:List UInt8} {rs:List Rl} {Za:List Nat} {T:List (Nat×Bool)} {v v':Value} {n k':Nat} {q:Prop}
  (hr:call f [YE Ze Zc types nc rs.length Za.length data] (Zli rs Za T)=some (v,⟨n,imH rs Za,[],0,[],k',q⟩))
  (hv:v=v') (hf:Yr v'=true) (hu:isU v'=false) (hq:q):ConOk Tryz.prog f 3 (imC Ze Zc types nc data rs Za v'):=by
 subst hv
 refine ZF hcall (imWf Ze Zc types nc data rs Za v hf) (T:=T) (p:=fun l=>Nat.blt l 67) (σ:=id) hr hq ?_
 exact⟨fun _ _=>rfl,⟨⟨rfl,Zh (ZC rs),rfl,rfl,rfl,trivial,(Zi (ZC rs)).symm⟩,⟨rfl,Zh (Zg Za),rfl,rfl,rfl,trivial,(Zi (Zg Za)).symm⟩,trivial⟩,rfl,trivial,⟨Qy hf 1,(Yd 3 v).symm⟩,hu,⟨⟨rfl,rfl,Zv (ZC rs)⟩,⟨rfl,rfl,Zv (Zg Za)⟩,trivial⟩,rfl,Yb _ hf,fun x _ _ => .inl rfl⟩
theorem Znu {e:Nat} (h:e≠0) (x:Nat):pe e x=0:=by unfold pe; cases h1:Nat.beq e 0<;>simp_all
theorem VO {Ze Zc types:Int} {nc ns nr len:Nat} (hl:ZO nc len nr ns=false) (ha:QF Ze Zc types nc ns=false):Xr Ze Zc nc ns len:=by
 unfold ZO at hl
 unfold QF at ha
 simp only[rr, tt, Bool.or_eq_false_iff,decide_eq_false_iff_not,bne_eq_false_iff_eq,beq_eq_false_iff_ne,ne_eq] at hl ha
 obtain⟨l1,l2,l3,l4,_⟩:=hl
 obtain⟨a1,a2,a3,a4,a5,a6,a7,a8,a9,_⟩:=ha
 have h0:0≤Zc:=by omega
 obtain⟨s,rfl⟩:=Int.eq_ofNat_of_zero_le h0
 rw[show(256:Int)=((256:Nat):Int) from rfl,← Int.ofNat_tmod] at a5
 exact⟨by omega,by omega,by omega,by omega,by omega,by omega,by omega,by omega⟩
theorem Zha (Ze Zc types:Int) (nc:Nat) (data:List UInt8) (rs:List Rl) (Za:List Nat) (hi:ImOk rs Za):ConOk Tryz.prog 9 3 (imC Ze Zc types nc data rs Za (Qo Ze Zc types nc data rs Za)):=by
 have hb:=Z1 (d:=3) Za8
 have h4:(4:Nat)<9000000000000000000:=by omega
 have h9:(9:Nat)<9000000000000000000:=by omega
 cases hl:ZO nc data.length rs.length Za.length
 ·have hl':(!!ZO nc data.length rs.length Za.length)=false:=by rw[hl]; rfl
  cases ha:QF Ze Zc types nc Za.length
  ·have ha':(!!QF Ze Zc types nc Za.length)=false:=by rw[ha]; rfl
   have hlay:=VO hl ha
   cases hf:UC nc Za
   ·have hn:∀ i,i<Za.length→Za.getD i 0<nc:=fun i hi=>by
     have:=VN hf i hi; simpa using this
    cases hg:Zo Ze Zc nc Za.length data.length
    ·have hg':(!!Zo Ze Zc nc Za.length data.length)=false:=by rw[hg]; rfl
     have hm:rs.length≤100000:=by
      unfold ZO at hl; simp only[rr, tt, Bool.or_eq_false_iff,decide_eq_false_iff_not] at hl; omega
     have hpk:pk (Zo Ze Zc nc Za.length data.length) (ZG (4*nc))=((ZG (4*nc):Nat):Int):=by rw[hg]; rfl
     have hc:0≤pk (Zo Ze Zc nc Za.length data.length) (ZG (4*nc)):=by rw[hpk]; omega
     have hct:(pk (Zo Ze Zc nc Za.length data.length) (ZG (4*nc))).toNat=ZG (4*nc):=by rw[hpk]; rfl
     have hro:∀ i,i<rs.length→QC nc data.length (0:Int).toNat (pk (Zo Ze Zc nc Za.length data.length) (ZG (4*nc))).toNat (rl0 rs i):=fun i hir=>by
      rw[hct]
      have:=Xg (4*nc)
      refine⟨?_,hlay.2.2.2.2.2.1,hlay.2.2.2.2.2.2.2,by simp,by have:=hlay.2.2.2.2.2.1; omega⟩
      unfold rl0; rw[List.getD_eq_getElem?_getD,List.getElem?_eq_getElem hir]; exact hi.rels _ (List.getElem_mem hir)
     cases hd:UD types nc data.length rs
     ·have he:ZZ Ze Zc types nc data rs Za=0:=by unfold ZZ; rw[hl,ha,hf,hg,hd]; rfl
      have hn2:∀ i,i<rs.length→Zy types nc data.length (0:Int).toNat (pk (Zo Ze Zc nc Za.length data.length) (ZG (4*nc))).toNat (rl0 rs i) (ZY rs i)=true:=fun i hir=>by
       rw[hct]; have:=VN hd i hir; simpa [W4] using this
      have hh:=Znt Ze Zc types nc data rs Za hi.len hi.nums hn hm (by omega) hc hro hn2
      rw[Zq] at hh
      refine Q2 (Zu ZK hb (QR _) 10) hh ?_ rfl rfl ?_
      ·unfold Qo Kn; rw[he,hg]; rfl
      ·repeat' (with_reducible apply And.intro)
       all_goals first|exact h4|exact h9|exact hl'|exact ha'|exact hg'|exact hlay|with_reducible trivial|with_reducible rfl
     ·obtain⟨j,hj,hv,hn2⟩:=XU _ _ hd
      have he:ZZ Ze Zc types nc data rs Za=2:=by unfold ZZ; rw[hl,ha,hf,hg,hd]; rfl
      have hv':Zy types nc data.length (0:Int).toNat (pk (Zo Ze Zc nc Za.length data.length) (ZG (4*nc))).toNat (rl0 rs j) (ZY rs j)=false:=by
       rw[hct]; simpa [W4] using hv
      have hn2':∀ i,i<j→Zy types nc data.length (0:Int).toNat (pk (Zo Ze Zc nc Za.length data.length) (ZG (4*nc))).toNat (rl0 rs i) (ZY rs i)=true:=fun i hij=>by
       rw[hct]; have:=hn2 i hij; simpa [W4] using this
      have hh:=ZlD Ze Zc types nc data rs Za hi.len hi.nums hn hm (by omega) hc hro j hj hv' hn2'
      rw[Zq] at hh
      refine Q2 (Zu ZK hb (QR _) 10) hh ?_ rfl rfl ?_
      ·unfold Qo Kn; rw[he]; rfl
      ·repeat' (with_reducible apply And.intro)
       all_goals first|exact h4|exact h9|exact hl'|exact ha'|exact hg'|exact hlay|with_reducible trivial|with_reducible rfl
    ·have hg':(!!Zo Ze Zc nc Za.length data.length)=true:=by rw[hg]; rfl
     have he:ZZ Ze Zc types nc data rs Za=13:=by unfold ZZ; rw[hl,ha,hf,hg]; rfl
     have hh:=ZlC Ze Zc types nc data rs Za hi.len hi.nums hn
     rw[Zq] at hh
     refine Q2 (Zu ZK hb (QR _) 10) hh ?_ rfl rfl ?_
     ·unfold Qo Kn; rw[he]; rfl
     ·repeat' (with_reducible apply And.intro)
      all_goals first|exact h4|exact h9|exact hl'|exact ha'|exact hg'|exact hlay|with_reducible trivial|with_reducible rfl
   ·obtain⟨j,hj,hv,hn⟩:=XU _ _ hf
    have he:ZZ Ze Zc types nc data rs Za=2:=by unfold ZZ; rw[hl,ha,hf]; rfl
    have hh:=ZlB Ze Zc types nc data rs Za j hi.len hi.nums hj (by simpa using hv) (fun i hij=>by have:=hn i hij; simpa using this)
    rw[Zq] at hh
    refine Q2 (Zu ZK hb (QR _) 10) hh ?_ rfl rfl ?_
    ·unfold Qo Kn; rw[he]; rfl
    ·repeat' (with_reducible apply And.intro)
     all_goals first|exact h4|exact h9|exact hl'|exact ha'|with_reducible trivial|with_reducible rfl
  ·have ha':(!!QF Ze Zc types nc Za.length)=true:=by rw[ha]; rfl
   have he:ZZ Ze Zc types nc data rs Za=2:=by unfold ZZ; rw[hl,ha]; rfl
   have hh:=ZlA Ze Zc types nc data rs Za
   rw[Zq] at hh
   refine Q2 (Zu ZK hb (Zj _) 10) hh ?_ rfl rfl ?_
   ·unfold Qo Kn; rw[he]; rfl
   ·repeat' (with_reducible apply And.intro)
    all_goals first|exact h4|exact h9|exact hl'|exact ha'|with_reducible trivial|with_reducible rfl
 ·have hl':(!!ZO nc data.length rs.length Za.length)=true:=by rw[hl]; rfl
  have he:ZZ Ze Zc types nc data rs Za=3:=by unfold ZZ; rw[hl]; rfl
  have hh:=ZiT Ze Zc types nc data rs Za
  rw[Zq] at hh
  refine Q2 (Zu ZK hb (Zj _) 10) hh ?_ rfl rfl ?_
  ·unfold Qo Kn; rw[he]; rfl
  ·repeat' (with_reducible apply And.intro)
   all_goals first|exact h4|exact h9|exact hl'|with_reducible trivial|with_reducible rfl
def ckI (Ze Zc types:Int) (nc nr:Nat) (data:List UInt8) (Za:List Nat) (k:Nat):Sf :=
 ⟨68,[(1,.pointer (some ⟨67,0,none⟩)),(3,.int .i64 (k:Nat))],[(66,⟨false,some (0,0),Zk Za,none⟩),(67,⟨false,none,ZjR Ze Zc types nc nr Za.length data,none⟩)],[]⟩
def ckF:Sf:=⟨68,[(2,.int .i64 2)],[],[]⟩
def ckN:Sf:=⟨68,[(1,.pointer (some ⟨67,0,none⟩))],[],[]⟩
def crI (Ze Zc types:Int) (nc ns:Nat) (data:List UInt8) (rs:List Rl) (a b c d e f g h:Int) (k:Nat):Sf :=
 ⟨69,[(1,.pointer (some ⟨67,0,none⟩)),(4,.pointer (some ⟨68,0,none⟩)),(6,.int .i64 (k:Nat))],
  [(65,⟨false,some (0,0),rels rs,none⟩),(67,⟨false,none,ZjR Ze Zc types nc rs.length ns data,none⟩),(68,⟨false,none,Zoo a b c d e f g h,none⟩)],[]⟩
def ZlE (Ze Zc types:Int) (nc ns:Nat) (data:List UInt8) (a:Nat) (b:Int) (c:Nat) (d e f g h:Int) (rs:List Rl) (k:Nat) (v:Bool):Con :=
 ⟨[YE Ze Zc types nc rs.length ns data,VS a b c d e f g h,.int .i64 (k:Int)],67,[(65,⟨false,some (0,0),rels rs,none⟩)],[],.bool v,67,[],[]⟩
def Zhb (types:Int) (nc len a c:Nat) (rs:List Rl) (k:Nat) (v:Bool):Prop:=VM nc len a c rs k∧Zy types nc len a c (rl0 rs k) (ZY rs k)=v
def Zed (rs:List Rl) (v:Nat→Bool):WH:=fun f args _ =>
 match args with
 | [.agg ⟨[.int _ Ze,.int _ Zc,.int _ types,.slice (some i) nc _,.string ⟨⟨data⟩⟩,.slice (some j) _ _,.slice (some k) ns _]⟩,.agg ⟨[.int _ a,.int _ b,.int _ c,.int _ d,.int _ e,.int _ g,.int _ h,.int _ m]⟩,.int _ x] =>
  bif Nat.beq f 87 then some (ZlE Ze Zc types nc ns data a.toNat b c.toNat d e g h m rs x.toNat (v x.toNat),[i.block,j.block,k.block],Zhb types nc data.length a.toNat c.toNat rs x.toNat (v x.toNat)) else none
 | _=>none
def ZlF (rs:List Rl) (v:Nat→Bool):WH:=WK (Zed rs v) YT
def crF:Sf:=⟨69,[(2,.int .i64 2)],[],[]⟩
def crN:Sf:=⟨69,[],[],[]⟩
theorem ZiU (Ze:Int) (Zc:Int) (types:Int) (nc:Nat) (nr:Nat) (data:List UInt8) (Za:List Nat) (k:Nat):evC Tryz.prog (evF Tryz.prog (ZH 3 YT) Zf 100 3) (Zf 55) 112 100 (ZB Tryz.prog 55 0) (Sf.frT 112 (ckI Ze Zc types nc nr data Za k) [(0,true),(1,false)])=some (Exit.normal,{ e:=mkE 112 [(1,.pointer (some ⟨67,0,none⟩)),(3,.int .i64 (i64.wrap ((↑k:Int)+(1:Int)))),(75,.int .i64 (↑k)),(76,.pointer (some { block:=67,off:=6 })),(77,.slice (some ⟨66,0,none⟩) Za.length 9223372036854775874),(78,.int .i64 (↑Za.length)),(79,.bool (decide ((↑k:Int)<(↑Za.length:Int)))),(80,Value.int .i64 (↑k)),(81,.int .i64 (i64.wrap ((↑k:Int)+(1:Int)))),(82,.pointer (some { block:=67,off:=6 })),(83,.slice (some ⟨66,0,none⟩) Za.length 9223372036854775874),(84,.int .i64 (↑k)),(85,.pointer (some { block:=66,off:=0+(↑k:Int).toNat*1 })),(86,.int .u32 (Zb (Zd undef (Zk Za) (0+(↑k:Int).toNat*1)))),(87,.int .u64 (u64.wrap (Zb (Zd undef (Zk Za) (0+(↑k:Int).toNat*1))))),(88,.pointer (some { block:=67,off:=3 })),(89,.slice (some ⟨64,0,none⟩) nc 9223372036854775872),(90,.int .i64 (↑nc)),(91,.int .u64 (u64.wrap (↑nc))),(92,.bool (decide (u64.wrap (Zb (Zd undef (Zk Za) (0+(↑k:Int).toNat*1)))≥u64.wrap (↑nc))))],s:={ n:=68,h:=[(66,⟨false,some (0,0),Zk Za,none⟩),(67,⟨false,none,[Value.int .i64 Ze,.int .i64 Zc,.int .i64 types,.slice (some ⟨64,0,none⟩) nc 9223372036854775872,.string ⟨⟨data⟩⟩,.slice (some ⟨65,0,none⟩) nr 9223372036854775873,.slice (some ⟨66,0,none⟩) Za.length 9223372036854775874],none⟩)],lo:=[],esc:=0,T:=[],k:=2,O:=(bif Qc (0+(↑k:Int).toNat*1+1) (Zk Za)&&Zs [Value.int .u32 0] (Zk Za) (0+(↑k:Int).toNat*1) then bif decide ((0:Int)≤(↑k:Int))&&decide ((↑k:Int)<(↑Za.length:Int)) then True∧decide ((↑k:Int)<(↑Za.length:Int))=true else False else False)∧decide (u64.wrap (Zb (Zd undef (Zk Za) (0+(↑k:Int).toNat*1)))≥u64.wrap (↑nc))=false:St }:Fr }):=by kernel_rfl
theorem ZlG (Ze:Int) (Zc:Int) (types:Int) (nc:Nat) (ns:Nat) (data:List UInt8) (rs:List Rl) (a:Int) (b:Int) (c:Int) (d:Int) (e:Int) (f:Int) (g:Int) (h:Int) (k:Nat) (v:Nat→Bool):evC Tryz.prog (evF Tryz.prog (ZH 3 (ZlF rs v)) Zf 100 3) (Zf 55) 112 100 (ZB Tryz.prog 55 1) (Sf.frT 112 (crI Ze Zc types nc ns data rs a b c d e f g h k) [(0,true),(1,false)])=some (Exit.normal,{ e:=mkE 112 [(1,.pointer (some ⟨67,0,none⟩)),(4,.pointer (some ⟨68,0,none⟩)),(6,.int .i64 (i64.wrap ((↑k:Int)+(1:Int)))),(100,.int .i64 (↑k)),(101,.pointer (some { block:=67,off:=5 })),(102,.slice (some ⟨65,0,none⟩) rs.length 9223372036854775873),(103,.int .i64 (↑rs.length)),(104,.bool (decide ((↑k:Int)<(↑rs.length:Int)))),(105,.int .i64 (↑k)),(106,.int .i64 (i64.wrap ((↑k:Int)+(1:Int)))),(107,.agg ⟨[.int .i64 Ze,.int .i64 Zc,.int .i64 types,.slice (some ⟨64,0,none⟩) nc 9223372036854775872,.string ⟨⟨data⟩⟩,.slice (some ⟨65,0,none⟩) rs.length 9223372036854775873,.slice (some ⟨66,0,none⟩) ns 9223372036854775874]⟩),(108,.agg ⟨[.int .u32 a,.int .u32 b,.int .u32 c,.int .u32 d,.int .u32 e,.int .u32 f,.int .u32 g,.int .u32 h]⟩),(109,.int .i64 (↑k)),(110,.bool (v (↑k:Int).toNat)),(111,.bool !v (↑k:Int).toNat)],s:={ n:=69,h:=[(65,⟨false,some (0,0),rels rs,none⟩),(67,⟨false,none,[Value.int .i64 Ze,.int .i64 Zc,.int .i64 types,.slice (some ⟨64,0,none⟩) nc 9223372036854775872,.string ⟨⟨data⟩⟩,.slice (some ⟨65,0,none⟩) rs.length 9223372036854775873,.slice (some ⟨66,0,none⟩) ns 9223372036854775874],none⟩),(68,⟨false,none,[Value.int .u32 a,.int .u32 b,.int .u32 c,.int .u32 d,.int .u32 e,.int .u32 f,.int .u32 g,.int .u32 h],none⟩)],lo:=[],esc:=0,T:=[],k:=2,O:=((True∧decide ((↑k:Int)<(↑rs.length:Int))=true)∧Zhb types nc data.length a.toNat c.toNat rs (↑k:Int).toNat (v (↑k:Int).toNat)∧(rr (Value.agg ⟨[.int .i64 Ze,.int .i64 Zc,.int .i64 types,.slice (some ⟨64,0,none⟩) nc 9223372036854775872,.string ⟨⟨data⟩⟩,.slice (some ⟨65,0,none⟩) rs.length 9223372036854775873,.slice (some ⟨66,0,none⟩) ns 9223372036854775874]⟩)∧Value.agg ⟨[.int .u32 a,.int .u32 b,.int .u32 c,.int .u32 d,.int .u32 e,.int .u32 f,.int .u32 g,.int .u32 h]⟩=Value.agg ⟨[.int .u32 (↑a.toNat),.int .u32 b,.int .u32 (↑c.toNat),.int .u32 d,.int .u32 e,.int .u32 f,.int .u32 g,.int .u32 h]⟩∧Value.int .i64 (↑k)=Value.int .i64 (↑(↑k:Int).toNat:Int)∧True)∧((tt∧(rels rs).all (okV (fun l=>l.blt 67) 3)=true∧tt∧tt∧tt∧True∧rels rs=List.map (rnV (lift 67 69 [64,65,66]) 3) (rels rs))∧True)∧True)∧(!v (↑k:Int).toNat)=false:St }:Fr }):=by kernel_rfl
theorem ZlH (Ze:Int) (Zc:Int) (types:Int) (nc:Nat) (nr:Nat) (data:List UInt8) (Za:List Nat) (k:Nat):evC Tryz.prog (evF Tryz.prog (ZH 3 YT) Zf 100 3) (Zf 55) 112 100 (ZB Tryz.prog 55 0) (Sf.frT 112 (ckI Ze Zc types nc nr data Za k) [(0,true),(1,true)])=some (Exit.ret,{ e:=mkE 112 [(1,.pointer (some ⟨67,0,none⟩)),(2,.int .i64 2),(3,.int .i64 (↑k)),(75,.int .i64 (↑k)),(76,.pointer (some { block:=67,off:=6 })),(77,.slice (some ⟨66,0,none⟩) Za.length 9223372036854775874),(78,.int .i64 (↑Za.length)),(79,.bool (decide ((↑k:Int)<(↑Za.length:Int)))),(82,.pointer (some { block:=67,off:=6 })),(83,.slice (some ⟨66,0,none⟩) Za.length 9223372036854775874),(84,.int .i64 (↑k)),(85,.pointer (some { block:=66,off:=0+(↑k:Int).toNat*1 })),(86,.int .u32 (Zb (Zd undef (Zk Za) (0+(↑k:Int).toNat*1)))),(87,.int .u64 (u64.wrap (Zb (Zd undef (Zk Za) (0+(↑k:Int).toNat*1))))),(88,.pointer (some { block:=67,off:=3 })),(89,.slice (some ⟨64,0,none⟩) nc 9223372036854775872),(90,.int .i64 (↑nc)),(91,.int .u64 (u64.wrap (↑nc))),(92,.bool (decide (u64.wrap (Zb (Zd undef (Zk Za) (0+(↑k:Int).toNat*1)))≥u64.wrap (↑nc))))],s:={ n:=68,h:=[(66,⟨false,some (0,0),Zk Za,none⟩),(67,⟨false,none,[Value.int .i64 Ze,.int .i64 Zc,.int .i64 types,.slice (some ⟨64,0,none⟩) nc 9223372036854775872,.string ⟨⟨data⟩⟩,.slice (some ⟨65,0,none⟩) nr 9223372036854775873,.slice (some ⟨66,0,none⟩) Za.length 9223372036854775874],none⟩)],lo:=[],esc:=0,T:=[],k:=2,O:=(bif Qc (0+(↑k:Int).toNat*1+1) (Zk Za)&&Zs [Value.int .u32 0] (Zk Za) (0+(↑k:Int).toNat*1) then bif decide ((0:Int)≤(↑k:Int))&&decide ((↑k:Int)<(↑Za.length:Int)) then True∧decide ((↑k:Int)<(↑Za.length:Int))=true else False else False)∧decide (u64.wrap (Zb (Zd undef (Zk Za) (0+(↑k:Int).toNat*1)))≥u64.wrap (↑nc))=true:St }:Fr }):=by kernel_rfl
theorem Znv (Ze:Int) (Zc:Int) (types:Int) (nc:Nat) (ns:Nat) (data:List UInt8) (rs:List Rl) (a:Int) (b:Int) (c:Int) (d:Int) (e:Int) (f:Int) (g:Int) (h:Int) (k:Nat) (v:Nat→Bool):evC Tryz.prog (evF Tryz.prog (ZH 3 (ZlF rs v)) Zf 100 3) (Zf 55) 112 100 (ZB Tryz.prog 55 1) (Sf.frT 112 (crI Ze Zc types nc ns data rs a b c d e f g h k) [(0,true),(1,true)])=some (Exit.ret,{ e:=mkE 112 [(1,.pointer (some ⟨67,0,none⟩)),(2,.int .i64 2),(4,.pointer (some ⟨68,0,none⟩)),(6,.int .i64 (↑k)),(100,.int .i64 (↑k)),(101,.pointer (some { block:=67,off:=5 })),(102,.slice (some ⟨65,0,none⟩) rs.length 9223372036854775873),(103,.int .i64 (↑rs.length)),(104,.bool (decide ((↑k:Int)<(↑rs.length:Int)))),(107,.agg ⟨[.int .i64 Ze,.int .i64 Zc,.int .i64 types,.slice (some ⟨64,0,none⟩) nc 9223372036854775872,.string ⟨⟨data⟩⟩,.slice (some ⟨65,0,none⟩) rs.length 9223372036854775873,.slice (some ⟨66,0,none⟩) ns 9223372036854775874]⟩),(108,.agg ⟨[.int .u32 a,.int .u32 b,.int .u32 c,.int .u32 d,.int .u32 e,.int .u32 f,.int .u32 g,.int .u32 h]⟩),(109,.int .i64 (↑k)),(110,.bool (v (↑k:Int).toNat)),(111,.bool !v (↑k:Int).toNat)],s:={ n:=69,h:=[(65,⟨false,some (0,0),rels rs,none⟩),(67,⟨false,none,[Value.int .i64 Ze,.int .i64 Zc,.int .i64 types,.slice (some ⟨64,0,none⟩) nc 9223372036854775872,.string ⟨⟨data⟩⟩,.slice (some ⟨65,0,none⟩) rs.length 9223372036854775873,.slice (some ⟨66,0,none⟩) ns 9223372036854775874],none⟩),(68,⟨false,none,[Value.int .u32 a,.int .u32 b,.int .u32 c,.int .u32 d,.int .u32 e,.int .u32 f,.int .u32 g,.int .u32 h],none⟩)],lo:=[],esc:=0,T:=[],k:=2,O:=((True∧decide ((↑k:Int)<(↑rs.length:Int))=true)∧Zhb types nc data.length a.toNat c.toNat rs (↑k:Int).toNat (v (↑k:Int).toNat)∧(rr (Value.agg ⟨[.int .i64 Ze,.int .i64 Zc,.int .i64 types,.slice (some ⟨64,0,none⟩) nc 9223372036854775872,.string ⟨⟨data⟩⟩,.slice (some ⟨65,0,none⟩) rs.length 9223372036854775873,.slice (some ⟨66,0,none⟩) ns 9223372036854775874]⟩)∧Value.agg ⟨[.int .u32 a,.int .u32 b,.int .u32 c,.int .u32 d,.int .u32 e,.int .u32 f,.int .u32 g,.int .u32 h]⟩=Value.agg ⟨[.int .u32 (↑a.toNat),.int .u32 b,.int .u32 (↑c.toNat),.int .u32 d,.int .u32 e,.int .u32 f,.int .u32 g,.int .u32 h]⟩∧Value.int .i64 (↑k)=Value.int .i64 (↑(↑k:Int).toNat:Int)∧True)∧((tt∧(rels rs).all (okV (fun l=>l.blt 67) 3)=true∧tt∧tt∧tt∧True∧rels rs=List.map (rnV (lift 67 69 [64,65,66]) 3) (rels rs))∧True)∧True)∧(!v (↑k:Int).toNat)=true:St }:Fr }):=by kernel_rfl
theorem ZlI (Ze:Int) (Zc:Int) (types:Int) (nc:Nat) (nr:Nat) (data:List UInt8) (Za:List Nat) (k:Nat):evC Tryz.prog (evF Tryz.prog (ZH 3 YT) Zf 100 3) (Zf 55) 112 100 (ZB Tryz.prog 55 0) (Sf.frT 112 (ckI Ze Zc types nc nr data Za k) [(0,false)])=some (Exit.exit 0,{ e:=mkE 112 [(1,.pointer (some ⟨67,0,none⟩)),(3,.int .i64 (↑k)),(75,.int .i64 (↑k)),(76,.pointer (some { block:=67,off:=6 })),(77,.slice (some ⟨66,0,none⟩) Za.length 9223372036854775874),(78,.int .i64 (↑Za.length)),(79,.bool (decide ((↑k:Int)<(↑Za.length:Int))))],s:={ n:=68,h:=[(66,⟨false,some (0,0),Zk Za,none⟩),(67,⟨false,none,[Value.int .i64 Ze,.int .i64 Zc,.int .i64 types,.slice (some ⟨64,0,none⟩) nc 9223372036854775872,.string ⟨⟨data⟩⟩,.slice (some ⟨65,0,none⟩) nr 9223372036854775873,.slice (some ⟨66,0,none⟩) Za.length 9223372036854775874],none⟩)],lo:=[],esc:=0,T:=[],k:=1,O:=True∧decide ((↑k:Int)<(↑Za.length:Int))=false:St }:Fr }):=by kernel_rfl
theorem Znw (Ze:Int) (Zc:Int) (types:Int) (nc:Nat) (ns:Nat) (data:List UInt8) (rs:List Rl) (a:Int) (b:Int) (c:Int) (d:Int) (e:Int) (f:Int) (g:Int) (h:Int) (k:Nat) (v:Nat→Bool):evC Tryz.prog (evF Tryz.prog (ZH 3 (ZlF rs v)) Zf 100 3) (Zf 55) 112 100 (ZB Tryz.prog 55 1) (Sf.frT 112 (crI Ze Zc types nc ns data rs a b c d e f g h k) [(0,false)])=some (Exit.exit 2,{ e:=mkE 112 [(1,.pointer (some ⟨67,0,none⟩)),(4,.pointer (some ⟨68,0,none⟩)),(6,.int .i64 (↑k)),(100,.int .i64 (↑k)),(101,.pointer (some { block:=67,off:=5 })),(102,.slice (some ⟨65,0,none⟩) rs.length 9223372036854775873),(103,.int .i64 (↑rs.length)),(104,.bool (decide ((↑k:Int)<(↑rs.length:Int))))],s:={ n:=69,h:=[(65,⟨false,some (0,0),rels rs,none⟩),(67,⟨false,none,[Value.int .i64 Ze,.int .i64 Zc,.int .i64 types,.slice (some ⟨64,0,none⟩) nc 9223372036854775872,.string ⟨⟨data⟩⟩,.slice (some ⟨65,0,none⟩) rs.length 9223372036854775873,.slice (some ⟨66,0,none⟩) ns 9223372036854775874],none⟩),(68,⟨false,none,[Value.int .u32 a,.int .u32 b,.int .u32 c,.int .u32 d,.int .u32 e,.int .u32 f,.int .u32 g,.int .u32 h],none⟩)],lo:=[],esc:=0,T:=[],k:=1,O:=True∧decide ((↑k:Int)<(↑rs.length:Int))=false:St }:Fr }):=by kernel_rfl
theorem Zhc (rs:List Rl) (v:Nat→Bool):YN Tryz.prog 3 (ZlF rs v):=by
 refine XQ (fun f args s c ρ q h hq => ?_) W3
 unfold Zed at h
 split at h
 ·obtain⟨h2,h⟩:=ZL h
  have h2:=eB h2
  subst h2
  cases h
  obtain⟨hq,hv⟩:=hq
  rw[← hv]
  exact(Zcc _ _ _ _ _ _ _ _ _ _ _ _ _ _ _ _ hq).drop
 ·cases h
theorem Znx (Ze Zc types:Int) (nc nr:Nat) (data:List UInt8) (Za:List Nat) (k:Nat):(ckI Ze Zc types nc nr data Za k).Wf :=
 ⟨by show NG≤68; decide,Sf.Ok.mk' 3 ⟨⟨rfl,rfl,Zv (Zg Za)⟩,⟨rfl,rfl,fun v hv=>ZM 3 v (List.all_eq_true.1 (show(ZjR Ze Zc types nc nr Za.length data).all (okV (fun l=>Nat.blt l 68) 3)=true from by kernel_rfl) v hv)⟩,trivial⟩ rfl (fun x hx=>by
  have:(ckI Ze Zc types nc nr data Za k).e.all (fun x=>okV (fun l=>Nat.blt l 68) 3 x.2)=true:=by kernel_rfl
  exact List.all_eq_true.1 this x hx)⟩
theorem Zny (Ze Zc types:Int) (nc ns:Nat) (data:List UInt8) (rs:List Rl) (a b c d e f g h:Int) (k:Nat):(crI Ze Zc types nc ns data rs a b c d e f g h k).Wf :=
 ⟨by show NG≤69; decide,Sf.Ok.mk' 3 ⟨⟨rfl,rfl,Zv (ZC rs)⟩,⟨rfl,rfl,fun v hv=>ZM 3 v (List.all_eq_true.1 (show(ZjR Ze Zc types nc rs.length ns data).all (okV (fun l=>Nat.blt l 69) 3)=true from by kernel_rfl) v hv)⟩,⟨rfl,rfl,fun v hv=>ZM 3 v (List.all_eq_true.1 (show(Zoo a b c d e f g h).all (okV (fun l=>Nat.blt l 69) 3)=true from by kernel_rfl) v hv)⟩,trivial⟩ rfl (fun x hx=>by
  have:(crI Ze Zc types nc ns data rs a b c d e f g h k).e.all (fun x=>okV (fun l=>Nat.blt l 69) 3 x.2)=true:=by kernel_rfl
  exact List.all_eq_true.1 this x hx)⟩
theorem Zee:ckF.Ok (Z3 68 68 id (fun l=>Nat.blt l 68)):=Sf.Ok.mk' 3 trivial rfl (fun x hx=>by
  have:ckF.e.all (fun x=>okV (Z3 68 68 id (fun l=>Nat.blt l 68)) 3 x.2)=true:=by kernel_rfl
  exact List.all_eq_true.1 this x hx)
theorem Zef:ckN.Ok (Z3 68 68 id (fun l=>Nat.blt l 68)):=Sf.Ok.mk' 3 trivial rfl (fun x hx=>by
  have:ckN.e.all (fun x=>okV (Z3 68 68 id (fun l=>Nat.blt l 68)) 3 x.2)=true:=by kernel_rfl
  exact List.all_eq_true.1 this x hx)
theorem Zj1:crF.Ok (Z3 69 69 id (fun l=>Nat.blt l 69)):=Sf.Ok.mk' 3 trivial rfl (fun x hx=>by
  have:crF.e.all (fun x=>okV (Z3 69 69 id (fun l=>Nat.blt l 69)) 3 x.2)=true:=by kernel_rfl
  exact List.all_eq_true.1 this x hx)
theorem Zj2:crN.Ok (Z3 69 69 id (fun l=>Nat.blt l 69)):=Sf.Ok.mk' 3 trivial rfl (fun x hx=>by
  have:crN.e.all (fun x=>okV (Z3 69 69 id (fun l=>Nat.blt l 69)) 3 x.2)=true:=by kernel_rfl
  exact List.all_eq_true.1 this x hx)
theorem K1 {x:Nat} (h:x<18446744073709551616):u64.wrap (x:Int)=x:=by rw[IntKind.wrap_u64]; omega
theorem K2 (Ze Zc types:Int) (nc nr:Nat) (data:List UInt8) (Za:List Nat) (k:Nat) (e:Sf) (hl:Za.length<9000000000000000000) (hc:nc<9000000000000000000) (hx:Za.getD k 0<4294967296) (hk:k<Za.length) (hv:Za.getD k 0<nc) (hn:e.n=68) (he:e.Ok (Z3 68 68 id (fun l=>Nat.blt l 68))) :
  ∃ g,evC Tryz.prog (evF Tryz.prog (ZH 3 YT) Zf 100 3) (Zf 55) 112 100 (ZB Tryz.prog 55 0) ((ckI Ze Zc types nc nr data Za k).frT 112 [(0,true),(1,false)])=some (.normal,g)∧g.s.O∧Sf.Leads 3 (fun l=>Nat.blt l 68) id (ckI Ze Zc types nc nr data Za k) g (ckI Ze Zc types nc nr data Za (k+1)) e:=by
 refine⟨_,ZiU Ze Zc types nc nr data Za k,?_,?_⟩
 ·simp only[rr, tt, Q8,Qd,Yn,Int.toNat_natCast,Nat.zero_add,Nat.mul_one]
  rw[K1 (x:=Za.getD k 0) (by omega),K1 (x:=nc) (by omega)]
  exact⟨Qi (by simp; omega) (Qi (by simp; omega) ⟨trivial,by simp; omega⟩),by simp only[rr, tt, decide_eq_false_iff_not]; omega⟩
 ·refine⟨fun _ _=>rfl,⟨⟨rfl,Zh (Zg Za),rfl,rfl,rfl,trivial,(Zi (Zg Za)).symm⟩,⟨rfl,by kernel_rfl,rfl,rfl,rfl,trivial,by kernel_rfl⟩,trivial⟩,rfl,trivial,⟨⟨by kernel_rfl,by kernel_rfl⟩,⟨rfl,?_⟩,trivial⟩,Nat.le_refl _,fun l hl=>ZN hl,?_,?_⟩
  ·refine Eq.trans (b:=Value.int .i64 (i64.wrap ((k:Int)+1))) (by kernel_rfl) ?_
   rw[ZQ k (by omega)]; rfl
  ·rw[hn]; exact he
  ·intro x _ _; exact .inl rfl
theorem Zc8 (Ze Zc types:Int) (nc nr:Nat) (data:List UInt8) (Za:List Nat) (k:Nat) (_:Za.length<9000000000000000000) (hc:nc<9000000000000000000) (hx:Za.getD k 0<4294967296) (hk:k<Za.length) (hv:nc≤Za.getD k 0) :
  ∃ g,evC Tryz.prog (evF Tryz.prog (ZH 3 YT) Zf 100 3) (Zf 55) 112 100 (ZB Tryz.prog 55 0) ((ckI Ze Zc types nc nr data Za k).frT 112 [(0,true),(1,true)])=some (.ret,g)∧g.s.O∧Sf.Leads 3 (fun l=>Nat.blt l 68) id (ckI Ze Zc types nc nr data Za k) g ckF ckF:=by
 refine⟨_,ZlH Ze Zc types nc nr data Za k,?_,?_⟩
 ·simp only[rr, tt, Q8,Qd,Yn,Int.toNat_natCast,Nat.zero_add,Nat.mul_one]
  rw[K1 (x:=Za.getD k 0) (by omega),K1 (x:=nc) (by omega)]
  exact⟨Qi (by simp; omega) (Qi (by simp; omega) ⟨trivial,by simp; omega⟩),by simp only[rr, tt, decide_eq_true_eq]; omega⟩
 ·exact⟨fun _ _=>rfl,trivial,rfl,trivial,⟨⟨by kernel_rfl,by kernel_rfl⟩,trivial⟩,Nat.le_refl _,fun l hl=>ZN hl,Zee,fun x hx=>by cases hx⟩
theorem Zc9 (Ze Zc types:Int) (nc nr:Nat) (data:List UInt8) (Za:List Nat) (k:Nat) (hk:k=Za.length) :
  ∃ g,evC Tryz.prog (evF Tryz.prog (ZH 3 YT) Zf 100 3) (Zf 55) 112 100 (ZB Tryz.prog 55 0) ((ckI Ze Zc types nc nr data Za k).frT 112 [(0,false)])=some (.exit 0,g)∧g.s.O∧Sf.Leads 3 (fun l=>Nat.blt l 68) id (ckI Ze Zc types nc nr data Za k) g ckN ckN:=by
 refine⟨_,ZlI Ze Zc types nc nr data Za k,?_,?_⟩
 ·subst hk; simp
 ·exact⟨fun _ _=>rfl,trivial,rfl,trivial,⟨⟨by kernel_rfl,by kernel_rfl⟩,trivial⟩,Nat.le_refl _,fun l hl=>ZN hl,Zef,fun x hx=>by cases hx⟩
theorem ZiV (Ze Zc types:Int) (nc nr:Nat) (data:List UInt8) (Za:List Nat) (j:Nat) (hl:Za.length<9000000000000000000) (hx:∀ x∈Za,x<4294967296) (hc:nc<9000000000000000000) (hj:j<Za.length) (hv:nc≤Za.getD j 0) (hn:∀ i,i<j→Za.getD i 0<nc) :
  ∀ x:{ k:Nat // k≤j },Qj Tryz.prog 112 (ZB Tryz.prog 55 0) ((ckI Ze Zc types nc nr data Za x.1).fr 112) .ret (ckF.fr 112):=by
 have hx':∀ i,i<Za.length→Za.getD i 0<4294967296:=fun i hi=>by
  rw[List.getD_eq_getElem?_getD,List.getElem?_eq_getElem hi]; exact hx _ (List.getElem_mem hi)
 refine Yc (L:=100) (Zu (L:=100) ZK (Z1 W3) (Zj _) 3) (ZU _ _ 55) (fun _ h=>h) (X:={ k:Nat // k≤j }) (fun x=>ckI Ze Zc types nc nr data Za x.1) (fun _=>ckF) (fun _ => .ret) (fun x=>j-x.1) (fun x=>Znx Ze Zc types nc nr data Za x.1) ?_
 rintro⟨k,hk⟩
 by_cases h:k=j
 ·subst h
  obtain⟨g,h1,h2,h3⟩:=Zc8 Ze Zc types nc nr data Za k hl hc (hx' k hj) hj hv
  exact⟨_,.ret,g,3,_,_,h1,h2,.inr ⟨by simp,rfl,h3⟩⟩
 ·obtain⟨g,h1,h2,h3⟩:=K2 Ze Zc types nc nr data Za k ckF hl hc (hx' k (by omega)) (by omega) (hn k (by omega)) rfl Zee
  exact⟨_,.normal,g,3,_,_,h1,h2,.inl ⟨rfl,⟨k+1,by omega⟩,by show j-(k+1)<j-k; omega,rfl,rfl,h3⟩⟩
theorem ZlJ (Ze Zc types:Int) (nc nr:Nat) (data:List UInt8) (Za:List Nat) (hl:Za.length<9000000000000000000) (hx:∀ x∈Za,x<4294967296) (hc:nc<9000000000000000000) (hn:∀ i,i<Za.length→Za.getD i 0<nc) :
  ∀ x:{ k:Nat // k≤Za.length },Qj Tryz.prog 112 (ZB Tryz.prog 55 0) ((ckI Ze Zc types nc nr data Za x.1).fr 112) (.exit 0) (ckN.fr 112):=by
 have hx':∀ i,i<Za.length→Za.getD i 0<4294967296:=fun i hi=>by
  rw[List.getD_eq_getElem?_getD,List.getElem?_eq_getElem hi]; exact hx _ (List.getElem_mem hi)
 refine Yc (L:=100) (Zu (L:=100) ZK (Z1 W3) (Zj _) 3) (ZU _ _ 55) (fun _ h=>h) (X:={ k:Nat // k≤Za.length }) (fun x=>ckI Ze Zc types nc nr data Za x.1) (fun _=>ckN) (fun _ => .exit 0) (fun x=>Za.length-x.1) (fun x=>Znx Ze Zc types nc nr data Za x.1) ?_
 rintro⟨k,hk⟩
 by_cases h:k<Za.length
 ·obtain⟨g,h1,h2,h3⟩:=K2 Ze Zc types nc nr data Za k ckN hl hc (hx' k h) h (hn k h) rfl Zef
  exact⟨_,.normal,g,3,_,_,h1,h2,.inl ⟨rfl,⟨k+1,by omega⟩,by show Za.length-(k+1)<Za.length-k; omega,rfl,rfl,h3⟩⟩
 ·obtain⟨g,h1,h2,h3⟩:=Zc9 Ze Zc types nc nr data Za k (by omega)
  exact⟨_,.exit 0,g,3,_,_,h1,h2,.inr ⟨by simp,rfl,h3⟩⟩
def Znz (Ze Zc types:Int) (nc nr:Nat) (data:List UInt8) (Za:List Nat) (j:Nat) (hl:Za.length<9000000000000000000) (hx:∀ x∈Za,x<4294967296) (hc:nc<9000000000000000000) (hj:j<Za.length) (hv:nc≤Za.getD j 0) (hn:∀ i,i<j→Za.getD i 0<nc):Ent Tryz.prog :=
 Vl Tryz.prog 55 0 112 (ckI Ze Zc types nc nr data Za 0) .ret ckF (by kernel_rfl) (by kernel_rfl) (ZiV Ze Zc types nc nr data Za j hl hx hc hj hv hn ⟨0,Nat.zero_le _⟩)
def Zhd (Ze Zc types:Int) (nc nr:Nat) (data:List UInt8) (Za:List Nat) (hl:Za.length<9000000000000000000) (hx:∀ x∈Za,x<4294967296) (hc:nc<9000000000000000000) (hn:∀ i,i<Za.length→Za.getD i 0<nc):Ent Tryz.prog :=
 Vl Tryz.prog 55 0 112 (ckI Ze Zc types nc nr data Za 0) (.exit 0) ckN (by kernel_rfl) (by kernel_rfl) (ZlJ Ze Zc types nc nr data Za hl hx hc hn ⟨0,Nat.zero_le _⟩)
theorem K3 (Ze Zc types:Int) (nc ns:Nat) (data:List UInt8) (rs:List Rl) (a b c d e f g h:Int) (k:Nat) (v:Nat→Bool) (ex:Sf) (hk:k<rs.length) (hm:rs.length≤100000) (ha:0≤a) (hc:0≤c) (hr:QC nc data.length a.toNat c.toNat (rl0 rs k)) (hp:∀ i,i<k→Zy types nc data.length a.toNat c.toNat (rl0 rs i) (ZY rs i)=true) (hw:v k=true) (hv:Zy types nc data.length a.toNat c.toNat (rl0 rs k) (ZY rs k)=v k) (hn:ex.n=69) (he:ex.Ok (Z3 69 69 id (fun l=>Nat.blt l 69))) :
  ∃ g1,evC Tryz.prog (evF Tryz.prog (ZH 3 (ZlF rs v)) Zf 100 3) (Zf 55) 112 100 (ZB Tryz.prog 55 1) ((crI Ze Zc types nc ns data rs a b c d e f g h k).frT 112 [(0,true),(1,false)])=some (.normal,g1)∧g1.s.O∧Sf.Leads 3 (fun l=>Nat.blt l 69) id (crI Ze Zc types nc ns data rs a b c d e f g h k) g1 (crI Ze Zc types nc ns data rs a b c d e f g h (k+1)) ex:=by
 have hq:VM nc data.length a.toNat c.toNat rs k:=by
  refine⟨hr,hk,hm,?_⟩
  cases k with
  | zero=>trivial
  | succ k=>have:=Za9 (hp k (by omega)); exact⟨this.1,this.2.2⟩
 have ha2:((a.toNat:Nat):Int)=a:=Int.toNat_of_nonneg ha
 have hc2:((c.toNat:Nat):Int)=c:=Int.toNat_of_nonneg hc
 refine⟨_,ZlG Ze Zc types nc ns data rs a b c d e f g h k v,?_,?_⟩
 ·simp only[rr, tt, Int.toNat_natCast,ha2,hc2,hw,Zi (ZC rs)]
  repeat' (with_reducible apply And.intro)
  all_goals first|exact⟨hq,hv⟩|exact⟨hq,hv.trans hw⟩|exact hq|exact hv|exact hv.trans hw|exact Zh (ZC rs)|exact(Zi (ZC rs)).symm|with_reducible trivial|with_reducible rfl|(simp; omega)|skip
 ·refine⟨fun _ _=>rfl,⟨⟨rfl,Zh (ZC rs),rfl,rfl,rfl,trivial,(Zi (ZC rs)).symm⟩,⟨rfl,by kernel_rfl,rfl,rfl,rfl,trivial,by kernel_rfl⟩,⟨rfl,by kernel_rfl,rfl,rfl,rfl,trivial,by kernel_rfl⟩,trivial⟩,rfl,trivial,⟨⟨by kernel_rfl,by kernel_rfl⟩,⟨by kernel_rfl,by kernel_rfl⟩,⟨rfl,?_⟩,trivial⟩,Nat.le_refl _,fun l hl=>ZN hl,?_,?_⟩
  ·refine Eq.trans (b:=Value.int .i64 (i64.wrap ((k:Int)+1))) (by kernel_rfl) ?_
   rw[ZQ k (by omega)]; rfl
  ·rw[hn]; exact he
  ·intro x _ _; exact .inl rfl
theorem Zda (Ze Zc types:Int) (nc ns:Nat) (data:List UInt8) (rs:List Rl) (a b c d e f g h:Int) (k:Nat) (v:Nat→Bool) (hk:k<rs.length) (hm:rs.length≤100000) (ha:0≤a) (hc:0≤c) (hr:QC nc data.length a.toNat c.toNat (rl0 rs k)) (hp:∀ i,i<k→Zy types nc data.length a.toNat c.toNat (rl0 rs i) (ZY rs i)=true) (hw:v k=false) (hv:Zy types nc data.length a.toNat c.toNat (rl0 rs k) (ZY rs k)=v k) :
  ∃ g1,evC Tryz.prog (evF Tryz.prog (ZH 3 (ZlF rs v)) Zf 100 3) (Zf 55) 112 100 (ZB Tryz.prog 55 1) ((crI Ze Zc types nc ns data rs a b c d e f g h k).frT 112 [(0,true),(1,true)])=some (.ret,g1)∧g1.s.O∧Sf.Leads 3 (fun l=>Nat.blt l 69) id (crI Ze Zc types nc ns data rs a b c d e f g h k) g1 crF crF:=by
 have hq:VM nc data.length a.toNat c.toNat rs k:=by
  refine⟨hr,hk,hm,?_⟩
  cases k with
  | zero=>trivial
  | succ k=>have:=Za9 (hp k (by omega)); exact⟨this.1,this.2.2⟩
 have ha2:((a.toNat:Nat):Int)=a:=Int.toNat_of_nonneg ha
 have hc2:((c.toNat:Nat):Int)=c:=Int.toNat_of_nonneg hc
 refine⟨_,Znv Ze Zc types nc ns data rs a b c d e f g h k v,?_,?_⟩
 ·simp only[rr, tt, Int.toNat_natCast,ha2,hc2,hw,Zi (ZC rs)]
  repeat' (with_reducible apply And.intro)
  all_goals first|exact⟨hq,hv⟩|exact⟨hq,hv.trans hw⟩|exact hq|exact hv|exact hv.trans hw|exact Zh (ZC rs)|exact(Zi (ZC rs)).symm|with_reducible trivial|with_reducible rfl|(simp; omega)|skip
 ·exact⟨fun _ _=>rfl,trivial,rfl,trivial,⟨⟨by kernel_rfl,by kernel_rfl⟩,trivial⟩,Nat.le_refl _,fun l hl=>ZN hl,Zj1,fun x hx=>by cases hx⟩
theorem Zdb (Ze Zc types:Int) (nc ns:Nat) (data:List UInt8) (rs:List Rl) (a b c d e f g h:Int) (k:Nat) (v:Nat→Bool) (hk:k=rs.length) :
  ∃ g1,evC Tryz.prog (evF Tryz.prog (ZH 3 (ZlF rs v)) Zf 100 3) (Zf 55) 112 100 (ZB Tryz.prog 55 1) ((crI Ze Zc types nc ns data rs a b c d e f g h k).frT 112 [(0,false)])=some (.exit 2,g1)∧g1.s.O∧Sf.Leads 3 (fun l=>Nat.blt l 69) id (crI Ze Zc types nc ns data rs a b c d e f g h k) g1 crN crN:=by
 refine⟨_,Znw Ze Zc types nc ns data rs a b c d e f g h k v,?_,?_⟩
 ·subst hk; simp
 ·exact⟨fun _ _=>rfl,trivial,rfl,trivial,trivial,Nat.le_refl _,fun l hl=>ZN hl,Zj2,fun x hx=>by cases hx⟩
theorem ZiW (Ze Zc types:Int) (nc ns:Nat) (data:List UInt8) (rs:List Rl) (a b c d e f g h:Int) (j:Nat) (hj:j<rs.length) (hm:rs.length≤100000) (ha:0≤a) (hc:0≤c) (hr:∀ i,i<rs.length→QC nc data.length a.toNat c.toNat (rl0 rs i)) (hv:Zy types nc data.length a.toNat c.toNat (rl0 rs j) (ZY rs j)=false) (hn:∀ i,i<j→Zy types nc data.length a.toNat c.toNat (rl0 rs i) (ZY rs i)=true) :
  ∀ x:{ k:Nat // k≤j },Qj Tryz.prog 112 (ZB Tryz.prog 55 1) ((crI Ze Zc types nc ns data rs a b c d e f g h x.1).fr 112) .ret (crF.fr 112):=by
 refine Yc (L:=100) (Zu (L:=100) ZK (Z1 (Zhc rs (fun i=>Zy types nc data.length a.toNat c.toNat (rl0 rs i) (ZY rs i)))) (Zj _) 3) (ZU _ _ 55) (fun _ h=>h) (X:={ k:Nat // k≤j }) (fun x=>crI Ze Zc types nc ns data rs a b c d e f g h x.1) (fun _=>crF) (fun _ => .ret) (fun x=>j-x.1) (fun x=>Zny Ze Zc types nc ns data rs a b c d e f g h x.1) ?_
 rintro⟨k,hk⟩
 by_cases h0:k=j
 ·subst h0
  obtain⟨g1,h1,h2,h3⟩:=Zda Ze Zc types nc ns data rs a b c d e f g h k (fun i=>Zy types nc data.length a.toNat c.toNat (rl0 rs i) (ZY rs i)) hj hm ha hc (hr k hj) (fun i hi=>hn i hi) hv rfl
  exact⟨_,.ret,g1,3,_,_,h1,h2,.inr ⟨by simp,rfl,h3⟩⟩
 ·obtain⟨g1,h1,h2,h3⟩:=K3 Ze Zc types nc ns data rs a b c d e f g h k (fun i=>Zy types nc data.length a.toNat c.toNat (rl0 rs i) (ZY rs i)) crF (by omega) hm ha hc (hr k (by omega)) (fun i hi=>hn i (by omega)) (hn k (by omega)) rfl rfl Zj1
  exact⟨_,.normal,g1,3,_,_,h1,h2,.inl ⟨rfl,⟨k+1,by omega⟩,by show j-(k+1)<j-k; omega,rfl,rfl,h3⟩⟩
theorem ZlK (Ze Zc types:Int) (nc ns:Nat) (data:List UInt8) (rs:List Rl) (a b c d e f g h:Int) (hm:rs.length≤100000) (ha:0≤a) (hc:0≤c) (hr:∀ i,i<rs.length→QC nc data.length a.toNat c.toNat (rl0 rs i)) (hn:∀ i,i<rs.length→Zy types nc data.length a.toNat c.toNat (rl0 rs i) (ZY rs i)=true) :
  ∀ x:{ k:Nat // k≤rs.length },Qj Tryz.prog 112 (ZB Tryz.prog 55 1) ((crI Ze Zc types nc ns data rs a b c d e f g h x.1).fr 112) (.exit 2) (crN.fr 112):=by
 refine Yc (L:=100) (Zu (L:=100) ZK (Z1 (Zhc rs (fun i=>Zy types nc data.length a.toNat c.toNat (rl0 rs i) (ZY rs i)))) (Zj _) 3) (ZU _ _ 55) (fun _ h=>h) (X:={ k:Nat // k≤rs.length }) (fun x=>crI Ze Zc types nc ns data rs a b c d e f g h x.1) (fun _=>crN) (fun _ => .exit 2) (fun x=>rs.length-x.1) (fun x=>Zny Ze Zc types nc ns data rs a b c d e f g h x.1) ?_
 rintro⟨k,hk⟩
 by_cases h0:k<rs.length
 ·obtain⟨g1,h1,h2,h3⟩:=K3 Ze Zc types nc ns data rs a b c d e f g h k (fun i=>Zy types nc data.length a.toNat c.toNat (rl0 rs i) (ZY rs i)) crN h0 hm ha hc (hr k h0) (fun i hi=>hn i (by omega)) (hn k h0) rfl rfl Zj2
  exact⟨_,.normal,g1,3,_,_,h1,h2,.inl ⟨rfl,⟨k+1,by omega⟩,by show rs.length-(k+1)<rs.length-k; omega,rfl,rfl,h3⟩⟩
 ·obtain⟨g1,h1,h2,h3⟩:=Zdb Ze Zc types nc ns data rs a b c d e f g h k (fun i=>Zy types nc data.length a.toNat c.toNat (rl0 rs i) (ZY rs i)) (by omega)
  exact⟨_,.exit 2,g1,3,_,_,h1,h2,.inr ⟨by simp,rfl,h3⟩⟩
def ZnA (Ze Zc types:Int) (nc ns:Nat) (data:List UInt8) (rs:List Rl) (a b c d e f g h:Int) (j:Nat) (hj:j<rs.length) (hm:rs.length≤100000) (ha:0≤a) (hc:0≤c) (hr:∀ i,i<rs.length→QC nc data.length a.toNat c.toNat (rl0 rs i)) (hv:Zy types nc data.length a.toNat c.toNat (rl0 rs j) (ZY rs j)=false) (hn:∀ i,i<j→Zy types nc data.length a.toNat c.toNat (rl0 rs i) (ZY rs i)=true):Ent Tryz.prog :=
 Vl Tryz.prog 55 1 112 (crI Ze Zc types nc ns data rs a b c d e f g h 0) .ret crF (by kernel_rfl) (by kernel_rfl) (ZiW Ze Zc types nc ns data rs a b c d e f g h j hj hm ha hc hr hv hn ⟨0,Nat.zero_le _⟩)
def ZnB (Ze Zc types:Int) (nc ns:Nat) (data:List UInt8) (rs:List Rl) (a b c d e f g h:Int) (hm:rs.length≤100000) (ha:0≤a) (hc:0≤c) (hr:∀ i,i<rs.length→QC nc data.length a.toNat c.toNat (rl0 rs i)) (hn:∀ i,i<rs.length→Zy types nc data.length a.toNat c.toNat (rl0 rs i) (ZY rs i)=true):Ent Tryz.prog :=
 Vl Tryz.prog 55 1 112 (crI Ze Zc types nc ns data rs a b c d e f g h 0) (.exit 2) crN (by kernel_rfl) (by kernel_rfl) (ZlK Ze Zc types nc ns data rs a b c d e f g h hm ha hc hr hn ⟨0,Nat.zero_le _⟩)
end Go.Proofs.YtliidiceljdgmaaGreat
