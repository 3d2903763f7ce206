/-
  CoreNoMoreCard: part 5 of the proof.
-/
import Derived.Test.YtagacmljbgkmoaaGreatDoorQCoreNoMoreCardD
set_option linter.unusedSimpArgs false
set_option linter.unusedVariables false
set_option linter.unusedSectionVars false
namespace Go.Proofs.YtagacmljbgkmoaaGreatDoor
open Go.IntKind (u8 u16 u32 u64 i64)
open Go.RowKit
open Sy
set_option maxRecDepth 100000
theorem Zsx {q:Nat→Bool}:∀ {l k:Sy.Heap},OkH q l→OkH q k→OkH q (l++k)
 | [],_,_,h=>h
 | _::l,_,h,hk=>⟨h.1,Zsx (l:=l) h.2 hk⟩
theorem Zog {q:Nat→Bool} (h:∀ l,l<68→q l=true) (rw:Bool) (zs:List UInt8) (f:Nat→Bool) (N m n:Nat):OkH q (arW rw zs f N m n++Yq Zw):=Zsx (W0 h rw zs f N m n) (Zss fun l hl=>h l (by omega))
def ZbH (args:List Value) (fr':Nat→Cp) (t:Nat) (zs:List UInt8) (f:Nat→Bool) (N m n:Nat):Con:=⟨args,68,arW false zs f N m n++Yq Zw,arO N n,.tuple ⟨[WV fr',.int .i64 (t:Nat)]⟩,68,[],[]⟩
def ZwW (args:List Value) (fr':Nat→Cp) (zs zs':List UInt8) (f f':Nat→Bool) (N m n:Nat):Con:=⟨args,68,arW true zs f N m n++Yq Zw,arO N n,.tuple ⟨[WV fr',.int .i64 0]⟩,68,arW true zs' f' N m n,arO N n⟩
theorem VR {call:Qs} (hc:Zv Tryz.prog call) {fn:FuncId} {args:List Value} {fr':Nat→Cp} {t:Nat} {v:Value} {zs:List UInt8} {f:Nat→Bool} {N m n:Nat} {T:List (Nat×Bool)} {q:Prop} (ha:args.all (okV (fun l=>Nat.blt l 68) 3)=true) (h:obs (call fn args ⟨68,arW false zs f N m n++Yq Zw,arO N n,0,T,0,True⟩)=some (v,q)) (hv:v = .tuple ⟨[WV fr',.int .i64 (t:Nat)]⟩) (hq:q) :
  ConOk Tryz.prog fn 3 (ZbH args fr' t zs f N m n)∧FlatC (ZbH args fr' t zs f N m n):=by
 subst hv
 unfold obs at h
 obtain⟨⟨v',s'⟩,h1,h2⟩:=oM h
 simp only[Prod.mk.injEq] at h2
 obtain⟨rfl,rfl⟩:=h2
 have hv:X1 (.tuple ⟨[WV fr',.int .i64 (t:Nat)]⟩)=true:=rfl
 refine⟨Qi hc ⟨by show 64≤68; omega,Nat.le_refl _,Zog Zfe false zs f N m n,rfl,rfl,rfl,ha,Ys hv 1,fun x hx=>by cases hx⟩ h1 hq (p:=fun l=>Nat.blt l 68) (σ:=id) ?_,⟨fun x hx=>by cases hx⟩⟩
 exact⟨fun _ _=>rfl,trivial,rfl,trivial,⟨Ys hv 1,by rw[Uh]; rfl⟩,rfl,trivial,rfl,XA _ hv,fun x hx=>by cases hx⟩
theorem Zy8 {call:Qs} (hc:Zv Tryz.prog call) {fn:FuncId} {args:List Value} {fr':Nat→Cp} {v:Value} {zs zs':List UInt8} {f f':Nat→Bool} {N m n:Nat} {T:List (Nat×Bool)} {s':Sy.St} (ha:args.all (okV (fun l=>Nat.blt l 68) 3)=true) (h:call fn args ⟨68,arW true zs f N m n++Yq Zw,arO N n,0,T,0,True⟩=some (v,s')) (hv:v = .tuple ⟨[WV fr',.int .i64 0]⟩) (hO:s'.O)
  (h1:WS 3 (fun l=>Nat.blt l 68) id s'.h (arW true zs' f' N m n)) (h2:ZaA (fun l=>Nat.blt l 68) id s'.lo (arO N n)):ConOk Tryz.prog fn 3 (ZwW args fr' zs zs' f f' N m n)∧FlatC (ZwW args fr' zs zs' f f' N m n):=by
 subst hv
 have hv:X1 (.tuple ⟨[WV fr',.int .i64 0]⟩)=true:=rfl
 refine⟨Qi hc ⟨by show 64≤68; omega,Nat.le_refl _,Zog Zfe true zs f N m n,rfl,rfl,rfl,ha,Ys hv 1,Zmx true _ _ N m n⟩ h hO (p:=fun l=>Nat.blt l 68) (σ:=id) ?_,⟨UZ _ _ _ _ _ _⟩⟩
 exact⟨fun _ _=>rfl,h1,rfl,h2,⟨Ys hv 1,by rw[Uh]; rfl⟩,rfl,W0 Zjy true _ _ N m n,rfl,XA _ hv,fun x _ _ => .inl rfl⟩
theorem Yf (x:Nat→Cp):Zdr frZ (frL x) 0=frL x:=rfl
theorem Xq (x:Nat→Cp):ZF frZ (frL x) 0=true:=rfl
theorem Xr (x:Nat→Cp):WH 136 (frL x)=true:=rfl
theorem Xs (x:Nat→Cp):Qv (frL x)=136:=rfl
theorem Yg:WH (0+136) frZ=true:=rfl
theorem Xt (x:Nat→Cp):ZfE (frL x)=true:=rfl
theorem Yh (x:Nat→Cp):Ym 0 (frL x) frZ=frL x:=rfl
theorem Xu (x:Nat→Cp):(frL x).all Z4=true:=rfl
theorem QL (x:Nat→Cp) (a:Nat) (r:Cp) (ha:a<17):Ym (0+a*8) [Value.int u32 (↑r.C:Int),Value.int u8 (↑r.E:Int),Value.int u16 (↑r.B:Int),Value.int u16 (↑r.T:Int),Value.int u16 (↑r.P:Int),Value.int u16 (↑r.Y:Int),Value.int u32 (↑r.R:Int),Value.bool r.V] (frL x)=frL (frS x a r):=by
 have h:=Zmr x r a ha
 rw[← h,show 0+a*8=8*a by omega]
 rfl
theorem Qu (x:Nat→Cp) (r:Cp):Ym 128 [Value.int u32 (↑r.C:Int),Value.int u8 (↑r.E:Int),Value.int u16 (↑r.B:Int),Value.int u16 (↑r.T:Int),Value.int u16 (↑r.P:Int),Value.int u16 (↑r.Y:Int),Value.int u32 (↑r.R:Int),Value.bool r.V] (frL x)=frL (frS x 16 r):=QL x 16 r (by omega)
theorem Qh (x:Nat→Cp) (a v:Nat) (ha:a<17):Ym (0+a*8) [Value.int u32 (↑v:Int),Value.int u8 (0:Int),Value.int u16 (0:Int),Value.int u16 (0:Int),Value.int u16 (0:Int),Value.int u16 (0:Int),Value.int u32 (0:Int),Value.bool false] (frL x)=frL (frS x a (Zff v)):=QL x a (Zff v) ha
theorem JW {i:In} {fr nx:Nat→Cp} {k:Bool} {L:Sy.Steps} (hfr:Wc fr) (h1:nx=WE fr) (h2:k=J6 i) (hL:∀ x∈L,ConOk Tryz.prog x.2.1 3 x.2.2.1∧FlatC x.2.2.1):∀ x∈doL i fr nx k Zw L,ConOk Tryz.prog x.2.1 3 x.2.2.1∧FlatC x.2.2.1:=fun x hx=>by
 unfold doL at hx
 subst h1 h2
 rcases List.mem_cons.1 hx with rfl|hx
 ·exact⟨Zur fr hfr,⟨fun x hx=>by cases hx⟩⟩
 ·rcases List.mem_cons.1 hx with rfl|hx
  ·exact ZyC i
  ·exact hL x hx
theorem Zgg {args:List Value} {v:Value}:FlatC (Con.pure args v):=⟨fun x hx=>by cases hx⟩
theorem ZfV {i:In} {w:Nat} (h:w=WK i.op):∀ x∈wdL i w,ConOk Tryz.prog x.2.1 3 x.2.2.1∧FlatC x.2.2.1:=fun x hx=>by
 subst h
 obtain rfl:=List.mem_singleton.1 hx
 exact⟨ZrM i.op,Zgg⟩
theorem Zlw {i:In} {cA cB:Cp} {k is:Bool} (h1:k=tkS i.op cA.C cB.C) (h2:is=tkI i.op):∀ x∈tkL i cA cB k is,ConOk Tryz.prog x.2.1 3 x.2.2.1∧FlatC x.2.2.1:=fun x hx=>by
 subst h1 h2
 obtain rfl:=List.mem_singleton.1 hx
 exact⟨Zu2 i.op cA.C cB.C,Zgg⟩
theorem Zsy {i:In} {cB cC:Cp} {v t:Nat} {is:Bool} (hb:cB.Ok) (hc:cC.Ok) (h1:v=rkN i.op cB.C cC.C) (h2:t=rkT i.op cC.C) (h3:is=rkI i.op):∀ x∈rkL i cB cC v t is,ConOk Tryz.prog x.2.1 3 x.2.2.1∧FlatC x.2.2.1:=fun x hx=>by
 subst h1 h2 h3
 obtain rfl:=List.mem_singleton.1 hx
 exact⟨ZCM i.op cB.C cC.C hb.1 hc.1,Zgg⟩
theorem ZaP {L M:Sy.Steps} (h1:∀ x∈L,ConOk Tryz.prog x.2.1 3 x.2.2.1∧FlatC x.2.2.1) (h2:∀ x∈M,ConOk Tryz.prog x.2.1 3 x.2.2.1∧FlatC x.2.2.1):∀ x∈L++M,ConOk Tryz.prog x.2.1 3 x.2.2.1∧FlatC x.2.2.1:=fun x hx=>by
 rcases List.mem_append.1 hx with hx|hx
 ·exact h1 x hx
 ·exact h2 x hx
theorem Zlx {x:Nat×FuncId×Con×List Nat} (h:ConOk Tryz.prog x.2.1 3 x.2.2.1∧FlatC x.2.2.1):∀ y∈[x],ConOk Tryz.prog y.2.1 3 y.2.2.1∧FlatC y.2.2.1:=fun y hy=>by
 obtain rfl:=List.mem_singleton.1 hy; exact h
theorem ZCY (fr:Nat→Cp) (i:In) (zs:List UInt8) (f:Nat→Bool) (N g n:Nat) (hfr:Wc fr) (hm:J6 i=false):ConOk Tryz.prog 13 3 (ZbH (mvA fr i) frN 6 zs f N g n)∧FlatC (ZbH (mvA fr i) frN 6 zs f N g n):=by
 have hr:=do_b.v i fr (WE fr) Zw zs f N g n
 refine VR (Zn (L:=100) Ze (Zo (Zi (JW (i:=i) hfr rfl hm.symm (fun x hx=>by cases hx))) (Zc _)) (Zd _) 20) (Xp _ _) hr rfl ?_
 simp only[Zx,Zp,and_true,true_and,and_self]
theorem Zsz (fr:Nat→Cp) (a b c:Nat) (m:Int) (zs:List UInt8) (f:Nat→Bool) (N g n:Nat) (hfr:Wc fr) (hm:J6 (inS 53 a b c m)=true):ConOk Tryz.prog 13 3 (ZbH (mvA fr (inS 53 a b c m)) (frN) 6 zs f N g n)∧FlatC (ZbH (mvA fr (inS 53 a b c m)) (frN) 6 zs f N g n):=by
 have v1:∀ (f:Nat→Bool) (σ:Nat→Nat),(v64 (Za f n)).map (rnV σ 3)=v64 (Za f n):=fun f σ=>Zk (Zm _)
 have v2:∀ (f:Nat→Bool) (p:Nat→Bool),(v64 (Za f n)).all (okV p 3)=true:=fun f p=>Zj (Zm _)
 have u1:∀ (zs:List UInt8) (p:Nat→Bool),(u8s zs).all (okV p 3)=true:=fun zs p=>Zj (Zl _)
 have u2:∀ (zs:List UInt8) (σ:Nat→Nat),(u8s zs).map (rnV σ 3)=u8s zs:=fun zs σ=>Zk (Zl _)
 have hr:=do_t.v (inS 53 a b c m) fr (WE fr) Zw zs f N g n
 simp only[inS,Int.toNat_natCast,Yy,Yf,Xq,Xr,Xs,Yg,Xt,Yh,Xu,Qu] at hr
 refine VR (Zn (L:=100) Ze (Zo (Zi (JW (i:=(inS 53 a b c m)) hfr rfl hm.symm (fun x hx=>by cases hx))) (Zc _)) (Zd _) 20) (Xp _ _) hr rfl ?_
 simp(disch:=decide) only[inS,Yf,Xq,Xr,Xs,Yg,Xt,Yh,Xu,Qu,beq_self_eq_true,Nat.add_zero,v1,v2,u1,u2,Zx,Zp,Int.toNat_natCast,Bool.and_self,Bool.and_true,Bool.true_and,cond_true,and_true,true_and,and_self,Nat.le_refl]
theorem Zly (fr:Nat→Cp) (a b c:Nat) (m:Int) (zs:List UInt8) (f:Nat→Bool) (N g n:Nat) (hfr:Wc fr) (hm:J6 (inS 50 a b c m)=true):ConOk Tryz.prog 13 3 (ZbH (mvA fr (inS 50 a b c m)) (fr) 0 zs f N g n)∧FlatC (ZbH (mvA fr (inS 50 a b c m)) (fr) 0 zs f N g n):=by
 have v1:∀ (f:Nat→Bool) (σ:Nat→Nat),(v64 (Za f n)).map (rnV σ 3)=v64 (Za f n):=fun f σ=>Zk (Zm _)
 have v2:∀ (f:Nat→Bool) (p:Nat→Bool),(v64 (Za f n)).all (okV p 3)=true:=fun f p=>Zj (Zm _)
 have u1:∀ (zs:List UInt8) (p:Nat→Bool),(u8s zs).all (okV p 3)=true:=fun zs p=>Zj (Zl _)
 have u2:∀ (zs:List UInt8) (σ:Nat→Nat),(u8s zs).map (rnV σ 3)=u8s zs:=fun zs σ=>Zk (Zl _)
 have e1:∀ {x y:Int},x≠y→(x==y)=false:=fun h=>beq_eq_false_iff_ne.2 h
 have hr:=ZCP.v (inS 50 a b c m) fr (WE fr) Zw zs f N g n
 simp only[inS,Int.toNat_natCast,Yy,Yf,Xq,Xr,Xs,Yg,Xt,Yh,Xu,Qu] at hr
 refine VR (Zn (L:=100) Ze (Zo (Zi (JW (i:=(inS 50 a b c m)) hfr rfl hm.symm (fun x hx=>by cases hx))) (Zc _)) (Zd _) 20) (Xp _ _) hr rfl ?_
 simp(disch:=decide) only[inS,Yf,Xq,Xr,Xs,Yg,Xt,Yh,Xu,Qu,beq_self_eq_true,e1,Nat.add_zero,v1,v2,u1,u2,Zx,Zp,Int.toNat_natCast,Bool.and_self,Bool.and_true,Bool.true_and,cond_true,and_true,true_and,and_self,Nat.le_refl]
theorem Zlz (fr:Nat→Cp) (a b c:Nat) (m:Int) (zs:List UInt8) (f:Nat→Bool) (N g n:Nat) (hfr:Wc fr) (hm:J6 (inS 51 a b c m)=true):ConOk Tryz.prog 13 3 (ZbH (mvA fr (inS 51 a b c m)) (fr) 0 zs f N g n)∧FlatC (ZbH (mvA fr (inS 51 a b c m)) (fr) 0 zs f N g n):=by
 have v1:∀ (f:Nat→Bool) (σ:Nat→Nat),(v64 (Za f n)).map (rnV σ 3)=v64 (Za f n):=fun f σ=>Zk (Zm _)
 have v2:∀ (f:Nat→Bool) (p:Nat→Bool),(v64 (Za f n)).all (okV p 3)=true:=fun f p=>Zj (Zm _)
 have u1:∀ (zs:List UInt8) (p:Nat→Bool),(u8s zs).all (okV p 3)=true:=fun zs p=>Zj (Zl _)
 have u2:∀ (zs:List UInt8) (σ:Nat→Nat),(u8s zs).map (rnV σ 3)=u8s zs:=fun zs σ=>Zk (Zl _)
 have e1:∀ {x y:Int},x≠y→(x==y)=false:=fun h=>beq_eq_false_iff_ne.2 h
 have hr:=ZCQ.v (inS 51 a b c m) fr (WE fr) Zw zs f N g n
 simp only[inS,Int.toNat_natCast,Yy,Yf,Xq,Xr,Xs,Yg,Xt,Yh,Xu,Qu] at hr
 refine VR (Zn (L:=100) Ze (Zo (Zi (JW (i:=(inS 51 a b c m)) hfr rfl hm.symm (fun x hx=>by cases hx))) (Zc _)) (Zd _) 20) (Xp _ _) hr rfl ?_
 simp(disch:=decide) only[inS,Yf,Xq,Xr,Xs,Yg,Xt,Yh,Xu,Qu,beq_self_eq_true,e1,Nat.add_zero,v1,v2,u1,u2,Zx,Zp,Int.toNat_natCast,Bool.and_self,Bool.and_true,Bool.true_and,cond_true,and_true,true_and,and_self,Nat.le_refl]
theorem ZlA (fr:Nat→Cp) (a b c:Nat) (m:Int) (zs:List UInt8) (f:Nat→Bool) (N g n:Nat) (hfr:Wc fr) (hm:J6 (inS 52 a b c m)=true):ConOk Tryz.prog 13 3 (ZbH (mvA fr (inS 52 a b c m)) (fr) 0 zs f N g n)∧FlatC (ZbH (mvA fr (inS 52 a b c m)) (fr) 0 zs f N g n):=by
 have v1:∀ (f:Nat→Bool) (σ:Nat→Nat),(v64 (Za f n)).map (rnV σ 3)=v64 (Za f n):=fun f σ=>Zk (Zm _)
 have v2:∀ (f:Nat→Bool) (p:Nat→Bool),(v64 (Za f n)).all (okV p 3)=true:=fun f p=>Zj (Zm _)
 have u1:∀ (zs:List UInt8) (p:Nat→Bool),(u8s zs).all (okV p 3)=true:=fun zs p=>Zj (Zl _)
 have u2:∀ (zs:List UInt8) (σ:Nat→Nat),(u8s zs).map (rnV σ 3)=u8s zs:=fun zs σ=>Zk (Zl _)
 have e1:∀ {x y:Int},x≠y→(x==y)=false:=fun h=>beq_eq_false_iff_ne.2 h
 have hr:=ZCR.v (inS 52 a b c m) fr (WE fr) Zw zs f N g n
 simp only[inS,Int.toNat_natCast,Yy,Yf,Xq,Xr,Xs,Yg,Xt,Yh,Xu,Qu] at hr
 refine VR (Zn (L:=100) Ze (Zo (Zi (JW (i:=(inS 52 a b c m)) hfr rfl hm.symm (fun x hx=>by cases hx))) (Zc _)) (Zd _) 20) (Xp _ _) hr rfl ?_
 simp(disch:=decide) only[inS,Yf,Xq,Xr,Xs,Yg,Xt,Yh,Xu,Qu,beq_self_eq_true,e1,Nat.add_zero,v1,v2,u1,u2,Zx,Zp,Int.toNat_natCast,Bool.and_self,Bool.and_true,Bool.true_and,cond_true,and_true,true_and,and_self,Nat.le_refl]
theorem ZwX (fr:Nat→Cp) (a b c:Nat) (m:Int) (zs:List UInt8) (f:Nat→Bool) (N g n:Nat) (hfr:Wc fr) (a0:a<16) (hm:J6 (inS 29 a b c m)=true):ConOk Tryz.prog 13 3 (ZbH (mvA fr (inS 29 a b c m)) (frS (frS (WE fr) a (Zge fr 1)) 16 (Zge fr m)) 0 zs f N g n)∧FlatC (ZbH (mvA fr (inS 29 a b c m)) (frS (frS (WE fr) a (Zge fr 1)) 16 (Zge fr m)) 0 zs f N g n):=by
 have ha:a<17:=by omega
 have ya:decide ((0:Int)≤(a:Int))=true:=decide_eq_true (by omega)
 have za:decide ((a:Int)<16)=true:=decide_eq_true (by omega)
 have v1:∀ (f:Nat→Bool) (σ:Nat→Nat),(v64 (Za f n)).map (rnV σ 3)=v64 (Za f n):=fun f σ=>Zk (Zm _)
 have v2:∀ (f:Nat→Bool) (p:Nat→Bool),(v64 (Za f n)).all (okV p 3)=true:=fun f p=>Zj (Zm _)
 have u1:∀ (zs:List UInt8) (p:Nat→Bool),(u8s zs).all (okV p 3)=true:=fun zs p=>Zj (Zl _)
 have u2:∀ (zs:List UInt8) (σ:Nat→Nat),(u8s zs).map (rnV σ 3)=u8s zs:=fun zs σ=>Zk (Zl _)
 have e1:∀ {x y:Int},x≠y→(x==y)=false:=fun h=>beq_eq_false_iff_ne.2 h
 have hr:=ZFz.v (inS 29 a b c m) fr (WE fr) Zw zs f N g n (Zge fr 1) (Zge fr m)
 simp only[inS,Int.toNat_natCast,Yy,Yf,Xq,Xr,Xs,Yg,Xt,Yh,Xu,Qu,Q8 fr a ha,Q9 fr a ha,Ya fr a ha,Yb fr a ha,Q6 fr a ha,Yc fr a ha,Yd fr a ha,Ye fr a ha,Zq fr a ha,Qg fr a ha,Zr fr a ha,ZU fr a ha,QL _ a _ ha,Qh _ a _ ha,Zq _ a ha] at hr
 refine VR (Zn (L:=100) Ze (Zo (Zi (JW (i:=(inS 29 a b c m)) hfr rfl hm.symm (fun x hx=>by
  simp only[List.mem_cons,List.not_mem_nil,or_false] at hx
  rcases hx with rfl|rfl
  ·exact⟨ZdQ fr 1 hfr,Zgg⟩
  ·exact⟨ZdQ fr m hfr,Zgg⟩))) (Zc _)) (Zd _) 20) (Xp _ _) hr rfl ?_
 simp(disch:=decide) only[inS,Yf,Xq,Xr,Xs,Yg,Xt,Yh,Xu,Qu,Q8 fr a ha,Q9 fr a ha,Ya fr a ha,Yb fr a ha,Q6 fr a ha,Yc fr a ha,Yd fr a ha,Ye fr a ha,Zq fr a ha,Qg fr a ha,Zr fr a ha,ZU fr a ha,QL _ a _ ha,Qh _ a _ ha,Zq _ a ha,ya,za,beq_self_eq_true,e1,Nat.add_zero,v1,v2,u1,u2,Zx,Zp,Int.toNat_natCast,Bool.and_self,Bool.and_true,Bool.true_and,cond_true,and_true,true_and,and_self,Nat.le_refl]
theorem ZsA (fr:Nat→Cp) (a b c:Nat) (m:Int) (zs:List UInt8) (f:Nat→Bool) (N g n:Nat) (hfr:Wc fr) (a0:a<16) (b0:b<16) (hm:J6 (inS 30 a b c m)=true) (ht:Zbg (fr b) 4=0):ConOk Tryz.prog 13 3 (ZbH (mvA fr (inS 30 a b c m)) (frS (frS (WE fr) a (Zge fr 1)) 16 (fr b)) 0 zs f N g n)∧FlatC (ZbH (mvA fr (inS 30 a b c m)) (frS (frS (WE fr) a (Zge fr 1)) 16 (fr b)) 0 zs f N g n):=by
 have ha:a<17:=by omega
 have ya:decide ((0:Int)≤(a:Int))=true:=decide_eq_true (by omega)
 have za:decide ((a:Int)<16)=true:=decide_eq_true (by omega)
 have hb:b<17:=by omega
 have yb:decide ((0:Int)≤(b:Int))=true:=decide_eq_true (by omega)
 have zb:decide ((b:Int)<16)=true:=decide_eq_true (by omega)
 have v1:∀ (f:Nat→Bool) (σ:Nat→Nat),(v64 (Za f n)).map (rnV σ 3)=v64 (Za f n):=fun f σ=>Zk (Zm _)
 have v2:∀ (f:Nat→Bool) (p:Nat→Bool),(v64 (Za f n)).all (okV p 3)=true:=fun f p=>Zj (Zm _)
 have u1:∀ (zs:List UInt8) (p:Nat→Bool),(u8s zs).all (okV p 3)=true:=fun zs p=>Zj (Zl _)
 have u2:∀ (zs:List UInt8) (σ:Nat→Nat),(u8s zs).map (rnV σ 3)=u8s zs:=fun zs σ=>Zk (Zl _)
 have e1:∀ {x y:Int},x≠y→(x==y)=false:=fun h=>beq_eq_false_iff_ne.2 h
 have e2:(((Zbg (fr b) 4:Nat):Int) !=0)=false:=by rw[ht]; rfl
 have hr:=ZCS.v (inS 30 a b c m) fr (WE fr) Zw zs f N g n (Zge fr 1) (fr b) (Zbg (fr b) 4)
 simp only[inS,Int.toNat_natCast,Yy,Yf,Xq,Xr,Xs,Yg,Xt,Yh,Xu,Qu,Q8 fr a ha,Q9 fr a ha,Ya fr a ha,Yb fr a ha,Q6 fr a ha,Yc fr a ha,Yd fr a ha,Ye fr a ha,Zq fr a ha,Qg fr a ha,Zr fr a ha,ZU fr a ha,QL _ a _ ha,Qh _ a _ ha,Zq _ a ha,Q8 fr b hb,Q9 fr b hb,Ya fr b hb,Yb fr b hb,Q6 fr b hb,Yc fr b hb,Yd fr b hb,Ye fr b hb,Zq fr b hb,Qg fr b hb,Zr fr b hb,ZU fr b hb,QL _ b _ hb,Qh _ b _ hb,Zq _ b hb] at hr
 refine VR (Zn (L:=100) Ze (Zo (Zi (JW (i:=(inS 30 a b c m)) hfr rfl hm.symm (fun x hx=>by
  simp only[List.mem_cons,List.not_mem_nil,or_false] at hx
  rcases hx with rfl|rfl
  ·exact⟨ZdQ fr 1 hfr,Zgg⟩
  ·exact⟨ZjR (fr b) 4 (hfr b) (by omega),Zgg⟩))) (Zc _)) (Zd _) 20) (Xp _ _) hr rfl ?_
 simp(disch:=decide) only[inS,Yf,Xq,Xr,Xs,Yg,Xt,Yh,Xu,Qu,Q8 fr a ha,Q9 fr a ha,Ya fr a ha,Yb fr a ha,Q6 fr a ha,Yc fr a ha,Yd fr a ha,Ye fr a ha,Zq fr a ha,Qg fr a ha,Zr fr a ha,ZU fr a ha,QL _ a _ ha,Qh _ a _ ha,Zq _ a ha,Q8 fr b hb,Q9 fr b hb,Ya fr b hb,Yb fr b hb,Q6 fr b hb,Yc fr b hb,Yd fr b hb,Ye fr b hb,Zq fr b hb,Qg fr b hb,Zr fr b hb,ZU fr b hb,QL _ b _ hb,Qh _ b _ hb,Zq _ b hb,ya,za,yb,zb,beq_self_eq_true,e1,e2,Nat.add_zero,v1,v2,u1,u2,Zx,Zp,Int.toNat_natCast,Bool.and_self,Bool.and_true,Bool.true_and,cond_true,and_true,true_and,and_self,Nat.le_refl]
theorem ZsB (fr:Nat→Cp) (a b c:Nat) (m:Int) (zs:List UInt8) (f:Nat→Bool) (N g n:Nat) (hfr:Wc fr) (a0:a<16) (b0:b<16) (hm:J6 (inS 30 a b c m)=true) (ht:Zbg (fr b) 4≠0):ConOk Tryz.prog 13 3 (ZbH (mvA fr (inS 30 a b c m)) (frN) (Zbg (fr b) 4) zs f N g n)∧FlatC (ZbH (mvA fr (inS 30 a b c m)) (frN) (Zbg (fr b) 4) zs f N g n):=by
 have ha:a<17:=by omega
 have ya:decide ((0:Int)≤(a:Int))=true:=decide_eq_true (by omega)
 have za:decide ((a:Int)<16)=true:=decide_eq_true (by omega)
 have hb:b<17:=by omega
 have yb:decide ((0:Int)≤(b:Int))=true:=decide_eq_true (by omega)
 have zb:decide ((b:Int)<16)=true:=decide_eq_true (by omega)
 have v1:∀ (f:Nat→Bool) (σ:Nat→Nat),(v64 (Za f n)).map (rnV σ 3)=v64 (Za f n):=fun f σ=>Zk (Zm _)
 have v2:∀ (f:Nat→Bool) (p:Nat→Bool),(v64 (Za f n)).all (okV p 3)=true:=fun f p=>Zj (Zm _)
 have u1:∀ (zs:List UInt8) (p:Nat→Bool),(u8s zs).all (okV p 3)=true:=fun zs p=>Zj (Zl _)
 have u2:∀ (zs:List UInt8) (σ:Nat→Nat),(u8s zs).map (rnV σ 3)=u8s zs:=fun zs σ=>Zk (Zl _)
 have e1:∀ {x y:Int},x≠y→(x==y)=false:=fun h=>beq_eq_false_iff_ne.2 h
 have e2:(((Zbg (fr b) 4:Nat):Int) !=0)=true:=bne_iff_ne.2 (by omega)
 have hr:=ZCT.v (inS 30 a b c m) fr (WE fr) Zw zs f N g n (Zge fr 1) (fr b) (Zbg (fr b) 4)
 simp only[inS,Int.toNat_natCast,Yy,Yf,Xq,Xr,Xs,Yg,Xt,Yh,Xu,Qu,Q8 fr a ha,Q9 fr a ha,Ya fr a ha,Yb fr a ha,Q6 fr a ha,Yc fr a ha,Yd fr a ha,Ye fr a ha,Zq fr a ha,Qg fr a ha,Zr fr a ha,ZU fr a ha,QL _ a _ ha,Qh _ a _ ha,Zq _ a ha,Q8 fr b hb,Q9 fr b hb,Ya fr b hb,Yb fr b hb,Q6 fr b hb,Yc fr b hb,Yd fr b hb,Ye fr b hb,Zq fr b hb,Qg fr b hb,Zr fr b hb,ZU fr b hb,QL _ b _ hb,Qh _ b _ hb,Zq _ b hb] at hr
 refine VR (Zn (L:=100) Ze (Zo (Zi (JW (i:=(inS 30 a b c m)) hfr rfl hm.symm (fun x hx=>by
  simp only[List.mem_cons,List.not_mem_nil,or_false] at hx
  rcases hx with rfl|rfl
  ·exact⟨ZdQ fr 1 hfr,Zgg⟩
  ·exact⟨ZjR (fr b) 4 (hfr b) (by omega),Zgg⟩))) (Zc _)) (Zd _) 20) (Xp _ _) hr rfl ?_
 simp(disch:=decide) only[inS,Yf,Xq,Xr,Xs,Yg,Xt,Yh,Xu,Qu,Q8 fr a ha,Q9 fr a ha,Ya fr a ha,Yb fr a ha,Q6 fr a ha,Yc fr a ha,Yd fr a ha,Ye fr a ha,Zq fr a ha,Qg fr a ha,Zr fr a ha,ZU fr a ha,QL _ a _ ha,Qh _ a _ ha,Zq _ a ha,Q8 fr b hb,Q9 fr b hb,Ya fr b hb,Yb fr b hb,Q6 fr b hb,Yc fr b hb,Yd fr b hb,Ye fr b hb,Zq fr b hb,Qg fr b hb,Zr fr b hb,ZU fr b hb,QL _ b _ hb,Qh _ b _ hb,Zq _ b hb,ya,za,yb,zb,beq_self_eq_true,e1,e2,Nat.add_zero,v1,v2,u1,u2,Zx,Zp,Int.toNat_natCast,Bool.and_self,Bool.and_true,Bool.true_and,cond_true,and_true,true_and,and_self,Nat.le_refl]
theorem ZwY (fr:Nat→Cp) (op:Int) (a b c:Nat) (m:Int) (zs:List UInt8) (f:Nat→Bool) (N g n:Nat) (hfr:Wc fr) (a0:a<16) (hm:J6 (inS op a b c m)=true) (k53:¬ op=53) (k50:¬ op=50) (k51:¬ op=51) (k52:¬ op=52) (k29:¬ op=29) (k30:¬ op=30) (hw:0<WK op) (r:Cp) (t:Nat) (hmv:ConOk Tryz.prog 37 3 (VF fr (inS op a b c m) r t zs f N g n)∧FlatC (VF fr (inS op a b c m) r t zs f N g n)) (ht:t≠0):ConOk Tryz.prog 13 3 (ZbH (mvA fr (inS op a b c m)) (frN) t zs f N g n)∧FlatC (ZbH (mvA fr (inS op a b c m)) (frN) t zs f N g n):=by
 have ha:a<17:=by omega
 have ya:decide ((0:Int)≤(a:Int))=true:=decide_eq_true (by omega)
 have za:decide ((a:Int)<16)=true:=decide_eq_true (by omega)
 have v1:∀ (f:Nat→Bool) (σ:Nat→Nat),(v64 (Za f n)).map (rnV σ 3)=v64 (Za f n):=fun f σ=>Zk (Zm _)
 have v2:∀ (f:Nat→Bool) (p:Nat→Bool),(v64 (Za f n)).all (okV p 3)=true:=fun f p=>Zj (Zm _)
 have u1:∀ (zs:List UInt8) (p:Nat→Bool),(u8s zs).all (okV p 3)=true:=fun zs p=>Zj (Zl _)
 have u2:∀ (zs:List UInt8) (σ:Nat→Nat),(u8s zs).map (rnV σ 3)=u8s zs:=fun zs σ=>Zk (Zl _)
 have w1:decide (((WK op:Nat):Int)>0)=true:=decide_eq_true (by omega)
 have e2:((t:Int) !=0)=true:=bne_iff_ne.2 (by omega)
 have hr:=ZFA.v (inS op a b c m) fr (WE fr) Zw zs f N g n (WK op) t r
 simp only[inS,Int.toNat_natCast,Yy,Yf,Xq,Xr,Xs,Yg,Xt,Yh,Xu,Qu,Q8 fr a ha,Q9 fr a ha,Ya fr a ha,Yb fr a ha,Q6 fr a ha,Yc fr a ha,Yd fr a ha,Ye fr a ha,Zq fr a ha,Qg fr a ha,Zr fr a ha,ZU fr a ha,QL _ a _ ha,Qh _ a _ ha,Zq _ a ha] at hr
 refine VR (Zn (L:=100) Ze (Zo (Zi (JW (i:=(inS op a b c m)) hfr rfl hm.symm (ZaP (ZfV rfl) (Zlx hmv)))) (Zc _)) (Zd _) 20) (Xp _ _) hr rfl ?_
 simp(disch:=decide) only[inS,Yf,Xq,Xr,Xs,Yg,Xt,Yh,Xu,Qu,Q8 fr a ha,Q9 fr a ha,Ya fr a ha,Yb fr a ha,Q6 fr a ha,Yc fr a ha,Yd fr a ha,Ye fr a ha,Zq fr a ha,Qg fr a ha,Zr fr a ha,ZU fr a ha,QL _ a _ ha,Qh _ a _ ha,Zq _ a ha,ya,za,Xw k53,Xw k50,Xw k51,Xw k52,Xw k29,Xw k30,w1,e2,Nat.add_zero,v1,v2,u1,u2,Zx,Zp,Int.toNat_natCast,Bool.and_self,Bool.and_true,Bool.true_and,cond_true,and_true,true_and,and_self,Nat.le_refl]
theorem ZwZ (fr:Nat→Cp) (op:Int) (a b c:Nat) (m:Int) (zs:List UInt8) (f:Nat→Bool) (N g n:Nat) (hfr:Wc fr) (a0:a<16) (hm:J6 (inS op a b c m)=true) (k53:¬ op=53) (k50:¬ op=50) (k51:¬ op=51) (k52:¬ op=52) (k29:¬ op=29) (k30:¬ op=30) (hw:0<WK op) (r:Cp) (hmv:ConOk Tryz.prog 37 3 (VF fr (inS op a b c m) r 0 zs f N g n)∧FlatC (VF fr (inS op a b c m) r 0 zs f N g n)):ConOk Tryz.prog 13 3 (ZbH (mvA fr (inS op a b c m)) (frS (WE fr) a r) 0 zs f N g n)∧FlatC (ZbH (mvA fr (inS op a b c m)) (frS (WE fr) a r) 0 zs f N g n):=by
 have ha:a<17:=by omega
 have ya:decide ((0:Int)≤(a:Int))=true:=decide_eq_true (by omega)
 have za:decide ((a:Int)<16)=true:=decide_eq_true (by omega)
 have v1:∀ (f:Nat→Bool) (σ:Nat→Nat),(v64 (Za f n)).map (rnV σ 3)=v64 (Za f n):=fun f σ=>Zk (Zm _)
 have v2:∀ (f:Nat→Bool) (p:Nat→Bool),(v64 (Za f n)).all (okV p 3)=true:=fun f p=>Zj (Zm _)
 have u1:∀ (zs:List UInt8) (p:Nat→Bool),(u8s zs).all (okV p 3)=true:=fun zs p=>Zj (Zl _)
 have u2:∀ (zs:List UInt8) (σ:Nat→Nat),(u8s zs).map (rnV σ 3)=u8s zs:=fun zs σ=>Zk (Zl _)
 have w1:decide (((WK op:Nat):Int)>0)=true:=decide_eq_true (by omega)
 have e2:(((0:Nat):Int) !=0)=false:=rfl
 have hr:=ZFB.v (inS op a b c m) fr (WE fr) Zw zs f N g n (WK op) 0 r
 simp only[inS,Int.toNat_natCast,Yy,Yf,Xq,Xr,Xs,Yg,Xt,Yh,Xu,Qu,Q8 fr a ha,Q9 fr a ha,Ya fr a ha,Yb fr a ha,Q6 fr a ha,Yc fr a ha,Yd fr a ha,Ye fr a ha,Zq fr a ha,Qg fr a ha,Zr fr a ha,ZU fr a ha,QL _ a _ ha,Qh _ a _ ha,Zq _ a ha] at hr
 refine VR (Zn (L:=100) Ze (Zo (Zi (JW (i:=(inS op a b c m)) hfr rfl hm.symm (ZaP (ZfV rfl) (Zlx hmv)))) (Zc _)) (Zd _) 20) (Xp _ _) hr rfl ?_
 simp(disch:=decide) only[inS,Yf,Xq,Xr,Xs,Yg,Xt,Yh,Xu,Qu,Q8 fr a ha,Q9 fr a ha,Ya fr a ha,Yb fr a ha,Q6 fr a ha,Yc fr a ha,Yd fr a ha,Ye fr a ha,Zq fr a ha,Qg fr a ha,Zr fr a ha,ZU fr a ha,QL _ a _ ha,Qh _ a _ ha,Zq _ a ha,ya,za,Xw k53,Xw k50,Xw k51,Xw k52,Xw k29,Xw k30,w1,e2,Nat.add_zero,v1,v2,u1,u2,Zx,Zp,Int.toNat_natCast,Bool.and_self,Bool.and_true,Bool.true_and,cond_true,and_true,true_and,and_self,Nat.le_refl]
theorem Zw0 (fr:Nat→Cp) (op:Int) (a b c:Nat) (m:Int) (zs:List UInt8) (f:Nat→Bool) (N g n:Nat) (hfr:Wc fr) (a0:a<16) (b0:b<16) (hm:J6 (inS op a b c m)=true) (k53:¬ op=53) (k50:¬ op=50) (k51:¬ op=51) (k52:¬ op=52) (k29:¬ op=29) (k30:¬ op=30) (hw:WK op=0) (hi:tkI op=true) (hk:tkS op (fr a).C (fr b).C=true):ConOk Tryz.prog 13 3 (ZbH (mvA fr (inS op a b c m)) (frS (WE fr) 16 (Zge fr m)) 0 zs f N g n)∧FlatC (ZbH (mvA fr (inS op a b c m)) (frS (WE fr) 16 (Zge fr m)) 0 zs f N g n):=by
 have ha:a<17:=by omega
 have ya:decide ((0:Int)≤(a:Int))=true:=decide_eq_true (by omega)
 have za:decide ((a:Int)<16)=true:=decide_eq_true (by omega)
 have hb:b<17:=by omega
 have yb:decide ((0:Int)≤(b:Int))=true:=decide_eq_true (by omega)
 have zb:decide ((b:Int)<16)=true:=decide_eq_true (by omega)
 have v1:∀ (f:Nat→Bool) (σ:Nat→Nat),(v64 (Za f n)).map (rnV σ 3)=v64 (Za f n):=fun f σ=>Zk (Zm _)
 have v2:∀ (f:Nat→Bool) (p:Nat→Bool),(v64 (Za f n)).all (okV p 3)=true:=fun f p=>Zj (Zm _)
 have u1:∀ (zs:List UInt8) (p:Nat→Bool),(u8s zs).all (okV p 3)=true:=fun zs p=>Zj (Zl _)
 have u2:∀ (zs:List UInt8) (σ:Nat→Nat),(u8s zs).map (rnV σ 3)=u8s zs:=fun zs σ=>Zk (Zl _)
 have hr:=ZCU.v (inS op a b c m) fr (WE fr) Zw zs f N g n (fr a) (fr b) (tkS op (fr a).C (fr b).C) true (Zge fr m)
 simp only[inS,Int.toNat_natCast,Yy,Yf,Xq,Xr,Xs,Yg,Xt,Yh,Xu,Qu,Q8 fr a ha,Q9 fr a ha,Ya fr a ha,Yb fr a ha,Q6 fr a ha,Yc fr a ha,Yd fr a ha,Ye fr a ha,Zq fr a ha,Qg fr a ha,Zr fr a ha,ZU fr a ha,QL _ a _ ha,Qh _ a _ ha,Zq _ a ha,Q8 fr b hb,Q9 fr b hb,Ya fr b hb,Yb fr b hb,Q6 fr b hb,Yc fr b hb,Yd fr b hb,Ye fr b hb,Zq fr b hb,Qg fr b hb,Zr fr b hb,ZU fr b hb,QL _ b _ hb,Qh _ b _ hb,Zq _ b hb] at hr
 refine VR (Zn (L:=100) Ze (Zo (Zi (JW (i:=(inS op a b c m)) hfr rfl hm.symm (ZaP (ZaP (ZfV hw.symm) (Zlw (i:=inS op a b c m) rfl hi.symm)) (Zlx ⟨ZdQ fr m hfr,Zgg⟩)))) (Zc _)) (Zd _) 20) (Xp _ _) hr rfl ?_
 simp(disch:=decide) only[inS,Yf,Xq,Xr,Xs,Yg,Xt,Yh,Xu,Qu,Q8 fr a ha,Q9 fr a ha,Ya fr a ha,Yb fr a ha,Q6 fr a ha,Yc fr a ha,Yd fr a ha,Ye fr a ha,Zq fr a ha,Qg fr a ha,Zr fr a ha,ZU fr a ha,QL _ a _ ha,Qh _ a _ ha,Zq _ a ha,Q8 fr b hb,Q9 fr b hb,Ya fr b hb,Yb fr b hb,Q6 fr b hb,Yc fr b hb,Yd fr b hb,Ye fr b hb,Zq fr b hb,Qg fr b hb,Zr fr b hb,ZU fr b hb,QL _ b _ hb,Qh _ b _ hb,Zq _ b hb,ya,za,yb,zb,Xw k53,Xw k50,Xw k51,Xw k52,Xw k29,Xw k30,hk,Bool.not_true,Bool.not_false,Nat.add_zero,v1,v2,u1,u2,Zx,Zp,Int.toNat_natCast,Bool.and_self,Bool.and_true,Bool.true_and,cond_true,and_true,true_and,and_self,Nat.le_refl]
theorem Zw1 (fr:Nat→Cp) (op:Int) (a b c:Nat) (m:Int) (zs:List UInt8) (f:Nat→Bool) (N g n:Nat) (hfr:Wc fr) (a0:a<16) (b0:b<16) (hm:J6 (inS op a b c m)=true) (k53:¬ op=53) (k50:¬ op=50) (k51:¬ op=51) (k52:¬ op=52) (k29:¬ op=29) (k30:¬ op=30) (hw:WK op=0) (hi:tkI op=true) (hk:tkS op (fr a).C (fr b).C=false):ConOk Tryz.prog 13 3 (ZbH (mvA fr (inS op a b c m)) (WE fr) 0 zs f N g n)∧FlatC (ZbH (mvA fr (inS op a b c m)) (WE fr) 0 zs f N g n):=by
 have ha:a<17:=by omega
 have ya:decide ((0:Int)≤(a:Int))=true:=decide_eq_true (by omega)
 have za:decide ((a:Int)<16)=true:=decide_eq_true (by omega)
 have hb:b<17:=by omega
 have yb:decide ((0:Int)≤(b:Int))=true:=decide_eq_true (by omega)
 have zb:decide ((b:Int)<16)=true:=decide_eq_true (by omega)
 have v1:∀ (f:Nat→Bool) (σ:Nat→Nat),(v64 (Za f n)).map (rnV σ 3)=v64 (Za f n):=fun f σ=>Zk (Zm _)
 have v2:∀ (f:Nat→Bool) (p:Nat→Bool),(v64 (Za f n)).all (okV p 3)=true:=fun f p=>Zj (Zm _)
 have u1:∀ (zs:List UInt8) (p:Nat→Bool),(u8s zs).all (okV p 3)=true:=fun zs p=>Zj (Zl _)
 have u2:∀ (zs:List UInt8) (σ:Nat→Nat),(u8s zs).map (rnV σ 3)=u8s zs:=fun zs σ=>Zk (Zl _)
 have hr:=ZCV.v (inS op a b c m) fr (WE fr) Zw zs f N g n (fr a) (fr b) (tkS op (fr a).C (fr b).C) true
 simp only[inS,Int.toNat_natCast,Yy,Yf,Xq,Xr,Xs,Yg,Xt,Yh,Xu,Qu,Q8 fr a ha,Q9 fr a ha,Ya fr a ha,Yb fr a ha,Q6 fr a ha,Yc fr a ha,Yd fr a ha,Ye fr a ha,Zq fr a ha,Qg fr a ha,Zr fr a ha,ZU fr a ha,QL _ a _ ha,Qh _ a _ ha,Zq _ a ha,Q8 fr b hb,Q9 fr b hb,Ya fr b hb,Yb fr b hb,Q6 fr b hb,Yc fr b hb,Yd fr b hb,Ye fr b hb,Zq fr b hb,Qg fr b hb,Zr fr b hb,ZU fr b hb,QL _ b _ hb,Qh _ b _ hb,Zq _ b hb] at hr
 refine VR (Zn (L:=100) Ze (Zo (Zi (JW (i:=(inS op a b c m)) hfr rfl hm.symm (ZaP (ZfV hw.symm) (Zlw (i:=inS op a b c m) rfl hi.symm)))) (Zc _)) (Zd _) 20) (Xp _ _) hr rfl ?_
 simp(disch:=decide) only[inS,Yf,Xq,Xr,Xs,Yg,Xt,Yh,Xu,Qu,Q8 fr a ha,Q9 fr a ha,Ya fr a ha,Yb fr a ha,Q6 fr a ha,Yc fr a ha,Yd fr a ha,Ye fr a ha,Zq fr a ha,Qg fr a ha,Zr fr a ha,ZU fr a ha,QL _ a _ ha,Qh _ a _ ha,Zq _ a ha,Q8 fr b hb,Q9 fr b hb,Ya fr b hb,Yb fr b hb,Q6 fr b hb,Yc fr b hb,Yd fr b hb,Ye fr b hb,Zq fr b hb,Qg fr b hb,Zr fr b hb,ZU fr b hb,QL _ b _ hb,Qh _ b _ hb,Zq _ b hb,ya,za,yb,zb,Xw k53,Xw k50,Xw k51,Xw k52,Xw k29,Xw k30,hk,Bool.not_true,Bool.not_false,Nat.add_zero,v1,v2,u1,u2,Zx,Zp,Int.toNat_natCast,Bool.and_self,Bool.and_true,Bool.true_and,cond_true,and_true,true_and,and_self,Nat.le_refl]
theorem Zw2 (fr:Nat→Cp) (op:Int) (a b c:Nat) (m:Int) (zs:List UInt8) (f:Nat→Bool) (N g n:Nat) (hfr:Wc fr) (a0:a<16) (b0:b<16) (c0:c<16) (hm:J6 (inS op a b c m)=true) (k53:¬ op=53) (k50:¬ op=50) (k51:¬ op=51) (k52:¬ op=52) (k29:¬ op=29) (k30:¬ op=30) (hw:WK op=0) (hi:tkI op=false) (hj:rkI op=true) (ht:rkT op (fr c).C=0):ConOk Tryz.prog 13 3 (ZbH (mvA fr (inS op a b c m)) (frS (WE fr) a (Zff (rkN op (fr b).C (fr c).C))) 0 zs f N g n)∧FlatC (ZbH (mvA fr (inS op a b c m)) (frS (WE fr) a (Zff (rkN op (fr b).C (fr c).C))) 0 zs f N g n):=by
 have ha:a<17:=by omega
 have ya:decide ((0:Int)≤(a:Int))=true:=decide_eq_true (by omega)
 have za:decide ((a:Int)<16)=true:=decide_eq_true (by omega)
 have hb:b<17:=by omega
 have yb:decide ((0:Int)≤(b:Int))=true:=decide_eq_true (by omega)
 have zb:decide ((b:Int)<16)=true:=decide_eq_true (by omega)
 have hc:c<17:=by omega
 have yc:decide ((0:Int)≤(c:Int))=true:=decide_eq_true (by omega)
 have zc:decide ((c:Int)<16)=true:=decide_eq_true (by omega)
 have v1:∀ (f:Nat→Bool) (σ:Nat→Nat),(v64 (Za f n)).map (rnV σ 3)=v64 (Za f n):=fun f σ=>Zk (Zm _)
 have v2:∀ (f:Nat→Bool) (p:Nat→Bool),(v64 (Za f n)).all (okV p 3)=true:=fun f p=>Zj (Zm _)
 have u1:∀ (zs:List UInt8) (p:Nat→Bool),(u8s zs).all (okV p 3)=true:=fun zs p=>Zj (Zl _)
 have u2:∀ (zs:List UInt8) (σ:Nat→Nat),(u8s zs).map (rnV σ 3)=u8s zs:=fun zs σ=>Zk (Zl _)
 have hk2:tkS op (fr a).C (fr b).C=false:=by
  unfold tkI at hi
  simp only[Bool.or_eq_false_iff,decide_eq_false_iff_not] at hi
  obtain⟨⟨⟨q1,q2⟩,q3⟩,q4⟩:=hi
  unfold tkS
  simp only[q1,q2,q3,q4,if_false]
 have e2:(((rkT op (fr c).C:Nat):Int) !=0)=false:=by rw[ht]; rfl
 have hr:=ZCW.v (inS op a b c m) fr (WE fr) Zw zs f N g n (fr a) (fr b) (fr c) (rkN op (fr b).C (fr c).C) (rkT op (fr c).C) true
 simp only[inS,Int.toNat_natCast,Yy,Yf,Xq,Xr,Xs,Yg,Xt,Yh,Xu,Qu,Q8 fr a ha,Q9 fr a ha,Ya fr a ha,Yb fr a ha,Q6 fr a ha,Yc fr a ha,Yd fr a ha,Ye fr a ha,Zq fr a ha,Qg fr a ha,Zr fr a ha,ZU fr a ha,QL _ a _ ha,Qh _ a _ ha,Zq _ a ha,Q8 fr b hb,Q9 fr b hb,Ya fr b hb,Yb fr b hb,Q6 fr b hb,Yc fr b hb,Yd fr b hb,Ye fr b hb,Zq fr b hb,Qg fr b hb,Zr fr b hb,ZU fr b hb,QL _ b _ hb,Qh _ b _ hb,Zq _ b hb,Q8 fr c hc,Q9 fr c hc,Ya fr c hc,Yb fr c hc,Q6 fr c hc,Yc fr c hc,Yd fr c hc,Ye fr c hc,Zq fr c hc,Qg fr c hc,Zr fr c hc,ZU fr c hc,QL _ c _ hc,Qh _ c _ hc,Zq _ c hc] at hr
 refine VR (Zn (L:=100) Ze (Zo (Zi (JW (i:=(inS op a b c m)) hfr rfl hm.symm (ZaP (ZaP (ZfV hw.symm) (Zlw (i:=inS op a b c m) (hk2.symm) hi.symm)) (Zsy (i:=inS op a b c m) (hfr b) (hfr c) rfl rfl hj.symm)))) (Zc _)) (Zd _) 20) (Xp _ _) hr rfl ?_
 simp(disch:=decide) only[inS,Yf,Xq,Xr,Xs,Yg,Xt,Yh,Xu,Qu,Q8 fr a ha,Q9 fr a ha,Ya fr a ha,Yb fr a ha,Q6 fr a ha,Yc fr a ha,Yd fr a ha,Ye fr a ha,Zq fr a ha,Qg fr a ha,Zr fr a ha,ZU fr a ha,QL _ a _ ha,Qh _ a _ ha,Zq _ a ha,Q8 fr b hb,Q9 fr b hb,Ya fr b hb,Yb fr b hb,Q6 fr b hb,Yc fr b hb,Yd fr b hb,Ye fr b hb,Zq fr b hb,Qg fr b hb,Zr fr b hb,ZU fr b hb,QL _ b _ hb,Qh _ b _ hb,Zq _ b hb,Q8 fr c hc,Q9 fr c hc,Ya fr c hc,Yb fr c hc,Q6 fr c hc,Yc fr c hc,Yd fr c hc,Ye fr c hc,Zq fr c hc,Qg fr c hc,Zr fr c hc,ZU fr c hc,QL _ c _ hc,Qh _ c _ hc,Zq _ c hc,ya,za,yb,zb,yc,zc,Xw k53,Xw k50,Xw k51,Xw k52,Xw k29,Xw k30,e2,Bool.not_true,Bool.not_false,Nat.add_zero,v1,v2,u1,u2,Zx,Zp,Int.toNat_natCast,Bool.and_self,Bool.and_true,Bool.true_and,cond_true,and_true,true_and,and_self,Nat.le_refl]
theorem Zw3 (fr:Nat→Cp) (op:Int) (a b c:Nat) (m:Int) (zs:List UInt8) (f:Nat→Bool) (N g n:Nat) (hfr:Wc fr) (a0:a<16) (b0:b<16) (c0:c<16) (hm:J6 (inS op a b c m)=true) (k53:¬ op=53) (k50:¬ op=50) (k51:¬ op=51) (k52:¬ op=52) (k29:¬ op=29) (k30:¬ op=30) (hw:WK op=0) (hi:tkI op=false) (hj:rkI op=true) (ht:rkT op (fr c).C≠0):ConOk Tryz.prog 13 3 (ZbH (mvA fr (inS op a b c m)) (frN) (rkT op (fr c).C) zs f N g n)∧FlatC (ZbH (mvA fr (inS op a b c m)) (frN) (rkT op (fr c).C) zs f N g n):=by
 have ha:a<17:=by omega
 have ya:decide ((0:Int)≤(a:Int))=true:=decide_eq_true (by omega)
 have za:decide ((a:Int)<16)=true:=decide_eq_true (by omega)
 have hb:b<17:=by omega
 have yb:decide ((0:Int)≤(b:Int))=true:=decide_eq_true (by omega)
 have zb:decide ((b:Int)<16)=true:=decide_eq_true (by omega)
 have hc:c<17:=by omega
 have yc:decide ((0:Int)≤(c:Int))=true:=decide_eq_true (by omega)
 have zc:decide ((c:Int)<16)=true:=decide_eq_true (by omega)
 have v1:∀ (f:Nat→Bool) (σ:Nat→Nat),(v64 (Za f n)).map (rnV σ 3)=v64 (Za f n):=fun f σ=>Zk (Zm _)
 have v2:∀ (f:Nat→Bool) (p:Nat→Bool),(v64 (Za f n)).all (okV p 3)=true:=fun f p=>Zj (Zm _)
 have u1:∀ (zs:List UInt8) (p:Nat→Bool),(u8s zs).all (okV p 3)=true:=fun zs p=>Zj (Zl _)
 have u2:∀ (zs:List UInt8) (σ:Nat→Nat),(u8s zs).map (rnV σ 3)=u8s zs:=fun zs σ=>Zk (Zl _)
 have hk2:tkS op (fr a).C (fr b).C=false:=by
  unfold tkI at hi
  simp only[Bool.or_eq_false_iff,decide_eq_false_iff_not] at hi
  obtain⟨⟨⟨q1,q2⟩,q3⟩,q4⟩:=hi
  unfold tkS
  simp only[q1,q2,q3,q4,if_false]
 have e2:(((rkT op (fr c).C:Nat):Int) !=0)=true:=bne_iff_ne.2 (by omega)
 have hr:=ZCX.v (inS op a b c m) fr (WE fr) Zw zs f N g n (fr a) (fr b) (fr c) (rkN op (fr b).C (fr c).C) (rkT op (fr c).C) true
 simp only[inS,Int.toNat_natCast,Yy,Yf,Xq,Xr,Xs,Yg,Xt,Yh,Xu,Qu,Q8 fr a ha,Q9 fr a ha,Ya fr a ha,Yb fr a ha,Q6 fr a ha,Yc fr a ha,Yd fr a ha,Ye fr a ha,Zq fr a ha,Qg fr a ha,Zr fr a ha,ZU fr a ha,QL _ a _ ha,Qh _ a _ ha,Zq _ a ha,Q8 fr b hb,Q9 fr b hb,Ya fr b hb,Yb fr b hb,Q6 fr b hb,Yc fr b hb,Yd fr b hb,Ye fr b hb,Zq fr b hb,Qg fr b hb,Zr fr b hb,ZU fr b hb,QL _ b _ hb,Qh _ b _ hb,Zq _ b hb,Q8 fr c hc,Q9 fr c hc,Ya fr c hc,Yb fr c hc,Q6 fr c hc,Yc fr c hc,Yd fr c hc,Ye fr c hc,Zq fr c hc,Qg fr c hc,Zr fr c hc,ZU fr c hc,QL _ c _ hc,Qh _ c _ hc,Zq _ c hc] at hr
 refine VR (Zn (L:=100) Ze (Zo (Zi (JW (i:=(inS op a b c m)) hfr rfl hm.symm (ZaP (ZaP (ZfV hw.symm) (Zlw (i:=inS op a b c m) (hk2.symm) hi.symm)) (Zsy (i:=inS op a b c m) (hfr b) (hfr c) rfl rfl hj.symm)))) (Zc _)) (Zd _) 20) (Xp _ _) hr rfl ?_
 simp(disch:=decide) only[inS,Yf,Xq,Xr,Xs,Yg,Xt,Yh,Xu,Qu,Q8 fr a ha,Q9 fr a ha,Ya fr a ha,Yb fr a ha,Q6 fr a ha,Yc fr a ha,Yd fr a ha,Ye fr a ha,Zq fr a ha,Qg fr a ha,Zr fr a ha,ZU fr a ha,QL _ a _ ha,Qh _ a _ ha,Zq _ a ha,Q8 fr b hb,Q9 fr b hb,Ya fr b hb,Yb fr b hb,Q6 fr b hb,Yc fr b hb,Yd fr b hb,Ye fr b hb,Zq fr b hb,Qg fr b hb,Zr fr b hb,ZU fr b hb,QL _ b _ hb,Qh _ b _ hb,Zq _ b hb,Q8 fr c hc,Q9 fr c hc,Ya fr c hc,Yb fr c hc,Q6 fr c hc,Yc fr c hc,Yd fr c hc,Ye fr c hc,Zq fr c hc,Qg fr c hc,Zr fr c hc,ZU fr c hc,QL _ c _ hc,Qh _ c _ hc,Zq _ c hc,ya,za,yb,zb,yc,zc,Xw k53,Xw k50,Xw k51,Xw k52,Xw k29,Xw k30,e2,Bool.not_true,Bool.not_false,Nat.add_zero,v1,v2,u1,u2,Zx,Zp,Int.toNat_natCast,Bool.and_self,Bool.and_true,Bool.true_and,cond_true,and_true,true_and,and_self,Nat.le_refl]
theorem Zw4 (fr:Nat→Cp) (op:Int) (a b c:Nat) (m:Int) (zs:List UInt8) (f:Nat→Bool) (N g n:Nat) (hfr:Wc fr) (a0:a<16) (b0:b<16) (c0:c<16) (hm:J6 (inS op a b c m)=true) (k53:¬ op=53) (k50:¬ op=50) (k51:¬ op=51) (k52:¬ op=52) (k29:¬ op=29) (k30:¬ op=30) (hw:WK op=0) (hi:tkI op=false) (hj:rkI op=false):ConOk Tryz.prog 13 3 (ZbH (mvA fr (inS op a b c m)) (frS (WE fr) a (ZdV fr op b c m)) 0 zs f N g n)∧FlatC (ZbH (mvA fr (inS op a b c m)) (frS (WE fr) a (ZdV fr op b c m)) 0 zs f N g n):=by
 have ha:a<17:=by omega
 have ya:decide ((0:Int)≤(a:Int))=true:=decide_eq_true (by omega)
 have za:decide ((a:Int)<16)=true:=decide_eq_true (by omega)
 have hb:b<17:=by omega
 have yb:decide ((0:Int)≤(b:Int))=true:=decide_eq_true (by omega)
 have zb:decide ((b:Int)<16)=true:=decide_eq_true (by omega)
 have hc:c<17:=by omega
 have yc:decide ((0:Int)≤(c:Int))=true:=decide_eq_true (by omega)
 have zc:decide ((c:Int)<16)=true:=decide_eq_true (by omega)
 have v1:∀ (f:Nat→Bool) (σ:Nat→Nat),(v64 (Za f n)).map (rnV σ 3)=v64 (Za f n):=fun f σ=>Zk (Zm _)
 have v2:∀ (f:Nat→Bool) (p:Nat→Bool),(v64 (Za f n)).all (okV p 3)=true:=fun f p=>Zj (Zm _)
 have u1:∀ (zs:List UInt8) (p:Nat→Bool),(u8s zs).all (okV p 3)=true:=fun zs p=>Zj (Zl _)
 have u2:∀ (zs:List UInt8) (σ:Nat→Nat),(u8s zs).map (rnV σ 3)=u8s zs:=fun zs σ=>Zk (Zl _)
 have hk2:tkS op (fr a).C (fr b).C=false:=by
  unfold tkI at hi
  simp only[Bool.or_eq_false_iff,decide_eq_false_iff_not] at hi
  obtain⟨⟨⟨q1,q2⟩,q3⟩,q4⟩:=hi
  unfold tkS
  simp only[q1,q2,q3,q4,if_false]
 have hr:=ZFD.v (inS op a b c m) fr (WE fr) Zw zs f N g n (fr a) (fr b) (fr c) (rkN op (fr b).C (fr c).C) (rkT op (fr c).C) false (ZdV fr op b c m)
 simp only[inS,Int.toNat_natCast,Yy,Yf,Xq,Xr,Xs,Yg,Xt,Yh,Xu,Qu,Q8 fr a ha,Q9 fr a ha,Ya fr a ha,Yb fr a ha,Q6 fr a ha,Yc fr a ha,Yd fr a ha,Ye fr a ha,Zq fr a ha,Qg fr a ha,Zr fr a ha,ZU fr a ha,QL _ a _ ha,Qh _ a _ ha,Zq _ a ha,Q8 fr b hb,Q9 fr b hb,Ya fr b hb,Yb fr b hb,Q6 fr b hb,Yc fr b hb,Yd fr b hb,Ye fr b hb,Zq fr b hb,Qg fr b hb,Zr fr b hb,ZU fr b hb,QL _ b _ hb,Qh _ b _ hb,Zq _ b hb,Q8 fr c hc,Q9 fr c hc,Ya fr c hc,Yb fr c hc,Q6 fr c hc,Yc fr c hc,Yd fr c hc,Ye fr c hc,Zq fr c hc,Qg fr c hc,Zr fr c hc,ZU fr c hc,QL _ c _ hc,Qh _ c _ hc,Zq _ c hc] at hr
 refine VR (Zn (L:=100) Ze (Zo (Zi (JW (i:=(inS op a b c m)) hfr rfl hm.symm (ZaP (ZaP (ZaP (ZfV hw.symm) (Zlw (i:=inS op a b c m) (hk2.symm) hi.symm)) (Zsy (i:=inS op a b c m) (hfr b) (hfr c) rfl rfl hj.symm)) (Zlx ⟨Zy2 fr op a b c m hfr b0 c0,Zgg⟩)))) (Zc _)) (Zd _) 20) (Xp _ _) hr rfl ?_
 simp(disch:=decide) only[inS,Yf,Xq,Xr,Xs,Yg,Xt,Yh,Xu,Qu,Q8 fr a ha,Q9 fr a ha,Ya fr a ha,Yb fr a ha,Q6 fr a ha,Yc fr a ha,Yd fr a ha,Ye fr a ha,Zq fr a ha,Qg fr a ha,Zr fr a ha,ZU fr a ha,QL _ a _ ha,Qh _ a _ ha,Zq _ a ha,Q8 fr b hb,Q9 fr b hb,Ya fr b hb,Yb fr b hb,Q6 fr b hb,Yc fr b hb,Yd fr b hb,Ye fr b hb,Zq fr b hb,Qg fr b hb,Zr fr b hb,ZU fr b hb,QL _ b _ hb,Qh _ b _ hb,Zq _ b hb,Q8 fr c hc,Q9 fr c hc,Ya fr c hc,Yb fr c hc,Q6 fr c hc,Yc fr c hc,Yd fr c hc,Ye fr c hc,Zq fr c hc,Qg fr c hc,Zr fr c hc,ZU fr c hc,QL _ c _ hc,Qh _ c _ hc,Zq _ c hc,ya,za,yb,zb,yc,zc,Xw k53,Xw k50,Xw k51,Xw k52,Xw k29,Xw k30,Bool.not_true,Bool.not_false,Nat.add_zero,v1,v2,u1,u2,Zx,Zp,Int.toNat_natCast,Bool.and_self,Bool.and_true,Bool.true_and,cond_true,and_true,true_and,and_self,Nat.le_refl]
theorem Zw5 (fr:Nat→Cp) (op:Int) (a b c:Nat) (m:Int) (zs:List UInt8) (f:Nat→Bool) (N g n:Nat) (hfr:Wc fr) (a0:a<16) (hm:J6 (inS op a b c m)=true) (k53:¬ op=53) (k50:¬ op=50) (k51:¬ op=51) (k52:¬ op=52) (k29:¬ op=29) (k30:¬ op=30) (hw:0<WK op) (r:Cp) (zs2:List UInt8) (f2:Nat→Bool) (hmv:ConOk Tryz.prog 37 3 (ZjW (mvA fr (inS op a b c m)) (.tuple ⟨[r.val,.int .i64 0]⟩) zs zs2 f f2 N g n)∧FlatC (ZjW (mvA fr (inS op a b c m)) (.tuple ⟨[r.val,.int .i64 0]⟩) zs zs2 f f2 N g n)):ConOk Tryz.prog 13 3 (ZwW (mvA fr (inS op a b c m)) (frS (WE fr) a r) zs zs2 f f2 N g n)∧FlatC (ZwW (mvA fr (inS op a b c m)) (frS (WE fr) a r) zs zs2 f f2 N g n):=by
 have ha:a<17:=by omega
 have ya:decide ((0:Int)≤(a:Int))=true:=decide_eq_true (by omega)
 have za:decide ((a:Int)<16)=true:=decide_eq_true (by omega)
 have v1:∀ (f:Nat→Bool) (σ:Nat→Nat),(v64 (Za f n)).map (rnV σ 3)=v64 (Za f n):=fun f σ=>Zk (Zm _)
 have v2:∀ (f:Nat→Bool) (p:Nat→Bool),(v64 (Za f n)).all (okV p 3)=true:=fun f p=>Zj (Zm _)
 have u1:∀ (zs:List UInt8) (p:Nat→Bool),(u8s zs).all (okV p 3)=true:=fun zs p=>Zj (Zl _)
 have u2:∀ (zs:List UInt8) (σ:Nat→Nat),(u8s zs).map (rnV σ 3)=u8s zs:=fun zs σ=>Zk (Zl _)
 have w1:decide (((WK op:Nat):Int)>0)=true:=decide_eq_true (by omega)
 have hr:=ZFC.v (inS op a b c m) fr (WE fr) Zw zs f N g n (WK op) r zs2 f2
 simp only[inS,Int.toNat_natCast,Yf,Xq,Xr,Xs,Yg,Xt,Yh,Xu,Qu,Q8 fr a ha,Q9 fr a ha,Ya fr a ha,Yb fr a ha,Q6 fr a ha,Yc fr a ha,Yd fr a ha,Ye fr a ha,Zq fr a ha,Qg fr a ha,Zr fr a ha,ZU fr a ha,QL _ a _ ha,Qh _ a _ ha,Zq _ a ha] at hr
 refine Zy8 (Zn (L:=100) Ze (Zo (Zi (JW (i:=(inS op a b c m)) hfr rfl hm.symm (ZaP (ZfV rfl) (Zlx hmv)))) (Zc _)) (Zd _) 20) (Xp _ _) hr rfl ?_ (VK _ _ N g n _ _ rfl rfl rfl rfl rfl rfl) ⟨⟨rfl,Nat.le_refl _⟩,⟨rfl,Nat.le_refl _⟩,trivial⟩
 simp only[inS,Yf,Xq,Xr,Xs,Yg,Xt,Yh,Xu,Qu,Q8 fr a ha,Q9 fr a ha,Ya fr a ha,Yb fr a ha,Q6 fr a ha,Yc fr a ha,Yd fr a ha,Ye fr a ha,Zq fr a ha,Qg fr a ha,Zr fr a ha,ZU fr a ha,QL _ a _ ha,Qh _ a _ ha,Zq _ a ha,ya,za,Xw k53,Xw k50,Xw k51,Xw k52,Xw k29,Xw k30,w1,Nat.add_zero,v1,v2,u1,u2,Zx,Zp,Int.toNat_natCast,Bool.and_self,Bool.and_true,Bool.true_and,cond_true,and_true,true_and,and_self,Nat.le_refl]
namespace Sy
open Go.IntKind (u8 u16 u32 u64 i64)
def inN (t:Nat):List Nat→Bool
 | []=>false
 | x::l=>Nat.beq x t||inN t l
def KN (nt:Nat) (ts ls:List Nat) (x:Exit×Fr):Exit×Fr:=(x.1,⟨mkE nt (ts.map fun t=>(t,VW x.2.e t)),⟨x.2.s.n,x.2.s.h.filter fun y=>inN y.1 ls,x.2.s.lo,0,[],0,x.2.s.O⟩⟩)
theorem ZsC {t:Nat}:∀ {l:List Nat},inN t l=true→t∈l
 | x::l,h=>by
  unfold inN at h
  rcases Bool.or_eq_true_iff.1 h with h|h
  ·exact List.mem_cons.2 (.inl (eB h).symm)
  ·exact List.mem_cons.2 (.inr (ZsC h))
theorem Zy9 (nt:Nat) (e:Env) {t:Nat}:∀ {ts:List Nat},t∈ts→VW (mkE nt (ts.map fun t=>(t,VW e t))) t=VW e t:=by
 intro ts ht
 unfold mkE
 rw[ZgS]
 cases hf:(ts.map fun t=>(t,VW e t)).find? (fun x=>x.1==t) with
 | none =>
  have:=List.find?_eq_none.1 hf (t,VW e t) (List.mem_map.2 ⟨t,ht,rfl⟩)
  simp at this
 | some x =>
  have h1:=List.mem_of_find?_eq_some hf
  have h2:=List.find?_some hf
  obtain⟨u,_,rfl⟩:=List.mem_map.1 h1
  have h2:u=t:=by simpa using h2
  subst h2
  rfl
theorem ZsD {h:Heap} {ls:List Nat} {g:Nat} {k:Blk} (hk:look (h.filter fun y=>inN y.1 ls) g=some k):look h g=some k:=by
 rw[QX (fun l=>inN l ls)] at hk
 split at hk
 ·exact hk
 ·cases hk
theorem WS.more {d:Nat} {p:Nat→Bool} {σ:Nat→Nat} {h1 h2:Heap} (hh:∀ g k,look h1 g=some k→look h2 g=some k):∀ {l:Heap},WS d p σ h1 l→WS d p σ h2 l
 | [],_=>trivial
 | x::l,⟨⟨a,b,c,e⟩,r⟩=>by
  refine⟨⟨a,b,c,?_⟩,WS.more hh r⟩
  cases hk:look h1 (σ x.1) with
  | none=>rw[hk] at e; exact e.elim
  | some k=>rw[hk] at e; rw[hh _ _ hk]; exact e
theorem ZgT.more {d:Nat} {p:Nat→Bool} {σ:Nat→Nat} {e1 e2:Env} {ts:List Nat} (hh:∀ t,t∈ts→VW e1 t=VW e2 t):∀ {l:List (Nat×Value)},(l.all fun x=>inN x.1 ts)=true→ZgT d p σ e1 l→ZgT d p σ e2 l
 | [],_,_=>trivial
 | x::l,hl,⟨⟨a,b⟩,r⟩=>by
  rw[List.all_cons,Bool.and_eq_true] at hl
  exact⟨⟨a,by rw[← hh _ (ZsC hl.1)]; exact b⟩,ZgT.more hh hl.2 r⟩
theorem Sf.Leads.uncut {nt:Nat} {ts ls:List Nat} {d:Nat} {p:Nat→Bool} {σ:Nat→Nat} {f:Sf} {x:Exit×Fr} {m e:Sf} (hm:(m.e.all fun x=>inN x.1 ts)=true) (h:Sf.Leads d p σ f (KN nt ts ls x).2 m e):Sf.Leads d p σ f x.2 m e :=
 ⟨h.σ0,h.h.more fun g k hk=>ZsD hk,h.inj,h.lo,h.l.more (ts:=ts) (fun t ht=>Zy9 nt x.2.e ht) hm,h.n,h.pn,h.keep,h.ro⟩
theorem VL {P:Program} {lp:Zdw} {nt L:Nat} {c:Code} {S:List Code} (hlp:YU P S lp) (hS:∀ c'∈Y0 c,c'∈S) {X:Type} (I F:X→Sf) (ex:X→Exit) (μ:X→Nat) (hI:∀ x,(I x).Wf)
  (hround:∀ x,∃ (call:Qs) (T:List (Nat×Bool)) (ts ls:List Nat) (e:Exit) (g:Fr) (d:Nat) (p:Nat→Bool) (σ:Nat→Nat),Zv P call∧(evC P call lp nt L c ((I x).frT nt T)).map (KN nt ts ls)=some (e,g)∧g.s.O ∧
   ((e = .normal∧∃ y,μ y<μ x∧F y=F x∧ex y=ex x∧((I y).e.all fun z=>inN z.1 ts)=true∧Sf.Leads d p σ (I x) g (I y) (F x))∨(e ≠ .normal∧e=ex x∧((F x).e.all fun z=>inN z.1 ts)=true∧Sf.Leads d p σ (I x) g (F x) (F x)))) :
  ∀ x,XO P nt c ((I x).fr nt) (ex x) ((F x).fr nt):=by
 refine Zgo (L:=L) hlp hS I F ex μ hI fun x => ?_
 obtain⟨call,T,ts,ls,e,g,d,p,σ,hcall,hev,hO,hc⟩:=hround x
 obtain⟨y,h1,h2⟩:=oM hev
 have e1:e=(KN nt ts ls y).1:=by rw[h2]
 have e2:g=(KN nt ts ls y).2:=by rw[h2]
 subst e1
 subst e2
 refine⟨call,T,y.1,y.2,d,p,σ,hcall,h1,hO,?_⟩
 rcases hc with⟨a,z,b1,b2,b3,b4,b5⟩|⟨a,b1,b4,b5⟩
 ·exact .inl ⟨a,z,b1,b2,b3,b5.uncut b4⟩
 ·exact .inr ⟨a,b1,b5.uncut b4⟩
end Sy
end Go.Proofs.YtagacmljbgkmoaaGreatDoor
namespace Go.Proofs.YtagacmljbgkmoaaGreatDoor
open Go.IntKind (u8 u16 u32 u64 i64)
open Go.RowKit
open Sy
def sl1 (k:Nat) (g n:Nat):Value:=match k with|0 => .slice none 0 0|1 => .slice (some ⟨g,0,some g⟩) 0 (big+g)|_ => .slice (some ⟨g,0,none⟩) n (big+g)
def Uv (k:Nat) (g:Nat) (cells:List Value):Sy.Heap:=match k with|0=>[]|1=>[]|_=>[(g,⟨false,some (0,0),cells,none⟩)]
def ZfA (k n:Nat):Prop:=k≤2∧(k<2→n=0)
set_option maxRecDepth 100000
def caL (l:List Cp):List Value:=l.flatMap Cp.cs
def fmH (K:Nat) (c:Cp) (fr:Nat→Cp) (l:List Cp):Sy.Heap:=[(66,⟨true,none,frL fr,none⟩),(65,⟨true,none,c.cs,none⟩)]++Uv K 64 (caL l)
def fmI (K:Nat) (c:Cp) (fr:Nat→Cp) (l:List Cp) (b:Bool) (i:Nat):Sf:=⟨67,[(2,sl1 K 64 l.length),(3,.pointer (some ⟨65,0,none⟩)),(4,.pointer (some ⟨66,0,none⟩)),(7,.bool b),(8,.int .i64 (i:Nat))],fmH K c fr l,[]⟩
def fmF (K:Nat) (c:Cp) (fr:Nat→Cp) (l:List Cp) (b:Bool):Sf:=⟨67,[(2,sl1 K 64 l.length),(3,.pointer (some ⟨65,0,none⟩)),(4,.pointer (some ⟨66,0,none⟩)),(7,.bool b)],fmH K c fr l,[]⟩
def fnI (c:Cp) (l:List Cp) (b:Bool) (i:Nat):Sf:=⟨67,[(2,sl1 2 64 l.length),(3,.pointer (some ⟨65,0,none⟩)),(7,.bool b),(9,.int .i64 (i:Nat))],(65,⟨true,none,c.cs,none⟩)::Uv 2 64 (caL l),[]⟩
def fnF (b:Bool):Sf:=⟨67,[(7,.bool b)],[],[]⟩
def snI (fr:Nat→Cp) (i:Nat):Sf:=⟨66,[(1,.pointer (some ⟨64,0,none⟩)),(2,.pointer (some ⟨65,0,none⟩)),(3,.int .i64 (i:Nat))],[(65,⟨true,none,frZ,none⟩),(64,⟨true,none,frL fr,none⟩)],[]⟩
def snF (fr:Nat→Cp):Sf:=⟨66,[(1,.pointer (some ⟨64,0,none⟩)),(2,.pointer (some ⟨65,0,none⟩))],[(65,⟨true,none,frZ,none⟩),(64,⟨true,none,frL fr,none⟩)],[]⟩
def WF:=Zg3 65
def X7 (a:Nat):=Zk1 (ZP a)
def ZsE (a:Nat) (b:List (Nat×Value)) (c:Nat) (d:Sy.Heap) (e:List (Nat×Nat)) (f:List (Nat×Bool)) (g:Nat) (h:Prop):={ e:=mkE a b,s:=ZBx c d e f g h:Fr }
def ZsF (a:Fr):=some (Exit.normal,a)
def XW (a:Nat→Cp):=Yn (frL a)
def Zoh (a:Nat):=JM (Zk0 (ZP a) 1)
def Yz (a b:Nat):=(a,Zoh b)
def Y8 (a:Nat) (b:List (Nat×Value)) (c:Nat) (d:Sy.Heap) (e:List (Nat×Nat)) (f:Nat) (g:Prop):=ZsF (ZsE a b c d e [] f g)
def Qa:=Bx.mk (And.intro @WF.eq_1 (And.intro @X7.eq_1 (And.intro @ZsE.eq_1 (And.intro @ZsF.eq_1 (And.intro @XW.eq_1 (And.intro @Zoh.eq_1 (And.intro @Yz.eq_1 @Y8.eq_1)))))))
theorem Zza (c:Cp) (fr:Nat→Cp) (l:List Cp) (i:Nat):Option.map (KN 55 [2,3,4,7,8] [65,66]) (evC Tryz.prog (evF Tryz.prog Zg Zf 100 20) (Zf 17) 55 100 (ZK Tryz.prog 17 0) (Sf.frT 55 (fmI 0 c fr l true i) (tb 9 511)))=Y8 55 [(2,WB),(3,WF),(4,Vm),(7,Vn),Yz 8 i] 67 [(66,XW fr),(65,Yn (Xo c.C c.E c.B c.T c.P c.Y c.R c.V))] [] 0 (Um (V3 (Ziz (X7 i=true) Zh))):=by kernel_rfl
def ZFE:=Bx.mk (by have h := @Zza; simp(maxSteps:=99999999) only[ZL.v, ZN.v, Z3.v, QH.v, ZR.v, Qc.v, Z8.v, Qa.v, -eq_self] at h; exact h)
def Vi (a:Nat):=0+ZnW a 8
def ZfW (a b:Nat):=Vi a+b
def ZbI (a:Nat→Cp) (b:Nat):=Zye a (ZfW b 7)
def JX (a b:Nat):=Jr a (X7 b)
def KW (a:Nat):=ZfW a 7
def Jx:=[KQ]
def ZaQ (a:Nat) (b:Nat→Cp) (c:List Value) (d:Nat→Cp) (e:Nat):=Zsw a b c d (KW e)
def Zoi (a:Prop) (b:Bool):=YI (ZiE a b b b b b b)
def VG:=Bx.mk (And.intro @Vi.eq_1 (And.intro @ZfW.eq_1 (And.intro @ZbI.eq_1 (And.intro @JX.eq_1 (And.intro @KW.eq_1 (And.intro @Jx.eq_1 (And.intro @ZaQ.eq_1 @Zoi.eq_1)))))))
theorem Zzb (c:Cp) (fr:Nat→Cp) (l:List Cp) (i:Nat):Option.map (KN 55 [2,3,4,7,8] [65,66]) (evC Tryz.prog (evF Tryz.prog Zg Zf 100 20) (Zf 17) 55 100 (ZK Tryz.prog 17 0) (Sf.frT 55 (fmI 0 c fr l false i) (tb 16 1)))=Y8 55 [(2,WB),(3,WF),(4,Vm),(7,KQ),Yz 8 i] 67 [(66,XW fr),(65,Yn (Xo c.C c.E c.B c.T c.P c.Y c.R c.V))] [] 0 (YI (QK (Zoi (YI (Vb (ZaQ (KW i+1) fr Jx fr i) (Vo (Vb (JX i i) (KT (KL (X7 i=true))))))) (ZbI fr i)) (ZbI fr i))):=by kernel_rfl
def ZFF:=Bx.mk (by have h := @Zzb; simp(maxSteps:=99999999) only[ZL.v, ZN.v, Qb.v, QH.v, ZR.v, Qc.v, QY.v, Z8.v, Zz.v, Wr.v, Qa.v, VG.v, -eq_self] at h; exact h)
def KX (a:Nat):=ZfW a 1
def KY (a:Nat):=KX a+1
def ZbJ (a:Nat):=KY a+1
def Jy (a:Nat):=ZbJ a+1
def ZhK (a:Nat):=Jy a+1
def Uw (a:Nat):=ZhK a+1
def KZ (a:Nat) (b:Bool):=(a,Value.bool b)
def ZfX (a:Nat→Cp) (b:Nat):=ZrT a (Uw b) 1
def U8 (a b:Nat) (c d:Prop):=Ve (JX a b) c d
def JY (a:Nat→Cp) (b:Nat):=ZbI a b=true
def Jz (a:Prop) (b:Nat→Cp) (c:Nat):=a∧JY b c
def ZbK (a:Prop) (b:Nat→Cp) (c:Nat) (d:Nat→Cp) (e:Nat):=Jz (Jz a b c) d e
def U9 (a b:Nat) (c d:Nat→Cp) (e:Nat):=Zn8 (ZfW a b) c d (Vi e)
def ZbL (a:Bool) (b:Prop) (c:Nat→Cp) (d:Nat):=Ve a b (JY c d)
def ZaR:=Bx.mk (And.intro @KX.eq_1 (And.intro @KY.eq_1 (And.intro @ZbJ.eq_1 (And.intro @Jy.eq_1 (And.intro @ZhK.eq_1 (And.intro @Uw.eq_1 (And.intro @KZ.eq_1 (And.intro @ZfX.eq_1 (And.intro @U8.eq_1 (And.intro @JY.eq_1 (And.intro @Jz.eq_1 (And.intro @ZbK.eq_1 (And.intro @U9.eq_1 @ZbL.eq_1)))))))))))))
theorem Zzc (c:Cp) (fr:Nat→Cp) (l:List Cp) (i:Nat) (x:Cp) (b:Bool):Option.map (KN 55 [2,3,4,7,8] [65,66]) (evC Tryz.prog (evF Tryz.prog (Zs 3 (Zb [(67,49,JP c.val x.val (Value.bool b),[])]) Zg) Zf 100 20) (Zf 17) 55 100 (ZK Tryz.prog 17 0) (Sf.frT 55 (fmI 0 c fr l false i) (tb 16 24449)))=Y8 55 [(2,WB),(3,WF),(4,Vm),KZ 7 b,Yz 8 i] 67 [(66,XW fr),(65,Yn (Xo c.C c.E c.B c.T c.P c.Y c.R c.V))] [] 0 (ZeJ (YI (XS (ZbL (U9 i 8 fr fr i) (U8 i i (Jz (ZbK (Jz (YI (Vb (ZaQ (KW i+1) fr Jx fr i) (Vo (Vb (JX i i) (KT (KL (X7 i=true))))))) fr i) fr i fr i) fr i) (JY fr i)) fr i) (WZ c.C c.E c.B c.T c.P c.Y c.R c.V) (Zhz fr (Vi i) (KX i) (Zcs fr (KY i)) (Zcs fr (ZbJ i)) (Zcs fr (Jy i)) (Zht fr (Jy i)) (Zlf fr (Uw i)) (ZfX fr i)=ZI x.C x.E x.B x.T x.P x.Y x.R x.V))) (JY fr i)):=by kernel_rfl
def ZFG:=Bx.mk (by have h := @Zzc; simp(maxSteps:=99999999) only[ZL.v, ZN.v, Z3.v, Qb.v, QH.v, ZR.v, Qc.v, ZD.v, Y9.v, QN.v, Z8.v, Zz.v, Wr.v, Qa.v, VG.v, ZaR.v, -eq_self] at h; exact h)
def K0 (a b:Nat) (c:List (Nat×Value)) (d:Nat) (e:Sy.Heap) (f:List (Nat×Nat)) (g:List (Nat×Bool)) (h:Nat) (i:Prop):=some (Exit.exit a,ZsE b c d e f g h i)
def ZfY (a:Nat):=X3 (X7 a)
def Zcy:=Bx.mk (And.intro @K0.eq_1 @ZfY.eq_1)
theorem Zzd (c:Cp) (fr:Nat→Cp) (l:List Cp) (i:Nat) (b:Bool):Option.map (KN 55 [2,3,4,7] [65,66]) (evC Tryz.prog (evF Tryz.prog Zg Zf 100 20) (Zf 17) 55 100 (ZK Tryz.prog 17 0) (Sf.frT 55 (fmI 0 c fr l b i) Uu))=K0 0 55 [(2,WB),(3,WF),(4,Vm),KZ 7 b] 67 [(66,XW fr),(65,Yn (Xo c.C c.E c.B c.T c.P c.Y c.R c.V))] [] [] 0 (ZfY i):=by kernel_rfl
def ZFH:=Bx.mk (by have h := @Zzd; simp(maxSteps:=99999999) only[ZL.v, ZN.v, QH.v, ZR.v, Qc.v, Qz.v, Z8.v, ZeW.v, Qa.v, ZaR.v, Zcy.v, -eq_self] at h; exact h)
def ZaS (a b:Nat) (c:List Value):=ZxV false (a,b) c
def Zaa (a b:Nat) (c:List Cp):=ZaS a b (caL c)
def VH:=Bx.mk (And.intro @ZaS.eq_1 @Zaa.eq_1)
theorem Zze (c:Cp) (fr:Nat→Cp) (l:List Cp) (i:Nat):Option.map (KN 55 [2,3,4,7,8] [64,65,66]) (evC Tryz.prog (evF Tryz.prog Zg Zf 100 20) (Zf 17) 55 100 (ZK Tryz.prog 17 0) (Sf.frT 55 (fmI 2 c fr l true i) (tb 9 511)))=Y8 55 [(2,ZaB l.length),(3,WF),(4,Vm),(7,Vn),Yz 8 i] 67 [(66,XW fr),(65,Yn (Xo c.C c.E c.B c.T c.P c.Y c.R c.V)),(64,Zaa 0 0 l)] [] 0 (V3 (Um (Ziz (X7 i=true) Zh))):=by kernel_rfl
def ZFI:=Bx.mk (by have h := @Zze; simp(maxSteps:=99999999) only[ZL.v, ZN.v, Z3.v, QH.v, ZR.v, Z8.v, Qa.v, VH.v, -eq_self] at h; exact h)
theorem Zzf (c:Cp) (fr:Nat→Cp) (l:List Cp) (i:Nat):Option.map (KN 55 [2,3,4,7,8] [64,65,66]) (evC Tryz.prog (evF Tryz.prog Zg Zf 100 20) (Zf 17) 55 100 (ZK Tryz.prog 17 0) (Sf.frT 55 (fmI 2 c fr l false i) (tb 16 1)))=Y8 55 [(2,ZaB l.length),(3,WF),(4,Vm),(7,KQ),Yz 8 i] 67 [(66,XW fr),(65,Yn (Xo c.C c.E c.B c.T c.P c.Y c.R c.V)),(64,Zaa 0 0 l)] [] 0 (YI (QK (Zoi (YI (Vb (ZaQ (KW i+1) fr Jx fr i) (Vo (Vb (JX i i) (KT (KL (X7 i=true))))))) (ZbI fr i)) (ZbI fr i))):=by kernel_rfl
def ZFJ:=Bx.mk (by have h := @Zzf; simp(maxSteps:=99999999) only[ZL.v, ZN.v, Qb.v, QH.v, ZR.v, Qc.v, QY.v, Z8.v, Zz.v, Wr.v, Qa.v, VG.v, VH.v, -eq_self] at h; exact h)
theorem Zzg (c:Cp) (fr:Nat→Cp) (l:List Cp) (i:Nat) (x:Cp) (b:Bool):Option.map (KN 55 [2,3,4,7,8] [64,65,66]) (evC Tryz.prog (evF Tryz.prog (Zs 3 (Zb [(67,49,JP c.val x.val (Value.bool b),[])]) Zg) Zf 100 20) (Zf 17) 55 100 (ZK Tryz.prog 17 0) (Sf.frT 55 (fmI 2 c fr l false i) (tb 16 24449)))=Y8 55 [(2,ZaB l.length),(3,WF),(4,Vm),KZ 7 b,Yz 8 i] 67 [(66,XW fr),(65,Yn (Xo c.C c.E c.B c.T c.P c.Y c.R c.V)),(64,Zaa 0 0 l)] [] 0 (ZeJ (YI (XS (ZbL (U9 i 8 fr fr i) (U8 i i (Jz (ZbK (Jz (YI (Vb (ZaQ (KW i+1) fr Jx fr i) (Vo (Vb (JX i i) (KT (KL (X7 i=true))))))) fr i) fr i fr i) fr i) (JY fr i)) fr i) (WZ c.C c.E c.B c.T c.P c.Y c.R c.V) (Zhz fr (Vi i) (KX i) (Zcs fr (KY i)) (Zcs fr (ZbJ i)) (Zcs fr (Jy i)) (Zht fr (Jy i)) (Zlf fr (Uw i)) (ZfX fr i)=ZI x.C x.E x.B x.T x.P x.Y x.R x.V))) (JY fr i)):=by kernel_rfl
def ZFK:=Bx.mk (by have h := @Zzg; simp(maxSteps:=99999999) only[ZL.v, ZN.v, Z3.v, Qb.v, QH.v, ZR.v, Qc.v, ZD.v, Y9.v, QN.v, Z8.v, Zz.v, Wr.v, Qa.v, VG.v, ZaR.v, VH.v, -eq_self] at h; exact h)
theorem Zzh (c:Cp) (fr:Nat→Cp) (l:List Cp) (i:Nat) (b:Bool):Option.map (KN 55 [2,3,4,7] [64,65,66]) (evC Tryz.prog (evF Tryz.prog Zg Zf 100 20) (Zf 17) 55 100 (ZK Tryz.prog 17 0) (Sf.frT 55 (fmI 2 c fr l b i) Uu))=K0 0 55 [(2,ZaB l.length),(3,WF),(4,Vm),KZ 7 b] 67 [(66,XW fr),(65,Yn (Xo c.C c.E c.B c.T c.P c.Y c.R c.V)),(64,Zaa 0 0 l)] [] [] 0 (ZfY i):=by kernel_rfl
def ZFL:=Bx.mk (by have h := @Zzh; simp(maxSteps:=99999999) only[ZL.v, ZN.v, QH.v, ZR.v, Qz.v, Z8.v, ZeW.v, Qa.v, ZaR.v, Zcy.v, VH.v, -eq_self] at h; exact h)
def XI (a b:Nat):=Y6 (ZP a) b
def Zc3:=Bx.mk @XI.eq_1
theorem ZCZ (c:Cp) (l:List Cp) (i:Nat):Option.map (KN 55 [2,3,7,9] [64,65]) (evC Tryz.prog (evF Tryz.prog Zg Zf 100 20) (Zf 17) 55 100 (ZK Tryz.prog 17 1) (Sf.frT 55 (fnI c l true i) (tb 8 255)))=Y8 55 [(2,ZaB l.length),(3,WF),(7,Vn),Yz 9 i] 67 [(65,Yn (Xo c.C c.E c.B c.T c.P c.Y c.R c.V)),(64,Zaa 0 0 l)] [] 0 (V3 (WA (Ziz (XI i l.length=true) Zh))):=by kernel_rfl
def fn_t:=Bx.mk (by have h := @ZCZ; simp(maxSteps:=99999999) only[ZL.v, ZN.v, Z3.v, QH.v, ZR.v, Z8.v, Qa.v, VH.v, Zc3.v, -eq_self] at h; exact h)
theorem ZC0 (c:Cp) (l:List Cp) (i:Nat):Option.map (KN 55 [2,3,7,9] [64,65]) (evC Tryz.prog (evF Tryz.prog Zg Zf 100 20) (Zf 17) 55 100 (ZK Tryz.prog 17 1) (Sf.frT 55 (fnI c l false i) (tb 8 1)))=Y8 55 [(2,ZaB l.length),(3,WF),KZ 7 (K3 (caL l) (Vi i)==ZP c.C&&(K3 (caL l) (KX i)==ZP c.E&&(K3 (caL l) (KY i)==ZP c.B&&(K3 (caL l) (ZbJ i)==ZP c.T&&(K3 (caL l) (Jy i)==ZP c.P&&(K3 (caL l) (ZhK i)==ZP c.Y&&(K3 (caL l) (Uw i)==ZP c.R&&XQ (ZjU (caL l) (Uw i+1)==c.V)))))))),Yz 9 i] 67 [(65,Yn (Xo c.C c.E c.B c.T c.P c.Y c.R c.V)),(64,Zaa 0 0 l)] [] 0 (KT (Vb (YH (ZfW i 8) (caL l) (Kt 0 0 0) (Vi i)) (YI (Vb (Jr i (XI i l.length)) (KT (KL (XI i l.length=true))))))):=by kernel_rfl
def fn_c:=Bx.mk (by have h := @ZC0; simp(maxSteps:=99999999) only[ZL.v, ZN.v, Qb.v, QH.v, ZR.v, Qc.v, Z8.v, Zz.v, Qa.v, VG.v, ZaR.v, VH.v, Zc3.v, -eq_self] at h; exact h)
theorem ZC1 (c:Cp) (l:List Cp) (i:Nat) (b:Bool):Option.map (KN 55 [7] []) (evC Tryz.prog (evF Tryz.prog Zg Zf 100 20) (Zf 17) 55 100 (ZK Tryz.prog 17 1) (Sf.frT 55 (fnI c l b i) Uu))=K0 2 55 [KZ 7 b] 67 [] [] [] 0 (X3 (XI i l.length)):=by kernel_rfl
def fn_e:=Bx.mk (by have h := @ZC1; simp(maxSteps:=99999999) only[ZL.v, ZN.v, Qz.v, ZeW.v, Qa.v, ZaR.v, Zcy.v, Zc3.v, -eq_self] at h; exact h)
def Ux (a b:Bool) (c:Prop):=K4 a b (KL c)
def ZiM:=Zg3 64
def Zcz:=Bx.mk (And.intro @Ux.eq_1 @ZiM.eq_1)
theorem ZC2 (fr:Nat→Cp) (i:Nat):Option.map (KN 35 [1,2,3] [64,65]) (evC Tryz.prog (evF Tryz.prog Zg Zf 100 20) (Zf 15) 35 100 (ZK Tryz.prog 15 0) (Sf.frT 35 (snI fr i) (tb 7 1)))=Y8 35 [(1,ZiM),(2,WF),Yz 3 i] 66 [(65,Yn frZ),(64,Yn (ZeY (KW i) Jx fr))] [] 0 (Kz (ZbG (KW i+1) fr) (JX i i) (ZaL (Ux (ZaQ (KW i+1) fr Jx fr i) (JX i i) (X7 i=true)) (ZbI fr i))):=by kernel_rfl
def sn_f:=Bx.mk (by have h := @ZC2; simp(maxSteps:=99999999) only[ZL.v, ZN.v, Qb.v, ZR.v, QY.v, Zz.v, ZeZ.v, Wr.v, Qa.v, VG.v, Zcz.v, -eq_self] at h; exact h)
theorem ZC3 (fr:Nat→Cp) (i:Nat) (x:Cp) (b:Bool):Option.map (KN 35 [1,2,3] [64,65]) (evC Tryz.prog (evF Tryz.prog (Zs 3 (Zb [(66,46,Zls [x.val] b,[])]) Zg) Zf 100 20) (Zf 15) 35 100 (ZK Tryz.prog 15 0) (Sf.frT 35 (snI fr i) (tb 7 127)))=Y8 35 [(1,ZiM),(2,WF),Yz 3 i] 66 [(65,Yn frZ),(64,Yn (ZeY (KW i) (ZhI b) fr))] [] 0 (Kz (ZbG (KW i+1) fr) (JX i i) (Jz (VA (ZbL (U9 i 8 fr fr i) (U8 i i (ZbK (Jz (Ux (ZaQ (KW i+1) fr Jx fr i) (JX i i) (X7 i=true)) fr i) fr i fr i) (JY fr i)) fr i) (Zhz fr (Vi i) (KX i) (Zcs fr (KY i)) (Zcs fr (ZbJ i)) (Zcs fr (Jy i)) (Zht fr (Jy i)) (Zlf fr (Uw i)) (ZfX fr i)=ZI x.C x.E x.B x.T x.P x.Y x.R x.V)) fr i)):=by kernel_rfl
def sn_c:=Bx.mk (by have h := @ZC3; simp(maxSteps:=99999999) only[ZL.v, ZN.v, Z3.v, Qb.v, QH.v, ZR.v, Zz.v, ZpB.v, ZuX.v, ZeZ.v, Wr.v, Qa.v, VG.v, ZaR.v, Zcz.v, -eq_self] at h; exact h)
theorem ZC4 (fr:Nat→Cp) (i:Nat):Option.map (KN 35 [1,2] [64,65]) (evC Tryz.prog (evF Tryz.prog Zg Zf 100 20) (Zf 15) 35 100 (ZK Tryz.prog 15 0) (Sf.frT 35 (snI fr i) Uu))=K0 0 35 [(1,ZiM),(2,WF)] 66 [(65,Yn frZ),(64,XW fr)] [] [] 0 (ZfY i):=by kernel_rfl
def sn_e:=Bx.mk (by have h := @ZC4; simp(maxSteps:=99999999) only[ZL.v, ZN.v, Qz.v, ZeW.v, Qa.v, Zcy.v, Zcz.v, -eq_self] at h; exact h)
def bls (f:Nat→Bool) (m:Nat):List Value:=(List.range m).map fun i => .bool (f i)
def arR (rw:Bool) (zs:List UInt8) (f:Nat→Bool) (N m:Nat):Sy.Heap:=[(66,⟨rw,none,[.slice (some ⟨64,0,none⟩) N (big+64),.slice (some ⟨65,0,none⟩) m (big+65)],none⟩),(65,⟨rw,some (65,1),bls f m,none⟩),(64,⟨rw,some (64,1),u8s zs,none⟩)]
def Zkf (N m:Nat):List (Nat×Nat):=[(65,m),(64,N)]
def rwE (a:Nat) (d:List UInt8):List (Nat×Value):=[(0,.pointer (some ⟨66,0,none⟩)),(1,.int .u32 (a:Nat)),(2,.string ⟨⟨d⟩⟩),(6,.bool false)]
def rwI (a:Nat) (d zs:List UInt8) (f:Nat→Bool) (N m:Nat) (k:Nat):Sf:=⟨67,rwE a d++[(7,.int .i64 (k:Nat))],arR true zs f N m,Zkf N m⟩
def ZfZ (a b:Nat):=ZnE (ZaB a) b
def Zdo (a b:Nat):=Yn (ZfZ a b)
def ZjY:=Bx.mk (And.intro @ZfZ.eq_1 @Zdo.eq_1)
theorem Zzi (p:Int):evF Tryz.prog Zg Zf 100 40 41 [JM p] (Ks [Zcq,Zdh] 0)=XP (ZbQ [Vm,YQ]) 67 [(66,Zdo (YE (p*QR)) (VZ (p*QR)).toNat),(65,UT 65 (Zf4 (VZ (p*QR)).toNat Jx)),(64,UT 64 (Zf4 (YE (p*QR)) [Zbt]))] [(65,(VZ (p*QR)).toNat),(64,YE (p*QR))] 2 (K4 (Vd (VZ (p*QR)) (decide (VZ (p*QR)≤VZ (p*QR)))&&Zmn (QS*VZ (p*QR)) Zk2&&Zk3 (VZ (p*QR))) (Vd (Zcb p) (decide (Zcb p≤Zcb p))&&Zmn (QS*Zcb p) Zk2&&Zk3 (Zcb p)) (QK (X3 (Zk1 p)) (Uj p (1024:Int)))):=by kernel_rfl
def ZFM:=Bx.mk (by have h := @Zzi; simp(maxSteps:=99999999) only[ZL.v, ZN.v, Qb.v, Qz.v, ZjN.v, VG.v, ZjY.v, -eq_self] at h; exact h)
def Zab (a b:Nat):=ZnP (V2 a) b
def ZbM (a:Nat) (b:Int):=ZkZ (ZP a) b
def ZlB:=Bx.mk (And.intro @Zab.eq_1 @ZbM.eq_1)
theorem Zzj (a:Nat) (d:List UInt8) (zs:List UInt8) (f:Nat→Bool) (N:Nat) (m:Nat) (k:Nat):evC Tryz.prog (evF Tryz.prog Zg Zf 100 20) (Zf 89) 42 100 (ZK Tryz.prog 89 0) (Sf.frT 42 (rwI a d zs f N m k) [(0,true)])=ZsF { e:=[[Vm,Qo a,Xd d,unk,unk,unk,KQ,Zoh k,unk,unk,unk,unk,unk,unk,Vc k,Xd d],[Vc (Qv d),Value.bool (ZbM k (Zci d)),Vc k,Zoh k,Vm,Vm,Vm,ZaB N,Qo a,JM (V2 a),Vc k,JM (Zab a k),Xd d,Vc k,Zrf ↑(d.getD (Zgc k) (0:UInt8)).toNat,ZBw 64 (0+(Zab a k).toNat*1)],[Vm,Vm,ZBw 66 1,Zrh m,Qo a,JM (V2 a),Vc k,JM (Zab a k),JM (Zh2 (Zab a k) YL),ZBw 65 (0+(Zh2 (Zab a k) YL).toNat*1),unk,unk,unk,unk,unk,unk]],s:=ZBx 67 [(66,Zdo N m),(65,ZaG 65 (0+(Zh2 (Zab a k) YL).toNat*1) Jx (bls f m)),(64,ZaG 64 (0+(Zab a k).toNat*1) [Zrf ↑(d.getD (Zgc k) (0:UInt8)).toNat] (u8s zs))] [(65,m),(64,N)] [] 1 (Kz (Zcd (0+(Zh2 (Zab a k) YL).toNat*1+1) (bls f m)) (Vd (Zh2 (Zab a k) YL) (Y6 (Zh2 (Zab a k) YL) m)) (Vb (XQ (Zcd (0+(Zab a k).toNat*1+1) (u8s zs))) (Ux (Vd (Zab a k) (Y6 (Zab a k) N)) (Jr k (ZbM k (Zci d))) (ZbM k (Zci d)=true)))):Fr }:=by kernel_rfl
def ZC5:=Bx.mk (by have h := @Zzj; simp(maxSteps:=99999999) only[ZL.v, ZZ.v, ZN.v, Qb.v, ZR.v, ZeZ.v, Qa.v, VG.v, Zcz.v, ZjY.v, ZlB.v, -eq_self] at h; exact h)
def Yv (a b:Nat):=(a,Vc b)
def ZaT (a:Nat) (b:Nat→Bool) (c:Nat):=UT a (bls b c)
def Uy:=Bx.mk (And.intro @Yv.eq_1 @ZaT.eq_1)
theorem Zzk (a:Nat) (d:List UInt8) (zs:List UInt8) (f:Nat→Bool) (N:Nat) (m:Nat) (k:Nat):evC Tryz.prog (evF Tryz.prog Zg Zf 100 20) (Zf 89) 42 100 (ZK Tryz.prog 89 0) (Sf.frT 42 (rwI a d zs f N m k) Uu)=K0 0 42 [(0,Vm),(1,Qo a),(2,Xd d),(6,KQ),Yv 7 k,Yv 14 k,(15,Xd d),Yv 16 (Qv d),KZ 17 (ZbM k (Zci d))] 67 [(66,Zdo N m),(65,ZaT 65 f m),(64,U4 zs)] [(65,m),(64,N)] [] 1 (X3 (ZbM k (Zci d))):=by kernel_rfl
def ZC6:=Bx.mk (by have h := @Zzk; simp(maxSteps:=99999999) only[ZL.v, ZZ.v, ZN.v, Qb.v, ZR.v, Qz.v, Ku.v, ZeW.v, Qa.v, ZaR.v, Zcy.v, ZjY.v, ZlB.v, Uy.v, -eq_self] at h; exact h)
theorem Xk (f:Nat→Bool) (m:Nat):∀ v∈bls f m,Z4 v=true:=fun v hv=>by
 obtain⟨b,_,rfl⟩:=List.mem_map.1 hv; rfl
theorem ZsG (f:Nat→Bool) (m:Nat):(bls f m).length=m:=by simp[bls]
theorem ZhL (f:Nat→Bool) (m n:Nat):WH n (bls f m)=decide (n≤m):=by
 rw[Bool.eq_iff_iff,W8,ZsG]; simp
theorem ZjZ (f:Nat→Bool) (m g:Nat) (b:Bool) (h:g<m):Ym g [.bool b] (bls f m)=bls (Yu f g b) m:=by
 apply List.ext_getElem?
 intro j
 rw[Vv _ _ _ _ (by simp[ZsG]; omega)]
 simp only[bls,List.getElem?_map,List.length_singleton]
 by_cases hj:g≤j∧j<g+1
 ·have:j=g:=by omega
  subst this
  rw[if_pos hj,List.getElem?_range h]
  simp[Yu]
 ·rw[if_neg hj]
  by_cases hn:j<m
  ·rw[List.getElem?_range hn]
   simp only[Option.map_some,Yu]
   rw[if_neg (by omega)]
  ·rw[List.getElem?_eq_none (by simp; omega)]; rfl
theorem ZlC (a k:Nat) (d zs:List UInt8) (h:a+d.length≤zs.length) (hk:k<d.length):Xc (a+k) [d.getD k 0] (Xc a (d.take k) zs)=Xc a (d.take (k+1)) zs:=by
 have hl1:(d.take k).length=k:=by simp; omega
 have hl2:(d.take (k+1)).length=k+1:=by simp; omega
 have hp:(Xc a (d.take k) zs).length=zs.length:=Zbc _ _ _ (by omega)
 apply List.ext_getElem?
 intro j
 rw[ZcR _ _ _ (by rw[hp]; simp; omega),ZcR _ _ _ (by omega),ZcR _ _ _ (by omega),hl1,hl2]
 simp only[List.length_singleton]
 by_cases h1:j=a+k
 ·subst h1
  rw[if_pos ⟨by omega,by omega⟩,if_pos ⟨by omega,by omega⟩,show a+k-(a+k)=0 by omega,show a+k-a=k by omega,List.getElem?_take_of_lt (by omega),List.getD_eq_getElem?_getD,List.getElem?_eq_getElem hk]
  rfl
 ·rw[if_neg (by omega)]
  by_cases h2:a≤j∧j<a+k
  ·rw[if_pos h2,if_pos ⟨h2.1,by omega⟩,List.getElem?_take_of_lt (by omega),List.getElem?_take_of_lt (by omega)]
  ·rw[if_neg h2,if_neg (by omega)]
theorem Zoj (a:Nat) (zs:List UInt8):Xc a [] zs=zs:=by simp[Xc]
structure ArK (zs:List UInt8) (N m:Nat):Prop where
 len:zs.length=N
 tags:N≤16*m
 big:m≤100000
 big2:N≤1000000
theorem Zj0 {q:Nat→Bool} (h4:q 64=true) (h5:q 65=true) (N m:Nat):∀ v∈([.slice (some ⟨64,0,none⟩) N (big+64),.slice (some ⟨65,0,none⟩) m (big+65)]:List Value),okV q 3 v=true:=by
 intro v hv
 simp only[List.mem_cons,List.not_mem_nil,or_false] at hv
 rcases hv with rfl|rfl<;>simp[okV,JA,h4,h5,Z4,big]
theorem ZdX {q:Nat→Bool} (h:∀ l,l<67→q l=true) (rw:Bool) (zs:List UInt8) (f:Nat→Bool) (N m:Nat) {l:Sy.Heap} (hl:OkH q l):OkH q (arR rw zs f N m++l) :=
 ⟨⟨h 66 (by omega),rfl,fun v hv=>QQ 3 v (Zj0 (h 64 (by omega)) (h 65 (by omega)) N m v hv)⟩,⟨h 65 (by omega),h 65 (by omega),ZB (Xk f m)⟩,⟨h 64 (by omega),h 64 (by omega),ZB (Zl zs)⟩,hl⟩
theorem ZsH {q:Nat→Bool} (h:∀ l,l<67→q l=true) (rw:Bool) (zs:List UInt8) (f:Nat→Bool) (N m:Nat):∀ x∈arR rw zs f N m,∀ v∈x.2.cells,okV q 3 v=true:=fun x hx v hv=>by
 simp only[arR,List.mem_cons,List.not_mem_nil,or_false] at hx
 rcases hx with rfl|rfl|rfl
 ·exact Zj0 (h 64 (by omega)) (h 65 (by omega)) N m v hv
 ·exact QP (Xk f m v hv) 3
 ·exact QP (Zl zs v hv) 3
theorem Zok (rw:Bool) (zs:List UInt8) (f:Nat→Bool) (N m:Nat):∀ x∈arR rw zs f N m,x.2.op≠none→∀ v∈x.2.cells,Z4 v=true:=fun x hx hne=>by
 simp only[arR,List.mem_cons,List.not_mem_nil,or_false] at hx
 rcases hx with rfl|rfl|rfl
 ·exact absurd rfl hne
 ·exact Xk f m
 ·exact Zl zs
theorem ZcW {h1:Sy.Heap} {p:Nat→Bool} (hp:∀ l,l<67→p l=true) (zs:List UInt8) (f:Nat→Bool) (N m:Nat) (cs bs:List Value) {l:Sy.Heap} (h66:Sy.look h1 66=some ⟨true,none,[.slice (some ⟨64,0,none⟩) N (big+64),.slice (some ⟨65,0,none⟩) m (big+65)],none⟩) (h65:Sy.look h1 65=some ⟨true,some (65,1),bs,none⟩) (h64:Sy.look h1 64=some ⟨true,some (64,1),cs,none⟩) (hb:bs=bls f m) (hc:cs=u8s zs) (hl:WS 3 p id h1 l):WS 3 p id h1 (arR true zs f N m++l):=by
 refine⟨⟨hp 66 (by omega),List.all_eq_true.2 (Zj0 (hp 64 (by omega)) (hp 65 (by omega)) N m),rfl,?_⟩,⟨hp 65 (by omega),Zj (Xk f m),hp 65 (by omega),?_⟩,⟨hp 64 (by omega),Zj (Zl zs),hp 64 (by omega),?_⟩,hl⟩
 ·simp only[id,h66]; exact⟨rfl,rfl,trivial,(X4 _ rfl _).symm⟩
 ·simp only[id,h65]; exact⟨rfl,rfl,trivial,by rw[X4 _ rfl,hb]⟩
 ·simp only[id,h64]; exact⟨rfl,rfl,trivial,by rw[X4 _ rfl,hc]⟩
theorem ltZ (n:Nat):∀ l,l<n→(fun l=>Nat.blt l n) l=true:=fun l hl=>Qq hl
theorem ZlD (n:Nat):∀ l,l<n→YD n n id (fun l=>Nat.blt l n) l=true:=fun l hl=>by
 show(Nat.blt l NG||(bif Nat.blt l n then(Nat.beq l l&&Nat.blt l n) else Nat.blt l n))=true
 rw[Qq hl,Nat.beq_refl]
 cases Nat.blt l NG<;>rfl
theorem Zol {q:Nat→Bool} (a:Nat) (d:List UInt8) (h:q 66=true):∀ x∈rwE a d,okV q 3 x.2=true:=fun x hx=>by
 simp only[rwE,List.mem_cons,List.not_mem_nil,or_false] at hx
 rcases hx with rfl|rfl|rfl|rfl<;>simp[okV,JA,h,Z4]
def rwF (a:Nat) (d zs:List UInt8) (f:Nat→Bool) (N m:Nat):Sf:=⟨67,rwE a d,arR true zs f N m,Zkf N m⟩
def rxS (f:Nat→Bool) (g:Nat):Nat→Nat→Bool
 | 0=>f
 | _+1=>Yu f g false
theorem Zvc (f:Nat→Bool) (g k:Nat):Yu (rxS f g k) g false=rxS f g (k+1):=by
 cases k
 ·rfl
 ·show Yu (Yu f g false) g false=Yu f g false
  funext i; unfold Yu; split<;>rfl
theorem ZsI (f:Nat→Bool) (g k:Nat) (h:0<k):rxS f g k=Yu f g false:=by
 cases k
 ·omega
 ·rfl
theorem Zzl (a:Nat) (d zs:List UInt8) (f:Nat→Bool) (N m:Nat) (h:ArK zs N m) (ha:a+d.length≤N) (g:Nat) (hd:0<d.length) (hf:∀ i,i<d.length→(a+i)/16=g) :
  ∀ k:{ k:Nat // k≤d.length },XO Tryz.prog 42 (ZK Tryz.prog 89 0) ((rwI a d (Xc a (d.take k.1) zs) (rxS f g k.1) N m k.1).fr 42) (.exit 0) ((rwF a d (Xc a d zs) (Yu f g false) N m).fr 42):=by
 obtain⟨hl,h1,h2,h3⟩:=h
 refine Zgo (L:=100) (QD _ _ 89) (fun _ h=>h) (X:={ k:Nat // k≤d.length }) (fun k=>rwI a d (Xc a (d.take k.1) zs) (rxS f g k.1) N m k.1) (fun _=>rwF a d (Xc a d zs) (Yu f g false) N m) (fun _ => .exit 0) (fun k=>d.length-k.1) (fun k => ?_) ?_
 ·exact⟨by show 64≤67; omega,Sf.Ok.mk' 3 (by have:=ZdX (ltZ 67) true (Xc a (d.take k.1) zs) (rxS f g k.1) N m (l:=[]) trivial; rwa [List.append_nil] at this) rfl (fun x hx=>by
   rcases List.mem_append.1 (show x∈rwE a d++[(7,.int .i64 (k.1:Nat))] from hx) with hx|hx
   ·exact Zol a d rfl x hx
   ·obtain rfl:=List.mem_singleton.1 hx; rfl)⟩
 rintro⟨k,hk⟩
 have hF:(rwF a d (Xc a d zs) (Yu f g false) N m).Ok (YD 67 67 id (fun l=>Nat.blt l 67)) :=
  Sf.Ok.mk' 3 (by have:=ZdX (ZlD 67) true (Xc a d zs) (Yu f g false) N m (l:=[]) trivial; rwa [List.append_nil] at this) rfl (Zol a d rfl)
 by_cases hlt:k<d.length
 ·have hpl:(Xc a (d.take k) zs).length=N:=by rw[Zbc _ _ _ (by simp; omega),hl]
  have hr:=ZC5.v a d (Xc a (d.take k) zs) (rxS f g k) N m k
  have e1:i64.wrap (i64.wrap (a:Int)+(k:Int))=((a+k:Nat):Int):=by rw[Wb a (by omega),ZdN,Wb _ (by omega)]
  have e2:i64.wrap (((a+k:Nat):Int).tdiv (16:Int))=(((a+k)/16:Nat):Int):=by rw[WN,Wb _ (by omega)]
  have e5:i64.wrap ((k:Int)+(1:Int))=((k+1:Nat):Int):=Z7 k (by omega)
  simp only[e1,e2,e5,Int.toNat_natCast,Nat.zero_add,Nat.mul_one] at hr
  have hset:Ym (a+k) [Value.int .u8 (((d.getD k 0).toNat:Nat):Int)] (u8s (Xc a (d.take k) zs))=u8s (Xc a (d.take (k+1)) zs):=by
   rw[← ZlC a k d zs (by omega) hlt]
   exact Uk (a+k) [d.getD k 0] _ _ rfl (by rw[hpl]; simp; omega)
  rw[ZjZ (rxS f g k) m _ false (by omega),hf k hlt,Zvc f g k,hset] at hr
  have hgk:=hf k hlt
  have hgm:g<m:=by omega
  refine⟨_,_,.normal,_,3,fun l=>Nat.blt l 67,id,Zn (L:=100) Ze (Zc _) (Zd _) 20,hr,?_,.inl ⟨rfl,⟨k+1,by omega⟩,by show d.length-(k+1)<d.length-k; omega,rfl,rfl,?_⟩⟩
  ·simp(disch:=omega) only[ZhL,Xj,hpl,Z1,decide_eq_true,decide_eq_false,Bool.and_self,Bool.and_true,cond_true,and_true,true_and,and_self]
  ·have hs:=ZcW (l:=[]) (ltZ 67) (Xc a (d.take (k+1)) zs) (rxS f g (k+1)) N m _ _ (h1:=[(66,⟨true,none,[.slice (some ⟨64,0,none⟩) N (big+64),.slice (some ⟨65,0,none⟩) m (big+65)],none⟩),(65,⟨true,some (65,1),bls (rxS f g (k+1)) m,none⟩),(64,⟨true,some (64,1),u8s (Xc a (d.take (k+1)) zs),none⟩)]) rfl rfl rfl rfl rfl trivial
   rw[List.append_nil] at hs
   exact⟨fun _ _=>rfl,hs,rfl,⟨⟨rfl,Nat.le_refl _⟩,⟨rfl,Nat.le_refl _⟩,trivial⟩,⟨⟨by kernel_rfl,by kernel_rfl⟩,⟨by kernel_rfl,by kernel_rfl⟩,⟨by kernel_rfl,by kernel_rfl⟩,⟨by kernel_rfl,by kernel_rfl⟩,⟨by kernel_rfl,by kernel_rfl⟩,trivial⟩,Nat.le_refl _,fun l hl=>ZY hl,hF,fun x _ _ => .inl rfl⟩
 ·have hkk:k=d.length:=by omega
  subst hkk
  have hr:=ZC6.v a d (Xc a (d.take d.length) zs) (rxS f g d.length) N m d.length
  rw[List.take_length,ZsI f g _ hd] at hr
  refine⟨_,_,.exit 0,_,3,fun l=>Nat.blt l 67,id,Zn (L:=100) Ze (Zc _) (Zd _) 20,(by rw[List.take_length,ZsI f g _ hd]; exact hr),?_,.inr ⟨by simp,rfl,?_⟩⟩
  ·exact⟨trivial,by rw[Z1]; exact decide_eq_false (by omega)⟩
  ·have hs:=ZcW (l:=[]) (ltZ 67) (Xc a d zs) (Yu f g false) N m _ _ (h1:=arR true (Xc a d zs) (Yu f g false) N m) rfl rfl rfl rfl rfl trivial
   rw[List.append_nil] at hs
   exact⟨fun _ _=>rfl,hs,rfl,⟨⟨rfl,Nat.le_refl _⟩,⟨rfl,Nat.le_refl _⟩,trivial⟩,⟨⟨by kernel_rfl,by kernel_rfl⟩,⟨by kernel_rfl,by kernel_rfl⟩,⟨by kernel_rfl,by kernel_rfl⟩,⟨by kernel_rfl,by kernel_rfl⟩,trivial⟩,Nat.le_refl _,fun l hl=>ZY hl,hF,fun x _ _ => .inl rfl⟩
def ZFN (a:Nat) (d zs:List UInt8) (f:Nat→Bool) (N m:Nat) (h:ArK zs N m) (ha:a+d.length≤N) (g:Nat) (hd:0<d.length) (hf:∀ i,i<d.length→(a+i)/16=g):Ent Tryz.prog :=
 Zke Tryz.prog 89 0 42 (rwI a d zs f N m 0) (.exit 0) (rwF a d (Xc a d zs) (Yu f g false) N m) (by kernel_rfl) (by kernel_rfl) (by
  have:=Zzl a d zs f N m h ha g hd hf ⟨0,Nat.zero_le _⟩
  rw[List.take_zero,Zoj] at this
  exact this)
def Xg (a:Prop):=Zry (true=true) (true=true) a
def ZlE (a b c:Prop):=Wz (Xg a) (Xg b) (Xg c)
def ZbN (a:List UInt8) (b:Nat):=JE (Zci a) b
def Zf0 (a:List UInt8):=Wy (Zci a)
def Ze0 (a b:List UInt8):=ZrS a (u8s b)
def Qp:=Qw YQ
def Y2:=Bx.mk (And.intro @Xg.eq_1 (And.intro @ZlE.eq_1 (And.intro @ZbN.eq_1 (And.intro @Zf0.eq_1 (And.intro @Ze0.eq_1 @Qp.eq_1)))))
theorem Zzm (a:Nat) (d:List UInt8) (zs:List UInt8) (f:Nat→Bool) (N:Nat) (m:Nat) (h:ArK zs N m) (ha:a+d.length≤N) (g:Nat) (hd:0<d.length) (hf:∀ (i:Nat),i<d.length→(a+i)/16=g):evF Tryz.prog Zg (Yt [ZFN a d zs f N m h ha g hd hf]) 100 20 89 [Vm,Qo a,Xd d] (Zc7 67 (arR true zs f N m) (Zkf N m) 20 524287 0)=XP Vn 67 [(66,Zdo N m),(65,ZaT 65 (Zbv f g) m),(64,U4 (Xc a d zs))] [(65,m),(64,N),(65,m),(64,N)] 20 (JG (QK (((((((((((((((((UY (Zf0 d=true)∧Zf0 d=true)∧Zf0 d=true)∧Zf0 d=true)∧Zf0 d=true)∧Zf0 d=true)∧Zf0 d=true)∧ZbN d N=true)∧ZbN d N=true)∧ZbN d N=true)∧ZbN d N=true)∧ZbN d N=true)∧ZbN d N=true)∧ZbN d N=true)∧ZbN d N=true)∧ZbN d N=true)∧ZbN d N=true)∧ZbN d N=true) (!decide (V2 a≤KR N (Zci d)))) (ZhC XR (Zdg a a) (Qw (Xd d)) KQ Qp) (ZlE (WP (ZfZ N m)) (WP (bls f m)) (Ze0 zs zs)) (VP (m≤m) (N≤N))):=by kernel_rfl
def ZFO:=Bx.mk (by have h := @Zzm; simp(maxSteps:=99999999) only[ZL.v, ZZ.v, ZN.v, Z3.v, Qb.v, ZR.v, Qc.v, ZD.v, Zz.v, Ku.v, ZjY.v, Uy.v, Y2.v, -eq_self] at h; exact h)
theorem ZsJ {h1:Sy.Heap} {p:Nat→Bool} (hp:∀ l,l<67→p l=true) (zs:List UInt8) (f:Nat→Bool) (N m:Nat) (cs bs:List Value) (h66:Sy.look h1 66=some ⟨true,none,[.slice (some ⟨64,0,none⟩) N (big+64),.slice (some ⟨65,0,none⟩) m (big+65)],none⟩) (h65:Sy.look h1 65=some ⟨true,some (65,1),bs,none⟩) (h64:Sy.look h1 64=some ⟨true,some (64,1),cs,none⟩) (hb:bs=bls f m) (hc:cs=u8s zs):WS 3 p id h1 (arR true zs f N m):=by
 have:=ZcW (l:=[]) hp zs f N m cs bs h66 h65 h64 hb hc trivial
 rwa [List.append_nil] at this
def ZhM (args:List Value) (zs zs':List UInt8) (f f':Nat→Bool) (N m:Nat):Con:=⟨args,67,arR true zs f N m,Zkf N m,.bool true,67,arR true zs' f' N m,Zkf N m⟩
theorem J5 {call:Qs} (hc:Zv Tryz.prog call) {fn:FuncId} {args:List Value} {zs zs':List UInt8} {f f':Nat→Bool} {N m:Nat} {T:List (Nat×Bool)} {s':Sy.St} {cs bs:List Value} (ha:args.all (okV (fun l=>Nat.blt l 67) 3)=true) (hr:call fn args ⟨67,arR true zs f N m,Zkf N m,0,T,0,True⟩=some (.bool true,s')) (hO:s'.O)
  (h66:Sy.look s'.h 66=some ⟨true,none,[.slice (some ⟨64,0,none⟩) N (big+64),.slice (some ⟨65,0,none⟩) m (big+65)],none⟩) (h65:Sy.look s'.h 65=some ⟨true,some (65,1),bs,none⟩) (h64:Sy.look s'.h 64=some ⟨true,some (64,1),cs,none⟩) (hb:bs=bls f' m) (hcs:cs=u8s zs') (hlo:Zjo s'.lo 65 m∧Zjo s'.lo 64 N) :
  ConOk Tryz.prog fn 3 (ZhM args zs zs' f f' N m)∧FlatC (ZhM args zs zs' f f' N m):=by
 have h0:=ZdX (ltZ 67) true zs f N m (l:=[]) trivial
 have h1:=ZdX (ZlD 67) true zs' f' N m (l:=[]) trivial
 have h2:=ZcW (l:=[]) (ltZ 67) zs' f' N m cs bs h66 h65 h64 hb hcs trivial
 rw[List.append_nil] at h0 h1 h2
 exact⟨Qi hc ⟨by show 64≤67; omega,Nat.le_refl _,h0,rfl,rfl,rfl,ha,rfl,ZsH (ltZ 67) true _ _ N m⟩ hr hO (p:=fun l=>Nat.blt l 67) (σ:=id) ⟨fun _ _=>rfl,h2,rfl,⟨⟨rfl,hlo.1⟩,⟨rfl,hlo.2⟩,trivial⟩,⟨rfl,rfl⟩,rfl,h1,rfl,Zy _ rfl,fun x _ _ => .inl rfl⟩,⟨Zok _ _ _ _ _⟩⟩
def newR (p:Nat):Con:=⟨[.int .i64 (p:Nat)],64,[],[],.tuple ⟨[.pointer (some ⟨66,0,none⟩),.int .i64 0]⟩,67,arR true (List.replicate (p*256) 0) (fun _=>false) (p*256) (Zbd p),Zkf (p*256) (Zbd p)⟩
theorem ZsK (n:Nat):List.replicate n (Value.bool false)=bls (fun _=>false) n:=by
 unfold bls; rw[List.map_const',List.length_range]
theorem Zvd (p:Nat) (h1:16≤p) (h2:p≤1024):ConOk Tryz.prog 41 3 (newR p)∧FlatC (newR p):=by
 have hr:=ZFM.v (p:Int)
 have e1:(p:Int)*(256:Int)=((p*256:Nat):Int):=by omega
 have e5:p*256/16=Zbd p:=rfl
 simp(disch:=omega) only[e1,Wb,WN,Int.toNat_natCast,ZjD,Zrk,ZsK,e5] at hr
 have hk:∀ l,l<67→YD 64 67 id (fun l=>Nat.blt l 67) l=true:=fun l hl=>by
  show(Nat.blt l NG||(bif Nat.blt l 64 then(Nat.beq l l&&Nat.blt l 67) else Nat.blt l 67))=true
  rw[Qq hl,Nat.beq_refl]
  cases Nat.blt l NG<;>cases Nat.blt l 64<;>rfl
 have g1:=ZdX hk true (List.replicate (p*256) 0) (fun _=>false) (p*256) (Zbd p) (l:=[]) trivial
 rw[List.append_nil] at g1
 refine⟨Qi (Zn (L:=100) Ze (Zc _) (Zd _) 40) ⟨Nat.le_refl _,by show 64≤67; omega,trivial,rfl,rfl,rfl,rfl,rfl,ZsH (ltZ 67) true _ _ _ _⟩ hr ?_ (p:=fun l=>Nat.blt l 67) (σ:=id) ⟨fun _ _=>rfl,?_,rfl,⟨⟨rfl,Nat.le_refl _⟩,⟨rfl,Nat.le_refl _⟩,trivial⟩,⟨rfl,by rw[Uh]; rfl⟩,rfl,g1,rfl,QQ 3 _ rfl,fun x _ _ => .inl rfl⟩,⟨Zok _ _ _ _ _⟩⟩
 ·have b2:Zbd p≤100000:=by unfold Zbd; omega
  simp(disch:=omega) only[decide_eq_true,decide_eq_false,Bool.and_self,Bool.true_and,Bool.and_true,Bool.not_true,Bool.not_false,cond_true,and_true,true_and,and_self]
 ·exact ZsJ (ltZ 67) _ _ _ _ _ _ rfl rfl rfl rfl rfl
def rxL (a:Nat) (d zs zs2:List UInt8) (f f2:Nat→Bool) (N m:Nat):Sy.Steps:=[(68,89,ZhM [.pointer (some ⟨66,0,none⟩),.int .u32 (a:Nat),.string ⟨⟨d⟩⟩] zs zs2 f f2 N m,[64,65,66]),(69,89,ZhM [.pointer (some ⟨66,0,none⟩),.int .u32 (a:Nat),.string ⟨⟨d⟩⟩] zs zs2 f f2 N m,[64,65,66])]
def rxM (c:Cp) (d:List UInt8) (k:Bool):Sy.Steps:=[(68,95,Con.pure [c.val] (.string ⟨⟨d⟩⟩),[]),(68,96,Con.pure [c.val] (.bool k),[])]
theorem Zve (c:Int) (e:Int) (b:Int) (t:Int) (p:Int) (y:Int) (r:Int) (v:Bool):obs (evF Tryz.prog Zg Zf 100 20 95 [Zcf (YG c) (ZnV e) (Zdb b) (Zdb t) (Zdb p) (Zdb y) (YG r) v] (stT []))=QG (Xd [Vz (c.fdiv QS),Vz (c.fdiv QR),Vz (c.fdiv Km),Vz (c.fdiv Zg9),Zch e,Zch b,Zdc b QR,Zch t,Zdc t QR,Zch p,Zdc p QR,Zch y,Zdc y QR,Vz (r.fdiv QS),Vz (r.fdiv QR),Vz (r.fdiv Km)]) True:=by kernel_rfl
def ZC7:=Bx.mk (by have h := @Zve; simp(maxSteps:=99999999) only[ZL.v, ZZ.v, QH.v, -eq_self] at h; exact h)
def Ze1 (a:Bool) (b c:Prop):=Zla a b b b c
def Zdp (a:List UInt8) (b:Nat→Bool) (c:Prop) (d:List UInt8) (e:List Value):=Zlh a b c c c d e
def Y3:=Bx.mk (And.intro @Ze1.eq_1 @Zdp.eq_1)
theorem Zzn (a:Nat) (v:Nat) (d:List UInt8) (zs:List UInt8) (zs2:List UInt8) (f:Nat→Bool) (f2:Nat→Bool) (N:Nat) (m:Nat):evF Tryz.prog (Zs 3 (Zb (rxL a d zs zs2 f f2 N m)) Zg) Zf 100 20 43 [Vm,Qo a,JO,Qo v] (Zh3 67 (arR true zs f N m) (Zkf N m) [] 0)=XP Vn 68 [(66,Zdo N m),(65,ZaT 65 f2 m),(64,U4 zs2)] [(65,m),(64,N),(67,1),(65,m),(64,N)] 0 (ZiD (JG (K5 (Zdg a a) (Xd [Zcg (ZP v) QS]=Xd d)) (Wz (Zcj Zh (WP (ZfZ N m))) (Ze1 (Zfv (bls f m) (fun l=>l.blt 67) 3) Zh (bls f m=ZaH 67 68 [64,65,66] 3 (bls f m))) (Zdp zs (fun l=>l.blt 67) Zh zs (ZaH 67 68 [64,65,66] 3 (u8s zs)))) (Zh∧m≤m) (Zh∧N≤N))):=by kernel_rfl
def ZFP:=Bx.mk (by have h := @Zzn; simp(maxSteps:=99999999) only[ZL.v, ZZ.v, ZN.v, Z3.v, QH.v, ZR.v, Qc.v, Zh6.v, ZD.v, Zz.v, Ku.v, ZjY.v, Uy.v, Y3.v, -eq_self] at h; exact h)
theorem Zzo (a:Nat) (v:Nat) (d:List UInt8) (zs:List UInt8) (zs2:List UInt8) (f:Nat→Bool) (f2:Nat→Bool) (N:Nat) (m:Nat):evF Tryz.prog (Zs 3 (Zb (rxL a d zs zs2 f f2 N m)) Zg) Zf 100 20 43 [Vm,Qo a,Zdf,Qo v] (Zh3 67 (arR true zs f N m) (Zkf N m) [] 0)=XP Vn 68 [(66,Zdo N m),(65,ZaT 65 f2 m),(64,U4 zs2)] [(65,m),(64,N),(67,2),(65,m),(64,N)] 0 (ZiD (JG (K5 (Zdg a a) (Xd [Zcg (ZP v) QS,Zcg (ZP v) QR]=Xd d)) (Wz (Zcj Zh (WP (ZfZ N m))) (Ze1 (Zfv (bls f m) (fun l=>l.blt 67) 3) Zh (bls f m=ZaH 67 68 [64,65,66] 3 (bls f m))) (Zdp zs (fun l=>l.blt 67) Zh zs (ZaH 67 68 [64,65,66] 3 (u8s zs)))) (Zh∧m≤m) (Zh∧N≤N))):=by kernel_rfl
def ZFQ:=Bx.mk (by have h := @Zzo; simp(maxSteps:=99999999) only[ZL.v, ZZ.v, ZN.v, Z3.v, QH.v, ZR.v, Qc.v, XM.v, ZD.v, Zz.v, Ku.v, ZjY.v, Uy.v, Y3.v, -eq_self] at h; exact h)
theorem Zzp (a:Nat) (v:Nat) (d:List UInt8) (zs:List UInt8) (zs2:List UInt8) (f:Nat→Bool) (f2:Nat→Bool) (N:Nat) (m:Nat):evF Tryz.prog (Zs 3 (Zb (rxL a d zs zs2 f f2 N m)) Zg) Zf 100 20 43 [Vm,Qo a,Zbu,Qo v] (Zh3 67 (arR true zs f N m) (Zkf N m) [] 0)=XP Vn 68 [(66,Zdo N m),(65,ZaT 65 f2 m),(64,U4 zs2)] [(65,m),(64,N),(67,4),(65,m),(64,N)] 0 (ZiD (JG (K5 (Zdg a a) (Xd [Zcg (ZP v) QS,Zcg (ZP v) QR,Zcg (ZP v) Km,Zcg (ZP v) Zg9]=Xd d)) (Wz (Zcj Zh (WP (ZfZ N m))) (Ze1 (Zfv (bls f m) (fun l=>l.blt 67) 3) Zh (bls f m=ZaH 67 68 [64,65,66] 3 (bls f m))) (Zdp zs (fun l=>l.blt 67) Zh zs (ZaH 67 68 [64,65,66] 3 (u8s zs)))) (Zh∧m≤m) (Zh∧N≤N))):=by kernel_rfl
def ZFR:=Bx.mk (by have h := @Zzp; simp(maxSteps:=99999999) only[ZL.v, ZZ.v, ZN.v, Z3.v, QH.v, ZR.v, Qc.v, ZD.v, Zz.v, Ku.v, ZjY.v, Uy.v, Y3.v, -eq_self] at h; exact h)
def Ze2 (a:Int):=(u32.wrap a).toNat
def ZlF (a b:Int):=u32.wrap (a.tdiv b)
def Zzq:=Bx.mk (And.intro @Ze2.eq_1 @ZlF.eq_1)
theorem Zvf (a:Nat) (x:Cp) (d:List UInt8) (zs:List UInt8) (zs2:List UInt8) (f:Nat→Bool) (f2:Nat→Bool) (k:Bool) (N:Nat) (m:Nat):evF Tryz.prog (Zs 3 (Zb (rxL a d zs zs2 f f2 N m++rxM x d k)) Zg) Zf 100 20 45 [Vm,Qo a,cpV x.C x.E x.B x.T x.P x.Y x.R true] (Zc7 67 (arR true zs f N m) (Zkf N m) 28 239075320 0)=XP Vn 68 [(65,ZaG 65 (0+Ze2 ((ZP a).tdiv YL)*1) (ZhI k) (bls f2 m)),(64,U4 zs2),(66,Zdo N m)] [(65,m),(64,N),(65,m),(64,N)] 28 (Kz (Zcd (0+Ze2 ((ZP a).tdiv YL)*1+1) (bls f2 m)) (Vd (ZlF (ZP a) YL) (Y6 (ZlF (ZP a) YL) m)) (YR (VA (WA (Yj (VA (ZeO (ZfO (Zck (Zck (ZfP (Zai (Un (X3 (KS a !=ZS)) (KS a !=ZS))) N N) N N N N) N N N N) N) (KS a !=ZS) (KS a !=ZS) (!decide (V2 a≤KR N YL))) (ZI x.C x.E x.B x.T x.P x.Y x.R true=ZI x.C x.E x.B x.T x.P x.Y x.R x.V)) (K5 (Zdg a a) (Qw (Xd d))) (Wz (Zcj Zh (WP (ZfZ N m))) (Ze1 (Zfv (bls f m) (fun l=>l.blt 67) 3) Zh (bls f m=ZaH 67 68 [64,65,66] 3 (bls f m))) (Zdp zs (fun l=>l.blt 67) Zh zs (ZaH 67 68 [64,65,66] 3 (u8s zs)))) m N)) (ZI x.C x.E x.B x.T x.P x.Y x.R true=ZI x.C x.E x.B x.T x.P x.Y x.R x.V)))):=by kernel_rfl
def ZC8:=Bx.mk (by have h := @Zvf; simp(maxSteps:=99999999) only[ZL.v, ZZ.v, ZN.v, Z3.v, QH.v, ZR.v, Qc.v, ZD.v, Ql.v, Zz.v, Zfy.v, Ku.v, ZpB.v, ZeZ.v, ZjY.v, Y3.v, Zzq.v, -eq_self] at h; exact h)
theorem Zvg (a:Nat) (x:Cp) (d:List UInt8) (zs:List UInt8) (zs2:List UInt8) (f:Nat→Bool) (f2:Nat→Bool) (k:Bool) (N:Nat) (m:Nat):evF Tryz.prog (Zs 3 (Zb (rxL a d zs zs2 f f2 N m++rxM x d k)) Zg) Zf 100 20 45 [Vm,Qo a,cpV x.C x.E x.B x.T x.P x.Y x.R false] (Zc7 67 (arR true zs f N m) (Zkf N m) 28 4194296 0)=XP Vn 68 [(65,ZaG 65 (0+Ze2 ((ZP a).tdiv YL)*1) Jx (bls f2 m)),(64,U4 zs2),(66,Zdo N m)] [(65,m),(64,N),(65,m),(64,N)] 28 (Kz (Zcd (0+Ze2 ((ZP a).tdiv YL)*1+1) (bls f2 m)) (Vd (ZlF (ZP a) YL) (Y6 (ZlF (ZP a) YL) m)) (KT (Yj (VA (ZeO (Zck (Zck (ZfO (ZfP (Zai (Un (X3 (KS a !=ZS)) (KS a !=ZS))) N N) N) N N N N) N N N N) (KS a !=ZS) (KS a !=ZS) (!decide (V2 a≤KR N YL))) (ZI x.C x.E x.B x.T x.P x.Y x.R false=ZI x.C x.E x.B x.T x.P x.Y x.R x.V)) (K5 (Zdg a a) (Qw (Xd d))) (Wz (Zcj Zh (WP (ZfZ N m))) (Ze1 (Zfv (bls f m) (fun l=>l.blt 67) 3) Zh (bls f m=ZaH 67 68 [64,65,66] 3 (bls f m))) (Zdp zs (fun l=>l.blt 67) Zh zs (ZaH 67 68 [64,65,66] 3 (u8s zs)))) m N))):=by kernel_rfl
def ZC9:=Bx.mk (by have h := @Zvg; simp(maxSteps:=99999999) only[ZL.v, ZZ.v, ZN.v, Z3.v, Qb.v, QH.v, ZR.v, Qc.v, ZD.v, Ql.v, Zz.v, Zfy.v, Ku.v, ZeZ.v, VG.v, ZjY.v, Y3.v, Zzq.v, -eq_self] at h; exact h)
def rxwC (a:Nat) (d zs:List UInt8) (f:Nat→Bool) (g N m:Nat):Con:=ZhM [.pointer (some ⟨66,0,none⟩),.int .u32 (a:Nat),.string ⟨⟨d⟩⟩] zs (Xc a d zs) f (Yu f g false) N m
theorem ZsL (a:Nat) (d zs:List UInt8) (f:Nat→Bool) (N m:Nat) (h:ArK zs N m) (ha:a+d.length≤N) (g:Nat) (hd:0<d.length) (hf:∀ i,i<d.length→(a+i)/16=g):ConOk Tryz.prog 89 3 (rxwC a d zs f g N m)∧FlatC (rxwC a d zs f g N m):=by
 have hr:=ZFO.v a d zs f N m h ha g hd hf
 have hb:=h.big2
 have e1:i64.wrap ((N:Int)-((d.length:Nat):Int))=((N-d.length:Nat):Int):=by rw[Zga _ _ (by omega),Wb _ (by omega)]
 have e2:=Wb a (by omega)
 refine J5 (Zn (L:=100) Ze (Zc _) (X0 _) 20) rfl hr ?_ rfl rfl rfl rfl rfl ⟨Nat.le_refl _,Nat.le_refl _⟩
 simp(disch:=omega) only[Z1,e1,e2,decide_eq_true,decide_eq_false,ge_iff_le,Bool.not_true,and_true,true_and,and_self,Nat.le_refl]
theorem Zvh (x:Cp) (h:x.Ok):ConOk Tryz.prog 95 3 (Con.pure [x.val] (.string ⟨⟨cbL x.C x.E x.B x.T x.P x.Y x.R⟩⟩)):=by
 obtain⟨c,e,b,t,p,y,r,v⟩:=x
 obtain⟨h1,h2,h3,h4,h5,h6,h7⟩:=h
 simp only at h1 h2 h3 h4 h5 h6 h7
 have hr:=ZC7.v (c:Int) (e:Int) (b:Int) (t:Int) (p:Int) (y:Int) (r:Int) v
 have fd0:∀ n:Nat,(n:Int).fdiv (1:Int)=((n:Nat):Int):=fun n=>by rw[show(1:Int)=((1:Nat):Int) from rfl,fdA,Nat.div_one]
 have fd1:∀ n:Nat,(n:Int).fdiv (256:Int)=((n/256:Nat):Int):=fun n=>fdA n 256
 have fd2:∀ n:Nat,(n:Int).fdiv (65536:Int)=((n/65536:Nat):Int):=fun n=>fdA n 65536
 have fd3:∀ n:Nat,(n:Int).fdiv (16777216:Int)=((n/16777216:Nat):Int):=fun n=>fdA n 16777216
 simp(disch:=omega) only[fd0,fd1,fd2,fd3,UJ,w8A] at hr
 have d2:∀ n:Nat,n/65536=n/256/256:=fun n=>by omega
 have d3:∀ n:Nat,n/16777216=n/256/256/256:=fun n=>by omega
 simp only[d2,d3,Nat.mod_mod] at hr
 have hl:cbL c e b t p y r=[UInt8.ofNat (c%256),UInt8.ofNat (c/256%256),UInt8.ofNat (c/256/256%256),UInt8.ofNat (c/256/256/256%256),UInt8.ofNat (e%256),UInt8.ofNat (b%256),UInt8.ofNat (b/256%256),UInt8.ofNat (t%256),UInt8.ofNat (t/256%256),UInt8.ofNat (p%256),UInt8.ofNat (p/256%256),UInt8.ofNat (y%256),UInt8.ofNat (y/256%256),UInt8.ofNat (r%256),UInt8.ofNat (r/256%256),UInt8.ofNat (r/256/256%256)]:=by
  simp only[cbL,leW,List.cons_append,List.nil_append,d2]
 rw[hl]
 exact ZX (d:=1) (Zn (L:=100) Ze (Zc _) (Zd _) 20) hr trivial rfl rfl
theorem Zvi (x:Cp) (h:x.Ok):ConOk Tryz.prog 96 3 (Con.pure [x.val] (.bool (XD x.E x.B x.T x.P x.Y x.R))) :=
 Qj (d:=1) (Yr Ze (by kernel_rfl)) (Zo9 rfl) rfl fun w=>Zit x.C x.E x.B x.T x.P x.Y x.R x.V w h
def rs2C (w a v:Nat) (zs:List UInt8) (f:Nat→Bool) (N m:Nat):Con:=ZhM [.pointer (some ⟨66,0,none⟩),.int .u32 (a:Nat),.int .i64 (w:Nat),.int .u32 (v:Nat)] zs (Xc a (leW w v) zs) f (Yu f (a/16) false) N m
theorem Zzr (w a v:Nat) (zs:List UInt8) (f:Nat→Bool) (N m:Nat) (h:ArK zs N m) (hw:w=1∨w=2∨w=4) (hv:v<4294967296) (ha:a%w=0) (ha2:a+w≤N):ConOk Tryz.prog 43 3 (rs2C w a v zs f N m)∧FlatC (rs2C w a v zs f N m):=by
 have hb:=h.big2; have ht:=h.tags
 have hwr:=ZsL a (leW w v) zs f N m h (by rw[Y1]; exact ha2) (a/16) (by rw[Y1]; omega) (fun i hi=>by
  rw[Y1] at hi
  rcases hw with rfl|rfl|rfl<;>omega)
 have fd0:∀ n:Nat,(n:Int).fdiv (1:Int)=((n:Nat):Int):=fun n=>by rw[show(1:Int)=((1:Nat):Int) from rfl,fdA,Nat.div_one]
 have fd1:∀ n:Nat,(n:Int).fdiv (256:Int)=((n/256:Nat):Int):=fun n=>fdA n 256
 have fd2:∀ n:Nat,(n:Int).fdiv (65536:Int)=((n/65536:Nat):Int):=fun n=>fdA n 65536
 have fd3:∀ n:Nat,(n:Int).fdiv (16777216:Int)=((n/16777216:Nat):Int):=fun n=>fdA n 16777216
 have d2:v/65536=v/256/256:=by omega
 have d3:v/16777216=v/256/256/256:=by omega
 have f1:∀ (zs:List UInt8) (p:Nat→Bool),(u8s zs).all (okV p 3)=true:=fun zs p=>Zj (Zl _)
 have f2:∀ (zs:List UInt8) (σ:Nat→Nat),(u8s zs).map (rnV σ 3)=u8s zs:=fun zs σ=>Zk (Zl _)
 have f5:∀ (p:Nat→Bool),(bls f m).all (okV p 3)=true:=fun p=>Zj (Xk f m)
 have f6:∀ (σ:Nat→Nat),(bls f m).map (rnV σ 3)=bls f m:=fun σ=>Zk (Xk f m)
 rcases hw with rfl|rfl|rfl
 ·have hr:=ZFP.v a v (leW 1 v) zs (Xc a (leW 1 v) zs) f (Yu f (a/16) false) N m
  have hl:leW 1 v=[UInt8.ofNat (v%256)]:=rfl
  refine J5 (Zn (L:=100) Ze (Zo (Zi fun x hx => ?_) (Zc _)) (Zd _) 20) rfl hr ?_ rfl rfl rfl rfl rfl ⟨Nat.le_refl _,Nat.le_refl _⟩
  ·simp only[rxL,List.mem_cons,List.not_mem_nil,or_false] at hx
   rcases hx with rfl|rfl<;>exact hwr
  ·simp only[fd0,fd1,fd2,fd3,w8A,d2,d3,← hl,f1,f2,f5,f6,and_true,true_and,and_self,Nat.le_refl]
 ·have hr:=ZFQ.v a v (leW 2 v) zs (Xc a (leW 2 v) zs) f (Yu f (a/16) false) N m
  have hl:leW 2 v=[UInt8.ofNat (v%256),UInt8.ofNat (v/256%256)]:=rfl
  refine J5 (Zn (L:=100) Ze (Zo (Zi fun x hx => ?_) (Zc _)) (Zd _) 20) rfl hr ?_ rfl rfl rfl rfl rfl ⟨Nat.le_refl _,Nat.le_refl _⟩
  ·simp only[rxL,List.mem_cons,List.not_mem_nil,or_false] at hx
   rcases hx with rfl|rfl<;>exact hwr
  ·simp only[fd0,fd1,fd2,fd3,w8A,d2,d3,← hl,f1,f2,f5,f6,and_true,true_and,and_self,Nat.le_refl]
 ·have hr:=ZFR.v a v (leW 4 v) zs (Xc a (leW 4 v) zs) f (Yu f (a/16) false) N m
  have hl:leW 4 v=[UInt8.ofNat (v%256),UInt8.ofNat (v/256%256),UInt8.ofNat (v/256/256%256),UInt8.ofNat (v/256/256/256%256)]:=rfl
  refine J5 (Zn (L:=100) Ze (Zo (Zi fun x hx => ?_) (Zc _)) (Zd _) 20) rfl hr ?_ rfl rfl rfl rfl rfl ⟨Nat.le_refl _,Nat.le_refl _⟩
  ·simp only[rxL,List.mem_cons,List.not_mem_nil,or_false] at hx
   rcases hx with rfl|rfl<;>exact hwr
  ·simp only[fd0,fd1,fd2,fd3,w8A,d2,d3,← hl,f1,f2,f5,f6,and_true,true_and,and_self,Nat.le_refl]
def Cp.bs (x:Cp):List UInt8:=cbL x.C x.E x.B x.T x.P x.Y x.R
def Cp.snd (x:Cp):Bool:=XD x.E x.B x.T x.P x.Y x.R
def Zvj (a:Nat) (x:Cp) (zs:List UInt8) (f:Nat→Bool) (N m:Nat):Con:=ZhM [.pointer (some ⟨66,0,none⟩),.int .u32 (a:Nat),x.val] zs (Xc a x.bs zs) f (Yu f (a/16) (x.V&&x.snd)) N m
theorem Zvk (f:Nat→Bool) (g:Nat) (a b:Bool):Yu (Yu f g a) g b=Yu f g b:=by
 funext i; unfold Yu; split<;>rfl
theorem Zvl (a:Nat) (x:Cp) (zs:List UInt8) (f:Nat→Bool) (N m:Nat) (h:ArK zs N m) (hx:x.Ok) (ha:a%16=0) (ha2:a+16≤N):ConOk Tryz.prog 45 3 (Zvj a x zs f N m)∧FlatC (Zvj a x zs f N m):=by
 have hb:=h.big2; have ht:=h.tags
 have e16:x.bs.length=16:=Ko _ _ _ _ _ _ _
 have hwr:=ZsL a x.bs zs f N m h (by rw[e16]; exact ha2) (a/16) (by rw[e16]; omega) (fun i hi=>by rw[e16] at hi; omega)
 have et:(a:Int).tmod (16:Int)=((a%16:Nat):Int):=(Int.ofNat_tmod a 16).symm
 have e1:u32.wrap ((a:Int).tdiv (16:Int))=((a/16:Nat):Int):=by rw[WN,UJ _ (by omega)]
 have e2:=Wb a (by omega)
 have e3:i64.wrap ((N:Int)-(16:Int))=((N-16:Nat):Int):=by rw[show(N:Int)-(16:Int)=((N-16:Nat):Int) by omega,Wb _ (by omega)]
 have e0:(((0:Nat):Int) !=(0:Int))=false:=rfl
 have f1:∀ (zs:List UInt8) (p:Nat→Bool),(u8s zs).all (okV p 3)=true:=fun zs p=>Zj (Zl _)
 have f2:∀ (zs:List UInt8) (σ:Nat→Nat),(u8s zs).map (rnV σ 3)=u8s zs:=fun zs σ=>Zk (Zl _)
 have f5:∀ (p:Nat→Bool),(bls f m).all (okV p 3)=true:=fun p=>Zj (Xk f m)
 have f6:∀ (σ:Nat→Nat),(bls f m).map (rnV σ 3)=bls f m:=fun σ=>Zk (Xk f m)
 have hbase:∀ y∈rxL a x.bs zs (Xc a x.bs zs) f (Yu f (a/16) false) N m++rxM x x.bs x.snd,ConOk Tryz.prog y.2.1 3 y.2.2.1∧FlatC y.2.2.1:=fun y hy=>by
  simp only[rxL,rxM,List.cons_append,List.nil_append,List.mem_cons,List.not_mem_nil,or_false] at hy
  rcases hy with rfl|rfl|rfl|rfl
  ·exact hwr
  ·exact hwr
  ·exact⟨Zvh x hx,⟨fun x hx=>by cases hx⟩⟩
  ·exact⟨Zvi x hx,⟨fun x hx=>by cases hx⟩⟩
 have hset:=fun(k:Bool)=>(ZjZ (Yu f (a/16) false) m (a/16) k (by omega)).trans (congrArg (fun q=>bls q m) (Zvk f (a/16) false k))
 cases hv:x.V
 ·have hr:=ZC9.v a x x.bs zs (Xc a x.bs zs) f (Yu f (a/16) false) x.snd N m
  simp only[e1,Int.toNat_natCast,Nat.zero_add,Nat.mul_one] at hr
  have ex:x.val=cpV x.C x.E x.B x.T x.P x.Y x.R false:=by unfold Cp.val Cp.cs cpV; rw[hv]
  unfold Zvj
  rw[ex,hv,Bool.false_and]
  refine J5 (Zn (L:=100) Ze (Zo (Zi hbase) (Zc _)) (Zd _) 20) rfl hr ?_ rfl rfl rfl (hset false) rfl ⟨Nat.le_refl _,Nat.le_refl _⟩
  simp(disch:=omega) only[et,ha,e0,e2,e3,hv,ZhL,f1,f2,f5,f6,decide_eq_true,decide_eq_false,Bool.and_self,Bool.and_true,Bool.not_true,cond_true,and_true,true_and,and_self,Nat.le_refl]
 ·have hr:=ZC8.v a x x.bs zs (Xc a x.bs zs) f (Yu f (a/16) false) x.snd N m
  simp only[e1,Int.toNat_natCast,Nat.zero_add,Nat.mul_one] at hr
  have ex:x.val=cpV x.C x.E x.B x.T x.P x.Y x.R true:=by unfold Cp.val Cp.cs cpV; rw[hv]
  unfold Zvj
  rw[ex,hv,Bool.true_and]
  refine J5 (Zn (L:=100) Ze (Zo (Zi hbase) (Zc _)) (Zd _) 20) rfl hr ?_ rfl rfl rfl (hset x.snd) rfl ⟨Nat.le_refl _,Nat.le_refl _⟩
  simp(disch:=omega) only[et,ha,e0,e2,e3,hv,ZhL,f1,f2,f5,f6,decide_eq_true,decide_eq_false,Bool.and_self,Bool.and_true,Bool.not_true,cond_true,and_true,true_and,and_self,Nat.le_refl]
def wit (a b:Cp):Bool:=Kl a.P b.P a.lo a.hi b.lo b.hi
def Uz (c:Cp) (fr:Nat→Cp) (b:Bool):Nat→Bool
 | 0=>b
 | i+1=>Uz c fr b i||((fr i).V&&wit c (fr i))
def Zia (x c:Cp):Bool:=(x.C:Int)==(c.C:Int)&&((x.E:Int)==(c.E:Int)&&((x.B:Int)==(c.B:Int)&&((x.T:Int)==(c.T:Int)&&((x.P:Int)==(c.P:Int)&&((x.Y:Int)==(c.Y:Int)&&((x.R:Int)==(c.R:Int)&&(x.V==c.V&&true)))))))
def Zgt (c:Cp) (l:List Cp) (b:Bool):Nat→Bool
 | 0=>b
 | j+1=>Zgt c l b j||Zia (l.getD j V0) c
def ZmP (c:Cp):Cp:={ c with V:=c.V&&c.snd }
def Qx (fr:Nat→Cp) (i:Nat):Nat→Cp:=fun j=>if j<i then ZmP (fr j) else fr j
theorem ZDa (fr:Nat→Cp):Qx fr 0=fr:=by funext j; unfold Qx; rw[if_neg (by omega)]
theorem ZsM (fr:Nat→Cp) (i:Nat):Qx fr i i=fr i:=by unfold Qx; rw[if_neg (by omega)]
theorem ZlG (fr:Nat→Cp) (i:Nat):Qx fr (i+1)=frS (Qx fr i) i (ZmP (fr i)):=by
 funext j
 unfold frS Qx
 by_cases h:j=i
 ·subst h; rw[if_pos (by omega),if_pos rfl]
 ·rw[if_neg h]
  by_cases h2:j<i
  ·rw[if_pos (by omega),if_pos h2]
  ·rw[if_neg (by omega),if_neg h2]
theorem ZhN {fr:Nat→Cp} (h:Wc fr) (i:Nat):Wc (Qx fr i):=fun j=>by
 unfold Qx; split
 ·exact h j
 ·exact h j
theorem Zom:∀ l:List Cp,(caL l).length=8*l.length
 | []=>rfl
 | x::l=>by
  show(x.cs++caL l).length=_
  rw[List.length_append,Zom l,Zey,List.length_cons]; omega
theorem ZT (l:List Cp):∀ v∈caL l,Z4 v=true:=fun v hv=>by
 obtain⟨x,_,h⟩:=List.mem_flatMap.1 hv
 exact WW x v h
theorem ZDb:∀ (l:List Cp) (k j:Nat),k<l.length→j<8→ZC undef (caL l) (8*k+j)=ZC undef (l.getD k V0).cs j
 | [],_,_,h,_=>absurd h (Nat.not_lt_zero _)
 | x::l,0,j,_,hj=>by
  show ZC undef (x.cs++caL l) (8*0+j)=ZC undef x.cs j
  rw[XF,XF,Nat.mul_zero,Nat.zero_add,Zhc _ _ _ _ (by rw[Zey]; exact hj)]
 | x::l,k+1,j,h,hj=>by
  show ZC undef (x.cs++caL l) (8*(k+1)+j)=_
  rw[XF,ZcT _ _ _ _ (by rw[Zey]; omega),Zey,show 8*(k+1)+j-8=8*k+j by omega,← XF,ZDb l k j (by simpa using h) hj]
  simp
structure CellsOf (L:List Value) (k:Nat) (x:Cp):Prop where
 c0:Yi (ZC undef L (0+k*8))=(x.C:Nat)
 c1:Yi (ZC undef L (0+k*8+1))=(x.E:Nat)
 c2:Yi (ZC undef L (0+k*8+1+1))=(x.B:Nat)
 c3:Yi (ZC undef L (0+k*8+1+1+1))=(x.T:Nat)
 c4:Yi (ZC undef L (0+k*8+1+1+1+1))=(x.P:Nat)
 c5:Yi (ZC undef L (0+k*8+1+1+1+1+1))=(x.Y:Nat)
 c6:Yi (ZC undef L (0+k*8+1+1+1+1+1+1))=(x.R:Nat)
 c7:VM (ZC undef L (0+k*8+1+1+1+1+1+1+1))=x.V
 d7:VM (ZC undef L (0+k*8+7))=x.V
 h8:WH (0+k*8+8) L=true
 h7:WH (0+k*8+7+1) L=true
 k8:ZF [Value.int u32 (0:Int),Value.int u8 (0:Int),Value.int u16 (0:Int),Value.int u16 (0:Int),Value.int u16 (0:Int),Value.int u16 (0:Int),Value.int u32 (0:Int),Value.bool false] L (0+k*8)=true
 k1:ZF [Value.bool false] L (0+k*8+7)=true
theorem Zon {L:List Value} {k:Nat} {x:Cp} (hl:8*k+8≤L.length) (h:∀ j,j<8→ZC undef L (8*k+j)=ZC undef x.cs j):CellsOf L k x:=by
 have g:∀ n j,j<8→n=8*k+j→ZC undef L n=ZC undef x.cs j:=fun n j hj e=>by rw[e,h j hj]
 refine⟨?_,?_,?_,?_,?_,?_,?_,?_,?_,Zbe _ _ (by omega),Zbe _ _ (by omega),?_,?_⟩
 ·rw[g _ 0 (by omega) (by omega)]; rfl
 ·rw[g _ 1 (by omega) (by omega)]; rfl
 ·rw[g _ 2 (by omega) (by omega)]; rfl
 ·rw[g _ 3 (by omega) (by omega)]; rfl
 ·rw[g _ 4 (by omega) (by omega)]; rfl
 ·rw[g _ 5 (by omega) (by omega)]; rfl
 ·rw[g _ 6 (by omega) (by omega)]; rfl
 ·rw[g _ 7 (by omega) (by omega)]; rfl
 ·rw[g _ 7 (by omega) (by omega)]; rfl
 ·unfold ZF ZF ZF ZF ZF ZF ZF ZF ZF
  rw[g _ 0 (by omega) (by omega),g _ 1 (by omega) (by omega),g _ 2 (by omega) (by omega),g _ 3 (by omega) (by omega),g _ 4 (by omega) (by omega),g _ 5 (by omega) (by omega),g _ 6 (by omega) (by omega),g _ 7 (by omega) (by omega)]
  rfl
 ·unfold ZF ZF
  rw[g _ 7 (by omega) (by omega)]
  rfl
theorem Zbn (fr:Nat→Cp) {k:Nat} (hk:k<17):CellsOf (frL fr) k (fr k):=Zon (by rw[Zex,Zft]; omega) fun j hj=>Zmq fr k j hk hj
theorem Zj1 (l:List Cp) {k:Nat} (hk:k<l.length):CellsOf (caL l) k (l.getD k V0):=Zon (by rw[Zom]; omega) fun j hj=>ZDb l k j hk hj
theorem Zoo (fr:Nat→Cp) (k:Nat) (b:Bool) (hk:k<17):Ym (0+k*8+7) [Value.bool b] (frL fr)=frL (frS fr k { fr k with V:=b }):=by
 rw[← Zmr fr _ k hk]
 have h:∀ (n:Nat) (L:List Value) (c:Cp),(∀ j,j<8→ZC undef L (8*n+j)=ZC undef c.cs j)→8*n+8≤L.length→Ym (8*n+7) [Value.bool b] L=Ym (8*n) ({ c with V:=b }:Cp).cs L:=fun n L c hg hl=>by
  have e:L=L.take (8*n)++L.drop (8*n):=(List.take_append_drop _ _).symm
  have hlt:(L.take (8*n)).length=8*n:=by rw[List.length_take]; omega
  generalize hP:L.take (8*n)=P at *
  generalize hD:L.drop (8*n)=D at *
  subst e
  have s1:=ZcU P D [Value.bool b] 7
  have s2:=ZcU P D ({ c with V:=b }:Cp).cs 0
  rw[hlt] at s1 s2
  rw[s1,show 8*n=8*n+0 by omega,s2]
  have hD8:8≤D.length:=by rw[List.length_append] at hl; omega
  have hgD:∀ j,j<8→ZC undef D j=ZC undef c.cs j:=fun j hj=>by
   rw[← hg j hj,XF,XF,ZcT _ _ _ _ (by omega),hlt,show 8*n+j-8*n=j by omega]
  match D,hD8,hgD with
  | d0::d1::d2::d3::d4::d5::d6::d7::D',_,hgD =>
   have g0:=hgD 0 (by omega); have g1:=hgD 1 (by omega); have g2:=hgD 2 (by omega); have g3:=hgD 3 (by omega); have g4:=hgD 4 (by omega); have g5:=hgD 5 (by omega); have g6:=hgD 6 (by omega)
   simp only[ZC] at g0 g1 g2 g3 g4 g5 g6
   subst g0 g1 g2 g3 g4 g5 g6
   cases D'<;>rfl
 rw[show 0+k*8+7=8*k+7 by omega]
 exact h k (frL fr) (fr k) (fun j hj=>Zmq fr k j hk hj) (by rw[Zex,Zft]; omega)
theorem ZV {h1 l:Sy.Heap} {q:Nat→Bool} {g:Nat} {cs cs':List Value} (hg:q g=true) (hf:∀ v∈cs,Z4 v=true) (hl:Sy.look h1 g=some ⟨true,none,cs',none⟩) (he:cs'=cs) (hn:WS 3 q id h1 l):WS 3 q id h1 ((g,⟨true,none,cs,none⟩)::l):=by
 subst he
 refine⟨⟨hg,Zj hf,rfl,?_⟩,hn⟩
 simp only[id,hl]; exact⟨rfl,rfl,trivial,(Zk hf).symm⟩
theorem Ja {h1 l:Sy.Heap} {q:Nat→Bool} {g:Nat} (h0:q 0=true) (hg:q g=true) (cs:List Cp) (hl:Sy.look h1 g=some ⟨false,some (0,0),caL cs,none⟩) (hn:WS 3 q id h1 l):WS 3 q id h1 ((g,⟨false,some (0,0),caL cs,none⟩)::l):=by
 refine⟨⟨hg,Zj (ZT cs),h0,?_⟩,hn⟩
 simp only[id,hl]; exact⟨rfl,rfl,trivial,(Zk (ZT cs)).symm⟩
theorem wfE {q:Nat→Bool} {l:List (Nat×Value)} (h:l.all (fun x=>okV q 3 x.2)=true):∀ x∈l,okV q 3 x.2=true:=fun x hx=>List.all_eq_true.1 h x hx
theorem Zvm (c:Cp) (fr:Nat→Cp) (l:List Cp) (b:Bool) (hc:c.Ok) (hfr:Wc fr) :
  ∀ k:{ k:Nat // k≤16 },XO Tryz.prog 55 (ZK Tryz.prog 17 0) ((fmI 0 c fr l (Uz c fr b k.1) k.1).fr 55) (.exit 0) ((fmF 0 c fr l (Uz c fr b 16)).fr 55):=by
 have wf:∀ (b:Bool) (k:Nat),(fmI 0 c fr l b k).Wf:=fun b k=>⟨by show 64≤67; omega,Sf.Ok.mk' 3 ⟨⟨rfl,rfl,ZB (ZO _)⟩,⟨rfl,rfl,ZB (WW _)⟩,trivial⟩ rfl (wfE (by rfl))⟩
 have fo:∀ (b:Bool),(fmF 0 c fr l b).Ok (YD 67 67 id (fun l=>Nat.blt l 67)):=fun b=>Sf.Ok.mk' 3 ⟨⟨rfl,rfl,ZB (ZO _)⟩,⟨rfl,rfl,ZB (WW _)⟩,trivial⟩ rfl (wfE (by rfl))
 refine VL (L:=100) (QD _ _ 17) (fun _ h=>h) (X:={ k:Nat // k≤16 }) (fun k=>fmI 0 c fr l (Uz c fr b k.1) k.1) (fun _=>fmF 0 c fr l (Uz c fr b 16)) (fun _ => .exit 0) (fun k=>16-k.1) (fun k=>wf _ _) ?_
 rintro⟨k,hk⟩
 by_cases hlt:k<16
 ·have e3:i64.wrap ((k:Int)+(1:Int))=((k+1:Nat):Int):=Z7 k (by omega)
  have d1:decide ((k:Int)<(16:Int))=true:=decide_eq_true (by omega)
  have d2:decide ((0:Int)≤(k:Int))=true:=decide_eq_true (by omega)
  have hn:Uz c fr b (k+1)=(Uz c fr b k||((fr k).V&&wit c (fr k))):=rfl
  obtain⟨c0,c1,c2,c3,c4,c5,c6,c7,d7,h8,h7,k8,k1⟩:=Zbn fr (show k<17 by omega)
  generalize Uz c fr b k=B at *
  cases B
  ·cases hV:(fr k).V
   ·have hn':Uz c fr b (k+1)=false:=by rw[hn,hV]; rfl
    have hr:=ZFF.v c fr l k
    simp only[e3] at hr
    refine⟨_,_,_,_,.normal,_,3,fun l=>Nat.blt l 67,id,Zn (L:=100) Ze (Zc _) (Zd _) 20,hr,?_,.inl ⟨rfl,⟨k+1,by omega⟩,by show 16-(k+1)<16-k; omega,rfl,rfl,rfl,?_⟩⟩
    ·simp only[Int.toNat_natCast,d1,d2,hV,c0,c1,c2,c3,c4,c5,c6,c7,d7,h8,h7,k8,k1,Bool.and_self,cond_true,and_true,true_and,and_self]
    ·show Sf.Leads 3 _ _ _ _ (fmI 0 c fr l (Uz c fr b (k+1)) (k+1)) _
     rw[hn']
     exact⟨fun _ _=>rfl,(ZV rfl (ZO _) rfl rfl (ZV rfl (WW _) rfl rfl trivial)),rfl,trivial,by repeat' (first|exact trivial|refine⟨⟨by kernel_rfl,by kernel_rfl⟩,?_⟩),Nat.le_refl _,fun l hl=>ZY hl,fo _,fun x _ _ => .inl rfl⟩
   ·have hn':Uz c fr b (k+1)=wit c (fr k):=by rw[hn,hV]; rfl
    have hr:=ZFG.v c fr l k (fr k) (wit c (fr k))
    simp only[e3] at hr
    refine⟨_,_,_,_,.normal,_,3,fun l=>Nat.blt l 67,id,Zn (L:=100) Ze (Zo (Zi fun x hx=>by
     obtain rfl:=List.mem_singleton.1 hx
     exact⟨ZdP c (fr k) hc (hfr k),⟨fun x hx=>by cases hx⟩⟩) (Zc _)) (Zd _) 20,hr,?_,.inl ⟨rfl,⟨k+1,by omega⟩,by show 16-(k+1)<16-k; omega,rfl,rfl,rfl,?_⟩⟩
    ·simp only[Int.toNat_natCast,d1,d2,hV,c0,c1,c2,c3,c4,c5,c6,c7,d7,h8,h7,k8,k1,Bool.and_self,cond_true,and_true,true_and,and_self]
    ·show Sf.Leads 3 _ _ _ _ (fmI 0 c fr l (Uz c fr b (k+1)) (k+1)) _
     rw[hn']
     exact⟨fun _ _=>rfl,(ZV rfl (ZO _) rfl rfl (ZV rfl (WW _) rfl rfl trivial)),rfl,trivial,by repeat' (first|exact trivial|refine⟨⟨by kernel_rfl,by kernel_rfl⟩,?_⟩),Nat.le_refl _,fun l hl=>ZY hl,fo _,fun x _ _ => .inl rfl⟩
  ·have hn':Uz c fr b (k+1)=true:=by rw[hn]; rfl
   have hr:=ZFE.v c fr l k
   simp only[e3] at hr
   refine⟨_,_,_,_,.normal,_,3,fun l=>Nat.blt l 67,id,Zn (L:=100) Ze (Zc _) (Zd _) 20,hr,?_,.inl ⟨rfl,⟨k+1,by omega⟩,by show 16-(k+1)<16-k; omega,rfl,rfl,rfl,?_⟩⟩
   ·simp only[d1,Bool.and_self,cond_true,and_true,true_and,and_self]
   ·show Sf.Leads 3 _ _ _ _ (fmI 0 c fr l (Uz c fr b (k+1)) (k+1)) _
    rw[hn']
    exact⟨fun _ _=>rfl,(ZV rfl (ZO _) rfl rfl (ZV rfl (WW _) rfl rfl trivial)),rfl,trivial,by repeat' (first|exact trivial|refine⟨⟨by kernel_rfl,by kernel_rfl⟩,?_⟩),Nat.le_refl _,fun l hl=>ZY hl,fo _,fun x _ _ => .inl rfl⟩
 ·have hkk:k=16:=by omega
  subst hkk
  have hr:=ZFH.v c fr l 16 (Uz c fr b 16)
  refine⟨_,_,_,_,.exit 0,_,3,fun l=>Nat.blt l 67,id,Zn (L:=100) Ze (Zc _) (Zd _) 20,hr,?_,.inr ⟨by simp,rfl,rfl,?_⟩⟩
  ·exact⟨trivial,rfl⟩
  ·exact⟨fun _ _=>rfl,(ZV rfl (ZO _) rfl rfl (ZV rfl (WW _) rfl rfl trivial)),rfl,trivial,by repeat' (first|exact trivial|refine⟨⟨by kernel_rfl,by kernel_rfl⟩,?_⟩),Nat.le_refl _,fun l hl=>ZY hl,fo _,fun x _ _ => .inl rfl⟩
theorem Zvn (c:Cp) (fr:Nat→Cp) (l:List Cp) (b:Bool) (hc:c.Ok) (hfr:Wc fr) :
  ∀ k:{ k:Nat // k≤16 },XO Tryz.prog 55 (ZK Tryz.prog 17 0) ((fmI 2 c fr l (Uz c fr b k.1) k.1).fr 55) (.exit 0) ((fmF 2 c fr l (Uz c fr b 16)).fr 55):=by
 have wf:∀ (b:Bool) (k:Nat),(fmI 2 c fr l b k).Wf:=fun b k=>⟨by show 64≤67; omega,Sf.Ok.mk' 3 ⟨⟨rfl,rfl,ZB (ZO _)⟩,⟨rfl,rfl,ZB (WW _)⟩,⟨rfl,rfl,ZB (ZT _)⟩,trivial⟩ rfl (wfE (by rfl))⟩
 have fo:∀ (b:Bool),(fmF 2 c fr l b).Ok (YD 67 67 id (fun l=>Nat.blt l 67)):=fun b=>Sf.Ok.mk' 3 ⟨⟨rfl,rfl,ZB (ZO _)⟩,⟨rfl,rfl,ZB (WW _)⟩,⟨rfl,rfl,ZB (ZT _)⟩,trivial⟩ rfl (wfE (by rfl))
 refine VL (L:=100) (QD _ _ 17) (fun _ h=>h) (X:={ k:Nat // k≤16 }) (fun k=>fmI 2 c fr l (Uz c fr b k.1) k.1) (fun _=>fmF 2 c fr l (Uz c fr b 16)) (fun _ => .exit 0) (fun k=>16-k.1) (fun k=>wf _ _) ?_
 rintro⟨k,hk⟩
 by_cases hlt:k<16
 ·have e3:i64.wrap ((k:Int)+(1:Int))=((k+1:Nat):Int):=Z7 k (by omega)
  have d1:decide ((k:Int)<(16:Int))=true:=decide_eq_true (by omega)
  have d2:decide ((0:Int)≤(k:Int))=true:=decide_eq_true (by omega)
  have hn:Uz c fr b (k+1)=(Uz c fr b k||((fr k).V&&wit c (fr k))):=rfl
  obtain⟨c0,c1,c2,c3,c4,c5,c6,c7,d7,h8,h7,k8,k1⟩:=Zbn fr (show k<17 by omega)
  generalize Uz c fr b k=B at *
  cases B
  ·cases hV:(fr k).V
   ·have hn':Uz c fr b (k+1)=false:=by rw[hn,hV]; rfl
    have hr:=ZFJ.v c fr l k
    simp only[e3] at hr
    refine⟨_,_,_,_,.normal,_,3,fun l=>Nat.blt l 67,id,Zn (L:=100) Ze (Zc _) (Zd _) 20,hr,?_,.inl ⟨rfl,⟨k+1,by omega⟩,by show 16-(k+1)<16-k; omega,rfl,rfl,rfl,?_⟩⟩
    ·simp only[Int.toNat_natCast,d1,d2,hV,c0,c1,c2,c3,c4,c5,c6,c7,d7,h8,h7,k8,k1,Bool.and_self,cond_true,and_true,true_and,and_self]
    ·show Sf.Leads 3 _ _ _ _ (fmI 2 c fr l (Uz c fr b (k+1)) (k+1)) _
     rw[hn']
     exact⟨fun _ _=>rfl,(ZV rfl (ZO _) rfl rfl (ZV rfl (WW _) rfl rfl (Ja rfl rfl l rfl trivial))),rfl,trivial,by repeat' (first|exact trivial|refine⟨⟨by kernel_rfl,by kernel_rfl⟩,?_⟩),Nat.le_refl _,fun l hl=>ZY hl,fo _,fun x _ _ => .inl rfl⟩
   ·have hn':Uz c fr b (k+1)=wit c (fr k):=by rw[hn,hV]; rfl
    have hr:=ZFK.v c fr l k (fr k) (wit c (fr k))
    simp only[e3] at hr
    refine⟨_,_,_,_,.normal,_,3,fun l=>Nat.blt l 67,id,Zn (L:=100) Ze (Zo (Zi fun x hx=>by
     obtain rfl:=List.mem_singleton.1 hx
     exact⟨ZdP c (fr k) hc (hfr k),⟨fun x hx=>by cases hx⟩⟩) (Zc _)) (Zd _) 20,hr,?_,.inl ⟨rfl,⟨k+1,by omega⟩,by show 16-(k+1)<16-k; omega,rfl,rfl,rfl,?_⟩⟩
    ·simp only[Int.toNat_natCast,d1,d2,hV,c0,c1,c2,c3,c4,c5,c6,c7,d7,h8,h7,k8,k1,Bool.and_self,cond_true,and_true,true_and,and_self]
    ·show Sf.Leads 3 _ _ _ _ (fmI 2 c fr l (Uz c fr b (k+1)) (k+1)) _
     rw[hn']
     exact⟨fun _ _=>rfl,(ZV rfl (ZO _) rfl rfl (ZV rfl (WW _) rfl rfl (Ja rfl rfl l rfl trivial))),rfl,trivial,by repeat' (first|exact trivial|refine⟨⟨by kernel_rfl,by kernel_rfl⟩,?_⟩),Nat.le_refl _,fun l hl=>ZY hl,fo _,fun x _ _ => .inl rfl⟩
  ·have hn':Uz c fr b (k+1)=true:=by rw[hn]; rfl
   have hr:=ZFI.v c fr l k
   simp only[e3] at hr
   refine⟨_,_,_,_,.normal,_,3,fun l=>Nat.blt l 67,id,Zn (L:=100) Ze (Zc _) (Zd _) 20,hr,?_,.inl ⟨rfl,⟨k+1,by omega⟩,by show 16-(k+1)<16-k; omega,rfl,rfl,rfl,?_⟩⟩
   ·simp only[d1,Bool.and_self,cond_true,and_true,true_and,and_self]
   ·show Sf.Leads 3 _ _ _ _ (fmI 2 c fr l (Uz c fr b (k+1)) (k+1)) _
    rw[hn']
    exact⟨fun _ _=>rfl,(ZV rfl (ZO _) rfl rfl (ZV rfl (WW _) rfl rfl (Ja rfl rfl l rfl trivial))),rfl,trivial,by repeat' (first|exact trivial|refine⟨⟨by kernel_rfl,by kernel_rfl⟩,?_⟩),Nat.le_refl _,fun l hl=>ZY hl,fo _,fun x _ _ => .inl rfl⟩
 ·have hkk:k=16:=by omega
  subst hkk
  have hr:=ZFL.v c fr l 16 (Uz c fr b 16)
  refine⟨_,_,_,_,.exit 0,_,3,fun l=>Nat.blt l 67,id,Zn (L:=100) Ze (Zc _) (Zd _) 20,hr,?_,.inr ⟨by simp,rfl,rfl,?_⟩⟩
  ·exact⟨trivial,rfl⟩
  ·exact⟨fun _ _=>rfl,(ZV rfl (ZO _) rfl rfl (ZV rfl (WW _) rfl rfl (Ja rfl rfl l rfl trivial))),rfl,trivial,by repeat' (first|exact trivial|refine⟨⟨by kernel_rfl,by kernel_rfl⟩,?_⟩),Nat.le_refl _,fun l hl=>ZY hl,fo _,fun x _ _ => .inl rfl⟩
theorem Zzs (c:Cp) (l:List Cp) (b:Bool) (hl:l.length<4096) :
  ∀ k:{ k:Nat // k≤l.length },XO Tryz.prog 55 (ZK Tryz.prog 17 1) ((fnI c l (Zgt c l b k.1) k.1).fr 55) (.exit 2) ((fnF (Zgt c l b l.length)).fr 55):=by
 have wf:∀ (b:Bool) (k:Nat),(fnI c l b k).Wf:=fun b k=>⟨by show 64≤67; omega,Sf.Ok.mk' 3 ⟨⟨rfl,rfl,ZB (WW _)⟩,⟨rfl,rfl,ZB (ZT _)⟩,trivial⟩ rfl (wfE (by rfl))⟩
 have fo:∀ (b:Bool),(fnF b).Ok (YD 67 67 id (fun l=>Nat.blt l 67)):=fun b=>Sf.Ok.mk' 3 trivial rfl (wfE (by rfl))
 refine VL (L:=100) (QD _ _ 17) (fun _ h=>h) (X:={ k:Nat // k≤l.length }) (fun k=>fnI c l (Zgt c l b k.1) k.1) (fun _=>fnF (Zgt c l b l.length)) (fun _ => .exit 2) (fun k=>l.length-k.1) (fun k=>wf _ _) ?_
 rintro⟨k,hk⟩
 by_cases hlt:k<l.length
 ·have e3:i64.wrap ((k:Int)+(1:Int))=((k+1:Nat):Int):=Z7 k (by omega)
  have d1:decide ((k:Int)<(l.length:Int))=true:=decide_eq_true (by omega)
  have d2:decide ((0:Int)≤(k:Int))=true:=decide_eq_true (by omega)
  have hn:Zgt c l b (k+1)=(Zgt c l b k||Zia (l.getD k V0) c):=rfl
  obtain⟨c0,c1,c2,c3,c4,c5,c6,c7,d7,h8,h7,k8,k1⟩:=Zj1 l hlt
  generalize Zgt c l b k=B at *
  cases B
  ·have hn':Zgt c l b (k+1)=Zia (l.getD k V0) c:=by rw[hn]; rfl
   have hr:=fn_c.v c l k
   simp only[e3,Int.toNat_natCast,c0,c1,c2,c3,c4,c5,c6,c7,d7,h8,h7,k8,k1] at hr
   refine⟨_,_,_,_,.normal,_,3,fun l=>Nat.blt l 67,id,Zn (L:=100) Ze (Zc _) (Zd _) 20,hr,?_,.inl ⟨rfl,⟨k+1,by omega⟩,by show l.length-(k+1)<l.length-k; omega,rfl,rfl,rfl,?_⟩⟩
   ·simp only[d1,d2,Bool.and_self,cond_true,and_true,true_and,and_self]
   ·show Sf.Leads 3 _ _ _ _ (fnI c l (Zgt c l b (k+1)) (k+1)) _
    rw[hn']
    exact⟨fun _ _=>rfl,(ZV rfl (WW _) rfl rfl (Ja rfl rfl l rfl trivial)),rfl,trivial,by repeat' (first|exact trivial|refine⟨⟨by kernel_rfl,by kernel_rfl⟩,?_⟩),Nat.le_refl _,fun l hl=>ZY hl,fo _,fun x _ _ => .inl rfl⟩
  ·have hn':Zgt c l b (k+1)=true:=by rw[hn]; rfl
   have hr:=fn_t.v c l k
   simp only[e3] at hr
   refine⟨_,_,_,_,.normal,_,3,fun l=>Nat.blt l 67,id,Zn (L:=100) Ze (Zc _) (Zd _) 20,hr,?_,.inl ⟨rfl,⟨k+1,by omega⟩,by show l.length-(k+1)<l.length-k; omega,rfl,rfl,rfl,?_⟩⟩
   ·simp only[d1,Bool.and_self,cond_true,and_true,true_and,and_self]
   ·show Sf.Leads 3 _ _ _ _ (fnI c l (Zgt c l b (k+1)) (k+1)) _
    rw[hn']
    exact⟨fun _ _=>rfl,(ZV rfl (WW _) rfl rfl (Ja rfl rfl l rfl trivial)),rfl,trivial,by repeat' (first|exact trivial|refine⟨⟨by kernel_rfl,by kernel_rfl⟩,?_⟩),Nat.le_refl _,fun l hl=>ZY hl,fo _,fun x _ _ => .inl rfl⟩
 ·have hkk:k=l.length:=by omega
  subst hkk
  have hr:=fn_e.v c l l.length (Zgt c l b l.length)
  have d1:decide ((l.length:Int)<(l.length:Int))=false:=decide_eq_false (by omega)
  refine⟨_,_,_,_,.exit 2,_,3,fun l=>Nat.blt l 67,id,Zn (L:=100) Ze (Zc _) (Zd _) 20,hr,?_,.inr ⟨by simp,rfl,rfl,?_⟩⟩
  ·simp only[d1,and_self]
  ·exact⟨fun _ _=>rfl,trivial,rfl,trivial,by repeat' (first|exact trivial|refine⟨⟨by kernel_rfl,by kernel_rfl⟩,?_⟩),Nat.le_refl _,fun l hl=>ZY hl,fo _,fun x _ _ => .inl rfl⟩
theorem Zzt (fr:Nat→Cp) (hfr:Wc fr) :
  ∀ k:{ k:Nat // k≤16 },XO Tryz.prog 35 (ZK Tryz.prog 15 0) ((snI (Qx fr k.1) k.1).fr 35) (.exit 0) ((snF (Qx fr 16)).fr 35):=by
 have hz:∀ v∈frZ,Z4 v=true:=ZO frN
 have wf:∀ (fr:Nat→Cp) (k:Nat),(snI fr k).Wf:=fun fr k=>⟨by show 64≤66; omega,Sf.Ok.mk' 3 ⟨⟨rfl,rfl,ZB hz⟩,⟨rfl,rfl,ZB (ZO _)⟩,trivial⟩ rfl (wfE (by rfl))⟩
 have fo:∀ (fr:Nat→Cp),(snF fr).Ok (YD 66 66 id (fun l=>Nat.blt l 66)):=fun fr=>Sf.Ok.mk' 3 ⟨⟨rfl,rfl,ZB hz⟩,⟨rfl,rfl,ZB (ZO _)⟩,trivial⟩ rfl (wfE (by rfl))
 refine VL (L:=100) (QD _ _ 15) (fun _ h=>h) (X:={ k:Nat // k≤16 }) (fun k=>snI (Qx fr k.1) k.1) (fun _=>snF (Qx fr 16)) (fun _ => .exit 0) (fun k=>16-k.1) (fun k=>wf _ _) ?_
 rintro⟨k,hk⟩
 by_cases hlt:k<16
 ·have e3:i64.wrap ((k:Int)+(1:Int))=((k+1:Nat):Int):=Z7 k (by omega)
  have d1:decide ((k:Int)<(16:Int))=true:=decide_eq_true (by omega)
  have d2:decide ((0:Int)≤(k:Int))=true:=decide_eq_true (by omega)
  have hn:=ZlG fr k
  have hat:=ZsM fr k
  have hk17:k<17:=by omega
  obtain⟨c0,c1,c2,c3,c4,c5,c6,c7,d7,h8,h7,k8,k1⟩:=Zbn (Qx fr k) hk17
  rw[hat] at c0 c1 c2 c3 c4 c5 c6 c7 d7
  cases hV:(fr k).V
  ·have hn':Ym (0+k*8+7) [Value.bool false] (frL (Qx fr k))=frL (Qx fr (k+1)):=by
    rw[Zoo _ _ _ hk17,hn,hat]; unfold ZmP; rw[hV]; rfl
   have hr:=sn_f.v (Qx fr k) k
   simp only[e3,Int.toNat_natCast,hn'] at hr
   refine⟨_,_,_,_,.normal,_,3,fun l=>Nat.blt l 66,id,Zn (L:=100) Ze (Zc _) (Zd _) 20,hr,?_,.inl ⟨rfl,⟨k+1,by omega⟩,by show 16-(k+1)<16-k; omega,rfl,rfl,rfl,?_⟩⟩
   ·simp only[d1,d2,hV,c0,c1,c2,c3,c4,c5,c6,c7,d7,h8,h7,k8,k1,Bool.and_self,cond_true,and_true,true_and,and_self]
   ·exact⟨fun _ _=>rfl,(ZV rfl hz rfl rfl (ZV rfl (ZO _) rfl rfl trivial)),rfl,trivial,by repeat' (first|exact trivial|refine⟨⟨by kernel_rfl,by kernel_rfl⟩,?_⟩),Nat.le_refl _,fun l hl=>ZY hl,fo _,fun x _ _ => .inl rfl⟩
  ·have hn':Ym (0+k*8+7) [Value.bool (fr k).snd] (frL (Qx fr k))=frL (Qx fr (k+1)):=by
    rw[Zoo _ _ _ hk17,hn,hat]; unfold ZmP; rw[hV]; rfl
   have hr:=sn_c.v (Qx fr k) k (fr k) (fr k).snd
   simp only[e3,Int.toNat_natCast,hn'] at hr
   refine⟨_,_,_,_,.normal,_,3,fun l=>Nat.blt l 66,id,Zn (L:=100) Ze (Zo (Zi fun x hx=>by
     obtain rfl:=List.mem_singleton.1 hx
     exact⟨ZcS (fr k) (hfr k),⟨fun x hx=>by cases hx⟩⟩) (Zc _)) (Zd _) 20,hr,?_,.inl ⟨rfl,⟨k+1,by omega⟩,by show 16-(k+1)<16-k; omega,rfl,rfl,rfl,?_⟩⟩
   ·simp only[d1,d2,hV,c0,c1,c2,c3,c4,c5,c6,c7,d7,h8,h7,k8,k1,Bool.and_self,cond_true,and_true,true_and,and_self]
   ·exact⟨fun _ _=>rfl,(ZV rfl hz rfl rfl (ZV rfl (ZO _) rfl rfl trivial)),rfl,trivial,by repeat' (first|exact trivial|refine⟨⟨by kernel_rfl,by kernel_rfl⟩,?_⟩),Nat.le_refl _,fun l hl=>ZY hl,fo _,fun x _ _ => .inl rfl⟩
 ·have hkk:k=16:=by omega
  subst hkk
  have hr:=sn_e.v (Qx fr 16) 16
  refine⟨_,_,_,_,.exit 0,_,3,fun l=>Nat.blt l 66,id,Zn (L:=100) Ze (Zc _) (Zd _) 20,hr,?_,.inr ⟨by simp,rfl,rfl,?_⟩⟩
  ·exact⟨trivial,rfl⟩
  ·exact⟨fun _ _=>rfl,(ZV rfl hz rfl rfl (ZV rfl (ZO _) rfl rfl trivial)),rfl,trivial,by repeat' (first|exact trivial|refine⟨⟨by kernel_rfl,by kernel_rfl⟩,?_⟩),Nat.le_refl _,fun l hl=>ZY hl,fo _,fun x _ _ => .inl rfl⟩
def ZA6 (g:Nat) (zs:List UInt8) (f:Nat→Bool) (N m n:Nat) (tl:List Nat):Con:=⟨[.pointer (some ⟨67,0,none⟩),.int .i64 (g:Nat)],68,arW false zs f N m n,arO N n,.slice (some ⟨68,0,none⟩) tl.length (big+68),69,[(68,⟨false,some (0,0),Zb8 tl,none⟩)],[]⟩
def tgE (g:Nat) (out:Value) (k:Nat):List (Nat×Value):=[(0,.pointer (some ⟨67,0,none⟩)),(4,.slice none 0 0),(5,out),(6,.int .i64 (16*g:Nat)),(20,.int .i64 (k:Nat))]
def tgN (g:Nat) (zs:List UInt8) (f:Nat→Bool) (N m n:Nat) (k:Nat):Sf:=⟨68,tgE g (.slice none 0 0) k,arW false zs f N m n,arO N n⟩
def tgO (l:List Nat):Sy.Blk:=⟨true,some (68,1),Zb8 l,none⟩
def tgY (g:Nat) (zs:List UInt8) (f:Nat→Bool) (N m n:Nat) (l:List Nat) (k:Nat):Sf:=⟨69,tgE g (.slice (some ⟨68,0,none⟩) l.length (big+68)) k,(68,tgO l)::arW false zs f N m n,(68,l.length)::arO N n⟩
def XX (a b:Nat):=ZnP (ZP a) b
def JZ (a:Nat):=ZnQ (ZnC a)
def J0 (a b:Nat) (c:Nat→Bool) (d:Nat):=ZaS a b (Zgb c d)
def Ze3 (a b:Nat):=(XX a b).toNat
def J1 (a:Nat) (b:List UInt8):=ZaS 64 a (u8s b)
def ZdY:=Bx.mk (And.intro @XX.eq_1 (And.intro @JZ.eq_1 (And.intro @J0.eq_1 (And.intro @Ze3.eq_1 @J1.eq_1))))
theorem Zvo (g:Nat) (zs:List UInt8) (f:Nat→Bool) (N:Nat) (m:Nat) (n:Nat) (k:Nat):evC Tryz.prog (evF Tryz.prog (Zah 3 (ZjK m n f)) Zf 100 20) (Zf 47) 41 100 (ZK Tryz.prog 47 0) (Sf.frT 41 (tgN g zs f N m n k) [(0,true),Zdh])=Y8 41 [(0,Qe),(4,WB),(5,WB),Yv 6 (16*g),Yv 7 k,Yz 20 k,KZ 21 (X7 k),Yv 22 k,(23,Qe),(24,Qe),(25,Qe),(26,Vm),Yv 27 (16*g),Yv 28 k,(29,JM (XX (16*g) k)),KZ 30 (f (Ze3 (16*g) k)),Yz 39 k] 68 [(67,JZ N),(66,Kn m n),(65,J0 65 1 f n),(64,J1 1 zs)] [(65,n),(64,N)] 2 (QK (VC (KL (X7 k=true)) (ZS≤XX (16*g) k∧XX (16*g) k<ZP m) XR (Y7 (XX (16*g) k)) Zh (XG m n m f n) (VD f n (fun l=>l.blt 68) Zh f n f n) (Zh∧n≤n)) (f (Ze3 (16*g) k))):=by kernel_rfl
def ZDc:=Bx.mk (by have h := @Zvo; simp(maxSteps:=99999999) only[ZL.v, ZN.v, Z3.v, ZR.v, Qc.v, Qz.v, ZjN.v, Qa.v, ZaR.v, VH.v, Uy.v, ZdY.v, -eq_self] at h; exact h)
def ZhO (a b:Int):=u32.wrap (Zg5 a b)
def K1 (a:Nat):=ZkY 69 0 a 9223372036854775877
def Ze4:=Bx.mk (And.intro @ZhO.eq_1 @K1.eq_1)
theorem Zvp (g:Nat) (zs:List UInt8) (f:Nat→Bool) (N:Nat) (m:Nat) (n:Nat) (k:Nat):evC Tryz.prog (evF Tryz.prog (Zah 3 (ZjK m n f)) Zf 100 20) (Zf 47) 41 100 (ZK Tryz.prog 47 0) (Sf.frT 41 (tgN g zs f N m n k) [(0,true),(1,true)])=Y8 41 [(0,Qe),(4,WB),(5,K1 1),Yv 6 (16*g),Yv 7 k,Yz 20 k,KZ 21 (X7 k),Yv 22 k,(23,Qe),(24,Qe),(25,Qe),(26,Vm),Yv 27 (16*g),Yv 28 k,(29,JM (XX (16*g) k)),KZ 30 (f (Ze3 (16*g) k)),(31,WB),Yv 32 (16*g),Yv 33 k,(34,JM (XX (16*g) k)),(35,JM (Zg5 (XX (16*g) k) YL)),(36,YG (ZhO (XX (16*g) k) YL)),(37,ZkY 68 0 1 1),(38,K1 1),Yz 39 k] 70 [(69,UT 69 [YG (ZhO (XX (16*g) k) YL)]),(68,Yn [YG (ZhO (XX (16*g) k) YL)]),(67,JZ N),(66,Kn m n),(65,J0 65 1 f n),(64,J1 1 zs)] [(69,1),(65,n),(64,N)] 2 (VC (KL (X7 k=true)) (ZS≤XX (16*g) k∧XX (16*g) k<ZP m) XR (Y7 (XX (16*g) k)) Zh (XG m n m f n) (VD f n (fun l=>l.blt 68) Zh f n f n) (Zh∧n≤n)∧f (Ze3 (16*g) k)=true):=by kernel_rfl
def ZDd:=Bx.mk (by have h := @Zvp; simp(maxSteps:=99999999) only[ZL.v, ZZ.v, ZN.v, Z3.v, ZR.v, Qc.v, Qa.v, ZaR.v, VH.v, Uy.v, ZdY.v, Ze4.v, -eq_self] at h; exact h)
theorem Zvq (g:Nat) (zs:List UInt8) (f:Nat→Bool) (N:Nat) (m:Nat) (n:Nat) (k:Nat):evC Tryz.prog (evF Tryz.prog (Zah 3 (ZjK m n f)) Zf 100 20) (Zf 47) 41 100 (ZK Tryz.prog 47 0) (Sf.frT 41 (tgN g zs f N m n k) Uu)=K0 0 41 [(0,Qe),(4,WB),(5,WB),Yv 6 (16*g),Yv 20 k,KZ 21 (X7 k)] 68 [(67,JZ N),(66,Kn m n),(65,J0 65 1 f n),(64,J1 1 zs)] [(65,n),(64,N)] [] 1 (ZfY k):=by kernel_rfl
def ZDe:=Bx.mk (by have h := @Zvq; simp(maxSteps:=99999999) only[ZL.v, ZN.v, ZR.v, Qc.v, Qz.v, ZeW.v, Qa.v, ZaR.v, Zcy.v, VH.v, Uy.v, ZdY.v, -eq_self] at h; exact h)
def Zgh (a b c:Nat):=ZkY a b c 9223372036854775876
def YO:=Bx.mk @Zgh.eq_1
theorem Zvr (g:Nat) (zs:List UInt8) (f:Nat→Bool) (N:Nat) (m:Nat) (n:Nat) (l:List Nat) (k:Nat):evC Tryz.prog (evF Tryz.prog (Zah 3 (ZjK m n f)) Zf 100 20) (Zf 47) 41 100 (ZK Tryz.prog 47 0) (Sf.frT 41 (tgY g zs f N m n l k) [(0,true),Zdh])=Y8 41 [(0,Qe),(4,WB),(5,Zgh 68 0 l.length),Yv 6 (16*g),Yv 7 k,Yz 20 k,KZ 21 (X7 k),Yv 22 k,(23,Qe),(24,Qe),(25,Qe),(26,Vm),Yv 27 (16*g),Yv 28 k,(29,JM (XX (16*g) k)),KZ 30 (f (Ze3 (16*g) k)),Yz 39 k] 69 [(68,UT 68 (Zb8 l)),(67,JZ N),(66,Kn m n),(65,J0 65 1 f n),(64,J1 1 zs)] [(68,l.length),(65,n),(64,N)] 2 (QK (VC (KL (X7 k=true)) (ZS≤XX (16*g) k∧XX (16*g) k<ZP m) XR (Y7 (XX (16*g) k)) Zh (XG m n m f n) (JF f n (fun l=>l.blt 68) 69) (Zh∧n≤n)) (f (Ze3 (16*g) k))):=by kernel_rfl
def ZDf:=Bx.mk (by have h := @Zvr; simp(maxSteps:=99999999) only[ZL.v, ZN.v, Z3.v, ZR.v, Qc.v, Qz.v, ZjN.v, Qa.v, ZaR.v, VH.v, Uy.v, ZdY.v, YO.v, -eq_self] at h; exact h)
def Zop (a:Nat):=a.blt 4611686018427387904
def UA (a b:Nat):=ZkY 70 a b 9223372036854775878
def Zgi:=Bx.mk (And.intro @Zop.eq_1 @UA.eq_1)
theorem Zvs (g:Nat) (zs:List UInt8) (f:Nat→Bool) (N:Nat) (m:Nat) (n:Nat) (l:List Nat) (k:Nat):evC Tryz.prog (evF Tryz.prog (Zah 3 (ZjK m n f)) Zf 100 20) (Zf 47) 41 100 (ZK Tryz.prog 47 0) (Sf.frT 41 (tgY g zs f N m n l k) [(0,true),(1,true)])=Y8 41 [(0,Qe),(4,WB),(5,UA 0 (l.length+1)),Yv 6 (16*g),Yv 7 k,Yz 20 k,KZ 21 (X7 k),Yv 22 k,(23,Qe),(24,Qe),(25,Qe),(26,Vm),Yv 27 (16*g),Yv 28 k,(29,JM (XX (16*g) k)),KZ 30 (f (Ze3 (16*g) k)),(31,Zgh 68 0 l.length),Yv 32 (16*g),Yv 33 k,(34,JM (XX (16*g) k)),(35,JM (Zg5 (XX (16*g) k) YL)),(36,YG (ZhO (XX (16*g) k) YL)),(37,ZkY 69 0 1 1),(38,UA 0 (l.length+1)),Yz 39 k] 71 [(70,UT 70 (Zb8 l++[YG (ZhO (XX (16*g) k) YL)])),(69,Yn [YG (ZhO (XX (16*g) k) YL)]),(67,JZ N),(66,Kn m n),(65,J0 65 1 f n),(64,J1 1 zs)] [(70,l.length+1),(68,l.length),(65,n),(64,N)] 2 (K4 ((Qv (Zb8 l)).beq (l.length*1)) (((l.length+1)*4).ble 1099511627776&&Zop (l.length+1)) (VC (KL (X7 k=true)) (ZS≤XX (16*g) k∧XX (16*g) k<ZP m) XR (Y7 (XX (16*g) k)) Zh (XG m n m f n) (JF f n (fun l=>l.blt 68) 69) (Zh∧n≤n)∧f (Ze3 (16*g) k)=true)):=by kernel_rfl
def ZDg:=Bx.mk (by have h := @Zvs; simp(maxSteps:=99999999) only[ZL.v, ZZ.v, ZN.v, Z3.v, ZR.v, Qc.v, Qa.v, ZaR.v, VH.v, Uy.v, ZdY.v, Ze4.v, YO.v, Zgi.v, -eq_self] at h; exact h)
theorem Zvt (g:Nat) (zs:List UInt8) (f:Nat→Bool) (N:Nat) (m:Nat) (n:Nat) (l:List Nat) (k:Nat):evC Tryz.prog (evF Tryz.prog (Zah 3 (ZjK m n f)) Zf 100 20) (Zf 47) 41 100 (ZK Tryz.prog 47 0) (Sf.frT 41 (tgY g zs f N m n l k) Uu)=K0 0 41 [(0,Qe),(4,WB),(5,Zgh 68 0 l.length),Yv 6 (16*g),Yv 20 k,KZ 21 (X7 k)] 69 [(68,UT 68 (Zb8 l)),(67,JZ N),(66,Kn m n),(65,J0 65 1 f n),(64,J1 1 zs)] [(68,l.length),(65,n),(64,N)] [] 1 (ZfY k):=by kernel_rfl
def ZDh:=Bx.mk (by have h := @Zvt; simp(maxSteps:=99999999) only[ZL.v, ZN.v, ZR.v, Qc.v, Qz.v, ZeW.v, Qa.v, ZaR.v, Zcy.v, VH.v, Uy.v, ZdY.v, YO.v, -eq_self] at h; exact h)
def toσ (m g:Nat) (l:Nat):Nat:=if l=m then g else l
def tgK (f:Nat→Bool) (g:Nat):Nat→List Nat
 | 0=>[]
 | k+1=>bif f (16*g+k) then tgK f g k++[(16*g+k)*16] else tgK f g k
theorem ZfB (f:Nat→Bool) (g:Nat):∀ k,(tgK f g k).length≤k
 | 0=>Nat.le_refl _
 | k+1=>by
  have:=ZfB f g k
  unfold tgK
  cases f (16*g+k)
  ·show(tgK f g k).length≤k+1; omega
  ·show(tgK f g k++[_]).length≤k+1; rw[List.length_append]; simp; omega
def tgS (g:Nat) (zs:List UInt8) (f:Nat→Bool) (N m n:Nat):List Nat→Nat→Sf
 | [],k=>tgN g zs f N m n k
 | x::l,k=>tgY g zs f N m n (x::l) k
def tgP (l:List Nat):Sy.Blk:=⟨true,some (69,1),Zb8 l,none⟩
def tgF:List Nat→Sf
 | []=>⟨68,[(5,.slice none 0 0)],[],[]⟩
 | x::l=>⟨70,[(5,.slice (some ⟨69,0,none⟩) (x::l).length (big+69))],[(69,tgP (x::l))],[(69,(x::l).length)]⟩
theorem Zzu (g:Nat) (zs:List UInt8) (f:Nat→Bool) (N m n:Nat) (l:List Nat) (k:Nat) (h:l≠[]):tgS g zs f N m n l k=tgY g zs f N m n l k:=by
 cases l with
 | nil=>exact absurd rfl h
 | cons x l=>rfl
theorem ZsN (l:List Nat) (x:Nat):Zb8 l++[Value.int .u32 (x:Int)]=Zb8 (l++[x]):=by simp[Zb8]
theorem ZiN (l:List Nat) (a:Nat) (ha:a≤69) (σ:Nat→Nat) (p:Nat→Bool):(tgF l).Ok (YD a (tgF l).n σ p):=by
 cases l with
 | nil=>exact Sf.Ok.mk' 3 trivial rfl (fun x hx=>by obtain rfl:=List.mem_singleton.1 hx; rfl)
 | cons x l =>
  have hq:YD a 70 σ p 69=true:=by
   show(Nat.blt 69 NG||(bif Nat.blt 69 a then(Nat.beq (σ 69) 69&&p 69) else Nat.blt 69 70))=true
   rw[ZY (show a≤69 from ha)]; rfl
  refine Sf.Ok.mk' 3 ⟨⟨hq,hq,ZB (Qt _)⟩,trivial⟩ (by show(YD a 70 σ p 69&&true)=true; rw[hq]; rfl) (fun y hy => ?_)
  obtain rfl:=List.mem_singleton.1 hy
  show okV (YD a 70 σ p) 3 (.slice (some ⟨69,0,none⟩) (x::l).length (big+69))=true
  simp[okV,JA,hq,big]
theorem ZDi (g:Nat) (zs:List UInt8) (f:Nat→Bool) (N m n:Nat) (l:List Nat) (k:Nat):(tgS g zs f N m n l k).Wf:=by
 cases l with
 | nil=>exact⟨by show 64≤68; omega,Sf.Ok.mk' 3 (W0 Zfe false zs f N m n) rfl (fun x hx=>by
   simp only[tgS,tgN,tgE,List.mem_cons,List.not_mem_nil,or_false] at hx
   rcases hx with rfl|rfl|rfl|rfl|rfl<;>rfl)⟩
 | cons x l=>exact⟨by show 64≤69; omega,Sf.Ok.mk' 3 ⟨⟨rfl,rfl,ZB (Qt _)⟩,W0 (fun l hl=>by show Nat.blt l 69=true; exact Qq (by omega)) false zs f N m n⟩ rfl (fun x hx=>by
   simp only[tgS,tgY,tgE,List.mem_cons,List.not_mem_nil,or_false] at hx
   rcases hx with rfl|rfl|rfl|rfl|rfl<;>rfl)⟩
theorem X8 {h1:Sy.Heap} {p:Nat→Bool} {σ:Nat→Nat} (hp:∀ l,l<68→p l=true) (hs:∀ l,l<68→σ l=l) (zs:List UInt8) (f:Nat→Bool) (N m n:Nat) (h67:Sy.look h1 67=some ⟨false,none,[.pointer (some ⟨66,0,none⟩),.slice (some ⟨64,0,none⟩) N (big+64)],none⟩) (h66:Sy.look h1 66=some ⟨false,none,[.int .i64 (m:Nat),.slice (some ⟨65,0,none⟩) n (big+65)],none⟩)
  (h65:Sy.look h1 65=some ⟨false,some (65,1),v64 (Za f n),none⟩) (h64:Sy.look h1 64=some ⟨false,some (64,1),u8s zs,none⟩):WS 3 p σ h1 (arW false zs f N m n):=by
 have hr:∀ l:List Value,(∀ w∈l,okV (fun l=>Nat.blt l 68) 3 w=true)→l.map (rnV σ 3)=l:=fun l hl=>by
  rw[List.map_congr_left (g:=id) (fun w hw=>Znr (p:=fun l=>Nat.blt l 68) (fun l hl=>hs l (by simpa using hl)) 3 w (hl w hw))]
  simp
 have hc:=WM (q:=fun l=>Nat.blt l 68) Zfe N m n
 have hcp:=WM (q:=p) hp N m n
 refine⟨⟨hp 67 (by omega),List.all_eq_true.2 hcp.1,rfl,?_⟩,⟨hp 66 (by omega),List.all_eq_true.2 hcp.2,rfl,?_⟩,⟨hp 65 (by omega),Zj (Zm _),hp 65 (by omega),?_⟩,⟨hp 64 (by omega),Zj (Zl zs),hp 64 (by omega),?_⟩,trivial⟩
 ·show match Sy.look h1 (σ 67) with|none=>False|some k1=>_
  rw[hs 67 (by omega),h67]; exact⟨rfl,rfl,trivial,(hr _ hc.1).symm⟩
 ·show match Sy.look h1 (σ 66) with|none=>False|some k1=>_
  rw[hs 66 (by omega),h66]; exact⟨rfl,rfl,trivial,(hr _ hc.2).symm⟩
 ·show match Sy.look h1 (σ 65) with|none=>False|some k1=>_
  rw[hs 65 (by omega),h65]
  refine⟨rfl,?_,trivial,(Zk (Zm _)).symm⟩
  show(opB (some (65,1)) (some (σ 65,1))||_)=true
  rw[hs 65 (by omega)]; rfl
 ·show match Sy.look h1 (σ 64) with|none=>False|some k1=>_
  rw[hs 64 (by omega),h64]
  refine⟨rfl,?_,trivial,(Zk (Zl _)).symm⟩
  show(opB (some (64,1)) (some (σ 64,1))||_)=true
  rw[hs 64 (by omega)]; rfl
theorem ZsO (l:List Nat):(Zb8 l).length=l.length:=by simp[Zb8]
theorem Zzv (g:Nat) (zs:List UInt8) (f:Nat→Bool) (N m n:Nat) (h:ArOk zs N m n) (hg:(g+1)*256≤N) :
  ∀ k:{ k:Nat // k≤16 },XO Tryz.prog 41 (ZK Tryz.prog 47 0) ((tgS g zs f N m n (tgK f g k.1) k.1).fr 41) (.exit 0) ((tgF (tgK f g 16)).fr 41):=by
 obtain⟨hl,h1,h2,h3,h4⟩:=h
 have v1:∀ (σ:Nat→Nat),(v64 (Za f n)).map (rnV σ 3)=v64 (Za f n):=fun σ=>Zk (Zm _)
 have v2:∀ (p:Nat→Bool),(v64 (Za f n)).all (okV p 3)=true:=fun p=>Zj (Zm _)
 refine Zgo (L:=100) (QD _ _ 47) (fun _ h=>h) (X:={ k:Nat // k≤16 }) (fun k=>tgS g zs f N m n (tgK f g k.1) k.1) (fun _=>tgF (tgK f g 16)) (fun _ => .exit 0) (fun k=>16-k.1) (fun k=>ZDi _ _ _ _ _ _ _ _) ?_
 rintro⟨k,hk⟩
 have hbase:=Zn (L:=100) Ze (Jg (Zn0 m n f h2 h3)) (Zd _) 20
 have hroW:∀ (σ:Nat→Nat),(∀ l,l<68→σ l=l)→∀ y∈arW false zs f N m n,σ y.1=y.1:=fun σ hσ y hy=>by
  simp only[arW,List.mem_cons,List.not_mem_nil,or_false] at hy
  rcases hy with rfl|rfl|rfl|rfl
  ·exact hσ 67 (by omega)
  ·exact hσ 66 (by omega)
  ·exact hσ 65 (by omega)
  ·exact hσ 64 (by omega)
 by_cases hlt:k<16
 ·have e1:i64.wrap (((16*g:Nat):Int)+(k:Int))=((16*g+k:Nat):Int):=by rw[ZdN,Wb _ (by omega)]
  have e2:u32.wrap (i64.wrap (((16*g+k:Nat):Int)*(16:Int)))=(((16*g+k)*16:Nat):Int):=by rw[show((16*g+k:Nat):Int)*(16:Int)=(((16*g+k)*16:Nat):Int) by omega,Wb _ (by omega),UJ _ (by omega)]
  have e5:i64.wrap ((k:Int)+(1:Int))=((k+1:Nat):Int):=Z7 k (by omega)
  have b1:(0:Int)≤((16*g+k:Nat):Int):=by omega
  have b2:((16*g+k:Nat):Int)<(m:Int):=by omega
  have d1:decide ((k:Int)<(16:Int))=true:=decide_eq_true (by omega)
  have hlen:=ZfB f g k
  by_cases hL:tgK f g k=[]
  ·have hI:tgS g zs f N m n (tgK f g k) k=tgN g zs f N m n k:=by rw[hL]; rfl
   show ∃ call T e g' d p σ,Zv Tryz.prog call∧evC Tryz.prog call _ 41 100 _ (Sf.frT 41 (tgS g zs f N m n (tgK f g k) k) T)=some (e,g')∧_
   rw[hI]
   cases hf:f (16*g+k)
   ·have hnext:tgK f g (k+1)=[]:=by unfold tgK; rw[hf,hL]; rfl
    have hr:=ZDc.v g zs f N m n k
    simp only[e1,e2,e5,Int.toNat_natCast] at hr
    refine⟨_,_,.normal,_,3,fun l=>Nat.blt l 68,id,hbase,hr,?_,.inl ⟨rfl,⟨k+1,by omega⟩,by show 16-(k+1)<16-k; omega,rfl,rfl,?_⟩⟩
    ·simp only[b1,b2,d1,hf,v1,v2,Qk,and_true,true_and,and_self,Nat.le_refl]
    ·show Sf.Leads 3 _ _ _ _ (tgS g zs f N m n (tgK f g (k+1)) (k+1)) _
     rw[hnext]
     exact⟨fun _ _=>rfl,X8 Zfe (fun _ _=>rfl) zs f N m n rfl rfl rfl rfl,rfl,⟨⟨rfl,Nat.le_refl _⟩,⟨rfl,Nat.le_refl _⟩,trivial⟩,⟨⟨by kernel_rfl,by kernel_rfl⟩,⟨by kernel_rfl,by kernel_rfl⟩,⟨by kernel_rfl,by kernel_rfl⟩,⟨by kernel_rfl,by kernel_rfl⟩,⟨by kernel_rfl,by kernel_rfl⟩,trivial⟩,Nat.le_refl _,fun l hl=>ZY hl,ZiN _ _ (by show 68≤69; omega) _ _,fun x _ _ => .inl rfl⟩
   ·have hnext:tgK f g (k+1)=[(16*g+k)*16]:=by unfold tgK; rw[hf,hL]; rfl
    have hr:=ZDd.v g zs f N m n k
    simp only[e1,e2,e5,Int.toNat_natCast] at hr
    refine⟨_,_,.normal,_,3,fun l=>Nat.blt l 69,toσ 68 69,hbase,hr,?_,.inl ⟨rfl,⟨k+1,by omega⟩,by show 16-(k+1)<16-k; omega,rfl,rfl,?_⟩⟩
    ·simp only[b1,b2,d1,hf,v1,v2,Qk,and_true,true_and,and_self,Nat.le_refl]
    ·show Sf.Leads 3 _ _ _ _ (tgS g zs f N m n (tgK f g (k+1)) (k+1)) _
     rw[hnext]
     refine⟨fun l hl=>if_neg (by have:NG=64:=rfl; omega),⟨⟨rfl,Zj (Qt _),rfl,?_⟩,X8 (fun l hl=>by show Nat.blt l 69=true; exact Qq (by omega)) (fun l hl=>if_neg (by omega)) zs f N m n rfl rfl rfl rfl⟩,rfl,⟨⟨rfl,?_⟩,⟨rfl,Nat.le_refl _⟩,⟨rfl,Nat.le_refl _⟩,trivial⟩,?_,by show 68≤69; omega,fun l hl=>ZY hl,ZiN _ _ (by show 68≤69; omega) _ _,fun y hy hrw => ?_⟩
     ·exact⟨rfl,rfl,trivial,by show _=List.map _ (Zb8 _); rw[Zk (Qt _)]; try rfl⟩
     ·exact Nat.le_refl _
     ·exact⟨⟨by kernel_rfl,by kernel_rfl⟩,⟨by kernel_rfl,by kernel_rfl⟩,⟨by kernel_rfl,by kernel_rfl⟩,⟨by kernel_rfl,by kernel_rfl⟩,⟨by kernel_rfl,by kernel_rfl⟩,trivial⟩
     ·rcases List.mem_cons.1 hy with rfl|hy
      ·cases hrw
      ·left; exact hroW (toσ 68 69) (fun l hl=>if_neg (by omega)) y hy
  ·have hI:tgS g zs f N m n (tgK f g k) k=tgY g zs f N m n (tgK f g k) k:=Zzu _ _ _ _ _ _ _ _ hL
   show ∃ call T e g' d p σ,Zv Tryz.prog call∧evC Tryz.prog call _ 41 100 _ (Sf.frT 41 (tgS g zs f N m n (tgK f g k) k) T)=some (e,g')∧_
   rw[hI]
   cases hf:f (16*g+k)
   ·have hnext:tgK f g (k+1)=tgK f g k:=by show(bif f (16*g+k) then _ else _)=_; rw[hf]; rfl
    have hr:=ZDf.v g zs f N m n (tgK f g k) k
    simp only[e1,e2,e5,Int.toNat_natCast] at hr
    refine⟨_,_,.normal,_,3,fun l=>Nat.blt l 69,toσ 68 68,hbase,hr,?_,.inl ⟨rfl,⟨k+1,by omega⟩,by show 16-(k+1)<16-k; omega,rfl,rfl,?_⟩⟩
    ·simp only[b1,b2,d1,hf,v1,v2,Qk,and_true,true_and,and_self,Nat.le_refl]
    ·show Sf.Leads 3 _ _ _ _ (tgS g zs f N m n (tgK f g (k+1)) (k+1)) _
     rw[hnext,Zzu _ _ _ _ _ _ _ _ hL]
     refine⟨fun l hl=>if_neg (by have:NG=64:=rfl; omega),⟨⟨rfl,Zj (Qt _),rfl,?_⟩,X8 (fun l hl=>by show Nat.blt l 69=true; exact Qq (by omega)) (fun l hl=>if_neg (by omega)) zs f N m n rfl rfl rfl rfl⟩,rfl,⟨⟨rfl,?_⟩,⟨rfl,Nat.le_refl _⟩,⟨rfl,Nat.le_refl _⟩,trivial⟩,?_,by show 69≤69; omega,fun l hl=>ZY hl,ZiN _ _ (by show 69≤69; omega) _ _,fun y hy hrw => ?_⟩
     ·exact⟨rfl,rfl,trivial,by show _=List.map _ (Zb8 _); rw[Zk (Qt _)]; try rfl⟩
     ·exact Nat.le_refl _
     ·exact⟨⟨by kernel_rfl,by kernel_rfl⟩,⟨by kernel_rfl,by kernel_rfl⟩,⟨by kernel_rfl,by kernel_rfl⟩,⟨by kernel_rfl,by kernel_rfl⟩,⟨by kernel_rfl,by kernel_rfl⟩,trivial⟩
     ·rcases List.mem_cons.1 hy with rfl|hy
      ·cases hrw
      ·left; exact hroW (toσ 68 68) (fun l hl=>if_neg (by omega)) y hy
   ·have hnext:tgK f g (k+1)=tgK f g k++[(16*g+k)*16]:=by show(bif f (16*g+k) then _ else _)=_; rw[hf]; rfl
    have hr:=ZDg.v g zs f N m n (tgK f g k) k
    simp only[e1,e2,e5,Int.toNat_natCast,ZsN] at hr
    have hn1:(tgK f g k).length+1=(tgK f g k++[(16*g+k)*16]).length:=by rw[List.length_append]; rfl
    refine⟨_,_,.normal,_,3,fun l=>Nat.blt l 69,toσ 68 70,hbase,hr,?_,.inl ⟨rfl,⟨k+1,by omega⟩,by show 16-(k+1)<16-k; omega,rfl,rfl,?_⟩⟩
    ·show cond _ _ _
     rw[Z1,ZsO,Nat.mul_one,Nat.beq_refl]
     show cond _ _ _
     rw[Nat.ble_eq_true_of_le (by omega),Qq (by omega)]
     simp only[b1,b2,d1,hf,v1,v2,Qk,Bool.and_self,cond_true,and_true,true_and,and_self,Nat.le_refl]
    ·show Sf.Leads 3 _ _ _ _ (tgS g zs f N m n (tgK f g (k+1)) (k+1)) _
     rw[hnext,Zzu _ _ _ _ _ _ _ _ (by simp)]
     refine⟨fun l hl=>if_neg (by have:NG=64:=rfl; omega),⟨⟨rfl,Zj (Qt _),rfl,?_⟩,X8 (fun l hl=>by show Nat.blt l 69=true; exact Qq (by omega)) (fun l hl=>if_neg (by omega)) zs f N m n rfl rfl rfl rfl⟩,rfl,⟨⟨rfl,?_⟩,⟨rfl,Nat.le_refl _⟩,⟨rfl,Nat.le_refl _⟩,trivial⟩,?_,by show 69≤69; omega,fun l hl=>ZY hl,ZiN _ _ (by show 69≤69; omega) _ _,fun y hy hrw => ?_⟩
     ·exact⟨rfl,rfl,trivial,by show _=List.map _ (Zb8 _); rw[Zk (Qt _)]; try rfl⟩
     ·exact Nat.le_of_eq hn1.symm
     ·rw[hn1]; exact⟨⟨by kernel_rfl,by kernel_rfl⟩,⟨by kernel_rfl,by kernel_rfl⟩,⟨by kernel_rfl,by kernel_rfl⟩,⟨by kernel_rfl,by kernel_rfl⟩,⟨by kernel_rfl,by kernel_rfl⟩,trivial⟩
     ·rcases List.mem_cons.1 hy with rfl|hy
      ·cases hrw
      ·left; exact hroW (toσ 68 70) (fun l hl=>if_neg (by omega)) y hy
 ·have hkk:k=16:=by omega
  subst hkk
  show ∃ call T e g' d p σ,Zv Tryz.prog call∧evC Tryz.prog call _ 41 100 _ (Sf.frT 41 (tgS g zs f N m n (tgK f g 16) 16) T)=some (e,g')∧g'.s.O∧(_∨(e ≠ .normal∧e = .exit 0∧Sf.Leads d p σ (tgS g zs f N m n (tgK f g 16) 16) g' (tgF (tgK f g 16)) (tgF (tgK f g 16))))
  generalize tgK f g 16=L
  cases L with
  | nil =>
   have hr:=ZDe.v g zs f N m n 16
   exact⟨_,_,.exit 0,_,3,fun l=>Nat.blt l 68,id,hbase,hr,⟨trivial,rfl⟩,.inr ⟨by simp,rfl,⟨fun _ _=>rfl,trivial,rfl,trivial,⟨⟨by kernel_rfl,by kernel_rfl⟩,trivial⟩,Nat.le_refl _,fun l hl=>ZY hl,ZiN _ _ (by show 68≤69; omega) _ _,fun x hx=>by cases hx⟩⟩⟩
  | cons x l =>
   have hr:=ZDh.v g zs f N m n (x::l) 16
   refine⟨_,_,.exit 0,_,3,fun l=>Nat.blt l 70,toσ 69 68,hbase,hr,⟨trivial,rfl⟩,.inr ⟨by simp,rfl,⟨fun l hl=>if_neg (by have:NG=64:=rfl; omega),⟨⟨rfl,Zj (Qt _),rfl,?_⟩,trivial⟩,rfl,⟨⟨rfl,Nat.le_refl _⟩,trivial⟩,⟨⟨by kernel_rfl,by kernel_rfl⟩,trivial⟩,by show 69≤70; omega,fun l hl=>ZY hl,ZiN _ _ (by show 69≤69; omega) _ _,fun y hy hrw => ?_⟩⟩⟩
   ·exact⟨rfl,rfl,trivial,(Zk (Qt _)).symm⟩
   ·obtain rfl:=List.mem_singleton.1 hy; cases hrw
def tgFy (tl:List Nat):Sf:=⟨70,[(5,.slice (some ⟨69,0,none⟩) tl.length (big+69))],[(69,tgP tl)],[(69,tl.length)]⟩
def ZFS (g:Nat) (zs:List UInt8) (f:Nat→Bool) (N m n:Nat) (tl:List Nat) (h:ArOk zs N m n) (hg:(g+1)*256≤N) (ht:tgK f g 16=tl) (hne:tl≠[]):Ent Tryz.prog :=
 Zke Tryz.prog 47 0 41 (tgN g zs f N m n 0) (.exit 0) (tgFy tl) (by kernel_rfl) (by kernel_rfl) (by
  have:=Zzv g zs f N m n h hg ⟨0,by omega⟩
  have e:tgF (tgK f g 16)=tgFy tl:=by
   rw[ht]
   cases tl with
   | nil=>exact absurd rfl hne
   | cons x l=>rfl
  rw[e] at this
  exact this)
def YA:=Qw WB
def Wd:=Bx.mk @YA.eq_1
theorem ZDj (g:Nat) (zs:List UInt8) (f:Nat→Bool) (N:Nat) (m:Nat) (n:Nat) (tl:List Nat) (h:ArOk zs N m n) (hg:(g+1)*256≤N) (ht:tgK f g 16=tl) (hne:tl≠[]):evF Tryz.prog Zg (Yt [ZFS g zs f N m n tl h hg ht hne]) 100 40 47 [Qe,Vc g] (Zh3 68 (VB zs f N m n) (arO N n) [ZfS 13] 0)=XP (K1 tl.length) 70 [(69,UT 69 (Zb8 tl)),(67,JZ N),(66,Kn m n),(65,J0 65 1 f n),(64,J1 1 zs)] [(69,tl.length),(65,n),(64,N)] 14 (JG (X3 (Zk7 (ZP g) (ZeI N QR))) (Zde Yo YA YA (ZrE (VZ (ZeH g)) (16*g)) Qp) (JG (Xg (ZhB N)) (Xg (ZhA m n)) (Xg (ZfN f n (Zgb f n))) (Xg (Ze0 zs zs))) (VP (n≤n) (N≤N))):=by kernel_rfl
def tg_y:=Bx.mk (by have h := @ZDj; simp(maxSteps:=99999999) only[ZL.v, ZN.v, ZR.v, Qc.v, Qz.v, Zz.v, VH.v, Y2.v, ZdY.v, Ze4.v, Wd.v, -eq_self] at h; exact h)
theorem ZsP (g:Nat) (zs:List UInt8) (f:Nat→Bool) (N m n:Nat) (tl:List Nat) (h:ArOk zs N m n) (hg:(g+1)*256≤N) (ht:tgK f g 16=tl) (hne:tl≠[]):ConOk Tryz.prog 47 3 (ZA6 g zs f N m n tl):=by
 obtain⟨hl,h1,h2,h3,h4⟩:=h
 have hr:=tg_y.v g zs f N m n tl ⟨hl,h1,h2,h3,h4⟩ hg ht hne
 have e1:i64.wrap ((i64.wrap ((g:Int)*(256:Int))).tdiv (16:Int))=((16*g:Nat):Int):=by
  rw[show(g:Int)*(256:Int)=((g*256:Nat):Int) by omega,Wb _ (by omega),WN,Wb _ (by omega)]
  omega
 have e2:i64.wrap ((N:Int).tdiv (256:Int))=((N/256:Nat):Int):=by rw[show(N:Int).tdiv (256:Int)=((N/256:Nat):Int) from(Int.ofNat_tdiv N 256).symm,Wb _ (by omega)]
 refine Qi (Zn (L:=100) Ze (Zc _) (X0 _) 40) ⟨by show 64≤68; omega,by show 68≤69; omega,W0 Zfe false zs f N m n,rfl,rfl,rfl,rfl,rfl,fun x hx v hv => ?_⟩ hr ?_ (p:=fun l=>Nat.blt l 69) (σ:=toσ 68 69) ⟨fun l hl=>if_neg (by have:NG=64:=rfl; omega),⟨⟨rfl,Zj (Qt _),rfl,?_⟩,trivial⟩,rfl,trivial,⟨rfl,by kernel_rfl⟩,rfl,⟨⟨rfl,rfl,ZB (Qt _)⟩,trivial⟩,rfl,QQ 3 _ rfl,fun x hx hrw => ?_⟩
 ·obtain rfl:=List.mem_singleton.1 hx
  exact QP (Qt _ v hv) 3
 ·simp only[e1,e2,and_true,true_and,and_self,Nat.le_refl]
  exact decide_eq_false (by omega)
 ·exact⟨rfl,rfl,trivial,(Zk (Qt _)).symm⟩
 ·obtain rfl:=List.mem_singleton.1 hx
  right; rfl
theorem ZsQ (f:Nat→Bool) (g:Nat):∀ k,tgK f g k=[]→∀ i,i<k→f (16*g+i)=false
 | 0,_,_,h=>absurd h (Nat.not_lt_zero _)
 | k+1,h,i,hi=>by
  unfold tgK at h
  cases hf:f (16*g+k)
  ·rw[hf] at h
   rcases Nat.lt_or_ge i k with h1|h1
   ·exact ZsQ f g k h i h1
   ·rw[show i=k by omega]; exact hf
  ·rw[hf] at h
   have:tgK f g k++[(16*g+k)*16]=[]:=h
   simp at this
def lcL (a:Nat) (l:List UInt8) (k:Bool) (x:Cp) (m n:Nat) (f:Nat→Bool):Sy.Steps:=[(70,98,ZEz (a/16) m n f,[64,65,66,67]),(69,98,ZEz (a/16) m n f,[64,65,66,67]),(70,99,Con.pure [.string ⟨⟨l⟩⟩,.bool k] (.tuple ⟨[x.val,.bool true]⟩),[]),(69,99,Con.pure [.string ⟨⟨l⟩⟩,.bool k] (.tuple ⟨[x.val,.bool true]⟩),[])]
def ZhP (a:Nat) (b:Int):=ZfR (ZP a) b
def ZiO (a:Int) (b c:Nat):=Zco a (ZhP b QR) (ZP c)
def ZaU (a b:Nat):=Zdb (u16.wrap (ZiO ZS a b))
def Zoq (a:Int):=ZnV (u8.wrap a)
def ZDk:=Bx.mk (And.intro @ZhP.eq_1 (And.intro @ZiO.eq_1 (And.intro @ZaU.eq_1 @Zoq.eq_1)))
theorem Zzw (b0:UInt8) (b1:UInt8) (b2:UInt8) (b3:UInt8) (b4:UInt8) (b5:UInt8) (b6:UInt8) (b7:UInt8) (b8:UInt8) (b9:UInt8) (b10:UInt8) (b11:UInt8) (b12:UInt8) (b13:UInt8) (b14:UInt8) (b15:UInt8) (c:Cp) (k:Bool):obs (evF Tryz.prog (Zs 3 (Zb [(94,46,Zls [c.val] k,[])]) Zg) Zf 100 20 99 [Xd [b0,b1,b2,b3,b4,b5,b6,b7,b8,b9,b10,b11,b12,b13,b14,b15],Vn] (Ks [] 0))=Wg [Zcf (YG (ZiO (V4 (Zcp (ZP b3.toNat)) (ZhP b2.toNat Km)) b1.toNat b0.toNat)) (Zoq (V4 ZS (ZP b4.toNat))) (ZaU b6.toNat b5.toNat) (ZaU b8.toNat b7.toNat) (ZaU b10.toNat b9.toNat) (ZaU b12.toNat b11.toNat) (YG (Zco (V4 ZS (ZhP b14.toNat QR)) (ZP b13.toNat) (V4 ZS (ZP b15.toNat)*Km))) k,Vn] (ZhJ (Zcf (YG (ZiO (V4 (Zcp (ZP b3.toNat)) (ZhP b2.toNat Km)) b1.toNat b0.toNat)) (Zoq (V4 ZS (ZP b4.toNat))) (ZaU b6.toNat b5.toNat) (ZaU b8.toNat b7.toNat) (ZaU b10.toNat b9.toNat) (ZaU b12.toNat b11.toNat) (YG (V4 (ZiO ZS b14.toNat b13.toNat) (V4 ZS (ZP b15.toNat)*Km))) false=ZI c.C c.E c.B c.T c.P c.Y c.R c.V)):=by kernel_rfl
def ZFT:=Bx.mk (by have h := @Zzw; simp(maxSteps:=99999999) only[ZL.v, ZZ.v, ZN.v, Z3.v, QH.v, ZR.v, ZD.v, Ql.v, QY.v, J3.v, Qz.v, ZuX.v, Q7.v, ZDk.v, -eq_self] at h; exact h)
theorem Zzx (b0:UInt8) (b1:UInt8) (b2:UInt8) (b3:UInt8) (b4:UInt8) (b5:UInt8) (b6:UInt8) (b7:UInt8) (b8:UInt8) (b9:UInt8) (b10:UInt8) (b11:UInt8) (b12:UInt8) (b13:UInt8) (b14:UInt8) (b15:UInt8) (c:Cp) (k:Bool):obs (evF Tryz.prog (Zs 3 (Zb [(94,46,Zls [c.val] k,[])]) Zg) Zf 100 20 99 [Xd [b0,b1,b2,b3,b4,b5,b6,b7,b8,b9,b10,b11,b12,b13,b14,b15],KQ] (Ks [] 0))=Wg [Zcf (YG (V4 (Zco (Zcp (ZP b3.toNat)) (ZhP b2.toNat Km) (ZhP b1.toNat QR)) (ZP b0.toNat))) (Zoq (V4 ZS (ZP b4.toNat))) (ZaU b6.toNat b5.toNat) (ZaU b8.toNat b7.toNat) (ZaU b10.toNat b9.toNat) (ZaU b12.toNat b11.toNat) (YG (V4 (ZiO ZS b14.toNat b13.toNat) (V4 ZS (ZP b15.toNat)*Km))) false,Vn] True:=by kernel_rfl
def ZFU:=Bx.mk (by have h := @Zzx; simp(maxSteps:=99999999) only[ZL.v, ZZ.v, ZN.v, Z3.v, Qb.v, QH.v, Ql.v, QY.v, J3.v, Qz.v, ZuX.v, ZDk.v, -eq_self] at h; exact h)
theorem Zzy (a:Nat) (zs:List UInt8) (f:Nat→Bool) (N:Nat) (m:Nat) (n:Nat) (l:List UInt8) (k:Bool) (x:Cp):obs (evF Tryz.prog (Zs 3 (Zb (lcL a l k x m n f)) Zg) Zf 100 40 48 [Qe,Qo a] (Kr zs f N m n N n 34 12884901383))=Wg [ZI x.C x.E x.B x.T x.P x.Y x.R x.V,Vn] (XS (Zc1 (K4 ((ZaI (Zcl (Ze2 (ZP a+YL)) a) (0+WY a) (u8s zs)).all Zwq) (WH (0+WY a+Zcl (Ze2 (ZP a+YL)) a) (u8s zs)) (K4 (Jr a (JE (ZP a) (Ze2 (ZP a+YL)))) (Vd (u32.wrap (ZP a+YL)) (JE (u32.wrap (ZP a+YL)) N)) (QK (Zck (Zck (ZfP (ZfO (Um (V3 (ZiC (Zhn (UY ((KS a==ZS)=true)) ((KS a==ZS)=true)) Zh))) N) N N) N N N N) N N N N∧(KS a==ZS)=true) (!decide (V2 a≤KR N YL)))∧(Zgc a).blt N=true)) (Wz (VP XR (ZeG a (a/16))) (Zdd Zh (XG m n m f n) (JF f n (fun l=>l.blt 68) 70)) (Zh∧n≤n))) (Xd (List.map ZAU (ZaI (Zcl (Ze2 (ZP a+YL)) a) (0+WY a) (u8s zs)))=Xd l) (ZeE (f (a/16)) k)):=by kernel_rfl
def ZFV:=Bx.mk (by have h := @Zzy; simp(maxSteps:=99999999) only[ZL.v, ZZ.v, ZN.v, Z3.v, Qb.v, QH.v, ZR.v, Qc.v, Ql.v, Y9.v, Zzq.v, -eq_self] at h; exact h)
def ofS (l:List UInt8) (v:Bool):Cp :=
 ⟨ZxX l 0,byA l 4,byA l 6*256+byA l 5,byA l 8*256+byA l 7,byA l 10*256+byA l 9,byA l 12*256+byA l 11,byA l 14*256+byA l 13+byA l 15*65536,
  v&&XD (byA l 4) (byA l 6*256+byA l 5) (byA l 8*256+byA l 7) (byA l 10*256+byA l 9) (byA l 12*256+byA l 11) (byA l 14*256+byA l 13+byA l 15*65536)⟩
theorem orB (x y k:Nat) (hx:x<2^k) (hy:y%2^k=0) (h:x+y<4294967296):bits .or .u32 (x:Int) (y:Int)=((x+y:Nat):Int):=by
 show u32.wrap ((BitVec.ofInt 32 (x:Int)|||BitVec.ofInt 32 (y:Int)).toNat:Int)=_
 rw[BitVec.toNat_or,BitVec.ofInt_natCast,BitVec.ofInt_natCast,BitVec.toNat_ofNat,BitVec.toNat_ofNat,Nat.mod_eq_of_lt (by omega),Nat.mod_eq_of_lt (by omega),Nat.or_comm,ZwH y x k hy hx,Nat.add_comm,UJ _ h]
theorem or_4 (b0 b1 b2 b3:Nat) (h0:b0<256) (h1:b1<256) (h2:b2<256) (h3:b3<256):bits .or .u32 (bits .or .u32 (bits .or .u32 (u32.wrap (u32.wrap (b3:Int)*(16777216:Int))) (u32.wrap (u32.wrap (b2:Int)*(65536:Int)))) (u32.wrap (u32.wrap (b1:Int)*(256:Int)))) (u32.wrap (b0:Int))=((b3*16777216+b2*65536+b1*256+b0:Nat):Int):=by
 rw[UJ b3 (by omega),UJ b2 (by omega),UJ b1 (by omega),UJ b0 (by omega),show(b3:Int)*(16777216:Int)=((b3*16777216:Nat):Int) by omega,show(b2:Int)*(65536:Int)=((b2*65536:Nat):Int) by omega,show(b1:Int)*(256:Int)=((b1*256:Nat):Int) by omega,
  UJ (b3*16777216) (by omega),UJ (b2*65536) (by omega),UJ (b1*256) (by omega),orA _ _ 24 (by omega) (by omega) (by omega),orA _ _ 16 (by omega) (by omega) (by omega),orA _ _ 8 (by omega) (by omega) (by omega)]
theorem ZDl (b0 b1:Nat) (h0:b0<256) (h1:b1<256):bits .or .u32 (bits .or .u32 (0:Int) (u32.wrap (u32.wrap (b1:Int)*(256:Int)))) (u32.wrap (b0:Int))=((b1*256+b0:Nat):Int):=by
 rw[UJ b1 (by omega),UJ b0 (by omega),show(b1:Int)*(256:Int)=((b1*256:Nat):Int) by omega,UJ (b1*256) (by omega),ZEg _ (by omega),orA _ _ 8 (by omega) (by omega) (by omega)]
theorem or_1 (b0:Nat) (h0:b0<256):bits .or .u32 (0:Int) (u32.wrap (b0:Int))=(b0:Int):=by rw[UJ b0 (by omega),ZEg _ (by omega)]
theorem Zvu (n:Nat) (h:n<65536):u16.wrap (n:Int)=(n:Int):=by simp only[IntKind.wrap_u16]; omega
theorem u8_s (n:Nat) (h:n<256):u8.wrap (n:Int)=(n:Int):=by simp only[IntKind.wrap_u8]; omega
theorem or_R (b13 b14 b15:Nat) (h0:b13<256) (h1:b14<256) (h2:b15<256):bits .or .u32 ((b14*256+b13:Nat):Int) (u32.wrap ((b15:Int)*(65536:Int)))=((b14*256+b13+b15*65536:Nat):Int):=by
 rw[show(b15:Int)*(65536:Int)=((b15*65536:Nat):Int) by omega,UJ _ (by omega),orB _ _ 16 (by omega) (by omega) (by omega)]
theorem ZsR (l:List UInt8) (v:Bool):(ofS l v).Ok:=by
 have h:=ZaE l
 have h0:=h 0; have h1:=h 1; have h2:=h 2; have h3:=h 3; have h4:=h 4; have h5:=h 5; have h6:=h 6; have h7:=h 7; have h8:=h 8; have h9:=h 9; have h10:=h 10; have h11:=h 11; have h12:=h 12; have h13:=h 13; have h14:=h 14; have h15:=h 15
 unfold Cp.Ok Zbb ofS ZxX
 simp only[Nat.zero_add]
 omega
theorem ZsS (l:List UInt8) (hl:l.length=16) (v:Bool):ConOk Tryz.prog 99 3 (Con.pure [.string ⟨⟨l⟩⟩,.bool v] (.tuple ⟨[(ofS l v).val,.bool true]⟩)):=by
 match l,hl with
 | [b0,b1,b2,b3,b4,b5,b6,b7,b8,b9,b10,b11,b12,b13,b14,b15],_ =>
  have h0:=b0.toNat_lt; have h1:=b1.toNat_lt; have h2:=b2.toNat_lt; have h3:=b3.toNat_lt; have h4:=b4.toNat_lt; have h5:=b5.toNat_lt; have h6:=b6.toNat_lt; have h7:=b7.toNat_lt; have h8:=b8.toNat_lt; have h9:=b9.toNat_lt; have h10:=b10.toNat_lt; have h11:=b11.toNat_lt; have h12:=b12.toNat_lt; have h13:=b13.toNat_lt; have h14:=b14.toNat_lt; have h15:=b15.toNat_lt
  have hok:=ZsR [b0,b1,b2,b3,b4,b5,b6,b7,b8,b9,b10,b11,b12,b13,b14,b15]
  have q1:=or_4 b0.toNat b1.toNat b2.toNat b3.toNat h0 h1 h2 h3
  have q2:=or_1 b4.toNat h4
  have q3:=ZDl b5.toNat b6.toNat h5 h6
  have q4:=ZDl b7.toNat b8.toNat h7 h8
  have q5:=ZDl b9.toNat b10.toNat h9 h10
  have q6:=ZDl b11.toNat b12.toNat h11 h12
  have q7:=ZDl b13.toNat b14.toNat h13 h14
  have q8:=or_1 b15.toNat h15
  have q9:=or_R b13.toNat b14.toNat b15.toNat h13 h14 h15
  have e2:=u8_s b4.toNat h4
  have e3:=Zvu (b6.toNat*256+b5.toNat) (by omega)
  have e4:=Zvu (b8.toNat*256+b7.toNat) (by omega)
  have e5:=Zvu (b10.toNat*256+b9.toNat) (by omega)
  have e6:=Zvu (b12.toNat*256+b11.toNat) (by omega)
  cases v
  ·have hr:=ZFU.v b0 b1 b2 b3 b4 b5 b6 b7 b8 b9 b10 b11 b12 b13 b14 b15 V0 true
   rw[q1,q2,q3,q4,q5,q6,q7,q8,q9,e2,e3,e4,e5,e6] at hr
   refine ZX (d:=1) (Zn (L:=100) Ze (Zo (Zi fun x hx => ?_) (Zc _)) (Zd _) 20) hr (by simp only[and_self]) rfl rfl
   obtain rfl:=List.mem_singleton.1 hx
   exact⟨ZcS V0 ⟨by decide,by decide,by decide,by decide,by decide,by decide,by decide⟩,⟨fun x hx=>by cases hx⟩⟩
  ·have hr:=ZFT.v b0 b1 b2 b3 b4 b5 b6 b7 b8 b9 b10 b11 b12 b13 b14 b15 { ofS [b0,b1,b2,b3,b4,b5,b6,b7,b8,b9,b10,b11,b12,b13,b14,b15] true with V:=false } (ofS [b0,b1,b2,b3,b4,b5,b6,b7,b8,b9,b10,b11,b12,b13,b14,b15] true).V
   rw[q1,q2,q3,q4,q5,q6,q7,q8,q9,e2,e3,e4,e5,e6] at hr
   refine ZX (d:=1) (Zn (L:=100) Ze (Zo (Zi fun x hx => ?_) (Zc _)) (Zd _) 20) hr ?_ rfl rfl
   ·obtain rfl:=List.mem_singleton.1 hx
    exact⟨ZcS { ofS [b0,b1,b2,b3,b4,b5,b6,b7,b8,b9,b10,b11,b12,b13,b14,b15] true with V:=false } (hok true),⟨fun x hx=>by cases hx⟩⟩
   ·refine⟨trivial,trivial,⟨?_,trivial⟩,trivial,trivial⟩
    rfl
theorem Zj2 (a:Nat) (zs:List UInt8) (f:Nat→Bool) (N m n:Nat) (h:ArOk zs N m n) (ha:a%16=0) (ha2:a+16≤N):ConOk Tryz.prog 48 3 (lcC a (ofS ((zs.drop a).take 16) (f (a/16))) zs f N m n):=by
 obtain⟨hl,h1,h2,h3,h4⟩:=h
 have hr:=ZFV.v a zs f N m n ((zs.drop a).take 16) (f (a/16)) (ofS ((zs.drop a).take 16) (f (a/16)))
 have et:(a:Int).tmod (16:Int)=((a%16:Nat):Int):=(Int.ofNat_tmod a 16).symm
 have e1:u32.wrap ((a:Int)+(16:Int))=((a+16:Nat):Int):=by rw[show(a:Int)+(16:Int)=((a+16:Nat):Int) by omega,UJ _ (by omega)]
 have e2:a+16-a=16:=by omega
 have e4:i64.wrap ((N:Int)-(16:Int))=((N-16:Nat):Int):=by rw[show(N:Int)-(16:Int)=((N-16:Nat):Int) by omega,Wb _ (by omega)]
 have v1:∀ (σ:Nat→Nat),(v64 (Za f n)).map (rnV σ 3)=v64 (Za f n):=fun σ=>Zk (Zm _)
 have v2:∀ (p:Nat→Bool),(v64 (Za f n)).all (okV p 3)=true:=fun p=>Zj (Zm _)
 have hlen:((zs.drop a).take 16).length=16:=by rw[List.length_take,List.length_drop,hl]; omega
 have hb:Zv Tryz.prog (Zs 3 (Zb (lcL a ((zs.drop a).take 16) (f (a/16)) (ofS ((zs.drop a).take 16) (f (a/16))) m n f)) Zg):=by
  refine Zo (Zi fun z hz => ?_) (Zc _)
  simp only[lcL,List.mem_cons,List.not_mem_nil,or_false] at hz
  rcases hz with rfl|rfl|rfl|rfl
  ·exact⟨Zmv (a/16) m n f (by omega) h2 h3,⟨fun x hx=>by cases hx⟩⟩
  ·exact⟨Zmv (a/16) m n f (by omega) h2 h3,⟨fun x hx=>by cases hx⟩⟩
  ·exact⟨ZsS _ hlen _,⟨fun x hx=>by cases hx⟩⟩
  ·exact⟨ZsS _ hlen _,⟨fun x hx=>by cases hx⟩⟩
 refine(WJ (Zn (L:=100) Ze hb (Zd _) 40) rfl rfl rfl hr ?_).1
 simp(disch:=omega) only[et,ha,e1,e2,e4,Wb,WN,Int.toNat_natCast,Nat.zero_add,Nat.mul_one,Zmo,ZjC,Zha,Xj,hl,v1,v2,Qk,Zc0,decide_eq_true,decide_eq_false,Bool.and_self,Bool.true_and,Bool.and_true,Bool.not_true,Bool.not_false,cond_true,and_true,true_and,and_self,Nat.le_refl]
 rfl
def hiB (tl:List Nat):Sy.Blk:=⟨false,some (0,0),Zb8 tl,none⟩
def hiO (g:Nat) (cs:List Cp):Sy.Blk:=⟨true,some (g,8),caL cs,none⟩
def hiE (p:Nat) (out lv:Value) (k:Nat):List (Nat×Value):=[(0,.pointer (some ⟨67,0,none⟩)),(3,out),(4,.int .i64 (p:Nat)),(5,lv),(6,.int .i64 (k:Nat))]
def hiN (p:Nat) (zs:List UInt8) (f:Nat→Bool) (N m n:Nat) (tl:List Nat) (k:Nat):Sf:=⟨69,hiE p (.slice none 0 0) (.slice (some ⟨68,0,none⟩) tl.length (big+68)) k,(68,hiB tl)::arW false zs f N m n,arO N n⟩
def Zzz (p:Nat) (zs:List UInt8) (f:Nat→Bool) (N m n:Nat) (tl:List Nat) (cs:List Cp) (k:Nat):Sf:=⟨70,hiE p (.slice (some ⟨69,0,none⟩) cs.length (big+69)) (.slice (some ⟨68,0,none⟩) tl.length (big+68)) k,(69,hiO 69 cs)::(68,hiB tl)::arW false zs f N m n,(69,cs.length)::arO N n⟩
def Zvv (p:Nat) (zs:List UInt8) (f:Nat→Bool) (N m n:Nat) (tl:List Nat) (cs:List Cp) (k:Nat):Sf:=⟨70,hiE p (.slice (some ⟨68,0,none⟩) cs.length (big+68)) (.slice (some ⟨69,0,none⟩) tl.length (big+69)) k,(69,hiB tl)::(68,hiO 68 cs)::arW false zs f N m n,(68,cs.length)::arO N n⟩
def hiF (p:Nat) (cs:List Cp):Sf:=⟨71,[(0,.pointer (some ⟨67,0,none⟩)),(3,.slice (some ⟨70,0,none⟩) cs.length (big+70)),(4,.int .i64 (p:Nat))],[(70,hiO 70 cs)],[(70,cs.length)]⟩
theorem ZDm (p:Nat) (zs:List UInt8) (f:Nat→Bool) (N:Nat) (m:Nat) (n:Nat) (tl:List Nat) (k:Nat) (a:Nat) (x:Cp):Option.map (KN 40 [0,3,4,5,6] [64,65,66,67,68,71]) (evC Tryz.prog (evF Tryz.prog (Zs 3 (Zb [(69,48,lcC a x zs f N m n,[64,65,66,67])]) Zg) Zf 100 20) (Zf 16) 40 100 (ZK Tryz.prog 16 1) (Sf.frT 40 (hiN p zs f N m n tl k) [(0,true),(1,true),ZfS 2]))=Y8 40 [(0,Qe),(3,ZkY 71 0 1 9223372036854775879),Yv 4 p,(5,Zgh 68 0 tl.length),Yz 6 k] 72 [(71,Zbs 71 8 (Xo x.C x.E x.B x.T x.P x.Y x.R x.V)),(68,ZaS 0 0 (Zb8 tl)),(67,JZ N),(66,Kn m n),(65,J0 65 1 f n),(64,J1 1 zs)] [(71,1),(65,n),(64,N)] 0 (Vq (Yj (Ux (YH (0+WY k+1) (Zb8 tl) Zlv (0+WY k)) (Jr k (XI k tl.length)) (XI k tl.length=true)) (VP Yo (U0 (ZdR (Zb8 tl) (0+WY k)) a)) (QZ N m n f n (fun l=>l.blt 68) 69 zs 69) n N)):=by kernel_rfl
def hi_n:=Bx.mk (by have h := @ZDm; simp(maxSteps:=99999999) only[ZL.v, ZN.v, Z3.v, Qb.v, QH.v, ZR.v, Qc.v, ZD.v, Qz.v, Z8.v, Zz.v, Xl.v, Wr.v, Qa.v, VH.v, Zc3.v, Zcz.v, Uy.v, ZdY.v, YO.v, -eq_self] at h; exact h)
theorem ZzA (p:Nat) (zs:List UInt8) (f:Nat→Bool) (N:Nat) (m:Nat) (n:Nat) (tl:List Nat) (cs:List Cp) (k:Nat) (a:Nat) (x:Cp):Option.map (KN 40 [0,3,4,5,6] [64,65,66,67,68,72]) (evC Tryz.prog (evF Tryz.prog (Zs 3 (Zb [(70,48,lcC a x zs f N m n,[64,65,66,67])]) Zg) Zf 100 20) (Zf 16) 40 100 (ZK Tryz.prog 16 1) (Sf.frT 40 (Zzz p zs f N m n tl cs k) [(0,true),(1,true)]))=Y8 40 [(0,Qe),(3,ZkY 72 0 (cs.length+1) 9223372036854775880),Yv 4 p,(5,Zgh 68 0 tl.length),Yz 6 k] 73 [(72,Zbs 72 8 (caL cs++Xo x.C x.E x.B x.T x.P x.Y x.R x.V)),(68,ZaS 0 0 (Zb8 tl)),(67,JZ N),(66,Kn m n),(65,J0 65 1 f n),(64,J1 1 zs)] [(72,cs.length+1),(69,cs.length),(65,n),(64,N)] 0 (K4 ((Qv (caL cs)).beq (cs.length*8)) (((cs.length+1)*24).ble 1099511627776&&Zop (cs.length+1)) (YR (Yj (Ux (YH (0+WY k+1) (Zb8 tl) Zlv (0+WY k)) (Jr k (XI k tl.length)) (XI k tl.length=true)) (VP Yo (U0 (ZdR (Zb8 tl) (0+WY k)) a)) (QZ N m n f n (fun l=>l.blt 68) 70 zs 70) n N))):=by kernel_rfl
def ZFW:=Bx.mk (by have h := @ZzA; simp(maxSteps:=99999999) only[ZL.v, ZN.v, Z3.v, QH.v, ZR.v, Qc.v, ZD.v, Z8.v, Zz.v, Xl.v, Wr.v, Qa.v, VH.v, Zc3.v, Zcz.v, Uy.v, ZdY.v, YO.v, Zgi.v, -eq_self] at h; exact h)
theorem ZzB (p:Nat) (zs:List UInt8) (f:Nat→Bool) (N:Nat) (m:Nat) (n:Nat) (tl:List Nat) (cs:List Cp) (k:Nat):Option.map (KN 40 [0,3,4] [69]) (evC Tryz.prog (evF Tryz.prog Zg Zf 100 20) (Zf 16) 40 100 (ZK Tryz.prog 16 1) (Sf.frT 40 (Zzz p zs f N m n tl cs k) Uu))=K0 2 40 [(0,Qe),(3,K1 cs.length),Yv 4 p] 70 [(69,Zbs 69 8 (caL cs))] [(69,cs.length),(65,n),(64,N)] [] 0 (X3 (XI k tl.length)):=by kernel_rfl
def ZFX:=Bx.mk (by have h := @ZzB; simp(maxSteps:=99999999) only[ZL.v, ZN.v, Qz.v, ZeW.v, Qa.v, Zcy.v, Zc3.v, Uy.v, Ze4.v, -eq_self] at h; exact h)
theorem ZzC (p:Nat) (zs:List UInt8) (f:Nat→Bool) (N:Nat) (m:Nat) (n:Nat) (tl:List Nat) (cs:List Cp) (k:Nat) (a:Nat) (x:Cp):Option.map (KN 40 [0,3,4,5,6] [64,65,66,67,69,72]) (evC Tryz.prog (evF Tryz.prog (Zs 3 (Zb [(70,48,lcC a x zs f N m n,[64,65,66,67])]) Zg) Zf 100 20) (Zf 16) 40 100 (ZK Tryz.prog 16 1) (Sf.frT 40 (Zvv p zs f N m n tl cs k) [(0,true),(1,true)]))=Y8 40 [(0,Qe),(3,ZkY 72 0 (cs.length+1) 9223372036854775880),Yv 4 p,(5,K1 tl.length),Yz 6 k] 73 [(72,Zbs 72 8 (caL cs++Xo x.C x.E x.B x.T x.P x.Y x.R x.V)),(69,ZaS 0 0 (Zb8 tl)),(67,JZ N),(66,Kn m n),(65,J0 65 1 f n),(64,J1 1 zs)] [(72,cs.length+1),(68,cs.length),(65,n),(64,N)] 0 (K4 ((Qv (caL cs)).beq (cs.length*8)) (((cs.length+1)*24).ble 1099511627776&&Zop (cs.length+1)) (YR (Yj (Ux (YH (0+WY k+1) (Zb8 tl) Zlv (0+WY k)) (Jr k (XI k tl.length)) (XI k tl.length=true)) (VP Yo (U0 (ZdR (Zb8 tl) (0+WY k)) a)) (QZ N m n f n (fun l=>l.blt 68) 70 zs 70) n N))):=by kernel_rfl
def ZFY:=Bx.mk (by have h := @ZzC; simp(maxSteps:=99999999) only[ZL.v, ZN.v, Z3.v, QH.v, ZR.v, Qc.v, ZD.v, Z8.v, Zz.v, Xl.v, Wr.v, Qa.v, VH.v, Zc3.v, Zcz.v, Uy.v, ZdY.v, Ze4.v, Zgi.v, -eq_self] at h; exact h)
theorem ZzD (p:Nat) (zs:List UInt8) (f:Nat→Bool) (N:Nat) (m:Nat) (n:Nat) (tl:List Nat) (cs:List Cp) (k:Nat):Option.map (KN 40 [0,3,4] [68]) (evC Tryz.prog (evF Tryz.prog Zg Zf 100 20) (Zf 16) 40 100 (ZK Tryz.prog 16 1) (Sf.frT 40 (Zvv p zs f N m n tl cs k) Uu))=K0 2 40 [(0,Qe),(3,Zgh 68 0 cs.length),Yv 4 p] 70 [(68,Zbs 68 8 (caL cs))] [(68,cs.length),(65,n),(64,N)] [] 0 (X3 (XI k tl.length)):=by kernel_rfl
def ZFZ:=Bx.mk (by have h := @ZzD; simp(maxSteps:=99999999) only[ZL.v, ZN.v, Qz.v, ZeW.v, Qa.v, Zcy.v, Zc3.v, Uy.v, YO.v, -eq_self] at h; exact h)
def Kb (zs:List UInt8) (f:Nat→Bool) (a:Nat):Cp:=ofS ((zs.drop a).take 16) (f (a/16))
theorem Zor (l:List Cp) (x:Cp):caL l++[Value.int u32 (↑x.C:Int),Value.int u8 (↑x.E:Int),Value.int u16 (↑x.B:Int),Value.int u16 (↑x.T:Int),Value.int u16 (↑x.P:Int),Value.int u16 (↑x.Y:Int),Value.int u32 (↑x.R:Int),Value.bool x.V]=caL (l++[x]):=by
 unfold caL
 rw[List.flatMap_append]
 rfl
theorem ZlH (zs:List UInt8) (f:Nat→Bool) (tl:List Nat) (k:Nat) (h:k<tl.length):(tl.take (k+1)).map (Kb zs f)=(tl.take k).map (Kb zs f)++[Kb zs f (tl.getD k 0)]:=by
 rw[List.take_succ_eq_append_getElem h,List.map_append,List.getD_eq_getElem?_getD,List.getElem?_eq_getElem h]
 rfl
theorem ZlI (p:Nat) (cs:List Cp) (a:Nat) (ha:68≤a) (ha2:a≤70) (σ:Nat→Nat) (q:Nat→Bool) (hσ:∀ l,l<68→σ l=l) (hq:∀ l,l<68→q l=true):(hiF p cs).Ok (YD a (hiF p cs).n σ q):=by
 have h1:∀ l,l<68→YD a 71 σ q l=true:=fun l hl=>by
  show(Nat.blt l NG||(bif Nat.blt l a then(Nat.beq (σ l) l&&q l) else Nat.blt l 71))=true
  rw[Qq (show l<a by omega),hσ l hl,Nat.beq_refl,hq l hl]
  cases Nat.blt l NG<;>rfl
 have h2:YD a 71 σ q 70=true:=by
  show(Nat.blt 70 NG||(bif Nat.blt 70 a then(Nat.beq (σ 70) 70&&q 70) else Nat.blt 70 71))=true
  rw[ZY (show a≤70 from ha2)]; rfl
 refine Sf.Ok.mk' 3 ⟨⟨h2,h2,ZB (ZT _)⟩,trivial⟩ ?_ (fun y hy => ?_)
 ·simp only[List.all_cons,List.all_nil,hiF,h2,Bool.and_self]
 ·have h67:=h1 67 (by omega)
  show okV (YD a 71 σ q) 3 y.2=true
  simp only[hiF,List.mem_cons,List.not_mem_nil,or_false] at hy
  rcases hy with rfl|rfl|rfl
  ·simp[okV,JA,h67]
  ·simp[okV,JA,h2,big]
  ·rfl
theorem ZDn (p:Nat) (zs:List UInt8) (f:Nat→Bool) (N m n:Nat) (tl:List Nat) (k:Nat):(hiN p zs f N m n tl k).Wf :=
 ⟨by show 64≤69; omega,Sf.Ok.mk' 3 ⟨⟨rfl,rfl,ZB (Qt _)⟩,W0 (fun l hl=>by show Nat.blt l 69=true; exact Qq (by omega)) false zs f N m n⟩ rfl (wfE (by rfl))⟩
theorem ZzE (p:Nat) (zs:List UInt8) (f:Nat→Bool) (N m n:Nat) (tl:List Nat) (cs:List Cp) (k:Nat):(Zzz p zs f N m n tl cs k).Wf :=
 ⟨by show 64≤70; omega,Sf.Ok.mk' 3 ⟨⟨rfl,rfl,ZB (ZT _)⟩,⟨rfl,rfl,ZB (Qt _)⟩,W0 (fun l hl=>by show Nat.blt l 70=true; exact Qq (by omega)) false zs f N m n⟩ rfl (wfE (by rfl))⟩
theorem ZzF (p:Nat) (zs:List UInt8) (f:Nat→Bool) (N m n:Nat) (tl:List Nat) (cs:List Cp) (k:Nat):(Zvv p zs f N m n tl cs k).Wf :=
 ⟨by show 64≤70; omega,Sf.Ok.mk' 3 ⟨⟨rfl,rfl,ZB (Qt _)⟩,⟨rfl,rfl,ZB (ZT _)⟩,W0 (fun l hl=>by show Nat.blt l 70=true; exact Qq (by omega)) false zs f N m n⟩ rfl (wfE (by rfl))⟩
def hiS (p:Nat) (zs:List UInt8) (f:Nat→Bool) (N m n:Nat) (tl:List Nat):List Cp→Nat→Sf
 | [],k=>hiN p zs f N m n tl k
 | x::l,k=>Zzz p zs f N m n tl (x::l) k
theorem Zvw (p:Nat) (zs:List UInt8) (f:Nat→Bool) (N m n:Nat) (tl:List Nat) (l:List Cp) (k:Nat) (h:l≠[]):hiS p zs f N m n tl l k=Zzz p zs f N m n tl l k:=by
 cases l with
 | nil=>exact absurd rfl h
 | cons x l=>rfl
theorem ZDo (p:Nat) (zs:List UInt8) (f:Nat→Bool) (N m n:Nat) (tl:List Nat) (l:List Cp) (k:Nat):(hiS p zs f N m n tl l k).Wf:=by
 cases l with
 | nil=>exact ZDn _ _ _ _ _ _ _ _
 | cons x l=>exact ZzE _ _ _ _ _ _ _ _ _
def toT (t s:Nat):Nat→Nat:=fun l=>if l=t then s else l
theorem ZlJ (zs:List UInt8) (f:Nat→Bool) (N m n:Nat) {σ:Nat→Nat} (hσ:∀ l,l<68→σ l=l):∀ y∈arW false zs f N m n,σ y.1=y.1:=fun y hy=>by
 simp only[arW,List.mem_cons,List.not_mem_nil,or_false] at hy
 rcases hy with rfl|rfl|rfl|rfl
 ·exact hσ 67 (by omega)
 ·exact hσ 66 (by omega)
 ·exact hσ 65 (by omega)
 ·exact hσ 64 (by omega)
theorem Zvx (p:Nat) (zs:List UInt8) (f:Nat→Bool) (N m n:Nat) (tl:List Nat) (h:ArOk zs N m n) (htl:∀ a∈tl,a%16=0∧a+16≤N) (hlen:tl.length<4096) (hne:tl≠[]) :
  ∀ k:{ k:Nat // k≤tl.length },XO Tryz.prog 40 (ZK Tryz.prog 16 1) ((hiS p zs f N m n tl ((tl.take k.1).map (Kb zs f)) (k.1)).fr 40) (.exit 2) ((hiF p (tl.map (Kb zs f))).fr 40):=by
 have v1:∀ (σ:Nat→Nat),(v64 (Za f n)).map (rnV σ 3)=v64 (Za f n):=fun σ=>Zk (Zm _)
 have v2:∀ (p:Nat→Bool),(v64 (Za f n)).all (okV p 3)=true:=fun p=>Zj (Zm _)
 have u1:∀ (zs:List UInt8) (p:Nat→Bool),(u8s zs).all (okV p 3)=true:=fun zs p=>Zj (Zl _)
 have u2:∀ (zs:List UInt8) (σ:Nat→Nat),(u8s zs).map (rnV σ 3)=u8s zs:=fun zs σ=>Zk (Zl _)
 refine VL (L:=100) (QD _ _ 16) (fun _ h=>h) (X:={ k:Nat // k≤tl.length }) (fun k=>(hiS p zs f N m n tl ((tl.take k.1).map (Kb zs f)) (k.1))) (fun _=>hiF p (tl.map (Kb zs f))) (fun _ => .exit 2) (fun k=>tl.length-k.1) (fun k=>ZDo _ _ _ _ _ _ _ _ _) ?_
 rintro⟨k,hk⟩
 by_cases hlt:k<tl.length
 ·have e3:i64.wrap ((k:Int)+(1:Int))=((k+1:Nat):Int):=Z7 k (by omega)
  have d1:decide ((k:Int)<(tl.length:Int))=true:=decide_eq_true (by omega)
  have d2:decide ((0:Int)≤(k:Int))=true:=decide_eq_true (by omega)
  have d3:decide (k<tl.length)=true:=decide_eq_true hlt
  have d4:decide (k+1≤tl.length)=true:=decide_eq_true hlt
  have hmem:tl.getD k 0∈tl:=by
   rw[List.getD_eq_getElem?_getD,List.getElem?_eq_getElem hlt]; exact List.getElem_mem hlt
  obtain⟨a1,a2⟩:=htl _ hmem
  have hcon:=Zj2 (tl.getD k 0) zs f N m n h a1 a2
  have hs:=ZlH zs f tl k hlt
  have hx:ofS ((zs.drop (tl.getD k 0)).take 16) (f (tl.getD k 0/16))=Kb zs f (tl.getD k 0):=rfl
  rw[hx] at hcon
  have hlk:((tl.take k).map (Kb zs f)).length=k:=by rw[List.length_map,List.length_take]; omega
  generalize Kb zs f (tl.getD k 0)=x at *
  generalize hA:tl.getD k 0=A at *
  have h100:tl.length<4096:=by omega
  by_cases hL:(tl.take k).map (Kb zs f)=[]
  ·have hk0:k=0:=by rw[hL] at hlk; exact hlk.symm
   have hr:=hi_n.v p zs f N m n tl k A x
   simp only[e3] at hr
   rw[show([Value.int u32 (↑x.C:Int),Value.int u8 (↑x.E:Int),Value.int u16 (↑x.B:Int),Value.int u16 (↑x.T:Int),Value.int u16 (↑x.P:Int),Value.int u16 (↑x.Y:Int),Value.int u32 (↑x.R:Int),Value.bool x.V]:List Value)=caL [x] from rfl] at hr
   rw[hL,List.nil_append] at hs
   show ∃ call T ts ls e g' d p2 σ,Zv Tryz.prog call∧(evC Tryz.prog call _ 40 100 _ (Sf.frT 40 (hiS p zs f N m n tl ((tl.take k).map (Kb zs f)) k) T)).map (KN 40 ts ls)=some (e,g')∧_
   rw[hL]
   refine⟨_,_,_,_,.normal,_,3,fun l=>Nat.blt l 70,toT 69 71,Zn (L:=100) Ze (Zo (Zi fun z hz=>by
    obtain rfl:=List.mem_singleton.1 hz
    exact⟨hcon,⟨fun x hx=>by cases hx⟩⟩) (Zc _)) (Zd _) 20,hr,?_,.inl ⟨rfl,⟨k+1,by omega⟩,by show tl.length-(k+1)<tl.length-k; omega,rfl,rfl,by rw[hs]; rfl,?_⟩⟩
   ·simp only[Int.toNat_natCast,Nat.zero_add,Nat.mul_one,Zmh,Zjr,ZgX,hA,d1,d2,d3,d4,v1,v2,u1,u2,Bool.and_self,cond_true,and_true,true_and,and_self,Nat.le_refl]
   ·show Sf.Leads 3 _ _ _ _ (hiS p zs f N m n tl ((tl.take (k+1)).map (Kb zs f)) (k+1)) _
    rw[hs]
    show Sf.Leads 3 _ _ _ _ (Zzz p zs f N m n tl [x] (k+1)) _
    refine⟨fun l hl=>if_neg (by have:NG=64:=rfl; omega),?_,rfl,⟨⟨rfl,?_⟩,⟨rfl,Nat.le_refl _⟩,⟨rfl,Nat.le_refl _⟩,trivial⟩,?_,by show 69≤70; omega,fun l hl=>ZY hl,ZlI _ _ _ (by show 68≤69; omega) (by show 69≤70; omega) _ _ (fun l hl=>if_neg (by omega)) (fun l hl=>Qq (by omega)),fun y hy hrw => ?_⟩
    ·exact⟨⟨rfl,Zj (ZT _),rfl,⟨rfl,rfl,trivial,by show _=List.map _ (caL _); rw[Zk (ZT _)]; try rfl⟩⟩,⟨rfl,Zj (Qt _),rfl,⟨rfl,rfl,trivial,(Zk (Qt _)).symm⟩⟩,X8 (fun l hl=>by show Nat.blt l 70=true; exact Qq (by omega)) (fun l hl=>if_neg (by omega)) zs f N m n rfl rfl rfl rfl⟩
    ·exact Nat.le_refl _
    ·exact by repeat' (first|exact trivial|refine⟨⟨by kernel_rfl,by kernel_rfl⟩,?_⟩)
    ·rcases List.mem_cons.1 hy with rfl|hy
     ·cases hrw
     ·rcases List.mem_cons.1 hy with rfl|hy
      ·exact .inl rfl
      ·exact .inl (ZlJ zs f N m n (σ:=toT 69 71) (fun l hl=>if_neg (by omega)) y hy)
  ·have hI:hiS p zs f N m n tl ((tl.take k).map (Kb zs f)) k=Zzz p zs f N m n tl ((tl.take k).map (Kb zs f)) k:=Zvw _ _ _ _ _ _ _ _ _ hL
   show ∃ call T ts ls e g' d p2 σ,Zv Tryz.prog call∧(evC Tryz.prog call _ 40 100 _ (Sf.frT 40 (hiS p zs f N m n tl ((tl.take k).map (Kb zs f)) k) T)).map (KN 40 ts ls)=some (e,g')∧_
   rw[hI]
   generalize hcs:(tl.take k).map (Kb zs f)=cs at *
   have hr:=ZFW.v p zs f N m n tl (cs) k A x
   simp only[e3,Zor] at hr
   have hn1:(cs).length+1=(cs++[x]).length:=by rw[List.length_append]; rfl
   refine⟨_,_,_,_,.normal,_,3,fun l=>Nat.blt l 70,toT 69 72,Zn (L:=100) Ze (Zo (Zi fun z hz=>by
    obtain rfl:=List.mem_singleton.1 hz
    exact⟨hcon,⟨fun x hx=>by cases hx⟩⟩) (Zc _)) (Zd _) 20,hr,?_,.inl ⟨rfl,⟨k+1,by omega⟩,by show tl.length-(k+1)<tl.length-k; omega,rfl,rfl,by rw[hs,Zvw _ _ _ _ _ _ _ _ _ (by simp)]; rfl,?_⟩⟩
   ·show cond _ _ _
    rw[Z1,Zom,Nat.mul_comm,Nat.beq_refl]
    show cond _ _ _
    rw[Nat.ble_eq_true_of_le (by omega),Qq (by omega)]
    simp only[Int.toNat_natCast,Nat.zero_add,Nat.mul_one,Zmh,Zjr,ZgX,hA,d1,d2,d3,d4,v1,v2,u1,u2,Bool.and_self,cond_true,and_true,true_and,and_self,Nat.le_refl]
   ·show Sf.Leads 3 _ _ _ _ (hiS p zs f N m n tl ((tl.take (k+1)).map (Kb zs f)) (k+1)) _
    rw[hs,Zvw _ _ _ _ _ _ _ _ _ (by simp)]
    refine⟨fun l hl=>if_neg (by have:NG=64:=rfl; omega),?_,rfl,⟨⟨rfl,?_⟩,⟨rfl,Nat.le_refl _⟩,⟨rfl,Nat.le_refl _⟩,trivial⟩,?_,by show 70≤70; omega,fun l hl=>ZY hl,ZlI _ _ _ (by show 68≤70; omega) (by show 70≤70; omega) _ _ (fun l hl=>if_neg (by omega)) (fun l hl=>Qq (by omega)),fun y hy hrw => ?_⟩
    ·exact⟨⟨rfl,Zj (ZT _),rfl,⟨rfl,rfl,trivial,by show _=List.map _ (caL _); rw[Zk (ZT _)]; try rfl⟩⟩,⟨rfl,Zj (Qt _),rfl,⟨rfl,rfl,trivial,(Zk (Qt _)).symm⟩⟩,X8 (fun l hl=>by show Nat.blt l 70=true; exact Qq (by omega)) (fun l hl=>if_neg (by omega)) zs f N m n rfl rfl rfl rfl⟩
    ·exact Nat.le_of_eq hn1.symm
    ·rw[hn1]; exact by repeat' (first|exact trivial|refine⟨⟨by kernel_rfl,by kernel_rfl⟩,?_⟩)
    ·rcases List.mem_cons.1 hy with rfl|hy
     ·cases hrw
     ·rcases List.mem_cons.1 hy with rfl|hy
      ·exact .inl rfl
      ·exact .inl (ZlJ zs f N m n (σ:=toT 69 72) (fun l hl=>if_neg (by omega)) y hy)
 ·have hkk:k=tl.length:=by omega
  have hT:tl.take k=tl:=by rw[hkk]; exact List.take_length
  have d1:decide ((k:Int)<(tl.length:Int))=false:=decide_eq_false (by omega)
  show ∃ call T ts ls e g' d p2 σ,Zv Tryz.prog call∧(evC Tryz.prog call _ 40 100 _ (Sf.frT 40 (hiS p zs f N m n tl ((tl.take k).map (Kb zs f)) (k)) T)).map (KN 40 ts ls)=some (e,g')∧g'.s.O∧(_∨(e ≠ .normal∧e = .exit 2∧((hiF p (tl.map (Kb zs f))).e.all fun z=>Sy.inN z.1 ts)=true∧Sf.Leads d p2 σ (hiS p zs f N m n tl ((tl.take k).map (Kb zs f)) (k)) g' (hiF p (tl.map (Kb zs f))) (hiF p (tl.map (Kb zs f)))))
  rw[hT,Zvw _ _ _ _ _ _ _ _ _ (by simpa using hne)]
  generalize tl.map (Kb zs f)=cs
  have hr:=ZFX.v p zs f N m n tl cs k
  refine⟨_,_,_,_,.exit 2,_,3,fun l=>Nat.blt l 71,toT 70 69,Zn (L:=100) Ze (Zc _) (Zd _) 20,hr,?_,.inr ⟨by simp,rfl,rfl,?_⟩⟩
  ·simp only[d1,and_self]
  ·refine⟨fun l hl=>if_neg (by have:NG=64:=rfl; omega),⟨⟨rfl,Zj (ZT _),rfl,?_⟩,trivial⟩,rfl,⟨⟨rfl,Nat.le_refl _⟩,trivial⟩,?_,by show 70≤71; omega,fun l hl=>ZY hl,ZlI _ _ _ (by show 68≤70; omega) (by show 70≤70; omega) _ _ (fun l hl=>if_neg (by omega)) (fun l hl=>Qq (by omega)),fun y hy hrw => ?_⟩
   ·exact⟨rfl,rfl,trivial,(Zk (ZT _)).symm⟩
   ·exact by repeat' (first|exact trivial|refine⟨⟨by kernel_rfl,by kernel_rfl⟩,?_⟩)
   ·obtain rfl:=List.mem_singleton.1 hy
    cases hrw
theorem Zvy (p:Nat) (zs:List UInt8) (f:Nat→Bool) (N m n:Nat) (tl:List Nat) (cs:List Cp) (h:ArOk zs N m n) (htl:∀ a∈tl,a%16=0∧a+16≤N) (hlen:cs.length+tl.length<4096) :
  ∀ k:{ k:Nat // k≤tl.length },XO Tryz.prog 40 (ZK Tryz.prog 16 1) ((Zvv p zs f N m n tl (cs++(tl.take k.1).map (Kb zs f)) (k.1)).fr 40) (.exit 2) ((hiF p (cs++tl.map (Kb zs f))).fr 40):=by
 have v1:∀ (σ:Nat→Nat),(v64 (Za f n)).map (rnV σ 3)=v64 (Za f n):=fun σ=>Zk (Zm _)
 have v2:∀ (p:Nat→Bool),(v64 (Za f n)).all (okV p 3)=true:=fun p=>Zj (Zm _)
 have u1:∀ (zs:List UInt8) (p:Nat→Bool),(u8s zs).all (okV p 3)=true:=fun zs p=>Zj (Zl _)
 have u2:∀ (zs:List UInt8) (σ:Nat→Nat),(u8s zs).map (rnV σ 3)=u8s zs:=fun zs σ=>Zk (Zl _)
 refine VL (L:=100) (QD _ _ 16) (fun _ h=>h) (X:={ k:Nat // k≤tl.length }) (fun k=>(Zvv p zs f N m n tl (cs++(tl.take k.1).map (Kb zs f)) (k.1))) (fun _=>hiF p (cs++tl.map (Kb zs f))) (fun _ => .exit 2) (fun k=>tl.length-k.1) (fun k=>ZzF _ _ _ _ _ _ _ _ _) ?_
 rintro⟨k,hk⟩
 by_cases hlt:k<tl.length
 ·have e3:i64.wrap ((k:Int)+(1:Int))=((k+1:Nat):Int):=Z7 k (by omega)
  have d1:decide ((k:Int)<(tl.length:Int))=true:=decide_eq_true (by omega)
  have d2:decide ((0:Int)≤(k:Int))=true:=decide_eq_true (by omega)
  have d3:decide (k<tl.length)=true:=decide_eq_true hlt
  have d4:decide (k+1≤tl.length)=true:=decide_eq_true hlt
  have hmem:tl.getD k 0∈tl:=by
   rw[List.getD_eq_getElem?_getD,List.getElem?_eq_getElem hlt]; exact List.getElem_mem hlt
  obtain⟨a1,a2⟩:=htl _ hmem
  have hcon:=Zj2 (tl.getD k 0) zs f N m n h a1 a2
  have hs:=ZlH zs f tl k hlt
  have hx:ofS ((zs.drop (tl.getD k 0)).take 16) (f (tl.getD k 0/16))=Kb zs f (tl.getD k 0):=rfl
  rw[hx] at hcon
  have hlk:((tl.take k).map (Kb zs f)).length=k:=by rw[List.length_map,List.length_take]; omega
  generalize Kb zs f (tl.getD k 0)=x at *
  generalize hA:tl.getD k 0=A at *
  have h100:tl.length<4096:=by omega
  have hlk2:(cs++(tl.take k).map (Kb zs f)).length<4096:=by rw[List.length_append]; omega
  generalize hcs:cs++(tl.take k).map (Kb zs f)=ds at *
  have hr:=ZFY.v p zs f N m n tl (ds) k A x
  simp only[e3,Zor] at hr
  have hn1:(ds).length+1=(ds++[x]).length:=by rw[List.length_append]; rfl
  refine⟨_,_,_,_,.normal,_,3,fun l=>Nat.blt l 70,toT 68 72,Zn (L:=100) Ze (Zo (Zi fun z hz=>by
   obtain rfl:=List.mem_singleton.1 hz
   exact⟨hcon,⟨fun x hx=>by cases hx⟩⟩) (Zc _)) (Zd _) 20,hr,?_,.inl ⟨rfl,⟨k+1,by omega⟩,by show tl.length-(k+1)<tl.length-k; omega,rfl,rfl,rfl,?_⟩⟩
  ·show cond _ _ _
   rw[Z1,Zom,Nat.mul_comm,Nat.beq_refl]
   show cond _ _ _
   rw[Nat.ble_eq_true_of_le (by omega),Qq (by omega)]
   simp only[Int.toNat_natCast,Nat.zero_add,Nat.mul_one,Zmh,Zjr,ZgX,hA,d1,d2,d3,d4,v1,v2,u1,u2,Bool.and_self,cond_true,and_true,true_and,and_self,Nat.le_refl]
  ·show Sf.Leads 3 _ _ _ _ (Zvv p zs f N m n tl (cs++(tl.take (k+1)).map (Kb zs f)) (k+1)) _
   rw[hs,← List.append_assoc,hcs]
   refine⟨fun l hl=>if_neg (by have:NG=64:=rfl; omega),?_,rfl,⟨⟨rfl,?_⟩,⟨rfl,Nat.le_refl _⟩,⟨rfl,Nat.le_refl _⟩,trivial⟩,?_,by show 70≤70; omega,fun l hl=>ZY hl,ZlI _ _ _ (by show 68≤70; omega) (by show 70≤70; omega) _ _ (fun l hl=>if_neg (by omega)) (fun l hl=>Qq (by omega)),fun y hy hrw => ?_⟩
   ·exact⟨⟨rfl,Zj (Qt _),rfl,⟨rfl,rfl,trivial,(Zk (Qt _)).symm⟩⟩,⟨rfl,Zj (ZT _),rfl,⟨rfl,rfl,trivial,by show _=List.map _ (caL _); rw[Zk (ZT _)]; try rfl⟩⟩,X8 (fun l hl=>by show Nat.blt l 70=true; exact Qq (by omega)) (fun l hl=>if_neg (by omega)) zs f N m n rfl rfl rfl rfl⟩
   ·exact Nat.le_of_eq hn1.symm
   ·rw[hn1]; exact by repeat' (first|exact trivial|refine⟨⟨by kernel_rfl,by kernel_rfl⟩,?_⟩)
   ·rcases List.mem_cons.1 hy with rfl|hy
    ·exact .inl rfl
    ·rcases List.mem_cons.1 hy with rfl|hy
     ·cases hrw
     ·exact .inl (ZlJ zs f N m n (σ:=toT 68 72) (fun l hl=>if_neg (by omega)) y hy)
 ·have hkk:k=tl.length:=by omega
  have hT:tl.take k=tl:=by rw[hkk]; exact List.take_length
  have d1:decide ((k:Int)<(tl.length:Int))=false:=decide_eq_false (by omega)
  show ∃ call T ts ls e g' d p2 σ,Zv Tryz.prog call∧(evC Tryz.prog call _ 40 100 _ (Sf.frT 40 (Zvv p zs f N m n tl (cs++(tl.take k).map (Kb zs f)) (k)) T)).map (KN 40 ts ls)=some (e,g')∧g'.s.O∧(_∨(e ≠ .normal∧e = .exit 2∧((hiF p (cs++tl.map (Kb zs f))).e.all fun z=>Sy.inN z.1 ts)=true∧Sf.Leads d p2 σ (Zvv p zs f N m n tl (cs++(tl.take k).map (Kb zs f)) (k)) g' (hiF p (cs++tl.map (Kb zs f))) (hiF p (cs++tl.map (Kb zs f)))))
  rw[hT]
  generalize cs++tl.map (Kb zs f)=cs
  have hr:=ZFZ.v p zs f N m n tl cs k
  refine⟨_,_,_,_,.exit 2,_,3,fun l=>Nat.blt l 71,toT 70 68,Zn (L:=100) Ze (Zc _) (Zd _) 20,hr,?_,.inr ⟨by simp,rfl,rfl,?_⟩⟩
  ·simp only[d1,and_self]
  ·refine⟨fun l hl=>if_neg (by have:NG=64:=rfl; omega),⟨⟨rfl,Zj (ZT _),rfl,?_⟩,trivial⟩,rfl,⟨⟨rfl,Nat.le_refl _⟩,trivial⟩,?_,by show 70≤71; omega,fun l hl=>ZY hl,ZlI _ _ _ (by show 68≤70; omega) (by show 70≤70; omega) _ _ (fun l hl=>if_neg (by omega)) (fun l hl=>Qq (by omega)),fun y hy hrw => ?_⟩
   ·exact⟨rfl,rfl,trivial,(Zk (ZT _)).symm⟩
   ·exact by repeat' (first|exact trivial|refine⟨⟨by kernel_rfl,by kernel_rfl⟩,?_⟩)
   ·obtain rfl:=List.mem_singleton.1 hy
    cases hrw
end Go.Proofs.YtagacmljbgkmoaaGreatDoor
namespace Go.Proofs.YtagacmljbgkmoaaGreatDoor.Sy
open Go.IntKind (u8 u16 u32 u64 i64)
open Go.RowKit
theorem Zvz {P:Program} {nt L:Nat} {c:Code} {X:Type} (I F:X→Sf) (ex:X→Exit) (μ:X→Nat) (hI:∀ x,(I x).Wf)
  (hround:∀ x,∃ (call:Qs) (lp:Zdw) (S:List Code) (T:List (Nat×Bool)) (e:Exit) (g:Fr) (d:Nat) (p:Nat→Bool) (σ:Nat→Nat),Zv P call∧YU P S lp∧(∀ c'∈Y0 c,c'∈S)∧evC P call lp nt L c ((I x).frT nt T)=some (e,g)∧g.s.O ∧
   ((e = .normal∧∃ y,μ y<μ x∧F y=F x∧ex y=ex x∧Sf.Leads d p σ (I x) g (I y) (F x))∨(e ≠ .normal∧e=ex x∧Sf.Leads d p σ (I x) g (F x) (F x)))) :
  ∀ x,XO P nt c ((I x).fr nt) (ex x) ((F x).fr nt):=by
 have key:∀ m x,μ x=m→XO P nt c ((I x).fr nt) (ex x) ((F x).fr nt):=by
  intro m
  induction m using Nat.strongRecOn with
  | _ m ih =>
   intro x hm r a w Q hf hwf hg hfr hQ
   obtain⟨call,lp,S,T,e,g,d,p,σ,hcall,hlp,hS0,hev,hO,hcase⟩:=hround x
   have hx:=hI x
   have hgl:=hg.low hx.ok.s
   have hfl:=hf.low (hx.ok.t nt)
   refine J2 ?_
   refine(Zav hcall hlp (Zjm hcall) L c _ _ _ hS0 hev hO (r.low (I x).n) a w _ hfl hwf (hgl.same rfl rfl) (Zeo hx.ng) ?_).1
   intro r1 a1 w1 T0 hf1
   have T1:To (r.low (I x).n) (I x).st w r1 g.s w1:=T0.start rfl rfl rfl
   rcases hcase with⟨rfl,y,hy1,hy2,hy3,hL⟩|⟨hne,rfl,hL⟩
   ·have hy:=hI y
    have hS:=ZcQ hL.h hL.inj hL.lo
    have hgy:=hS.good hL.σ0 T1.good
    have hfy:=hL.l.fits hL.σ0 hf1
    have hfrY:X2 (r1.by σ p) (I y).n (F y).n:=fun l hl _=>by
     have h1:Nat.blt l NG=false:=by
      cases h:Nat.blt l NG
      ·rfl
      ·have:=hy.ng; simp at h; omega
     show(Nat.blt l NG||(p l&&r1.d (σ l)))=false
     rw[h1,hL.pn l hl]; rfl
    refine ih (μ y) (by omega) y rfl (r1.by σ p) a1 w1 Q hfy hy.wfn hgy hfrY ?_
    rw[hy2,hy3]
    intro r3 a3 w3 T2 hf3
    obtain⟨T3,hv⟩:=T1.behind hg hx.ng hL.σ0 hS T2 hL.n hfr hL.keep.s (fun g k hk=>hL.ro _ (ZQ hk))
    refine hQ _ a3 w3 T3 ⟨hf3.size,hf3.defers,fun t => ?_⟩
    rcases hL.keep.t nt t with h|h
    ·exact .inl h
    ·exact hv _ _ h (hf3.tmps t)
   ·have hS:=ZcQ hL.h hL.inj hL.lo
    have hgy:=hS.good hL.σ0 T1.good
    have hfy:=hL.l.fits hL.σ0 hf1
    obtain⟨T3,hv⟩:=T1.behind hg hx.ng hL.σ0 hS (To.refl hgy) hL.n hfr hL.keep.s (fun g k hk=>hL.ro _ (ZQ hk))
    have:=hQ _ a1 w1 T3 ⟨hfy.size,hfy.defers,fun t=>by
     rcases hL.keep.t nt t with h|h
     ·exact .inl h
     ·exact hv _ _ h (hfy.tmps t)⟩
    cases hex:ex x with
    | normal=>exact absurd hex hne
    | _=>rw[hex] at this; exact this
 exact fun x=>key _ x rfl
theorem ZvA (b:Code):∀ c,c∈Y0 b→∀ c'∈Y0 c,c'∈Y0 b:=by
 induction b with
 | seq a b iha ihb =>
  intro c h c' h'
  rcases List.mem_append.1 (show c∈Y0 a++Y0 b from h) with h1|h1
  ·exact List.mem_append_left _ (iha c h1 c' h')
  ·exact List.mem_append_right _ (ihb c h1 c' h')
 | cond x a b iha ihb =>
  intro c h c' h'
  rcases List.mem_append.1 (show c∈Y0 a++Y0 b from h) with h1|h1
  ·exact List.mem_append_left _ (iha c h1 c' h')
  ·exact List.mem_append_right _ (ihb c h1 c' h')
 | block n a ih=>exact fun c h c' h'=>ih c h c' h'
 | loop a ih =>
  intro c h c' h'
  rcases List.mem_cons.1 (show c∈a::Y0 a from h) with rfl|h1
  ·exact List.mem_cons_of_mem _ h'
  ·exact List.mem_cons_of_mem _ (ih c h1 c' h')
 | _=>intro c h; cases h
theorem ZlK {α:Type} (d:α):∀ (l:List α) (i:Nat),i<l.length→ZC d l i∈l
 | [],i,h=>by simp at h
 | x::l,0,_=>List.mem_cons_self ..
 | x::l,i+1,h=>List.mem_cons_of_mem _ (ZlK d l i (by simp at h; omega))
theorem ZsT {P:Program} {f:FuncId} {i:Nat} (h:Nat.blt i (Qv (Y0 (VY P f)))=true) (l:List (Ent P)) :
  YU P (Y0 (VY P f)) (Yt l f)∧∀ c'∈Y0 (ZK P f i),c'∈Y0 (VY P f):=by
 have hi:i<(Y0 (VY P f)).length:=by rw[Z1] at h; simpa using h
 refine⟨?_,fun c' hc'=>ZvA _ _ (ZlK _ _ i hi) c' hc'⟩
 cases h1:(P.funcs[f]?).bind (·.body) with
 | none =>
  have hb:VY P f = .skip:=by unfold VY; rw[h1]
  rw[hb] at hi
  exact absurd hi (by simp[Y0])
 | some c =>
  have hb:VY P f=c:=by unfold VY; rw[h1]
  obtain⟨fn,h2,h3⟩:=oB h1
  rw[hb]
  exact X0 l f fn c h2 h3
end Go.Proofs.YtagacmljbgkmoaaGreatDoor.Sy
namespace Go.Proofs.YtagacmljbgkmoaaGreatDoor
open Go.IntKind (u8 u16 u32 u64 i64)
open Go.RowKit
namespace Sy
open Go.IntKind (u8 u16 u32 u64 i64)
theorem ZvB {P:Program} {nt L:Nat} {c:Code} {X:Type} (I F:X→Sf) (ex:X→Exit) (μ:X→Nat) (hI:∀ x,(I x).Wf)
  (hround:∀ x,∃ (call:Qs) (lp:Zdw) (S:List Code) (T:List (Nat×Bool)) (ts ls:List Nat) (e:Exit) (g:Fr) (d:Nat) (p:Nat→Bool) (σ:Nat→Nat),Zv P call∧YU P S lp∧(∀ c'∈Y0 c,c'∈S)∧(evC P call lp nt L c ((I x).frT nt T)).map (KN nt ts ls)=some (e,g)∧g.s.O ∧
   ((e = .normal∧∃ y,μ y<μ x∧F y=F x∧ex y=ex x∧((I y).e.all fun z=>inN z.1 ts)=true∧Sf.Leads d p σ (I x) g (I y) (F x))∨(e ≠ .normal∧e=ex x∧((F x).e.all fun z=>inN z.1 ts)=true∧Sf.Leads d p σ (I x) g (F x) (F x)))) :
  ∀ x,XO P nt c ((I x).fr nt) (ex x) ((F x).fr nt):=by
 refine Zvz (L:=L) I F ex μ hI fun x => ?_
 obtain⟨call,lp,S,T,ts,ls,e,g,d,p,σ,hcall,hlp,hS,hev,hO,hc⟩:=hround x
 obtain⟨y,h1,h2⟩:=oM hev
 have e1:e=(KN nt ts ls y).1:=by rw[h2]
 have e2:g=(KN nt ts ls y).2:=by rw[h2]
 subst e1
 subst e2
 refine⟨call,lp,S,T,y.1,y.2,d,p,σ,hcall,hlp,hS,h1,hO,?_⟩
 rcases hc with⟨a,z,b1,b2,b3,b4,b5⟩|⟨a,b1,b4,b5⟩
 ·exact .inl ⟨a,z,b1,b2,b3,b5.uncut b4⟩
 ·exact .inr ⟨a,b1,b5.uncut b4⟩
end Sy
end Go.Proofs.YtagacmljbgkmoaaGreatDoor
namespace Go.Proofs.YtagacmljbgkmoaaGreatDoor
open Go.IntKind (u8 u16 u32 u64 i64)
open Go.RowKit
open Sy
set_option maxRecDepth 100000
def hdE (p:Nat) (out:Value):List (Nat×Value):=[(0,.pointer (some ⟨67,0,none⟩)),(3,out),(4,.int .i64 (p:Nat))]
def hdN (p:Nat) (zs:List UInt8) (f:Nat→Bool) (N m n:Nat):Sf:=⟨68,hdE p (.slice none 0 0),arW false zs f N m n,arO N n⟩
def hdY (p:Nat) (zs:List UInt8) (f:Nat→Bool) (N m n:Nat) (cs:List Cp):Sf:=⟨69,hdE p (.slice (some ⟨68,0,none⟩) cs.length (big+68)),(68,hiO 68 cs)::arW false zs f N m n,(68,cs.length)::arO N n⟩
def ZEh (cs:List Cp):Sf:=⟨70,[(3,.slice (some ⟨69,0,none⟩) cs.length (big+69))],[(69,hiO 69 cs)],[(69,cs.length)]⟩
def hdF:List Cp→Sf
 | []=>⟨68,[(3,.slice none 0 0)],[],[]⟩
 | x::l=>ZEh (x::l)
structure HiOk (zs:List UInt8) (N m n:Nat) (tl:List Nat):Prop where
 ar:ArOk zs N m n
 tok:∀ a∈tl,a%16=0∧a+16≤N
 few:tl.length<2048
 ne:tl≠[]
def Zw6 (p:Nat) (zs:List UInt8) (f:Nat→Bool) (N m n:Nat) (tl:List Nat) (cs':List Cp) (h:HiOk zs N m n tl) (e:cs'=tl.map (Kb zs f)):Ent Tryz.prog :=
 Zke Tryz.prog 16 1 40 (hiN p zs f N m n tl 0) (.exit 2) (hiF p cs') (by kernel_rfl) (by kernel_rfl) (by
  subst e
  exact Zvx p zs f N m n tl h.ar h.tok (by have:=h.few; omega) h.ne ⟨0,Nat.zero_le _⟩)
def Zw7 (p:Nat) (zs:List UInt8) (f:Nat→Bool) (N m n:Nat) (tl:List Nat) (cs cs':List Cp) (h:HiOk zs N m n tl) (hc:cs.length<2048) (e:cs'=cs++tl.map (Kb zs f)):Ent Tryz.prog :=
 Zke Tryz.prog 16 1 40 (Zvv p zs f N m n tl cs 0) (.exit 2) (hiF p cs') (by kernel_rfl) (by kernel_rfl) (by
  subst e
  have:=Zvy p zs f N m n tl cs h.ar h.tok (by have:=h.few; omega) ⟨0,Nat.zero_le _⟩
  simp only[List.take_zero,List.map_nil,List.append_nil] at this
  exact this)
theorem ZzG (p:Nat) (zs:List UInt8) (f:Nat→Bool) (N:Nat) (m:Nat) (n:Nat):Option.map (KN 40 [0,3,4] [64,65,66,67]) (evC Tryz.prog (evF Tryz.prog (Zs 3 (Zb [(68,47,Zx8 p zs f N m n,[64,65,66,67])]) Zg) Zf 100 20) (Zf 16) 40 100 (ZK Tryz.prog 16 0) (Sf.frT 40 (hdN p zs f N m n) [(7,true)]))=Y8 40 [(0,Qe),(3,WB),Yz 4 p] 68 [(67,JZ N),(66,Kn m n),(65,J0 65 1 f n),(64,J1 1 zs)] [(65,n),(64,N)] 0 (Yj (KL (ZbM p (ZeI N QR)=true)) (VP Yo (Zaj p)) (ZjV N m n (VD f n (fun l=>l.blt 68) Zh f n f n) zs (fun l=>l.blt 68) 68) n N):=by kernel_rfl
def ZF0:=Bx.mk (by have h := @ZzG; simp(maxSteps:=99999999) only[ZL.v, ZN.v, Z3.v, ZR.v, Qc.v, Zz.v, Qa.v, VH.v, ZlB.v, ZdY.v, -eq_self] at h; exact h)
def ZcA (a:List Value):=Xg (WP a)
def ZzI:=Bx.mk @ZcA.eq_1
theorem ZzH (p:Nat) (zs:List UInt8) (f:Nat→Bool) (N:Nat) (m:Nat) (n:Nat) (tl:List Nat) (cs':List Cp) (h:HiOk zs N m n tl) (e:cs'=List.map (Kb zs f) tl):Option.map (KN 40 [0,3,4] [64,65,66,67,70]) (evC Tryz.prog (evF Tryz.prog (Zs 3 (Zb [(68,47,ZA6 p zs f N m n tl,[64,65,66,67])]) Zg) Zf 100 20) (Yt [Zw6 p zs f N m n tl cs' h e] 16) 40 100 (ZK Tryz.prog 16 0) (Sf.frT 40 (hdN p zs f N m n) [(7,true)]))=Y8 40 [(0,Qe),(3,UA 0 cs'.length),Yz 4 p] 71 [(70,Zbs 70 8 (caL cs')),(67,JZ N),(66,Kn m n),(65,J0 65 1 f n),(64,J1 1 zs)] [(70,cs'.length),(65,n),(64,N)] 0 (JG (Yj (KL (ZbM p (ZeI N QR)=true)) (VP Yo (Zaj p)) (ZjV N m n (VD f n (fun l=>l.blt 68) Zh f n f n) zs (fun l=>l.blt 68) 68) n N) (W2 Yo YA p (Zgh 68 0 tl.length) Qp) (Zde (ZcA (Zb8 tl)) (Xg (ZhB N)) (Xg (ZhA m n)) (Xg (ZfN f n (Zgb f n))) (Xg (Ze0 zs zs))) (VP (n≤n) (N≤N))):=by kernel_rfl
def ZF1:=Bx.mk (by have h := @ZzH; simp(maxSteps:=99999999) only[ZL.v, ZN.v, Z3.v, ZR.v, Qc.v, Zz.v, Qa.v, VH.v, ZlB.v, Y2.v, ZdY.v, YO.v, Zgi.v, Wd.v, ZzI.v, -eq_self] at h; exact h)
theorem ZzJ (p:Nat) (zs:List UInt8) (f:Nat→Bool) (N:Nat) (m:Nat) (n:Nat):Option.map (KN 40 [3] []) (evC Tryz.prog (evF Tryz.prog Zg Zf 100 20) (Zf 16) 40 100 (ZK Tryz.prog 16 0) (Sf.frT 40 (hdN p zs f N m n) [ZfS 7]))=K0 0 40 [(3,WB)] 68 [] [(65,n),(64,N)] [] 0 (X3 (ZbM p (ZeI N QR))):=by kernel_rfl
def ZF2:=Bx.mk (by have h := @ZzJ; simp(maxSteps:=99999999) only[ZL.v, ZN.v, Qc.v, Qz.v, Qa.v, Zcy.v, ZlB.v, -eq_self] at h; exact h)
theorem ZzK (p:Nat) (zs:List UInt8) (f:Nat→Bool) (N:Nat) (m:Nat) (n:Nat) (cs:List Cp):Option.map (KN 40 [0,3,4] [64,65,66,67,68]) (evC Tryz.prog (evF Tryz.prog (Zs 3 (Zb [(69,47,Zx8 p zs f N m n,[64,65,66,67])]) Zg) Zf 100 20) (Zf 16) 40 100 (ZK Tryz.prog 16 0) (Sf.frT 40 (hdY p zs f N m n cs) [(7,true)]))=Y8 40 [(0,Qe),(3,Zgh 68 0 cs.length),Yz 4 p] 69 [(68,Zbs 68 8 (caL cs)),(67,JZ N),(66,Kn m n),(65,J0 65 1 f n),(64,J1 1 zs)] [(68,cs.length),(65,n),(64,N)] 0 (Yj (KL (ZbM p (ZeI N QR)=true)) (VP Yo (Zaj p)) (QZ N m n f n (fun l=>l.blt 68) 69 zs 69) n N):=by kernel_rfl
def ZF3:=Bx.mk (by have h := @ZzK; simp(maxSteps:=99999999) only[ZL.v, ZN.v, Z3.v, ZR.v, Qc.v, Zz.v, Qa.v, VH.v, ZlB.v, ZdY.v, YO.v, -eq_self] at h; exact h)
def Zos (a:List Cp) (b:List Value):=caL a=b
def Zot (a b:List Cp):=Zos a (caL b)
def ZaV (a:List Cp):=Zot a a
def KA:=Bx.mk (And.intro @Zos.eq_1 (And.intro @Zot.eq_1 @ZaV.eq_1))
theorem ZzL (p:Nat) (zs:List UInt8) (f:Nat→Bool) (N:Nat) (m:Nat) (n:Nat) (tl:List Nat) (cs:List Cp) (cs':List Cp) (h:HiOk zs N m n tl) (hc:cs.length<2048) (e:cs'=cs++List.map (Kb zs f) tl):Option.map (KN 40 [0,3,4] [64,65,66,67,70]) (evC Tryz.prog (evF Tryz.prog (Zs 3 (Zb [(69,47,ZA6 p zs f N m n tl,[64,65,66,67])]) Zg) Zf 100 20) (Yt [Zw7 p zs f N m n tl cs cs' h hc e] 16) 40 100 (ZK Tryz.prog 16 0) (Sf.frT 40 (hdY p zs f N m n cs) [(7,true)]))=Y8 40 [(0,Qe),(3,UA 0 cs'.length),Yz 4 p] 71 [(70,Zbs 70 8 (caL cs')),(67,JZ N),(66,Kn m n),(65,J0 65 1 f n),(64,J1 1 zs)] [(70,cs'.length),(68,cs.length),(65,n),(64,N)] 0 (JG (Yj (KL (ZbM p (ZeI N QR)=true)) (VP Yo (Zaj p)) (QZ N m n f n (fun l=>l.blt 68) 69 zs 69) n N) (W2 Yo (Qw (Zgh 68 0 cs.length)) p (K1 tl.length) Qp) (ZcA (Zb8 tl)∧Zde (Xg (ZaV cs)) (Xg (ZhB N)) (Xg (ZhA m n)) (Xg (ZfN f n (Zgb f n))) (Xg (Ze0 zs zs))) (Wz (cs.length≤cs.length) (n≤n) (N≤N))):=by kernel_rfl
def ZF4:=Bx.mk (by have h := @ZzL; simp(maxSteps:=99999999) only[ZL.v, ZN.v, Z3.v, ZR.v, Qc.v, Zz.v, Qa.v, VH.v, ZlB.v, Y2.v, ZdY.v, Ze4.v, YO.v, Zgi.v, ZzI.v, KA.v, -eq_self] at h; exact h)
theorem ZzM (p:Nat) (zs:List UInt8) (f:Nat→Bool) (N:Nat) (m:Nat) (n:Nat) (cs:List Cp):Option.map (KN 40 [3] [68]) (evC Tryz.prog (evF Tryz.prog Zg Zf 100 20) (Zf 16) 40 100 (ZK Tryz.prog 16 0) (Sf.frT 40 (hdY p zs f N m n cs) [ZfS 7]))=K0 0 40 [(3,Zgh 68 0 cs.length)] 69 [(68,Zbs 68 8 (caL cs))] [(68,cs.length),(65,n),(64,N)] [] 0 (X3 (ZbM p (ZeI N QR))):=by kernel_rfl
def ZF5:=Bx.mk (by have h := @ZzM; simp(maxSteps:=99999999) only[ZL.v, ZN.v, Qc.v, Qz.v, Qa.v, Zcy.v, ZlB.v, YO.v, -eq_self] at h; exact h)
def QB (zs:List UInt8) (f:Nat→Bool):Nat→List Cp
 | 0=>[]
 | k+1=>QB zs f k++(tgK f k 16).map (Kb zs f)
theorem Zj3 (zs:List UInt8) (f:Nat→Bool):∀ k,(QB zs f k).length≤16*k
 | 0=>Nat.le_refl _
 | k+1=>by
  have h1:=Zj3 zs f k
  have h2:=ZfB f k 16
  show(QB zs f k++(tgK f k 16).map (Kb zs f)).length≤_
  rw[List.length_append,List.length_map]; omega
theorem Zou (f:Nat→Bool) (g:Nat):∀ k,∀ a∈tgK f g k,∃ j,j<k∧a=(16*g+j)*16∧f (16*g+j)=true
 | 0,a,h=>by cases h
 | k+1,a,h=>by
  unfold tgK at h
  cases hf:f (16*g+k)
  ·rw[hf] at h
   obtain⟨j,h1,h2⟩:=Zou f g k a h
   exact⟨j,by omega,h2⟩
  ·rw[hf] at h
   have h:a∈tgK f g k++[(16*g+k)*16]:=h
   rcases List.mem_append.1 h with h|h
   ·obtain⟨j,h1,h2⟩:=Zou f g k a h
    exact⟨j,by omega,h2⟩
   ·exact⟨k,by omega,List.mem_singleton.1 h,hf⟩
def hdS (zs:List UInt8) (f:Nat→Bool) (N m n:Nat):List Cp→Nat→Sf
 | [],k=>hdN k zs f N m n
 | x::l,k=>hdY k zs f N m n (x::l)
theorem ZlL (zs:List UInt8) (f:Nat→Bool) (N m n:Nat) (l:List Cp) (k:Nat) (h:l≠[]):hdS zs f N m n l k=hdY k zs f N m n l:=by
 cases l with
 | nil=>exact absurd rfl h
 | cons x l=>rfl
theorem ZDp (p:Nat) (zs:List UInt8) (f:Nat→Bool) (N m n:Nat):(hdN p zs f N m n).Wf :=
 ⟨by show 64≤68; omega,Sf.Ok.mk' 3 (W0 Zfe false zs f N m n) rfl (wfE (by rfl))⟩
theorem ZDq (p:Nat) (zs:List UInt8) (f:Nat→Bool) (N m n:Nat) (cs:List Cp):(hdY p zs f N m n cs).Wf :=
 ⟨by show 64≤69; omega,Sf.Ok.mk' 3 ⟨⟨rfl,rfl,ZB (ZT _)⟩,W0 (fun l hl=>by show Nat.blt l 69=true; exact Qq (by omega)) false zs f N m n⟩ rfl (wfE (by rfl))⟩
theorem ZDr (zs:List UInt8) (f:Nat→Bool) (N m n:Nat) (l:List Cp) (k:Nat):(hdS zs f N m n l k).Wf:=by
 cases l with
 | nil=>exact ZDp _ _ _ _ _ _
 | cons x l=>exact ZDq _ _ _ _ _ _ _
theorem ZiP (cs:List Cp) (a:Nat) (ha:a≤69) (σ:Nat→Nat) (q:Nat→Bool):(hdF cs).Ok (YD a (hdF cs).n σ q):=by
 cases cs with
 | nil=>exact Sf.Ok.mk' 3 trivial rfl (wfE (by rfl))
 | cons x l =>
  have h2:YD a 70 σ q 69=true:=by
   show(Nat.blt 69 NG||(bif Nat.blt 69 a then(Nat.beq (σ 69) 69&&q 69) else Nat.blt 69 70))=true
   rw[ZY (show a≤69 from ha)]; rfl
  refine Sf.Ok.mk' 3 ⟨⟨h2,h2,ZB (ZT _)⟩,trivial⟩ ?_ (fun y hy => ?_)
  ·show(YD a (hdF (x::l)).n σ q 69&&true)=true
   rw[show YD a (hdF (x::l)).n σ q 69=true from h2]; rfl
  ·obtain rfl:=List.mem_singleton.1 hy
   have h3:YD a (hdF (x::l)).n σ q 69=true:=h2
   simp[okV,JA,h3,big]
theorem ZsU (zs:List UInt8) (f:Nat→Bool) (N m n P:Nat) (h:ArOk zs N m n) (hN:N=P*256) (hP:P≤100) :
  ∀ k:{ k:Nat // k≤P },XO Tryz.prog 40 (ZK Tryz.prog 16 0) ((hdS zs f N m n (QB zs f k.1) k.1).fr 40) (.exit 0) ((hdF (QB zs f P)).fr 40):=by
 have v1:∀ (σ:Nat→Nat),(v64 (Za f n)).map (rnV σ 3)=v64 (Za f n):=fun σ=>Zk (Zm _)
 have v2:∀ (p:Nat→Bool),(v64 (Za f n)).all (okV p 3)=true:=fun p=>Zj (Zm _)
 have u1:∀ (zs:List UInt8) (p:Nat→Bool),(u8s zs).all (okV p 3)=true:=fun zs p=>Zj (Zl _)
 have u2:∀ (zs:List UInt8) (σ:Nat→Nat),(u8s zs).map (rnV σ 3)=u8s zs:=fun zs σ=>Zk (Zl _)
 have eN:i64.wrap ((N:Int).tdiv (256:Int))=(P:Int):=by
  rw[show(N:Int).tdiv (256:Int)=((N/256:Nat):Int) from(Int.ofNat_tdiv N 256).symm,Wb _ (by omega),hN,Nat.mul_div_cancel _ (by omega)]
 refine ZvB (L:=100) (X:={ k:Nat // k≤P }) (fun k=>hdS zs f N m n (QB zs f k.1) k.1) (fun _=>hdF (QB zs f P)) (fun _ => .exit 0) (fun k=>P-k.1) (fun k=>ZDr _ _ _ _ _ _ _) ?_
 rintro⟨k,hk⟩
 by_cases hlt:k<P
 ·have e3:i64.wrap ((k:Int)+(1:Int))=((k+1:Nat):Int):=Z7 k (by omega)
  have d1:decide ((k:Int)<(P:Int))=true:=decide_eq_true (by omega)
  have hnx:QB zs f (k+1)=QB zs f k++(tgK f k 16).map (Kb zs f):=rfl
  have hle:=Zj3 zs f k
  have hte:=ZfB f k 16
  have htk:∀ a∈tgK f k 16,a%16=0∧a+16≤N:=fun a ha=>by
   obtain⟨j,h1,h2,_⟩:=Zou f k 16 a ha
   omega
  have c0:tgK f k 16=[]→ConOk Tryz.prog 47 3 (Zx8 k zs f N m n)∧FlatC (Zx8 k zs f N m n):=fun hL=>ZrF k zs f N m n h (by omega) (ZsQ f k 16 hL)
  have c1:tgK f k 16≠[]→ConOk Tryz.prog 47 3 (ZA6 k zs f N m n (tgK f k 16))∧FlatC (ZA6 k zs f N m n (tgK f k 16)):=fun hL=>⟨ZsP k zs f N m n _ h (by omega) rfl hL,⟨fun x hx _=>by obtain rfl:=List.mem_singleton.1 hx; exact Qt _⟩⟩
  show ∃ call lp S T ts ls e g' d p2 σ,Zv Tryz.prog call∧YU Tryz.prog S lp∧(∀ c'∈Y0 (ZK Tryz.prog 16 0),c'∈S)∧(evC Tryz.prog call lp 40 100 _ (Sf.frT 40 (hdS zs f N m n (QB zs f k) k) T)).map (KN 40 ts ls)=some (e,g')∧_
  generalize QB zs f k=cs at *
  generalize tgK f k 16=tl at *
  by_cases hc:cs=[]
  ·subst hc
   rw[List.nil_append] at hnx
   by_cases hL:tl=[]
   ·have hr:=ZF0.v k zs f N m n
    simp only[e3] at hr
    have hnx':QB zs f (k+1)=[]:=by rw[hnx,hL]; rfl
    refine⟨_,_,Y0 (ZK Tryz.prog 16 0),_,_,_,.normal,_,3,fun l=>Nat.blt l 68,id,Zn (L:=100) Ze (Zo (Zi fun x hx=>by
     obtain rfl:=List.mem_singleton.1 hx
     exact c0 hL) (Zc _)) (Zd _) 20,QD _ _ 16,fun _ h=>h,hr,?_,.inl ⟨rfl,⟨k+1,by omega⟩,by show P-(k+1)<P-k; omega,rfl,rfl,by show((hdS zs f N m n (QB zs f (k+1)) (k+1)).e.all _)=true; rw[hnx']; rfl,?_⟩⟩
    ·simp only[eN,d1,v1,v2,u1,u2,and_true,true_and,and_self,Nat.le_refl]
    ·show Sf.Leads 3 _ _ _ _ (hdS zs f N m n (QB zs f (k+1)) (k+1)) _
     rw[hnx']
     exact⟨fun _ _=>rfl,X8 Zfe (fun _ _=>rfl) zs f N m n rfl rfl rfl rfl,rfl,⟨⟨rfl,Nat.le_refl _⟩,⟨rfl,Nat.le_refl _⟩,trivial⟩,by repeat' (first|exact trivial|refine⟨⟨by kernel_rfl,by kernel_rfl⟩,?_⟩),Nat.le_refl _,fun l hl=>ZY hl,ZiP _ _ (by show 68≤69; omega) _ _,fun x _ _ => .inl rfl⟩
   ·generalize hcs':tl.map (Kb zs f)=cs' at *
    have hne:cs'≠[]:=by rw[← hcs']; simpa using hL
    have hok:HiOk zs N m n tl:=⟨h,htk,by omega,hL⟩
    have hr:=ZF1.v k zs f N m n tl cs' hok hcs'.symm
    simp only[e3] at hr
    have hn:=ZsT (P:=Tryz.prog) (f:=16) (i:=0) (by kernel_rfl) [Zw6 k zs f N m n tl cs' hok hcs'.symm]
    refine⟨_,_,_,_,_,_,.normal,_,3,fun l=>Nat.blt l 69,toT 68 70,Zn (L:=100) Ze (Zo (Zi fun x hx=>by
     obtain rfl:=List.mem_singleton.1 hx
     exact c1 hL) (Zc _)) (Zd _) 20,hn.1,hn.2,hr,?_,.inl ⟨rfl,⟨k+1,by omega⟩,by show P-(k+1)<P-k; omega,rfl,rfl,by show((hdS zs f N m n (QB zs f (k+1)) (k+1)).e.all _)=true; rw[hnx,ZlL _ _ _ _ _ _ _ hne]; rfl,?_⟩⟩
    ·simp only[eN,d1,v1,v2,u1,u2,and_true,true_and,and_self,Nat.le_refl]
    ·show Sf.Leads 3 _ _ _ _ (hdS zs f N m n (QB zs f (k+1)) (k+1)) _
     rw[hnx,ZlL _ _ _ _ _ _ _ hne]
     refine⟨fun l hl=>if_neg (by have:NG=64:=rfl; omega),⟨⟨rfl,Zj (ZT _),rfl,⟨rfl,rfl,trivial,by show _=List.map _ (caL _); rw[Zk (ZT _)]; try rfl⟩⟩,X8 (fun l hl=>by show Nat.blt l 69=true; exact Qq (by omega)) (fun l hl=>if_neg (by omega)) zs f N m n rfl rfl rfl rfl⟩,rfl,⟨⟨rfl,Nat.le_refl _⟩,⟨rfl,Nat.le_refl _⟩,⟨rfl,Nat.le_refl _⟩,trivial⟩,by repeat' (first|exact trivial|refine⟨⟨by kernel_rfl,by kernel_rfl⟩,?_⟩),by show 68≤69; omega,fun l hl=>ZY hl,ZiP _ _ (by show 68≤69; omega) _ _,fun y hy hrw => ?_⟩
     rcases List.mem_cons.1 hy with rfl|hy
     ·cases hrw
     ·exact .inl (ZlJ zs f N m n (σ:=toT 68 70) (fun l hl=>if_neg (by omega)) y hy)
  ·rw[ZlL _ _ _ _ _ _ _ hc]
   by_cases hL:tl=[]
   ·have hr:=ZF3.v k zs f N m n cs
    simp only[e3] at hr
    have hnx':QB zs f (k+1)=cs:=by rw[hnx,hL]; exact List.append_nil _
    refine⟨_,_,Y0 (ZK Tryz.prog 16 0),_,_,_,.normal,_,3,fun l=>Nat.blt l 69,id,Zn (L:=100) Ze (Zo (Zi fun x hx=>by
     obtain rfl:=List.mem_singleton.1 hx
     exact c0 hL) (Zc _)) (Zd _) 20,QD _ _ 16,fun _ h=>h,hr,?_,.inl ⟨rfl,⟨k+1,by omega⟩,by show P-(k+1)<P-k; omega,rfl,rfl,by show((hdS zs f N m n (QB zs f (k+1)) (k+1)).e.all _)=true; rw[hnx',ZlL _ _ _ _ _ _ _ hc]; rfl,?_⟩⟩
    ·simp only[eN,d1,v1,v2,u1,u2,and_true,true_and,and_self,Nat.le_refl]
    ·show Sf.Leads 3 _ _ _ _ (hdS zs f N m n (QB zs f (k+1)) (k+1)) _
     rw[hnx',ZlL _ _ _ _ _ _ _ hc]
     refine⟨fun _ _=>rfl,⟨⟨rfl,Zj (ZT _),rfl,⟨rfl,rfl,trivial,(Zk (ZT _)).symm⟩⟩,X8 (fun l hl=>by show Nat.blt l 69=true; exact Qq (by omega)) (fun _ _=>rfl) zs f N m n rfl rfl rfl rfl⟩,rfl,⟨⟨rfl,Nat.le_refl _⟩,⟨rfl,Nat.le_refl _⟩,⟨rfl,Nat.le_refl _⟩,trivial⟩,by repeat' (first|exact trivial|refine⟨⟨by kernel_rfl,by kernel_rfl⟩,?_⟩),Nat.le_refl _,fun l hl=>ZY hl,ZiP _ _ (by show 69≤69; omega) _ _,fun x _ _ => .inl rfl⟩
   ·generalize hcs':cs++tl.map (Kb zs f)=cs' at *
    have hne:cs'≠[]:=by rw[← hcs']; simp[hc]
    have hok:HiOk zs N m n tl:=⟨h,htk,by omega,hL⟩
    have hr:=ZF4.v k zs f N m n tl cs cs' hok (by omega) hcs'.symm
    simp only[e3] at hr
    have hn:=ZsT (P:=Tryz.prog) (f:=16) (i:=0) (by kernel_rfl) [Zw7 k zs f N m n tl cs cs' hok (by omega) hcs'.symm]
    refine⟨_,_,_,_,_,_,.normal,_,3,fun l=>Nat.blt l 69,toT 68 70,Zn (L:=100) Ze (Zo (Zi fun x hx=>by
     obtain rfl:=List.mem_singleton.1 hx
     exact c1 hL) (Zc _)) (Zd _) 20,hn.1,hn.2,hr,?_,.inl ⟨rfl,⟨k+1,by omega⟩,by show P-(k+1)<P-k; omega,rfl,rfl,by show((hdS zs f N m n (QB zs f (k+1)) (k+1)).e.all _)=true; rw[hnx,ZlL _ _ _ _ _ _ _ hne]; rfl,?_⟩⟩
    ·simp only[eN,d1,v1,v2,u1,u2,and_true,true_and,and_self,Nat.le_refl]
    ·show Sf.Leads 3 _ _ _ _ (hdS zs f N m n (QB zs f (k+1)) (k+1)) _
     rw[hnx,ZlL _ _ _ _ _ _ _ hne]
     refine⟨fun l hl=>if_neg (by have:NG=64:=rfl; omega),⟨⟨rfl,Zj (ZT _),rfl,⟨rfl,rfl,trivial,by show _=List.map _ (caL _); rw[Zk (ZT _)]; try rfl⟩⟩,X8 (fun l hl=>by show Nat.blt l 69=true; exact Qq (by omega)) (fun l hl=>if_neg (by omega)) zs f N m n rfl rfl rfl rfl⟩,rfl,⟨⟨rfl,Nat.le_refl _⟩,⟨rfl,Nat.le_refl _⟩,⟨rfl,Nat.le_refl _⟩,trivial⟩,by repeat' (first|exact trivial|refine⟨⟨by kernel_rfl,by kernel_rfl⟩,?_⟩),by show 69≤69; omega,fun l hl=>ZY hl,ZiP _ _ (by show 69≤69; omega) _ _,fun y hy hrw => ?_⟩
     rcases List.mem_cons.1 hy with rfl|hy
     ·cases hrw
     ·exact .inl (ZlJ zs f N m n (σ:=toT 68 70) (fun l hl=>if_neg (by omega)) y hy)
 ·have hkk:k=P:=by omega
  subst hkk
  have d1:decide ((k:Int)<(k:Int))=false:=decide_eq_false (by omega)
  show ∃ call lp S T ts ls e g' d p2 σ,Zv Tryz.prog call∧YU Tryz.prog S lp∧(∀ c'∈Y0 (ZK Tryz.prog 16 0),c'∈S)∧(evC Tryz.prog call lp 40 100 _ (Sf.frT 40 (hdS zs f N m n (QB zs f k) k) T)).map (KN 40 ts ls)=some (e,g')∧g'.s.O∧(_∨(e ≠ .normal∧e = .exit 0∧((hdF (QB zs f k)).e.all fun z=>Sy.inN z.1 ts)=true∧Sf.Leads d p2 σ (hdS zs f N m n (QB zs f k) k) g' (hdF (QB zs f k)) (hdF (QB zs f k))))
  generalize QB zs f k=cs
  cases cs with
  | nil =>
   have hr:=ZF2.v k zs f N m n
   refine⟨_,_,Y0 (ZK Tryz.prog 16 0),_,_,_,.exit 0,_,3,fun l=>Nat.blt l 68,id,Zn (L:=100) Ze (Zc _) (Zd _) 20,QD _ _ 16,fun _ h=>h,hr,?_,.inr ⟨by simp,rfl,rfl,?_⟩⟩
   ·simp only[eN,d1,and_self]
   ·exact⟨fun _ _=>rfl,trivial,rfl,trivial,by repeat' (first|exact trivial|refine⟨⟨by kernel_rfl,by kernel_rfl⟩,?_⟩),Nat.le_refl _,fun l hl=>ZY hl,ZiP [] _ (by show 68≤69; omega) _ _,fun x hx=>by cases hx⟩
  | cons x l =>
   have hr:=ZF5.v k zs f N m n (x::l)
   generalize hcs:x::l=cs at *
   have hne:cs≠[]:=by rw[← hcs]; simp
   have hF:hdF cs=ZEh cs:=by rw[← hcs]; rfl
   rw[ZlL _ _ _ _ _ _ _ hne]
   refine⟨_,_,Y0 (ZK Tryz.prog 16 0),_,_,_,.exit 0,_,3,fun l=>Nat.blt l 70,toT 69 68,Zn (L:=100) Ze (Zc _) (Zd _) 20,QD _ _ 16,fun _ h=>h,hr,?_,.inr ⟨by simp,rfl,by rw[hF]; rfl,?_⟩⟩
   ·simp only[eN,d1,and_self]
   ·have hk:=ZiP cs 69 (by omega) (toT 69 68) (fun l=>Nat.blt l 70)
    rw[hF] at hk ⊢
    refine⟨fun l hl=>if_neg (by have:NG=64:=rfl; omega),⟨⟨rfl,Zj (ZT _),rfl,?_⟩,trivial⟩,rfl,⟨⟨rfl,Nat.le_refl _⟩,trivial⟩,?_,by show 69≤70; omega,fun l hl=>ZY hl,hk,fun y hy hrw => ?_⟩
    ·exact⟨rfl,rfl,trivial,(Zk (ZT _)).symm⟩
    ·exact by repeat' (first|exact trivial|refine⟨⟨by kernel_rfl,by kernel_rfl⟩,?_⟩)
    ·obtain rfl:=List.mem_singleton.1 hy
     cases hrw
def ZF6 (zs:List UInt8) (f:Nat→Bool) (N m n P:Nat) (cs:List Cp) (h:ArOk zs N m n∧N=P*256∧P≤100∧cs=QB zs f P) (hne:cs≠[]):Ent Tryz.prog :=
 Zke Tryz.prog 16 0 40 (hdN 0 zs f N m n) (.exit 0) (ZEh cs) (by kernel_rfl) (by kernel_rfl) (by
  obtain⟨h1,h2,h3,rfl⟩:=h
  have:=ZsU zs f N m n P h1 h2 h3 ⟨0,Nat.zero_le _⟩
  have e:hdF (QB zs f P)=ZEh (QB zs f P):=by
   revert hne
   cases QB zs f P with
   | nil=>exact fun h=>absurd rfl h
   | cons x l=>exact fun _=>rfl
  rw[e] at this
  exact this)
def ZDs (zs:List UInt8) (f:Nat→Bool) (N m n P:Nat) (h:ArOk zs N m n∧N=P*256∧P≤100∧QB zs f P=[]):Ent Tryz.prog :=
 Zke Tryz.prog 16 0 40 (hdN 0 zs f N m n) (.exit 0) (hdF []) (by kernel_rfl) (by kernel_rfl) (by
  obtain⟨h1,h2,h3,h4⟩:=h
  have:=ZsU zs f N m n P h1 h2 h3 ⟨0,Nat.zero_le _⟩
  rw[h4] at this
  exact this)
theorem ZDt (zs:List UInt8) (f:Nat→Bool) (N:Nat) (m:Nat) (n:Nat) (P:Nat) (h:ArOk zs N m n∧N=P*256∧P≤100∧QB zs f P=[]):obs (evF Tryz.prog Zg (Yt [ZDs zs f N m n P h]) 100 20 16 [Qe] (Zh3 68 (VB zs f N m n) (arO N n) [] 0))=QG WB (KL (Wz (Wz Yo YA Qp) (JG (Xg (ZhB N)) (Xg (ZhA m n)) (Xg (ZfN f n (Zgb f n))) (Xg (Ze0 zs zs))) (VP (n≤n) (N≤N)))):=by kernel_rfl
def hl_n:=Bx.mk (by have h := @ZDt; simp(maxSteps:=99999999) only[ZL.v, ZZ.v, ZN.v, ZR.v, Qc.v, Zz.v, Y2.v, Wd.v, -eq_self] at h; exact h)
theorem ZDu (zs:List UInt8) (f:Nat→Bool) (N:Nat) (m:Nat) (n:Nat) (P:Nat) (cs:List Cp) (h:ArOk zs N m n∧N=P*256∧P≤100∧cs=QB zs f P) (hne:cs≠[]):evF Tryz.prog Zg (Yt [ZF6 zs f N m n P cs h hne]) 100 20 16 [Qe] (Zh3 68 (VB zs f N m n) (arO N n) [] 0)=XP (K1 cs.length) 70 [(69,Zbs 69 8 (caL cs)),(67,JZ N),(66,Kn m n),(65,J0 65 1 f n),(64,J1 1 zs)] [(69,cs.length),(65,n),(64,N)] 0 (KL (Wz (Wz Yo YA Qp) (JG (Xg (ZhB N)) (Xg (ZhA m n)) (Xg (ZfN f n (Zgb f n))) (Xg (Ze0 zs zs))) (VP (n≤n) (N≤N)))):=by kernel_rfl
def hl_y:=Bx.mk (by have h := @ZDu; simp(maxSteps:=99999999) only[ZL.v, ZN.v, ZR.v, Qc.v, Zz.v, VH.v, Y2.v, ZdY.v, Ze4.v, Wd.v, -eq_self] at h; exact h)
def hlN (zs:List UInt8) (f:Nat→Bool) (N m n:Nat):Con:=ZnZ [.pointer (some ⟨67,0,none⟩)] (.slice none 0 0) zs f N m n
def hlY (cs:List Cp) (zs:List UInt8) (f:Nat→Bool) (N m n:Nat):Con:=⟨[.pointer (some ⟨67,0,none⟩)],68,arW false zs f N m n,arO N n,.slice (some ⟨68,0,none⟩) cs.length (big+68),69,[(68,⟨false,some (0,0),caL cs,none⟩)],[]⟩
theorem ZzN (zs:List UInt8) (f:Nat→Bool) (N m n P:Nat) (h:ArOk zs N m n) (hN:N=P*256) (hP:P≤100) (he:QB zs f P=[]):ConOk Tryz.prog 16 3 (hlN zs f N m n)∧FlatC (hlN zs f N m n):=by
 have hr:=hl_n.v zs f N m n P ⟨h,hN,hP,he⟩
 refine WJ (Zn (L:=100) Ze (Zc _) (X0 _) 20) rfl rfl rfl hr ?_
 simp only[and_true,true_and,and_self,Nat.le_refl]
theorem ZzO (zs:List UInt8) (f:Nat→Bool) (N m n P:Nat) (cs:List Cp) (h:ArOk zs N m n) (hN:N=P*256) (hP:P≤100) (he:cs=QB zs f P) (hne:cs≠[]):ConOk Tryz.prog 16 3 (hlY cs zs f N m n)∧FlatC (hlY cs zs f N m n):=by
 have hr:=hl_y.v zs f N m n P cs ⟨h,hN,hP,he⟩ hne
 refine⟨Qi (Zn (L:=100) Ze (Zc _) (X0 _) 20) ⟨by show 64≤68; omega,by show 68≤69; omega,W0 Zfe false zs f N m n,rfl,rfl,rfl,rfl,rfl,fun x hx v hv => ?_⟩ hr ?_ (p:=fun l=>Nat.blt l 69) (σ:=toσ 68 69) ⟨fun l hl=>if_neg (by have:NG=64:=rfl; omega),⟨⟨rfl,Zj (ZT _),rfl,?_⟩,trivial⟩,rfl,trivial,⟨rfl,by kernel_rfl⟩,rfl,⟨⟨rfl,rfl,ZB (ZT _)⟩,trivial⟩,rfl,QQ 3 _ rfl,fun x hx hrw => ?_⟩,⟨fun x hx _=>by obtain rfl:=List.mem_singleton.1 hx; exact ZT _⟩⟩
 ·obtain rfl:=List.mem_singleton.1 hx
  exact QP (ZT _ v hv) 3
 ·simp only[and_true,true_and,and_self,Nat.le_refl]
 ·exact⟨rfl,rfl,trivial,(Zk (ZT _)).symm⟩
 ·obtain rfl:=List.mem_singleton.1 hx
  right; rfl
def Zw8 (c:Cp) (fr:Nat→Cp) (b v:Bool) (h:c.Ok∧Wc fr∧v=Uz c fr b 16):Ent Tryz.prog :=
 Zke Tryz.prog 17 0 55 (fmI 0 c fr [] b 0) (.exit 0) (fmF 0 c fr [] v) (by kernel_rfl) (by kernel_rfl) (by
  obtain⟨h1,h2,rfl⟩:=h
  exact Zvm c fr [] b h1 h2 ⟨0,Nat.zero_le _⟩)
def Zw9 (c:Cp) (fr:Nat→Cp) (l:List Cp) (b v:Bool) (h:c.Ok∧Wc fr∧v=Uz c fr b 16):Ent Tryz.prog :=
 Zke Tryz.prog 17 0 55 (fmI 2 c fr l b 0) (.exit 0) (fmF 2 c fr l v) (by kernel_rfl) (by kernel_rfl) (by
  obtain⟨h1,h2,rfl⟩:=h
  exact Zvn c fr l b h1 h2 ⟨0,Nat.zero_le _⟩)
def ZDv (c:Cp) (l:List Cp) (b v:Bool) (h:l.length<4096∧v=Zgt c l b l.length):Ent Tryz.prog :=
 Zke Tryz.prog 17 1 55 (fnI c l b 0) (.exit 2) (fnF v) (by kernel_rfl) (by kernel_rfl) (by
  obtain⟨h1,rfl⟩:=h
  exact Zzs c l b h1 ⟨0,Nat.zero_le _⟩)
def ZDw (fr fr':Nat→Cp) (h:Wc fr∧fr'=Qx fr 16):Ent Tryz.prog :=
 Zke Tryz.prog 15 0 35 (snI fr 0) (.exit 0) (snF fr') (by kernel_rfl) (by kernel_rfl) (by
  obtain⟨h1,rfl⟩:=h
  have:=Zzt fr h1 ⟨0,Nat.zero_le _⟩
  rw[show snI (Qx fr 0) 0=snI fr 0 by rw[ZDa]] at this
  exact this)
def wiL (c d:Cp) (b:Bool):Sy.Steps:=[(67,49,Con.pure [c.val,d.val] (.bool b),[])]
def soL (d:Cp) (b:Bool):Sy.Steps:=[(66,46,Con.pure [d.val] (.bool b),[])]
def Ze5 (a b c:Prop):=Zx5 a b c True
def ZiQ (a b:Prop):=VP (Xg a) (Xg b)
def ZiR (a b:Nat):=sl1 a 64 b
def Ze6 (a b:Nat→Cp):=frL a=frL b
def QJ:=Qw WF
def Xa:=Bx.mk (And.intro @Ze5.eq_1 (And.intro @ZiQ.eq_1 (And.intro @ZiR.eq_1 (And.intro @Ze6.eq_1 @QJ.eq_1))))
theorem ZzP (c:Cp) (fr:Nat→Cp) (b:Bool) (v:Bool) (h:c.Ok∧Wc fr∧v=Uz c fr false 16):obs (evF Tryz.prog Zg (Yt [Zw8 c fr false v h]) 100 20 17 [c.val,WV fr,ZiR 0 0] (ZnD 65 5 0 0))=Zhi v (Ze5 (KU (X3 (fr 16).V) (fr 16).V) (ZhC YA QJ XR KQ Qp) (ZiQ (Ze6 fr fr) (WP (Xo c.C c.E c.B c.T c.P c.Y c.R c.V)))):=by kernel_rfl
def ZF7:=Bx.mk (by have h := @ZzP; simp(maxSteps:=99999999) only[ZL.v, ZZ.v, ZN.v, Qb.v, UF.v, QH.v, ZR.v, Qc.v, JI.v, Z8.v, Zz.v, Uq.v, Qa.v, Y2.v, Wd.v, Xa.v, -eq_self] at h; exact h)
theorem ZzQ (c:Cp) (fr:Nat→Cp) (b:Bool) (v:Bool) (h:c.Ok∧Wc fr∧v=Uz c fr b 16):obs (evF Tryz.prog (Zs 3 (Zb (wiL c (fr 16) b)) Zg) (Yt [Zw8 c fr b v h]) 100 20 17 [c.val,WV fr,ZiR 0 0] (ZnD 65 5 31 0))=Zhi v (Ze5 (XS ((UY ((fr 16).V=true)∧(fr 16).V=true)∧(fr 16).V=true) (WZ c.C c.E c.B c.T c.P c.Y c.R c.V) (Zfx (fr 16))∧(fr 16).V=true) (Zde YA QJ XR (ZeE b b) Qp) (ZiQ (Ze6 fr fr) (WP (Xo c.C c.E c.B c.T c.P c.Y c.R c.V)))):=by kernel_rfl
def ZF8:=Bx.mk (by have h := @ZzQ; simp(maxSteps:=99999999) only[ZL.v, ZZ.v, ZN.v, Z3.v, UF.v, QH.v, ZR.v, Qc.v, Y9.v, QN.v, Z8.v, Zz.v, Qa.v, Y2.v, Wd.v, Xa.v, -eq_self] at h; exact h)
def ZdZ (a:Nat):=Qw (ZaB a)
def ZcB:=Bx.mk @ZdZ.eq_1
theorem ZzR (c:Cp) (fr:Nat→Cp) (l:List Cp) (b:Bool) (v:Bool) (w:Bool) (h:c.Ok∧Wc fr∧v=Uz c fr false 16) (h2:l.length<4096∧w=Zgt c l v l.length):obs (evF Tryz.prog Zg (Yt [Zw9 c fr l false v h,ZDv c l v w h2]) 100 20 17 [c.val,WV fr,ZiR 2 l.length] (Ziu 65 (Uv 2 64 (caL l)) 5 0 0))=Zhi w (Ze5 (Ze5 (KU (X3 (fr 16).V) (fr 16).V) (ZhC (ZdZ l.length) QJ XR KQ Qp) (ZlE (Ze6 fr fr) (WP (Xo c.C c.E c.B c.T c.P c.Y c.R c.V)) (ZaV l))) (JG (ZdZ l.length) QJ (ZeE v v) Qp) (ZiQ (WP (Xo c.C c.E c.B c.T c.P c.Y c.R c.V)) (ZaV l))):=by kernel_rfl
def ZF9:=Bx.mk (by have h := @ZzR; simp(maxSteps:=99999999) only[ZL.v, ZZ.v, ZN.v, Qb.v, UF.v, QH.v, ZR.v, Qc.v, JI.v, Z8.v, Zz.v, Uq.v, Qa.v, Y2.v, KA.v, Xa.v, ZcB.v, -eq_self] at h; exact h)
theorem ZzS (c:Cp) (fr:Nat→Cp) (l:List Cp) (b:Bool) (v:Bool) (w:Bool) (h:c.Ok∧Wc fr∧v=Uz c fr b 16) (h2:l.length<4096∧w=Zgt c l v l.length):obs (evF Tryz.prog (Zs 3 (Zb (wiL c (fr 16) b)) Zg) (Yt [Zw9 c fr l b v h,ZDv c l v w h2]) 100 20 17 [c.val,WV fr,ZiR 2 l.length] (Ziu 65 (Uv 2 64 (caL l)) 5 31 0))=Zhi w (Ze5 (Ze5 (XS ((UY ((fr 16).V=true)∧(fr 16).V=true)∧(fr 16).V=true) (WZ c.C c.E c.B c.T c.P c.Y c.R c.V) (Zfx (fr 16))∧(fr 16).V=true) (Zde (ZdZ l.length) QJ XR (ZeE b b) Qp) (ZlE (Ze6 fr fr) (WP (Xo c.C c.E c.B c.T c.P c.Y c.R c.V)) (ZaV l))) (JG (ZdZ l.length) QJ (ZeE v v) Qp) (ZiQ (WP (Xo c.C c.E c.B c.T c.P c.Y c.R c.V)) (ZaV l))):=by kernel_rfl
def ZGa:=Bx.mk (by have h := @ZzS; simp(maxSteps:=99999999) only[ZL.v, ZZ.v, ZN.v, Z3.v, UF.v, QH.v, ZR.v, Qc.v, Y9.v, QN.v, Z8.v, Zz.v, Qa.v, Y2.v, KA.v, Xa.v, ZcB.v, -eq_self] at h; exact h)
def Zdq (a:Prop) (b c:Nat→Cp):=ZiQ a (Ze6 b c)
def ZaW:=Bx.mk @Zdq.eq_1
theorem ZDx (fr:Nat→Cp) (fr':Nat→Cp) (b:Bool) (h:Wc fr∧fr'=Qx fr 16):obs (evF Tryz.prog Zg (Yt [ZDw fr fr' h]) 100 20 15 [WV fr] (Y5 4 0))=U2 (frQ fr' (Xo (fr' 16).C (fr' 16).E (fr' 16).B (fr' 16).T (fr' 16).P (fr' 16).Y (fr' 16).R false)) (KU (KL (Zry (Wz (Qw ZiM) QJ Qp) (Zdq (WP frZ) fr fr) True)) (fr' 16).V):=by kernel_rfl
def sn_a:=Bx.mk (by have h := @ZDx; simp(maxSteps:=99999999) only[ZL.v, ZZ.v, ZN.v, QH.v, ZR.v, JI.v, Z8.v, Zz.v, Uq.v, Qa.v, Zcz.v, Y2.v, Xa.v, ZaW.v, -eq_self] at h; exact h)
theorem ZDy (fr:Nat→Cp) (fr':Nat→Cp) (b:Bool) (h:Wc fr∧fr'=Qx fr 16):obs (evF Tryz.prog (Zs 3 (Zb (soL (fr' 16) b)) Zg) (Yt [ZDw fr fr' h]) 100 20 15 [WV fr] (Y5 4 15))=U2 (frQ fr' (Xo (fr' 16).C (fr' 16).E (fr' 16).B (fr' 16).T (fr' 16).P (fr' 16).Y (fr' 16).R b)) (VA ((Ziz (Zry (Wz (Qw ZiM) QJ Qp) (Zdq (WP frZ) fr fr) True) ((fr' 16).V=true)∧(fr' 16).V=true)∧(fr' 16).V=true) (Zfx (fr' 16))∧(fr' 16).V=true):=by kernel_rfl
def sn_b:=Bx.mk (by have h := @ZDy; simp(maxSteps:=99999999) only[ZL.v, ZZ.v, ZN.v, Z3.v, QH.v, ZR.v, QN.v, Z8.v, Zz.v, Qa.v, Zcz.v, Y2.v, Xa.v, ZaW.v, -eq_self] at h; exact h)
def roC (args:List Value) (n:Nat) (h:Sy.Heap) (v:Value):Con:=⟨args,n,h,[],v,n,[],[]⟩
theorem Zov {call:Qs} (hc:Zv Tryz.prog call) {fn:FuncId} {args:List Value} {n:Nat} {h:Sy.Heap} {v v':Value} {T:List (Nat×Bool)} {q:Prop} (hn:64≤n) (hh:OkH (fun l=>Nat.blt l n) h) (hw:h.all (fun y => !y.2.rw)=true) (ha:args.all (okV (fun l=>Nat.blt l n) 3)=true) (hv:X1 v=true) (hu:isU v=false) (hr:obs (call fn args ⟨n,h,[],0,T,0,True⟩)=some (v',q)) (hvv:v'=v) (hq:q) :
  ConOk Tryz.prog fn 3 (roC args n h v)∧FlatC (roC args n h v):=by
 subst hvv
 unfold obs at hr
 obtain⟨⟨v',s'⟩,h1,h2⟩:=oM hr
 simp only[Prod.mk.injEq] at h2
 obtain⟨rfl,rfl⟩:=h2
 refine⟨Qi hc ⟨hn,Nat.le_refl _,hh,rfl,rfl,rfl,ha,Ys hv 1,fun x hx=>by cases hx⟩ h1 hq (p:=fun l=>Nat.blt l n) (σ:=id) ?_,⟨fun x hx=>by cases hx⟩⟩
 exact⟨fun _ _=>rfl,trivial,rfl,trivial,⟨Ys hv 1,by rw[Uh]; rfl⟩,hu,trivial,rfl,XA _ hv,fun x hx=>by cases hx⟩
def VI (c:Cp) (fr:Nat→Cp) (l:List Cp):Bool:=Zgt c l (Uz c fr ((fr 16).V&&wit c (fr 16)) 16) l.length
def frC (K:Nat) (c:Cp) (fr:Nat→Cp) (l:List Cp) (v:Bool):Con:=roC [c.val,WV fr,sl1 K 64 l.length] 65 (Uv K 64 (caL l)) (.bool v)
theorem Zxa {c d:Cp} {b:Bool} (hc:c.Ok) (hd:d.Ok) (hb:b=wit c d):∀ x∈wiL c d b,ConOk Tryz.prog x.2.1 3 x.2.2.1∧FlatC x.2.2.1:=fun x hx=>by
 subst hb
 obtain rfl:=List.mem_singleton.1 hx
 exact⟨ZdP c d hc hd,⟨fun x hx=>by cases hx⟩⟩
theorem Ze7 (c:Cp) (fr:Nat→Cp) (hc:c.Ok) (hfr:Wc fr):ConOk Tryz.prog 17 3 (frC 0 c fr [] (VI c fr []))∧FlatC (frC 0 c fr [] (VI c fr [])):=by
 cases hV:(fr 16).V
 ·have e:VI c fr []=Uz c fr false 16:=by unfold VI; rw[hV]; rfl
  have hr:=ZF7.v c fr false (VI c fr []) ⟨hc,hfr,e⟩
  refine Zov (Zn (L:=100) Ze (Zc _) (X0 _) 20) (by decide) trivial rfl rfl rfl rfl hr rfl ?_
  simp only[hV,and_self]
 ·have e:VI c fr []=Uz c fr (wit c (fr 16)) 16:=by unfold VI; rw[hV]; rfl
  have hr:=ZF8.v c fr (wit c (fr 16)) (VI c fr []) ⟨hc,hfr,e⟩
  refine Zov (Zn (L:=100) Ze (Zo (Zi (Zxa hc (hfr 16) rfl)) (Zc _)) (X0 _) 20) (by decide) trivial rfl rfl rfl rfl hr rfl ?_
  simp only[hV,and_self]
theorem ZlM (c:Cp) (fr:Nat→Cp) (l:List Cp) (hc:c.Ok) (hfr:Wc fr) (hl:l.length<4096):ConOk Tryz.prog 17 3 (frC 2 c fr l (VI c fr l))∧FlatC (frC 2 c fr l (VI c fr l)):=by
 have hh:OkH (fun l=>Nat.blt l 65) (Uv 2 64 (caL l)):=⟨⟨rfl,rfl,ZB (ZT l)⟩,trivial⟩
 cases hV:(fr 16).V
 ·have e:VI c fr l=Zgt c l (Uz c fr false 16) l.length:=by unfold VI; rw[hV]; rfl
  have hr:=ZF9.v c fr l false (Uz c fr false 16) (VI c fr l) ⟨hc,hfr,rfl⟩ ⟨hl,e⟩
  refine Zov (Zn (L:=100) Ze (Zc _) (X0 _) 20) (by decide) hh rfl rfl rfl rfl hr rfl ?_
  simp only[hV,and_self]
 ·have e:VI c fr l=Zgt c l (Uz c fr (wit c (fr 16)) 16) l.length:=by unfold VI; rw[hV]; rfl
  have hr:=ZGa.v c fr l (wit c (fr 16)) (Uz c fr (wit c (fr 16)) 16) (VI c fr l) ⟨hc,hfr,rfl⟩ ⟨hl,e⟩
  refine Zov (Zn (L:=100) Ze (Zo (Zi (Zxa hc (hfr 16) rfl)) (Zc _)) (X0 _) 20) (by decide) hh rfl rfl rfl rfl hr rfl ?_
  simp only[hV,and_self]
theorem ZlN {call:Qs} {fn:FuncId} (hcall:Zv Tryz.prog call) {args:List Value} {T:List (Nat×Bool)} {v v':Value} {q:Prop} (h:obs (call fn args (stT T))=some (v',q)) (hvv:v'=v) (hq:q) (ha:args.all X1=true) (hv:X1 v=true):ConOk Tryz.prog fn 3 (Con.pure args v)∧FlatC (Con.pure args v):=by
 subst hvv
 exact⟨ZX (d:=1) hcall h hq ha hv,Zgg⟩
theorem ZlO (fr:Nat→Cp) (hfr:Wc fr):ConOk Tryz.prog 15 3 (Con.pure [WV fr] (WV (Qx fr 17)))∧FlatC (Con.pure [WV fr] (WV (Qx fr 17))):=by
 have h16:Qx fr 16 16=fr 16:=ZsM fr 16
 have e17:=ZlG fr 16
 cases hV:(fr 16).V
 ·have hr:=sn_a.v fr (Qx fr 16) false ⟨hfr,rfl⟩
  refine ZlN (Zn (L:=100) Ze (Zc _) (X0 _) 20) hr ?_ ?_ rfl rfl
  ·rw[e17]; unfold ZmP; rw[hV,h16]; rfl
  ·simp only[h16,hV,and_self]
 ·have hr:=sn_b.v fr (Qx fr 16) (fr 16).snd ⟨hfr,rfl⟩
  have hb:Zv Tryz.prog (Zs 3 (Zb (soL (Qx fr 16 16) (fr 16).snd)) Zg):=Zo (Zi fun x hx=>by
   obtain rfl:=List.mem_singleton.1 hx
   rw[h16]
   exact⟨ZcS _ (hfr 16),⟨fun x hx=>by cases hx⟩⟩) (Zc _)
  refine ZlN (Zn (L:=100) Ze hb (X0 _) 20) hr ?_ ?_ rfl rfl
  ·rw[e17]; unfold ZmP; rw[hV,h16]; rfl
  ·simp only[h16,hV,and_self]
def naE (G:Nat) (m:Value):List (Nat×Value):=[(3,.pointer (some ⟨65,0,none⟩)),(7,.pointer (some ⟨70,0,none⟩)),(9,m),(10,.pointer (some ⟨G,0,none⟩))]
def ZsV (fr gr:Nat→Cp) (i:Nat):Sf:=⟨75,naE 74 (.slice none 0 0)++[(12,.int .i64 (i:Nat))],[(74,⟨true,none,frL gr,none⟩),(65,⟨true,none,frL fr,none⟩)],[]⟩
def ZEi (fr gr:Nat→Cp):Sf:=⟨75,naE 74 (.slice none 0 0),[(74,⟨true,none,frL gr,none⟩),(65,⟨true,none,frL fr,none⟩)],[]⟩
def ZsW (fr gr:Nat→Cp) (l:List Cp) (i:Nat):Sf:=⟨76,naE 75 (.slice (some ⟨74,0,none⟩) l.length (big+74))++[(12,.int .i64 (i:Nat))],[(75,⟨true,none,frL gr,none⟩),(65,⟨true,none,frL fr,none⟩),(74,⟨false,some (0,0),caL l,none⟩)],[]⟩
def ZEj (fr gr:Nat→Cp) (l:List Cp):Sf:=⟨76,naE 75 (.slice (some ⟨74,0,none⟩) l.length (big+74)),[(75,⟨true,none,frL gr,none⟩),(65,⟨true,none,frL fr,none⟩),(74,⟨false,some (0,0),caL l,none⟩)],[]⟩
def ZzT (fr:Nat→Cp) (nl:List Cp) (i:Nat):Sf:=⟨76,[(3,.pointer (some ⟨65,0,none⟩)),(9,.slice none 0 0),(13,.slice (some ⟨75,0,none⟩) nl.length (big+75)),(14,.int .i64 (i:Nat))],[(75,⟨false,some (0,0),caL nl,none⟩),(65,⟨true,none,frL fr,none⟩)],[]⟩
def ZzU (fr:Nat→Cp) (l nl:List Cp) (i:Nat):Sf:=⟨77,[(3,.pointer (some ⟨65,0,none⟩)),(9,.slice (some ⟨74,0,none⟩) l.length (big+74)),(13,.slice (some ⟨76,0,none⟩) nl.length (big+76)),(14,.int .i64 (i:Nat))],[(76,⟨false,some (0,0),caL nl,none⟩),(65,⟨true,none,frL fr,none⟩),(74,⟨false,some (0,0),caL l,none⟩)],[]⟩
def nbF (n:Nat):Sf:=⟨n,[],[],[]⟩
def Zib:=Zg3 70
def ZiS:=Zg3 74
def YY:=Bx.mk (And.intro @Zib.eq_1 @ZiS.eq_1)
theorem ZzV (fr:Nat→Cp) (gr:Nat→Cp) (i:Nat):Option.map (KN 98 [3,7,9,10,12] [65,74]) (evC Tryz.prog (evF Tryz.prog Zg Zf 100 20) (Zf 4) 98 100 (ZK Tryz.prog 4 0) (Sf.frT 98 (ZsV fr gr i) (tb 21 1)))=Y8 98 [(3,WF),(7,Zib),(9,WB),(10,ZiS),Yz 12 i] 75 [(74,XW gr),(65,XW fr)] [] 0 (Vo (VE (QK (ZaL (ZeV (Ux (ZaQ (KW i+1) gr Jx gr i) (JX i i) (X7 i=true)) (ZbI gr i)) (ZbI gr i)) (ZbI gr i)))):=by kernel_rfl
def ZGb:=Bx.mk (by have h := @ZzV; simp(maxSteps:=99999999) only[ZL.v, ZN.v, Qb.v, ZR.v, Qc.v, QY.v, J3.v, Zz.v, Zfy.v, ZmN.v, Wr.v, Qa.v, VG.v, Zcz.v, YY.v, -eq_self] at h; exact h)
def ZhQ (a:Nat→Cp) (b:Nat) (c:Nat→Cp) (d:Nat) (e:Bool):=ZjT a b==ZjT c d&&e
def ZhR (a:Nat→Cp) (b:Nat) (c:Nat→Cp) (d:Nat) (e:Nat→Cp) (f:Nat) (g:Nat→Cp) (h:Nat) (i:Bool):=ZhQ a b c d (ZhQ e f g h i)
def W5 (a:Nat→Cp) (b:Nat) (c:Nat→Cp) (d:Nat) (e:Bool):=ZhQ a (Vi b) c (Vi d) e
def Wi (a:Nat→Cp) (b:Nat) (c:Nat→Cp) (d:Nat) (e:Nat→Cp) (f:Nat) (g:Nat→Cp) (h:Nat) (i:Bool):=ZhR a (ZbJ b) c (ZbJ d) e (Jy f) g (Jy h) i
def W6 (a:Nat→Cp) (b:Nat) (c:Nat→Cp) (d:Nat) (e:Nat→Cp) (f:Nat) (g:Nat→Cp) (h:Nat) (i:Bool):=ZhR a (KX b) c (KX d) e (KY f) g (KY h) i
def Wj (a:Nat→Cp) (b:Nat) (c:Nat→Cp) (d:Nat) (e:Nat→Cp) (f:Nat) (g:Nat→Cp) (h:Nat) (i:Bool):=ZhR a (ZhK b) c (ZhK d) e (Uw f) g (Uw h) (XQ i)
def Wk (a:Nat→Cp) (b:Nat) (c:Nat→Cp) (d:Nat):=ZfX a b==ZfX c d
def ZvC:=Bx.mk (And.intro @ZhQ.eq_1 (And.intro @ZhR.eq_1 (And.intro @W5.eq_1 (And.intro @Wi.eq_1 (And.intro @W6.eq_1 (And.intro @Wj.eq_1 @Wk.eq_1))))))
theorem ZzW (fr:Nat→Cp) (gr:Nat→Cp) (i:Nat):Option.map (KN 98 [3,7,9,10,12] [65,74]) (evC Tryz.prog (evF Tryz.prog Zg Zf 100 20) (Zf 4) 98 100 (ZK Tryz.prog 4 0) (Sf.frT 98 (ZsV fr gr i) (tb 21 2047)))=Y8 98 [(3,WF),(7,Zib),(9,WB),(10,ZiS),Yz 12 i] 75 [(74,XW gr),(65,XW fr)] [] 0 (YI (Zsm (QK (KU (QK (Jz (ZbL (U9 i 8 fr fr i) (U8 i i (ZbK (ZbL (U9 i 8 gr gr i) (U8 i i (ZbK (Jz (Ux (ZaQ (KW i+1) gr Jx gr i) (JX i i) (X7 i=true)) gr i) gr i gr i) (JY gr i)) gr i) gr i gr i) (JY gr i)) gr i) gr i) (!W5 gr i fr i (W6 gr i fr i gr i fr i (Wi gr i fr i gr i fr i (Wj gr i fr i gr i fr i (Wk gr i fr i)))))) (!W5 gr i fr i (W6 gr i fr i gr i fr i (Wi gr i fr i gr i fr i (Wj gr i fr i gr i fr i (Wk gr i fr i)))))) (!W5 gr i fr i (W6 gr i fr i gr i fr i (Wi gr i fr i gr i fr i (Wj gr i fr i gr i fr i (Wk gr i fr i)))))) (!ZhR gr (Vi i) fr (Vi i) gr (KX i) fr (KX i) (ZhQ gr (KY i) fr (KY i) (Wi gr i fr i gr i fr i (Wj gr i fr i gr i fr i (Wk gr i fr i))))) (!W5 gr i fr i (W6 gr i fr i gr i fr i (Wi gr i fr i gr i fr i (Wj gr i fr i gr i fr i (Wk gr i fr i))))))):=by kernel_rfl
def ZGc:=Bx.mk (by have h := @ZzW; simp(maxSteps:=99999999) only[ZL.v, ZN.v, Z3.v, Qb.v, QH.v, ZR.v, Qc.v, JI.v, Zz.v, Zfy.v, Uq.v, ZmN.v, Wr.v, Qa.v, VG.v, ZaR.v, Zcz.v, YY.v, ZvC.v, -eq_self] at h; exact h)
def ZsX (a b:Prop) (c d:Nat→Cp) (e:Prop):=Zdn a b (Uo c d) e
def ZsY (a b:Prop) (c d:Nat→Cp) (e f:Prop):=Zlk (ZsX a b c d e) f f
def ZaX:=Bx.mk (And.intro @ZsX.eq_1 @ZsY.eq_1)
theorem ZzX (fr:Nat→Cp) (gr:Nat→Cp) (i:Nat) (x:Cp):Option.map (KN 98 [3,7,9,10,12] [65,74]) (evC Tryz.prog (evF Tryz.prog (Zs 3 (Zb [(75,17,frC 0 x fr [] true,[])]) Zg) Zf 100 20) (Zf 4) 98 100 (ZK Tryz.prog 4 0) (Sf.frT 98 (ZsV fr gr i) (tb 21 1048575)))=Y8 98 [(3,WF),(7,Zib),(9,WB),(10,ZiS),Yz 12 i] 75 [(74,XW gr),(65,XW fr)] [] 0 (ZsY ((Ve (U9 i 8 gr gr i) (U8 i i (((Jz (ZbL (U9 i 8 fr fr i) (U8 i i (ZbK (ZbL (U9 i 8 gr gr i) (U8 i i (Jz (ZbK (Ux (ZaQ (KW i+1) gr Jx gr i) (JX i i) (X7 i=true)) gr i gr i) gr i) (JY gr i)) gr i) gr i gr i) (JY gr i)) gr i) gr i∧(!W5 gr i fr i (W6 gr i fr i gr i fr i (Wi gr i fr i gr i fr i (Wj gr i fr i gr i fr i (Wk gr i fr i)))))=true)∧(!W5 gr i fr i (W6 gr i fr i gr i fr i (Wi gr i fr i gr i fr i (Wj gr i fr i gr i fr i (Wk gr i fr i)))))=true)∧(!W5 gr i fr i (W6 gr i fr i gr i fr i (Wi gr i fr i gr i fr i (Wj gr i fr i gr i fr i (Wk gr i fr i)))))=true) ((!W5 gr i fr i (W6 gr i fr i gr i fr i (Wi gr i fr i gr i fr i (Wj gr i fr i gr i fr i (Wk gr i fr i)))))=true)) ((!W5 gr i fr i (W6 gr i fr i gr i fr i (Wi gr i fr i gr i fr i (Wj gr i fr i gr i fr i (Wk gr i fr i)))))=true)∧(!W5 gr i fr i (W6 gr i fr i gr i fr i (Wi gr i fr i gr i fr i (Wj gr i fr i gr i fr i (Wk gr i fr i)))))=true)∧(!ZhR gr (Vi i) fr (Vi i) gr (KX i) fr (KX i) (ZhQ gr (KY i) fr (KY i) (Wi gr i fr i gr i fr i (Wj gr i fr i gr i fr i (Wk gr i fr i)))))=true) (Zhz gr (Vi i) (KX i) (Zcs gr (KY i)) (Zcs gr (ZbJ i)) (Zcs gr (Jy i)) (Zht gr (Jy i)) (Zlf gr (Uw i)) (ZfX gr i)=ZI x.C x.E x.B x.T x.P x.Y x.R x.V) fr fr YA ((!W5 gr i fr i (W6 gr i fr i gr i fr i (Wi gr i fr i gr i fr i (Wj gr i fr i gr i fr i (Wk gr i fr i)))))=true)):=by kernel_rfl
def ZGd:=Bx.mk (by have h := @ZzX; simp(maxSteps:=99999999) only[ZL.v, ZN.v, Z3.v, Qb.v, QH.v, ZR.v, Qc.v, ZD.v, Z8.v, Zz.v, YN.v, Wr.v, Qa.v, VG.v, ZaR.v, Zcz.v, Wd.v, YY.v, ZvC.v, ZaX.v, -eq_self] at h; exact h)
theorem ZzY (fr:Nat→Cp) (gr:Nat→Cp) (i:Nat):Option.map (KN 98 [3,7,9,10] [65,74]) (evC Tryz.prog (evF Tryz.prog Zg Zf 100 20) (Zf 4) 98 100 (ZK Tryz.prog 4 0) (Sf.frT 98 (ZsV fr gr i) Uu))=K0 0 98 [(3,WF),(7,Zib),(9,WB),(10,ZiS)] 75 [(74,XW gr),(65,XW fr)] [] [] 0 (ZfY i):=by kernel_rfl
def ZGe:=Bx.mk (by have h := @ZzY; simp(maxSteps:=99999999) only[ZL.v, ZN.v, Qc.v, Qz.v, ZeW.v, Qa.v, Zcy.v, YY.v, -eq_self] at h; exact h)
def Zf1 (a b c:Nat):=ZkY a b c 9223372036854775883
def Ze8 (a:List Cp) (b:Nat):=Zut (caL a) b
def ZlP:=Bx.mk (And.intro @Zf1.eq_1 @Ze8.eq_1)
theorem ZzZ (fr:Nat→Cp) (nl:List Cp) (i:Nat) (x:Cp):Option.map (KN 98 [3,9,13,14] [65,75]) (evC Tryz.prog (evF Tryz.prog (Zs 3 (Zb [(76,17,frC 0 x fr [] true,[])]) Zg) Zf 100 20) (Zf 4) 98 100 (ZK Tryz.prog 4 1) (Sf.frT 98 (ZzT fr nl i) [(0,true),Zdh]))=Y8 98 [(3,WF),(9,WB),(13,Zf1 75 0 nl.length),Yz 14 i] 76 [(75,Zaa 0 0 nl),(65,XW fr)] [] 0 (YI (ZsX (Ux (YH (ZfW i 8) (caL nl) (Kt 0 0 0) (Vi i)) (Jr i (XI i nl.length)) (XI i nl.length=true)) (Zcf (ZdR (caL nl) (Vi i)) (ZiG (caL nl) (KX i)) (Ze8 nl (KY i)) (Ze8 nl (ZbJ i)) (Ze8 nl (Jy i)) (Ze8 nl (ZhK i)) (ZdR (caL nl) (Uw i)) (ZjU (caL nl) (Uw i+1))=ZI x.C x.E x.B x.T x.P x.Y x.R x.V) fr fr YA)):=by kernel_rfl
def ZGf:=Bx.mk (by have h := @ZzZ; simp(maxSteps:=99999999) only[ZL.v, ZN.v, Qb.v, QH.v, ZR.v, Qc.v, Qz.v, ZjN.v, Z8.v, Zz.v, Wr.v, Qa.v, VG.v, ZaR.v, VH.v, Zc3.v, Zcz.v, Wd.v, ZaX.v, ZlP.v, -eq_self] at h; exact h)
theorem Zz0 (fr:Nat→Cp) (nl:List Cp) (i:Nat):Option.map (KN 98 [] []) (evC Tryz.prog (evF Tryz.prog Zg Zf 100 20) (Zf 4) 98 100 (ZK Tryz.prog 4 1) (Sf.frT 98 (ZzT fr nl i) Uu))=K0 2 98 [] 76 [] [] [] 0 (X3 (XI i nl.length)):=by kernel_rfl
def ZGg:=Bx.mk (by have h := @Zz0; simp(maxSteps:=99999999) only[ZL.v, ZN.v, Qz.v, ZeW.v, Qa.v, Zcy.v, Zc3.v, -eq_self] at h; exact h)
def ZiT:=Zg3 75
def ZhS (a:Nat):=ZkY 74 0 a 9223372036854775882
def UB:=Bx.mk (And.intro @ZiT.eq_1 @ZhS.eq_1)
theorem Zz1 (fr:Nat→Cp) (gr:Nat→Cp) (l:List Cp) (i:Nat):Option.map (KN 98 [3,7,9,10,12] [65,74,75]) (evC Tryz.prog (evF Tryz.prog Zg Zf 100 20) (Zf 4) 98 100 (ZK Tryz.prog 4 0) (Sf.frT 98 (ZsW fr gr l i) (tb 21 1)))=Y8 98 [(3,WF),(7,Zib),(9,ZhS l.length),(10,ZiT),Yz 12 i] 76 [(75,XW gr),(65,XW fr),(74,Zaa 0 0 l)] [] 0 (Vo (VE (ZaL (KU (Ux (ZaQ (KW i+1) gr Jx gr i) (JX i i) (X7 i=true)) (ZbI gr i)) (ZbI gr i)))):=by kernel_rfl
def ZGh:=Bx.mk (by have h := @Zz1; simp(maxSteps:=99999999) only[ZL.v, ZN.v, Qb.v, ZR.v, QY.v, J3.v, JI.v, Zz.v, Uq.v, Wr.v, Qa.v, VG.v, VH.v, Zcz.v, YY.v, UB.v, -eq_self] at h; exact h)
theorem Zz2 (fr:Nat→Cp) (gr:Nat→Cp) (l:List Cp) (i:Nat):Option.map (KN 98 [3,7,9,10,12] [65,74,75]) (evC Tryz.prog (evF Tryz.prog Zg Zf 100 20) (Zf 4) 98 100 (ZK Tryz.prog 4 0) (Sf.frT 98 (ZsW fr gr l i) (tb 21 2047)))=Y8 98 [(3,WF),(7,Zib),(9,ZhS l.length),(10,ZiT),Yz 12 i] 76 [(75,XW gr),(65,XW fr),(74,Zaa 0 0 l)] [] 0 (YI (KU (Un (ZeV (Jz (ZbL (U9 i 8 fr fr i) (U8 i i (ZbK (ZbL (U9 i 8 gr gr i) (U8 i i (ZbK (Jz (Ux (ZaQ (KW i+1) gr Jx gr i) (JX i i) (X7 i=true)) gr i) gr i gr i) (JY gr i)) gr i) gr i gr i) (JY gr i)) gr i) gr i) (!W5 gr i fr i (W6 gr i fr i gr i fr i (Wi gr i fr i gr i fr i (Wj gr i fr i gr i fr i (Wk gr i fr i)))))) (!W5 gr i fr i (W6 gr i fr i gr i fr i (Wi gr i fr i gr i fr i (Wj gr i fr i gr i fr i (Wk gr i fr i)))))) (!W5 gr i fr i (W6 gr i fr i gr i fr i (Wi gr i fr i gr i fr i (Wj gr i fr i gr i fr i (Wk gr i fr i))))))):=by kernel_rfl
def ZGi:=Bx.mk (by have h := @Zz2; simp(maxSteps:=99999999) only[ZL.v, ZN.v, Z3.v, Qb.v, QH.v, ZR.v, Qc.v, JI.v, Zz.v, Zfy.v, Uq.v, ZmN.v, Wr.v, Qa.v, VG.v, ZaR.v, VH.v, Zcz.v, YY.v, ZvC.v, UB.v, -eq_self] at h; exact h)
def ZlQ (a:Nat):=Qw (ZhS a)
def ZaY:=Bx.mk @ZlQ.eq_1
theorem Zz3 (fr:Nat→Cp) (gr:Nat→Cp) (l:List Cp) (i:Nat) (x:Cp):Option.map (KN 98 [3,7,9,10,12] [65,74,75]) (evC Tryz.prog (evF Tryz.prog (Zs 3 (Zb [(76,17,frC 2 x fr l true,[74])]) Zg) Zf 100 20) (Zf 4) 98 100 (ZK Tryz.prog 4 0) (Sf.frT 98 (ZsW fr gr l i) (tb 21 1048575)))=Y8 98 [(3,WF),(7,Zib),(9,ZhS l.length),(10,ZiT),Yz 12 i] 76 [(75,XW gr),(65,XW fr),(74,Zaa 0 0 l)] [] 0 (Zlk (Zc1 ((Ve (U9 i 8 gr gr i) (U8 i i (((Jz (ZbL (U9 i 8 fr fr i) (U8 i i (ZbK (ZbL (U9 i 8 gr gr i) (U8 i i (Jz (ZbK (Ux (ZaQ (KW i+1) gr Jx gr i) (JX i i) (X7 i=true)) gr i gr i) gr i) (JY gr i)) gr i) gr i gr i) (JY gr i)) gr i) gr i∧(!W5 gr i fr i (W6 gr i fr i gr i fr i (Wi gr i fr i gr i fr i (Wj gr i fr i gr i fr i (Wk gr i fr i)))))=true)∧(!W5 gr i fr i (W6 gr i fr i gr i fr i (Wi gr i fr i gr i fr i (Wj gr i fr i gr i fr i (Wk gr i fr i)))))=true)∧(!W5 gr i fr i (W6 gr i fr i gr i fr i (Wi gr i fr i gr i fr i (Wj gr i fr i gr i fr i (Wk gr i fr i)))))=true) ((!W5 gr i fr i (W6 gr i fr i gr i fr i (Wi gr i fr i gr i fr i (Wj gr i fr i gr i fr i (Wk gr i fr i)))))=true)) ((!W5 gr i fr i (W6 gr i fr i gr i fr i (Wi gr i fr i gr i fr i (Wj gr i fr i gr i fr i (Wk gr i fr i)))))=true)∧(!W5 gr i fr i (W6 gr i fr i gr i fr i (Wi gr i fr i gr i fr i (Wj gr i fr i gr i fr i (Wk gr i fr i)))))=true)∧(!W5 gr i fr i (W6 gr i fr i gr i fr i (Wi gr i fr i gr i fr i (Wj gr i fr i gr i fr i (Wk gr i fr i)))))=true) (VP (Wz (Zhz gr (Vi i) (KX i) (Zcs gr (KY i)) (Zcs gr (ZbJ i)) (Zcs gr (Jy i)) (Zht gr (Jy i)) (Zlf gr (Uw i)) (ZfX gr i)=ZI x.C x.E x.B x.T x.P x.Y x.R x.V) (Uo fr fr) (ZlQ l.length)) (Zlo Zh (Zfv (caL l) (fun l=>l.blt 65) 3=true) Zh Zh Zh (Zos l (ZaH 65 76 [74] 3 (caL l)))))) ((!W5 gr i fr i (W6 gr i fr i gr i fr i (Wi gr i fr i gr i fr i (Wj gr i fr i gr i fr i (Wk gr i fr i)))))=true) ((!ZhR gr (Vi i) fr (Vi i) gr (KX i) fr (KX i) (ZhQ gr (KY i) fr (KY i) (Wi gr i fr i gr i fr i (Wj gr i fr i gr i fr i (Wk gr i fr i)))))=true)):=by kernel_rfl
def ZGj:=Bx.mk (by have h := @Zz3; simp(maxSteps:=99999999) only[ZL.v, ZN.v, Z3.v, Qb.v, QH.v, ZR.v, ZD.v, Z8.v, Zz.v, YN.v, ZW.v, Wr.v, Qa.v, VG.v, ZaR.v, VH.v, Zcz.v, KA.v, YY.v, ZvC.v, UB.v, ZaY.v, -eq_self] at h; exact h)
theorem Zz4 (fr:Nat→Cp) (gr:Nat→Cp) (l:List Cp) (i:Nat):Option.map (KN 98 [3,7,9,10] [65,74,75]) (evC Tryz.prog (evF Tryz.prog Zg Zf 100 20) (Zf 4) 98 100 (ZK Tryz.prog 4 0) (Sf.frT 98 (ZsW fr gr l i) Uu))=K0 0 98 [(3,WF),(7,Zib),(9,ZhS l.length),(10,ZiT)] 76 [(75,XW gr),(65,XW fr),(74,Zaa 0 0 l)] [] [] 0 (ZfY i):=by kernel_rfl
def ZGk:=Bx.mk (by have h := @Zz4; simp(maxSteps:=99999999) only[ZL.v, ZN.v, Qz.v, ZeW.v, Qa.v, Zcy.v, VH.v, YY.v, UB.v, -eq_self] at h; exact h)
def ZsZ (a:Nat):=ZkY 76 0 a 9223372036854775884
def ZfC:=Bx.mk @ZsZ.eq_1
theorem Zz5 (fr:Nat→Cp) (l:List Cp) (nl:List Cp) (i:Nat) (x:Cp):Option.map (KN 98 [3,9,13,14] [65,74,76]) (evC Tryz.prog (evF Tryz.prog (Zs 3 (Zb [(77,17,frC 2 x fr l true,[74])]) Zg) Zf 100 20) (Zf 4) 98 100 (ZK Tryz.prog 4 1) (Sf.frT 98 (ZzU fr l nl i) [(0,true),Zdh]))=Y8 98 [(3,WF),(9,ZhS l.length),(13,ZsZ nl.length),Yz 14 i] 77 [(76,Zaa 0 0 nl),(65,XW fr),(74,Zaa 0 0 l)] [] 0 (YI (Zc1 (Ux (YH (ZfW i 8) (caL nl) (Kt 0 0 0) (Vi i)) (Jr i (XI i nl.length)) (XI i nl.length=true)) (VP (Wz (Zcf (ZdR (caL nl) (Vi i)) (ZiG (caL nl) (KX i)) (Ze8 nl (KY i)) (Ze8 nl (ZbJ i)) (Ze8 nl (Jy i)) (Ze8 nl (ZhK i)) (ZdR (caL nl) (Uw i)) (ZjU (caL nl) (Uw i+1))=ZI x.C x.E x.B x.T x.P x.Y x.R x.V) (Uo fr fr) (ZlQ l.length)) (Zlo Zh (Zfv (caL l) (fun l=>l.blt 65) 3=true) Zh Zh Zh (Zos l (ZaH 65 77 [74] 3 (caL l))))))):=by kernel_rfl
def ZGl:=Bx.mk (by have h := @Zz5; simp(maxSteps:=99999999) only[ZL.v, ZN.v, Z3.v, Qb.v, QH.v, ZR.v, Qz.v, ZjN.v, Z8.v, Zz.v, ZW.v, Qa.v, VG.v, ZaR.v, VH.v, Zc3.v, Zcz.v, KA.v, ZlP.v, UB.v, ZaY.v, ZfC.v, -eq_self] at h; exact h)
theorem Zz6 (fr:Nat→Cp) (l:List Cp) (nl:List Cp) (i:Nat):Option.map (KN 98 [] []) (evC Tryz.prog (evF Tryz.prog Zg Zf 100 20) (Zf 4) 98 100 (ZK Tryz.prog 4 1) (Sf.frT 98 (ZzU fr l nl i) Uu))=K0 2 98 [] 77 [] [] [] 0 (X3 (XI i nl.length)):=by kernel_rfl
def ZGm:=Bx.mk (by have h := @Zz6; simp(maxSteps:=99999999) only[ZL.v, ZN.v, Qz.v, ZeW.v, Qa.v, Zcy.v, Zc3.v, -eq_self] at h; exact h)
theorem ZvD (fr gr:Nat→Cp) (hfr:Wc fr) (h:∀ k,k<16→(gr k).V=true→Zia (gr k) (fr k)=false→(gr k).Ok∧VI (gr k) fr []=true) :
  ∀ k:{ k:Nat // k≤16 },XO Tryz.prog 98 (ZK Tryz.prog 4 0) ((ZsV fr gr k.1).fr 98) (.exit 0) ((ZEi fr gr).fr 98):=by
 have wf:∀ k,(ZsV fr gr k).Wf:=fun k=>⟨by show 64≤75; omega,Sf.Ok.mk' 3 ⟨⟨rfl,rfl,ZB (ZO _)⟩,⟨rfl,rfl,ZB (ZO _)⟩,trivial⟩ rfl (wfE (by rfl))⟩
 have fo:(ZEi fr gr).Ok (YD 75 75 id (fun l=>Nat.blt l 75)):=Sf.Ok.mk' 3 ⟨⟨rfl,rfl,ZB (ZO _)⟩,⟨rfl,rfl,ZB (ZO _)⟩,trivial⟩ rfl (wfE (by rfl))
 refine VL (L:=100) (QD _ _ 4) (fun _ h=>h) (X:={ k:Nat // k≤16 }) (fun k=>ZsV fr gr k.1) (fun _=>ZEi fr gr) (fun _ => .exit 0) (fun k=>16-k.1) (fun k=>wf _) ?_
 rintro⟨k,hk⟩
 by_cases hlt:k<16
 ·have w3:i64.wrap ((k:Int)+(1:Int))=((k+1:Nat):Int):=Z7 k (by omega)
  have d1:decide ((k:Int)<(16:Int))=true:=decide_eq_true (by omega)
  have d2:decide ((0:Int)≤(k:Int))=true:=decide_eq_true (by omega)
  obtain⟨c0,c1,c2,c3,c4,c5,c6,c7,d7,h8,h7,k8,k1⟩:=Zbn fr (show k<17 by omega)
  obtain⟨e0,e1,e2,e3,e4,e5,e6,e7,f7,j8,j7,m8,m1⟩:=Zbn gr (show k<17 by omega)
  cases hV:(gr k).V
  ·have hr:=ZGb.v fr gr k
   simp only[w3] at hr
   refine⟨_,_,_,_,.normal,_,3,fun l=>Nat.blt l 75,id,Zn (L:=100) Ze (Zc _) (Zd _) 20,hr,?_,.inl ⟨rfl,⟨k+1,by omega⟩,by show 16-(k+1)<16-k; omega,rfl,rfl,rfl,?_⟩⟩
   ·simp only[Int.toNat_natCast,d1,d2,hV,c0,c1,c2,c3,c4,c5,c6,c7,d7,h8,h7,k8,k1,e0,e1,e2,e3,e4,e5,e6,e7,f7,j8,j7,m8,m1,Bool.and_self,Bool.not_true,Bool.not_false,cond_true,and_true,true_and,and_self,Nat.le_refl]
   ·show Sf.Leads 3 _ _ _ _ (ZsV fr gr (k+1)) _
    exact⟨fun _ _=>rfl,(ZV rfl (ZO _) rfl rfl (ZV rfl (ZO _) rfl rfl trivial)),rfl,trivial,by repeat' (first|exact trivial|refine⟨⟨by kernel_rfl,by kernel_rfl⟩,?_⟩),Nat.le_refl _,fun l hl=>ZY hl,fo,fun x _ _ => .inl rfl⟩
  ·cases hq:Zia (gr k) (fr k)
   ·have hr:=ZGd.v fr gr k (gr k)
    simp only[w3] at hr
    have hcon:=Ze7 (gr k) fr (h k hlt hV hq).1 hfr
    rw[(h k hlt hV hq).2] at hcon
    unfold Zia at hq
    refine⟨_,_,_,_,.normal,_,3,fun l=>Nat.blt l 75,id,Zn (L:=100) Ze (Zo (Zi fun x hx=>by
     obtain rfl:=List.mem_singleton.1 hx
     exact hcon) (Zc _)) (Zd _) 20,hr,?_,.inl ⟨rfl,⟨k+1,by omega⟩,by show 16-(k+1)<16-k; omega,rfl,rfl,rfl,?_⟩⟩
    ·rw[hV] at hq
     simp only[Int.toNat_natCast,d1,d2,hV,c0,c1,c2,c3,c4,c5,c6,c7,d7,h8,h7,k8,k1,e0,e1,e2,e3,e4,e5,e6,e7,f7,j8,j7,m8,m1,Bool.and_self,Bool.not_true,Bool.not_false,cond_true,and_true,true_and,and_self,Nat.le_refl,hq]
    ·show Sf.Leads 3 _ _ _ _ (ZsV fr gr (k+1)) _
     exact⟨fun _ _=>rfl,(ZV rfl (ZO _) rfl rfl (ZV rfl (ZO _) rfl rfl trivial)),rfl,trivial,by repeat' (first|exact trivial|refine⟨⟨by kernel_rfl,by kernel_rfl⟩,?_⟩),Nat.le_refl _,fun l hl=>ZY hl,fo,fun x _ _ => .inl rfl⟩
   ·have hr:=ZGc.v fr gr k
    simp only[w3] at hr
    unfold Zia at hq
    refine⟨_,_,_,_,.normal,_,3,fun l=>Nat.blt l 75,id,Zn (L:=100) Ze (Zc _) (Zd _) 20,hr,?_,.inl ⟨rfl,⟨k+1,by omega⟩,by show 16-(k+1)<16-k; omega,rfl,rfl,rfl,?_⟩⟩
    ·rw[hV] at hq
     simp only[Int.toNat_natCast,d1,d2,hV,c0,c1,c2,c3,c4,c5,c6,c7,d7,h8,h7,k8,k1,e0,e1,e2,e3,e4,e5,e6,e7,f7,j8,j7,m8,m1,Bool.and_self,Bool.not_true,Bool.not_false,cond_true,and_true,true_and,and_self,Nat.le_refl,hq]
    ·show Sf.Leads 3 _ _ _ _ (ZsV fr gr (k+1)) _
     exact⟨fun _ _=>rfl,(ZV rfl (ZO _) rfl rfl (ZV rfl (ZO _) rfl rfl trivial)),rfl,trivial,by repeat' (first|exact trivial|refine⟨⟨by kernel_rfl,by kernel_rfl⟩,?_⟩),Nat.le_refl _,fun l hl=>ZY hl,fo,fun x _ _ => .inl rfl⟩
 ·have hkk:k=16:=by omega
  subst hkk
  have hr:=ZGe.v fr gr 16
  refine⟨_,_,_,_,.exit 0,_,3,fun l=>Nat.blt l 75,id,Zn (L:=100) Ze (Zc _) (Zd _) 20,hr,?_,.inr ⟨by simp,rfl,rfl,?_⟩⟩
  ·exact⟨trivial,rfl⟩
  ·exact⟨fun _ _=>rfl,(ZV rfl (ZO _) rfl rfl (ZV rfl (ZO _) rfl rfl trivial)),rfl,trivial,by repeat' (first|exact trivial|refine⟨⟨by kernel_rfl,by kernel_rfl⟩,?_⟩),Nat.le_refl _,fun l hl=>ZY hl,fo,fun x _ _ => .inl rfl⟩
theorem ZvE (fr:Nat→Cp) (nl:List Cp) (hfr:Wc fr) (hn:nl.length<4096) (hok:∀ c∈nl,c.Ok) (h:∀ c∈nl,VI c fr []=true) :
  ∀ k:{ k:Nat // k≤nl.length },XO Tryz.prog 98 (ZK Tryz.prog 4 1) ((ZzT fr nl k.1).fr 98) (.exit 2) ((nbF 76).fr 98):=by
 have wf:∀ k,(ZzT fr nl k).Wf:=fun k=>⟨by show 64≤76; omega,Sf.Ok.mk' 3 ⟨⟨rfl,rfl,ZB (ZT _)⟩,⟨rfl,rfl,ZB (ZO _)⟩,trivial⟩ rfl (wfE (by rfl))⟩
 have fo:(nbF 76).Ok (YD 76 76 id (fun l=>Nat.blt l 76)):=Sf.Ok.mk' 3 trivial rfl (fun x hx=>by cases hx)
 refine VL (L:=100) (QD _ _ 4) (fun _ h=>h) (X:={ k:Nat // k≤nl.length }) (fun k=>ZzT fr nl k.1) (fun _=>nbF 76) (fun _ => .exit 2) (fun k=>nl.length-k.1) (fun k=>wf _) ?_
 rintro⟨k,hk⟩
 by_cases hlt:k<nl.length
 ·have w3:i64.wrap ((k:Int)+(1:Int))=((k+1:Nat):Int):=Z7 k (by omega)
  have d1:decide ((k:Int)<(nl.length:Int))=true:=decide_eq_true (by omega)
  have d2:decide ((0:Int)≤(k:Int))=true:=decide_eq_true (by omega)
  have hmem:nl.getD k V0∈nl:=by
   rw[List.getD_eq_getElem?_getD,List.getElem?_eq_getElem hlt]; exact List.getElem_mem hlt
  have hcon:=Ze7 (nl.getD k V0) fr (hok _ hmem) hfr
  rw[h _ hmem] at hcon
  obtain⟨c0,c1,c2,c3,c4,c5,c6,c7,d7,h8,h7,k8,k1⟩:=Zj1 nl hlt
  have hr:=ZGf.v fr nl k (nl.getD k V0)
  simp only[w3] at hr
  refine⟨_,_,_,_,.normal,_,3,fun l=>Nat.blt l 76,id,Zn (L:=100) Ze (Zo (Zi fun x hx=>by
   obtain rfl:=List.mem_singleton.1 hx
   exact hcon) (Zc _)) (Zd _) 20,hr,?_,.inl ⟨rfl,⟨k+1,by omega⟩,by show nl.length-(k+1)<nl.length-k; omega,rfl,rfl,rfl,?_⟩⟩
  ·simp only[Int.toNat_natCast,d1,d2,c0,c1,c2,c3,c4,c5,c6,c7,d7,h8,h7,k8,k1,Bool.and_self,cond_true,and_true,true_and,and_self,Nat.le_refl]
  ·show Sf.Leads 3 _ _ _ _ (ZzT fr nl (k+1)) _
   exact⟨fun _ _=>rfl,(Ja rfl rfl nl rfl (ZV rfl (ZO _) rfl rfl trivial)),rfl,trivial,by repeat' (first|exact trivial|refine⟨⟨by kernel_rfl,by kernel_rfl⟩,?_⟩),Nat.le_refl _,fun l hl=>ZY hl,fo,fun x _ _ => .inl rfl⟩
 ·have hkk:k=nl.length:=by omega
  have d1:decide ((k:Int)<(nl.length:Int))=false:=decide_eq_false (by omega)
  have hr:=ZGg.v fr nl k
  refine⟨_,_,_,_,.exit 2,_,3,fun l=>Nat.blt l 76,id,Zn (L:=100) Ze (Zc _) (Zd _) 20,hr,?_,.inr ⟨by simp,rfl,rfl,?_⟩⟩
  ·simp only[d1,and_self]
  ·exact⟨fun _ _=>rfl,trivial,rfl,trivial,trivial,Nat.le_refl _,fun l hl=>ZY hl,fo,fun x hx=>by cases hx⟩
theorem ZvF (fr gr:Nat→Cp) (l:List Cp) (hfr:Wc fr) (hl:l.length<4096) (h:∀ k,k<16→(gr k).V=true→Zia (gr k) (fr k)=false→(gr k).Ok∧VI (gr k) fr l=true) :
  ∀ k:{ k:Nat // k≤16 },XO Tryz.prog 98 (ZK Tryz.prog 4 0) ((ZsW fr gr l k.1).fr 98) (.exit 0) ((ZEj fr gr l).fr 98):=by
 have wf:∀ k,(ZsW fr gr l k).Wf:=fun k=>⟨by show 64≤76; omega,Sf.Ok.mk' 3 ⟨⟨rfl,rfl,ZB (ZO _)⟩,⟨rfl,rfl,ZB (ZO _)⟩,⟨rfl,rfl,ZB (ZT _)⟩,trivial⟩ rfl (wfE (by rfl))⟩
 have fo:(ZEj fr gr l).Ok (YD 76 76 id (fun l=>Nat.blt l 76)):=Sf.Ok.mk' 3 ⟨⟨rfl,rfl,ZB (ZO _)⟩,⟨rfl,rfl,ZB (ZO _)⟩,⟨rfl,rfl,ZB (ZT _)⟩,trivial⟩ rfl (wfE (by rfl))
 have v1:∀ (σ:Nat→Nat),(caL l).map (rnV σ 3)=caL l:=fun σ=>Zk (ZT _)
 have v2:∀ (p:Nat→Bool),(caL l).all (okV p 3)=true:=fun p=>Zj (ZT _)
 refine VL (L:=100) (QD _ _ 4) (fun _ h=>h) (X:={ k:Nat // k≤16 }) (fun k=>ZsW fr gr l k.1) (fun _=>ZEj fr gr l) (fun _ => .exit 0) (fun k=>16-k.1) (fun k=>wf _) ?_
 rintro⟨k,hk⟩
 by_cases hlt:k<16
 ·have w3:i64.wrap ((k:Int)+(1:Int))=((k+1:Nat):Int):=Z7 k (by omega)
  have d1:decide ((k:Int)<(16:Int))=true:=decide_eq_true (by omega)
  have d2:decide ((0:Int)≤(k:Int))=true:=decide_eq_true (by omega)
  obtain⟨c0,c1,c2,c3,c4,c5,c6,c7,d7,h8,h7,k8,k1⟩:=Zbn fr (show k<17 by omega)
  obtain⟨e0,e1,e2,e3,e4,e5,e6,e7,f7,j8,j7,m8,m1⟩:=Zbn gr (show k<17 by omega)
  cases hV:(gr k).V
  ·have hr:=ZGh.v fr gr l k
   simp only[w3] at hr
   refine⟨_,_,_,_,.normal,_,3,fun l=>Nat.blt l 76,id,Zn (L:=100) Ze (Zc _) (Zd _) 20,hr,?_,.inl ⟨rfl,⟨k+1,by omega⟩,by show 16-(k+1)<16-k; omega,rfl,rfl,rfl,?_⟩⟩
   ·simp only[Int.toNat_natCast,d1,d2,hV,c0,c1,c2,c3,c4,c5,c6,c7,d7,h8,h7,k8,k1,e0,e1,e2,e3,e4,e5,e6,e7,f7,j8,j7,m8,m1,v1,v2,Bool.and_self,Bool.not_true,Bool.not_false,cond_true,and_true,true_and,and_self,Nat.le_refl]
   ·show Sf.Leads 3 _ _ _ _ (ZsW fr gr l (k+1)) _
    exact⟨fun _ _=>rfl,(ZV rfl (ZO _) rfl rfl (ZV rfl (ZO _) rfl rfl (Ja rfl rfl l rfl trivial))),rfl,trivial,by repeat' (first|exact trivial|refine⟨⟨by kernel_rfl,by kernel_rfl⟩,?_⟩),Nat.le_refl _,fun l hl=>ZY hl,fo,fun x _ _ => .inl rfl⟩
  ·cases hq:Zia (gr k) (fr k)
   ·have hr:=ZGj.v fr gr l k (gr k)
    simp only[w3] at hr
    have hcon:=ZlM (gr k) fr l (h k hlt hV hq).1 hfr hl
    rw[(h k hlt hV hq).2] at hcon
    unfold Zia at hq
    refine⟨_,_,_,_,.normal,_,3,fun l=>Nat.blt l 76,id,Zn (L:=100) Ze (Zo (Zi fun x hx=>by
     obtain rfl:=List.mem_singleton.1 hx
     exact hcon) (Zc _)) (Zd _) 20,hr,?_,.inl ⟨rfl,⟨k+1,by omega⟩,by show 16-(k+1)<16-k; omega,rfl,rfl,rfl,?_⟩⟩
    ·rw[hV] at hq
     simp only[Int.toNat_natCast,d1,d2,hV,c0,c1,c2,c3,c4,c5,c6,c7,d7,h8,h7,k8,k1,e0,e1,e2,e3,e4,e5,e6,e7,f7,j8,j7,m8,m1,v1,v2,Bool.and_self,Bool.not_true,Bool.not_false,cond_true,and_true,true_and,and_self,Nat.le_refl,hq]
    ·show Sf.Leads 3 _ _ _ _ (ZsW fr gr l (k+1)) _
     exact⟨fun _ _=>rfl,(ZV rfl (ZO _) rfl rfl (ZV rfl (ZO _) rfl rfl (Ja rfl rfl l rfl trivial))),rfl,trivial,by repeat' (first|exact trivial|refine⟨⟨by kernel_rfl,by kernel_rfl⟩,?_⟩),Nat.le_refl _,fun l hl=>ZY hl,fo,fun x _ _ => .inl rfl⟩
   ·have hr:=ZGi.v fr gr l k
    simp only[w3] at hr
    unfold Zia at hq
    refine⟨_,_,_,_,.normal,_,3,fun l=>Nat.blt l 76,id,Zn (L:=100) Ze (Zc _) (Zd _) 20,hr,?_,.inl ⟨rfl,⟨k+1,by omega⟩,by show 16-(k+1)<16-k; omega,rfl,rfl,rfl,?_⟩⟩
    ·rw[hV] at hq
     simp only[Int.toNat_natCast,d1,d2,hV,c0,c1,c2,c3,c4,c5,c6,c7,d7,h8,h7,k8,k1,e0,e1,e2,e3,e4,e5,e6,e7,f7,j8,j7,m8,m1,v1,v2,Bool.and_self,Bool.not_true,Bool.not_false,cond_true,and_true,true_and,and_self,Nat.le_refl,hq]
    ·show Sf.Leads 3 _ _ _ _ (ZsW fr gr l (k+1)) _
     exact⟨fun _ _=>rfl,(ZV rfl (ZO _) rfl rfl (ZV rfl (ZO _) rfl rfl (Ja rfl rfl l rfl trivial))),rfl,trivial,by repeat' (first|exact trivial|refine⟨⟨by kernel_rfl,by kernel_rfl⟩,?_⟩),Nat.le_refl _,fun l hl=>ZY hl,fo,fun x _ _ => .inl rfl⟩
 ·have hkk:k=16:=by omega
  subst hkk
  have hr:=ZGk.v fr gr l 16
  refine⟨_,_,_,_,.exit 0,_,3,fun l=>Nat.blt l 76,id,Zn (L:=100) Ze (Zc _) (Zd _) 20,hr,?_,.inr ⟨by simp,rfl,rfl,?_⟩⟩
  ·exact⟨trivial,rfl⟩
  ·exact⟨fun _ _=>rfl,(ZV rfl (ZO _) rfl rfl (ZV rfl (ZO _) rfl rfl (Ja rfl rfl l rfl trivial))),rfl,trivial,by repeat' (first|exact trivial|refine⟨⟨by kernel_rfl,by kernel_rfl⟩,?_⟩),Nat.le_refl _,fun l hl=>ZY hl,fo,fun x _ _ => .inl rfl⟩
theorem ZvG (fr:Nat→Cp) (l:List Cp) (nl:List Cp) (hfr:Wc fr) (hl:l.length<4096) (hn:nl.length<4096) (hok:∀ c∈nl,c.Ok) (h:∀ c∈nl,VI c fr l=true) :
  ∀ k:{ k:Nat // k≤nl.length },XO Tryz.prog 98 (ZK Tryz.prog 4 1) ((ZzU fr l nl k.1).fr 98) (.exit 2) ((nbF 77).fr 98):=by
 have wf:∀ k,(ZzU fr l nl k).Wf:=fun k=>⟨by show 64≤77; omega,Sf.Ok.mk' 3 ⟨⟨rfl,rfl,ZB (ZT _)⟩,⟨rfl,rfl,ZB (ZO _)⟩,⟨rfl,rfl,ZB (ZT _)⟩,trivial⟩ rfl (wfE (by rfl))⟩
 have fo:(nbF 77).Ok (YD 77 77 id (fun l=>Nat.blt l 77)):=Sf.Ok.mk' 3 trivial rfl (fun x hx=>by cases hx)
 have v1:∀ (σ:Nat→Nat),(caL l).map (rnV σ 3)=caL l:=fun σ=>Zk (ZT _)
 have v2:∀ (p:Nat→Bool),(caL l).all (okV p 3)=true:=fun p=>Zj (ZT _)
 refine VL (L:=100) (QD _ _ 4) (fun _ h=>h) (X:={ k:Nat // k≤nl.length }) (fun k=>ZzU fr l nl k.1) (fun _=>nbF 77) (fun _ => .exit 2) (fun k=>nl.length-k.1) (fun k=>wf _) ?_
 rintro⟨k,hk⟩
 by_cases hlt:k<nl.length
 ·have w3:i64.wrap ((k:Int)+(1:Int))=((k+1:Nat):Int):=Z7 k (by omega)
  have d1:decide ((k:Int)<(nl.length:Int))=true:=decide_eq_true (by omega)
  have d2:decide ((0:Int)≤(k:Int))=true:=decide_eq_true (by omega)
  have hmem:nl.getD k V0∈nl:=by
   rw[List.getD_eq_getElem?_getD,List.getElem?_eq_getElem hlt]; exact List.getElem_mem hlt
  have hcon:=ZlM (nl.getD k V0) fr l (hok _ hmem) hfr hl
  rw[h _ hmem] at hcon
  obtain⟨c0,c1,c2,c3,c4,c5,c6,c7,d7,h8,h7,k8,k1⟩:=Zj1 nl hlt
  have hr:=ZGl.v fr l nl k (nl.getD k V0)
  simp only[w3] at hr
  refine⟨_,_,_,_,.normal,_,3,fun l=>Nat.blt l 77,id,Zn (L:=100) Ze (Zo (Zi fun x hx=>by
   obtain rfl:=List.mem_singleton.1 hx
   exact hcon) (Zc _)) (Zd _) 20,hr,?_,.inl ⟨rfl,⟨k+1,by omega⟩,by show nl.length-(k+1)<nl.length-k; omega,rfl,rfl,rfl,?_⟩⟩
  ·simp only[Int.toNat_natCast,d1,d2,c0,c1,c2,c3,c4,c5,c6,c7,d7,h8,h7,k8,k1,v1,v2,Bool.and_self,cond_true,and_true,true_and,and_self,Nat.le_refl]
  ·show Sf.Leads 3 _ _ _ _ (ZzU fr l nl (k+1)) _
   exact⟨fun _ _=>rfl,(Ja rfl rfl nl rfl (ZV rfl (ZO _) rfl rfl (Ja rfl rfl l rfl trivial))),rfl,trivial,by repeat' (first|exact trivial|refine⟨⟨by kernel_rfl,by kernel_rfl⟩,?_⟩),Nat.le_refl _,fun l hl=>ZY hl,fo,fun x _ _ => .inl rfl⟩
 ·have hkk:k=nl.length:=by omega
  have d1:decide ((k:Int)<(nl.length:Int))=false:=decide_eq_false (by omega)
  have hr:=ZGm.v fr l nl k
  refine⟨_,_,_,_,.exit 2,_,3,fun l=>Nat.blt l 77,id,Zn (L:=100) Ze (Zc _) (Zd _) 20,hr,?_,.inr ⟨by simp,rfl,rfl,?_⟩⟩
  ·simp only[d1,and_self]
  ·exact⟨fun _ _=>rfl,trivial,rfl,trivial,trivial,Nat.le_refl _,fun l hl=>ZY hl,fo,fun x hx=>by cases hx⟩
structure Pt where
 a:Nat
 w:Bool
 v:Nat
 c:Cp
def Pt.cs (x:Pt):List Value:=[.int .u16 x.a,.bool x.w,.int .u32 x.v]++x.c.cs
def Qy (l:List Pt):List Value:=l.flatMap Pt.cs
def arM (rw:Bool) (zs:List UInt8) (f:Nat→Bool) (N m n:Nat):Sy.Heap:=[(68,⟨rw,none,[.pointer (some ⟨67,0,none⟩),.slice (some ⟨65,0,none⟩) N (big+65)],none⟩),(67,⟨rw,none,[.int .i64 (m:Nat),.slice (some ⟨66,0,none⟩) n (big+66)],none⟩),(66,⟨rw,some (66,1),v64 (Za f n),none⟩),(65,⟨rw,some (65,1),u8s zs,none⟩)]
def arN (rw:Bool) (zs:List UInt8) (f:Nat→Bool) (N m:Nat):Sy.Heap:=[(71,⟨rw,none,[.slice (some ⟨69,0,none⟩) N (big+69),.slice (some ⟨70,0,none⟩) m (big+70)],none⟩),(70,⟨rw,some (70,1),bls f m,none⟩),(69,⟨rw,some (69,1),u8s zs,none⟩)]
def ZEk (N m n:Nat):List (Nat×Nat):=[(66,n),(65,N),(70,m),(69,N)]
def meE:List (Nat×Value):=[(4,.pointer (some ⟨68,0,none⟩)),(6,.pointer (some ⟨71,0,none⟩))]
def meX (n:Nat) (k:Nat):List (Nat×Value):=[(0,.slice (some ⟨64,0,none⟩) n (big+64)),(8,.int .i64 (k:Nat))]
def meI (l:List Pt) (zs:List UInt8) (f:Nat→Bool) (N m n:Nat) (k:Nat):Sf:=⟨72,meE++meX l.length k,arM true zs f N m n++(arN true zs f N m++[(64,⟨false,some (0,0),Qy l,none⟩)]),ZEk N m n⟩
def meF (zs:List UInt8) (f:Nat→Bool) (N m n:Nat):Sf:=⟨72,meE,arM true zs f N m n++arN true zs f N m,ZEk N m n⟩
def meLw (p v:Nat) (zs zs2:List UInt8) (f f2:Nat→Bool) (N m n:Nat):Sy.Steps:=[(73,42,Zgd [.pointer (some ⟨67,0,none⟩),.int .u32 (p:Nat),.int .i64 4,.int .u32 (v:Nat)] zs zs2 f f2 N m n,[65,66,67,68]),(73,43,ZhM [.pointer (some ⟨66,0,none⟩),.int .u32 (p:Nat),.int .i64 4,.int .u32 (v:Nat)] zs zs2 f f2 N m,[69,70,71])]
def meLc (p:Nat) (x:Cp) (zs zs2:List UInt8) (f f2:Nat→Bool) (N m n:Nat):Sy.Steps:=[(73,44,Zgd [.pointer (some ⟨67,0,none⟩),.int .u32 (p:Nat),x.val] zs zs2 f f2 N m n,[65,66,67,68]),(73,45,ZhM [.pointer (some ⟨66,0,none⟩),.int .u32 (p:Nat),x.val] zs zs2 f f2 N m,[69,70,71])]
def XJ (a:Nat):=ZnW a 11
def ZcC:=Zg3 68
def ZcD:=Zg3 71
def ZlR (a b:Int):=u32.wrap (a.tmod b)
def ZcE (a b c d:Nat):=ZnN a (ZkY b c d 9223372036854775874)
def ZlS (a:Nat):=ZnE Qe a
def Zf2 (a:Nat):=Yn (ZlS a)
def ZmQ:=Bx.mk (And.intro @XJ.eq_1 (And.intro @ZcC.eq_1 (And.intro @ZcD.eq_1 (And.intro @ZlR.eq_1 (And.intro @ZcE.eq_1 (And.intro @ZlS.eq_1 @Zf2.eq_1))))))
theorem ZDz (l:List Pt) (zs:List UInt8) (f:Nat→Bool) (N:Nat) (m:Nat) (n:Nat) (k:Nat) (p:Nat) (v:Nat) (zs2:List UInt8) (f2:Nat→Bool):Option.map (KN 70 [0,4,6,8] [64,65,66,67,68,69,70,71]) (evC Tryz.prog (evF Tryz.prog (Zs 3 (Zb (meLw p v zs zs2 f f2 N m n)) Zg) Zf 100 20) (Zf 14) 70 100 (ZK Tryz.prog 14 0) (Sf.frT 70 (meI l zs f N m n k) (tb 5 31)))=Y8 70 [(0,ZaB l.length),(4,ZcC),(6,ZcD),Yz 8 k] 73 [(71,Yn [K1 N,UA 0 m]),(70,ZaT 70 f2 m),(69,JQ 69 zs2),(68,Zf2 N),(67,Yn (ZcE m 66 0 n)),(66,Kp 66 f2 n),(65,JQ 65 zs2),(64,ZaS 0 0 (Qy l))] [(70,m),(69,N),(66,n),(65,N),(66,n),(65,N),(70,m),(69,N)] 0 (Yj (Yj (K4 (YH (0+XJ k+11) (Qy l) [Xf,KQ,ZeQ,ZeQ,Zbt,Xf,Xf,Xf,Xf,ZeQ,KQ] (0+XJ k)) (Jr k (XI k l.length)) ((UY (XI k l.length=true)∧XI k l.length=true)∧Zet (ZP k) 100=true)∧ZjU (Qy l) (0+XJ k+1)=true) (JG (Qw ZcC) (U0 (Ju (ZeA*ZlR (K3 (Qy l) (0+XJ k)) (1024:Int))) p) (Qw Zbu) (U0 (ZdR (Qy l) (0+XJ k+1+1)) v)) (Zlj Zh (WP (ZlS N)) (WP (ZcE m 66 0 n)) (ZnX f n (fun l=>l.blt 68) Zh (Zlb 73 65 66 67 68 f n)) (Zdp zs (fun l=>l.blt 68) Zh zs (Zlg 73 65 66 67 68 zs))) n N) (JG (Qw ZcD) (U0 (Ju (ZeA*ZlR (K3 (Qy l) (0+XJ k)) (1024:Int))) p) (Qw Zbu) (U0 (ZdR (Qy l) (0+XJ k+1+1)) v)) (Wz (Zcj Zh (WP [K1 N,UA 0 m])) (Ze1 (Zfv (bls f m) (fun l=>l.blt 67) 3) Zh (bls f m=ZaH 67 73 [69,70,71] 3 (bls f m))) (Zdp zs (fun l=>l.blt 67) Zh zs (ZaH 67 73 [69,70,71] 3 (u8s zs)))) m N):=by kernel_rfl
def me_w:=Bx.mk (by have h := @ZDz; simp(maxSteps:=99999999) only[ZL.v, ZZ.v, ZlY.v, ZN.v, Z3.v, Qb.v, ZR.v, Qc.v, ZD.v, Y9.v, Zz.v, Ku.v, Xl.v, Qa.v, VH.v, Zc3.v, Uy.v, Y3.v, Ze4.v, Zgi.v, ZmQ.v, -eq_self] at h; exact h)
def Ze9 (a:List Pt) (b:Nat):=Zut (Qy a) b
def ZGn:=Bx.mk @Ze9.eq_1
theorem ZDA (l:List Pt) (zs:List UInt8) (f:Nat→Bool) (N:Nat) (m:Nat) (n:Nat) (k:Nat) (p:Nat) (x:Cp) (zs2:List UInt8) (f2:Nat→Bool):Option.map (KN 70 [0,4,6,8] [64,65,66,67,68,69,70,71]) (evC Tryz.prog (evF Tryz.prog (Zs 3 (Zb (meLc p x zs zs2 f f2 N m n)) Zg) Zf 100 20) (Zf 14) 70 100 (ZK Tryz.prog 14 0) (Sf.frT 70 (meI l zs f N m n k) (tb 5 15)))=Y8 70 [(0,ZaB l.length),(4,ZcC),(6,ZcD),Yz 8 k] 73 [(71,Yn [K1 N,UA 0 m]),(70,ZaT 70 f2 m),(69,JQ 69 zs2),(68,Zf2 N),(67,Yn (ZcE m 66 0 n)),(66,Kp 66 f2 n),(65,JQ 65 zs2),(64,ZaS 0 0 (Qy l))] [(70,m),(69,N),(66,n),(65,N),(66,n),(65,N),(70,m),(69,N)] 0 (Yj (Yj (QK (K4 (YH (0+XJ k+11) (Qy l) [Xf,KQ,ZeQ,ZeQ,Zbt,Xf,Xf,Xf,Xf,ZeQ,KQ] (0+XJ k)) (Jr k (XI k l.length)) ((UY (XI k l.length=true)∧XI k l.length=true)∧Zet (ZP k) 100=true)) (ZjU (Qy l) (0+XJ k+1))) (Wz (Qw ZcC) (U0 (Ju (YL*ZlR (K3 (Qy l) (0+XJ k)) QR)) p) (Zcf (ZdR (Qy l) (0+XJ k+1+1+1)) (ZiG (Qy l) (0+XJ k+1+1+1+1)) (Ze9 l (0+XJ k+1+1+1+1+1)) (Ze9 l (0+XJ k+1+1+1+1+1+1)) (Ze9 l (0+XJ k+1+1+1+1+1+1+1)) (Ze9 l (0+XJ k+1+1+1+1+1+1+1+1)) (ZdR (Qy l) (0+XJ k+1+1+1+1+1+1+1+1+1)) (ZjU (Qy l) (0+XJ k+1+1+1+1+1+1+1+1+1+1))=ZI x.C x.E x.B x.T x.P x.Y x.R x.V)) (Zlj Zh (WP (ZlS N)) (WP (ZcE m 66 0 n)) (ZnX f n (fun l=>l.blt 68) Zh (Zlb 73 65 66 67 68 f n)) (Zdp zs (fun l=>l.blt 68) Zh zs (Zlg 73 65 66 67 68 zs))) n N) (Wz (Qw ZcD) (U0 (Ju (YL*ZlR (K3 (Qy l) (0+XJ k)) QR)) p) (Zcf (ZdR (Qy l) (0+XJ k+1+1+1)) (ZiG (Qy l) (0+XJ k+1+1+1+1)) (Ze9 l (0+XJ k+1+1+1+1+1)) (Ze9 l (0+XJ k+1+1+1+1+1+1)) (Ze9 l (0+XJ k+1+1+1+1+1+1+1)) (Ze9 l (0+XJ k+1+1+1+1+1+1+1+1)) (ZdR (Qy l) (0+XJ k+1+1+1+1+1+1+1+1+1)) (ZjU (Qy l) (0+XJ k+1+1+1+1+1+1+1+1+1+1))=ZI x.C x.E x.B x.T x.P x.Y x.R x.V)) (Wz (Zcj Zh (WP [K1 N,UA 0 m])) (Ze1 (Zfv (bls f m) (fun l=>l.blt 67) 3) Zh (bls f m=ZaH 67 73 [69,70,71] 3 (bls f m))) (Zdp zs (fun l=>l.blt 67) Zh zs (ZaH 67 73 [69,70,71] 3 (u8s zs)))) m N):=by kernel_rfl
def me_c:=Bx.mk (by have h := @ZDA; simp(maxSteps:=99999999) only[ZL.v, ZZ.v, ZN.v, Z3.v, Qb.v, QH.v, ZR.v, Qc.v, ZD.v, Y9.v, Zz.v, Ku.v, Xl.v, Qa.v, VH.v, Zc3.v, Uy.v, Y3.v, Ze4.v, Zgi.v, ZmQ.v, ZGn.v, -eq_self] at h; exact h)
theorem ZDB (l:List Pt) (zs:List UInt8) (f:Nat→Bool) (N:Nat) (m:Nat) (n:Nat) (k:Nat):Option.map (KN 70 [4,6] [64,65,66,67,68,69,70,71]) (evC Tryz.prog (evF Tryz.prog Zg Zf 100 20) (Zf 14) 70 100 (ZK Tryz.prog 14 0) (Sf.frT 70 (meI l zs f N m n k) (tb 4 0)))=K0 0 70 [(4,ZcC),(6,ZcD)] 72 [(68,Zf2 N),(67,Yn (ZcE m 66 0 n)),(66,Kp 66 f n),(65,JQ 65 zs),(71,Yn [K1 N,UA 0 m]),(70,ZaT 70 f m),(69,JQ 69 zs),(64,ZaS 0 0 (Qy l))] [(66,n),(65,N),(70,m),(69,N)] [] 0 (YI (Un (X3 (XI k l.length)) (XI k l.length))):=by kernel_rfl
def me_e:=Bx.mk (by have h := @ZDB; simp(maxSteps:=99999999) only[ZL.v, ZN.v, Qb.v, ZR.v, Qc.v, Ku.v, Qa.v, Zcy.v, VH.v, Zc3.v, Uy.v, Ze4.v, Zgi.v, ZmQ.v, -eq_self] at h; exact h)
theorem ZDC (l:List Pt) (zs:List UInt8) (f:Nat→Bool) (N:Nat) (m:Nat) (n:Nat) (k:Nat):Option.map (KN 70 [4,6] [64,65,66,67,68,69,70,71]) (evC Tryz.prog (evF Tryz.prog Zg Zf 100 20) (Zf 14) 70 100 (ZK Tryz.prog 14 0) (Sf.frT 70 (meI l zs f N m n k) (tb 4 7)))=K0 0 70 [(4,ZcC),(6,ZcD)] 72 [(68,Zf2 N),(67,Yn (ZcE m 66 0 n)),(66,Kp 66 f n),(65,JQ 65 zs),(71,Yn [K1 N,UA 0 m]),(70,ZaT 70 f m),(69,JQ 69 zs),(64,ZaS 0 0 (Qy l))] [(66,n),(65,N),(70,m),(69,N)] [] 0 (QK (UY (XI k l.length=true)∧XI k l.length=true) (Zet (ZP k) 100)):=by kernel_rfl
def me_h:=Bx.mk (by have h := @ZDC; simp(maxSteps:=99999999) only[ZL.v, ZN.v, Z3.v, ZR.v, Ku.v, Qa.v, Zcy.v, VH.v, Zc3.v, Uy.v, Ze4.v, Zgi.v, ZmQ.v, -eq_self] at h; exact h)
def pt0:Pt:=⟨0,false,0,V0⟩
def Zz7 (s:List UInt8×(Nat→Bool)) (x:Pt):List UInt8×(Nat→Bool) :=
 if x.w=true then(Xc (4*(x.a%1024)) (leW 4 x.v) s.1,Yu s.2 (4*(x.a%1024)/16) false) else(Xc (16*(x.a%256)) x.c.bs s.1,Yu s.2 (16*(x.a%256)/16) (x.c.V&&x.c.snd))
def ZE (l:List Pt) (k:Nat):List UInt8×(Nat→Bool):=(l.take k).foldl Zz7 (List.replicate 4096 0,fun _=>false)
theorem Zs0 (l:List Pt) (k:Nat) (h:k<l.length):ZE l (k+1)=Zz7 (ZE l k) (l.getD k pt0):=by
 unfold ZE
 rw[List.take_succ_eq_append_getElem h,List.foldl_append,List.getD_eq_getElem?_getD,List.getElem?_eq_getElem h]
 rfl
theorem ZvH (s:List UInt8×(Nat→Bool)) (x:Pt) (h:s.1.length=4096):(Zz7 s x).1.length=4096:=by
 unfold Zz7
 split
 ·show(Xc _ _ _).length=4096
  rw[Zbc _ _ _ (by rw[Y1,h]; omega),h]
 ·show(Xc _ _ _).length=4096
  rw[Zbc _ _ _ (by rw[show x.c.bs.length=16 from Ko _ _ _ _ _ _ _,h]; omega),h]
theorem ZlT:∀ (l:List Pt) (s:List UInt8×(Nat→Bool)),s.1.length=4096→(l.foldl Zz7 s).1.length=4096
 | [],_,h=>h
 | x::l,s,h=>ZlT l _ (ZvH s x h)
theorem Zow (l:List Pt) (k:Nat):(ZE l k).1.length=4096:=ZlT _ _ List.length_replicate
def Pt.Ok (x:Pt):Prop:=x.a<65536∧x.v<4294967296∧x.c.Ok
theorem ZiU (x:Pt):x.cs.length=11:=rfl
theorem Zz8:∀ (l:List Pt) (k j:Nat),k<l.length→j<11→ZC undef (Qy l) (11*k+j)=ZC undef (l.getD k pt0).cs j
 | [],_,_,h,_=>absurd h (Nat.not_lt_zero _)
 | x::l,0,j,_,hj=>by
  show ZC undef (x.cs++Qy l) (11*0+j)=ZC undef x.cs j
  rw[XF,XF,Nat.mul_zero,Nat.zero_add,Zhc _ _ _ _ (by rw[ZiU]; exact hj)]
 | x::l,k+1,j,h,hj=>by
  show ZC undef (x.cs++Qy l) (11*(k+1)+j)=_
  rw[XF,ZcT _ _ _ _ (by rw[ZiU]; omega),ZiU,show 11*(k+1)+j-11=11*k+j by omega,← XF,Zz8 l k j (by simpa using h) hj]
  simp
theorem ZcX:∀ l:List Pt,(Qy l).length=11*l.length
 | []=>rfl
 | x::l=>by
  show(x.cs++Qy l).length=_
  rw[List.length_append,ZcX l,ZiU,List.length_cons]; omega
theorem Zz9 (x:Pt):∀ v∈x.cs,Z4 v=true:=fun v hv=>List.all_eq_true.1 (show x.cs.all Z4=true from rfl) v hv
theorem YZ (l:List Pt):∀ v∈Qy l,Z4 v=true:=fun v hv=>by
 obtain⟨x,_,h⟩:=List.mem_flatMap.1 hv
 exact Zz9 x v h
theorem ZhV (l:List Pt) (k j n:Nat) (h:k<l.length) (hj:j<11) (hn:n=11*k+j):ZC undef (Qy l) n=ZC undef (l.getD k pt0).cs j:=by rw[hn,Zz8 l k j h hj]
theorem pu_0 (l:List Pt) (k:Nat) (h:k<l.length):Yi (ZC undef (Qy l) (0+k*11))=((l.getD k pt0).a:Nat):=by rw[ZhV l k 0 _ h (by omega) (by omega)]; rfl
theorem pu_1 (l:List Pt) (k:Nat) (h:k<l.length):VM (ZC undef (Qy l) (0+k*11+1))=(l.getD k pt0).w:=by rw[ZhV l k 1 _ h (by omega) (by omega)]; rfl
theorem pu_2 (l:List Pt) (k:Nat) (h:k<l.length):Yi (ZC undef (Qy l) (0+k*11+1+1))=((l.getD k pt0).v:Nat):=by rw[ZhV l k 2 _ h (by omega) (by omega)]; rfl
theorem pu_3 (l:List Pt) (k:Nat) (h:k<l.length):Yi (ZC undef (Qy l) (0+k*11+1+1+1))=((l.getD k pt0).c.C:Nat):=by rw[ZhV l k 3 _ h (by omega) (by omega)]; rfl
theorem pu_4 (l:List Pt) (k:Nat) (h:k<l.length):Yi (ZC undef (Qy l) (0+k*11+1+1+1+1))=((l.getD k pt0).c.E:Nat):=by rw[ZhV l k 4 _ h (by omega) (by omega)]; rfl
theorem pu_5 (l:List Pt) (k:Nat) (h:k<l.length):Yi (ZC undef (Qy l) (0+k*11+1+1+1+1+1))=((l.getD k pt0).c.B:Nat):=by rw[ZhV l k 5 _ h (by omega) (by omega)]; rfl
theorem pu_6 (l:List Pt) (k:Nat) (h:k<l.length):Yi (ZC undef (Qy l) (0+k*11+1+1+1+1+1+1))=((l.getD k pt0).c.T:Nat):=by rw[ZhV l k 6 _ h (by omega) (by omega)]; rfl
theorem pu_7 (l:List Pt) (k:Nat) (h:k<l.length):Yi (ZC undef (Qy l) (0+k*11+1+1+1+1+1+1+1))=((l.getD k pt0).c.P:Nat):=by rw[ZhV l k 7 _ h (by omega) (by omega)]; rfl
theorem pu_8 (l:List Pt) (k:Nat) (h:k<l.length):Yi (ZC undef (Qy l) (0+k*11+1+1+1+1+1+1+1+1))=((l.getD k pt0).c.Y:Nat):=by rw[ZhV l k 8 _ h (by omega) (by omega)]; rfl
theorem pu_9 (l:List Pt) (k:Nat) (h:k<l.length):Yi (ZC undef (Qy l) (0+k*11+1+1+1+1+1+1+1+1+1))=((l.getD k pt0).c.R:Nat):=by rw[ZhV l k 9 _ h (by omega) (by omega)]; rfl
theorem ZGo (l:List Pt) (k:Nat) (h:k<l.length):VM (ZC undef (Qy l) (0+k*11+1+1+1+1+1+1+1+1+1+1))=(l.getD k pt0).c.V:=by rw[ZhV l k 10 _ h (by omega) (by omega)]; rfl
theorem ZDD (l:List Pt) (k:Nat) (h:k<l.length):WH (0+k*11+11) (Qy l)=true:=Zbe _ _ (by rw[ZcX]; omega)
theorem ZAa (l:List Pt) (k:Nat) (h:k<l.length):ZF [Value.int u16 (0:Int),Value.bool false,Value.int u32 (0:Int),Value.int u32 (0:Int),Value.int u8 (0:Int),Value.int u16 (0:Int),Value.int u16 (0:Int),Value.int u16 (0:Int),Value.int u16 (0:Int),Value.int u32 (0:Int),Value.bool false] (Qy l) (0+k*11)=true:=by
 unfold ZF ZF ZF ZF ZF ZF ZF ZF ZF ZF ZF ZF
 rw[ZhV l k 0 _ h (by omega) (by omega),ZhV l k 1 _ h (by omega) (by omega),ZhV l k 2 _ h (by omega) (by omega),ZhV l k 3 _ h (by omega) (by omega),ZhV l k 4 _ h (by omega) (by omega),ZhV l k 5 _ h (by omega) (by omega),ZhV l k 6 _ h (by omega) (by omega),ZhV l k 7 _ h (by omega) (by omega),ZhV l k 8 _ h (by omega) (by omega),ZhV l k 9 _ h (by omega) (by omega),ZhV l k 10 _ h (by omega) (by omega)]
 rfl
theorem ZmR {q:Nat→Bool} (h:∀ l,l<72→q l=true) (N m n:Nat):(∀ v∈([.pointer (some ⟨67,0,none⟩),.slice (some ⟨65,0,none⟩) N (big+65)]:List Value),okV q 3 v=true)∧(∀ v∈([.int .i64 (m:Nat),.slice (some ⟨66,0,none⟩) n (big+66)]:List Value),okV q 3 v=true)∧∀ v∈([.slice (some ⟨69,0,none⟩) N (big+69),.slice (some ⟨70,0,none⟩) m (big+70)]:List Value),okV q 3 v=true:=by
 have h5:=h 65 (by omega)
 have h6:=h 66 (by omega)
 have h7:=h 67 (by omega)
 have h9:=h 69 (by omega)
 have h10:=h 70 (by omega)
 refine⟨?_,?_,?_⟩<;>intro v hv<;>simp only[List.mem_cons,List.not_mem_nil,or_false] at hv<;>rcases hv with rfl|rfl<;>simp[okV,JA,h5,h6,h7,h9,h10,Z4,big]
theorem ZmS {q:Nat→Bool} (h:∀ l,l<72→q l=true) (rw:Bool) (zs:List UInt8) (f:Nat→Bool) (N m n:Nat) {l:Sy.Heap} (hl:OkH q l):OkH q (arM rw zs f N m n++(arN rw zs f N m++l)):=by
 obtain⟨c1,c2,c3⟩:=ZmR h N m n
 exact⟨⟨h 68 (by omega),rfl,fun v hv=>QQ 3 v (c1 v hv)⟩,⟨h 67 (by omega),rfl,fun v hv=>QQ 3 v (c2 v hv)⟩,⟨h 66 (by omega),h 66 (by omega),ZB (Zm _)⟩,⟨h 65 (by omega),h 65 (by omega),ZB (Zl zs)⟩,⟨h 71 (by omega),rfl,fun v hv=>QQ 3 v (c3 v hv)⟩,⟨h 70 (by omega),h 70 (by omega),ZB (Xk f m)⟩,⟨h 69 (by omega),h 69 (by omega),ZB (Zl zs)⟩,hl⟩
theorem Zxb {q:Nat→Bool} (h:∀ l,l<72→q l=true):∀ x∈meE,okV q 3 x.2=true:=fun x hx=>by
 have h8:=h 68 (by omega)
 have h11:=h 71 (by omega)
 simp only[meE,List.mem_cons,List.not_mem_nil,or_false] at hx
 rcases hx with rfl|rfl<;>simp[okV,JA,h8,h11]
theorem ZDE {q:Nat→Bool} (h:q 64=true) (n k:Nat):∀ x∈meX n k,okV q 3 x.2=true:=fun x hx=>by
 simp only[meX,List.mem_cons,List.not_mem_nil,or_false] at hx
 rcases hx with rfl|rfl<;>simp[okV,JA,h,Z4,big]
theorem ZDF (l:List Pt) (zs:List UInt8) (f:Nat→Bool) (N m n k:Nat):(meI l zs f N m n k).Wf :=
 ⟨by show 64≤72; omega,Sf.Ok.mk' 3 (ZmS (ltZ 72) true zs f N m n ⟨⟨rfl,rfl,ZB (YZ l)⟩,trivial⟩) rfl (fun x hx=>by
  rcases List.mem_append.1 (show x∈meE++meX l.length k from hx) with hx|hx
  ·exact Zxb (ltZ 72) x hx
  ·exact ZDE rfl _ _ x hx)⟩
theorem Zox (zs:List UInt8) (f:Nat→Bool) (N m n:Nat):(meF zs f N m n).Ok (YD 72 72 id (fun l=>Nat.blt l 72)) :=
 Sf.Ok.mk' 3 (by have:=ZmS (ZlD 72) true zs f N m n (l:=[]) trivial; rwa [List.append_nil] at this) rfl (Zxb (ZlD 72))
theorem Zgu {h1:Sy.Heap} {q:Nat→Bool} (hq:∀ l,l<72→q l=true) (zs:List UInt8) (f:Nat→Bool) (N m n:Nat) {cs ws ds es:List Value} {l:Sy.Heap} (h68:Sy.look h1 68=some ⟨true,none,[.pointer (some ⟨67,0,none⟩),.slice (some ⟨65,0,none⟩) N (big+65)],none⟩) (h67:Sy.look h1 67=some ⟨true,none,[.int .i64 (m:Nat),.slice (some ⟨66,0,none⟩) n (big+66)],none⟩)
  (h66:Sy.look h1 66=some ⟨true,some (66,1),ws,none⟩) (h65:Sy.look h1 65=some ⟨true,some (65,1),cs,none⟩) (h71:Sy.look h1 71=some ⟨true,none,[.slice (some ⟨69,0,none⟩) N (big+69),.slice (some ⟨70,0,none⟩) m (big+70)],none⟩) (h70:Sy.look h1 70=some ⟨true,some (70,1),es,none⟩) (h69:Sy.look h1 69=some ⟨true,some (69,1),ds,none⟩)
  (hw:ws=v64 (Za f n)) (hc:cs=u8s zs) (he:es=bls f m) (hd:ds=u8s zs) (hl:WS 3 q id h1 l):WS 3 q id h1 (arM true zs f N m n++(arN true zs f N m++l)):=by
 obtain⟨c1,c2,c3⟩:=ZmR hq N m n
 refine⟨⟨hq 68 (by omega),List.all_eq_true.2 c1,rfl,?_⟩,⟨hq 67 (by omega),List.all_eq_true.2 c2,rfl,?_⟩,⟨hq 66 (by omega),Zj (Zm _),hq 66 (by omega),?_⟩,⟨hq 65 (by omega),Zj (Zl zs),hq 65 (by omega),?_⟩,⟨hq 71 (by omega),List.all_eq_true.2 c3,rfl,?_⟩,⟨hq 70 (by omega),Zj (Xk f m),hq 70 (by omega),?_⟩,⟨hq 69 (by omega),Zj (Zl zs),hq 69 (by omega),?_⟩,hl⟩
 ·simp only[id,h68]; exact⟨rfl,rfl,trivial,(X4 _ rfl _).symm⟩
 ·simp only[id,h67]; exact⟨rfl,rfl,trivial,(X4 _ rfl _).symm⟩
 ·simp only[id,h66]; exact⟨rfl,rfl,trivial,by rw[X4 _ rfl,hw]⟩
 ·simp only[id,h65]; exact⟨rfl,rfl,trivial,by rw[X4 _ rfl,hc]⟩
 ·simp only[id,h71]; exact⟨rfl,rfl,trivial,(X4 _ rfl _).symm⟩
 ·simp only[id,h70]; exact⟨rfl,rfl,trivial,by rw[X4 _ rfl,he]⟩
 ·simp only[id,h69]; exact⟨rfl,rfl,trivial,by rw[X4 _ rfl,hd]⟩
theorem Zs1 {h1:Sy.Heap} {q:Nat→Bool} (hq:∀ l,l<72→q l=true) (l:List Pt) (h64:Sy.look h1 64=some ⟨false,some (0,0),Qy l,none⟩):WS 3 q id h1 [(64,⟨false,some (0,0),Qy l,none⟩)]:=by
 refine⟨⟨hq 64 (by omega),Zj (YZ l),hq 0 (by omega),?_⟩,trivial⟩
 simp only[id,h64]; exact⟨rfl,rfl,trivial,(X4 _ rfl _).symm⟩
def ZG (l:List Pt):Nat:=min l.length 100
theorem Zj4 (l:List Pt) (k:Nat):ArOk (ZE l k).1 4096 256 4:=⟨Zow l k,by omega,by omega,by omega,by omega⟩
theorem Zxc (l:List Pt) (k:Nat):ArK (ZE l k).1 4096 256:=⟨Zow l k,by omega,by omega,by omega⟩
theorem ZAb (l:List Pt) (hok:∀ x∈l,x.Ok) :
  ∀ k:{ k:Nat // k≤ZG l },XO Tryz.prog 70 (ZK Tryz.prog 14 0) ((meI l (ZE l k.1).1 (ZE l k.1).2 4096 256 4 k.1).fr 70) (.exit 0) ((meF (ZE l (ZG l)).1 (ZE l (ZG l)).2 4096 256 4).fr 70):=by
 refine VL (L:=100) (QD _ _ 14) (fun _ h=>h) (X:={ k:Nat // k≤ZG l }) (fun k=>meI l (ZE l k.1).1 (ZE l k.1).2 4096 256 4 k.1) (fun _=>meF (ZE l (ZG l)).1 (ZE l (ZG l)).2 4096 256 4) (fun _ => .exit 0) (fun k=>ZG l-k.1) (fun k=>ZDF _ _ _ _ _ _ _) ?_
 rintro⟨k,hk⟩
 have hK:ZG l≤l.length∧ZG l≤100:=⟨Nat.min_le_left _ _,Nat.min_le_right _ _⟩
 have f1:∀ (zs:List UInt8) (p:Nat→Bool),(u8s zs).all (okV p 3)=true:=fun zs p=>Zj (Zl _)
 have f2:∀ (zs:List UInt8) (σ:Nat→Nat),(u8s zs).map (rnV σ 3)=u8s zs:=fun zs σ=>Zk (Zl _)
 have f3:∀ (f:Nat→Bool) (p:Nat→Bool),(bls f 256).all (okV p 3)=true:=fun f p=>Zj (Xk f 256)
 have f4:∀ (f:Nat→Bool) (σ:Nat→Nat),(bls f 256).map (rnV σ 3)=bls f 256:=fun f σ=>Zk (Xk f 256)
 have f5:∀ (f:Nat→Bool) (σ:Nat→Nat),(v64 (Za f 4)).map (rnV σ 3)=v64 (Za f 4):=fun f σ=>Zk (Zm _)
 have f6:∀ (f:Nat→Bool) (p:Nat→Bool),(v64 (Za f 4)).all (okV p 3)=true:=fun f p=>Zj (Zm _)
 by_cases hlt:k<ZG l
 ·have hkl:k<l.length:=by omega
  have hkl2:decide ((k:Int)<(l.length:Int))=true:=decide_eq_true (by omega)
  have hk100:decide ((k:Int)<(100:Int))=true:=decide_eq_true (by omega)
  have hk0:decide ((0:Int)≤(k:Int))=true:=decide_eq_true (by omega)
  have hx:(l.getD k pt0).Ok:=by
   rw[List.getD_eq_getElem?_getD,List.getElem?_eq_getElem hkl]; exact hok _ (List.getElem_mem hkl)
  have hs:=Zs0 l k hkl
  obtain⟨x1,x2,x3⟩:=hx
  have e4:i64.wrap ((k:Int)+(1:Int))=((k+1:Nat):Int):=Z7 k (by omega)
  have q0:=pu_0 l k hkl; have q1:=pu_1 l k hkl; have q2:=pu_2 l k hkl; have q3:=pu_3 l k hkl; have q4:=pu_4 l k hkl; have q5:=pu_5 l k hkl
  have q6:=pu_6 l k hkl; have q7:=pu_7 l k hkl; have q8:=pu_8 l k hkl; have q9:=pu_9 l k hkl; have q10:=ZGo l k hkl; have q11:=ZDD l k hkl; have q12:=ZAa l k hkl
  generalize hX:l.getD k pt0=X at *
  cases hw:X.w
  ·have hput:ZE l (k+1)=(Xc (16*(X.a%256)) X.c.bs (ZE l k).1,Yu (ZE l k).2 (16*(X.a%256)/16) (X.c.V&&X.c.snd)):=by rw[hs]; unfold Zz7; rw[hw,if_neg (by decide)]
   have hcon:=Zmz (16*(X.a%256)) X.c.C X.c.E X.c.B X.c.T X.c.P X.c.Y X.c.R X.c.V (ZE l k).1 (ZE l k).2 4096 256 4 (Zj4 l k) (by obtain⟨h1,h2,h3,h4,h5,h6,h7⟩:=x3; exact⟨h1,h2,h3,h4,h5,h6,h7⟩) (by omega) (by omega)
   have hcon2:=Zvl (16*(X.a%256)) X.c (ZE l k).1 (ZE l k).2 4096 256 (Zxc l k) x3 (by omega) (by omega)
   have hr:=me_c.v l (ZE l k).1 (ZE l k).2 4096 256 4 k (16*(X.a%256)) X.c (ZE l (k+1)).1 (ZE l (k+1)).2
   have e1:u32.wrap ((16:Int)*u32.wrap (((X.a:Nat):Int).tmod (256:Int)))=((16*(X.a%256):Nat):Int):=by
    rw[show((X.a:Nat):Int).tmod (256:Int)=((X.a%256:Nat):Int) from(Int.ofNat_tmod X.a 256).symm,UJ (X.a%256) (by omega),show(16:Int)*((X.a%256:Nat):Int)=((16*(X.a%256):Nat):Int) by omega,UJ _ (by omega)]
   simp only[e4] at hr
   refine⟨_,_,_,_,.normal,_,3,fun l=>Nat.blt l 72,id,Zn (L:=100) Ze (Zo (Zi fun x hx=>by
    simp only[meLc,List.mem_cons,List.not_mem_nil,or_false] at hx
    rcases hx with rfl|rfl
    ·rw[hput]; exact hcon
    ·rw[hput]; exact hcon2) (Zc _)) (Zd _) 20,hr,?_,.inl ⟨rfl,⟨k+1,by omega⟩,by show ZG l-(k+1)<ZG l-k; omega,rfl,rfl,rfl,?_⟩⟩
   ·simp only[Int.toNat_natCast,e1,hkl2,hk100,hk0,q0,q1,q2,q3,q4,q5,q6,q7,q8,q9,q10,q11,q12,hw,f1,f2,f3,f4,f5,f6,Bool.and_self,cond_true,and_true,true_and,and_self,Nat.le_refl]
   ·exact⟨fun _ _=>rfl,Zgu (ltZ 72) _ _ _ _ _ rfl rfl rfl rfl rfl rfl rfl rfl rfl rfl rfl (Zs1 (ltZ 72) l rfl),rfl,⟨⟨rfl,Nat.le_refl _⟩,⟨rfl,Nat.le_refl _⟩,⟨rfl,Nat.le_refl _⟩,⟨rfl,Nat.le_refl _⟩,trivial⟩,by repeat' (first|exact trivial|refine⟨⟨by kernel_rfl,by kernel_rfl⟩,?_⟩),Nat.le_refl _,fun l hl=>ZY hl,Zox _ _ _ _ _,fun x _ _ => .inl rfl⟩
  ·have hput:ZE l (k+1)=(Xc (4*(X.a%1024)) (leW 4 X.v) (ZE l k).1,Yu (ZE l k).2 (4*(X.a%1024)/16) false):=by rw[hs]; unfold Zz7; rw[hw,if_pos rfl]
   have hcon:=ZjP 4 (4*(X.a%1024)) X.v (ZE l k).1 (ZE l k).2 4096 256 4 (Zj4 l k) (by omega) x2 (by omega) (by omega)
   have hcon2:=Zzr 4 (4*(X.a%1024)) X.v (ZE l k).1 (ZE l k).2 4096 256 (Zxc l k) (by omega) x2 (by omega) (by omega)
   have hr:=me_w.v l (ZE l k).1 (ZE l k).2 4096 256 4 k (4*(X.a%1024)) X.v (ZE l (k+1)).1 (ZE l (k+1)).2
   have e1:u32.wrap ((4:Int)*u32.wrap (((X.a:Nat):Int).tmod (1024:Int)))=((4*(X.a%1024):Nat):Int):=by
    rw[show((X.a:Nat):Int).tmod (1024:Int)=((X.a%1024:Nat):Int) from(Int.ofNat_tmod X.a 1024).symm,UJ (X.a%1024) (by omega),show(4:Int)*((X.a%1024:Nat):Int)=((4*(X.a%1024):Nat):Int) by omega,UJ _ (by omega)]
   simp only[e4] at hr
   refine⟨_,_,_,_,.normal,_,3,fun l=>Nat.blt l 72,id,Zn (L:=100) Ze (Zo (Zi fun x hx=>by
    simp only[meLw,List.mem_cons,List.not_mem_nil,or_false] at hx
    rcases hx with rfl|rfl
    ·rw[hput]; exact hcon
    ·rw[hput]; exact hcon2) (Zc _)) (Zd _) 20,hr,?_,.inl ⟨rfl,⟨k+1,by omega⟩,by show ZG l-(k+1)<ZG l-k; omega,rfl,rfl,rfl,?_⟩⟩
   ·simp only[Int.toNat_natCast,e1,hkl2,hk100,hk0,q0,q1,q2,q11,q12,hw,f1,f2,f3,f4,f5,f6,Bool.and_self,cond_true,and_true,true_and,and_self,Nat.le_refl]
   ·exact⟨fun _ _=>rfl,Zgu (ltZ 72) _ _ _ _ _ rfl rfl rfl rfl rfl rfl rfl rfl rfl rfl rfl (Zs1 (ltZ 72) l rfl),rfl,⟨⟨rfl,Nat.le_refl _⟩,⟨rfl,Nat.le_refl _⟩,⟨rfl,Nat.le_refl _⟩,⟨rfl,Nat.le_refl _⟩,trivial⟩,by repeat' (first|exact trivial|refine⟨⟨by kernel_rfl,by kernel_rfl⟩,?_⟩),Nat.le_refl _,fun l hl=>ZY hl,Zox _ _ _ _ _,fun x _ _ => .inl rfl⟩
 ·have hkk:k=ZG l:=by omega
  subst hkk
  have hsF:=fun {h1:Sy.Heap} (h68:Sy.look h1 68=_) (h67:Sy.look h1 67=_) (h66:Sy.look h1 66=_) (h65:Sy.look h1 65=_) (h71:Sy.look h1 71=_) (h70:Sy.look h1 70=_) (h69:Sy.look h1 69=_)=>Zgu (h1:=h1) (l:=[]) (ltZ 72) (ZE l (ZG l)).1 (ZE l (ZG l)).2 4096 256 4 h68 h67 h66 h65 h71 h70 h69 rfl rfl rfl rfl trivial
  simp only[List.append_nil] at hsF
  by_cases hle:l.length≤ZG l
  ·have d1:decide (((ZG l:Nat):Int)<(l.length:Int))=false:=decide_eq_false (by omega)
   have hr:=me_e.v l (ZE l (ZG l)).1 (ZE l (ZG l)).2 4096 256 4 (ZG l)
   refine⟨_,_,_,_,.exit 0,_,3,fun l=>Nat.blt l 72,id,Zn (L:=100) Ze (Zc _) (Zd _) 20,hr,?_,.inr ⟨by simp,rfl,rfl,?_⟩⟩
   ·simp only[d1,and_true,true_and,and_self]
   ·exact⟨fun _ _=>rfl,hsF rfl rfl rfl rfl rfl rfl rfl,rfl,⟨⟨rfl,Nat.le_refl _⟩,⟨rfl,Nat.le_refl _⟩,⟨rfl,Nat.le_refl _⟩,⟨rfl,Nat.le_refl _⟩,trivial⟩,by repeat' (first|exact trivial|refine⟨⟨by kernel_rfl,by kernel_rfl⟩,?_⟩),Nat.le_refl _,fun l hl=>ZY hl,Zox _ _ _ _ _,fun x _ _ => .inl rfl⟩
  ·have h100:ZG l=100:=by unfold ZG at *; omega
   have d1:decide (((ZG l:Nat):Int)<(l.length:Int))=true:=decide_eq_true (by omega)
   have d2:decide (((ZG l:Nat):Int)<(100:Int))=false:=decide_eq_false (by omega)
   have hr:=me_h.v l (ZE l (ZG l)).1 (ZE l (ZG l)).2 4096 256 4 (ZG l)
   refine⟨_,_,_,_,.exit 0,_,3,fun l=>Nat.blt l 72,id,Zn (L:=100) Ze (Zc _) (Zd _) 20,hr,?_,.inr ⟨by simp,rfl,rfl,?_⟩⟩
   ·simp only[d1,d2,and_true,true_and,and_self]
   ·exact⟨fun _ _=>rfl,hsF rfl rfl rfl rfl rfl rfl rfl,rfl,⟨⟨rfl,Nat.le_refl _⟩,⟨rfl,Nat.le_refl _⟩,⟨rfl,Nat.le_refl _⟩,⟨rfl,Nat.le_refl _⟩,trivial⟩,by repeat' (first|exact trivial|refine⟨⟨by kernel_rfl,by kernel_rfl⟩,?_⟩),Nat.le_refl _,fun l hl=>ZY hl,Zox _ _ _ _ _,fun x _ _ => .inl rfl⟩
structure MeHyp (l:List Pt) (zs:List UInt8) (f:Nat→Bool) (zs2:List UInt8) (f2:Nat→Bool) (N m n:Nat):Prop where
 ok:∀ x∈l,x.Ok
 zs:zs=List.replicate 4096 0
 f:f=fun _=>false
 zs2:zs2=(ZE l (ZG l)).1
 f2:f2=(ZE l (ZG l)).2
 N:N=4096
 m:m=256
 n:n=4
def ZGp (l:List Pt) (zs:List UInt8) (f:Nat→Bool) (zs2:List UInt8) (f2:Nat→Bool) (N m n:Nat) (h:MeHyp l zs f zs2 f2 N m n):Ent Tryz.prog :=
 Zke Tryz.prog 14 0 70 (meI l zs f N m n 0) (.exit 0) (meF zs2 f2 N m n) (by kernel_rfl) (by kernel_rfl) (by
  obtain⟨h1,rfl,rfl,rfl,rfl,rfl,rfl,rfl⟩:=h
  exact ZAb l h1 ⟨0,Nat.zero_le _⟩)
def nwC (zs:List UInt8) (f:Nat→Bool) (N m n:Nat):Con:=⟨[.int .i64 16],64,[],[],.tuple ⟨[.pointer (some ⟨67,0,none⟩),.int .i64 0]⟩,68,arW true zs f N m n,arO N n⟩
def nrC (zs:List UInt8) (f:Nat→Bool) (N m:Nat):Con:=⟨[.int .i64 16],64,[],[],.tuple ⟨[.pointer (some ⟨66,0,none⟩),.int .i64 0]⟩,67,arR true zs f N m,Zkf N m⟩
def mmL (zs:List UInt8) (f:Nat→Bool) (N m n:Nat):Sy.Steps:=[(65,9,nwC zs f N m n,[]),(69,41,nrC zs f N m,[])]
def Zd0:=Qw Zn5
def ZAc:=Bx.mk @Zd0.eq_1
theorem ZDG (l:List Pt) (zs:List UInt8) (f:Nat→Bool) (zs2:List UInt8) (f2:Nat→Bool) (N:Nat) (m:Nat) (n:Nat) (h:MeHyp l zs f zs2 f2 N m n):evF Tryz.prog (Zs 3 (Zb (mmL zs f N m n)) Zg) (Yt [ZGp l zs f zs2 f2 N m n h]) 100 20 14 [ZkY 64 0 l.length (big+64)] (Zn2 65 [(64,ZaS 0 0 (Qy l))] [] 0)=XP (ZbQ [ZcC,ZcD]) 72 [(68,Zf2 N),(67,Yn (ZcE m 66 0 n)),(66,Kp 66 f2 n),(65,JQ 65 zs2),(71,Yn [K1 N,UA 0 m]),(70,ZaT 70 f2 m),(69,JQ 69 zs2),(64,ZaS 0 0 (Qy l))] [(66,n),(65,N),(70,m),(69,N),(70,m),(69,N),(66,n),(65,N)] 0 (JG (VA (ZhJ Zd0) Zd0) (JG (Qw ZcC) (Qw ZcD) (ZdZ l.length) Qp) (ZcA (ZlS N)∧ZcA (ZcE m 66 0 n)∧Xg (ZfN f n (Zgb f n))∧Zde (Xg (Ze0 zs zs)) (ZcA [K1 N,UA 0 m]) (ZcA (bls f m)) (Xg (Ze0 zs zs)) (ZcA (Qy l))) (JG (n≤n) (N≤N) (m≤m) (N≤N))):=by kernel_rfl
def mm_a:=Bx.mk (by have h := @ZDG; simp(maxSteps:=99999999) only[ZL.v, ZN.v, ZR.v, Qc.v, ZD.v, Qz.v, ZrK.v, Zz.v, Ku.v, Q7.v, VH.v, Uy.v, Y2.v, Ze4.v, Zgi.v, ZzI.v, ZcB.v, ZmQ.v, ZAc.v, -eq_self] at h; exact h)
theorem ZDH (zs:List UInt8) (f:Nat→Bool) (N:Nat) (m:Nat) (n:Nat):evF Tryz.prog (Zs 3 (Zb (mmL zs f N m n)) Zg) Zf 100 20 14 [WB] (Zn3 65 [] 0)=XP (ZbQ [ZcC,ZcD]) 72 [(71,Yn [K1 N,UA 0 m]),(70,ZaT 70 f m),(69,JQ 69 zs),(68,Zf2 N),(67,Yn (ZcE m 66 0 n)),(66,Kp 66 f n),(65,JQ 65 zs)] [(70,m),(69,N),(66,n),(65,N)] 0 (VA (ZhJ Zd0) Zd0):=by kernel_rfl
def mm_0:=Bx.mk (by have h := @ZDH; simp(maxSteps:=99999999) only[ZL.v, ZN.v, ZR.v, Qc.v, ZD.v, Qz.v, ZrK.v, Ku.v, Q7.v, Uy.v, Ze4.v, Zgi.v, ZmQ.v, ZAc.v, -eq_self] at h; exact h)
def Zs2 (a b c:Nat):={ block:=a,off:=b,spot:=some c:Addr }
def Zd1:=Bx.mk @Zs2.eq_1
theorem ZDI (zs:List UInt8) (f:Nat→Bool) (N:Nat) (m:Nat) (n:Nat):evF Tryz.prog (Zs 3 (Zb (mmL zs f N m n)) Zg) Zf 100 20 14 [Value.slice (some (Zs2 64 0 64)) 0 (big+64)] (Zn3 65 [] 0)=XP (ZbQ [ZcC,ZcD]) 72 [(71,Yn [K1 N,UA 0 m]),(70,ZaT 70 f m),(69,JQ 69 zs),(68,Zf2 N),(67,Yn (ZcE m 66 0 n)),(66,Kp 66 f n),(65,JQ 65 zs)] [(70,m),(69,N),(66,n),(65,N)] 0 (VA (ZhJ Zd0) Zd0):=by kernel_rfl
def mm_1:=Bx.mk (by have h := @ZDI; simp(maxSteps:=99999999) only[ZL.v, ZN.v, ZR.v, ZD.v, Qz.v, ZrK.v, Ku.v, Q7.v, Uy.v, Ze4.v, Zgi.v, ZmQ.v, ZAc.v, Zd1.v, -eq_self] at h; exact h)
theorem ZDJ (n:Nat):v64 (Za (fun _=>false) n)=z64 n:=by
 unfold v64 z64 Za
 rw[List.map_map]
 have h0:∀ k:Nat,bn (fun _=>false) k=0:=fun k=>by induction k with
  | zero=>rfl
  | succ k ih=>simp[bn,ih]
 simp only[Function.comp_def,h0,List.map_const',List.length_range]
 rfl
theorem ZDK:ConOk Tryz.prog 9 3 (nwC (List.replicate 4096 0) (fun _=>false) 4096 256 4)∧FlatC (nwC (List.replicate 4096 0) (fun _=>false) 4096 256 4):=by
 have h:=Zuk 16 (by omega) (by omega)
 have e:ZBz 16=nwC (List.replicate 4096 0) (fun _=>false) 4096 256 4:=by
  unfold ZBz nwC arW arL
  rw[ZDJ]
  rfl
 rw[e] at h
 exact h
theorem ZDL:ConOk Tryz.prog 41 3 (nrC (List.replicate 4096 0) (fun _=>false) 4096 256)∧FlatC (nrC (List.replicate 4096 0) (fun _=>false) 4096 256):=Zvd 16 (by omega) (by omega)
def ZA7 (args:List Value) (h:Sy.Heap) (zs:List UInt8) (f:Nat→Bool) (N m n:Nat):Con:=⟨args,65,h,[],.tuple ⟨[.pointer (some ⟨68,0,none⟩),.pointer (some ⟨71,0,none⟩)]⟩,72,arM true zs f N m n++arN true zs f N m,ZEk N m n⟩
theorem ZvI:∀ l,l<72→YD 65 72 id (fun l=>Nat.blt l 72) l=true:=fun l hl=>by
 show(Nat.blt l NG||(bif Nat.blt l 65 then(Nat.beq l l&&Nat.blt l 72) else Nat.blt l 72))=true
 rw[Qq hl,Nat.beq_refl]
 cases Nat.blt l NG<;>cases Nat.blt l 65<;>rfl
theorem ZAd {q:Nat→Bool} (h:∀ l,l<72→q l=true) (zs:List UInt8) (f:Nat→Bool) (N m n:Nat):∀ x∈arM true zs f N m n++arN true zs f N m,∀ v∈x.2.cells,okV q 3 v=true:=fun x hx v hv=>by
 obtain⟨c1,c2,c3⟩:=ZmR h N m n
 simp only[arM,arN,List.cons_append,List.nil_append,List.mem_cons,List.not_mem_nil,or_false] at hx
 rcases hx with rfl|rfl|rfl|rfl|rfl|rfl|rfl
 ·exact c1 v hv
 ·exact c2 v hv
 ·exact QP (Zm _ v hv) 3
 ·exact QP (Zl zs v hv) 3
 ·exact c3 v hv
 ·exact QP (Xk f m v hv) 3
 ·exact QP (Zl zs v hv) 3
theorem ZvJ (zs:List UInt8) (f:Nat→Bool) (N m n:Nat):∀ x∈arM true zs f N m n++arN true zs f N m,x.2.op≠none→∀ v∈x.2.cells,Z4 v=true:=fun x hx hne=>by
 simp only[arM,arN,List.cons_append,List.nil_append,List.mem_cons,List.not_mem_nil,or_false] at hx
 rcases hx with rfl|rfl|rfl|rfl|rfl|rfl|rfl
 ·exact absurd rfl hne
 ·exact absurd rfl hne
 ·exact Zm _
 ·exact Zl zs
 ·exact absurd rfl hne
 ·exact Xk f m
 ·exact Zl zs
theorem ZmT {call:Qs} (hc:Zv Tryz.prog call) {args:List Value} {h:Sy.Heap} {zs:List UInt8} {f:Nat→Bool} {N m n:Nat} {s':Sy.St} (ha:args.all (okV (fun l=>Nat.blt l 65) 3)=true) (hh:OkH (fun l=>Nat.blt l 65) h)
  (hr:call 14 args ⟨65,h,[],0,[],0,True⟩=some (.tuple ⟨[.pointer (some ⟨68,0,none⟩),.pointer (some ⟨71,0,none⟩)]⟩,s')) (hO:s'.O) (hs:WS 3 (fun l=>Nat.blt l 72) id s'.h (arM true zs f N m n++arN true zs f N m)) (hlo:ZaA (fun l=>Nat.blt l 72) id s'.lo (ZEk N m n)) (hro:∀ x∈h,x.2.rw=false) :
  ConOk Tryz.prog 14 3 (ZA7 args h zs f N m n)∧FlatC (ZA7 args h zs f N m n):=by
 have hres:okV (fun l=>Nat.blt l 72) 3 (.tuple ⟨[.pointer (some ⟨68,0,none⟩),.pointer (some ⟨71,0,none⟩)]⟩)=true:=rfl
 have hk:=ZmS ZvI true zs f N m n (l:=[]) trivial
 rw[List.append_nil] at hk
 refine⟨Qi hc ⟨by show 64≤65; omega,by show 65≤72; omega,hh,rfl,rfl,rfl,ha,hres,ZAd (ltZ 72) zs f N m n⟩ hr hO (p:=fun l=>Nat.blt l 72) (σ:=id) ?_,⟨ZvJ zs f N m n⟩⟩
 exact⟨fun _ _=>rfl,hs,rfl,hlo,⟨hres,by rw[Uh]; rfl⟩,rfl,hk,rfl,QQ 3 _ rfl,fun x hx hrw => .inl rfl⟩
theorem ZmU (k:Nat) (l:List Pt) (hk:ZfA k l.length) (hok:∀ x∈l,x.Ok):ConOk Tryz.prog 14 3 (ZA7 [sl1 k 64 l.length] (Uv k 64 (Qy l)) (ZE l (ZG l)).1 (ZE l (ZG l)).2 4096 256 4)∧FlatC (ZA7 [sl1 k 64 l.length] (Uv k 64 (Qy l)) (ZE l (ZG l)).1 (ZE l (ZG l)).2 4096 256 4):=by
 have hb:∀ x∈mmL (List.replicate 4096 0) (fun _=>false) 4096 256 4,ConOk Tryz.prog x.2.1 3 x.2.2.1∧FlatC x.2.2.1:=fun x hx=>by
  simp only[mmL,List.mem_cons,List.not_mem_nil,or_false] at hx
  rcases hx with rfl|rfl
  ·exact ZDK
  ·exact ZDL
 have hseen:=fun(zs:List UInt8) (f:Nat→Bool) {h1:Sy.Heap} (h68:Sy.look h1 68=_) (h67:Sy.look h1 67=_) (h66:Sy.look h1 66=_) (h65:Sy.look h1 65=_) (h71:Sy.look h1 71=_) (h70:Sy.look h1 70=_) (h69:Sy.look h1 69=_)=>Zgu (h1:=h1) (l:=[]) (ltZ 72) zs f 4096 256 4 h68 h67 h66 h65 h71 h70 h69 rfl rfl rfl rfl trivial
 simp only[List.append_nil] at hseen
 obtain⟨hk2,hk0⟩:=hk
 by_cases h2:k=2
 ·subst h2
  have hr:=mm_a.v l (List.replicate 4096 0) (fun _=>false) (ZE l (ZG l)).1 (ZE l (ZG l)).2 4096 256 4 ⟨hok,rfl,rfl,rfl,rfl,rfl,rfl,rfl⟩
  refine ZmT (Zn (L:=100) Ze (Zo (Zi hb) (Zc _)) (X0 _) 20) rfl ⟨⟨rfl,rfl,ZB (YZ l)⟩,trivial⟩ hr ?_ (hseen _ _ rfl rfl rfl rfl rfl rfl rfl) ⟨⟨rfl,Nat.le_refl _⟩,⟨rfl,Nat.le_refl _⟩,⟨rfl,Nat.le_refl _⟩,⟨rfl,Nat.le_refl _⟩,trivial⟩ (fun x hx=>by obtain rfl:=List.mem_singleton.1 hx; rfl)
  simp only[and_true,true_and,and_self,Nat.le_refl]
 ·have hl:l=[]:=List.length_eq_zero_iff.1 (hk0 (by omega))
  subst hl
  have h01:k=0∨k=1:=by omega
  rcases h01 with rfl|rfl
  ·have hr:=mm_0.v (List.replicate 4096 0) (fun _=>false) 4096 256 4
   refine ZmT (Zn (L:=100) Ze (Zo (Zi hb) (Zc _)) (Zd _) 20) rfl trivial hr ?_ (hseen _ _ rfl rfl rfl rfl rfl rfl rfl) ⟨⟨rfl,Nat.le_refl _⟩,⟨rfl,Nat.le_refl _⟩,⟨rfl,Nat.le_refl _⟩,⟨rfl,Nat.le_refl _⟩,trivial⟩ (fun x hx=>by cases hx)
   simp only[and_true,true_and,and_self,Nat.le_refl]
  ·have hr:=mm_1.v (List.replicate 4096 0) (fun _=>false) 4096 256 4
   refine ZmT (Zn (L:=100) Ze (Zo (Zi hb) (Zc _)) (Zd _) 20) rfl trivial hr ?_ (hseen _ _ rfl rfl rfl rfl rfl rfl rfl) ⟨⟨rfl,Nat.le_refl _⟩,⟨rfl,Nat.le_refl _⟩,⟨rfl,Nat.le_refl _⟩,⟨rfl,Nat.le_refl _⟩,trivial⟩ (fun x hx=>by cases hx)
   simp only[and_true,true_and,and_self,Nat.le_refl]
end Go.Proofs.YtagacmljbgkmoaaGreatDoor
