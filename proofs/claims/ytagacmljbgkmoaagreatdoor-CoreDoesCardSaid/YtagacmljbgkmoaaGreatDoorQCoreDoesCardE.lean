/-
  CoreDoesCard: part 5 of the proof.
-/
import Derived.Test.YtagacmljbgkmoaaGreatDoorQCoreDoesCardD
set_option linter.unusedSimpArgs false
set_option linter.unusedVariables false
set_option linter.unusedSectionVars false
namespace Go.Proofs.YtagacmljbgkmoaaGreatDoor
open Go.IntKind (u8 u16 u32 u64 i64)
open Go.RowKit
open Sy
set_option maxRecDepth 100000
theorem Zvp {q:Nat→Bool}:∀ {l k:Sy.Heap},OkH q l→OkH q k→OkH q (l++k)
 | [],_,_,h=>h
 | _::l,_,h,hk=>⟨h.1,Zvp (l:=l) h.2 hk⟩
theorem Zmr {q:Nat→Bool} (h:∀ l,l<68→q l=true) (rw:Bool) (zs:List UInt8) (f:Nat→Bool) (N m n:Nat):OkH q (arW rw zs f N m n++Y3 ZK):=Zvp (Zas h rw zs f N m n) (Zvd fun l hl=>h l (by omega))
def Zdr (args:List Value) (fr':Nat→Cp) (t:Nat) (zs:List UInt8) (f:Nat→Bool) (N m n:Nat):Con:=⟨args,68,arW false zs f N m n++Y3 ZK,arO N n,.tuple ⟨[Xu fr',.int .i64 (t:Nat)]⟩,68,[],[]⟩
def ZAK (args:List Value) (fr':Nat→Cp) (zs zs':List UInt8) (f f':Nat→Bool) (N m n:Nat):Con:=⟨args,68,arW true zs f N m n++Y3 ZK,arO N n,.tuple ⟨[Xu fr',.int .i64 0]⟩,68,arW true zs' f' N m n,arO N n⟩
theorem KI {call:QM} (hc:Zs Tryz.prog call) {fn:FuncId} {args:List Value} {fr':Nat→Cp} {t:Nat} {v:Value} {zs:List UInt8} {f:Nat→Bool} {N m n:Nat} {T:List (Nat×Bool)} {q:Prop} (ha:args.all (okV (fun l=>Nat.blt l 68) 3)=true) (h:obs (call fn args ⟨68,arW false zs f N m n++Y3 ZK,arO N n,0,T,0,True⟩)=some (v,q)) (hv:v = .tuple ⟨[Xu fr',.int .i64 (t:Nat)]⟩) (hq:q) :
  ConOk Tryz.prog fn 3 (Zdr args fr' t zs f N m n)∧FlatC (Zdr args fr' t zs f N m n):=by
 subst hv
 unfold obs at h
 obtain⟨⟨v',s'⟩,h1,h2⟩:=oM h
 simp only[Prod.mk.injEq] at h2
 obtain⟨rfl,rfl⟩:=h2
 have hv:XD (.tuple ⟨[Xu fr',.int .i64 (t:Nat)]⟩)=true:=rfl
 refine⟨Qn hc ⟨by show 64≤68; omega,Nat.le_refl _,Zmr ZhC false zs f N m n,rfl,rfl,rfl,ha,Q8 hv 1,fun x hx=>by cases hx⟩ h1 hq (p:=fun l=>Nat.blt l 68) (σ:=id) ?_,⟨fun x hx=>by cases hx⟩⟩
 exact⟨fun _ _=>rfl,trivial,rfl,trivial,⟨Q8 hv 1,by rw[JB]; rfl⟩,rfl,trivial,rfl,Xk _ hv,fun x hx=>by cases hx⟩
theorem ZDa {call:QM} (hc:Zs Tryz.prog call) {fn:FuncId} {args:List Value} {fr':Nat→Cp} {v:Value} {zs zs':List UInt8} {f f':Nat→Bool} {N m n:Nat} {T:List (Nat×Bool)} {s':Sy.St} (ha:args.all (okV (fun l=>Nat.blt l 68) 3)=true) (h:call fn args ⟨68,arW true zs f N m n++Y3 ZK,arO N n,0,T,0,True⟩=some (v,s')) (hv:v = .tuple ⟨[Xu fr',.int .i64 0]⟩) (hO:s'.O)
  (h1:Vr 3 (fun l=>Nat.blt l 68) id s'.h (arW true zs' f' N m n)) (h2:ZbK (fun l=>Nat.blt l 68) id s'.lo (arO N n)):ConOk Tryz.prog fn 3 (ZAK args fr' zs zs' f f' N m n)∧FlatC (ZAK args fr' zs zs' f f' N m n):=by
 subst hv
 have hv:XD (.tuple ⟨[Xu fr',.int .i64 0]⟩)=true:=rfl
 refine⟨Qn hc ⟨by show 64≤68; omega,Nat.le_refl _,Zmr ZhC true zs f N m n,rfl,rfl,rfl,ha,Q8 hv 1,Zo5 true _ _ N m n⟩ h hO (p:=fun l=>Nat.blt l 68) (σ:=id) ?_,⟨Za7 _ _ _ _ _ _⟩⟩
 exact⟨fun _ _=>rfl,h1,rfl,h2,⟨Q8 hv 1,by rw[JB]; rfl⟩,rfl,Zas ZlO true _ _ N m n,rfl,Xk _ hv,fun x _ _ => .inl rfl⟩
theorem ZDb (x:Nat→Cp):Zfu frZ (frL x) 0=frL x:=rfl
theorem ZHf (x:Nat→Cp):Zz frZ (frL x) 0=true:=rfl
theorem ZHg (x:Nat→Cp):WK 136 (frL x)=true:=rfl
theorem ZHh (x:Nat→Cp):Yf (frL x)=136:=rfl
theorem ZDc:WK (0+136) frZ=true:=rfl
theorem ZHi (x:Nat→Cp):Zj8 (frL x)=true:=rfl
theorem ZDd (x:Nat→Cp):YU 0 (frL x) frZ=frL x:=rfl
theorem ZHj (x:Nat→Cp):(frL x).all Qm=true:=rfl
theorem Zvq (x:Nat→Cp) (a:Nat) (r:Cp) (ha:a<17):YU (0+a*8) [Value.int u32 (↑r.C:Int),Value.int u8 (↑r.E:Int),Value.int u16 (↑r.B:Int),Value.int u16 (↑r.T:Int),Value.int u16 (↑r.P:Int),Value.int u16 (↑r.Y:Int),Value.int u32 (↑r.R:Int),Value.bool r.V] (frL x)=frL (frS x a r):=by
 have h:=Zo4 x r a ha
 rw[← h,show 0+a*8=8*a by omega]
 rfl
theorem Zx2 (x:Nat→Cp) (r:Cp):YU 128 [Value.int u32 (↑r.C:Int),Value.int u8 (↑r.E:Int),Value.int u16 (↑r.B:Int),Value.int u16 (↑r.T:Int),Value.int u16 (↑r.P:Int),Value.int u16 (↑r.Y:Int),Value.int u32 (↑r.R:Int),Value.bool r.V] (frL x)=frL (frS x 16 r):=Zvq x 16 r (by omega)
theorem ZDe (x:Nat→Cp) (a v:Nat) (ha:a<17):YU (0+a*8) [Value.int u32 (↑v:Int),Value.int u8 (0:Int),Value.int u16 (0:Int),Value.int u16 (0:Int),Value.int u16 (0:Int),Value.int u16 (0:Int),Value.int u32 (0:Int),Value.bool false] (frL x)=frL (frS x a (Zdk v)):=Zvq x a (Zdk v) ha
theorem UQ {i:In} {fr nx:Nat→Cp} {k:Bool} {L:Sy.Steps} (hfr:YR fr) (h1:nx=Yo fr) (h2:k=XC i) (hL:∀ x∈L,ConOk Tryz.prog x.2.1 3 x.2.2.1∧FlatC x.2.2.1):∀ x∈doL i fr nx k ZK L,ConOk Tryz.prog x.2.1 3 x.2.2.1∧FlatC x.2.2.1:=fun x hx=>by
 unfold doL at hx
 subst h1 h2
 rcases List.mem_cons.1 hx with rfl|hx
 ·exact⟨Zxi fr hfr,⟨fun x hx=>by cases hx⟩⟩
 ·rcases List.mem_cons.1 hx with rfl|hx
  ·exact Zve i
  ·exact hL x hx
theorem Zeh {args:List Value} {v:Value}:FlatC (Con.pure args v):=⟨fun x hx=>by cases hx⟩
theorem Zh4 {i:In} {w:Nat} (h:w=Xp i.op):∀ x∈wdL i w,ConOk Tryz.prog x.2.1 3 x.2.2.1∧FlatC x.2.2.1:=fun x hx=>by
 subst h
 obtain rfl:=List.mem_singleton.1 hx
 exact⟨ZuC i.op,Zeh⟩
theorem Zn2 {i:In} {cA cB:Cp} {k is:Bool} (h1:k=tkS i.op cA.C cB.C) (h2:is=tkI i.op):∀ x∈tkL i cA cB k is,ConOk Tryz.prog x.2.1 3 x.2.2.1∧FlatC x.2.2.1:=fun x hx=>by
 subst h1 h2
 obtain rfl:=List.mem_singleton.1 hx
 exact⟨ZxS i.op cA.C cB.C,Zeh⟩
theorem Zvr {i:In} {cB cC:Cp} {v t:Nat} {is:Bool} (hb:cB.Ok) (hc:cC.Ok) (h1:v=rkN i.op cB.C cC.C) (h2:t=rkT i.op cC.C) (h3:is=rkI i.op):∀ x∈rkL i cB cC v t is,ConOk Tryz.prog x.2.1 3 x.2.2.1∧FlatC x.2.2.1:=fun x hx=>by
 subst h1 h2 h3
 obtain rfl:=List.mem_singleton.1 hx
 exact⟨ZG2 i.op cB.C cC.C hb.1 hc.1,Zeh⟩
theorem Zcc {L M:Sy.Steps} (h1:∀ x∈L,ConOk Tryz.prog x.2.1 3 x.2.2.1∧FlatC x.2.2.1) (h2:∀ x∈M,ConOk Tryz.prog x.2.1 3 x.2.2.1∧FlatC x.2.2.1):∀ x∈L++M,ConOk Tryz.prog x.2.1 3 x.2.2.1∧FlatC x.2.2.1:=fun x hx=>by
 rcases List.mem_append.1 hx with hx|hx
 ·exact h1 x hx
 ·exact h2 x hx
theorem Zn3 {x:Nat×FuncId×Con×List Nat} (h:ConOk Tryz.prog x.2.1 3 x.2.2.1∧FlatC x.2.2.1):∀ y∈[x],ConOk Tryz.prog y.2.1 3 y.2.2.1∧FlatC y.2.2.1:=fun y hy=>by
 obtain rfl:=List.mem_singleton.1 hy; exact h
theorem ZHk (fr:Nat→Cp) (i:In) (zs:List UInt8) (f:Nat→Bool) (N g n:Nat) (hfr:YR fr) (hm:XC i=false):ConOk Tryz.prog 13 3 (Zdr (mvA fr i) frN 6 zs f N g n)∧FlatC (Zdr (mvA fr i) frN 6 zs f N g n):=by
 have hr:=do_b.v i fr (Yo fr) ZK zs f N g n
 refine KI (Zm (L:=100) Zg (Zn (Zj (UQ (i:=i) hfr rfl hm.symm (fun x hx=>by cases hx))) (Zf _)) (Zh _) 20) (X6 _ _) hr rfl ?_
 simp only[ZT,ZC,and_true,true_and,and_self]
def qFL:=Bx.mk (aI @ZDb (aI @ZHf (aI @ZHg (aI @ZHh (aI @ZDc (aI @ZHi (aI @ZDd (aI @ZHj @Zx2))))))))
def qT7:=Bx.mk (aI @Bool.and_self (aI @Bool.and_true (aI @Bool.true_and (aI @and_true (aI @true_and (aI @and_self @Nat.le_refl))))))
theorem Zvs (fr:Nat→Cp) (a b c:Nat) (m:Int) (zs:List UInt8) (f:Nat→Bool) (N g n:Nat) (hfr:YR fr) (hm:XC (inS 53 a b c m)=true):ConOk Tryz.prog 13 3 (Zdr (mvA fr (inS 53 a b c m)) (frN) 6 zs f N g n)∧FlatC (Zdr (mvA fr (inS 53 a b c m)) (frN) 6 zs f N g n):=by
 have v1:=qV1 n
 have v2:=qV2 n
 have u1:=qU1
 have u2:=qU2
 have hr:=do_t.v (inS 53 a b c m) fr (Yo fr) ZK zs f N g n
 simp only[inS,tN,Z9,qFL.v] at hr
 refine KI (Zm (L:=100) Zg (Zn (Zj (UQ (i:=(inS 53 a b c m)) hfr rfl hm.symm (fun x hx=>by cases hx))) (Zf _)) (Zh _) 20) (X6 _ _) hr rfl ?_
 simp(disch:=decide) only[inS,qFL.v,beq_self_eq_true,Nat.add_zero,v1,v2,u1,u2,ZT,ZC,tN,qT7.v,cond_true]
theorem qE1 {x y:Int} (h:x≠y):(x==y)=false:=beq_eq_false_iff_ne.2 h
theorem Zn4 (fr:Nat→Cp) (a b c:Nat) (m:Int) (zs:List UInt8) (f:Nat→Bool) (N g n:Nat) (hfr:YR fr) (hm:XC (inS 50 a b c m)=true):ConOk Tryz.prog 13 3 (Zdr (mvA fr (inS 50 a b c m)) (fr) 0 zs f N g n)∧FlatC (Zdr (mvA fr (inS 50 a b c m)) (fr) 0 zs f N g n):=by
 have v1:=qV1 n
 have v2:=qV2 n
 have u1:=qU1
 have u2:=qU2
 have e1:=@qE1
 have hr:=ZG5.v (inS 50 a b c m) fr (Yo fr) ZK zs f N g n
 simp only[inS,tN,Z9,qFL.v] at hr
 refine KI (Zm (L:=100) Zg (Zn (Zj (UQ (i:=(inS 50 a b c m)) hfr rfl hm.symm (fun x hx=>by cases hx))) (Zf _)) (Zh _) 20) (X6 _ _) hr rfl ?_
 simp(disch:=decide) only[inS,qFL.v,beq_self_eq_true,e1,Nat.add_zero,v1,v2,u1,u2,ZT,ZC,tN,qT7.v,cond_true]
theorem Zn5 (fr:Nat→Cp) (a b c:Nat) (m:Int) (zs:List UInt8) (f:Nat→Bool) (N g n:Nat) (hfr:YR fr) (hm:XC (inS 51 a b c m)=true):ConOk Tryz.prog 13 3 (Zdr (mvA fr (inS 51 a b c m)) (fr) 0 zs f N g n)∧FlatC (Zdr (mvA fr (inS 51 a b c m)) (fr) 0 zs f N g n):=by
 have v1:=qV1 n
 have v2:=qV2 n
 have u1:=qU1
 have u2:=qU2
 have e1:=@qE1
 have hr:=ZG6.v (inS 51 a b c m) fr (Yo fr) ZK zs f N g n
 simp only[inS,tN,Z9,qFL.v] at hr
 refine KI (Zm (L:=100) Zg (Zn (Zj (UQ (i:=(inS 51 a b c m)) hfr rfl hm.symm (fun x hx=>by cases hx))) (Zf _)) (Zh _) 20) (X6 _ _) hr rfl ?_
 simp(disch:=decide) only[inS,qFL.v,beq_self_eq_true,e1,Nat.add_zero,v1,v2,u1,u2,ZT,ZC,tN,qT7.v,cond_true]
theorem Zn6 (fr:Nat→Cp) (a b c:Nat) (m:Int) (zs:List UInt8) (f:Nat→Bool) (N g n:Nat) (hfr:YR fr) (hm:XC (inS 52 a b c m)=true):ConOk Tryz.prog 13 3 (Zdr (mvA fr (inS 52 a b c m)) (fr) 0 zs f N g n)∧FlatC (Zdr (mvA fr (inS 52 a b c m)) (fr) 0 zs f N g n):=by
 have v1:=qV1 n
 have v2:=qV2 n
 have u1:=qU1
 have u2:=qU2
 have e1:=@qE1
 have hr:=ZG7.v (inS 52 a b c m) fr (Yo fr) ZK zs f N g n
 simp only[inS,tN,Z9,qFL.v] at hr
 refine KI (Zm (L:=100) Zg (Zn (Zj (UQ (i:=(inS 52 a b c m)) hfr rfl hm.symm (fun x hx=>by cases hx))) (Zf _)) (Zh _) 20) (X6 _ _) hr rfl ?_
 simp(disch:=decide) only[inS,qFL.v,beq_self_eq_true,e1,Nat.add_zero,v1,v2,u1,u2,ZT,ZC,tN,qT7.v,cond_true]
def qFT (fr:Nat→Cp) (a:Nat) (h:a<17):=Bx.mk (aI (ZCo fr a h) (aI (Zxq fr a h) (aI (fun x y=>Zvq x a y h) (aI (fun x y=>ZDe x a y h) (fun x=>ZAz x a h)))))
theorem ZAL (fr:Nat→Cp) (a b c:Nat) (m:Int) (zs:List UInt8) (f:Nat→Bool) (N g n:Nat) (hfr:YR fr) (a0:a<16) (hm:XC (inS 29 a b c m)=true):ConOk Tryz.prog 13 3 (Zdr (mvA fr (inS 29 a b c m)) (frS (frS (Yo fr) a (Zdm fr 1)) 16 (Zdm fr m)) 0 zs f N g n)∧FlatC (Zdr (mvA fr (inS 29 a b c m)) (frS (frS (Yo fr) a (Zdm fr 1)) 16 (Zdm fr m)) 0 zs f N g n):=by
 have ha:a<17:=by omega
 have ya:=qD0 a
 have za:=qD1 a (by omega)
 have v1:=qV1 n
 have v2:=qV2 n
 have u1:=qU1
 have u2:=qU2
 have e1:=@qE1
 have hr:=ZNa.v (inS 29 a b c m) fr (Yo fr) ZK zs f N g n (Zdm fr 1) (Zdm fr m)
 simp only[inS,tN,Z9,qFL.v,(qFS fr a ha).v,(qFT fr a ha).v] at hr
 refine KI (Zm (L:=100) Zg (Zn (Zj (UQ (i:=(inS 29 a b c m)) hfr rfl hm.symm (fun x hx=>by
  simp only[List.mem_cons,List.not_mem_nil,or_false] at hx
  rcases hx with rfl|rfl
  ·exact⟨ZfR fr 1 hfr,Zeh⟩
  ·exact⟨ZfR fr m hfr,Zeh⟩))) (Zf _)) (Zh _) 20) (X6 _ _) hr rfl ?_
 simp(disch:=decide) only[inS,qFL.v,(qFS fr a ha).v,(qFT fr a ha).v,ya,za,beq_self_eq_true,e1,Nat.add_zero,v1,v2,u1,u2,ZT,ZC,tN,qT7.v,cond_true]
theorem Zvt (fr:Nat→Cp) (a b c:Nat) (m:Int) (zs:List UInt8) (f:Nat→Bool) (N g n:Nat) (hfr:YR fr) (a0:a<16) (b0:b<16) (hm:XC (inS 30 a b c m)=true) (ht:Vb (fr b) 4=0):ConOk Tryz.prog 13 3 (Zdr (mvA fr (inS 30 a b c m)) (frS (frS (Yo fr) a (Zdm fr 1)) 16 (fr b)) 0 zs f N g n)∧FlatC (Zdr (mvA fr (inS 30 a b c m)) (frS (frS (Yo fr) a (Zdm fr 1)) 16 (fr b)) 0 zs f N g n):=by
 have ha:a<17:=by omega
 have ya:=qD0 a
 have za:=qD1 a (by omega)
 have hb:b<17:=by omega
 have yb:=qD0 b
 have zb:=qD1 b (by omega)
 have v1:=qV1 n
 have v2:=qV2 n
 have u1:=qU1
 have u2:=qU2
 have e1:=@qE1
 have e2:(((Vb (fr b) 4:Nat):Int) !=0)=false:=by rw[ht]; rfl
 have hr:=ZG8.v (inS 30 a b c m) fr (Yo fr) ZK zs f N g n (Zdm fr 1) (fr b) (Vb (fr b) 4)
 simp only[inS,tN,Z9,qFL.v,(qFS fr a ha).v,(qFT fr a ha).v,(qFS fr b hb).v,(qFT fr b hb).v] at hr
 refine KI (Zm (L:=100) Zg (Zn (Zj (UQ (i:=(inS 30 a b c m)) hfr rfl hm.symm (fun x hx=>by
  simp only[List.mem_cons,List.not_mem_nil,or_false] at hx
  rcases hx with rfl|rfl
  ·exact⟨ZfR fr 1 hfr,Zeh⟩
  ·exact⟨Zmi (fr b) 4 (hfr b) (by omega),Zeh⟩))) (Zf _)) (Zh _) 20) (X6 _ _) hr rfl ?_
 simp(disch:=decide) only[inS,qFL.v,(qFS fr a ha).v,(qFT fr a ha).v,(qFS fr b hb).v,(qFT fr b hb).v,ya,za,yb,zb,beq_self_eq_true,e1,e2,Nat.add_zero,v1,v2,u1,u2,ZT,ZC,tN,qT7.v,cond_true]
theorem Zvu (fr:Nat→Cp) (a b c:Nat) (m:Int) (zs:List UInt8) (f:Nat→Bool) (N g n:Nat) (hfr:YR fr) (a0:a<16) (b0:b<16) (hm:XC (inS 30 a b c m)=true) (ht:Vb (fr b) 4≠0):ConOk Tryz.prog 13 3 (Zdr (mvA fr (inS 30 a b c m)) (frN) (Vb (fr b) 4) zs f N g n)∧FlatC (Zdr (mvA fr (inS 30 a b c m)) (frN) (Vb (fr b) 4) zs f N g n):=by
 have ha:a<17:=by omega
 have ya:=qD0 a
 have za:=qD1 a (by omega)
 have hb:b<17:=by omega
 have yb:=qD0 b
 have zb:=qD1 b (by omega)
 have v1:=qV1 n
 have v2:=qV2 n
 have u1:=qU1
 have u2:=qU2
 have e1:=@qE1
 have e2:(((Vb (fr b) 4:Nat):Int) !=0)=true:=bne_iff_ne.2 (by omega)
 have hr:=ZG9.v (inS 30 a b c m) fr (Yo fr) ZK zs f N g n (Zdm fr 1) (fr b) (Vb (fr b) 4)
 simp only[inS,tN,Z9,qFL.v,(qFS fr a ha).v,(qFT fr a ha).v,(qFS fr b hb).v,(qFT fr b hb).v] at hr
 refine KI (Zm (L:=100) Zg (Zn (Zj (UQ (i:=(inS 30 a b c m)) hfr rfl hm.symm (fun x hx=>by
  simp only[List.mem_cons,List.not_mem_nil,or_false] at hx
  rcases hx with rfl|rfl
  ·exact⟨ZfR fr 1 hfr,Zeh⟩
  ·exact⟨Zmi (fr b) 4 (hfr b) (by omega),Zeh⟩))) (Zf _)) (Zh _) 20) (X6 _ _) hr rfl ?_
 simp(disch:=decide) only[inS,qFL.v,(qFS fr a ha).v,(qFT fr a ha).v,(qFS fr b hb).v,(qFT fr b hb).v,ya,za,yb,zb,beq_self_eq_true,e1,e2,Nat.add_zero,v1,v2,u1,u2,ZT,ZC,tN,qT7.v,cond_true]
theorem ZAM (fr:Nat→Cp) (op:Int) (a b c:Nat) (m:Int) (zs:List UInt8) (f:Nat→Bool) (N g n:Nat) (hfr:YR fr) (a0:a<16) (hm:XC (inS op a b c m)=true) (k53:¬ op=53) (k50:¬ op=50) (k51:¬ op=51) (k52:¬ op=52) (k29:¬ op=29) (k30:¬ op=30) (hw:0<Xp op) (r:Cp) (t:Nat) (hmv:ConOk Tryz.prog 37 3 (Kp fr (inS op a b c m) r t zs f N g n)∧FlatC (Kp fr (inS op a b c m) r t zs f N g n)) (ht:t≠0):ConOk Tryz.prog 13 3 (Zdr (mvA fr (inS op a b c m)) (frN) t zs f N g n)∧FlatC (Zdr (mvA fr (inS op a b c m)) (frN) t zs f N g n):=by
 have ha:a<17:=by omega
 have ya:=qD0 a
 have za:=qD1 a (by omega)
 have v1:=qV1 n
 have v2:=qV2 n
 have u1:=qU1
 have u2:=qU2
 have w1:decide (((Xp op:Nat):Int)>0)=true:=lR (by omega)
 have e2:((t:Int) !=0)=true:=bne_iff_ne.2 (by omega)
 have hr:=ZNb.v (inS op a b c m) fr (Yo fr) ZK zs f N g n (Xp op) t r
 simp only[inS,tN,Z9,qFL.v,(qFS fr a ha).v,(qFT fr a ha).v] at hr
 refine KI (Zm (L:=100) Zg (Zn (Zj (UQ (i:=(inS op a b c m)) hfr rfl hm.symm (Zcc (Zh4 rfl) (Zn3 hmv)))) (Zf _)) (Zh _) 20) (X6 _ _) hr rfl ?_
 simp(disch:=decide) only[inS,qFL.v,(qFS fr a ha).v,(qFT fr a ha).v,ya,za,Qw k53,Qw k50,Qw k51,Qw k52,Qw k29,Qw k30,w1,e2,Nat.add_zero,v1,v2,u1,u2,ZT,ZC,tN,qT7.v,cond_true]
theorem ZAN (fr:Nat→Cp) (op:Int) (a b c:Nat) (m:Int) (zs:List UInt8) (f:Nat→Bool) (N g n:Nat) (hfr:YR fr) (a0:a<16) (hm:XC (inS op a b c m)=true) (k53:¬ op=53) (k50:¬ op=50) (k51:¬ op=51) (k52:¬ op=52) (k29:¬ op=29) (k30:¬ op=30) (hw:0<Xp op) (r:Cp) (hmv:ConOk Tryz.prog 37 3 (Kp fr (inS op a b c m) r 0 zs f N g n)∧FlatC (Kp fr (inS op a b c m) r 0 zs f N g n)):ConOk Tryz.prog 13 3 (Zdr (mvA fr (inS op a b c m)) (frS (Yo fr) a r) 0 zs f N g n)∧FlatC (Zdr (mvA fr (inS op a b c m)) (frS (Yo fr) a r) 0 zs f N g n):=by
 have ha:a<17:=by omega
 have ya:=qD0 a
 have za:=qD1 a (by omega)
 have v1:=qV1 n
 have v2:=qV2 n
 have u1:=qU1
 have u2:=qU2
 have w1:decide (((Xp op:Nat):Int)>0)=true:=lR (by omega)
 have e2:(((0:Nat):Int) !=0)=false:=rfl
 have hr:=ZNc.v (inS op a b c m) fr (Yo fr) ZK zs f N g n (Xp op) 0 r
 simp only[inS,tN,Z9,qFL.v,(qFS fr a ha).v,(qFT fr a ha).v] at hr
 refine KI (Zm (L:=100) Zg (Zn (Zj (UQ (i:=(inS op a b c m)) hfr rfl hm.symm (Zcc (Zh4 rfl) (Zn3 hmv)))) (Zf _)) (Zh _) 20) (X6 _ _) hr rfl ?_
 simp(disch:=decide) only[inS,qFL.v,(qFS fr a ha).v,(qFT fr a ha).v,ya,za,Qw k53,Qw k50,Qw k51,Qw k52,Qw k29,Qw k30,w1,e2,Nat.add_zero,v1,v2,u1,u2,ZT,ZC,tN,qT7.v,cond_true]
def qT6:=Bx.mk (aI @Bool.and_true (aI @Bool.true_and (aI @Bool.and_self (aI @Bool.not_true (aI @Bool.not_false (aI @and_true (aI @true_and (aI @and_self @Nat.le_refl))))))))
theorem ZAO (fr:Nat→Cp) (op:Int) (a b c:Nat) (m:Int) (zs:List UInt8) (f:Nat→Bool) (N g n:Nat) (hfr:YR fr) (a0:a<16) (b0:b<16) (hm:XC (inS op a b c m)=true) (k53:¬ op=53) (k50:¬ op=50) (k51:¬ op=51) (k52:¬ op=52) (k29:¬ op=29) (k30:¬ op=30) (hw:Xp op=0) (hi:tkI op=true) (hk:tkS op (fr a).C (fr b).C=true):ConOk Tryz.prog 13 3 (Zdr (mvA fr (inS op a b c m)) (frS (Yo fr) 16 (Zdm fr m)) 0 zs f N g n)∧FlatC (Zdr (mvA fr (inS op a b c m)) (frS (Yo fr) 16 (Zdm fr m)) 0 zs f N g n):=by
 have ha:a<17:=by omega
 have ya:=qD0 a
 have za:=qD1 a (by omega)
 have hb:b<17:=by omega
 have yb:=qD0 b
 have zb:=qD1 b (by omega)
 have v1:=qV1 n
 have v2:=qV2 n
 have u1:=qU1
 have u2:=qU2
 have hr:=ZHa.v (inS op a b c m) fr (Yo fr) ZK zs f N g n (fr a) (fr b) (tkS op (fr a).C (fr b).C) true (Zdm fr m)
 simp only[inS,tN,Z9,qFL.v,(qFS fr a ha).v,(qFT fr a ha).v,(qFS fr b hb).v,(qFT fr b hb).v] at hr
 refine KI (Zm (L:=100) Zg (Zn (Zj (UQ (i:=(inS op a b c m)) hfr rfl hm.symm (Zcc (Zcc (Zh4 hw.symm) (Zn2 (i:=inS op a b c m) rfl hi.symm)) (Zn3 ⟨ZfR fr m hfr,Zeh⟩)))) (Zf _)) (Zh _) 20) (X6 _ _) hr rfl ?_
 simp(disch:=decide) only[inS,qFL.v,(qFS fr a ha).v,(qFT fr a ha).v,(qFS fr b hb).v,(qFT fr b hb).v,ya,za,yb,zb,Qw k53,Qw k50,Qw k51,Qw k52,Qw k29,Qw k30,hk,qT6.v,Nat.add_zero,v1,v2,u1,u2,ZT,ZC,tN,cond_true]
theorem ZAP (fr:Nat→Cp) (op:Int) (a b c:Nat) (m:Int) (zs:List UInt8) (f:Nat→Bool) (N g n:Nat) (hfr:YR fr) (a0:a<16) (b0:b<16) (hm:XC (inS op a b c m)=true) (k53:¬ op=53) (k50:¬ op=50) (k51:¬ op=51) (k52:¬ op=52) (k29:¬ op=29) (k30:¬ op=30) (hw:Xp op=0) (hi:tkI op=true) (hk:tkS op (fr a).C (fr b).C=false):ConOk Tryz.prog 13 3 (Zdr (mvA fr (inS op a b c m)) (Yo fr) 0 zs f N g n)∧FlatC (Zdr (mvA fr (inS op a b c m)) (Yo fr) 0 zs f N g n):=by
 have ha:a<17:=by omega
 have ya:=qD0 a
 have za:=qD1 a (by omega)
 have hb:b<17:=by omega
 have yb:=qD0 b
 have zb:=qD1 b (by omega)
 have v1:=qV1 n
 have v2:=qV2 n
 have u1:=qU1
 have u2:=qU2
 have hr:=ZHb.v (inS op a b c m) fr (Yo fr) ZK zs f N g n (fr a) (fr b) (tkS op (fr a).C (fr b).C) true
 simp only[inS,tN,Z9,qFL.v,(qFS fr a ha).v,(qFT fr a ha).v,(qFS fr b hb).v,(qFT fr b hb).v] at hr
 refine KI (Zm (L:=100) Zg (Zn (Zj (UQ (i:=(inS op a b c m)) hfr rfl hm.symm (Zcc (Zh4 hw.symm) (Zn2 (i:=inS op a b c m) rfl hi.symm)))) (Zf _)) (Zh _) 20) (X6 _ _) hr rfl ?_
 simp(disch:=decide) only[inS,qFL.v,(qFS fr a ha).v,(qFT fr a ha).v,(qFS fr b hb).v,(qFT fr b hb).v,ya,za,yb,zb,Qw k53,Qw k50,Qw k51,Qw k52,Qw k29,Qw k30,hk,qT6.v,Nat.add_zero,v1,v2,u1,u2,ZT,ZC,tN,cond_true]
theorem ZAQ (fr:Nat→Cp) (op:Int) (a b c:Nat) (m:Int) (zs:List UInt8) (f:Nat→Bool) (N g n:Nat) (hfr:YR fr) (a0:a<16) (b0:b<16) (c0:c<16) (hm:XC (inS op a b c m)=true) (k53:¬ op=53) (k50:¬ op=50) (k51:¬ op=51) (k52:¬ op=52) (k29:¬ op=29) (k30:¬ op=30) (hw:Xp op=0) (hi:tkI op=false) (hj:rkI op=true) (ht:rkT op (fr c).C=0):ConOk Tryz.prog 13 3 (Zdr (mvA fr (inS op a b c m)) (frS (Yo fr) a (Zdk (rkN op (fr b).C (fr c).C))) 0 zs f N g n)∧FlatC (Zdr (mvA fr (inS op a b c m)) (frS (Yo fr) a (Zdk (rkN op (fr b).C (fr c).C))) 0 zs f N g n):=by
 have ha:a<17:=by omega
 have ya:=qD0 a
 have za:=qD1 a (by omega)
 have hb:b<17:=by omega
 have yb:=qD0 b
 have zb:=qD1 b (by omega)
 have hc:c<17:=by omega
 have yc:=qD0 c
 have zc:=qD1 c (by omega)
 have v1:=qV1 n
 have v2:=qV2 n
 have u1:=qU1
 have u2:=qU2
 have hk2:tkS op (fr a).C (fr b).C=false:=by
  unfold tkI at hi
  simp only[Bool.or_eq_false_iff,decide_eq_false_iff_not] at hi
  obtain⟨⟨⟨q1,q2⟩,q3⟩,q4⟩:=hi
  unfold tkS
  simp only[q1,q2,q3,q4,if_false]
 have e2:(((rkT op (fr c).C:Nat):Int) !=0)=false:=by rw[ht]; rfl
 have hr:=ZHc.v (inS op a b c m) fr (Yo fr) ZK zs f N g n (fr a) (fr b) (fr c) (rkN op (fr b).C (fr c).C) (rkT op (fr c).C) true
 simp only[inS,tN,Z9,qFL.v,(qFS fr a ha).v,(qFT fr a ha).v,(qFS fr b hb).v,(qFT fr b hb).v,(qFS fr c hc).v,(qFT fr c hc).v] at hr
 refine KI (Zm (L:=100) Zg (Zn (Zj (UQ (i:=(inS op a b c m)) hfr rfl hm.symm (Zcc (Zcc (Zh4 hw.symm) (Zn2 (i:=inS op a b c m) (hk2.symm) hi.symm)) (Zvr (i:=inS op a b c m) (hfr b) (hfr c) rfl rfl hj.symm)))) (Zf _)) (Zh _) 20) (X6 _ _) hr rfl ?_
 simp(disch:=decide) only[inS,qFL.v,(qFS fr a ha).v,(qFT fr a ha).v,(qFS fr b hb).v,(qFT fr b hb).v,(qFS fr c hc).v,(qFT fr c hc).v,ya,za,yb,zb,yc,zc,Qw k53,Qw k50,Qw k51,Qw k52,Qw k29,Qw k30,e2,qT6.v,Nat.add_zero,v1,v2,u1,u2,ZT,ZC,tN,cond_true]
theorem ZAR (fr:Nat→Cp) (op:Int) (a b c:Nat) (m:Int) (zs:List UInt8) (f:Nat→Bool) (N g n:Nat) (hfr:YR fr) (a0:a<16) (b0:b<16) (c0:c<16) (hm:XC (inS op a b c m)=true) (k53:¬ op=53) (k50:¬ op=50) (k51:¬ op=51) (k52:¬ op=52) (k29:¬ op=29) (k30:¬ op=30) (hw:Xp op=0) (hi:tkI op=false) (hj:rkI op=true) (ht:rkT op (fr c).C≠0):ConOk Tryz.prog 13 3 (Zdr (mvA fr (inS op a b c m)) (frN) (rkT op (fr c).C) zs f N g n)∧FlatC (Zdr (mvA fr (inS op a b c m)) (frN) (rkT op (fr c).C) zs f N g n):=by
 have ha:a<17:=by omega
 have ya:=qD0 a
 have za:=qD1 a (by omega)
 have hb:b<17:=by omega
 have yb:=qD0 b
 have zb:=qD1 b (by omega)
 have hc:c<17:=by omega
 have yc:=qD0 c
 have zc:=qD1 c (by omega)
 have v1:=qV1 n
 have v2:=qV2 n
 have u1:=qU1
 have u2:=qU2
 have hk2:tkS op (fr a).C (fr b).C=false:=by
  unfold tkI at hi
  simp only[Bool.or_eq_false_iff,decide_eq_false_iff_not] at hi
  obtain⟨⟨⟨q1,q2⟩,q3⟩,q4⟩:=hi
  unfold tkS
  simp only[q1,q2,q3,q4,if_false]
 have e2:(((rkT op (fr c).C:Nat):Int) !=0)=true:=bne_iff_ne.2 (by omega)
 have hr:=ZHe.v (inS op a b c m) fr (Yo fr) ZK zs f N g n (fr a) (fr b) (fr c) (rkN op (fr b).C (fr c).C) (rkT op (fr c).C) true
 simp only[inS,tN,Z9,qFL.v,(qFS fr a ha).v,(qFT fr a ha).v,(qFS fr b hb).v,(qFT fr b hb).v,(qFS fr c hc).v,(qFT fr c hc).v] at hr
 refine KI (Zm (L:=100) Zg (Zn (Zj (UQ (i:=(inS op a b c m)) hfr rfl hm.symm (Zcc (Zcc (Zh4 hw.symm) (Zn2 (i:=inS op a b c m) (hk2.symm) hi.symm)) (Zvr (i:=inS op a b c m) (hfr b) (hfr c) rfl rfl hj.symm)))) (Zf _)) (Zh _) 20) (X6 _ _) hr rfl ?_
 simp(disch:=decide) only[inS,qFL.v,(qFS fr a ha).v,(qFT fr a ha).v,(qFS fr b hb).v,(qFT fr b hb).v,(qFS fr c hc).v,(qFT fr c hc).v,ya,za,yb,zb,yc,zc,Qw k53,Qw k50,Qw k51,Qw k52,Qw k29,Qw k30,e2,qT6.v,Nat.add_zero,v1,v2,u1,u2,ZT,ZC,tN,cond_true]
theorem ZAS (fr:Nat→Cp) (op:Int) (a b c:Nat) (m:Int) (zs:List UInt8) (f:Nat→Bool) (N g n:Nat) (hfr:YR fr) (a0:a<16) (b0:b<16) (c0:c<16) (hm:XC (inS op a b c m)=true) (k53:¬ op=53) (k50:¬ op=50) (k51:¬ op=51) (k52:¬ op=52) (k29:¬ op=29) (k30:¬ op=30) (hw:Xp op=0) (hi:tkI op=false) (hj:rkI op=false):ConOk Tryz.prog 13 3 (Zdr (mvA fr (inS op a b c m)) (frS (Yo fr) a (JQ fr op b c m)) 0 zs f N g n)∧FlatC (Zdr (mvA fr (inS op a b c m)) (frS (Yo fr) a (JQ fr op b c m)) 0 zs f N g n):=by
 have ha:a<17:=by omega
 have ya:=qD0 a
 have za:=qD1 a (by omega)
 have hb:b<17:=by omega
 have yb:=qD0 b
 have zb:=qD1 b (by omega)
 have hc:c<17:=by omega
 have yc:=qD0 c
 have zc:=qD1 c (by omega)
 have v1:=qV1 n
 have v2:=qV2 n
 have u1:=qU1
 have u2:=qU2
 have hk2:tkS op (fr a).C (fr b).C=false:=by
  unfold tkI at hi
  simp only[Bool.or_eq_false_iff,decide_eq_false_iff_not] at hi
  obtain⟨⟨⟨q1,q2⟩,q3⟩,q4⟩:=hi
  unfold tkS
  simp only[q1,q2,q3,q4,if_false]
 have hr:=ZNe.v (inS op a b c m) fr (Yo fr) ZK zs f N g n (fr a) (fr b) (fr c) (rkN op (fr b).C (fr c).C) (rkT op (fr c).C) false (JQ fr op b c m)
 simp only[inS,tN,Z9,qFL.v,(qFS fr a ha).v,(qFT fr a ha).v,(qFS fr b hb).v,(qFT fr b hb).v,(qFS fr c hc).v,(qFT fr c hc).v] at hr
 refine KI (Zm (L:=100) Zg (Zn (Zj (UQ (i:=(inS op a b c m)) hfr rfl hm.symm (Zcc (Zcc (Zcc (Zh4 hw.symm) (Zn2 (i:=inS op a b c m) (hk2.symm) hi.symm)) (Zvr (i:=inS op a b c m) (hfr b) (hfr c) rfl rfl hj.symm)) (Zn3 ⟨ZC4 fr op a b c m hfr b0 c0,Zeh⟩)))) (Zf _)) (Zh _) 20) (X6 _ _) hr rfl ?_
 simp(disch:=decide) only[inS,qFL.v,(qFS fr a ha).v,(qFT fr a ha).v,(qFS fr b hb).v,(qFT fr b hb).v,(qFS fr c hc).v,(qFT fr c hc).v,ya,za,yb,zb,yc,zc,Qw k53,Qw k50,Qw k51,Qw k52,Qw k29,Qw k30,qT6.v,Nat.add_zero,v1,v2,u1,u2,ZT,ZC,tN,cond_true]
theorem ZAT (fr:Nat→Cp) (op:Int) (a b c:Nat) (m:Int) (zs:List UInt8) (f:Nat→Bool) (N g n:Nat) (hfr:YR fr) (a0:a<16) (hm:XC (inS op a b c m)=true) (k53:¬ op=53) (k50:¬ op=50) (k51:¬ op=51) (k52:¬ op=52) (k29:¬ op=29) (k30:¬ op=30) (hw:0<Xp op) (r:Cp) (zs2:List UInt8) (f2:Nat→Bool) (hmv:ConOk Tryz.prog 37 3 (Zml (mvA fr (inS op a b c m)) (.tuple ⟨[r.val,.int .i64 0]⟩) zs zs2 f f2 N g n)∧FlatC (Zml (mvA fr (inS op a b c m)) (.tuple ⟨[r.val,.int .i64 0]⟩) zs zs2 f f2 N g n)):ConOk Tryz.prog 13 3 (ZAK (mvA fr (inS op a b c m)) (frS (Yo fr) a r) zs zs2 f f2 N g n)∧FlatC (ZAK (mvA fr (inS op a b c m)) (frS (Yo fr) a r) zs zs2 f f2 N g n):=by
 have ha:a<17:=by omega
 have ya:=qD0 a
 have za:=qD1 a (by omega)
 have v1:=qV1 n
 have v2:=qV2 n
 have u1:=qU1
 have u2:=qU2
 have w1:decide (((Xp op:Nat):Int)>0)=true:=lR (by omega)
 have hr:=ZNd.v (inS op a b c m) fr (Yo fr) ZK zs f N g n (Xp op) r zs2 f2
 simp only[inS,tN,qFL.v,(qFS fr a ha).v,(qFT fr a ha).v] at hr
 refine ZDa (Zm (L:=100) Zg (Zn (Zj (UQ (i:=(inS op a b c m)) hfr rfl hm.symm (Zcc (Zh4 rfl) (Zn3 hmv)))) (Zf _)) (Zh _) 20) (X6 _ _) hr rfl ?_ (Kx _ _ N g n _ _ rfl rfl rfl rfl rfl rfl) ⟨⟨rfl,Nat.le_refl _⟩,⟨rfl,Nat.le_refl _⟩,trivial⟩
 simp only[inS,qFL.v,(qFS fr a ha).v,(qFT fr a ha).v,ya,za,Qw k53,Qw k50,Qw k51,Qw k52,Qw k29,Qw k30,w1,Nat.add_zero,v1,v2,u1,u2,ZT,ZC,tN,qT7.v,cond_true]
namespace Sy
open Go.IntKind (u8 u16 u32 u64 i64)
def inN (t:Nat):List Nat→Bool
 | []=>false
 | x::l=>Nat.beq x t||inN t l
def Zei (nt:Nat) (ts ls:List Nat) (x:Exit×Fr):Exit×Fr:=(x.1,⟨mkE nt (ts.map fun t=>(t,KL x.2.e t)),⟨x.2.s.n,x.2.s.h.filter fun y=>inN y.1 ls,x.2.s.lo,0,[],0,x.2.s.O⟩⟩)
theorem Zvv {t:Nat}:∀ {l:List Nat},inN t l=true→t∈l
 | x::l,h=>by
  unfold inN at h
  rcases Bool.or_eq_true_iff.1 h with h|h
  ·exact List.mem_cons.2 (.inl (eB h).symm)
  ·exact List.mem_cons.2 (.inr (Zvv h))
theorem ZDf (nt:Nat) (e:Env) {t:Nat}:∀ {ts:List Nat},t∈ts→KL (mkE nt (ts.map fun t=>(t,KL e t))) t=KL e t:=by
 intro ts ht
 unfold mkE
 rw[Zi0]
 cases hf:(ts.map fun t=>(t,KL e t)).find? (fun x=>x.1==t) with
 | none =>
  have:=List.find?_eq_none.1 hf (t,KL e t) (List.mem_map.2 ⟨t,ht,rfl⟩)
  simp at this
 | some x =>
  have h1:=List.mem_of_find?_eq_some hf
  have h2:=List.find?_some hf
  obtain⟨u,_,rfl⟩:=List.mem_map.1 h1
  have h2:u=t:=by simpa using h2
  subst h2
  rfl
theorem Zvw {h:Heap} {ls:List Nat} {g:Nat} {k:Blk} (hk:look (h.filter fun y=>inN y.1 ls) g=some k):look h g=some k:=by
 rw[YJ (fun l=>inN l ls)] at hk
 split at hk
 ·exact hk
 ·cases hk
theorem Vr.more {d:Nat} {p:Nat→Bool} {σ:Nat→Nat} {h1 h2:Heap} (hh:∀ g k,look h1 g=some k→look h2 g=some k):∀ {l:Heap},Vr d p σ h1 l→Vr d p σ h2 l
 | [],_=>trivial
 | x::l,⟨⟨a,b,c,e⟩,r⟩=>by
  refine⟨⟨a,b,c,?_⟩,Vr.more hh r⟩
  cases hk:look h1 (σ x.1) with
  | none=>rw[hk] at e; exact e.elim
  | some k=>rw[hk] at e; rw[hh _ _ hk]; exact e
theorem Zi1.more {d:Nat} {p:Nat→Bool} {σ:Nat→Nat} {e1 e2:Env} {ts:List Nat} (hh:∀ t,t∈ts→KL e1 t=KL e2 t):∀ {l:List (Nat×Value)},(l.all fun x=>inN x.1 ts)=true→Zi1 d p σ e1 l→Zi1 d p σ e2 l
 | [],_,_=>trivial
 | x::l,hl,⟨⟨a,b⟩,r⟩=>by
  rw[List.all_cons,Bool.and_eq_true] at hl
  exact⟨⟨a,by rw[← hh _ (Zvv hl.1)]; exact b⟩,Zi1.more hh hl.2 r⟩
theorem Sf.Leads.uncut {nt:Nat} {ts ls:List Nat} {d:Nat} {p:Nat→Bool} {σ:Nat→Nat} {f:Sf} {x:Exit×Fr} {m e:Sf} (hm:(m.e.all fun x=>inN x.1 ts)=true) (h:Sf.Leads d p σ f (Zei nt ts ls x).2 m e):Sf.Leads d p σ f x.2 m e :=
 ⟨h.σ0,h.h.more fun g k hk=>Zvw hk,h.inj,h.lo,h.l.more (ts:=ts) (fun t ht=>ZDf nt x.2.e ht) hm,h.n,h.pn,h.keep,h.ro⟩
theorem Zbg {P:Program} {lp:Zfz} {nt L:Nat} {c:Code} {S:List Code} (hlp:Wg P S lp) (hS:∀ c'∈Wa c,c'∈S) {X:Type} (I F:X→Sf) (ex:X→Exit) (μ:X→Nat) (hI:∀ x,(I x).Wf)
  (hround:∀ x,∃ (call:QM) (T:List (Nat×Bool)) (ts ls:List Nat) (e:Exit) (g:Fr) (d:Nat) (p:Nat→Bool) (σ:Nat→Nat),Zs P call∧(evC P call lp nt L c ((I x).frT nt T)).map (Zei nt ts ls)=some (e,g)∧g.s.O ∧
   ((e = .normal∧∃ y,μ y<μ x∧F y=F x∧ex y=ex x∧((I y).e.all fun z=>inN z.1 ts)=true∧Sf.Leads d p σ (I x) g (I y) (F x))∨(e ≠ .normal∧e=ex x∧((F x).e.all fun z=>inN z.1 ts)=true∧Sf.Leads d p σ (I x) g (F x) (F x)))) :
  ∀ x,Vh P nt c ((I x).fr nt) (ex x) ((F x).fr nt):=by
 refine Zgq (L:=L) hlp hS I F ex μ hI fun x => ?_
 obtain⟨call,T,ts,ls,e,g,d,p,σ,hcall,hev,hO,hc⟩:=hround x
 obtain⟨y,h1,h2⟩:=oM hev
 have e1:e=(Zei nt ts ls y).1:=by rw[h2]
 have e2:g=(Zei nt ts ls y).2:=by rw[h2]
 subst e1
 subst e2
 refine⟨call,T,y.1,y.2,d,p,σ,hcall,h1,hO,?_⟩
 rcases hc with⟨a,z,b1,b2,b3,b4,b5⟩|⟨a,b1,b4,b5⟩
 ·exact .inl ⟨a,z,b1,b2,b3,b5.uncut b4⟩
 ·exact .inr ⟨a,b1,b5.uncut b4⟩
end Sy
end Go.Proofs.YtagacmljbgkmoaaGreatDoor
namespace Go.Proofs.YtagacmljbgkmoaaGreatDoor
open Go.IntKind (u8 u16 u32 u64 i64)
open Go.RowKit
open Sy
def sl1 (k:Nat) (g n:Nat):Value:=match k with|0 => .slice none 0 0|1 => .slice (some ⟨g,0,some g⟩) 0 (big+g)|_ => .slice (some ⟨g,0,none⟩) n (big+g)
def Uu (k:Nat) (g:Nat) (cells:List Value):Sy.Heap:=match k with|0=>[]|1=>[]|_=>[(g,⟨false,some (0,0),cells,none⟩)]
def ZjS (k n:Nat):Prop:=k≤2∧(k<2→n=0)
set_option maxRecDepth 100000
def wit (a b:Cp):Bool:=ZdM a.P b.P a.lo a.hi b.lo b.hi
structure CellsOf (L:List Value) (k:Nat) (x:Cp):Prop where
 c0:Qd (Zt undef L (0+k*8))=(x.C:Nat)
 c1:Qd (Zt undef L (0+k*8+1))=(x.E:Nat)
 c2:Qd (Zt undef L (0+k*8+1+1))=(x.B:Nat)
 c3:Qd (Zt undef L (0+k*8+1+1+1))=(x.T:Nat)
 c4:Qd (Zt undef L (0+k*8+1+1+1+1))=(x.P:Nat)
 c5:Qd (Zt undef L (0+k*8+1+1+1+1+1))=(x.Y:Nat)
 c6:Qd (Zt undef L (0+k*8+1+1+1+1+1+1))=(x.R:Nat)
 c7:Z0 (Zt undef L (0+k*8+1+1+1+1+1+1+1))=x.V
 d7:Z0 (Zt undef L (0+k*8+7))=x.V
 h8:WK (0+k*8+8) L=true
 h7:WK (0+k*8+7+1) L=true
 k8:Zz [Value.int u32 (0:Int),Value.int u8 (0:Int),Value.int u16 (0:Int),Value.int u16 (0:Int),Value.int u16 (0:Int),Value.int u16 (0:Int),Value.int u32 (0:Int),Value.bool false] L (0+k*8)=true
 k1:Zz [Value.bool false] L (0+k*8+7)=true
theorem YF {h1 l:Sy.Heap} {q:Nat→Bool} {g:Nat} {cs cs':List Value} (hg:q g=true) (hf:∀ v∈cs,Qm v=true) (hl:Sy.look h1 g=some ⟨true,none,cs',none⟩) (he:cs'=cs) (hn:Vr 3 q id h1 l):Vr 3 q id h1 ((g,⟨true,none,cs,none⟩)::l):=by
 subst he
 refine⟨⟨hg,ZE hf,rfl,?_⟩,hn⟩
 simp only[id,hl]; exact⟨rfl,rfl,trivial,(ZP hf).symm⟩
theorem wfE {q:Nat→Bool} {l:List (Nat×Value)} (h:l.all (fun x=>okV q 3 x.2)=true):∀ x∈l,okV q 3 x.2=true:=fun x hx=>List.all_eq_true.1 h x hx
theorem Zi {call:QM} {fn:FuncId} (hcall:Zs Tryz.prog call) {args:List Value} {T:List (Nat×Bool)} {v v':Value} {q:Prop} (h:obs (call fn args (stT T))=some (v',q)) (hvv:v'=v) (hq:q) (ha:args.all XD=true) (hv:XD v=true):ConOk Tryz.prog fn 3 (Con.pure args v)∧FlatC (Con.pure args v):=by
 subst hvv
 exact⟨Qj (d:=1) hcall h hq ha hv,Zeh⟩
def Zbz (c:Cp) (lo hi:Nat):Con:=Con.pure [c.val] (.tuple ⟨[.int .u32 (lo:Nat),.int .u64 (hi:Nat)]⟩)
theorem ZHl (c:Cp) (u:Nat):obs (evF Tryz.prog Zc Zb 100 20 105 [c.val,ZX u] (Zu 15 0))=Wo u c.E c.B c.T c.P c.Y c.R false (ZdT (X5 (Ya True c.V))):=by kernel_rfl
def da_v:=Bx.mk (by have h:=@ZHl;simp(maxSteps:=99999999) only[Zx.v,ZF.v,ZD.v,ZU.v,ZR.v,Zw.v,Zl.v,ZB.v,Zo.v,Zy.v,YV.v,Xm.v,Z5.v,Xy.v,-eq_self] at h;exact h)
def X7 (a:Nat):=ZCZ a Zr
def Zms (a:Prop) (b c d:Bool):=Zvl a b b c c d d
def ZfU (a:Prop) (b c:Bool):=Zms a b b c
def XH:=Bx.mk (aI @X7.eq_1 (aI @Zms.eq_1 @ZfU.eq_1))
theorem ZHm (c:Cp) (u:Nat):obs (evF Tryz.prog Zc Zb 100 20 105 [c.val,ZX u] (Zu 15 15))=Wo u c.E c.B c.T c.P c.Y c.R false (ZcN (ZfU (WM (c.V=true)∧c.V=true) (X7 c.Y) (X7 c.Y)) (X7 c.Y)):=by kernel_rfl
def da_y:=Bx.mk (by have h:=@ZHm;simp(maxSteps:=99999999) only[Zx.v,ZF.v,ZD.v,ZO.v,ZR.v,Zw.v,Zl.v,Zy.v,QA.v,Xh.v,Z5.v,Yn.v,VO.v,XH.v,-eq_self] at h;exact h)
def Zn7 (a:Nat):=X7 a=true
def UR (a:Prop) (b:Nat):=a∧Zn7 b
def ZqY (a:Prop) (b c:Nat):=UR (UR a b) c
def ZgZ (a:Prop) (b c d e:Nat):=ZqY (ZqY a b c) d e
def KJ (a:Prop) (b:Nat):=ZqY a b b
def ZeW:=Bx.mk (aI @Zn7.eq_1 (aI @UR.eq_1 (aI @ZqY.eq_1 (aI @ZgZ.eq_1 @KJ.eq_1))))
theorem ZHn (c:Cp) (u:Nat) (k:Bool):obs (evF Tryz.prog (Zk 3 (Za [(67,165,Zay [Zgr ↑c.E,QK c.B,QK c.T,ZX c.C,ZX u] k,[])]) Zc) Zb 100 20 105 [c.val,ZX u] (Zu 15 32767))=X2 (Z6 u c.E c.B c.T c.P c.Y c.R k) (Znr (UR (KJ (UR (KJ (ZgZ (WM (c.V=true)∧c.V=true) c.Y c.Y c.Y c.Y) c.Y) c.Y) c.Y) c.Y) (Za0 (QR (Zgr ↑c.E)) (Zd0 c.B) (Zd0 c.T) (Yl c.C) (Yl u))) (Zn7 c.Y):=by kernel_rfl
def da_k:=Bx.mk (by have h:=@ZHn;simp(maxSteps:=99999999) only[Zx.v,ZF.v,ZD.v,ZO.v,YA.v,ZR.v,Zp.v,Zw.v,Zl.v,YE.v,WY.v,Yn.v,XH.v,ZeW.v,-eq_self] at h;exact h)
theorem ZHo (c:Cp) (u:Nat):obs (evF Tryz.prog Zc Zb 100 20 115 [c.val,ZX u] (Zu 4 0))=Zba (Zuk c.C ↑c.E c.B c.T (ZbU (ZnM c.P (u16.wrap (Zjv u Wk)))) c.Y c.R false) (Ya True c.V):=by kernel_rfl
def dn_v:=Bx.mk (by have h:=@ZHo;simp(maxSteps:=99999999) only[Zx.v,ZF.v,V7.v,ZD.v,ZR.v,Zw.v,Zl.v,Zy.v,Zb2.v,Xm.v,Xn.v,Xy.v,-eq_self] at h;exact h)
theorem ZHp (c:Cp) (u:Nat):obs (evF Tryz.prog Zc Zb 100 20 115 [c.val,ZX u] (Zu 4 15))=X2 (ZaJ (Zuk c.C ↑c.E c.B c.T (ZbU (ZnM c.P (u16.wrap (Zjv u Wk)))) c.Y c.R (X7 c.Y))) (WM (c.V=true)) (c.V=true):=by kernel_rfl
def dn_y:=Bx.mk (by have h:=@ZHp;simp(maxSteps:=99999999) only[Zx.v,ZF.v,V7.v,ZD.v,ZO.v,YA.v,ZR.v,Zw.v,Zl.v,Zb2.v,Yn.v,XH.v,-eq_self] at h;exact h)
theorem ZHq (c:Cp) (u:Nat):obs (evF Tryz.prog Zc Zb 100 20 115 [c.val,ZX u] (Zu 4 15))=X2 (ZaJ (Zuk c.C ↑c.E c.B c.T (ZbU (ZnM c.P (u16.wrap (Zjv u Wk)))) c.Y c.R (X7 c.Y))) (WM (c.V=true)) (c.V=true):=by kernel_rfl
def dn_k:=Bx.mk (by have h:=@ZHq;simp(maxSteps:=99999999) only[Zx.v,ZF.v,V7.v,ZD.v,ZO.v,YA.v,ZR.v,Zw.v,Zl.v,Zb2.v,Yn.v,XH.v,-eq_self] at h;exact h)
theorem ZHr (c:Cp):obs (evF Tryz.prog Zc Zb 100 20 112 [c.val] Zd2)=Wo c.C c.E c.B c.T c.P c.Y c.R false True:=by kernel_rfl
def dc_a:=Bx.mk (by have h:=@ZHr;simp(maxSteps:=99999999) only[Zx.v,ZF.v,X0.v,ZR.v,Zw.v,Zl.v,Z5.v,-eq_self] at h;exact h)
def Zej (a:Prop):=Wj Xe a
def Zkm:=Bx.mk @Zej.eq_1
theorem ZHs (c:Cp) (q:Nat) (lo:Nat) (hi:Nat):obs (evF Tryz.prog (Zk 3 (Za [(65,111,Zbz c lo hi,[])]) Zc) Zb 100 20 170 [c.val,QK q] (Zu 29 0))=Zej (Y5 (X5 (X5 (X5 (Ya (JJ (ZM (Z6 c.C c.E c.B c.T c.P c.Y c.R c.V) c.C c.E c.B c.T c.P c.Y c.R c.V)) c.V))))):=by kernel_rfl
def dv_v:=Bx.mk (by have h:=@ZHs;simp(maxSteps:=99999999) only[Zx.v,ZF.v,ZD.v,ZU.v,ZR.v,Zw.v,ZH.v,Zl.v,ZB.v,Zo.v,Zy.v,Yi.v,YV.v,Xm.v,Xy.v,Xd.v,Zkm.v,-eq_self] at h;exact h)
theorem ZHt (c:Cp) (q:Nat) (lo:Nat) (hi:Nat):obs (evF Tryz.prog (Zk 3 (Za [(65,111,Zbz c lo hi,[])]) Zc) Zb 100 20 170 [c.val,QK q] (Zu 29 15))=Zej (X5 (X5 (ZdT (KA ((((JJ (ZM (Z6 c.C c.E c.B c.T c.P c.Y c.R c.V) c.C c.E c.B c.T c.P c.Y c.R c.V)∧c.V=true)∧c.V=true)∧c.V=true)∧c.V=true) (X7 c.Y))))):=by kernel_rfl
def dv_y:=Bx.mk (by have h:=@ZHt;simp(maxSteps:=99999999) only[Zx.v,ZF.v,ZD.v,ZU.v,ZR.v,Zw.v,ZH.v,Zl.v,ZB.v,Zo.v,Zy.v,Yi.v,Yj.v,YV.v,Xh.v,Yn.v,Xd.v,XH.v,Zkm.v,-eq_self] at h;exact h)
def JL (a b:Nat):=ZgP a b Zr
def Zvx:=Bx.mk @JL.eq_1
theorem ZHu (c:Cp) (q:Nat) (lo:Nat) (hi:Nat):obs (evF Tryz.prog (Zk 3 (Za [(65,111,Zbz c lo hi,[])]) Zc) Zb 100 20 170 [c.val,QK q] (Zu 29 1023))=Zej (ZdX (X5 (Ya (KJ (ZgZ ((((JJ (ZM (Z6 c.C c.E c.B c.T c.P c.Y c.R c.V) c.C c.E c.B c.T c.P c.Y c.R c.V)∧c.V=true)∧c.V=true)∧c.V=true)∧c.V=true) c.Y c.Y c.Y c.Y) c.Y) (JL c.P q)))):=by kernel_rfl
def dv_p:=Bx.mk (by have h:=@ZHu;simp(maxSteps:=99999999) only[Zx.v,ZF.v,V7.v,ZD.v,ZU.v,ZR.v,Zw.v,ZH.v,Zl.v,ZB.v,Zo.v,Zy.v,Yi.v,YV.v,Zb2.v,Xm.v,Xy.v,Yn.v,Xd.v,XH.v,ZeW.v,Zkm.v,Zvx.v,-eq_self] at h;exact h)
def Zbh (a:Nat) (b:Int):=Zfg (QW a) b
def Zx3:=Bx.mk @Zbh.eq_1
theorem ZHv (c:Cp) (q:Nat) (lo:Nat) (hi:Nat):obs (evF Tryz.prog (Zk 3 (Za [(65,111,Zbz c lo hi,[])]) Zc) Zb 100 20 170 [c.val,QK q] (Zu 29 16383))=Zej (ZdT (X5 (Ya ((((ZgZ (KJ ((((JJ (ZM (Z6 c.C c.E c.B c.T c.P c.Y c.R c.V) c.C c.E c.B c.T c.P c.Y c.R c.V)∧c.V=true)∧c.V=true)∧c.V=true)∧c.V=true) c.Y) c.Y c.Y c.Y c.Y∧JL c.P q=true)∧JL c.P q=true)∧JL c.P q=true)∧JL c.P q=true) (Zbh c.C 1)))):=by kernel_rfl
def dv_1:=Bx.mk (by have h:=@ZHv;simp(maxSteps:=99999999) only[Zx.v,ZF.v,V7.v,ZD.v,ZU.v,ZR.v,Zw.v,ZH.v,Zl.v,ZB.v,Zo.v,Zy.v,Yi.v,YV.v,Zb2.v,Xm.v,Xy.v,Z7.v,Yn.v,Xd.v,XH.v,ZeW.v,Zkm.v,Zvx.v,Zx3.v,-eq_self] at h;exact h)
def Zcd (a:Nat):=Zhx (QW a) 4095
def ZDg:=Bx.mk @Zcd.eq_1
theorem ZHw (c:Cp) (q:Nat) (lo:Nat) (hi:Nat):obs (evF Tryz.prog (Zk 3 (Za [(65,111,Zbz c lo hi,[])]) Zc) Zb 100 20 170 [c.val,QK q] (Zu 29 262143))=Zej (Za4 (QF (Ya ((((((((UR (KJ (UR (KJ ((((JJ (ZM (Z6 c.C c.E c.B c.T c.P c.Y c.R c.V) c.C c.E c.B c.T c.P c.Y c.R c.V)∧c.V=true)∧c.V=true)∧c.V=true)∧c.V=true) c.Y) c.Y) c.Y) c.Y∧JL c.P q=true)∧JL c.P q=true)∧JL c.P q=true)∧JL c.P q=true)∧Zbh c.C 1=true)∧Zbh c.C 1=true)∧Zbh c.C 1=true)∧Zbh c.C 1=true) (Zcd c.C)) (Zcd c.C))):=by kernel_rfl
def dv_2:=Bx.mk (by have h:=@ZHw;simp(maxSteps:=99999999) only[Zx.v,ZF.v,V7.v,ZD.v,ZU.v,ZR.v,Zw.v,ZH.v,Zl.v,ZB.v,Zo.v,Zy.v,Yi.v,Zb2.v,Xm.v,Xy.v,Z7.v,Yn.v,Xd.v,XH.v,ZeW.v,Zkm.v,Zvx.v,Zx3.v,ZDg.v,-eq_self] at h;exact h)
def Kt (a b:Nat):=Zqy a (QW b)
def Zsh:=Bx.mk @Kt.eq_1
theorem ZHx (c:Cp) (q:Nat) (lo:Nat) (hi:Nat):obs (evF Tryz.prog (Zk 3 (Za [(65,111,Zbz c lo hi,[])]) Zc) Zb 100 20 170 [c.val,QK q] (Zu 29 8388607))=Zej (KA (((((((((((((KJ (ZgZ ((((JJ (ZM (Z6 c.C c.E c.B c.T c.P c.Y c.R c.V) c.C c.E c.B c.T c.P c.Y c.R c.V)∧c.V=true)∧c.V=true)∧c.V=true)∧c.V=true) c.Y c.Y c.Y c.Y) c.Y∧JL c.P q=true)∧JL c.P q=true)∧JL c.P q=true)∧JL c.P q=true)∧Zbh c.C 1=true)∧Zbh c.C 1=true)∧Zbh c.C 1=true)∧Zbh c.C 1=true)∧Zcd c.C=true)∧Zcd c.C=true)∧Zcd c.C=true)∧Zcd c.C=true)∧Zcd c.C=true) (Kt c.C lo)):=by kernel_rfl
def dv_3:=Bx.mk (by have h:=@ZHx;simp(maxSteps:=99999999) only[Zx.v,ZF.v,V7.v,ZD.v,ZU.v,ZR.v,Zw.v,ZH.v,Zl.v,Zy.v,Yi.v,Yj.v,Zb2.v,Xh.v,Z7.v,Yn.v,Xd.v,XH.v,ZeW.v,Zkm.v,Zvx.v,Zx3.v,ZDg.v,Zsh.v,-eq_self] at h;exact h)
theorem ZHy (c:Cp) (q:Nat) (lo:Nat) (hi:Nat):obs (evF Tryz.prog (Zk 3 (Za [(65,111,Zbz c lo hi,[])]) Zc) Zb 100 20 170 [c.val,QK q] (Zu 29 536870911))=Zji (YO (Qv c.C) hi) ((((((((((((((((((KJ (ZgZ ((((JJ (ZM (Z6 c.C c.E c.B c.T c.P c.Y c.R c.V) c.C c.E c.B c.T c.P c.Y c.R c.V)∧c.V=true)∧c.V=true)∧c.V=true)∧c.V=true) c.Y c.Y c.Y c.Y) c.Y∧JL c.P q=true)∧JL c.P q=true)∧JL c.P q=true)∧JL c.P q=true)∧Zbh c.C 1=true)∧Zbh c.C 1=true)∧Zbh c.C 1=true)∧Zbh c.C 1=true)∧Zcd c.C=true)∧Zcd c.C=true)∧Zcd c.C=true)∧Zcd c.C=true)∧Zcd c.C=true)∧Kt c.C lo=true)∧Kt c.C lo=true)∧Kt c.C lo=true)∧Kt c.C lo=true)∧Kt c.C lo=true) (Kt c.C lo=true):=by kernel_rfl
def dv_4:=Bx.mk (by have h:=@ZHy;simp(maxSteps:=99999999) only[Zx.v,ZF.v,V7.v,ZD.v,YA.v,ZR.v,Zw.v,ZH.v,Zl.v,Zy.v,Yi.v,Zb2.v,Xh.v,Z7.v,Yn.v,Xd.v,XH.v,ZeW.v,Zvx.v,Zx3.v,ZDg.v,Zsh.v,-eq_self] at h;exact h)
theorem ZHz (c:Cp) (b:Cp):obs (evF Tryz.prog Zc Zb 100 20 116 [c.val,b.val] (Zu 9 496))=Kc (Z6 c.C c.E c.B c.T c.P c.Y c.R false) (WA (Ya True c.V)):=by kernel_rfl
def ds_v:=Bx.mk (by have h:=@ZHz;simp(maxSteps:=99999999) only[Zx.v,ZF.v,ZO.v,YA.v,ZR.v,Zw.v,Zl.v,Zy.v,Z2.v,Xm.v,Xy.v,-eq_self] at h;exact h)
theorem ZHA (c:Cp) (b:Cp):obs (evF Tryz.prog Zc Zb 100 20 116 [c.val,b.val] (Zu 9 511))=Kc (Z6 c.C c.E c.B c.T c.P c.Y c.R false) (((((WM (c.V=true)∧c.V=true)∧(!X7 c.Y)=true)∧(!X7 c.Y)=true)∧(!X7 c.Y)=true)∧(!X7 c.Y)=true):=by kernel_rfl
def ds_y:=Bx.mk (by have h:=@ZHA;simp(maxSteps:=99999999) only[Zx.v,ZF.v,ZD.v,ZO.v,YA.v,ZR.v,Zw.v,Zl.v,Z2.v,Yn.v,XH.v,-eq_self] at h;exact h)
theorem ZHB (c:Cp) (b:Cp) (k:Bool):obs (evF Tryz.prog (Zk 3 (Za [(68,170,Zay [b.val,ZmH 32] k,[])]) Zc) Zb 100 20 116 [c.val,b.val] (Zu 9 271))=X2 (Z6 c.C c.E c.B c.T c.P c.Y c.R false) (XR (UB (XR (WM (c.V=true)∧c.V=true) (!X7 c.Y)) (ZM (Z6 b.C b.E b.B b.T b.P b.Y b.R b.V) b.C b.E b.B b.T b.P b.Y b.R b.V) (ZmH 32)) (!X7 c.Y)) ((!k)=true):=by kernel_rfl
def ds_n:=Bx.mk (by have h:=@ZHB;simp(maxSteps:=99999999) only[Zx.v,ZF.v,ZD.v,ZO.v,YA.v,ZR.v,Zp.v,Zw.v,Zl.v,Z2.v,WY.v,Yn.v,Xr.v,XH.v,-eq_self] at h;exact h)
def Zvy (a:Int):=ZbU (u16.wrap a)
def Zvz:=Bx.mk @Zvy.eq_1
theorem ZHC (c:Cp) (b:Cp) (k:Bool):obs (evF Tryz.prog (Zk 3 (Za [(68,170,Zay [b.val,ZmH 32] k,[])]) Zc) Zb 100 20 116 [c.val,b.val] (Zu 9 15))=Zba (Zxc c.C ↑c.E c.B c.T (QK c.P) (Zvy (QW b.C)) c.R c.V) (JE (UB (XR (WM (c.V=true)∧c.V=true) (!X7 c.Y)) (ZM (Z6 b.C b.E b.B b.T b.P b.Y b.R b.V) b.C b.E b.B b.T b.P b.Y b.R b.V) (ZmH 32)) (!X7 c.Y) (!k)):=by kernel_rfl
def ds_k:=Bx.mk (by have h:=@ZHC;simp(maxSteps:=99999999) only[Zx.v,ZF.v,ZD.v,ZO.v,ZR.v,Zp.v,Zw.v,Zl.v,Z2.v,Xn.v,WY.v,Yn.v,Xr.v,XH.v,Zvz.v,-eq_self] at h;exact h)
theorem ZHD (c:Cp) (b:Cp):obs (evF Tryz.prog Zc Zb 100 20 117 [c.val,b.val] (Zu 16 65535))=Kc (Z6 c.C c.E c.B c.T c.P c.Y c.R false) (ZcK (Zbv (WM ((!c.V)=true)∧(!c.V)=true))):=by kernel_rfl
def dp_v:=Bx.mk (by have h:=@ZHD;simp(maxSteps:=99999999) only[Zx.v,ZF.v,ZD.v,ZO.v,YA.v,ZR.v,Zw.v,Zl.v,Z2.v,Zmo.v,-eq_self] at h;exact h)
theorem ZHE (c:Cp) (b:Cp):obs (evF Tryz.prog Zc Zb 100 20 117 [c.val,b.val] (Zu 16 65520))=Kc (Z6 c.C c.E c.B c.T c.P c.Y c.R false) (ZdV (ZL (ZgZ (Ya True (!c.V)) c.Y c.Y c.Y c.Y))):=by kernel_rfl
def dp_y:=Bx.mk (by have h:=@ZHE;simp(maxSteps:=99999999) only[Zx.v,ZF.v,ZD.v,ZO.v,YA.v,ZR.v,Zw.v,Zl.v,Zo.v,Zy.v,Z2.v,Xm.v,Xy.v,Yn.v,XH.v,ZeW.v,-eq_self] at h;exact h)
def ZjT:=ZmH 64
def ZDh:=Bx.mk @ZjT.eq_1
theorem ZHF (c:Cp) (b:Cp) (k:Bool):obs (evF Tryz.prog (Zk 3 (Za [(67,170,Zay [b.val,ZjT] k,[])]) Zc) Zb 100 20 117 [c.val,b.val] (Zu 16 65280))=Kc (Z6 c.C c.E c.B c.T c.P c.Y c.R false) (((((((XR (UB (ZqC True (!c.V) (!c.V) (!c.V) (X7 c.Y) (X7 c.Y)) (ZM (Z6 b.C b.E b.B b.T b.P b.Y b.R b.V) b.C b.E b.B b.T b.P b.Y b.R b.V) ZjT) (X7 c.Y)∧(!k)=true)∧(!k)=true)∧(!k)=true)∧(!k)=true)∧(!k)=true)∧(!k)=true)∧(!k)=true):=by kernel_rfl
def dp_n:=Bx.mk (by have h:=@ZHF;simp(maxSteps:=99999999) only[Zx.v,ZF.v,ZD.v,ZO.v,YA.v,ZR.v,Zp.v,Zw.v,Zl.v,Zy.v,Yj.v,Z2.v,WY.v,Yn.v,Xr.v,XH.v,ZDh.v,-eq_self] at h;exact h)
def Zek (a:Nat):=u32.wrap (QW a)
def Zn8:=Bx.mk @Zek.eq_1
theorem ZHG (c:Cp) (b:Cp) (k:Bool):obs (evF Tryz.prog (Zk 3 (Za [(67,170,Zay [b.val,ZjT] k,[])]) Zc) Zb 100 20 117 [c.val,b.val] (Zu 16 32768))=X2 (Z6 c.C c.E c.B c.T c.P c.Y c.R false) (QF (Zms (UB (ZqC True (!c.V) (!c.V) (!c.V) (X7 c.Y) (X7 c.Y)) (ZM (Z6 b.C b.E b.B b.T b.P b.Y b.R b.V) b.C b.E b.B b.T b.P b.Y b.R b.V) ZjT) (X7 c.Y) (!k) (!k)) (!k)) ((Zek c.Y !=QW b.C)=true):=by kernel_rfl
def dp_d:=Bx.mk (by have h:=@ZHG;simp(maxSteps:=99999999) only[Zx.v,ZF.v,ZD.v,YA.v,ZR.v,Zp.v,Zw.v,Zl.v,Zy.v,Yj.v,QA.v,Z2.v,WY.v,Yn.v,VO.v,Xr.v,XH.v,ZDh.v,Zn8.v,-eq_self] at h;exact h)
def Zel (a:Bool):=Zjb a a
def Zpn:=Bx.mk @Zel.eq_1
theorem ZHH (c:Cp) (b:Cp) (k:Bool):obs (evF Tryz.prog (Zk 3 (Za [(67,170,Zay [b.val,ZjT] k,[])]) Zc) Zb 100 20 117 [c.val,b.val] (Zu 16 0))=Zba (Zxc c.C ↑c.E c.B c.T (QK c.P) U4 c.R c.V) (J5 (Zms (UB (Zki (Zel (!c.V)) (!c.V) (!c.V) (X7 c.Y) (X7 c.Y)) (ZM (Z6 b.C b.E b.B b.T b.P b.Y b.R b.V) b.C b.E b.B b.T b.P b.Y b.R b.V) ZjT) (X7 c.Y) (!k) (!k)) (!k) (Zek c.Y !=QW b.C)):=by kernel_rfl
def dp_k:=Bx.mk (by have h:=@ZHH;simp(maxSteps:=99999999) only[Zx.v,ZF.v,ZD.v,ZR.v,Zp.v,Zw.v,Zl.v,Zy.v,QA.v,Z2.v,Xn.v,ZA.v,WY.v,Yn.v,VO.v,Xr.v,XH.v,ZDh.v,Zn8.v,Zpn.v,-eq_self] at h;exact h)
theorem ZHI (c:Cp) (b:Cp):obs (evF Tryz.prog Zc Zb 100 20 118 [c.val,b.val] (Zu 15 0))=Wo c.C c.E c.B c.T c.P c.Y c.R false (ZdT (X5 (Ya True b.V))):=by kernel_rfl
def db_v:=Bx.mk (by have h:=@ZHI;simp(maxSteps:=99999999) only[Zx.v,ZF.v,ZD.v,ZU.v,ZR.v,Zw.v,Zl.v,ZB.v,Zo.v,Zy.v,YV.v,Xm.v,Z5.v,Xy.v,-eq_self] at h;exact h)
theorem ZHJ (c:Cp) (b:Cp):obs (evF Tryz.prog Zc Zb 100 20 118 [c.val,b.val] (Zu 15 15))=Wo c.C c.E c.B c.T c.P c.Y c.R false (X5 (ZcN (WM (b.V=true)∧b.V=true) (X7 b.Y))):=by kernel_rfl
def db_y:=Bx.mk (by have h:=@ZHJ;simp(maxSteps:=99999999) only[Zx.v,ZF.v,ZD.v,ZO.v,ZU.v,ZR.v,Zw.v,Zl.v,ZB.v,Zo.v,YV.v,Xh.v,Z5.v,Yn.v,XH.v,-eq_self] at h;exact h)
theorem ZHK (c:Cp) (b:Cp) (s:Bool) (k:Bool):obs (evF Tryz.prog (Zk 3 (Za [(68,96,XV c.val s,[]),(68,171,Zay [c.val,b.val] k,[])]) Zc) Zb 100 20 118 [c.val,b.val] (Zu 15 127))=Wo c.C c.E c.B c.T c.P c.Y c.R false (Ka (Ya (UR (XQ (KJ (WM (b.V=true)∧b.V=true) b.Y) (ZM (Z6 c.C c.E c.B c.T c.P c.Y c.R c.V) c.C c.E c.B c.T c.P c.Y c.R c.V)) b.Y) s)):=by kernel_rfl
def db_s:=Bx.mk (by have h:=@ZHK;simp(maxSteps:=99999999) only[Zx.v,ZF.v,ZD.v,ZO.v,ZU.v,ZR.v,Zw.v,Zl.v,ZB.v,Zo.v,Zy.v,Xm.v,Z5.v,Xy.v,WY.v,Yn.v,XH.v,ZeW.v,-eq_self] at h;exact h)
theorem ZHL (c:Cp) (b:Cp) (s:Bool) (k:Bool):obs (evF Tryz.prog (Zk 3 (Za [(68,96,XV c.val s,[]),(68,171,Zay [c.val,b.val] k,[])]) Zc) Zb 100 20 118 [c.val,b.val] (Zu 15 2047))=Wo c.C c.E c.B c.T c.P c.Y c.R false (Ya ((((UR (XQ (KJ (WM (b.V=true)∧b.V=true) b.Y) (ZM (Z6 c.C c.E c.B c.T c.P c.Y c.R c.V) c.C c.E c.B c.T c.P c.Y c.R c.V)) b.Y∧s=true)∧s=true)∧s=true)∧s=true) (X7 c.Y)):=by kernel_rfl
def db_t:=Bx.mk (by have h:=@ZHL;simp(maxSteps:=99999999) only[Zx.v,ZF.v,ZD.v,ZO.v,ZR.v,Zw.v,Zl.v,Zy.v,Xm.v,Z5.v,Xy.v,WY.v,Yn.v,XH.v,ZeW.v,-eq_self] at h;exact h)
theorem ZHM (c:Cp) (b:Cp) (s:Bool) (k:Bool):obs (evF Tryz.prog (Zk 3 (Za [(68,96,XV c.val s,[]),(68,171,Zay [c.val,b.val] k,[])]) Zc) Zb 100 20 118 [c.val,b.val] (Zu 15 32767))=X2 (Z6 c.C c.E c.B c.T c.P c.Y c.R k) (Xl (UR (KJ ((((UR (XQ (KJ (WM (b.V=true)∧b.V=true) b.Y) (ZM (Z6 c.C c.E c.B c.T c.P c.Y c.R c.V) c.C c.E c.B c.T c.P c.Y c.R c.V)) b.Y∧s=true)∧s=true)∧s=true)∧s=true) c.Y) c.Y) (ZM (Z6 c.C c.E c.B c.T c.P c.Y c.R c.V) c.C c.E c.B c.T c.P c.Y c.R c.V) (ZM (Z6 b.C b.E b.B b.T b.P b.Y b.R b.V) b.C b.E b.B b.T b.P b.Y b.R b.V)) (Zn7 c.Y):=by kernel_rfl
def db_k:=Bx.mk (by have h:=@ZHM;simp(maxSteps:=99999999) only[Zx.v,ZF.v,ZD.v,ZO.v,YA.v,ZR.v,Zp.v,Zw.v,Zl.v,Z2.v,WY.v,Yn.v,XH.v,ZeW.v,-eq_self] at h;exact h)
def V5 (a:Nat):=ZhA ↑a
def ZqZ (a b:Value) (c:List Value):=Zav a b (ZfK c)
def Zh5 (a:Value) (b:Nat) (c:Bool):=Vm a b (Value.bool c)
def ZaB (a b:Nat) (c:List Value):=ZqZ (ZX a) (V5 b) c
def Zh6 (a b:Value) (c:Bool):=[a,b,Value.bool c]
def Zmt:=Bx.mk (aI @V5.eq_1 (aI @ZqZ.eq_1 (aI @Zh5.eq_1 (aI @ZaB.eq_1 @Zh6.eq_1))))
theorem ZHN (c:Cp) (n:Nat) (tp:Nat) (e:Nat) (b:Nat) (t:Nat) (d:Nat) (u:Nat) (lo:Nat) (hi:Nat) (x:Bool) (ex:Bool) (is:Bool):obs (evF Tryz.prog (Zk 3 (Za [(66,183,ZaB c.C tp [Zgr ↑e,QK b,QK t,Value.bool x,Value.bool is],[]),(66,184,ZaB c.C tp (Zh6 (ZX d) (V5 u) is),[]),(66,111,Zbz c lo hi,[])]) Zc) Zb 100 20 169 (Zh5 c.val n ex) (Vk [KR]))=X2 (Z6 c.C c.E c.B c.T c.P c.Y c.R false) (Ui (Yl c.C) (Jc (u64.wrap (Qv c.C+Qv n))=V5 tp)) ((!is)=true):=by kernel_rfl
def dt_n:=Bx.mk (by have h:=@ZHN;simp(maxSteps:=99999999) only[Zx.v,ZF.v,V7.v,ZD.v,YA.v,X0.v,ZR.v,Zp.v,Zw.v,ZH.v,Zl.v,Yi.v,YE.v,Xh.v,Z5.v,Zmt.v,-eq_self] at h;exact h)
theorem ZHO (c:Cp) (n:Nat) (tp:Nat) (e:Nat) (b:Nat) (t:Nat) (d:Nat) (u:Nat) (lo:Nat) (hi:Nat) (x:Bool) (ex:Bool) (is:Bool):obs (evF Tryz.prog (Zk 3 (Za [(66,183,ZaB c.C tp [Zgr ↑e,QK b,QK t,Value.bool x,Value.bool is],[]),(66,184,ZaB c.C tp (Zh6 (ZX d) (V5 u) is),[]),(66,111,Zbz c lo hi,[])]) Zc) Zb 100 20 169 (Zh5 c.val n ex) (Zu 17 0))=Wo c.C e b t c.P c.Y c.R false (Ka (X5 (Ya (XQ (Xl (QF (Ui (Yl c.C) (Jc (u64.wrap (Qv c.C+Qv n))=V5 tp)) (!is)) (Yl c.C) (Jc (u64.wrap (Qv c.C+Qv n))=V5 tp)) (ZM (Z6 c.C c.E c.B c.T c.P c.Y c.R c.V) c.C c.E c.B c.T c.P c.Y c.R c.V)) c.V))):=by kernel_rfl
def dt_v:=Bx.mk (by have h:=@ZHO;simp(maxSteps:=99999999) only[Zx.v,ZF.v,V7.v,ZD.v,ZU.v,ZR.v,Zp.v,Zw.v,ZH.v,Zl.v,ZB.v,Zo.v,Zy.v,Yi.v,YV.v,YE.v,Z2.v,Xh.v,Xm.v,Z5.v,Xy.v,Zmt.v,-eq_self] at h;exact h)
theorem ZHP (c:Cp) (n:Nat) (tp:Nat) (e:Nat) (b:Nat) (t:Nat) (d:Nat) (u:Nat) (lo:Nat) (hi:Nat) (x:Bool) (ex:Bool) (is:Bool):obs (evF Tryz.prog (Zk 3 (Za [(66,183,ZaB c.C tp [Zgr ↑e,QK b,QK t,Value.bool x,Value.bool is],[]),(66,184,ZaB c.C tp (Zh6 (ZX d) (V5 u) is),[]),(66,111,Zbz c lo hi,[])]) Zc) Zb 100 20 169 (Zh5 c.val n ex) (Zu 17 30))=Wo c.C e b t c.P c.Y c.R false (X5 (Ya ((((XQ (Xl (QF (Ui (Yl c.C) (Jc (u64.wrap (Qv c.C+Qv n))=V5 tp)) (!is)) (Yl c.C) (Jc (u64.wrap (Qv c.C+Qv n))=V5 tp)) (ZM (Z6 c.C c.E c.B c.T c.P c.Y c.R c.V) c.C c.E c.B c.T c.P c.Y c.R c.V)∧c.V=true)∧c.V=true)∧c.V=true)∧c.V=true) (X7 c.Y))):=by kernel_rfl
def dt_y:=Bx.mk (by have h:=@ZHP;simp(maxSteps:=99999999) only[Zx.v,ZF.v,V7.v,ZD.v,ZU.v,ZR.v,Zp.v,Zw.v,ZH.v,Zl.v,ZB.v,Zo.v,Zy.v,Yi.v,YV.v,YE.v,Z2.v,Xh.v,Xm.v,Z5.v,Xy.v,Yn.v,XH.v,Zmt.v,-eq_self] at h;exact h)
theorem ZHQ (c:Cp) (n:Nat) (tp:Nat) (e:Nat) (b:Nat) (t:Nat) (d:Nat) (u:Nat) (lo:Nat) (hi:Nat) (x:Bool) (ex:Bool) (is:Bool):obs (evF Tryz.prog (Zk 3 (Za [(66,183,ZaB c.C tp [Zgr ↑e,QK b,QK t,Value.bool x,Value.bool is],[]),(66,184,ZaB c.C tp (Zh6 (ZX d) (V5 u) is),[]),(66,111,Zbz c lo hi,[])]) Zc) Zb 100 20 169 (Zh5 c.val n ex) (Zu 17 510))=Wo c.C e b t c.P c.Y c.R false (Ka (Ya (UR (KJ (UR ((((XQ (Xl (QF (Ui (Yl c.C) (Jc (u64.wrap (Qv c.C+Qv n))=V5 tp)) (!is)) (Yl c.C) (Jc (u64.wrap (Qv c.C+Qv n))=V5 tp)) (ZM (Z6 c.C c.E c.B c.T c.P c.Y c.R c.V) c.C c.E c.B c.T c.P c.Y c.R c.V)∧c.V=true)∧c.V=true)∧c.V=true)∧c.V=true) c.Y) c.Y) c.Y) (Kt d lo))):=by kernel_rfl
def dt_l:=Bx.mk (by have h:=@ZHQ;simp(maxSteps:=99999999) only[Zx.v,ZF.v,V7.v,ZD.v,ZU.v,ZR.v,Zp.v,Zw.v,ZH.v,Zl.v,ZB.v,Zo.v,Zy.v,Yi.v,YE.v,Z2.v,Xh.v,Xm.v,Z5.v,Xy.v,Yn.v,XH.v,ZeW.v,Zsh.v,Zmt.v,-eq_self] at h;exact h)
theorem ZHR (c:Cp) (n:Nat) (tp:Nat) (e:Nat) (b:Nat) (t:Nat) (d:Nat) (u:Nat) (lo:Nat) (hi:Nat) (x:Bool) (ex:Bool) (is:Bool):obs (evF Tryz.prog (Zk 3 (Za [(66,183,ZaB c.C tp [Zgr ↑e,QK b,QK t,Value.bool x,Value.bool is],[]),(66,184,ZaB c.C tp (Zh6 (ZX d) (V5 u) is),[]),(66,111,Zbz c lo hi,[])]) Zc) Zb 100 20 169 (Zh5 c.val n ex) (Zu 17 8190))=Wo c.C e b t c.P c.Y c.R false (Ya ((((ZgZ ((((XQ (Xl (QF (Ui (Yl c.C) (Jc (u64.wrap (Qv c.C+Qv n))=V5 tp)) (!is)) (Yl c.C) (Jc (u64.wrap (Qv c.C+Qv n))=V5 tp)) (ZM (Z6 c.C c.E c.B c.T c.P c.Y c.R c.V) c.C c.E c.B c.T c.P c.Y c.R c.V)∧c.V=true)∧c.V=true)∧c.V=true)∧c.V=true) c.Y c.Y c.Y c.Y∧Kt d lo=true)∧Kt d lo=true)∧Kt d lo=true)∧Kt d lo=true) (ZgN u hi)):=by kernel_rfl
def dt_h:=Bx.mk (by have h:=@ZHR;simp(maxSteps:=99999999) only[Zx.v,ZF.v,V7.v,ZD.v,ZR.v,Zp.v,Zw.v,ZH.v,Zl.v,Zo.v,Zy.v,Yi.v,YE.v,Z2.v,Xh.v,Xm.v,Z5.v,Xy.v,Yn.v,XH.v,ZeW.v,Zsh.v,Zmt.v,-eq_self] at h;exact h)
theorem ZHS (c:Cp) (n:Nat) (tp:Nat) (e:Nat) (b:Nat) (t:Nat) (d:Nat) (u:Nat) (lo:Nat) (hi:Nat) (x:Bool) (ex:Bool) (is:Bool):obs (evF Tryz.prog (Zk 3 (Za [(66,183,ZaB c.C tp [Zgr ↑e,QK b,QK t,Value.bool x,Value.bool is],[]),(66,184,ZaB c.C tp (Zh6 (ZX d) (V5 u) is),[]),(66,111,Zbz c lo hi,[])]) Zc) Zb 100 20 169 (Zh5 c.val n ex) (Zu 20 1048574))=X2 (Z6 c.C e b t c.P c.Y c.R true) (Ue ((Jh ((((UR (KJ (UR ((((XQ (Xl (QF (Ui (Yl c.C) (Jc (u64.wrap (Qv c.C+Qv n))=V5 tp)) (!is)) (Yl c.C) (Jc (u64.wrap (Qv c.C+Qv n))=V5 tp)) (ZM (Z6 c.C c.E c.B c.T c.P c.Y c.R c.V) c.C c.E c.B c.T c.P c.Y c.R c.V)∧c.V=true)∧c.V=true)∧c.V=true)∧c.V=true) c.Y) c.Y) c.Y∧Kt d lo=true)∧Kt d lo=true)∧Kt d lo=true)∧Kt d lo=true) (QW u) hi hi∧x=true)∧x=true) (QW u) hi∧x=true) (Zqq (QW u) hi):=by kernel_rfl
def dt_x:=Bx.mk (by have h:=@ZHS;simp(maxSteps:=99999999) only[Zx.v,ZF.v,V7.v,ZD.v,YA.v,ZR.v,Zp.v,Zw.v,ZH.v,Zl.v,Zy.v,Yi.v,YE.v,Z2.v,Xh.v,Z5.v,Yn.v,XH.v,ZeW.v,Zsh.v,Zmt.v,-eq_self] at h;exact h)
theorem ZHT (c:Cp) (n:Nat) (tp:Nat) (e:Nat) (b:Nat) (t:Nat) (d:Nat) (u:Nat) (lo:Nat) (hi:Nat) (x:Bool) (ex:Bool) (is:Bool):obs (evF Tryz.prog (Zk 3 (Za [(66,183,ZaB c.C tp [Zgr ↑e,QK b,QK t,Value.bool x,Value.bool is],[]),(66,184,ZaB c.C tp (Zh6 (ZX d) (V5 u) is),[]),(66,111,Zbz c lo hi,[])]) Zc) Zb 100 20 169 (Zh5 c.val n ex) (Zu 20 688126))=X2 (Z6 c.C e b t c.P c.Y c.R (!ex)) (QF (Ue (XR (Jh ((((ZgZ ((((XQ (Xl (QF (Ui (Yl c.C) (Jc (u64.wrap (Qv c.C+Qv n))=V5 tp)) (!is)) (Yl c.C) (Jc (u64.wrap (Qv c.C+Qv n))=V5 tp)) (ZM (Z6 c.C c.E c.B c.T c.P c.Y c.R c.V) c.C c.E c.B c.T c.P c.Y c.R c.V)∧c.V=true)∧c.V=true)∧c.V=true)∧c.V=true) c.Y c.Y c.Y c.Y∧Kt d lo=true)∧Kt d lo=true)∧Kt d lo=true)∧Kt d lo=true) (QW u) hi hi) x) (QW u) hi) x) (Zqq (QW u) hi):=by kernel_rfl
def dt_f:=Bx.mk (by have h:=@ZHT;simp(maxSteps:=99999999) only[Zx.v,ZF.v,V7.v,ZD.v,YA.v,ZR.v,Zp.v,Zw.v,ZH.v,Zl.v,Zy.v,Yi.v,YE.v,Z2.v,Xh.v,Z5.v,Yn.v,XH.v,ZeW.v,Zsh.v,Zmt.v,-eq_self] at h;exact h)
theorem Zx4 (c:Cp) (r:Cp) (n:Nat):obs (evF Tryz.prog (Zk 3 (Za [(66,169,Con.pure (Vm c.val n Xe) r.val,[])]) Zc) Zb 100 20 113 [c.val,ZX n] Zd2)=Wo r.C r.E r.B r.T r.P r.Y r.R r.V (ZhV (X4 (ZM (Z6 c.C c.E c.B c.T c.P c.Y c.R c.V) c.C c.E c.B c.T c.P c.Y c.R c.V) (Yl n) (QR Xe))):=by kernel_rfl
def ZHU:=Bx.mk (by have h:=@Zx4;simp(maxSteps:=99999999) only[Zx.v,ZF.v,ZD.v,ZU.v,X0.v,ZR.v,Zp.v,Zw.v,ZH.v,Zl.v,Yi.v,Z5.v,-eq_self] at h;exact h)
theorem Zsi (c:Cp) (r:Cp) (n:Nat):obs (evF Tryz.prog (Zk 3 (Za [(66,169,Con.pure (Vm c.val n QB) r.val,[])]) Zc) Zb 100 20 114 [c.val,ZX n] Zd2)=Wo r.C r.E r.B r.T r.P r.Y r.R r.V (ZhV (X4 (ZM (Z6 c.C c.E c.B c.T c.P c.Y c.R c.V) c.C c.E c.B c.T c.P c.Y c.R c.V) (Yl n) (QR QB))):=by kernel_rfl
def Zx5:=Bx.mk (by have h:=@Zsi;simp(maxSteps:=99999999) only[Zx.v,ZF.v,ZD.v,ZO.v,X0.v,ZR.v,Zp.v,Zw.v,ZH.v,Zl.v,Yi.v,Z5.v,-eq_self] at h;exact h)
abbrev Qi (f:FuncId) (args:List Value) (v:Value):Prop:=ConOk Tryz.prog f 3 (Con.pure args v)∧FlatC (Con.pure args v)
theorem ZjU {f:FuncId} {args:List Value} {v:Value} (ha:∀ u∈args,XD u=true) (hv:XD v=true) (he:ZcY Tryz.prog f) (h:∀ w,Calls Tryz.prog f args.toArray w fun e w'=>e = .returned v∧Below w.heap.size w w'):Qi f args v:=⟨QE (d:=1) he ha hv h,Zeh⟩
theorem ZvA {w w':World} (h:∃ m,w'=w.drewN m):Below w.heap.size w w':=by
 obtain⟨m,rfl⟩:=h
 exact ZJ (Below.refl _ _) m
theorem Zpo {l:List Value} (h:l.all XD=true):∀ u∈l,XD u=true:=fun u hu=>List.all_eq_true.1 h u hu
theorem QH:Zs Tryz.prog (evF Tryz.prog Zc Zb 100 20):=Zm (L:=100) Zg (Zf _) (Zh _) 20
theorem Z3 {n:Nat} {f:FuncId} {c:Con} {ls:List Nat} (h:ConOk Tryz.prog f 3 c∧FlatC c):Zs Tryz.prog (evF Tryz.prog (Zk 3 (Za [(n,f,c,ls)]) Zc) Zb 100 20):=Zm (L:=100) Zg (Zn (Zj fun x hx=>by
 obtain rfl:=List.mem_singleton.1 hx
 exact h) (Zf _)) (Zh _) 20
theorem WV {n n2:Nat} {f f2:FuncId} {c c2:Con} {ls ls2:List Nat} (h:ConOk Tryz.prog f 3 c∧FlatC c) (h2:ConOk Tryz.prog f2 3 c2∧FlatC c2):Zs Tryz.prog (evF Tryz.prog (Zk 3 (Za [(n,f,c,ls),(n2,f2,c2,ls2)]) Zc) Zb 100 20):=Zm (L:=100) Zg (Zn (Zj fun x hx=>by
 simp only[List.mem_cons,List.not_mem_nil,or_false] at hx
 rcases hx with rfl|rfl
 ·exact h
 ·exact h2) (Zf _)) (Zh _) 20
theorem ZHV {n n2 n3:Nat} {f f2 f3:FuncId} {c c2 c3:Con} {ls ls2 ls3:List Nat} (h:ConOk Tryz.prog f 3 c∧FlatC c) (h2:ConOk Tryz.prog f2 3 c2∧FlatC c2) (h3:ConOk Tryz.prog f3 3 c3∧FlatC c3):Zs Tryz.prog (evF Tryz.prog (Zk 3 (Za [(n,f,c,ls),(n2,f2,c2,ls2),(n3,f3,c3,ls3)]) Zc) Zb 100 20):=Zm (L:=100) Zg (Zn (Zj fun x hx=>by
 simp only[List.mem_cons,List.not_mem_nil,or_false] at hx
 rcases hx with rfl|rfl|rfl
 ·exact h
 ·exact h2
 ·exact h3) (Zf _)) (Zh _) 20
theorem Zsj (c:Cp) (u:Nat) (h:c.Ok) (hu:u<4294967296):Qi 165 [.int .u8 c.E,.int .u16 c.B,.int .u16 c.T,.int .u32 c.C,.int .u32 (u:Nat)] (.bool (ZbT c.E c.B c.T c.C u)) :=
 ZjU (Zpo rfl) rfl (Q9 Zg (by kernel_rfl)) fun w=>(ZrJ c.E c.B c.T c.C u w h.2.1 h.2.2.1 h.2.2.2.1 h.1 hu).mono fun e w' hh=>⟨hh.1,by rw[hh.2]; exact Below.refl _ _⟩
theorem XI (c:Cp) (h:c.Ok):ConOk Tryz.prog 111 3 (Zbz c c.lo c.hi)∧FlatC (Zbz c c.lo c.hi) :=
 ZjU (Zpo rfl) rfl (Q9 Zg (by kernel_rfl)) fun w=>ZgG c.C c.E c.B c.T c.P c.Y c.R c.V c.lo c.hi w h rfl rfl
theorem Zpp (a b:Cp) (ha:a.Ok) (hb:b.Ok):Qi 171 [a.val,b.val] (.bool (wit a b)) :=
 ZjU (Zpo rfl) rfl (Q9 Zg (by kernel_rfl)) fun w=>Zo0 a.C a.E a.B a.T a.P a.Y a.R a.V b.C b.E b.B b.T b.P b.Y b.R b.V a.lo a.hi b.lo b.hi w ha hb rfl rfl rfl rfl
theorem Zsk (c:Cp) (a s:Nat) (hc:c.Ok) (ha:a<4294967296) (hs:s<4294967296):Qi 104 [c.val,.agg ⟨[.int .u32 (a:Nat),.int .u32 (s:Nat)]⟩] (.bool (Za1 c.lo c.hi a s)) :=
 ZjU (Zpo rfl) rfl (Q9 Zg (by kernel_rfl)) fun w=>ZrL c.C c.E c.B c.T c.P c.Y c.R c.V a s c.lo c.hi w hc ha hs rfl rfl
theorem Zsl (c:Cp):Qi 120 [c.val] (.bool (ZhN c)) :=
 ZjU (Zpo rfl) rfl (Q9 Zg (by kernel_rfl)) fun w=>Zl7 c.C c.E c.B c.T c.P c.Y c.R c.V w
theorem ZvB (b t:Nat) (hb:b<4294967296) (ht:t<18446744073709551616):Qi 183 [.int .u32 (b:Nat),.int .u64 (t:Nat)] (.tuple ⟨[.int .u8 (ZdL b t:Nat),.int .u16 (ZeL b t:Nat),.int .u16 (ZeM b t:Nat),.bool (ZhM b t),.bool (QI b t)]⟩) :=
 ZjU (Zpo rfl) rfl (Q9 Zg (by kernel_rfl)) fun w=>(Zjp b t w hb ht).mono fun e w' hh=>⟨hh.1,ZvA hh.2⟩
def Zsm (b t:Nat):Nat:=if QI b t then dnN b (Qh b t) else 0
def Zsn (b t:Nat):Nat:=if QI b t then upN t (Qh b t) else 0
theorem Zso (b t:Nat) (hb:b<4294967296) (ht:t<18446744073709551616):Qi 184 [.int .u32 (b:Nat),.int .u64 (t:Nat)] (.tuple ⟨[.int .u32 (Zsm b t:Nat),.int .u64 (Zsn b t:Nat),.bool (QI b t)]⟩) :=
 ZjU (Zpo rfl) rfl (Q9 Zg (by kernel_rfl)) fun w=>(ZrK b t w hb ht).mono fun e w' hh=>⟨hh.1,ZvA hh.2⟩
theorem Zwp {n:Nat} (h:n=0):((n:Int)==(0:Int))=true:=by rw[h]; rfl
theorem Zwq {n:Nat} (h:¬ n=0):((n:Int)==(0:Int))=false:=beq_eq_false_iff_ne.2 (by omega)
theorem Zpq (c:Cp):Qi 112 [c.val] (Ze9 c).val:=by
 exact Zi QH (dc_a.v c) rfl (by simp only[and_self]) rfl rfl
theorem U7 (c:Cp) (u:Nat) (h:c.Ok) (hu:u<4294967296):Qi 105 [c.val,.int .u32 (u:Nat)] (ZbV c u).val:=by
 cases hV:c.V
 ·exact Zi QH (da_v.v c u) (by unfold ZbV XE; rw[hV]; rfl) (by simp only[hV,qT8.v]) rfl rfl
 ·by_cases hy:c.Y=0
  ·have y1:=Zwp hy
   exact Zi (Z3 (Zsj c u h hu)) (da_k.v c u (ZbT c.E c.B c.T c.C u)) (by unfold ZbV XE; rw[hV,lR hy]; rfl) (by simp only[hV,y1,qT8.v]) rfl rfl
  ·have y1:=Zwq hy
   exact Zi QH (da_y.v c u) (by unfold ZbV XE; rw[hV,dF hy]; rfl) (by simp only[hV,y1,qT8.v]) rfl rfl
theorem ZvC (c:Cp) (p:Nat) (h:c.Ok) (hp:p<4294967296):Qi 115 [c.val,.int .u32 (p:Nat)] (Zwm c p).val:=by
 have hx:=u16_and_nat c.P (p%65536) h.2.2.2.2.1 (by omega)
 have ht:(p:Int).tmod (65536:Int)=((p%65536:Nat):Int):=(Int.ofNat_tmod p 65536).symm
 have hw:u16.wrap ((p%65536:Nat):Int)=((p%65536:Nat):Int):=by simp only[IntKind.wrap_u16]; omega
 cases hV:c.V
 ·exact Zi QH (dn_v.v c p) (by rw[ht,hw,hx]; unfold Zwm XE; rw[hV]; rfl) (by simp only[hV,qT8.v]) rfl rfl
 ·by_cases hy:c.Y=0
  ·have hr:=dn_k.v c p
   rw[Zwp hy] at hr
   exact Zi QH hr (by rw[ht,hw,hx]; unfold Zwm XE; rw[hV,lR hy]; rfl) (by simp only[hV,and_self]) rfl rfl
  ·have hr:=dn_y.v c p
   rw[Zwq hy] at hr
   exact Zi QH hr (by rw[ht,hw,hx]; unfold Zwm XE; rw[hV,dF hy]; rfl) (by simp only[hV,and_self]) rfl rfl
theorem Zn9 (c:Cp) (q:Nat) (h:c.Ok) (hq:q<65536):Qi 170 [c.val,.int .u16 (q:Nat)] (.bool (U0 c.C c.P c.Y c.V q c.lo c.hi)):=by
 have hb:=Z3 (n:=65) (ls:=[]) (XI c h)
 have hx:=u16_and_nat c.P q h.2.2.2.2.1 hq
 have hw:u64.wrap (c.C:Int)=(c.C:Int):=by simp only[IntKind.wrap_u64]; have:=h.1; omega
 cases hV:c.V
 ·exact Zi hb (dv_v.v c q c.lo c.hi) (by rfl) (by simp only[hV,qT8.v]) rfl rfl
 by_cases hy:c.Y=0
 ·have y1:=Zwp hy
  by_cases hp:c.P&&&q=0
  ·have p1:(bits BinOp.and u16 (c.P:Int) (q:Int) !=(0:Int))=false:=by rw[hx,hp]; rfl
   exact Zi hb (dv_p.v c q c.lo c.hi) (by unfold U0; rw[show decide (c.P&&&q≠0)=false from dF (by omega)]; simp) (by simp only[hV,y1,p1,qT8.v]) rfl rfl
  ·have p1:(bits BinOp.and u16 (c.P:Int) (q:Int) !=(0:Int))=true:=by rw[hx]; exact bne_iff_ne.2 (by omega)
   by_cases h1:1≤c.C
   ·have k1:decide ((c.C:Int)≥(1:Int))=true:=lR (by omega)
    by_cases h2:c.C≤4095
    ·have k2:decide ((c.C:Int)≤(4095:Int))=true:=lR (by omega)
     by_cases h3:c.lo≤c.C
     ·have k3:decide ((c.C:Int)≥(c.lo:Int))=true:=lR (by omega)
      have k4:decide ((c.C:Int)<(c.hi:Int))=decide (c.C<c.hi):=by rw[decide_eq_decide]; omega
      have hr:=dv_4.v c q c.lo c.hi
      rw[hw,k4] at hr
      exact Zi hb hr (by unfold U0 XE; rw[lR hy,lR hp,lR h1,lR h2,lR h3]; rfl) (by simp only[hV,y1,p1,k1,k2,k3,qT8.v]) rfl rfl
     ·have k3:decide ((c.C:Int)≥(c.lo:Int))=false:=dF (by omega)
      exact Zi hb (dv_3.v c q c.lo c.hi) (by unfold U0; rw[dF h3]; simp) (by simp only[hV,y1,p1,k1,k2,k3,qT8.v]) rfl rfl
    ·have k2:decide ((c.C:Int)≤(4095:Int))=false:=dF (by omega)
     exact Zi hb (dv_2.v c q c.lo c.hi) (by unfold U0; rw[dF h2]; simp) (by simp only[hV,y1,p1,k1,k2,qT8.v]) rfl rfl
   ·have k1:decide ((c.C:Int)≥(1:Int))=false:=dF (by omega)
    exact Zi hb (dv_1.v c q c.lo c.hi) (by unfold U0; rw[dF h1]; simp) (by simp only[hV,y1,p1,k1,qT8.v]) rfl rfl
 ·have y1:=Zwq hy
  exact Zi hb (dv_y.v c q c.lo c.hi) (by unfold U0 XE; rw[dF hy]; rfl) (by simp only[hV,y1,qT8.v]) rfl rfl
theorem Zsp (c b:Cp) (hb:b.Ok):Qi 116 [c.val,b.val] (Zjs c b).val:=by
 have hov:=Zn9 b 32 hb (by omega)
 cases hV:c.V
 ·exact Zi QH (ds_v.v c b) (by unfold Zjs; rw[if_neg (by unfold XE; rw[hV]; simp)]; rfl) (by simp only[hV,qT8.v]) rfl rfl
 by_cases hy:c.Y=0
 ·have y1:=Zwp hy
  cases hk:U0 b.C b.P b.Y b.V 32 b.lo b.hi
  ·rw[hk] at hov
   exact Zi (Z3 hov) (ds_n.v c b false) (by unfold Zjs; rw[if_neg (by rw[hk]; simp)]; rfl) (by simp only[hV,y1,qT8.v]) rfl rfl
  ·rw[hk] at hov
   have hk2:=hk
   simp only[U0,Bool.and_eq_true,decide_eq_true_eq] at hk2
   have hw:u16.wrap (b.C:Int)=(b.C:Int):=by simp only[IntKind.wrap_u16]; omega
   have hr:=ds_k.v c b true
   rw[hw] at hr
   exact Zi (Z3 hov) hr (by unfold Zjs; rw[if_pos (by unfold XE; rw[hV,hk,lR hy]; rfl)]; rfl) (by simp only[hV,y1,qT8.v]) rfl rfl
 ·have y1:=Zwq hy
  exact Zi QH (ds_y.v c b) (by unfold Zjs; rw[if_neg (by unfold XE; rw[dF hy]; simp)]; rfl) (by simp only[hV,y1,qT8.v]) rfl rfl
theorem Zsq (c b:Cp) (hc:c.Ok) (hb:b.Ok):Qi 117 [c.val,b.val] (Zip c b).val:=by
 have hov:=Zn9 b 64 hb (by omega)
 have hw:u32.wrap (c.Y:Int)=(c.Y:Int):=by simp only[IntKind.wrap_u32]; have:=hc.2.2.2.2.2.1; omega
 cases hV:c.V
 ·exact Zi QH (dp_v.v c b) (by unfold Zip; rw[if_neg (by rw[hV]; simp)]; rfl) (by simp only[hV,qT8.v]) rfl rfl
 by_cases hy:c.Y=0
 ·have y1:=Zwp hy
  exact Zi QH (dp_y.v c b) (by unfold Zip; rw[if_neg (by rw[hy]; simp)]; rfl) (by simp only[hV,y1,qT8.v]) rfl rfl
 ·have y1:=Zwq hy
  cases hk:U0 b.C b.P b.Y b.V 64 b.lo b.hi
  ·rw[hk] at hov
   exact Zi (Z3 hov) (dp_n.v c b false) (by unfold Zip; rw[if_neg (by rw[hk]; simp)]; rfl) (by simp only[hV,y1,qT8.v]) rfl rfl
  ·rw[hk] at hov
   by_cases hd:b.C=c.Y
   ·have d1:(u32.wrap (c.Y:Int) !=(b.C:Int))=false:=by rw[hw,hd]; simp
    exact Zi (Z3 hov) (dp_k.v c b true) (by unfold Zip; rw[if_pos (by rw[hV,hk,lR hd]; simp[hy])]; rfl) (by simp only[hV,y1,d1,qT8.v]) rfl rfl
   ·have d1:(u32.wrap (c.Y:Int) !=(b.C:Int))=true:=by rw[hw]; exact bne_iff_ne.2 (by omega)
    exact Zi (Z3 hov) (dp_d.v c b true) (by unfold Zip; rw[if_neg (by rw[dF hd]; simp)]; rfl) (by simp only[hV,y1,d1,qT8.v]) rfl rfl
theorem Zpr (c b:Cp) (hc:c.Ok) (hb:b.Ok):Qi 118 [c.val,b.val] (ZdQ c b).val:=by
 have h1:=Zl9 c hc
 have h2:=Zpp c b hc hb
 have hwd:wit c b=ZdM c.P b.P c.lo c.hi b.lo b.hi:=rfl
 cases hV:b.V
 ·exact Zi QH (db_v.v c b) (by unfold ZdQ XE; rw[hV]; rfl) (by simp only[hV,qT8.v]) rfl rfl
 by_cases hy:b.Y=0
 ·have y1:=Zwp hy
  cases hs:WO c.E c.B c.T c.P c.Y c.R
  ·rw[hs] at h1
   exact Zi (WV ⟨h1,Zeh⟩ h2) (db_s.v c b false (wit c b)) (by unfold ZdQ Zw5; rw[hs]; simp[Cp.val,Cp.cs]) (by simp only[hV,y1,qT8.v]) rfl rfl
  ·rw[hs] at h1
   by_cases hz:c.Y=0
   ·have z1:=Zwp hz
    exact Zi (WV ⟨h1,Zeh⟩ h2) (db_k.v c b true (wit c b)) (by unfold ZdQ Zw5 XE; rw[hV,hs,lR hy,lR hz,hwd]; rfl) (by simp only[hV,y1,z1,qT8.v]) rfl rfl
   ·have z1:=Zwq hz
    exact Zi (WV ⟨h1,Zeh⟩ h2) (db_t.v c b true (wit c b)) (by unfold ZdQ Zw5; rw[dF hz]; simp[Cp.val,Cp.cs]) (by simp only[hV,y1,z1,qT8.v]) rfl rfl
 ·have y1:=Zwq hy
  exact Zi QH (db_y.v c b) (by unfold ZdQ XE; rw[dF hy]; simp[Cp.val,Cp.cs]) (by simp only[hV,y1,qT8.v]) rfl rfl
theorem Zoa (c:Cp) (n:Nat) (ex:Bool) (hc:c.Ok) (hn:n<4294967296):Qi 169 [c.val,.int .u32 (n:Nat),.bool ex] (ZiC c n ex).val:=by
 have hc0:=hc.1
 have hb:=ZHV (n:=66) (n2:=66) (n3:=66) (ls:=[]) (ls2:=[]) (ls3:=[]) (ZvB c.C (c.C+n) hc0 (by omega)) (Zso c.C (c.C+n) hc0 (by omega)) (XI c hc)
 have hw:Value.int u64 (u64.wrap (u64.wrap (c.C:Int)+u64.wrap (n:Int)))=Value.int u64 ((c.C+n:Nat):Int):=by
  congr 1; simp only[IntKind.wrap_u64]; omega
 cases hr:QI c.C (c.C+n)
 ·have e:=dt_n.v c n (c.C+n) (ZdL c.C (c.C+n)) (ZeL c.C (c.C+n)) (ZeM c.C (c.C+n)) (Zsm c.C (c.C+n)) (Zsn c.C (c.C+n)) c.lo c.hi (ZhM c.C (c.C+n)) ex (QI c.C (c.C+n))
  rw[hr] at e hb
  exact Zi hb e (by unfold ZiC; rw[if_neg (by rw[hr]; simp)]; rfl) (by simp only[hw,qT8.v]) rfl rfl
 have hd:Zsm c.C (c.C+n)=dnN c.C (Qh c.C (c.C+n)):=by unfold Zsm; rw[if_pos hr]
 have hu:Zsn c.C (c.C+n)=upN (c.C+n) (Qh c.C (c.C+n)):=by unfold Zsn; rw[if_pos hr]
 cases hV:c.V
 ·have e:=dt_v.v c n (c.C+n) (ZdL c.C (c.C+n)) (ZeL c.C (c.C+n)) (ZeM c.C (c.C+n)) (Zsm c.C (c.C+n)) (Zsn c.C (c.C+n)) c.lo c.hi (ZhM c.C (c.C+n)) ex (QI c.C (c.C+n))
  rw[hr] at e hb
  exact Zi hb e (by unfold ZiC Zwl XE; rw[if_pos hr,hV]; rfl) (by simp only[hw,hV,qT8.v]) rfl rfl
 by_cases hy:c.Y=0
 ·have y1:=Zwp hy
  by_cases hl:c.lo≤Zsm c.C (c.C+n)
  ·have l1:decide (((Zsm c.C (c.C+n):Nat):Int)≥(c.lo:Int))=true:=lR (by omega)
   by_cases hh:Zsn c.C (c.C+n)≤c.hi
   ·have h1:decide (((Zsn c.C (c.C+n):Nat):Int)≤(c.hi:Int))=true:=lR (by omega)
    have hin:inR (dnN c.C (Qh c.C (c.C+n))) (upN (c.C+n) (Qh c.C (c.C+n))) c.lo c.hi=true:=by
     unfold inR; rw[← hd,← hu,lR hl,lR hh]; rfl
    cases hx:ZhM c.C (c.C+n)
    ·have e:=dt_f.v c n (c.C+n) (ZdL c.C (c.C+n)) (ZeL c.C (c.C+n)) (ZeM c.C (c.C+n)) (Zsm c.C (c.C+n)) (Zsn c.C (c.C+n)) c.lo c.hi (ZhM c.C (c.C+n)) ex (QI c.C (c.C+n))
     rw[hr] at e hb
     rw[hx] at e hb
     exact Zi hb e (by unfold ZiC Zwl XE; rw[if_pos hr,hV,hx,hin,lR hy]; simp[Cp.val,Cp.cs]) (by simp only[hw,hV,y1,l1,h1,qT8.v]) rfl rfl
    ·have e:=dt_x.v c n (c.C+n) (ZdL c.C (c.C+n)) (ZeL c.C (c.C+n)) (ZeM c.C (c.C+n)) (Zsm c.C (c.C+n)) (Zsn c.C (c.C+n)) c.lo c.hi (ZhM c.C (c.C+n)) ex (QI c.C (c.C+n))
     rw[hr] at e hb
     rw[hx] at e hb
     exact Zi hb e (by unfold ZiC Zwl XE; rw[if_pos hr,hV,hx,hin,lR hy]; rfl) (by simp only[hw,hV,y1,l1,h1,qT8.v]) rfl rfl
   ·have h1:decide (((Zsn c.C (c.C+n):Nat):Int)≤(c.hi:Int))=false:=dF (by omega)
    have hin:inR (dnN c.C (Qh c.C (c.C+n))) (upN (c.C+n) (Qh c.C (c.C+n))) c.lo c.hi=false:=by
     unfold inR; rw[← hd,← hu,dF hh]; simp
    have e:=dt_h.v c n (c.C+n) (ZdL c.C (c.C+n)) (ZeL c.C (c.C+n)) (ZeM c.C (c.C+n)) (Zsm c.C (c.C+n)) (Zsn c.C (c.C+n)) c.lo c.hi (ZhM c.C (c.C+n)) ex (QI c.C (c.C+n))
    rw[hr] at e hb
    exact Zi hb e (by unfold ZiC Zwl; rw[if_pos hr,hin,Bool.and_false]; rfl) (by simp only[hw,hV,y1,l1,h1,qT8.v]) rfl rfl
  ·have l1:decide (((Zsm c.C (c.C+n):Nat):Int)≥(c.lo:Int))=false:=dF (by omega)
   have hin:inR (dnN c.C (Qh c.C (c.C+n))) (upN (c.C+n) (Qh c.C (c.C+n))) c.lo c.hi=false:=by
    unfold inR; rw[← hd,← hu,dF hl]; simp
   have e:=dt_l.v c n (c.C+n) (ZdL c.C (c.C+n)) (ZeL c.C (c.C+n)) (ZeM c.C (c.C+n)) (Zsm c.C (c.C+n)) (Zsn c.C (c.C+n)) c.lo c.hi (ZhM c.C (c.C+n)) ex (QI c.C (c.C+n))
   rw[hr] at e hb
   exact Zi hb e (by unfold ZiC Zwl; rw[if_pos hr,hin,Bool.and_false]; rfl) (by simp only[hw,hV,y1,l1,qT8.v]) rfl rfl
 ·have y1:=Zwq hy
  have e:=dt_y.v c n (c.C+n) (ZdL c.C (c.C+n)) (ZeL c.C (c.C+n)) (ZeM c.C (c.C+n)) (Zsm c.C (c.C+n)) (Zsn c.C (c.C+n)) c.lo c.hi (ZhM c.C (c.C+n)) ex (QI c.C (c.C+n))
  rw[hr] at e hb
  exact Zi hb e (by unfold ZiC Zwl XE; rw[if_pos hr,dF hy]; simp[Cp.val,Cp.cs]) (by simp only[hw,hV,y1,qT8.v]) rfl rfl
theorem ZvD (c:Cp) (n:Nat) (hc:c.Ok) (hn:n<4294967296):Qi 113 [c.val,.int .u32 (n:Nat)] (ZiC c n false).val:=by
 exact Zi (Z3 (Zoa c n false hc hn)) (ZHU.v c (ZiC c n false) n) rfl (by simp only[qT8.v]) rfl rfl
theorem Zps (c:Cp) (n:Nat) (hc:c.Ok) (hn:n<4294967296):Qi 114 [c.val,.int .u32 (n:Nat)] (ZiC c n true).val:=by
 exact Zi (Z3 (Zoa c n true hc hn)) (Zx5.v c (ZiC c n true) n) rfl (by simp only[qT8.v]) rfl rfl
def ZNf (g:Nat) (zs:List UInt8) (f:Nat→Bool) (N m n:Nat) (tl:List Nat):Con:=⟨[.pointer (some ⟨67,0,none⟩),.int .i64 (g:Nat)],68,arW false zs f N m n,arO N n,.slice (some ⟨68,0,none⟩) tl.length (big+68),69,[(68,⟨false,some (0,0),ZcB tl,none⟩)],[]⟩
def tgE (g:Nat) (out:Value) (k:Nat):List (Nat×Value):=[(0,.pointer (some ⟨67,0,none⟩)),(4,.slice none 0 0),(5,out),(6,.int .i64 (16*g:Nat)),(20,.int .i64 (k:Nat))]
def tgN (g:Nat) (zs:List UInt8) (f:Nat→Bool) (N m n:Nat) (k:Nat):Sf:=⟨68,tgE g (.slice none 0 0) k,arW false zs f N m n,arO N n⟩
def tgO (l:List Nat):Sy.Blk:=⟨true,some (68,1),ZcB l,none⟩
def tgY (g:Nat) (zs:List UInt8) (f:Nat→Bool) (N m n:Nat) (l:List Nat) (k:Nat):Sf:=⟨69,tgE g (.slice (some ⟨68,0,none⟩) l.length (big+68)) k,(68,tgO l)::arW false zs f N m n,(68,l.length)::arO N n⟩
def KX (a:Nat×Nat) (b:List Value):=Zty false a b
def XM (a b:Nat):=Zqh (QW a) b
def Ku (a:Nat×Nat) (b:List UInt8):=KX a (u8s b)
def US (a:Nat):=Znl (QW a)
def Zg0 (a b:Nat):=(XM a b).toNat
def Zfl (a:Nat):=Zjf (Zqb a)
def ZaC (a:Nat) (b:List (Nat×Value)) (c:Nat) (d:Sy.Heap) (e:List (Nat×Nat)) (f:Nat) (g:Prop):=Znu (Zc1 a b c d e f g)
def VQ (a b:Nat):=(a,ZhI b)
def Uo:=Bx.mk (aI @KX.eq_1 (aI @XM.eq_1 (aI @Ku.eq_1 (aI @US.eq_1 (aI @Zg0.eq_1 (aI @Zfl.eq_1 (aI @ZaC.eq_1 @VQ.eq_1)))))))
theorem Zx6 (g:Nat) (zs:List UInt8) (f:Nat→Bool) (N:Nat) (m:Nat) (n:Nat) (k:Nat):evC Tryz.prog (evF Tryz.prog (Zbn 3 (Zmc m n f)) Zb 100 20) (Zb 47) 41 100 (Qe Tryz.prog 47 0) (Sf.frT 41 (tgN g zs f N m n k) [KR,ZbS])=ZaC 41 [(0,QG),(4,W2),(5,W2),Ql 6 (16*g),Ql 7 k,VQ 20 k,X3 21 (US k),Ql 22 k,(23,QG),(24,QG),(25,QG),(26,ZN),Ql 27 (16*g),Ql 28 k,(29,VD (XM (16*g) k)),X3 30 (f (Zg0 (16*g) k)),VQ 39 k] 68 [(67,Zfl N),(66,ZbQ m n),(65,KX (65,1) (ZdU f n)),(64,Ku (64,1) zs)] [(65,n),(64,N)] 2 (QF (ZjA (Vt (US k=true)) (Zr≤XM (16*g) k∧XM (16*g) k<QW m) Qc (XM (16*g) k) (XM (16*g) k) (Y0 m n m f n (Va f n (fun l=>l.blt 68) Ze f n f n)) (QO n)) (f (Zg0 (16*g) k))):=by kernel_rfl
def ZHW:=Bx.mk (by have h:=@Zx6;simp(maxSteps:=99999999) only[Zx.v,ZD.v,ZO.v,X0.v,ZR.v,Ud.v,Zp.v,ZH.v,Zo.v,Zy.v,Uo.v,-eq_self] at h;exact h)
def Zce (a b:Int):=Ww (u32.wrap (Zkg a b))
def Kv (a:Nat):=ZfJ 69 0 a 9223372036854775877
def ZfV:=Bx.mk (aI @Zce.eq_1 @Kv.eq_1)
theorem Zx7 (g:Nat) (zs:List UInt8) (f:Nat→Bool) (N:Nat) (m:Nat) (n:Nat) (k:Nat):evC Tryz.prog (evF Tryz.prog (Zbn 3 (Zmc m n f)) Zb 100 20) (Zb 47) 41 100 (Qe Tryz.prog 47 0) (Sf.frT 41 (tgN g zs f N m n k) [KR,Zc9])=ZaC 41 [(0,QG),(4,W2),(5,Kv 1),Ql 6 (16*g),Ql 7 k,VQ 20 k,X3 21 (US k),Ql 22 k,(23,QG),(24,QG),(25,QG),(26,ZN),Ql 27 (16*g),Ql 28 k,(29,VD (XM (16*g) k)),X3 30 (f (Zg0 (16*g) k)),(31,W2),Ql 32 (16*g),Ql 33 k,(34,VD (XM (16*g) k)),(35,VD (Zkg (XM (16*g) k) YD)),(36,Zce (XM (16*g) k) YD),(37,ZfJ 68 0 1 1),(38,Kv 1),VQ 39 k] 70 [(69,ZbN 69 [Zce (XM (16*g) k) YD]),(68,Vi [Zce (XM (16*g) k) YD]),(67,Zfl N),(66,ZbQ m n),(65,KX (65,1) (ZdU f n)),(64,Ku (64,1) zs)] [(69,1),(65,n),(64,N)] 2 (ZjA (Vt (US k=true)) (Zr≤XM (16*g) k∧XM (16*g) k<QW m) Qc (XM (16*g) k) (XM (16*g) k) (Y0 m n m f n (Va f n (fun l=>l.blt 68) Ze f n f n)) (QO n)∧f (Zg0 (16*g) k)=true):=by kernel_rfl
def ZHX:=Bx.mk (by have h:=@Zx7;simp(maxSteps:=99999999) only[Zx.v,ZF.v,ZD.v,ZO.v,ZR.v,Ud.v,Zp.v,ZH.v,Zo.v,Zy.v,Ym.v,Uo.v,ZfV.v,-eq_self] at h;exact h)
theorem Zx8 (g:Nat) (zs:List UInt8) (f:Nat→Bool) (N:Nat) (m:Nat) (n:Nat) (k:Nat):evC Tryz.prog (evF Tryz.prog (Zbn 3 (Zmc m n f)) Zb 100 20) (Zb 47) 41 100 (Qe Tryz.prog 47 0) (Sf.frT 41 (tgN g zs f N m n k) [W1])=some (Ze7,Zc1 41 [(0,QG),(4,W2),(5,W2),Ql 6 (16*g),Ql 20 k,X3 21 (US k)] 68 [(67,Zfl N),(66,ZbQ m n),(65,KX (65,1) (ZdU f n)),(64,Ku (64,1) zs)] [(65,n),(64,N)] 1 (Uc (US k))):=by kernel_rfl
def ZHY:=Bx.mk (by have h:=@Zx8;simp(maxSteps:=99999999) only[Zx.v,ZD.v,X0.v,Ud.v,Zo.v,Zy.v,Uo.v,-eq_self] at h;exact h)
def Zcf (a:Nat):=ZfJ 68 0 a 9223372036854775876
def Zh7 (a:Nat) (b:List Nat):=ZbN a (ZcB b)
def Zdo:=Bx.mk (aI @Zcf.eq_1 @Zh7.eq_1)
theorem Zx9 (g:Nat) (zs:List UInt8) (f:Nat→Bool) (N:Nat) (m:Nat) (n:Nat) (l:List Nat) (k:Nat):evC Tryz.prog (evF Tryz.prog (Zbn 3 (Zmc m n f)) Zb 100 20) (Zb 47) 41 100 (Qe Tryz.prog 47 0) (Sf.frT 41 (tgY g zs f N m n l k) [KR,ZbS])=ZaC 41 [(0,QG),(4,W2),(5,Zcf l.length),Ql 6 (16*g),Ql 7 k,VQ 20 k,X3 21 (US k),Ql 22 k,(23,QG),(24,QG),(25,QG),(26,ZN),Ql 27 (16*g),Ql 28 k,(29,VD (XM (16*g) k)),X3 30 (f (Zg0 (16*g) k)),VQ 39 k] 69 [(68,Zh7 68 l),(67,Zfl N),(66,ZbQ m n),(65,KX (65,1) (ZdU f n)),(64,Ku (64,1) zs)] [(68,l.length),(65,n),(64,N)] 2 (QF (ZjA (Vt (US k=true)) (Zr≤XM (16*g) k∧XM (16*g) k<QW m) Qc (XM (16*g) k) (XM (16*g) k) (Y0 m n m f n (QP f n (fun l=>l.blt 68) 69)) (QO n)) (f (Zg0 (16*g) k))):=by kernel_rfl
def ZHZ:=Bx.mk (by have h:=@Zx9;simp(maxSteps:=99999999) only[Zx.v,ZD.v,ZO.v,X0.v,ZR.v,Ud.v,Zp.v,ZH.v,Zo.v,Zy.v,Uo.v,Zdo.v,-eq_self] at h;exact h)
def Zcg (a b:Nat):=ZfJ 70 a b 9223372036854775878
def Zob:=Bx.mk @Zcg.eq_1
theorem Zya (g:Nat) (zs:List UInt8) (f:Nat→Bool) (N:Nat) (m:Nat) (n:Nat) (l:List Nat) (k:Nat):evC Tryz.prog (evF Tryz.prog (Zbn 3 (Zmc m n f)) Zb 100 20) (Zb 47) 41 100 (Qe Tryz.prog 47 0) (Sf.frT 41 (tgY g zs f N m n l k) [KR,Zc9])=ZaC 41 [(0,QG),(4,W2),(5,Zcg 0 (l.length+1)),Ql 6 (16*g),Ql 7 k,VQ 20 k,X3 21 (US k),Ql 22 k,(23,QG),(24,QG),(25,QG),(26,ZN),Ql 27 (16*g),Ql 28 k,(29,VD (XM (16*g) k)),X3 30 (f (Zg0 (16*g) k)),(31,Zcf l.length),Ql 32 (16*g),Ql 33 k,(34,VD (XM (16*g) k)),(35,VD (Zkg (XM (16*g) k) YD)),(36,Zce (XM (16*g) k) YD),(37,ZfJ 69 0 1 1),(38,Zcg 0 (l.length+1)),VQ 39 k] 71 [(70,ZbN 70 (ZcB l++[Zce (XM (16*g) k) YD])),(69,Vi [Zce (XM (16*g) k) YD]),(67,Zfl N),(66,ZbQ m n),(65,KX (65,1) (ZdU f n)),(64,Ku (64,1) zs)] [(70,l.length+1),(68,l.length),(65,n),(64,N)] 2 (ZaM ((Yf (ZcB l)).beq (l.length*1)) (((l.length+1)*4).ble 1099511627776&&(l.length+1).blt 4611686018427387904) (ZjA (Vt (US k=true)) (Zr≤XM (16*g) k∧XM (16*g) k<QW m) Qc (XM (16*g) k) (XM (16*g) k) (Y0 m n m f n (QP f n (fun l=>l.blt 68) 69)) (QO n)∧f (Zg0 (16*g) k)=true)):=by kernel_rfl
def ZH0:=Bx.mk (by have h:=@Zya;simp(maxSteps:=99999999) only[Zx.v,ZF.v,ZD.v,ZO.v,ZR.v,Ud.v,Zp.v,ZH.v,Zo.v,Zy.v,Ym.v,Uo.v,ZfV.v,Zdo.v,Zob.v,-eq_self] at h;exact h)
theorem Zyb (g:Nat) (zs:List UInt8) (f:Nat→Bool) (N:Nat) (m:Nat) (n:Nat) (l:List Nat) (k:Nat):evC Tryz.prog (evF Tryz.prog (Zbn 3 (Zmc m n f)) Zb 100 20) (Zb 47) 41 100 (Qe Tryz.prog 47 0) (Sf.frT 41 (tgY g zs f N m n l k) [W1])=some (Ze7,Zc1 41 [(0,QG),(4,W2),(5,Zcf l.length),Ql 6 (16*g),Ql 20 k,X3 21 (US k)] 69 [(68,Zh7 68 l),(67,Zfl N),(66,ZbQ m n),(65,KX (65,1) (ZdU f n)),(64,Ku (64,1) zs)] [(68,l.length),(65,n),(64,N)] 1 (Uc (US k))):=by kernel_rfl
def ZH1:=Bx.mk (by have h:=@Zyb;simp(maxSteps:=99999999) only[Zx.v,ZD.v,X0.v,Ud.v,Zo.v,Zy.v,Uo.v,Zdo.v,-eq_self] at h;exact h)
def toσ (m g:Nat) (l:Nat):Nat:=if l=m then g else l
def tgK (f:Nat→Bool) (g:Nat):Nat→List Nat
 | 0=>[]
 | k+1=>bif f (16*g+k) then tgK f g k++[(16*g+k)*16] else tgK f g k
theorem ZjV (f:Nat→Bool) (g:Nat):∀ k,(tgK f g k).length≤k
 | 0=>Nat.le_refl _
 | k+1=>by
  have:=ZjV f g k
  unfold tgK
  cases f (16*g+k)
  ·show(tgK f g k).length≤k+1; omega
  ·show(tgK f g k++[_]).length≤k+1; rw[List.length_append]; simp; omega
def tgS (g:Nat) (zs:List UInt8) (f:Nat→Bool) (N m n:Nat):List Nat→Nat→Sf
 | [],k=>tgN g zs f N m n k
 | x::l,k=>tgY g zs f N m n (x::l) k
def tgP (l:List Nat):Sy.Blk:=⟨true,some (69,1),ZcB l,none⟩
def tgF:List Nat→Sf
 | []=>⟨68,[(5,.slice none 0 0)],[],[]⟩
 | x::l=>⟨70,[(5,.slice (some ⟨69,0,none⟩) (x::l).length (big+69))],[(69,tgP (x::l))],[(69,(x::l).length)]⟩
theorem ZDi (g:Nat) (zs:List UInt8) (f:Nat→Bool) (N m n:Nat) (l:List Nat) (k:Nat) (h:l≠[]):tgS g zs f N m n l k=tgY g zs f N m n l k:=by
 cases l with
 | nil=>exact absurd rfl h
 | cons x l=>rfl
theorem Zoc (l:List Nat) (x:Nat):ZcB l++[Value.int .u32 (x:Int)]=ZcB (l++[x]):=by simp[ZcB]
theorem Zk5 (l:List Nat) (a:Nat) (ha:a≤69) (σ:Nat→Nat) (p:Nat→Bool):(tgF l).Ok (XP a (tgF l).n σ p):=by
 cases l with
 | nil=>exact Sf.Ok.mk' 3 trivial rfl (fun x hx=>by obtain rfl:=List.mem_singleton.1 hx; rfl)
 | cons x l =>
  have hq:XP a 70 σ p 69=true:=by
   show(Nat.blt 69 NG||(bif Nat.blt 69 a then(Nat.beq (σ 69) 69&&p 69) else Nat.blt 69 70))=true
   rw[QD (show a≤69 from ha)]; rfl
  refine Sf.Ok.mk' 3 ⟨⟨hq,hq,ZY (Z4 _)⟩,trivial⟩ (by show(XP a 70 σ p 69&&true)=true; rw[hq]; rfl) (fun y hy => ?_)
  obtain rfl:=List.mem_singleton.1 hy
  show okV (XP a 70 σ p) 3 (.slice (some ⟨69,0,none⟩) (x::l).length (big+69))=true
  simp[okV,Ut,hq,big]
theorem ZH2 (g:Nat) (zs:List UInt8) (f:Nat→Bool) (N m n:Nat) (l:List Nat) (k:Nat):(tgS g zs f N m n l k).Wf:=by
 cases l with
 | nil=>exact⟨by show 64≤68; omega,Sf.Ok.mk' 3 (Zas ZhC false zs f N m n) rfl (fun x hx=>by
   simp only[tgS,tgN,tgE,List.mem_cons,List.not_mem_nil,or_false] at hx
   rcases hx with rfl|rfl|rfl|rfl|rfl<;>rfl)⟩
 | cons x l=>exact⟨by show 64≤69; omega,Sf.Ok.mk' 3 ⟨⟨rfl,rfl,ZY (Z4 _)⟩,Zas (fun l hl=>by show Nat.blt l 69=true; exact YW (by omega)) false zs f N m n⟩ rfl (fun x hx=>by
   simp only[tgS,tgY,tgE,List.mem_cons,List.not_mem_nil,or_false] at hx
   rcases hx with rfl|rfl|rfl|rfl|rfl<;>rfl)⟩
theorem Zch {h1:Sy.Heap} {p:Nat→Bool} {σ:Nat→Nat} (hp:∀ l,l<68→p l=true) (hs:∀ l,l<68→σ l=l) (zs:List UInt8) (f:Nat→Bool) (N m n:Nat) (h67:Sy.look h1 67=some ⟨false,none,[.pointer (some ⟨66,0,none⟩),.slice (some ⟨64,0,none⟩) N (big+64)],none⟩) (h66:Sy.look h1 66=some ⟨false,none,[.int .i64 (m:Nat),.slice (some ⟨65,0,none⟩) n (big+65)],none⟩)
  (h65:Sy.look h1 65=some ⟨false,some (65,1),v64 (Zd f n),none⟩) (h64:Sy.look h1 64=some ⟨false,some (64,1),u8s zs,none⟩):Vr 3 p σ h1 (arW false zs f N m n):=by
 have hr:∀ l:List Value,(∀ w∈l,okV (fun l=>Nat.blt l 68) 3 w=true)→l.map (rnV σ 3)=l:=fun l hl=>by
  rw[List.map_congr_left (g:=id) (fun w hw=>Znc (p:=fun l=>Nat.blt l 68) (fun l hl=>hs l (by simpa using hl)) 3 w (hl w hw))]
  simp
 have hc:=WI (q:=fun l=>Nat.blt l 68) ZhC N m n
 have hcp:=WI (q:=p) hp N m n
 refine⟨⟨hp 67 (by omega),List.all_eq_true.2 hcp.1,rfl,?_⟩,⟨hp 66 (by omega),List.all_eq_true.2 hcp.2,rfl,?_⟩,⟨hp 65 (by omega),ZE (Qp _),hp 65 (by omega),?_⟩,⟨hp 64 (by omega),ZE (ZS zs),hp 64 (by omega),?_⟩,trivial⟩
 ·show match Sy.look h1 (σ 67) with|none=>False|some k1=>_
  rw[hs 67 (by omega),h67]; exact⟨rfl,rfl,trivial,(hr _ hc.1).symm⟩
 ·show match Sy.look h1 (σ 66) with|none=>False|some k1=>_
  rw[hs 66 (by omega),h66]; exact⟨rfl,rfl,trivial,(hr _ hc.2).symm⟩
 ·show match Sy.look h1 (σ 65) with|none=>False|some k1=>_
  rw[hs 65 (by omega),h65]
  refine⟨rfl,?_,trivial,(ZP (Qp _)).symm⟩
  show(opB (some (65,1)) (some (σ 65,1))||_)=true
  rw[hs 65 (by omega)]; rfl
 ·show match Sy.look h1 (σ 64) with|none=>False|some k1=>_
  rw[hs 64 (by omega),h64]
  refine⟨rfl,?_,trivial,(ZP (ZS _)).symm⟩
  show(opB (some (64,1)) (some (σ 64,1))||_)=true
  rw[hs 64 (by omega)]; rfl
theorem Zod (l:List Nat):(ZcB l).length=l.length:=by simp[ZcB]
theorem ZDj (g:Nat) (zs:List UInt8) (f:Nat→Bool) (N m n:Nat) (h:ArOk zs N m n) (hg:(g+1)*256≤N) :
  ∀ k:{ k:Nat // k≤16 },Vh Tryz.prog 41 (Qe Tryz.prog 47 0) ((tgS g zs f N m n (tgK f g k.1) k.1).fr 41) (.exit 0) ((tgF (tgK f g 16)).fr 41):=by
 obtain⟨hl,h1,h2,h3,h4⟩:=h
 have v1:∀ (σ:Nat→Nat),(v64 (Zd f n)).map (rnV σ 3)=v64 (Zd f n):=fun σ=>ZP (Qp _)
 have v2:∀ (p:Nat→Bool),(v64 (Zd f n)).all (okV p 3)=true:=fun p=>ZE (Qp _)
 refine Zgq (L:=100) (Xb _ _ 47) (fun _ h=>h) (X:={ k:Nat // k≤16 }) (fun k=>tgS g zs f N m n (tgK f g k.1) k.1) (fun _=>tgF (tgK f g 16)) (fun _ => .exit 0) (fun k=>16-k.1) (fun k=>ZH2 _ _ _ _ _ _ _ _) ?_
 rintro⟨k,hk⟩
 have hbase:=Zm (L:=100) Zg (JY (ZqA m n f h2 h3)) (Zh _) 20
 have hroW:∀ (σ:Nat→Nat),(∀ l,l<68→σ l=l)→∀ y∈arW false zs f N m n,σ y.1=y.1:=fun σ hσ y hy=>by
  simp only[arW,List.mem_cons,List.not_mem_nil,or_false] at hy
  rcases hy with rfl|rfl|rfl|rfl
  ·exact hσ 67 (by omega)
  ·exact hσ 66 (by omega)
  ·exact hσ 65 (by omega)
  ·exact hσ 64 (by omega)
 by_cases hlt:k<16
 ·have e1:i64.wrap (((16*g:Nat):Int)+(k:Int))=((16*g+k:Nat):Int):=by rw[ZfL,XL _ (by omega)]
  have e2:u32.wrap (i64.wrap (((16*g+k:Nat):Int)*(16:Int)))=(((16*g+k)*16:Nat):Int):=by rw[show((16*g+k:Nat):Int)*(16:Int)=(((16*g+k)*16:Nat):Int) by omega,XL _ (by omega),Kw _ (by omega)]
  have e5:i64.wrap ((k:Int)+(1:Int))=((k+1:Nat):Int):=QV k (by omega)
  have b1:(0:Int)≤((16*g+k:Nat):Int):=by omega
  have b2:((16*g+k:Nat):Int)<(m:Int):=by omega
  have d1:decide ((k:Int)<(16:Int))=true:=lR (by omega)
  have hlen:=ZjV f g k
  by_cases hL:tgK f g k=[]
  ·have hI:tgS g zs f N m n (tgK f g k) k=tgN g zs f N m n k:=by rw[hL]; rfl
   show ∃ call T e g' d p σ,Zs Tryz.prog call∧evC Tryz.prog call _ 41 100 _ (Sf.frT 41 (tgS g zs f N m n (tgK f g k) k) T)=some (e,g')∧_
   rw[hI]
   cases hf:f (16*g+k)
   ·have hnext:tgK f g (k+1)=[]:=by unfold tgK; rw[hf,hL]; rfl
    have hr:=ZHW.v g zs f N m n k
    simp only[e1,e2,e5,tN] at hr
    refine⟨_,_,.normal,_,3,fun l=>Nat.blt l 68,id,hbase,hr,?_,.inl ⟨rfl,⟨k+1,by omega⟩,by show 16-(k+1)<16-k; omega,rfl,rfl,?_⟩⟩
    ·simp only[b1,b2,d1,hf,v1,v2,QN,and_true,true_and,and_self,Nat.le_refl]
    ·show Sf.Leads 3 _ _ _ _ (tgS g zs f N m n (tgK f g (k+1)) (k+1)) _
     rw[hnext]
     exact⟨fun _ _=>rfl,Zch ZhC (fun _ _=>rfl) zs f N m n rfl rfl rfl rfl,rfl,⟨⟨rfl,Nat.le_refl _⟩,⟨rfl,Nat.le_refl _⟩,trivial⟩,⟨⟨by kernel_rfl,by kernel_rfl⟩,⟨by kernel_rfl,by kernel_rfl⟩,⟨by kernel_rfl,by kernel_rfl⟩,⟨by kernel_rfl,by kernel_rfl⟩,⟨by kernel_rfl,by kernel_rfl⟩,trivial⟩,Nat.le_refl _,fun l hl=>QD hl,Zk5 _ _ (by show 68≤69; omega) _ _,fun x _ _ => .inl rfl⟩
   ·have hnext:tgK f g (k+1)=[(16*g+k)*16]:=by unfold tgK; rw[hf,hL]; rfl
    have hr:=ZHX.v g zs f N m n k
    simp only[e1,e2,e5,tN] at hr
    refine⟨_,_,.normal,_,3,fun l=>Nat.blt l 69,toσ 68 69,hbase,hr,?_,.inl ⟨rfl,⟨k+1,by omega⟩,by show 16-(k+1)<16-k; omega,rfl,rfl,?_⟩⟩
    ·simp only[b1,b2,d1,hf,v1,v2,QN,and_true,true_and,and_self,Nat.le_refl]
    ·show Sf.Leads 3 _ _ _ _ (tgS g zs f N m n (tgK f g (k+1)) (k+1)) _
     rw[hnext]
     refine⟨fun l hl=>if_neg (by have:NG=64:=rfl; omega),⟨⟨rfl,ZE (Z4 _),rfl,?_⟩,Zch (fun l hl=>by show Nat.blt l 69=true; exact YW (by omega)) (fun l hl=>if_neg (by omega)) zs f N m n rfl rfl rfl rfl⟩,rfl,⟨⟨rfl,?_⟩,⟨rfl,Nat.le_refl _⟩,⟨rfl,Nat.le_refl _⟩,trivial⟩,?_,by show 68≤69; omega,fun l hl=>QD hl,Zk5 _ _ (by show 68≤69; omega) _ _,fun y hy hrw => ?_⟩
     ·exact⟨rfl,rfl,trivial,by show _=List.map _ (ZcB _); rw[ZP (Z4 _)]; try rfl⟩
     ·exact Nat.le_refl _
     ·exact⟨⟨by kernel_rfl,by kernel_rfl⟩,⟨by kernel_rfl,by kernel_rfl⟩,⟨by kernel_rfl,by kernel_rfl⟩,⟨by kernel_rfl,by kernel_rfl⟩,⟨by kernel_rfl,by kernel_rfl⟩,trivial⟩
     ·rcases List.mem_cons.1 hy with rfl|hy
      ·cases hrw
      ·left; exact hroW (toσ 68 69) (fun l hl=>if_neg (by omega)) y hy
  ·have hI:tgS g zs f N m n (tgK f g k) k=tgY g zs f N m n (tgK f g k) k:=ZDi _ _ _ _ _ _ _ _ hL
   show ∃ call T e g' d p σ,Zs Tryz.prog call∧evC Tryz.prog call _ 41 100 _ (Sf.frT 41 (tgS g zs f N m n (tgK f g k) k) T)=some (e,g')∧_
   rw[hI]
   cases hf:f (16*g+k)
   ·have hnext:tgK f g (k+1)=tgK f g k:=by show(bif f (16*g+k) then _ else _)=_; rw[hf]; rfl
    have hr:=ZHZ.v g zs f N m n (tgK f g k) k
    simp only[e1,e2,e5,tN] at hr
    refine⟨_,_,.normal,_,3,fun l=>Nat.blt l 69,toσ 68 68,hbase,hr,?_,.inl ⟨rfl,⟨k+1,by omega⟩,by show 16-(k+1)<16-k; omega,rfl,rfl,?_⟩⟩
    ·simp only[b1,b2,d1,hf,v1,v2,QN,and_true,true_and,and_self,Nat.le_refl]
    ·show Sf.Leads 3 _ _ _ _ (tgS g zs f N m n (tgK f g (k+1)) (k+1)) _
     rw[hnext,ZDi _ _ _ _ _ _ _ _ hL]
     refine⟨fun l hl=>if_neg (by have:NG=64:=rfl; omega),⟨⟨rfl,ZE (Z4 _),rfl,?_⟩,Zch (fun l hl=>by show Nat.blt l 69=true; exact YW (by omega)) (fun l hl=>if_neg (by omega)) zs f N m n rfl rfl rfl rfl⟩,rfl,⟨⟨rfl,?_⟩,⟨rfl,Nat.le_refl _⟩,⟨rfl,Nat.le_refl _⟩,trivial⟩,?_,by show 69≤69; omega,fun l hl=>QD hl,Zk5 _ _ (by show 69≤69; omega) _ _,fun y hy hrw => ?_⟩
     ·exact⟨rfl,rfl,trivial,by show _=List.map _ (ZcB _); rw[ZP (Z4 _)]; try rfl⟩
     ·exact Nat.le_refl _
     ·exact⟨⟨by kernel_rfl,by kernel_rfl⟩,⟨by kernel_rfl,by kernel_rfl⟩,⟨by kernel_rfl,by kernel_rfl⟩,⟨by kernel_rfl,by kernel_rfl⟩,⟨by kernel_rfl,by kernel_rfl⟩,trivial⟩
     ·rcases List.mem_cons.1 hy with rfl|hy
      ·cases hrw
      ·left; exact hroW (toσ 68 68) (fun l hl=>if_neg (by omega)) y hy
   ·have hnext:tgK f g (k+1)=tgK f g k++[(16*g+k)*16]:=by show(bif f (16*g+k) then _ else _)=_; rw[hf]; rfl
    have hr:=ZH0.v g zs f N m n (tgK f g k) k
    simp only[e1,e2,e5,tN,Zoc] at hr
    have hn1:(tgK f g k).length+1=(tgK f g k++[(16*g+k)*16]).length:=by rw[List.length_append]; rfl
    refine⟨_,_,.normal,_,3,fun l=>Nat.blt l 69,toσ 68 70,hbase,hr,?_,.inl ⟨rfl,⟨k+1,by omega⟩,by show 16-(k+1)<16-k; omega,rfl,rfl,?_⟩⟩
    ·show cond _ _ _
     rw[Qr,Zod,Nat.mul_one,Nat.beq_refl]
     show cond _ _ _
     rw[Nat.ble_eq_true_of_le (by omega),YW (by omega)]
     simp only[b1,b2,d1,hf,v1,v2,QN,qT4.v,cond_true]
    ·show Sf.Leads 3 _ _ _ _ (tgS g zs f N m n (tgK f g (k+1)) (k+1)) _
     rw[hnext,ZDi _ _ _ _ _ _ _ _ (by simp)]
     refine⟨fun l hl=>if_neg (by have:NG=64:=rfl; omega),⟨⟨rfl,ZE (Z4 _),rfl,?_⟩,Zch (fun l hl=>by show Nat.blt l 69=true; exact YW (by omega)) (fun l hl=>if_neg (by omega)) zs f N m n rfl rfl rfl rfl⟩,rfl,⟨⟨rfl,?_⟩,⟨rfl,Nat.le_refl _⟩,⟨rfl,Nat.le_refl _⟩,trivial⟩,?_,by show 69≤69; omega,fun l hl=>QD hl,Zk5 _ _ (by show 69≤69; omega) _ _,fun y hy hrw => ?_⟩
     ·exact⟨rfl,rfl,trivial,by show _=List.map _ (ZcB _); rw[ZP (Z4 _)]; try rfl⟩
     ·exact Nat.le_of_eq hn1.symm
     ·rw[hn1]; exact⟨⟨by kernel_rfl,by kernel_rfl⟩,⟨by kernel_rfl,by kernel_rfl⟩,⟨by kernel_rfl,by kernel_rfl⟩,⟨by kernel_rfl,by kernel_rfl⟩,⟨by kernel_rfl,by kernel_rfl⟩,trivial⟩
     ·rcases List.mem_cons.1 hy with rfl|hy
      ·cases hrw
      ·left; exact hroW (toσ 68 70) (fun l hl=>if_neg (by omega)) y hy
 ·have hkk:k=16:=by omega
  subst hkk
  show ∃ call T e g' d p σ,Zs Tryz.prog call∧evC Tryz.prog call _ 41 100 _ (Sf.frT 41 (tgS g zs f N m n (tgK f g 16) 16) T)=some (e,g')∧g'.s.O∧(_∨(e ≠ .normal∧e = .exit 0∧Sf.Leads d p σ (tgS g zs f N m n (tgK f g 16) 16) g' (tgF (tgK f g 16)) (tgF (tgK f g 16))))
  generalize tgK f g 16=L
  cases L with
  | nil =>
   have hr:=ZHY.v g zs f N m n 16
   exact⟨_,_,.exit 0,_,3,fun l=>Nat.blt l 68,id,hbase,hr,⟨trivial,rfl⟩,.inr ⟨by simp,rfl,⟨fun _ _=>rfl,trivial,rfl,trivial,⟨⟨by kernel_rfl,by kernel_rfl⟩,trivial⟩,Nat.le_refl _,fun l hl=>QD hl,Zk5 _ _ (by show 68≤69; omega) _ _,fun x hx=>by cases hx⟩⟩⟩
  | cons x l =>
   have hr:=ZH1.v g zs f N m n (x::l) 16
   refine⟨_,_,.exit 0,_,3,fun l=>Nat.blt l 70,toσ 69 68,hbase,hr,⟨trivial,rfl⟩,.inr ⟨by simp,rfl,⟨fun l hl=>if_neg (by have:NG=64:=rfl; omega),⟨⟨rfl,ZE (Z4 _),rfl,?_⟩,trivial⟩,rfl,⟨⟨rfl,Nat.le_refl _⟩,trivial⟩,⟨⟨by kernel_rfl,by kernel_rfl⟩,trivial⟩,by show 69≤70; omega,fun l hl=>QD hl,Zk5 _ _ (by show 69≤69; omega) _ _,fun y hy hrw => ?_⟩⟩⟩
   ·exact⟨rfl,rfl,trivial,(ZP (Z4 _)).symm⟩
   ·obtain rfl:=List.mem_singleton.1 hy; cases hrw
def tgFy (tl:List Nat):Sf:=⟨70,[(5,.slice (some ⟨69,0,none⟩) tl.length (big+69))],[(69,tgP tl)],[(69,tl.length)]⟩
def ZNg (g:Nat) (zs:List UInt8) (f:Nat→Bool) (N m n:Nat) (tl:List Nat) (h:ArOk zs N m n) (hg:(g+1)*256≤N) (ht:tgK f g 16=tl) (hne:tl≠[]):Ent Tryz.prog :=
 ZoO Tryz.prog 47 0 41 (tgN g zs f N m n 0) (.exit 0) (tgFy tl) (by kernel_rfl) (by kernel_rfl) (by
  have:=ZDj g zs f N m n h hg ⟨0,by omega⟩
  have e:tgF (tgK f g 16)=tgFy tl:=by
   rw[ht]
   cases tl with
   | nil=>exact absurd rfl hne
   | cons x l=>rfl
  rw[e] at this
  exact this)
def ZcW:=QR W2
def ZvE:=Bx.mk @ZcW.eq_1
theorem ZH3 (g:Nat) (zs:List UInt8) (f:Nat→Bool) (N:Nat) (m:Nat) (n:Nat) (tl:List Nat) (h:ArOk zs N m n) (hg:(g+1)*256≤N) (ht:tgK f g 16=tl) (hne:tl≠[]):evF Tryz.prog Zc (ZbL [ZNg g zs f N m n tl h hg ht hne]) 100 40 47 [QG,Z1 g] (Zgt 68 (ZnG zs f N m n) (arO N n) [ZkI 13] 0)=JC (Kv tl.length) 70 [(69,Zh7 69 tl),(67,Zfl N),(66,ZbQ m n),(65,KX (65,1) (ZdU f n)),(64,Ku (64,1) zs)] [(69,tl.length),(65,n),(64,N)] 14 (Vl (Uc (Zqy g (Znk (QW N) Yz))) (Za0 Yq ZcW ZcW (ZhS (Jb (QW g)) (16*g)) ZcH) (Vl (Wy (Zmk N)) (Wy (Zmj m n)) (Wy (ZnF f n (ZdU f n))) (Wy (ZhJ zs zs))) (JO (n≤n) (N≤N))):=by kernel_rfl
def tg_y:=Bx.mk (by have h:=@ZH3;simp(maxSteps:=99999999) only[Zx.v,ZD.v,ZO.v,X0.v,Ud.v,Zp.v,Zo.v,Zq.v,Zy.v,ZA.v,Uo.v,ZfV.v,Zdo.v,ZvE.v,-eq_self] at h;exact h)
theorem ZvF (g:Nat) (zs:List UInt8) (f:Nat→Bool) (N m n:Nat) (tl:List Nat) (h:ArOk zs N m n) (hg:(g+1)*256≤N) (ht:tgK f g 16=tl) (hne:tl≠[]):ConOk Tryz.prog 47 3 (ZNf g zs f N m n tl):=by
 obtain⟨hl,h1,h2,h3,h4⟩:=h
 have hr:=tg_y.v g zs f N m n tl ⟨hl,h1,h2,h3,h4⟩ hg ht hne
 have e1:i64.wrap ((i64.wrap ((g:Int)*(256:Int))).tdiv (16:Int))=((16*g:Nat):Int):=by
  rw[show(g:Int)*(256:Int)=((g*256:Nat):Int) by omega,XL _ (by omega),Vj,XL _ (by omega)]
  omega
 have e2:i64.wrap ((N:Int).tdiv (256:Int))=((N/256:Nat):Int):=by rw[show(N:Int).tdiv (256:Int)=((N/256:Nat):Int) from(Int.ofNat_tdiv N 256).symm,XL _ (by omega)]
 refine Qn (Zm (L:=100) Zg (Zf _) (Wh _) 40) ⟨by show 64≤68; omega,by show 68≤69; omega,Zas ZhC false zs f N m n,rfl,rfl,rfl,rfl,rfl,fun x hx v hv => ?_⟩ hr ?_ (p:=fun l=>Nat.blt l 69) (σ:=toσ 68 69) ⟨fun l hl=>if_neg (by have:NG=64:=rfl; omega),⟨⟨rfl,ZE (Z4 _),rfl,?_⟩,trivial⟩,rfl,trivial,⟨rfl,by kernel_rfl⟩,rfl,⟨⟨rfl,rfl,ZY (Z4 _)⟩,trivial⟩,rfl,Q5 3 _ rfl,fun x hx hrw => ?_⟩
 ·obtain rfl:=List.mem_singleton.1 hx
  exact Yy (Z4 _ v hv) 3
 ·simp only[e1,e2,and_true,true_and,and_self,Nat.le_refl]
  exact dF (by omega)
 ·exact⟨rfl,rfl,trivial,(ZP (Z4 _)).symm⟩
 ·obtain rfl:=List.mem_singleton.1 hx
  right; rfl
def lcL (a:Nat) (l:List UInt8) (k:Bool) (x:Cp) (m n:Nat) (f:Nat→Bool):Sy.Steps:=[(70,98,ZL0 (a/16) m n f,[64,65,66,67]),(69,98,ZL0 (a/16) m n f,[64,65,66,67]),(70,99,Con.pure [.string ⟨⟨l⟩⟩,.bool k] (.tuple ⟨[x.val,.bool true]⟩),[]),(69,99,Con.pure [.string ⟨⟨l⟩⟩,.bool k] (.tuple ⟨[x.val,.bool true]⟩),[])]
def ZjW (a:Int):=Zqx (u8.wrap a)
def ZvG (a b:Int):=Zvy (Zfd Zr a b)
def ZaD (a:Nat) (b:Int):=Zek a*b
def ZaE (a:Nat):=ZaD a Yz
def Zci (a b:Nat):=ZvG (ZaE a) (QW b)
def Up (a:List Value) (b:Prop):=Zd5 a QB b
def ZeX:=Bx.mk (aI @ZjW.eq_1 (aI @ZvG.eq_1 (aI @ZaD.eq_1 (aI @ZaE.eq_1 (aI @Zci.eq_1 @Up.eq_1)))))
theorem ZDk (b0:UInt8) (b1:UInt8) (b2:UInt8) (b3:UInt8) (b4:UInt8) (b5:UInt8) (b6:UInt8) (b7:UInt8) (b8:UInt8) (b9:UInt8) (b10:UInt8) (b11:UInt8) (b12:UInt8) (b13:UInt8) (b14:UInt8) (b15:UInt8) (c:Cp) (k:Bool):obs (evF Tryz.prog (Zk 3 (Za [(94,46,XV c.val k,[])]) Zc) Zb 100 20 99 [YX [b0,b1,b2,b3,b4,b5,b6,b7,b8,b9,b10,b11,b12,b13,b14,b15],QB] Zd2)=Up (Zhn (Jq (Zc5 (Zc8 (Zek b3.toNat) KO) (ZaD b2.toNat Wk)) (ZaE b1.toNat) (QW b0.toNat)) (ZjW (Uh (QW b4.toNat))) (Zci b6.toNat b5.toNat) (Zci b8.toNat b7.toNat) (Zci b10.toNat b9.toNat) (Zci b12.toNat b11.toNat) (Ww (Zc5 (Zfd Zr (ZaE b14.toNat) (QW b13.toNat)) (Uh (QW b15.toNat)*Wk))) k) (JJ (ZM (ZaJ (Zhn (Jq (Zc5 (Zc8 (Zek b3.toNat) KO) (ZaD b2.toNat Wk)) (ZaE b1.toNat) (QW b0.toNat)) (ZjW (Uh (QW b4.toNat))) (Zci b6.toNat b5.toNat) (Zci b8.toNat b7.toNat) (Zci b10.toNat b9.toNat) (Zci b12.toNat b11.toNat) (Jq (Uh (ZaE b14.toNat)) (QW b13.toNat) (Uh (QW b15.toNat)*Wk)) false)) c.C c.E c.B c.T c.P c.Y c.R c.V)):=by kernel_rfl
def ZNh:=Bx.mk (by have h:=@ZDk;simp(maxSteps:=99999999) only[Zx.v,ZF.v,ZD.v,ZO.v,X0.v,ZR.v,Zw.v,ZH.v,Zl.v,Zq.v,Yi.v,Yj.v,QA.v,YV.v,Z5.v,ZA.v,WY.v,Xd.v,Zvz.v,Zn8.v,ZeX.v,-eq_self] at h;exact h)
theorem ZDl (b0:UInt8) (b1:UInt8) (b2:UInt8) (b3:UInt8) (b4:UInt8) (b5:UInt8) (b6:UInt8) (b7:UInt8) (b8:UInt8) (b9:UInt8) (b10:UInt8) (b11:UInt8) (b12:UInt8) (b13:UInt8) (b14:UInt8) (b15:UInt8) (c:Cp) (k:Bool):obs (evF Tryz.prog (Zk 3 (Za [(94,46,XV c.val k,[])]) Zc) Zb 100 20 99 [YX [b0,b1,b2,b3,b4,b5,b6,b7,b8,b9,b10,b11,b12,b13,b14,b15],Xe] Zd2)=Up (Zhn (Ww (Zc5 (Zfd (Zc8 (Zek b3.toNat) KO) (ZaD b2.toNat Wk) (ZaE b1.toNat)) (QW b0.toNat))) (ZjW (Uh (QW b4.toNat))) (Zci b6.toNat b5.toNat) (Zci b8.toNat b7.toNat) (Zci b10.toNat b9.toNat) (Zci b12.toNat b11.toNat) (Jq (Uh (ZaE b14.toNat)) (QW b13.toNat) (Uh (QW b15.toNat)*Wk)) false) True:=by kernel_rfl
def ZNi:=Bx.mk (by have h:=@ZDl;simp(maxSteps:=99999999) only[Zx.v,ZF.v,ZD.v,ZO.v,ZU.v,X0.v,Zw.v,Zq.v,Yj.v,QA.v,YV.v,Z5.v,ZA.v,WY.v,Zvz.v,Zn8.v,ZeX.v,-eq_self] at h;exact h)
def Zh8 (a b:Int):=u32.wrap (a+b)
def Zoe (a b:Int):=(Zh8 a b).toNat
def Zcj (a:Value) (b c d:Prop):=Zb0 a (Xl b c d)
def Zg1 (a:Nat) (b:Int):=Zoe (QW a) b
def Zhr:=Bx.mk (aI @Zh8.eq_1 (aI @Zoe.eq_1 (aI @Zcj.eq_1 @Zg1.eq_1)))
theorem ZDm (a:Nat) (zs:List UInt8) (f:Nat→Bool) (N:Nat) (m:Nat) (n:Nat) (l:List UInt8) (k:Bool) (x:Cp):obs (evF Tryz.prog (Zk 3 (Za (lcL a l k x m n f)) Zc) Zb 100 40 48 [QG,ZX a] (KT zs f N m n N n 34 12884901383))=Zcj (Z6 x.C x.E x.B x.T x.P x.Y x.R x.V) (ZlU (ZaM ((Jn (Za5 (Zg1 a YD) a) (YZ a) (u8s zs)).all Zwj) (WK (YZ a+Za5 (Zg1 a YD) a) (u8s zs)) (Jm (KQ a&&ZgN a (Zg1 a YD)) (Zh8 (QW a) YD) (ZeS (Zh8 (QW a) YD) N) (QF (Zc3 (Zc3 (Zfb (ZdS (ZcL (VI (WM ((ZbW a==Zr)=true)))) N) N N) N N N N) N N N N∧(ZbW a==Zr)=true) (!decide (Vu a≤VF N YD)))∧ZhT a N=true)) (X4 (JO Qc (ZgO a (a/16))) (Y0 m n m f n (QP f n (fun l=>l.blt 68) 70)) (QO n))) (YX (List.map ZAd (Jn (Za5 (Zg1 a YD) a) (YZ a) (u8s zs)))=YX l) (Value.bool (f (a/16))=Value.bool k):=by kernel_rfl
def ZNj:=Bx.mk (by have h:=@ZDm;simp(maxSteps:=99999999) only[Zx.v,ZF.v,ZD.v,ZO.v,ZU.v,ZR.v,Zp.v,Zw.v,ZH.v,Zl.v,ZB.v,Zo.v,Zq.v,Z2.v,Zhr.v,-eq_self] at h;exact h)
def ofS (l:List UInt8) (v:Bool):Cp :=
 ⟨ZFb l 0,byA l 4,byA l 6*256+byA l 5,byA l 8*256+byA l 7,byA l 10*256+byA l 9,byA l 12*256+byA l 11,byA l 14*256+byA l 13+byA l 15*65536,
  v&&WO (byA l 4) (byA l 6*256+byA l 5) (byA l 8*256+byA l 7) (byA l 10*256+byA l 9) (byA l 12*256+byA l 11) (byA l 14*256+byA l 13+byA l 15*65536)⟩
theorem orB (x y k:Nat) (hx:x<2^k) (hy:y%2^k=0) (h:x+y<4294967296):bits .or .u32 (x:Int) (y:Int)=((x+y:Nat):Int):=by
 show u32.wrap ((BitVec.ofInt 32 (x:Int)|||BitVec.ofInt 32 (y:Int)).toNat:Int)=_
 rw[BitVec.toNat_or,BitVec.ofInt_natCast,BitVec.ofInt_natCast,BitVec.toNat_ofNat,BitVec.toNat_ofNat,Nat.mod_eq_of_lt (by omega),Nat.mod_eq_of_lt (by omega),Nat.or_comm,ZAq y x k hy hx,Nat.add_comm,Kw _ h]
theorem or_4 (b0 b1 b2 b3:Nat) (h0:b0<256) (h1:b1<256) (h2:b2<256) (h3:b3<256):bits .or .u32 (bits .or .u32 (bits .or .u32 (u32.wrap (u32.wrap (b3:Int)*(16777216:Int))) (u32.wrap (u32.wrap (b2:Int)*(65536:Int)))) (u32.wrap (u32.wrap (b1:Int)*(256:Int)))) (u32.wrap (b0:Int))=((b3*16777216+b2*65536+b1*256+b0:Nat):Int):=by
 rw[Kw b3 (by omega),Kw b2 (by omega),Kw b1 (by omega),Kw b0 (by omega),show(b3:Int)*(16777216:Int)=((b3*16777216:Nat):Int) by omega,show(b2:Int)*(65536:Int)=((b2*65536:Nat):Int) by omega,show(b1:Int)*(256:Int)=((b1*256:Nat):Int) by omega,
  Kw (b3*16777216) (by omega),Kw (b2*65536) (by omega),Kw (b1*256) (by omega),orA _ _ 24 (by omega) (by omega) (by omega),orA _ _ 16 (by omega) (by omega) (by omega),orA _ _ 8 (by omega) (by omega) (by omega)]
theorem ZH4 (b0 b1:Nat) (h0:b0<256) (h1:b1<256):bits .or .u32 (bits .or .u32 (0:Int) (u32.wrap (u32.wrap (b1:Int)*(256:Int)))) (u32.wrap (b0:Int))=((b1*256+b0:Nat):Int):=by
 rw[Kw b1 (by omega),Kw b0 (by omega),show(b1:Int)*(256:Int)=((b1*256:Nat):Int) by omega,Kw (b1*256) (by omega),ZGo _ (by omega),orA _ _ 8 (by omega) (by omega) (by omega)]
theorem or_1 (b0:Nat) (h0:b0<256):bits .or .u32 (0:Int) (u32.wrap (b0:Int))=(b0:Int):=by rw[Kw b0 (by omega),ZGo _ (by omega)]
theorem Zof (n:Nat) (h:n<65536):u16.wrap (n:Int)=(n:Int):=by simp only[IntKind.wrap_u16]; omega
theorem u8_s (n:Nat) (h:n<256):u8.wrap (n:Int)=(n:Int):=by simp only[IntKind.wrap_u8]; omega
theorem or_R (b13 b14 b15:Nat) (h0:b13<256) (h1:b14<256) (h2:b15<256):bits .or .u32 ((b14*256+b13:Nat):Int) (u32.wrap ((b15:Int)*(65536:Int)))=((b14*256+b13+b15*65536:Nat):Int):=by
 rw[show(b15:Int)*(65536:Int)=((b15*65536:Nat):Int) by omega,Kw _ (by omega),orB _ _ 16 (by omega) (by omega) (by omega)]
theorem ZAU (l:List UInt8) (v:Bool):(ofS l v).Ok:=by
 have h:=J8 l
 have h0:=h 0; have h1:=h 1; have h2:=h 2; have h3:=h 3; have h4:=h 4; have h5:=h 5; have h6:=h 6; have h7:=h 7; have h8:=h 8; have h9:=h 9; have h10:=h 10; have h11:=h 11; have h12:=h 12; have h13:=h 13; have h14:=h 14; have h15:=h 15
 unfold Cp.Ok ZcJ ofS ZFb
 simp only[Nat.zero_add]
 omega
theorem ZvH (l:List UInt8) (hl:l.length=16) (v:Bool):ConOk Tryz.prog 99 3 (Con.pure [.string ⟨⟨l⟩⟩,.bool v] (.tuple ⟨[(ofS l v).val,.bool true]⟩)):=by
 match l,hl with
 | [b0,b1,b2,b3,b4,b5,b6,b7,b8,b9,b10,b11,b12,b13,b14,b15],_ =>
  have h0:=b0.toNat_lt; have h1:=b1.toNat_lt; have h2:=b2.toNat_lt; have h3:=b3.toNat_lt; have h4:=b4.toNat_lt; have h5:=b5.toNat_lt; have h6:=b6.toNat_lt; have h7:=b7.toNat_lt; have h8:=b8.toNat_lt; have h9:=b9.toNat_lt; have h10:=b10.toNat_lt; have h11:=b11.toNat_lt; have h12:=b12.toNat_lt; have h13:=b13.toNat_lt; have h14:=b14.toNat_lt; have h15:=b15.toNat_lt
  have hok:=ZAU [b0,b1,b2,b3,b4,b5,b6,b7,b8,b9,b10,b11,b12,b13,b14,b15]
  have q1:=or_4 b0.toNat b1.toNat b2.toNat b3.toNat h0 h1 h2 h3
  have q2:=or_1 b4.toNat h4
  have q3:=ZH4 b5.toNat b6.toNat h5 h6
  have q4:=ZH4 b7.toNat b8.toNat h7 h8
  have q5:=ZH4 b9.toNat b10.toNat h9 h10
  have q6:=ZH4 b11.toNat b12.toNat h11 h12
  have q7:=ZH4 b13.toNat b14.toNat h13 h14
  have q8:=or_1 b15.toNat h15
  have q9:=or_R b13.toNat b14.toNat b15.toNat h13 h14 h15
  have e2:=u8_s b4.toNat h4
  have e3:=Zof (b6.toNat*256+b5.toNat) (by omega)
  have e4:=Zof (b8.toNat*256+b7.toNat) (by omega)
  have e5:=Zof (b10.toNat*256+b9.toNat) (by omega)
  have e6:=Zof (b12.toNat*256+b11.toNat) (by omega)
  cases v
  ·have hr:=ZNi.v b0 b1 b2 b3 b4 b5 b6 b7 b8 b9 b10 b11 b12 b13 b14 b15 U1 true
   rw[q1,q2,q3,q4,q5,q6,q7,q8,q9,e2,e3,e4,e5,e6] at hr
   refine Qj (d:=1) (Zm (L:=100) Zg (Zn (Zj fun x hx => ?_) (Zf _)) (Zh _) 20) hr (by simp only[and_self]) rfl rfl
   obtain rfl:=List.mem_singleton.1 hx
   exact⟨ZeN U1 ⟨by decide,by decide,by decide,by decide,by decide,by decide,by decide⟩,⟨fun x hx=>by cases hx⟩⟩
  ·have hr:=ZNh.v b0 b1 b2 b3 b4 b5 b6 b7 b8 b9 b10 b11 b12 b13 b14 b15 { ofS [b0,b1,b2,b3,b4,b5,b6,b7,b8,b9,b10,b11,b12,b13,b14,b15] true with V:=false } (ofS [b0,b1,b2,b3,b4,b5,b6,b7,b8,b9,b10,b11,b12,b13,b14,b15] true).V
   rw[q1,q2,q3,q4,q5,q6,q7,q8,q9,e2,e3,e4,e5,e6] at hr
   refine Qj (d:=1) (Zm (L:=100) Zg (Zn (Zj fun x hx => ?_) (Zf _)) (Zh _) 20) hr ?_ rfl rfl
   ·obtain rfl:=List.mem_singleton.1 hx
    exact⟨ZeN { ofS [b0,b1,b2,b3,b4,b5,b6,b7,b8,b9,b10,b11,b12,b13,b14,b15] true with V:=false } (hok true),⟨fun x hx=>by cases hx⟩⟩
   ·refine⟨trivial,trivial,⟨?_,trivial⟩,trivial,trivial⟩
    rfl
theorem ZvI (a:Nat) (zs:List UInt8) (f:Nat→Bool) (N m n:Nat) (h:ArOk zs N m n) (ha:a%16=0) (ha2:a+16≤N):ConOk Tryz.prog 48 3 (lcC a (ofS ((zs.drop a).take 16) (f (a/16))) zs f N m n):=by
 obtain⟨hl,h1,h2,h3,h4⟩:=h
 have hr:=ZNj.v a zs f N m n ((zs.drop a).take 16) (f (a/16)) (ofS ((zs.drop a).take 16) (f (a/16)))
 have et:(a:Int).tmod (16:Int)=((a%16:Nat):Int):=(Int.ofNat_tmod a 16).symm
 have e1:u32.wrap ((a:Int)+(16:Int))=((a+16:Nat):Int):=by rw[show(a:Int)+(16:Int)=((a+16:Nat):Int) by omega,Kw _ (by omega)]
 have e2:a+16-a=16:=by omega
 have e4:i64.wrap ((N:Int)-(16:Int))=((N-16:Nat):Int):=by rw[show(N:Int)-(16:Int)=((N-16:Nat):Int) by omega,XL _ (by omega)]
 have v1:∀ (σ:Nat→Nat),(v64 (Zd f n)).map (rnV σ 3)=v64 (Zd f n):=fun σ=>ZP (Qp _)
 have v2:∀ (p:Nat→Bool),(v64 (Zd f n)).all (okV p 3)=true:=fun p=>ZE (Qp _)
 have hlen:((zs.drop a).take 16).length=16:=by rw[List.length_take,List.length_drop,hl]; omega
 have hb:Zs Tryz.prog (Zk 3 (Za (lcL a ((zs.drop a).take 16) (f (a/16)) (ofS ((zs.drop a).take 16) (f (a/16))) m n f)) Zc):=by
  refine Zn (Zj fun z hz => ?_) (Zf _)
  simp only[lcL,List.mem_cons,List.not_mem_nil,or_false] at hz
  rcases hz with rfl|rfl|rfl|rfl
  ·exact⟨ZoU (a/16) m n f (by omega) h2 h3,⟨fun x hx=>by cases hx⟩⟩
  ·exact⟨ZoU (a/16) m n f (by omega) h2 h3,⟨fun x hx=>by cases hx⟩⟩
  ·exact⟨ZvH _ hlen _,⟨fun x hx=>by cases hx⟩⟩
  ·exact⟨ZvH _ hlen _,⟨fun x hx=>by cases hx⟩⟩
 refine(VJ (Zm (L:=100) Zg hb (Zh _) 40) rfl rfl rfl hr ?_).1
 simp(disch:=omega) only[et,ha,e1,e2,e4,XL,Vj,tN,Nat.zero_add,Nat.mul_one,ZlS,Zgx,ZdH,Y6,hl,v1,v2,QN,ZdG,lR,dF,qT6.v,cond_true]
 rfl
def Zem (a:Nat):=ZaD a Yg
def Zck (a b:Nat):=ZvG (Zem a) (ZaE b)
def VR (a:Prop):=ZdW a Ze Ze
def Zmu:=Bx.mk (aI @Zem.eq_1 (aI @Zck.eq_1 @VR.eq_1))
theorem ZDn (b0:UInt8) (b1:UInt8) (b2:UInt8) (b3:UInt8) (b4:UInt8) (b5:UInt8) (b6:UInt8) (b7:UInt8) (b8:UInt8) (b9:UInt8) (b10:UInt8) (b11:UInt8) (b12:UInt8) (b13:UInt8) (b14:UInt8) (b15:UInt8) (c:Cp) (k:Bool):obs (evF Tryz.prog (Zk 3 (Za [(66,96,XV c.val k,[])]) Zc) Zb 100 20 167 [YX [b0,b1,b2,b3,b4,b5,b6,b7,b8,b9,b10,b11,b12,b13,b14,b15],QB] (Zu 27 125229918))=Up (Zhn (Jq (Zfd Zr (Zem b0.toNat) (ZaE b1.toNat)) (ZaD b2.toNat Wk) (ZaD b3.toNat KO)) (ZjW (Uh (Zem b4.toNat))) (Zck b5.toNat b6.toNat) (Zck b7.toNat b8.toNat) (Zck b9.toNat b10.toNat) (Zck b11.toNat b12.toNat) (Jq (Uh (Zem b13.toNat)) (ZaE b14.toNat) (ZaD b15.toNat Wk)) k) (ZL (XQ (VR (Zbq (VR (VR (VR (VR (WB (Zbv W0)))))) Ze)) (ZM (ZaJ (Zhn (Jq (Zfd Zr (Zem b0.toNat) (ZaE b1.toNat)) (ZaD b2.toNat Wk) (ZaD b3.toNat KO)) (ZjW (Uh (Zem b4.toNat))) (Zck b5.toNat b6.toNat) (Zck b7.toNat b8.toNat) (Zck b9.toNat b10.toNat) (Zck b11.toNat b12.toNat) (Jq (Uh (Zem b13.toNat)) (ZaE b14.toNat) (ZaD b15.toNat Wk)) false)) c.C c.E c.B c.T c.P c.Y c.R c.V))):=by kernel_rfl
def ZNk:=Bx.mk (by have h:=@ZDn;simp(maxSteps:=99999999) only[Zx.v,ZF.v,ZD.v,ZO.v,ZU.v,ZR.v,Zw.v,Zl.v,Zq.v,Yj.v,QA.v,ZA.v,Zea.v,Zmo.v,WY.v,Zvz.v,Zn8.v,ZeX.v,Zmu.v,-eq_self] at h;exact h)
theorem ZDo (b0:UInt8) (b1:UInt8) (b2:UInt8) (b3:UInt8) (b4:UInt8) (b5:UInt8) (b6:UInt8) (b7:UInt8) (b8:UInt8) (b9:UInt8) (b10:UInt8) (b11:UInt8) (b12:UInt8) (b13:UInt8) (b14:UInt8) (b15:UInt8) (c:Cp) (k:Bool):obs (evF Tryz.prog Zc Zb 100 20 167 [YX [b0,b1,b2,b3,b4,b5,b6,b7,b8,b9,b10,b11,b12,b13,b14,b15],Xe] (Zu 27 7789406))=Up (Zhn (Jq (Zfd Zr (Zem b0.toNat) (ZaE b1.toNat)) (ZaD b2.toNat Wk) (ZaD b3.toNat KO)) (ZjW (Uh (Zem b4.toNat))) (Zck b5.toNat b6.toNat) (Zck b7.toNat b8.toNat) (Zck b9.toNat b10.toNat) (Zck b11.toNat b12.toNat) (Jq (Uh (Zem b13.toNat)) (ZaE b14.toNat) (ZaD b15.toNat Wk)) false) (Ka (Zbq (VR (VR (VR (VR (WB (Zbv W0)))))) Ze)):=by kernel_rfl
def ZNl:=Bx.mk (by have h:=@ZDo;simp(maxSteps:=99999999) only[Zx.v,ZF.v,ZD.v,ZO.v,ZU.v,Zw.v,Zl.v,ZB.v,Zo.v,Zq.v,Yj.v,QA.v,ZA.v,Zea.v,Zmo.v,Zvz.v,Zn8.v,ZeX.v,Zmu.v,-eq_self] at h;exact h)
def ZjX (a:List UInt8) (b:Nat→Bool) (c d:Nat):=arR false a b c d
def Yv (a:List UInt8) (b:Nat→Bool) (c d e f g h:Nat):=ZdK 67 (ZjX a b c d) e f g h
def Zfm (a:Nat) (b:Int):=(ZbY a b).toNat
def XN:=Bx.mk (aI @ZjX.eq_1 (aI @Yv.eq_1 @Zfm.eq_1))
theorem ZH5 (a:Nat) (zs:List UInt8) (f:Nat→Bool) (N:Nat) (m:Nat):obs (evF Tryz.prog Zc Zb 100 20 65 (Vm ZN a Wm) (Yv zs f N m N m 34 4831837247))=Zb0 (Ww (Uh (Zc7 zs (0+Zfm a Zr*1)*Yg))) (Y5 (Jm (Zau (0+Zfm a Zr*1+1) zs J7 zs (0+Zfm a Zr*1)) (ZbY a Zr) (YO (ZbY a Zr) N) (XS (V9 (Ue (WN (WN (Jh (ZL (WA (Q6 (JP (Zbv (WM Ze)))))) Yg N N) Yg N N N N) Yg N N N N) Yg N)) (!decide (Vu a≤VF N Yg))))):=by kernel_rfl
def rl_1:=Bx.mk (by have h:=@ZH5;simp(maxSteps:=99999999) only[Zx.v,ZF.v,ZD.v,ZO.v,ZU.v,ZR.v,Zp.v,ZH.v,Zl.v,ZB.v,Zo.v,Zq.v,Zy.v,Yj.v,QA.v,UA.v,Zmo.v,XN.v,-eq_self] at h;exact h)
def Zfn (a:Nat) (b:Int):=ZdE (Vu a) b
def Zcl (a:Nat) (b:Int):=(Zfn a b).toNat
def ZH7:=Bx.mk (aI @Zfn.eq_1 @Zcl.eq_1)
theorem ZH6 (a:Nat) (zs:List UInt8) (f:Nat→Bool) (N:Nat) (m:Nat):obs (evF Tryz.prog Zc Zb 100 20 65 (Vm ZN a Jl) (Yv zs f N m N m 35 13421771832))=Zb0 (Jq Zr (Zc7 zs (0+Zfm a Zr*1)*Yg) (Zc7 zs (0+Zcl a 1*1)*Yz)) (Y5 (Jm (Zau (0+Zcl a 1*1+1) zs J7 zs (0+Zcl a 1*1)) (Zfn a 1) (YO (Zfn a 1) N) (ZL (Jm (Zau (0+Zfm a Zr*1+1) zs J7 zs (0+Zfm a Zr*1)) (ZbY a Zr) (YO (ZbY a Zr) N) (XS (V9 (WN (WN (Jh (Ue (ZL (ZdV (JP (Q6 ZcT)))) ZW N) ZW N N) ZW N N N N) ZW N N N N)) (!decide (Vu a≤VF N ZW))))))):=by kernel_rfl
def rl_2:=Bx.mk (by have h:=@ZH6;simp(maxSteps:=99999999) only[Zx.v,ZF.v,V7.v,ZD.v,ZO.v,ZU.v,ZR.v,Zp.v,XB.v,Zl.v,ZB.v,Zo.v,Zq.v,Zy.v,Yj.v,QA.v,QX.v,UA.v,Js.v,ZnZ.v,XN.v,ZH7.v,-eq_self] at h;exact h)
def Zcm:=X5 W0
def Zir:=Bx.mk @Zcm.eq_1
theorem ZH8 (a:Nat) (zs:List UInt8) (f:Nat→Bool) (N:Nat) (m:Nat):obs (evF Tryz.prog Zc Zb 100 20 65 (Vm ZN a Kn) (Yv zs f N m N m 37 64961379328))=Zb0 (Jq (Zfd Zr (Zc7 zs (0+Zfm a Zr*1)*Yg) (Zc7 zs (0+Zcl a 1*1)*Yz)) (Zc7 zs (0+Zcl a 2*1)*Wk) (Zc7 zs (0+Zcl a 3*1)*KO)) (Y5 (Jm (Zau (0+Zcl a 3*1+1) zs J7 zs (0+Zcl a 3*1)) (Zfn a 3) (YO (Zfn a 3) N) (ZL (Jm (Zau (0+Zcl a 2*1+1) zs J7 zs (0+Zcl a 2*1)) (Zfn a 2) (YO (Zfn a 2) N) (ZL (Jm (Zau (0+Zcl a 1*1+1) zs J7 zs (0+Zcl a 1*1)) (Zfn a 1) (YO (Zfn a 1) N) (ZL (Jm (Zau (0+Zfm a Zr*1+1) zs J7 zs (0+Zfm a Zr*1)) (ZbY a Zr) (YO (ZbY a Zr) N) (XS (V9 (Jh (Ue (WN (WN (WA (ZcM Zcm)) VY N N N N) VY N N N N) VY N) VY N N)) (!decide (Vu a≤VF N VY))))))))))):=by kernel_rfl
def rl_4:=Bx.mk (by have h:=@ZH8;simp(maxSteps:=99999999) only[Zx.v,ZF.v,V7.v,ZD.v,ZO.v,ZU.v,ZR.v,Zp.v,Zl.v,ZB.v,Zo.v,Zq.v,Zy.v,Yj.v,QA.v,YV.v,XN.v,ZH7.v,Zir.v,-eq_self] at h;exact h)
def Zk6 (a:List Value) (b:Nat):=Z0 (ZBJ a b)
def ZvJ (a:Nat→Bool) (b c:Nat):=Zk6 (bls a b) c
def Zmv:=Bx.mk (aI @Zk6.eq_1 @ZvJ.eq_1)
theorem ZDp (a:Nat) (zs:List UInt8) (f:Nat→Bool) (N:Nat) (m:Nat) (l:List UInt8) (x:Cp) (k:Bool):obs (evF Tryz.prog (Zk 3 (Za [(69,167,ZqZ (YX l) (Value.bool k) [x.val,QB],[])]) Zc) Zb 100 20 107 [ZN,ZX a] (Yv zs f N m N m 26 37748728))=Zcj (Z6 x.C x.E x.B x.T x.P x.Y x.R x.V) (ZdJ (Jd (0+ZhQ a*1+1) (bls f m) Zam (0+ZhQ a*1)) (UF (ZhP a) (YO (ZhP a) m)) ((Jn (Za5 (Zg1 a YD) a) (YZ a) (u8s zs)).all Zwj) (WK (YZ a+Za5 (Zg1 a YD) a) (u8s zs)) (Jm (KQ a&&ZgN a (Zg1 a YD)) (Zh8 (QW a) YD) (ZeS (Zh8 (QW a) YD) N) (JE (Zc3 (Zfb (ZdS (Zc3 (ZcK (Zbp (ZbW a !=Zr))) N N N N) N) N N) N N N N) (ZbW a !=Zr) (!decide (Vu a≤VF N YD)))∧ZhT a N=true)) (YX (List.map ZAd (Jn (Za5 (Zg1 a YD) a) (YZ a) (u8s zs)))=YX l) (Value.bool (ZvJ f m (0+ZhQ a*1))=Value.bool k):=by kernel_rfl
def ZNm:=Bx.mk (by have h:=@ZDp;simp(maxSteps:=99999999) only[Zx.v,ZF.v,ZD.v,ZO.v,ZU.v,X0.v,ZR.v,Zp.v,Zw.v,Zl.v,Zo.v,Zq.v,Z2.v,Z5.v,Zmt.v,Zhr.v,XN.v,Zmv.v,-eq_self] at h;exact h)
def Zsr (args:List Value) (v:Value) (zs:List UInt8) (f:Nat→Bool) (N m:Nat):Con:=⟨args,67,arR false zs f N m,Zf2 N m,v,67,[],[]⟩
theorem Qt {call:QM} (hc:Zs Tryz.prog call) {fn:FuncId} {args:List Value} {v v':Value} {zs:List UInt8} {f:Nat→Bool} {N m:Nat} {T:List (Nat×Bool)} {q:Prop} (ha:args.all (okV (fun l=>Nat.blt l 67) 3)=true) (hv:XD v=true) (hu:isU v=false) (h:obs (call fn args ⟨67,arR false zs f N m,Zf2 N m,0,T,0,True⟩)=some (v',q)) (hvv:v'=v) (hq:q) :
  ConOk Tryz.prog fn 3 (Zsr args v zs f N m)∧FlatC (Zsr args v zs f N m):=by
 subst hvv
 unfold obs at h
 obtain⟨⟨v',s'⟩,h1,h2⟩:=oM h
 simp only[Prod.mk.injEq] at h2
 obtain⟨rfl,rfl⟩:=h2
 have hok:=Zan (ltZ 67) false zs f N m (l:=[]) trivial
 rw[List.append_nil] at hok
 refine⟨Qn hc ⟨by show 64≤67; omega,Nat.le_refl _,hok,rfl,rfl,rfl,ha,Q8 hv 1,fun x hx=>by cases hx⟩ h1 hq (p:=fun l=>Nat.blt l 67) (σ:=id) ?_,⟨fun x hx=>by cases hx⟩⟩
 exact⟨fun _ _=>rfl,trivial,rfl,trivial,⟨Q8 hv 1,by rw[JB]; rfl⟩,hu,trivial,rfl,Xk _ hv,fun x hx=>by cases hx⟩
theorem w1 (b:Nat) (h:b<4294967296):u32.wrap (u32.wrap (b:Int)*(1:Int))=(b:Int):=by rw[Kw b h,Int.mul_one,Kw b h]
theorem wk (b k:Nat) (h:b*k<4294967296) (hb:b<4294967296):u32.wrap (u32.wrap (b:Int)*(k:Int))=((b*k:Nat):Int):=by rw[Kw b hb,show(b:Int)*(k:Int)=((b*k:Nat):Int) by simp,Kw _ h]
theorem Zwr (b0:Nat) (h0:b0<256):bits .or .u32 (0:Int) (u32.wrap (u32.wrap (b0:Int)*(1:Int)))=(b0:Int):=by rw[w1 b0 (by omega),ZGo _ (by omega)]
theorem ZAV (b0 b1:Nat) (h0:b0<256) (h1:b1<256):bits .or .u32 (b0:Int) (u32.wrap (u32.wrap (b1:Int)*(256:Int)))=((b1*256+b0:Nat):Int):=by
 rw[show(256:Int)=((256:Nat):Int) from rfl,wk b1 256 (by omega) (by omega),orB _ _ 8 (by omega) (by omega) (by omega),Nat.add_comm]
theorem ZNn (b1 b2:Nat) (h1:b1<65536) (h2:b2<256):bits .or .u32 (b1:Int) (u32.wrap (u32.wrap (b2:Int)*(65536:Int)))=((b1+b2*65536:Nat):Int):=by
 rw[show(65536:Int)=((65536:Nat):Int) from rfl,wk b2 65536 (by omega) (by omega),orB _ _ 16 (by omega) (by omega) (by omega)]
theorem le_4 (b1 b3:Nat) (h1:b1<16777216) (h3:b3<256):bits .or .u32 (b1:Int) (u32.wrap (u32.wrap (b3:Int)*(16777216:Int)))=((b1+b3*16777216:Nat):Int):=by
 rw[show(16777216:Int)=((16777216:Nat):Int) from rfl,wk b3 16777216 (by omega) (by omega),orB _ _ 24 (by omega) (by omega) (by omega)]
theorem ZDq (l:List UInt8) (hl:l.length=16) (v:Bool):Qi 167 [.string ⟨⟨l⟩⟩,.bool v] (.tuple ⟨[(ofS l v).val,.bool true]⟩):=by
 match l,hl with
 | [b0,b1,b2,b3,b4,b5,b6,b7,b8,b9,b10,b11,b12,b13,b14,b15],_ =>
  have h0:=b0.toNat_lt
  have h1:=b1.toNat_lt
  have h2:=b2.toNat_lt
  have h3:=b3.toNat_lt
  have h4:=b4.toNat_lt
  have h5:=b5.toNat_lt
  have h6:=b6.toNat_lt
  have h7:=b7.toNat_lt
  have h8:=b8.toNat_lt
  have h9:=b9.toNat_lt
  have h10:=b10.toNat_lt
  have h11:=b11.toNat_lt
  have h12:=b12.toNat_lt
  have h13:=b13.toNat_lt
  have h14:=b14.toNat_lt
  have h15:=b15.toNat_lt
  have hok:=ZAU [b0,b1,b2,b3,b4,b5,b6,b7,b8,b9,b10,b11,b12,b13,b14,b15]
  have k0:=Zwr b0.toNat h0
  have k1:=ZAV b0.toNat b1.toNat h0 h1
  have k2:=ZNn (b1.toNat*256+b0.toNat) b2.toNat (by omega) h2
  have k3:=le_4 (b1.toNat*256+b0.toNat+b2.toNat*65536) b3.toNat (by omega) h3
  have k3e:b1.toNat*256+b0.toNat+b2.toNat*65536+b3.toNat*16777216=ZFb [b0,b1,b2,b3,b4,b5,b6,b7,b8,b9,b10,b11,b12,b13,b14,b15] 0:=by
   show _=b3.toNat*16777216+b2.toNat*65536+b1.toNat*256+b0.toNat; omega
  have k4:=Zwr b4.toNat h4
  have k5:=Zwr b5.toNat h5
  have k6:=ZAV b5.toNat b6.toNat h5 h6
  have k7:=Zwr b7.toNat h7
  have k8:=ZAV b7.toNat b8.toNat h7 h8
  have k9:=Zwr b9.toNat h9
  have k10:=ZAV b9.toNat b10.toNat h9 h10
  have k11:=Zwr b11.toNat h11
  have k12:=ZAV b11.toNat b12.toNat h11 h12
  have k13:=Zwr b13.toNat h13
  have k14:=ZAV b13.toNat b14.toNat h13 h14
  have k15:=ZNn (b14.toNat*256+b13.toNat) b15.toNat (by omega) h15
  have e2:=u8_s b4.toNat h4
  have e3:=Zof (b6.toNat*256+b5.toNat) (by omega)
  have e4:=Zof (b8.toNat*256+b7.toNat) (by omega)
  have e5:=Zof (b10.toNat*256+b9.toNat) (by omega)
  have e6:=Zof (b12.toNat*256+b11.toNat) (by omega)
  cases v
  ·have hr:=ZNl.v b0 b1 b2 b3 b4 b5 b6 b7 b8 b9 b10 b11 b12 b13 b14 b15 U1 true
   rw[k0,k1,k2,k3,k4,k5,k6,k7,k8,k9,k10,k11,k12,k13,k14,k15,e2,e3,e4,e5,e6,k3e] at hr
   exact Zi QH hr rfl (by simp only[and_self]) rfl rfl
  ·have hr:=ZNk.v b0 b1 b2 b3 b4 b5 b6 b7 b8 b9 b10 b11 b12 b13 b14 b15 { ofS [b0,b1,b2,b3,b4,b5,b6,b7,b8,b9,b10,b11,b12,b13,b14,b15] true with V:=false } (ofS [b0,b1,b2,b3,b4,b5,b6,b7,b8,b9,b10,b11,b12,b13,b14,b15] true).V
   rw[k0,k1,k2,k3,k4,k5,k6,k7,k8,k9,k10,k11,k12,k13,k14,k15,e2,e3,e4,e5,e6,k3e] at hr
   have hs:=Zl9 { ofS [b0,b1,b2,b3,b4,b5,b6,b7,b8,b9,b10,b11,b12,b13,b14,b15] true with V:=false } (hok true)
   refine Zi (Z3 ⟨hs,Zeh⟩) hr rfl ?_ rfl rfl
   simp only[and_self,true_and,and_true]
   rfl
def rldC (w a:Nat) (zs:List UInt8) (f:Nat→Bool) (N m:Nat):Con:=Zsr [.pointer (some ⟨66,0,none⟩),.int .u32 (a:Nat),.int .i64 (w:Nat)] (.tuple ⟨[.int .u32 (ZkT w zs a:Nat),.bool true]⟩) zs f N m
theorem Zpt (w a:Nat) (zs:List UInt8) (f:Nat→Bool) (N m:Nat) (hl:zs.length=N) (hN:N≤262144) (hw:w=1∨w=2∨w=4) (ha2:a+w≤N):ConOk Tryz.prog 65 3 (rldC w a zs f N m)∧FlatC (rldC w a zs f N m):=by
 have q0:=J8 zs a; have q1:=J8 zs (a+1); have q2:=J8 zs (a+2); have q3:=J8 zs (a+3)
 have g0:∀ k:Nat,k<4→a+k<N→(i64.wrap (i64.wrap (a:Int)+(k:Int)))=((a+k:Nat):Int):=fun k hk h=>by rw[XL a (by omega),show(a:Int)+(k:Int)=((a+k:Nat):Int) by omega,XL _ (by omega)]
 rcases hw with rfl|rfl|rfl
 ·have hr:=rl_1.v a zs f N m
  have dn:(!decide ((a:Int)≤i64.wrap ((N:Int)-(1:Int))))=false:=by
   rw[show(N:Int)-(1:Int)=((N-1:Nat):Int) by omega,XL _ (by omega),lR (by omega)]; rfl
  have g1:i64.wrap (i64.wrap (a:Int)+(0:Int))=((a+0:Nat):Int):=g0 0 (by omega) (by omega)
  simp only[g1,tN,Nat.zero_add,Nat.mul_one,Nat.add_zero,Zjd] at hr
  rw[Zwr (byA zs a) q0] at hr
  refine Qt QH rfl rfl rfl hr (rfl) ?_
  simp(disch:=omega) only[tN,Nat.zero_add,Nat.mul_one,Y6,Zaj,hl,lR,dF,qT8.v,cond_true,XL,dn]
 ·have hr:=rl_2.v a zs f N m
  have dn:(!decide ((a:Int)≤i64.wrap ((N:Int)-(2:Int))))=false:=by
   rw[show(N:Int)-(2:Int)=((N-2:Nat):Int) by omega,XL _ (by omega),lR (by omega)]; rfl
  have g1:i64.wrap (i64.wrap (a:Int)+(0:Int))=((a+0:Nat):Int):=g0 0 (by omega) (by omega)
  have g2:i64.wrap (i64.wrap (a:Int)+(1:Int))=((a+1:Nat):Int):=g0 1 (by omega) (by omega)
  simp only[g1,g2,tN,Nat.zero_add,Nat.mul_one,Nat.add_zero,Zjd] at hr
  rw[Zwr (byA zs a) q0,ZAV (byA zs a) (byA zs (a+1)) q0 q1] at hr
  refine Qt QH rfl rfl rfl hr (rfl) ?_
  simp(disch:=omega) only[tN,Nat.zero_add,Nat.mul_one,Y6,Zaj,hl,lR,dF,qT8.v,cond_true,XL,dn]
 ·have hr:=rl_4.v a zs f N m
  have dn:(!decide ((a:Int)≤i64.wrap ((N:Int)-(4:Int))))=false:=by
   rw[show(N:Int)-(4:Int)=((N-4:Nat):Int) by omega,XL _ (by omega),lR (by omega)]; rfl
  have g1:i64.wrap (i64.wrap (a:Int)+(0:Int))=((a+0:Nat):Int):=g0 0 (by omega) (by omega)
  have g2:i64.wrap (i64.wrap (a:Int)+(1:Int))=((a+1:Nat):Int):=g0 1 (by omega) (by omega)
  have g3:i64.wrap (i64.wrap (a:Int)+(2:Int))=((a+2:Nat):Int):=g0 2 (by omega) (by omega)
  have g4:i64.wrap (i64.wrap (a:Int)+(3:Int))=((a+3:Nat):Int):=g0 3 (by omega) (by omega)
  have k4:byA zs (a+1)*256+byA zs a+byA zs (a+2)*65536+byA zs (a+3)*16777216=ZkT 4 zs a:=by
   show _=byA zs (a+3)*16777216+byA zs (a+2)*65536+byA zs (a+1)*256+byA zs a; omega
  simp only[g1,g2,g3,g4,tN,Nat.zero_add,Nat.mul_one,Nat.add_zero,Zjd] at hr
  rw[Zwr (byA zs a) q0,ZAV (byA zs a) (byA zs (a+1)) q0 q1,ZNn (byA zs (a+1)*256+byA zs a) (byA zs (a+2)) (by omega) q2,le_4 (byA zs (a+1)*256+byA zs a+byA zs (a+2)*65536) (byA zs (a+3)) (by omega) q3,k4] at hr
  refine Qt QH rfl rfl rfl hr (rfl) ?_
  simp(disch:=omega) only[tN,Nat.zero_add,Nat.mul_one,Y6,Zaj,hl,lR,dF,qT8.v,cond_true,XL,dn]
def ZLK (a:Nat) (x:Cp) (zs:List UInt8) (f:Nat→Bool) (N m:Nat):Con:=Zsr [.pointer (some ⟨66,0,none⟩),.int .u32 (a:Nat)] (.tuple ⟨[x.val,.bool true]⟩) zs f N m
theorem ZDr (a:Nat) (zs:List UInt8) (f:Nat→Bool) (N m:Nat) (hl:zs.length=N) (hN:N≤262144) (hm:N≤m*16) (ha:a%16=0) (ha2:a+16≤N):ConOk Tryz.prog 107 3 (ZLK a (ofS ((zs.drop a).take 16) (f (a/16))) zs f N m)∧FlatC (ZLK a (ofS ((zs.drop a).take 16) (f (a/16))) zs f N m):=by
 have hlen:((zs.drop a).take 16).length=16:=by rw[List.length_take,List.length_drop,hl]; omega
 have hr:=ZNm.v a zs f N m ((zs.drop a).take 16) (ofS ((zs.drop a).take 16) (f (a/16))) (f (a/16))
 have et:(a:Int).tmod (16:Int)=((a%16:Nat):Int):=(Int.ofNat_tmod a 16).symm
 have ed:(a:Int).tdiv (16:Int)=((a/16:Nat):Int):=(Int.ofNat_tdiv a 16).symm
 have e1:u32.wrap ((a:Int)+(16:Int))=((a+16:Nat):Int):=by rw[show(a:Int)+(16:Int)=((a+16:Nat):Int) by omega,Kw _ (by omega)]
 have e2:a+16-a=16:=by omega
 have e4:i64.wrap ((N:Int)-(16:Int))=((N-16:Nat):Int):=by rw[show(N:Int)-(16:Int)=((N-16:Nat):Int) by omega,XL _ (by omega)]
 have e5:u32.wrap ((a/16:Nat):Int)=((a/16:Nat):Int):=Kw _ (by omega)
 have hget:Zt undef (bls f m) (a/16) = .bool (f (a/16)):=ZoV f m (a/16) (by omega)
 have hlike:Zz [Value.bool false] (bls f m) (a/16)=true:=by
  unfold Zz Zz
  rw[hget]; rfl
 have hhas:WK (a/16+1) (bls f m)=true:=by rw[ZfM]; exact lR (by omega)
 have dm:decide (((a/16:Nat):Int)<(m:Int))=true:=lR (by omega)
 have d0:decide ((0:Int)≤((a/16:Nat):Int))=true:=lR (by omega)
 refine Qt (Z3 (ZDq _ hlen _)) rfl rfl rfl hr rfl ?_
 simp(disch:=omega) only[et,ed,ha,e1,e2,e4,e5,hget,hlike,hhas,dm,d0,XL,tN,Nat.zero_add,Nat.mul_one,ZlS,Zgx,ZdH,Y6,hl,ZdG,lR,dF,qT6.v,cond_true]
 exact⟨rfl,rfl⟩
def btC (t0 t1 t2 t3:Nat):List Value:=[.int .u32 (t0:Nat),.int .u32 (t1:Nat),.int .u32 (t2:Nat),.int .u32 (t3:Nat)]
def biI (a b t0 t1 t2 t3 v i:Nat):Sf:=⟨65,[(0,.int .u32 (a:Nat)),(1,.int .u32 (b:Nat)),(5,.pointer (some ⟨64,0,none⟩)),(7,.int .u32 (v:Nat)),(8,.int .i64 (i:Nat))],[(64,⟨true,none,btC t0 t1 t2 t3,none⟩)],[]⟩
def biF (v:Nat):Sf:=⟨65,[(7,.int .u32 (v:Nat))],[],[]⟩
def Zq0 (a:Int):=Zc8 Yg a
def Zen (a:Nat) (b c:Int):=(Zum a (Zq0 b)).tmod c
def Zpu (a b:Bool) (c:Prop):=Zns a b a c
def ZAW:=Bx.mk (aI @Zq0.eq_1 (aI @Zen.eq_1 @Zpu.eq_1))
theorem ZH9 (a:Nat) (b:Nat) (t0:Nat) (t1:Nat) (t2:Nat) (t3:Nat) (v:Nat) (i:Nat):Option.map (Zei 37 [0,1,5,7,8] [64]) (evC Tryz.prog (evF Tryz.prog Zc Zb 100 20) (Zb 109) 37 100 (Qe Tryz.prog 109 0) (Sf.frT 37 (biI a b t0 t1 t2 t3 v i) [KR]))=ZaC 37 [(0,ZX a),(1,ZX b),(5,Ze1 64),(7,ZkR (QW v) (JF (btC t0 t1 t2 t3) (0+Zoe (Zc8 ZW (Zen a (ZW^min (ZcF i) 32) ZW)) (Zen b (ZW^min (ZcF i) 32) ZW)*1)*Zq0 (ZW^min (ZcF i) 32))),VQ 8 i] 65 [(64,Vi (btC t0 t1 t2 t3))] [] 0 (W8 (KQ i) (Jm (Jd (0+Zoe (Zc8 ZW (Zen a (ZW^min (ZcF i) 32) ZW)) (Zen b (ZW^min (ZcF i) 32) ZW)*1+1) (btC t0 t1 t2 t3) ZqX (0+Zoe (Zc8 ZW (Zen a (ZW^min (ZcF i) 32) ZW)) (Zen b (ZW^min (ZcF i) 32) ZW)*1)) (Zh8 (Zc8 ZW (Zen a (ZW^min (ZcF i) 32) ZW)) (Zen b (ZW^min (ZcF i) 32) ZW)) (Zgs (Zh8 (Zc8 ZW (Zen a (ZW^min (ZcF i) 32) ZW)) (Zen b (ZW^min (ZcF i) 32) ZW)) 4) (Zpu (!decide (Zq0 (ZW^min (ZcF i) 32)=Zr)) (KQ i) (Vt (Zgs (QW i) 32=true))))):=by kernel_rfl
def bi_s:=Bx.mk (by have h:=@ZH9;simp(maxSteps:=99999999) only[Zx.v,ZF.v,V7.v,ZD.v,ZR.v,Ud.v,Zl.v,YV.v,Z2.v,Z5.v,ZA.v,ZcV.v,Uo.v,Zhr.v,ZAW.v,-eq_self] at h;exact h)
theorem ZIa (a:Nat) (b:Nat) (t0:Nat) (t1:Nat) (t2:Nat) (t3:Nat) (v:Nat) (i:Nat):Option.map (Zei 37 [7] []) (evC Tryz.prog (evF Tryz.prog Zc Zb 100 20) (Zb 109) 37 100 (Qe Tryz.prog 109 0) (Sf.frT 37 (biI a b t0 t1 t2 t3 v i) [W1]))=some (Ze7,Zc1 37 [(7,ZX v)] 65 [] [] 0 (Uc (Zgs (QW i) 32))):=by kernel_rfl
def bi_e:=Bx.mk (by have h:=@ZIa;simp(maxSteps:=99999999) only[Zx.v,ZD.v,X0.v,ZR.v,Ud.v,-eq_self] at h;exact h)
theorem ZIb (a:Nat) (b:Nat):obs (evF Tryz.prog Zc Zb 100 20 60 (Y8 3 a b) (Vk [KR]))=Vn [U3 ((u64.wrap (Qv a+Qv b)).tmod ZhD),Yk,QB] (Vt Ze):=by kernel_rfl
def r9_3:=Bx.mk (by have h:=@ZIb;simp(maxSteps:=99999999) only[Zx.v,ZF.v,V7.v,ZD.v,ZO.v,X0.v,ZR.v,Zp.v,Zq.v,Z2.v,Xh.v,Yn.v,-eq_self] at h;exact h)
theorem ZIc (a:Nat) (b:Nat):obs (evF Tryz.prog Zc Zb 100 20 60 (Y8 4 a b) (Vk [W1,Zc9]))=Vn [U3 ((u64.wrap (ZaX (Qv a) ZhD-Qv b)).tmod ZhD),Yk,QB] (ZL W0):=by kernel_rfl
def r9_4:=Bx.mk (by have h:=@ZIc;simp(maxSteps:=99999999) only[Zx.v,ZF.v,V7.v,ZD.v,ZO.v,X0.v,ZR.v,Zp.v,Zq.v,Ym.v,Z2.v,Xh.v,Yn.v,-eq_self] at h;exact h)
theorem ZId (a:Nat) (b:Nat):obs (evF Tryz.prog Zc Zb 100 20 60 (Y8 5 a b) (Vk [W1,ZbS,ZgB 2]))=Vn [U3 ((u64.wrap (Qv a*Qv b)).tmod ZhD),Yk,QB] (Yt W0):=by kernel_rfl
def r9_5:=Bx.mk (by have h:=@ZId;simp(maxSteps:=99999999) only[Zx.v,ZF.v,V7.v,ZD.v,ZO.v,ZU.v,X0.v,ZR.v,Zp.v,Zq.v,Z2.v,Xh.v,Zbw.v,Yn.v,-eq_self] at h;exact h)
def Zh9 (a b:Int):=a.tmod (b:Int)
def ZvK:=Bx.mk @Zh9.eq_1
theorem ZDs (a:Nat) (b:Nat):obs (evF Tryz.prog Zc Zb 100 20 60 (Y8 11 a b) (Zu 9 256))=Vn [U3 ((u64.wrap (Qv a*Zgz Yg (ZW^min (Zh9 (Qv b) 32).toNat 64))).tmod ZhD),Yk,QB] (W8 (Zgu (Zh9 (Qv b) 32)) (VI (Y5 W0))):=by kernel_rfl
def ZNo:=Bx.mk (by have h:=@ZDs;simp(maxSteps:=99999999) only[Zx.v,ZF.v,V7.v,ZD.v,ZO.v,ZU.v,ZR.v,Zp.v,ZB.v,Zo.v,Zq.v,Z2.v,Xh.v,Yn.v,ZvK.v,-eq_self] at h;exact h)
theorem ZDt (a:Nat) (b:Nat):obs (evF Tryz.prog Zc Zb 100 20 60 (Y8 12 a b) (Zu 10 512))=Vn [Ww (u32.wrap (u64.wrap ((Qv a).tdiv (Zgz Yg (ZW^min (Zh9 (Qv b) 32).toNat 64))))),Yk,QB] (ZaM (!decide (Zgz Yg (ZW^min (Zh9 (Qv b) 32).toNat 64)=Zr)) (Zgu (Zh9 (Qv b) 32)) (ZL Zcm)):=by kernel_rfl
def ZNp:=Bx.mk (by have h:=@ZDt;simp(maxSteps:=99999999) only[Zx.v,ZF.v,V7.v,ZD.v,ZO.v,ZU.v,ZR.v,Zp.v,ZB.v,Zo.v,Zq.v,YV.v,Xh.v,Yn.v,Zir.v,ZvK.v,-eq_self] at h;exact h)
theorem ZIe (a:Nat) (b:Nat):obs (evF Tryz.prog Zc Zb 100 20 60 (Y8 6 a b) (Zu 5 8))=Vn [Ww (u32.wrap (u64.wrap ((Qv a).tdiv (Qv b)))),Yk,QB] (W8 (!decide (Qv b=Zr)) (QF ZcT (X7 b))):=by kernel_rfl
def r9_6:=Bx.mk (by have h:=@ZIe;simp(maxSteps:=99999999) only[Zx.v,ZF.v,ZD.v,ZO.v,ZU.v,ZR.v,Zp.v,ZB.v,Zq.v,Xh.v,QX.v,Js.v,Yn.v,ZnZ.v,XH.v,-eq_self] at h;exact h)
theorem ZDu (a:Nat) (b:Nat):obs (evF Tryz.prog Zc Zb 100 20 60 (Y8 6 a b) (Zu 5 24))=Vn [KC,ZcC 7,QB] (UR ZcT b):=by kernel_rfl
def ZNq:=Bx.mk (by have h:=@ZDu;simp(maxSteps:=99999999) only[Zx.v,ZF.v,ZD.v,ZO.v,ZU.v,ZR.v,Zp.v,ZB.v,Zq.v,ZA.v,QX.v,Js.v,Yn.v,ZnZ.v,XH.v,ZeW.v,-eq_self] at h;exact h)
theorem ZIf (a:Nat) (b:Nat):obs (evF Tryz.prog Zc Zb 100 20 60 (Y8 7 a b) (Zu 6 16))=Vn [U3 ((Qv a).tmod (Qv b)),Yk,QB] (W8 (!decide (Qv b=Zr)) (QF (WC W0) (X7 b))):=by kernel_rfl
def r9_7:=Bx.mk (by have h:=@ZIf;simp(maxSteps:=99999999) only[Zx.v,ZF.v,ZD.v,ZO.v,ZU.v,ZR.v,Zp.v,ZB.v,Zq.v,Z2.v,Xh.v,Ye.v,Yn.v,XH.v,-eq_self] at h;exact h)
theorem ZDv (a:Nat) (b:Nat):obs (evF Tryz.prog Zc Zb 100 20 60 (Y8 7 a b) (Zu 6 48))=Vn [KC,ZcC 7,QB] (ZnU W0 Ze (Zn7 b)):=by kernel_rfl
def ZNr:=Bx.mk (by have h:=@ZDv;simp(maxSteps:=99999999) only[Zx.v,ZF.v,ZD.v,ZO.v,ZU.v,ZR.v,Zp.v,ZB.v,Zq.v,ZA.v,Z7.v,Yn.v,XH.v,ZeW.v,-eq_self] at h;exact h)
theorem ZIg (a:Nat) (b:Nat) (v:Nat):obs (evF Tryz.prog (Zk 3 (Za [(64,109,Con.pure (Vm (ZX a) b (ZaJ (btC 0 0 0 1))) (ZX v),[])]) Zc) Zb 100 20 60 (Y8 8 a b) (Zu 6 32))=Vn [ZX v,Yk,QB] (Zn1 (JP W0) (Yl a) (Yl b) (QR (ZaJ [KC,KC,KC,Zaz]))):=by kernel_rfl
def r9_8:=Bx.mk (by have h:=@ZIg;simp(maxSteps:=99999999) only[Zx.v,ZF.v,ZD.v,ZO.v,ZU.v,ZR.v,Zp.v,Zw.v,ZB.v,Zo.v,Zq.v,ZA.v,UA.v,ZjR.v,Yn.v,ZcV.v,-eq_self] at h;exact h)
theorem ZIh (a:Nat) (b:Nat) (v:Nat):obs (evF Tryz.prog (Zk 3 (Za [(64,109,Con.pure (Vm (ZX a) b (ZaJ (btC 0 1 1 1))) (ZX v),[])]) Zc) Zb 100 20 60 (Y8 9 a b) (Zu 7 64))=Vn [ZX v,Yk,QB] (Zn1 (ZgX W0 Ze) (Yl a) (Yl b) (QR (ZaJ [KC,Zaz,Zaz,Zaz]))):=by kernel_rfl
def r9_9:=Bx.mk (by have h:=@ZIh;simp(maxSteps:=99999999) only[Zx.v,ZF.v,ZD.v,ZO.v,ZU.v,ZR.v,Zp.v,Zw.v,ZB.v,Zo.v,Zq.v,ZA.v,ZnV.v,ZjR.v,Yn.v,ZcV.v,-eq_self] at h;exact h)
theorem ZDw (a:Nat) (b:Nat) (v:Nat):obs (evF Tryz.prog (Zk 3 (Za [(64,109,Con.pure (Vm (ZX a) b (ZaJ (btC 0 1 1 0))) (ZX v),[])]) Zc) Zb 100 20 60 (Y8 10 a b) (Zu 8 128))=Vn [ZX v,Yk,QB] (Zn1 (VI W0) (Yl a) (Yl b) (QR (ZaJ [KC,Zaz,Zaz,KC]))):=by kernel_rfl
def ZNs:=Bx.mk (by have h:=@ZDw;simp(maxSteps:=99999999) only[Zx.v,ZF.v,ZD.v,ZO.v,ZU.v,ZR.v,Zp.v,Zw.v,ZB.v,Zo.v,Zq.v,ZA.v,ZjR.v,Yn.v,ZcV.v,-eq_self] at h;exact h)
def Wq (a:Nat):=Zgs (QW a) 2147483648
def Zbi:=Bx.mk @Wq.eq_1
theorem ZvL (a:Nat) (b:Nat):obs (evF Tryz.prog Zc Zb 100 20 60 (Y8 13 a b) (Zu 14 15360))=Vn [Zaz,Yk,QB] (ZqB Zcm Ze (Wq a=true) (Wq b=true) (decide (Vu a<Vu b)=true)):=by kernel_rfl
def ZDx:=Bx.mk (by have h:=@ZvL;simp(maxSteps:=99999999) only[Zx.v,ZF.v,ZD.v,ZO.v,ZU.v,ZR.v,Zp.v,ZB.v,Zo.v,Zq.v,Yj.v,YV.v,ZjR.v,Yn.v,Zir.v,Zbi.v,-eq_self] at h;exact h)
theorem Zss (a:Nat) (b:Nat):obs (evF Tryz.prog Zc Zb 100 20 60 (Y8 13 a b) (Zu 14 7168))=Vn [KC,Yk,QB] (QF (ZkP Zcm Ze (Wq a=true) (Wq b=true)) (decide (Vu a<Vu b))):=by kernel_rfl
def Zyc:=Bx.mk (by have h:=@Zss;simp(maxSteps:=99999999) only[Zx.v,ZF.v,ZD.v,ZO.v,ZU.v,ZR.v,Zp.v,ZB.v,Zo.v,Zq.v,YV.v,ZA.v,Yn.v,Zir.v,Zbi.v,-eq_self] at h;exact h)
def ZaF (a:Nat):=ZbM (Vu a) ZhD
def Zfo:=Bx.mk @ZaF.eq_1
theorem ZvM (a:Nat) (b:Nat):obs (evF Tryz.prog Zc Zb 100 20 60 (Y8 13 a b) (Zu 14 3072))=Vn [KC,Yk,QB] (J5 (ZdW Zcm Ze (Wq a=true)) (Wq b) (decide (Vu a<ZaF b))):=by kernel_rfl
def ZDy:=Bx.mk (by have h:=@ZvM;simp(maxSteps:=99999999) only[Zx.v,ZF.v,V7.v,ZD.v,ZO.v,ZU.v,ZR.v,Zp.v,ZB.v,Zo.v,Zq.v,YV.v,ZA.v,Yn.v,Zir.v,Zbi.v,Zfo.v,-eq_self] at h;exact h)
theorem ZvN (a:Nat) (b:Nat):obs (evF Tryz.prog Zc Zb 100 20 60 (Y8 13 a b) (Zu 14 13312))=Vn [Zaz,Yk,QB] (KP (Yt Zcm) (Wq a) (Wq b=true)∧decide (ZaF a<Vu b)=true):=by kernel_rfl
def ZDz:=Bx.mk (by have h:=@ZvN;simp(maxSteps:=99999999) only[Zx.v,ZF.v,V7.v,ZD.v,ZO.v,ZU.v,ZR.v,Zp.v,ZB.v,Zo.v,Zq.v,YV.v,Zbw.v,ZjR.v,Yn.v,Zir.v,Zbi.v,Zfo.v,-eq_self] at h;exact h)
theorem ZvO (a:Nat) (b:Nat):obs (evF Tryz.prog Zc Zb 100 20 60 (Y8 13 a b) (Zu 14 9216))=Vn [Zaz,Yk,QB] (J5 (Yt Zcm) (Wq a) (Wq b)∧decide (ZaF a<ZaF b)=true):=by kernel_rfl
def ZDA:=Bx.mk (by have h:=@ZvO;simp(maxSteps:=99999999) only[Zx.v,ZF.v,V7.v,ZD.v,ZO.v,ZU.v,ZR.v,Zp.v,ZB.v,Zo.v,Zq.v,YV.v,Zbw.v,ZjR.v,Yn.v,Zir.v,Zbi.v,Zfo.v,-eq_self] at h;exact h)
theorem Zst (a:Nat) (b:Nat):obs (evF Tryz.prog Zc Zb 100 20 60 (Y8 13 a b) (Zu 14 1024))=Vn [KC,Yk,QB] (ZdF (Yt Zcm) (Wq a) (Wq b) (decide (ZaF a<ZaF b))):=by kernel_rfl
def Zyd:=Bx.mk (by have h:=@Zst;simp(maxSteps:=99999999) only[Zx.v,ZF.v,V7.v,ZD.v,ZO.v,ZU.v,ZR.v,Zp.v,ZB.v,Zo.v,Zq.v,YV.v,ZA.v,Zbw.v,Yn.v,Zir.v,Zbi.v,Zfo.v,-eq_self] at h;exact h)
def Xw (a b:Nat):=YO (QW a) b
def UT:=Bx.mk @Xw.eq_1
theorem Zye (a:Nat) (b:Nat):obs (evF Tryz.prog Zc Zb 100 20 60 (Y8 14 a b) (Zu 13 6144))=Vn [Zaz,Yk,QB] (XU Zcm∧Xw a b=true):=by kernel_rfl
def ZIi:=Bx.mk (by have h:=@Zye;simp(maxSteps:=99999999) only[Zx.v,ZF.v,ZD.v,ZO.v,ZU.v,ZR.v,Zp.v,ZB.v,Zo.v,Zq.v,YV.v,QX.v,Js.v,ZjR.v,Yn.v,Zir.v,UT.v,-eq_self] at h;exact h)
theorem Zyf (a:Nat) (b:Nat):obs (evF Tryz.prog Zc Zb 100 20 60 (Y8 14 a b) (Zu 13 2048))=Vn [KC,Yk,QB] (QF (XU Zcm) (Xw a b)):=by kernel_rfl
def ZIj:=Bx.mk (by have h:=@Zyf;simp(maxSteps:=99999999) only[Zx.v,ZF.v,ZD.v,ZO.v,ZU.v,ZR.v,Zp.v,ZB.v,Zo.v,Zq.v,YV.v,ZA.v,QX.v,Js.v,Yn.v,Zir.v,UT.v,-eq_self] at h;exact h)
theorem Zyg (a:Nat) (b:Nat):obs (evF Tryz.prog Zc Zb 100 20 60 (Y8 15 a b) (Zu 14 12288))=Vn [Zaz,Yk,QB] (ZnU Zcm Ze (Zpl a b=true)):=by kernel_rfl
def ZIk:=Bx.mk (by have h:=@Zyg;simp(maxSteps:=99999999) only[Zx.v,ZF.v,ZD.v,ZO.v,ZU.v,ZR.v,Zp.v,ZB.v,Zo.v,Zq.v,YV.v,Z7.v,ZjR.v,Yn.v,Zir.v,-eq_self] at h;exact h)
theorem Zyh (a:Nat) (b:Nat):obs (evF Tryz.prog Zc Zb 100 20 60 (Y8 15 a b) (Zu 14 4096))=Vn [KC,Yk,QB] (QF (WC Zcm) (Zpl a b)):=by kernel_rfl
def ZIl:=Bx.mk (by have h:=@Zyh;simp(maxSteps:=99999999) only[Zx.v,ZF.v,ZD.v,ZO.v,ZU.v,ZR.v,Zp.v,ZB.v,Zo.v,Zq.v,YV.v,ZA.v,Ye.v,Yn.v,Zir.v,-eq_self] at h;exact h)
theorem ZIm (op:Int) (a:Nat) (b:Nat):obs (evF Tryz.prog Zc Zb 100 20 60 (ZnX (VD op) a b) (Zu 13 0))=Vn [KC,Yk,Xe] (QF (Zc6 (V0 True (ZQ op 3) (ZQ op 4) (ZQ op 5) op 6) (ZQ op 7) (ZQ op 8) (ZQ op 9) (ZQ op 10) (ZQ op 11) (ZQ op 12) (ZQ op 13) (ZQ op 14)) (ZQ op 15)):=by kernel_rfl
def r9_n:=Bx.mk (by have h:=@ZIm;simp(maxSteps:=99999999) only[Zx.v,ZF.v,ZU.v,YA.v,ZR.v,Zp.v,Zq.v,Zy.v,QA.v,Zdl.v,ZA.v,Yn.v,-eq_self] at h;exact h)
theorem Zyi (a:Nat) (b:Nat):obs (evF Tryz.prog Zc Zb 100 20 59 (Y8 25 a b) (Vk [KR]))=ZaA (Zpl a b) (Vt Ze):=by kernel_rfl
def ZIn:=Bx.mk (by have h:=@Zyi;simp(maxSteps:=99999999) only[Zx.v,ZF.v,ZD.v,ZO.v,X0.v,ZR.v,Zp.v,Zq.v,Yn.v,-eq_self] at h;exact h)
theorem Zyj (a:Nat) (b:Nat):obs (evF Tryz.prog Zc Zb 100 20 59 (Y8 26 a b) (Vk [W1,Zc9]))=ZaA (ZnL a (QW b)) (ZL W0):=by kernel_rfl
def ZIo:=Bx.mk (by have h:=@Zyj;simp(maxSteps:=99999999) only[Zx.v,ZF.v,ZD.v,ZO.v,X0.v,ZR.v,Zp.v,Zq.v,Ym.v,Yn.v,-eq_self] at h;exact h)
theorem Zsu (a:Nat) (b:Nat):obs (evF Tryz.prog Zc Zb 100 20 59 (Y8 27 a b) (Zu 5 28))=ZaA (decide (Vu a<Vu b)) (ZkP W0 Ze (Wq a=true) (Wq b=true)):=by kernel_rfl
def Zyk:=Bx.mk (by have h:=@Zsu;simp(maxSteps:=99999999) only[Zx.v,ZF.v,ZD.v,ZO.v,ZU.v,ZR.v,Zp.v,Zq.v,Yn.v,Zbi.v,-eq_self] at h;exact h)
theorem Zsv (a:Nat) (b:Nat):obs (evF Tryz.prog Zc Zb 100 20 59 (Y8 27 a b) (Zu 5 12))=ZaA (decide (Vu a<ZaF b)) (QF (ZdW W0 Ze (Wq a=true)) (Wq b)):=by kernel_rfl
def Zyl:=Bx.mk (by have h:=@Zsv;simp(maxSteps:=99999999) only[Zx.v,ZF.v,V7.v,ZD.v,ZO.v,ZU.v,ZR.v,Zp.v,Zq.v,Yn.v,Zbi.v,Zfo.v,-eq_self] at h;exact h)
theorem Zsw (a:Nat) (b:Nat):obs (evF Tryz.prog Zc Zb 100 20 59 (Y8 27 a b) (Zu 5 20))=ZaA (decide (ZaF a<Vu b)) (KP (Yt W0) (Wq a) (Wq b=true)):=by kernel_rfl
def Zym:=Bx.mk (by have h:=@Zsw;simp(maxSteps:=99999999) only[Zx.v,ZF.v,V7.v,ZD.v,ZO.v,ZU.v,ZR.v,Zp.v,Zq.v,Zbw.v,Yn.v,Zbi.v,Zfo.v,-eq_self] at h;exact h)
theorem Zsx (a:Nat) (b:Nat):obs (evF Tryz.prog Zc Zb 100 20 59 (Y8 27 a b) (Zu 5 4))=ZaA (decide (ZaF a<ZaF b)) (J5 (Yt W0) (Wq a) (Wq b)):=by kernel_rfl
def Zyn:=Bx.mk (by have h:=@Zsx;simp(maxSteps:=99999999) only[Zx.v,ZF.v,V7.v,ZD.v,ZO.v,ZU.v,ZR.v,Zp.v,Zq.v,Zbw.v,Yn.v,Zbi.v,Zfo.v,-eq_self] at h;exact h)
theorem Zsy (a:Nat) (b:Nat):obs (evF Tryz.prog Zc Zb 100 20 59 (Y8 28 a b) (Zu 6 56))=ZaA (decide (Vu a≥Vu b)) ((ZcT∧Wq a=true)∧Wq b=true):=by kernel_rfl
def Zyo:=Bx.mk (by have h:=@Zsy;simp(maxSteps:=99999999) only[Zx.v,ZF.v,ZD.v,ZO.v,ZU.v,ZR.v,Zp.v,ZB.v,Zq.v,QX.v,Js.v,Yn.v,ZnZ.v,Zbi.v,-eq_self] at h;exact h)
theorem Zsz (a:Nat) (b:Nat):obs (evF Tryz.prog Zc Zb 100 20 59 (Y8 28 a b) (Zu 6 24))=ZaA (decide (Vu a≥ZaF b)) (QF (ZcT∧Wq a=true) (Wq b)):=by kernel_rfl
def Zyp:=Bx.mk (by have h:=@Zsz;simp(maxSteps:=99999999) only[Zx.v,ZF.v,V7.v,ZD.v,ZO.v,ZU.v,ZR.v,Zp.v,ZB.v,Zq.v,QX.v,Js.v,Yn.v,ZnZ.v,Zbi.v,Zfo.v,-eq_self] at h;exact h)
theorem ZsA (a:Nat) (b:Nat):obs (evF Tryz.prog Zc Zb 100 20 59 (Y8 28 a b) (Zu 6 40))=ZaA (decide (ZaF a≥Vu b)) (KP ZcT (Wq a) (Wq b=true)):=by kernel_rfl
def Zyq:=Bx.mk (by have h:=@ZsA;simp(maxSteps:=99999999) only[Zx.v,ZF.v,V7.v,ZD.v,ZO.v,ZU.v,ZR.v,Zp.v,ZB.v,Zq.v,QX.v,Js.v,Yn.v,ZnZ.v,Zbi.v,Zfo.v,-eq_self] at h;exact h)
theorem ZsB (a:Nat) (b:Nat):obs (evF Tryz.prog Zc Zb 100 20 59 (Y8 28 a b) (Zu 6 8))=ZaA (decide (ZaF a≥ZaF b)) (J5 ZcT (Wq a) (Wq b)):=by kernel_rfl
def Zyr:=Bx.mk (by have h:=@ZsB;simp(maxSteps:=99999999) only[Zx.v,ZF.v,V7.v,ZD.v,ZO.v,ZU.v,ZR.v,Zp.v,ZB.v,Zq.v,QX.v,Js.v,Yn.v,ZnZ.v,Zbi.v,Zfo.v,-eq_self] at h;exact h)
theorem ZDB (op:Int) (a:Nat) (b:Nat):obs (evF Tryz.prog Zc Zb 100 20 59 (ZnX (VD op) a b) (Zu 4 0))=UK Xe Xe (V0 True (ZQ op 25) (ZQ op 26) (ZQ op 27) op 28):=by kernel_rfl
def ZNt:=Bx.mk (by have h:=@ZDB;simp(maxSteps:=99999999) only[Zx.v,ZF.v,ZU.v,YA.v,ZR.v,Zp.v,Zq.v,Zy.v,Zdl.v,Yn.v,-eq_self] at h;exact h)
def tbS (t0 t1 t2 t3 x y:Nat):Nat:=if x=0 then(if y=0 then t0 else t1) else(if y=0 then t2 else t3)
def btS (t0 t1 t2 t3 a b:Nat):Nat→Nat
 | 0=>0
 | k+1=>btS t0 t1 t2 t3 a b k+tbS t0 t1 t2 t3 (a/2^k%2) (b/2^k%2)*2^k
theorem ZAX {t0 t1 t2 t3:Nat} (h0:t0≤1) (h1:t1≤1) (h2:t2≤1) (h3:t3≤1) (x y:Nat):tbS t0 t1 t2 t3 x y≤1:=by unfold tbS; split<;>split<;>assumption
theorem ZvP {t0 t1 t2 t3:Nat} (h0:t0≤1) (h1:t1≤1) (h2:t2≤1) (h3:t3≤1) (a b:Nat):∀ k,btS t0 t1 t2 t3 a b k<2^k
 | 0=>Nat.one_pos
 | k+1=>by
  have ih:=ZvP h0 h1 h2 h3 a b k
  have ht:=ZAX h0 h1 h2 h3 (a/2^k%2) (b/2^k%2)
  have hm:tbS t0 t1 t2 t3 (a/2^k%2) (b/2^k%2)*2^k≤1*2^k:=Nat.mul_le_mul_right _ ht
  show btS t0 t1 t2 t3 a b k+tbS t0 t1 t2 t3 (a/2^k%2) (b/2^k%2)*2^k<2^(k+1)
  rw[Nat.pow_succ]; omega
theorem ZvQ (x k:Nat):x/2^k%2=(x.testBit k).toNat:=(Nat.toNat_testBit x k).symm
theorem Zq1 (g:Nat→Nat→Nat) (h:Bool→Bool→Bool) (hg:∀ a b k,(g a b).testBit k=h (a.testBit k) (b.testBit k)) (t0 t1 t2 t3:Nat) (ht:∀ x y:Bool,tbS t0 t1 t2 t3 x.toNat y.toNat=(h x y).toNat) (a b:Nat):∀ k,btS t0 t1 t2 t3 a b k=g a b%2^k
 | 0=>by rw[Nat.pow_zero,Nat.mod_one]; rfl
 | k+1=>by
  show btS t0 t1 t2 t3 a b k+tbS t0 t1 t2 t3 (a/2^k%2) (b/2^k%2)*2^k=_
  rw[Zq1 g h hg t0 t1 t2 t3 ht a b k,ZvQ a,ZvQ b,ht,← hg,← ZvQ,Nat.mod_pow_succ,Nat.mul_comm]
theorem ZIp (a b:Nat) (ha:a<4294967296):btS 0 0 0 1 a b 32=a&&&b:=by
 rw[Zq1 (fun x y=>x&&&y) (fun x y=>x&&y) (fun a b k=>Nat.testBit_and a b k) 0 0 0 1 (fun x y=>by cases x<;>cases y<;>rfl)]
 exact Nat.mod_eq_of_lt (Nat.lt_of_le_of_lt Nat.and_le_left ha)
theorem ZNu (a b:Nat) (ha:a<4294967296) (hb:b<4294967296):btS 0 1 1 1 a b 32=a|||b:=by
 rw[Zq1 (fun x y=>x|||y) (fun x y=>x||y) (fun a b k=>Nat.testBit_or a b k) 0 1 1 1 (fun x y=>by cases x<;>cases y<;>rfl)]
 exact Nat.mod_eq_of_lt (Nat.or_lt_two_pow (n:=32) ha hb)
theorem ZIq (a b:Nat) (ha:a<4294967296) (hb:b<4294967296):btS 0 1 1 0 a b 32=a ^^^ b:=by
 rw[Zq1 (fun x y=>x ^^^ y) (fun x y=>x ^^ y) (fun a b k=>Nat.testBit_xor a b k) 0 1 1 0 (fun x y=>by cases x<;>cases y<;>rfl)]
 exact Nat.mod_eq_of_lt (Nat.xor_lt_two_pow (n:=32) ha hb)
theorem Zys (a b:Nat) (ha:a<4294967296) (hb:b<4294967296):bits .and .u32 (a:Int) (b:Int)=((a&&&b:Nat):Int):=by
 show u32.wrap ((BitVec.ofInt 32 (a:Int)&&&BitVec.ofInt 32 (b:Int)).toNat:Int)=_
 rw[BitVec.toNat_and,BitVec.ofInt_natCast,BitVec.ofInt_natCast,BitVec.toNat_ofNat,BitVec.toNat_ofNat,Nat.mod_eq_of_lt (by omega),Nat.mod_eq_of_lt (by omega),Kw _ (Nat.lt_of_le_of_lt Nat.and_le_left ha)]
theorem ZDC (a b:Nat) (ha:a<4294967296) (hb:b<4294967296):bits .or .u32 (a:Int) (b:Int)=((a|||b:Nat):Int):=by
 show u32.wrap ((BitVec.ofInt 32 (a:Int)|||BitVec.ofInt 32 (b:Int)).toNat:Int)=_
 rw[BitVec.toNat_or,BitVec.ofInt_natCast,BitVec.ofInt_natCast,BitVec.toNat_ofNat,BitVec.toNat_ofNat,Nat.mod_eq_of_lt (by omega),Nat.mod_eq_of_lt (by omega),Kw _ (Nat.or_lt_two_pow (n:=32) ha hb)]
theorem Zyt (a b:Nat) (ha:a<4294967296) (hb:b<4294967296):bits .xor .u32 (a:Int) (b:Int)=((a ^^^ b:Nat):Int):=by
 show u32.wrap ((BitVec.ofInt 32 (a:Int) ^^^ BitVec.ofInt 32 (b:Int)).toNat:Int)=_
 rw[BitVec.toNat_xor,BitVec.ofInt_natCast,BitVec.ofInt_natCast,BitVec.toNat_ofNat,BitVec.toNat_ofNat,Nat.mod_eq_of_lt (by omega),Nat.mod_eq_of_lt (by omega),Kw _ (Nat.xor_lt_two_pow (n:=32) ha hb)]
theorem Zyu (i:Nat) (h:i<32):0<2^i∧2^i≤2147483648:=by
 refine⟨Nat.two_pow_pos i,?_⟩
 have:=Nat.pow_le_pow_right (n:=2) (by omega) (show i≤31 by omega)
 exact this
theorem Zq2 (t0 t1 t2 t3:Nat):∀ v∈btC t0 t1 t2 t3,Qm v=true:=fun v hv=>List.all_eq_true.1 (show(btC t0 t1 t2 t3).all Qm=true from rfl) v hv
theorem ZDD (t0 t1 t2 t3 x y:Nat) (hx:x<2) (hy:y<2):Zt undef (btC t0 t1 t2 t3) (2*x+y) = .int .u32 (tbS t0 t1 t2 t3 x y:Nat):=by
 have:x=0∨x=1:=by omega
 have:y=0∨y=1:=by omega
 rcases ‹x=0∨x=1› with rfl|rfl<;>rcases ‹y=0∨y=1› with rfl|rfl<;>rfl
theorem ZAY (v:Nat) (q:Nat→Bool):(biF v).Ok q:=Sf.Ok.mk' 3 trivial rfl (fun x hx=>by obtain rfl:=List.mem_singleton.1 hx; rfl)
theorem ZDE (a b t0 t1 t2 t3:Nat) (ha:a<4294967296) (hb:b<4294967296) (h0:t0≤1) (h1:t1≤1) (h2:t2≤1) (h3:t3≤1) :
  ∀ k:{ k:Nat // k≤32 },Vh Tryz.prog 37 (Qe Tryz.prog 109 0) ((biI a b t0 t1 t2 t3 (btS t0 t1 t2 t3 a b k.1) k.1).fr 37) (.exit 0) ((biF (btS t0 t1 t2 t3 a b 32)).fr 37):=by
 have wf:∀ v k,(biI a b t0 t1 t2 t3 v k).Wf:=fun v k=>⟨by show 64≤65; omega,Sf.Ok.mk' 3 ⟨⟨rfl,rfl,ZY (Zq2 _ _ _ _)⟩,trivial⟩ rfl (wfE (by rfl))⟩
 refine Zbg (L:=100) (Xb _ _ 109) (fun _ h=>h) (X:={ k:Nat // k≤32 }) (fun k=>biI a b t0 t1 t2 t3 (btS t0 t1 t2 t3 a b k.1) k.1) (fun _=>biF (btS t0 t1 t2 t3 a b 32)) (fun _ => .exit 0) (fun k=>32-k.1) (fun k=>wf _ _) ?_
 rintro⟨k,hk⟩
 by_cases hlt:k<32
 ·obtain⟨p0,p1⟩:=Zyu k hlt
  have hbt:=ZvP h0 h1 h2 h3 a b k
  have hbt2:=ZvP h0 h1 h2 h3 a b (k+1)
  have hp32:2^(k+1)≤4294967296:=Nat.pow_le_pow_right (n:=2) (by omega) (show k+1≤32 by omega)
  have ht:=ZAX h0 h1 h2 h3 (a/2^k%2) (b/2^k%2)
  have hn:btS t0 t1 t2 t3 a b (k+1)=btS t0 t1 t2 t3 a b k+tbS t0 t1 t2 t3 (a/2^k%2) (b/2^k%2)*2^k:=rfl
  have e3:i64.wrap ((k:Int)+(1:Int))=((k+1:Nat):Int):=QV k (by omega)
  have d1:decide ((k:Int)<(32:Int))=true:=lR (by omega)
  have d2:decide ((0:Int)≤(k:Int))=true:=lR (by omega)
  have eP:u32.wrap ((1:Int)*(2:Int)^min (k:Int).toNat 32)=((2^k:Nat):Int):=by
   rw[tN,Nat.min_eq_left (by omega),Int.one_mul,show(2:Int)^k=((2^k:Nat):Int) by rw[Int.natCast_pow]; rfl,Kw _ (by omega)]
  have hr:=bi_s.v a b t0 t1 t2 t3 (btS t0 t1 t2 t3 a b k) k
  simp only[eP] at hr
  generalize 2^k=d at *
  have hax:a/d≤a:=Nat.div_le_self _ _
  have hbx:b/d≤b:=Nat.div_le_self _ _
  have eA:(u32.wrap ((a:Int).tdiv (d:Int))).tmod (2:Int)=((a/d%2:Nat):Int):=by
   rw[show(a:Int).tdiv (d:Int)=((a/d:Nat):Int) from(Int.ofNat_tdiv a d).symm,Kw _ (by omega)]; exact(Int.ofNat_tmod (a/d) 2).symm
  have eB:(u32.wrap ((b:Int).tdiv (d:Int))).tmod (2:Int)=((b/d%2:Nat):Int):=by
   rw[show(b:Int).tdiv (d:Int)=((b/d:Nat):Int) from(Int.ofNat_tdiv b d).symm,Kw _ (by omega)]; exact(Int.ofNat_tmod (b/d) 2).symm
  have hx:a/d%2<2:=Nat.mod_lt _ (by omega)
  have hy:b/d%2<2:=Nat.mod_lt _ (by omega)
  simp only[eA,eB] at hr
  have hget:=ZDD t0 t1 t2 t3 (a/d%2) (b/d%2) hx hy
  generalize a/d%2=x at *
  generalize b/d%2=y at *
  have eI:u32.wrap (u32.wrap ((2:Int)*(x:Int))+(y:Int))=((2*x+y:Nat):Int):=by
   rw[show(2:Int)*(x:Int)=((2*x:Nat):Int) by omega,Kw _ (by omega),show((2*x:Nat):Int)+(y:Int)=((2*x+y:Nat):Int) by omega,Kw _ (by omega)]
  simp only[eI,tN,Nat.zero_add,Nat.mul_one,hget] at hr
  have hlike:Zz [Value.int u32 (0:Int)] (btC t0 t1 t2 t3) (2*x+y)=true:=by
   unfold Zz Zz
   rw[hget]; rfl
  have hhas:WK (2*x+y+1) (btC t0 t1 t2 t3)=true:=U2 _ _ (by show 2*x+y+1≤4; omega)
  have di0:decide ((0:Int)≤((2*x+y:Nat):Int))=true:=lR (by omega)
  have di4:decide (((2*x+y:Nat):Int)<(4:Int))=true:=lR (by omega)
  have dd:decide ((d:Int)=(0:Int))=false:=dF (by omega)
  generalize tbS t0 t1 t2 t3 x y=t at *
  have hmul:t*d≤1*d:=Nat.mul_le_mul_right _ ht
  have eV:u32.wrap ((btS t0 t1 t2 t3 a b k:Int)+u32.wrap (Qd (Value.int u32 (t:Int))*(d:Int)))=((btS t0 t1 t2 t3 a b (k+1):Nat):Int):=by
   show u32.wrap ((btS t0 t1 t2 t3 a b k:Int)+u32.wrap ((t:Int)*(d:Int)))=_
   rw[show(t:Int)*(d:Int)=((t*d:Nat):Int) by simp,Kw _ (by omega),show((btS t0 t1 t2 t3 a b k:Nat):Int)+((t*d:Nat):Int)=((btS t0 t1 t2 t3 a b k+t*d:Nat):Int) by omega,Kw _ (by omega),hn]
  simp only[eV,e3] at hr
  refine⟨_,_,_,_,.normal,_,3,fun l=>Nat.blt l 65,id,Zm (L:=100) Zg (Zf _) (Zh _) 20,hr,?_,.inl ⟨rfl,⟨k+1,by omega⟩,by show 32-(k+1)<32-k; omega,rfl,rfl,rfl,?_⟩⟩
  ·simp only[d1,d2,hhas,hlike,di0,di4,dd,Bool.not_false,Bool.and_self,cond_true,and_true,true_and,and_self]
  ·exact⟨fun _ _=>rfl,YF rfl (Zq2 _ _ _ _) rfl rfl trivial,rfl,trivial,by repeat' (first|exact trivial|refine⟨⟨by kernel_rfl,by kernel_rfl⟩,?_⟩),Nat.le_refl _,fun l hl=>QD hl,ZAY _ _,fun x _ _ => .inl rfl⟩
 ·have hkk:k=32:=by omega
  subst hkk
  have hr:=bi_e.v a b t0 t1 t2 t3 (btS t0 t1 t2 t3 a b 32) 32
  refine⟨_,_,_,_,.exit 0,_,3,fun l=>Nat.blt l 65,id,Zm (L:=100) Zg (Zf _) (Zh _) 20,hr,?_,.inr ⟨by simp,rfl,rfl,?_⟩⟩
  ·exact⟨trivial,rfl⟩
  ·exact⟨fun _ _=>rfl,trivial,rfl,trivial,by repeat' (first|exact trivial|refine⟨⟨by kernel_rfl,by kernel_rfl⟩,?_⟩),Nat.le_refl _,fun l hl=>QD hl,ZAY _ _,fun x hx=>by cases hx⟩
structure BtOk (a b t0 t1 t2 t3:Nat):Prop where
 a:a<4294967296
 b:b<4294967296
 h0:t0≤1
 h1:t1≤1
 h2:t2≤1
 h3:t3≤1
def ZNv (a b t0 t1 t2 t3 v:Nat) (h:BtOk a b t0 t1 t2 t3) (e:v=btS t0 t1 t2 t3 a b 32):Ent Tryz.prog :=
 ZoO Tryz.prog 109 0 37 (biI a b t0 t1 t2 t3 0 0) (.exit 0) (biF v) (by kernel_rfl) (by kernel_rfl) (by
  subst e
  exact ZDE a b t0 t1 t2 t3 h.a h.b h.h0 h.h1 h.h2 h.h3 ⟨0,Nat.zero_le _⟩)
theorem ZIr (a:Nat) (b:Nat) (t0:Nat) (t1:Nat) (t2:Nat) (t3:Nat) (v:Nat) (h:BtOk a b t0 t1 t2 t3) (e:v=btS t0 t1 t2 t3 a b 32):obs (evF Tryz.prog Zc (ZbL [ZNv a b t0 t1 t2 t3 v h e]) 100 20 109 (Vm (ZX a) b (ZaJ (btC t0 t1 t2 t3))) Zd2)=Wj (ZX v) (Vt (ZwX (Za0 (Yl a) (Yl b) (QR (Ze1 64)) (QR KC) ZcH) (Zhj (Ux (btC t0 t1 t2 t3))) True)):=by kernel_rfl
def bi_a:=Bx.mk (by have h:=@ZIr;simp(maxSteps:=99999999) only[Zx.v,ZF.v,ZD.v,ZO.v,X0.v,ZR.v,Zp.v,Zw.v,Z5.v,ZA.v,-eq_self] at h;exact h)
theorem Zmw (a b t0 t1 t2 t3:Nat) (h:BtOk a b t0 t1 t2 t3):Qi 109 [.int .u32 (a:Nat),.int .u32 (b:Nat),.agg ⟨btC t0 t1 t2 t3⟩] (.int .u32 (btS t0 t1 t2 t3 a b 32:Nat)) :=
 Zi (Zm (L:=100) Zg (Zf _) (Wh _) 20) (bi_a.v a b t0 t1 t2 t3 _ h rfl) rfl (by simp only[and_self]) rfl rfl
theorem Zyv {m:Int} (h:0≤m∧m<4294967296):((toU m:Nat):Int)=m:=by unfold toU; omega
theorem Zyw (x:Int):u32.wrap x=x%4294967296:=IntKind.wrap_u32 x
theorem Zq3 (x:Int):u64.wrap x=x%18446744073709551616:=IntKind.wrap_u64 x
theorem ZLL (x:Int) (h:0≤x):x.tmod (4294967296:Int)=x%4294967296:=Int.tmod_eq_emod_of_nonneg h
theorem Zmx {a:Nat} (h:a<2147483648):i64.wrap (a:Int)=wrap32 (a:Int):=by
 rw[XL a (by omega)]; unfold wrap32; omega
theorem Zmy {a:Nat} (h:¬ a<2147483648) (h2:a<4294967296):i64.wrap (i64.wrap (a:Int)-(4294967296:Int))=wrap32 (a:Int):=by
 rw[XL a (by omega),IntKind.wrap_i64]; unfold wrap32; omega
abbrev Zbx (n:Int) (t:Int) (k:Bool):Value:=.tuple ⟨[.int .u32 n,.int .i64 t,.bool k]⟩
theorem KY (op:Int) (a b:Nat) (k:Nat) (hk:k<13) (ho:op=(k:Int)+3) (hz:ZqS k b=false) (ha:a<4294967296) (hb:b<4294967296) {v:Int} (hv:v=VN k a b):Zbx v 0 true=Zbx (rkN op a b:Nat) (rkT op b:Nat) (rkI op):=by
 have h1:3≤op∧op≤15:=by omega
 have h2:(op-3).toNat=k:=by omega
 have hn:((rkN op a b:Nat):Int)=v:=by
  unfold rkN
  rw[if_pos h1,h2,hz,if_neg (by decide),hv]
  exact Zyv (Zvj k a b ha hb hk)
 have ht:rkT op b=0:=by unfold rkT; rw[if_pos h1,h2,hz,if_neg (by decide)]
 have hi:rkI op=true:=by unfold rkI; exact lR h1
 rw[hn,ht,hi]
 rfl
theorem ZvR (op:Int) (a b:Nat) (k:Nat) (hk:k<13) (ho:op=(k:Int)+3) (hz:ZqS k b=true):Zbx 0 7 true=Zbx (rkN op a b:Nat) (rkT op b:Nat) (rkI op):=by
 have h1:3≤op∧op≤15:=by omega
 have h2:(op-3).toNat=k:=by omega
 have hn:rkN op a b=0:=by
  unfold rkN
  rw[if_pos h1,h2,hz,if_pos rfl]
 have ht:rkT op b=7:=by unfold rkT; rw[if_pos h1,h2,hz,if_pos rfl]
 have hi:rkI op=true:=by unfold rkI; exact lR h1
 rw[hn,ht,hi]
 rfl
theorem ZAZ (b:Nat) (hb:b<4294967296):u64.wrap ((1:Int)*(2:Int)^min ((u64.wrap (b:Int)).tmod (32:Int)).toNat 64)=((2^(b%32):Nat):Int):=by
 have e1:u64.wrap (b:Int)=(b:Int):=by rw[Zq3]; omega
 have e2:(b:Int).tmod (32:Int)=((b%32:Nat):Int):=(Int.ofNat_tmod b 32).symm
 have hp:=Zyu (b%32) (by omega)
 rw[e1,e2,tN,Nat.min_eq_left (by omega),Int.one_mul,show(2:Int)^(b%32)=((2^(b%32):Nat):Int) by rw[Int.natCast_pow]; rfl,Zq3]
 omega
theorem Zq4 (n:Nat):(2:Int)^n=((2^n:Nat):Int):=by rw[Int.natCast_pow]; rfl
theorem Zia (a:Nat) (ha:a<4294967296):u64.wrap (a:Int)=(a:Int):=by rw[Zq3]; omega
theorem Zot (x:Int):IntKind.i32.wrap x=wrap32 x:=by rw[IntKind.wrap_i32]; simp only[wrap32]
theorem ZNw {a b:Nat} (h1:a<2147483648) (h2:¬ b<2147483648) (h3:b<4294967296):¬ wrap32 (a:Int)<wrap32 (b:Int):=by unfold wrap32; omega
theorem ZNx {a b:Nat} (h1:¬ a<2147483648) (h2:b<2147483648) (h3:a<4294967296):wrap32 (a:Int)<wrap32 (b:Int):=by unfold wrap32; omega
theorem Zq5 (x y:Int):Value.tuple ⟨[.bool (decide (x≥y)),.bool true]⟩=Value.tuple ⟨[.bool (!decide (x<y)),.bool (tkI 28)]⟩:=by
 by_cases h:x<y
 ·rw[lR h,dF (by omega)]; rfl
 ·rw[dF h,lR (by omega)]; rfl
theorem ZNy (a b:Nat) (ha:a<4294967296) (hb:b<4294967296):Qi 60 [.int .i64 3,.int .u32 (a:Nat),.int .u32 (b:Nat)] (Zbx (rkN 3 a b:Nat) (rkT 3 b:Nat) (rkI 3)):=by
 have ea:=Zia a ha
 have eb:=Zia b hb
 exact Zi QH (r9_3.v a b) (KY _ a b 0 (by omega) (by omega) (by rfl) ha hb (by rw[show VN 0=av0 from rfl]; unfold av0; rw[ea,eb,Zq3,ZLL _ (by omega),Zyw]; omega)) (by simp only[qT8.v,cond_true]) rfl rfl
theorem ZNz (a b:Nat) (ha:a<4294967296) (hb:b<4294967296):Qi 60 [.int .i64 4,.int .u32 (a:Nat),.int .u32 (b:Nat)] (Zbx (rkN 4 a b:Nat) (rkT 4 b:Nat) (rkI 4)):=by
 have ea:=Zia a ha
 have eb:=Zia b hb
 exact Zi QH (r9_4.v a b) (KY _ a b 1 (by omega) (by omega) (by rfl) ha hb (by rw[show VN 1=av1 from rfl]; unfold av1; rw[ea,eb,Zq3 ((a:Int)+4294967296),Zq3,ZLL _ (by omega),Zyw]; omega)) (by simp only[qT8.v,cond_true]) rfl rfl
theorem ZNA (a b:Nat) (ha:a<4294967296) (hb:b<4294967296):Qi 60 [.int .i64 5,.int .u32 (a:Nat),.int .u32 (b:Nat)] (Zbx (rkN 5 a b:Nat) (rkT 5 b:Nat) (rkI 5)):=by
 have ea:=Zia a ha
 have eb:=Zia b hb
 have hm:a*b≤4294967295*4294967295:=Nat.mul_le_mul (by omega) (by omega)
 have hc:(a:Int)*(b:Int)=((a*b:Nat):Int):=by simp
 exact Zi QH (r9_5.v a b) (KY _ a b 2 (by omega) (by omega) (by rfl) ha hb (by rw[show VN 2=av2 from rfl]; unfold av2; rw[ea,eb,hc,Zq3,ZLL _ (by omega),Zyw]; omega)) (by simp only[qT8.v,cond_true]) rfl rfl
theorem ZNB (a b:Nat) (ha:a<4294967296) (hb:b<4294967296):Qi 60 [.int .i64 6,.int .u32 (a:Nat),.int .u32 (b:Nat)] (Zbx (rkN 6 a b:Nat) (rkT 6 b:Nat) (rkI 6)):=by
 have ea:=Zia a ha
 have eb:=Zia b hb
 by_cases hz:b=0
 ·have hr:=ZNq.v a b
  exact Zi QH hr (ZvR _ a b 3 (by omega) (by omega) (by rw[hz]; rfl)) (by rw[Zwp hz]; simp only[and_self]) rfl rfl
 ·have hdv:(a:Int).tdiv (b:Int)=((a/b:Nat):Int):=(Int.ofNat_tdiv a b).symm
  have hle:a/b≤a:=Nat.div_le_self _ _
  have nz:decide (u64.wrap (b:Int)=(0:Int))=false:=dF (by rw[eb]; omega)
  have hr:=r9_6.v a b
  exact Zi QH hr (KY _ a b 3 (by omega) (by omega) (by unfold ZqS; rw[show(b==0)=false from beq_eq_false_iff_ne.2 hz]; rfl) ha hb (by rw[show VN 3=av3 from rfl]; unfold av3; rw[ea,eb,hdv,Zq3,Zyw]; rw[show(a:Int)/(b:Int)=((a/b:Nat):Int) from(Int.natCast_ediv a b).symm]; omega)) (by simp only[nz,Zwq hz,qT8.v,cond_true]) rfl rfl
theorem ZNC (a b:Nat) (ha:a<4294967296) (hb:b<4294967296):Qi 60 [.int .i64 7,.int .u32 (a:Nat),.int .u32 (b:Nat)] (Zbx (rkN 7 a b:Nat) (rkT 7 b:Nat) (rkI 7)):=by
 have ea:=Zia a ha
 have eb:=Zia b hb
 by_cases hz:b=0
 ·have hr:=ZNr.v a b
  exact Zi QH hr (ZvR _ a b 4 (by omega) (by omega) (by rw[hz]; rfl)) (by rw[Zwp hz]; simp only[and_self]) rfl rfl
 ·have hdv:(a:Int).tmod (b:Int)=((a%b:Nat):Int):=(Int.ofNat_tmod a b).symm
  have hle:a%b≤a:=Nat.mod_le _ _
  have nz:decide (u64.wrap (b:Int)=(0:Int))=false:=dF (by rw[eb]; omega)
  have hr:=r9_7.v a b
  exact Zi QH hr (KY _ a b 4 (by omega) (by omega) (by unfold ZqS; rw[show(b==0)=false from beq_eq_false_iff_ne.2 hz]; rfl) ha hb (by rw[show VN 4=av4 from rfl]; unfold av4; rw[ea,eb,hdv,Zyw]; rw[show(a:Int)%(b:Int)=((a%b:Nat):Int) from(Int.natCast_emod a b).symm]; omega)) (by simp only[nz,Zwq hz,qT8.v,cond_true]) rfl rfl
theorem ZND (a b:Nat) (ha:a<4294967296) (hb:b<4294967296):Qi 60 [.int .i64 8,.int .u32 (a:Nat),.int .u32 (b:Nat)] (Zbx (rkN 8 a b:Nat) (rkT 8 b:Nat) (rkI 8)):=by
 have ea:=Zia a ha
 have eb:=Zia b hb
 have hbc:=Zmw a b 0 0 0 1 ⟨ha,hb,by omega,by omega,by omega,by omega⟩
 rw[ZIp a b ha] at hbc
 exact Zi (Z3 hbc) (r9_8.v a b (a&&&b)) (KY _ a b 5 (by omega) (by omega) (by rfl) ha hb (by rw[show VN 5=av5 from rfl]; unfold av5; rw[Zys a b ha hb])) (by simp only[qT8.v,cond_true]) rfl rfl
theorem ZNE (a b:Nat) (ha:a<4294967296) (hb:b<4294967296):Qi 60 [.int .i64 9,.int .u32 (a:Nat),.int .u32 (b:Nat)] (Zbx (rkN 9 a b:Nat) (rkT 9 b:Nat) (rkI 9)):=by
 have ea:=Zia a ha
 have eb:=Zia b hb
 have hbc:=Zmw a b 0 1 1 1 ⟨ha,hb,by omega,by omega,by omega,by omega⟩
 rw[ZNu a b ha hb] at hbc
 exact Zi (Z3 hbc) (r9_9.v a b (a|||b)) (KY _ a b 6 (by omega) (by omega) (by rfl) ha hb (by rw[show VN 6=av6 from rfl]; unfold av6; rw[ZDC a b ha hb])) (by simp only[qT8.v,cond_true]) rfl rfl
theorem ZIs (a b:Nat) (ha:a<4294967296) (hb:b<4294967296):Qi 60 [.int .i64 10,.int .u32 (a:Nat),.int .u32 (b:Nat)] (Zbx (rkN 10 a b:Nat) (rkT 10 b:Nat) (rkI 10)):=by
 have ea:=Zia a ha
 have eb:=Zia b hb
 have hbc:=Zmw a b 0 1 1 0 ⟨ha,hb,by omega,by omega,by omega,by omega⟩
 rw[ZIq a b ha hb] at hbc
 exact Zi (Z3 hbc) (ZNs.v a b (a ^^^ b)) (KY _ a b 7 (by omega) (by omega) (by rfl) ha hb (by rw[show VN 7=av7 from rfl]; unfold av7; rw[Zyt a b ha hb])) (by simp only[qT8.v,cond_true]) rfl rfl
theorem ZIt (a b:Nat) (ha:a<4294967296) (hb:b<4294967296):Qi 60 [.int .i64 11,.int .u32 (a:Nat),.int .u32 (b:Nat)] (Zbx (rkN 11 a b:Nat) (rkT 11 b:Nat) (rkI 11)):=by
 have ea:=Zia a ha
 have eb:=Zia b hb
 have hp:=Zyu (b%32) (by omega)
 have hs:=ZAZ b hb
 have em:(u64.wrap (b:Int)).tmod (32:Int)=((b%32:Nat):Int):=by rw[eb]; exact(Int.ofNat_tmod b 32).symm
 have d0:decide ((0:Int)≤(u64.wrap (b:Int)).tmod (32:Int))=true:=lR (by rw[em]; omega)
 have hr:=ZNo.v a b
 rw[hs] at hr
 have hm:a*2^(b%32)≤4294967295*2147483648:=Nat.mul_le_mul (by omega) hp.2
 have hc:(a:Int)*((2^(b%32):Nat):Int)=((a*2^(b%32):Nat):Int):=by simp
 exact Zi QH hr (KY _ a b 8 (by omega) (by omega) (by rfl) ha hb (by rw[show VN 8=av8 from rfl]; unfold av8; rw[ea,hc,Zq4,hc,Zq3,ZLL _ (by omega),Zyw]; generalize a*2^(b%32)=p at *; omega)) (by simp only[d0,qT8.v,cond_true]) rfl rfl
theorem ZIu (a b:Nat) (ha:a<4294967296) (hb:b<4294967296):Qi 60 [.int .i64 12,.int .u32 (a:Nat),.int .u32 (b:Nat)] (Zbx (rkN 12 a b:Nat) (rkT 12 b:Nat) (rkI 12)):=by
 have ea:=Zia a ha
 have eb:=Zia b hb
 have hp:=Zyu (b%32) (by omega)
 have hs:=ZAZ b hb
 have em:(u64.wrap (b:Int)).tmod (32:Int)=((b%32:Nat):Int):=by rw[eb]; exact(Int.ofNat_tmod b 32).symm
 have d0:decide ((0:Int)≤(u64.wrap (b:Int)).tmod (32:Int))=true:=lR (by rw[em]; omega)
 have hr:=ZNp.v a b
 rw[hs] at hr
 have hq:(a:Int).tdiv ((2^(b%32):Nat):Int)=((a/2^(b%32):Nat):Int):=(Int.ofNat_tdiv a _).symm
 have hle:a/2^(b%32)≤a:=Nat.div_le_self _ _
 have nz:decide (((2^(b%32):Nat):Int)=(0:Int))=false:=dF (by omega)
 exact Zi QH hr (KY _ a b 9 (by omega) (by omega) (by rfl) ha hb (by rw[show VN 9=av9 from rfl]; unfold av9; rw[ea,hq,Zq4,show(a:Int)/((2^(b%32):Nat):Int)=((a/2^(b%32):Nat):Int) from(Int.natCast_ediv a _).symm,Zq3,Zyw]; generalize a/2^(b%32)=p at *; omega)) (by simp only[d0,nz,qT8.v,cond_true]) rfl rfl
theorem ZIv (a b:Nat) (ha:a<4294967296) (hb:b<4294967296):Qi 60 [.int .i64 13,.int .u32 (a:Nat),.int .u32 (b:Nat)] (Zbx (rkN 13 a b:Nat) (rkT 13 b:Nat) (rkI 13)):=by
 have ea:=Zia a ha
 have eb:=Zia b hb
 by_cases sa:a<2147483648
 ·have a1:decide ((a:Int)<(2147483648:Int))=true:=lR (by omega)
  have ga:=Zmx sa
  by_cases sb:b<2147483648
  ·have b1:decide ((b:Int)<(2147483648:Int))=true:=lR (by omega)
   have gb:=Zmx sb
   by_cases hl:wrap32 (a:Int)<wrap32 (b:Int)
   ·have l1:decide (i64.wrap (a:Int)<i64.wrap (b:Int))=true:=lR (by rw[ga,gb]; exact hl)
    exact Zi QH (ZDx.v a b) (KY _ a b 10 (by omega) (by omega) (by rfl) ha hb (by rw[show VN 10=ZmI from rfl]; unfold ZmI; rw[if_pos hl])) (by simp only[a1,b1,l1,qT8.v,cond_true]) rfl rfl
   ·have l1:decide (i64.wrap (a:Int)<i64.wrap (b:Int))=false:=dF (by rw[ga,gb]; exact hl)
    exact Zi QH (Zyc.v a b) (KY _ a b 10 (by omega) (by omega) (by rfl) ha hb (by rw[show VN 10=ZmI from rfl]; unfold ZmI; rw[if_neg hl])) (by simp only[a1,b1,l1,qT8.v,cond_true]) rfl rfl
  ·have b1:decide ((b:Int)<(2147483648:Int))=false:=dF (by omega)
   have gb:=Zmy sb hb
   have hl:=ZNw sa sb hb
   have l1:decide (i64.wrap (a:Int)<i64.wrap (i64.wrap (b:Int)-(4294967296:Int)))=false:=dF (by rw[ga,gb]; exact hl)
   exact Zi QH (ZDy.v a b) (KY _ a b 10 (by omega) (by omega) (by rfl) ha hb (by rw[show VN 10=ZmI from rfl]; unfold ZmI; rw[if_neg hl])) (by simp only[a1,b1,l1,qT8.v,cond_true]) rfl rfl
 ·have a1:decide ((a:Int)<(2147483648:Int))=false:=dF (by omega)
  have ga:=Zmy sa ha
  by_cases sb:b<2147483648
  ·have b1:decide ((b:Int)<(2147483648:Int))=true:=lR (by omega)
   have gb:=Zmx sb
   have hl:=ZNx sa sb ha
   have l1:decide (i64.wrap (i64.wrap (a:Int)-(4294967296:Int))<i64.wrap (b:Int))=true:=lR (by rw[ga,gb]; exact hl)
   exact Zi QH (ZDz.v a b) (KY _ a b 10 (by omega) (by omega) (by rfl) ha hb (by rw[show VN 10=ZmI from rfl]; unfold ZmI; rw[if_pos hl])) (by simp only[a1,b1,l1,qT8.v,cond_true]) rfl rfl
  ·have b1:decide ((b:Int)<(2147483648:Int))=false:=dF (by omega)
   have gb:=Zmy sb hb
   by_cases hl:wrap32 (a:Int)<wrap32 (b:Int)
   ·have l1:decide (i64.wrap (i64.wrap (a:Int)-(4294967296:Int))<i64.wrap (i64.wrap (b:Int)-(4294967296:Int)))=true:=lR (by rw[ga,gb]; exact hl)
    exact Zi QH (ZDA.v a b) (KY _ a b 10 (by omega) (by omega) (by rfl) ha hb (by rw[show VN 10=ZmI from rfl]; unfold ZmI; rw[if_pos hl])) (by simp only[a1,b1,l1,qT8.v,cond_true]) rfl rfl
   ·have l1:decide (i64.wrap (i64.wrap (a:Int)-(4294967296:Int))<i64.wrap (i64.wrap (b:Int)-(4294967296:Int)))=false:=dF (by rw[ga,gb]; exact hl)
    exact Zi QH (Zyd.v a b) (KY _ a b 10 (by omega) (by omega) (by rfl) ha hb (by rw[show VN 10=ZmI from rfl]; unfold ZmI; rw[if_neg hl])) (by simp only[a1,b1,l1,qT8.v,cond_true]) rfl rfl
theorem ZIw (a b:Nat) (ha:a<4294967296) (hb:b<4294967296):Qi 60 [.int .i64 14,.int .u32 (a:Nat),.int .u32 (b:Nat)] (Zbx (rkN 14 a b:Nat) (rkT 14 b:Nat) (rkI 14)):=by
 have ea:=Zia a ha
 have eb:=Zia b hb
 by_cases hl:a<b
 ·have l1:decide ((a:Int)<(b:Int))=true:=lR (by omega)
  exact Zi QH (ZIi.v a b) (KY _ a b 11 (by omega) (by omega) (by rfl) ha hb (by rw[show VN 11=Zwn from rfl]; unfold Zwn; rw[if_pos (by omega)])) (by simp only[l1,and_self]) rfl rfl
 ·have l1:decide ((a:Int)<(b:Int))=false:=dF (by omega)
  exact Zi QH (ZIj.v a b) (KY _ a b 11 (by omega) (by omega) (by rfl) ha hb (by rw[show VN 11=Zwn from rfl]; unfold Zwn; rw[if_neg (by omega)])) (by simp only[l1,and_self]) rfl rfl
theorem ZIx (a b:Nat) (ha:a<4294967296) (hb:b<4294967296):Qi 60 [.int .i64 15,.int .u32 (a:Nat),.int .u32 (b:Nat)] (Zbx (rkN 15 a b:Nat) (rkT 15 b:Nat) (rkI 15)):=by
 have ea:=Zia a ha
 have eb:=Zia b hb
 by_cases hl:a=b
 ·have l1:((a:Int)==(b:Int))=true:=Zos (by omega)
  exact Zi QH (ZIk.v a b) (KY _ a b 12 (by omega) (by omega) (by rfl) ha hb (by rw[show VN 12=Zwo from rfl]; unfold Zwo; rw[if_pos (by omega)])) (by simp only[l1,and_self]) rfl rfl
 ·have l1:((a:Int)==(b:Int))=false:=Qw (by omega)
  exact Zi QH (ZIl.v a b) (KY _ a b 12 (by omega) (by omega) (by rfl) ha hb (by rw[show VN 12=Zwo from rfl]; unfold Zwo; rw[if_neg (by omega)])) (by simp only[l1,and_self]) rfl rfl
theorem ZjY (op:Int) (a b:Nat) (ha:a<4294967296) (hb:b<4294967296):Qi 60 [.int .i64 op,.int .u32 (a:Nat),.int .u32 (b:Nat)] (Zbx (rkN op a b:Nat) (rkT op b:Nat) (rkI op)):=by
 by_cases k3:op=3
 ·subst k3; exact ZNy a b ha hb
 by_cases k4:op=4
 ·subst k4; exact ZNz a b ha hb
 by_cases k5:op=5
 ·subst k5; exact ZNA a b ha hb
 by_cases k6:op=6
 ·subst k6; exact ZNB a b ha hb
 by_cases k7:op=7
 ·subst k7; exact ZNC a b ha hb
 by_cases k8:op=8
 ·subst k8; exact ZND a b ha hb
 by_cases k9:op=9
 ·subst k9; exact ZNE a b ha hb
 by_cases k10:op=10
 ·subst k10; exact ZIs a b ha hb
 by_cases k11:op=11
 ·subst k11; exact ZIt a b ha hb
 by_cases k12:op=12
 ·subst k12; exact ZIu a b ha hb
 by_cases k13:op=13
 ·subst k13; exact ZIv a b ha hb
 by_cases k14:op=14
 ·subst k14; exact ZIw a b ha hb
 by_cases k15:op=15
 ·subst k15; exact ZIx a b ha hb
 have h1:¬ (3≤op∧op≤15):=by omega
 exact Zi QH (r9_n.v op a b) (by unfold rkN rkT rkI; rw[if_neg h1,if_neg h1,dF h1]; rfl) (by simp only[Qw k3,Qw k4,Qw k5,Qw k6,Qw k7,Qw k8,Qw k9,Qw k10,Qw k11,Qw k12,Qw k13,Qw k14,Qw k15,and_self]) rfl rfl
theorem Zcn (op:Int) (a b:Nat) (ha:a<4294967296) (hb:b<4294967296):Qi 59 [.int .i64 op,.int .u32 (a:Nat),.int .u32 (b:Nat)] (.tuple ⟨[.bool (tkS op a b),.bool (tkI op)]⟩):=by
 by_cases k25:op=25
 ·subst k25
  exact Zi QH (ZIn.v a b) rfl (by simp only[and_self]) rfl rfl
 by_cases k26:op=26
 ·subst k26
  exact Zi QH (ZIo.v a b) rfl (by simp only[and_self]) rfl rfl
 by_cases k27:op=27
 ·subst k27
  by_cases sa:a<2147483648
  ·have a1:decide ((a:Int)<(2147483648:Int))=true:=lR (by omega)
   have ga:=Zmx sa
   by_cases sb:b<2147483648
   ·have b1:decide ((b:Int)<(2147483648:Int))=true:=lR (by omega)
    have gb:=Zmx sb
    have hr:=Zyk.v a b
    rw[ga,gb] at hr
    exact Zi QH hr (by unfold tkS; rw[if_neg (by decide),if_neg (by decide),if_pos rfl,Zot,Zot]; rfl) (by simp only[a1,b1,and_self]) rfl rfl
   ·have b1:decide ((b:Int)<(2147483648:Int))=false:=dF (by omega)
    have gb:=Zmy sb hb
    have hr:=Zyl.v a b
    rw[ga,gb] at hr
    exact Zi QH hr (by unfold tkS; rw[if_neg (by decide),if_neg (by decide),if_pos rfl,Zot,Zot]; rfl) (by simp only[a1,b1,and_self]) rfl rfl
  ·have a1:decide ((a:Int)<(2147483648:Int))=false:=dF (by omega)
   have ga:=Zmy sa ha
   by_cases sb:b<2147483648
   ·have b1:decide ((b:Int)<(2147483648:Int))=true:=lR (by omega)
    have gb:=Zmx sb
    have hr:=Zym.v a b
    rw[ga,gb] at hr
    exact Zi QH hr (by unfold tkS; rw[if_neg (by decide),if_neg (by decide),if_pos rfl,Zot,Zot]; rfl) (by simp only[a1,b1,and_self]) rfl rfl
   ·have b1:decide ((b:Int)<(2147483648:Int))=false:=dF (by omega)
    have gb:=Zmy sb hb
    have hr:=Zyn.v a b
    rw[ga,gb] at hr
    exact Zi QH hr (by unfold tkS; rw[if_neg (by decide),if_neg (by decide),if_pos rfl,Zot,Zot]; rfl) (by simp only[a1,b1,and_self]) rfl rfl
 by_cases k28:op=28
 ·subst k28
  by_cases sa:a<2147483648
  ·have a1:decide ((a:Int)<(2147483648:Int))=true:=lR (by omega)
   have ga:=Zmx sa
   by_cases sb:b<2147483648
   ·have b1:decide ((b:Int)<(2147483648:Int))=true:=lR (by omega)
    have gb:=Zmx sb
    have hr:=Zyo.v a b
    rw[ga,gb] at hr
    exact Zi QH hr (by unfold tkS; rw[if_neg (by decide),if_neg (by decide),if_neg (by decide),if_pos rfl,Zot,Zot]; exact Zq5 _ _) (by simp only[a1,b1,and_self]) rfl rfl
   ·have b1:decide ((b:Int)<(2147483648:Int))=false:=dF (by omega)
    have gb:=Zmy sb hb
    have hr:=Zyp.v a b
    rw[ga,gb] at hr
    exact Zi QH hr (by unfold tkS; rw[if_neg (by decide),if_neg (by decide),if_neg (by decide),if_pos rfl,Zot,Zot]; exact Zq5 _ _) (by simp only[a1,b1,and_self]) rfl rfl
  ·have a1:decide ((a:Int)<(2147483648:Int))=false:=dF (by omega)
   have ga:=Zmy sa ha
   by_cases sb:b<2147483648
   ·have b1:decide ((b:Int)<(2147483648:Int))=true:=lR (by omega)
    have gb:=Zmx sb
    have hr:=Zyq.v a b
    rw[ga,gb] at hr
    exact Zi QH hr (by unfold tkS; rw[if_neg (by decide),if_neg (by decide),if_neg (by decide),if_pos rfl,Zot,Zot]; exact Zq5 _ _) (by simp only[a1,b1,and_self]) rfl rfl
   ·have b1:decide ((b:Int)<(2147483648:Int))=false:=dF (by omega)
    have gb:=Zmy sb hb
    have hr:=Zyr.v a b
    rw[ga,gb] at hr
    exact Zi QH hr (by unfold tkS; rw[if_neg (by decide),if_neg (by decide),if_neg (by decide),if_pos rfl,Zot,Zot]; exact Zq5 _ _) (by simp only[a1,b1,and_self]) rfl rfl
 exact Zi QH (ZNt.v op a b) (by unfold tkS tkI; rw[if_neg k25,if_neg k26,if_neg k27,if_neg k28,dF k25,dF k26,dF k27,dF k28]; rfl) (by simp only[Qw k25,Qw k26,Qw k27,Qw k28,and_self]) rfl rfl
def Zk7 (call:QM):List (FuncId×Con)→Prop
 | []=>True
 | x::l=>Znj 3 call x.1 x.2=True∧Zk7 call l
theorem ZjZ {call:QM} (hcall:Zs Tryz.prog call):∀ {l:List (FuncId×Con)},Zk7 call l→∀ x∈l,ConOk Tryz.prog x.1 3 x.2∧FlatC x.2
 | [],_,x,hx=>by cases hx
 | y::l,h,x,hx=>by
  rcases List.mem_cons.1 hx with rfl|hx
  ·exact Zi8 hcall h.1
  ·exact ZjZ hcall h.2 x hx
def JR (n:Nat):Con:=Con.pure [.int .i64 (n:Nat)] (.string ⟨⟨Zb6 (Zj6.getD n 0)⟩⟩)
theorem ZDF:Zk7 (evF Tryz.prog Zc Zb 100 20) [(101,JR 1),(101,JR 2),(101,JR 3),(101,JR 4),(101,JR 5),(101,JR 6),(101,JR 7),(101,JR 8),(101,JR 9),(101,JR 10),(101,JR 11),(101,JR 12),(101,JR 13),(101,JR 14),(101,JR 15),(101,JR 16),(101,JR 17),(101,JR 18),(101,JR 19),(101,JR 20),(101,JR 21),(101,JR 22),(101,JR 23),(101,JR 24),(101,JR 25),(101,JR 26),(101,JR 27),(101,JR 28),(101,JR 29),(101,JR 30),(101,JR 31),(101,JR 32),(101,JR 33),(101,JR 34),(101,JR 35),(101,JR 36),(101,JR 37),(101,JR 38),(101,JR 39),(101,JR 40),(101,JR 41),(101,JR 42),(101,JR 43),(101,JR 44),(101,JR 45),(101,JR 46),(101,JR 47),(101,JR 48),(101,JR 49),(101,JR 50),(101,JR 51),(101,JR 52),(101,JR 53)]:=by repeat' (first|exact trivial|refine⟨by kernel_rfl,?_⟩)
def VS (a:Int):=Zgs a 1
def Zeo (a b:Prop):=X2 Xe a b
def ZvS (a b c:Prop):=Zeo (a∧b) c
def YC:=Bx.mk (aI @VS.eq_1 (aI @Zeo.eq_1 @ZvS.eq_1))
theorem ZDG (i:In):obs (evF Tryz.prog Zc Zb 100 20 53 [i.val] (Zu 5 31))=ZvS (WM (VS i.op=true)) (VS i.op=true) Ze:=by kernel_rfl
def ZNF:=Bx.mk (by have h:=@ZDG;simp(maxSteps:=99999999) only[Zx.v,ZF.v,ZD.v,ZO.v,ZU.v,YA.v,YC.v,-eq_self] at h;exact h)
theorem ZDH (i:In):obs (evF Tryz.prog Zc Zb 100 20 53 [i.val] (Zu 5 16))=Zeo (Ya True (VS i.op)) (Zai i.op 53=true):=by kernel_rfl
def ZNG:=Bx.mk (by have h:=@ZDH;simp(maxSteps:=99999999) only[Zx.v,ZF.v,ZU.v,YA.v,Zy.v,Xm.v,Xy.v,YC.v,-eq_self] at h;exact h)
def ZvT (a:Int) (b:Value):=ZjQ (VD a) b
def YH (a:Int) (b:List UInt8):=ZvT a (YX b)
def Zfp (a:Prop) (b c d e f:Bool) (g h:Int):=Zju (Zki a b c d e) f (ZhU g h)
def Zj0 (a b c d e f g:Int):=Zfp True (VS a) (VS b) (VS c) (VS d) (Zai e 53) f g
def Zk8 (a:Nat):=Zu a 16775264
def Zg2 (a b c:Prop):=ZvS (a∧b) b c
def ZfW (a:Int) (b:Prop):=Zj0 a a a a a a a∧b
def Zby (a:Prop):=Zg2 a Ze Ze
def Yc:=Bx.mk (aI @ZvT.eq_1 (aI @YH.eq_1 (aI @Zfp.eq_1 (aI @Zj0.eq_1 (aI @Zk8.eq_1 (aI @Zg2.eq_1 (aI @ZfW.eq_1 @Zby.eq_1)))))))
theorem Zyx (i:In):obs (evF Tryz.prog (Zk 3 (Za [(65,101,YH i.op [Qk,Y7],[])]) Zc) Zb 100 20 53 [i.val] (Zk8 24))=Zby (ZcL (ZcN (XG (ZfW i.op Ze)) (Je i.a))):=by kernel_rfl
def ZIy:=Bx.mk (by have h:=@Zyx;simp(maxSteps:=99999999) only[Zx.v,ZF.v,ZD.v,ZO.v,ZU.v,YA.v,Zl.v,Zo.v,Zy.v,Xh.v,ZA.v,Z7.v,Z8.v,YC.v,Yc.v,-eq_self] at h;exact h)
def VB (a:Int):=!Zhx a 15
def Zib (a:Prop) (b c d:Int):=ZkP a (ZkG b) (ZkG c) (ZkG d)
def Zk9 (a:Int):=VB a=true
def Zj1 (a:Prop) (b:Int):=a∧Zk9 b
def Zla (a:Nat):=Zu a 16777056
def Zep (a:Prop) (b:Int):=Zj1 (Zj1 a b) b
def ZfX (a:Int):=ZL (ZfW a Ze)
def Zeq (a:Prop) (b c:Int):=Zep (Zep a b) c
def Zer (a:Prop):=Zby (WA a)
def Wr:=Bx.mk (aI @VB.eq_1 (aI @Zib.eq_1 (aI @Zk9.eq_1 (aI @Zj1.eq_1 (aI @Zla.eq_1 (aI @Zep.eq_1 (aI @ZfX.eq_1 (aI @Zeq.eq_1 @Zer.eq_1))))))))
theorem Zyy (i:In):obs (evF Tryz.prog (Zk 3 (Za [(65,101,YH i.op [Qk,Y7],[])]) Zc) Zb 100 20 53 [i.val] (Zla 24))=Zer (Zeq (Zep (Zib (ZfX i.op) i.a i.a i.a) i.a) i.a i.a):=by kernel_rfl
def ZIz:=Bx.mk (by have h:=@Zyy;simp(maxSteps:=99999999) only[Zx.v,ZF.v,ZD.v,ZO.v,ZU.v,YA.v,Zl.v,Zo.v,Zq.v,Zy.v,Z7.v,Z8.v,YC.v,Yc.v,Wr.v,-eq_self] at h;exact h)
def Zlb (a:Prop) (b c d:Bool) (e:Int):=Zki a b c d (VB e)
def Zq6 (a:Prop) (b c d e:Int):=Zlb a (VB b) (VB c) (VB d) e
def Zq7 (a:Prop) (b c d e f g h:Int):=Zq6 (Zib a b c d) e f g h
def Zco (a:Prop) (b c:Int):=J5 a (VB b) (VB c)
def WD (a b c d e f g h:Int):=Zq7 (ZfX a) b c d e f g h
def VT (a:Prop):=Zfh (ZnK a Ze Ze) Ze
def V6:=Bx.mk (aI @Zlb.eq_1 (aI @Zq6.eq_1 (aI @Zq7.eq_1 (aI @Zco.eq_1 (aI @WD.eq_1 @VT.eq_1)))))
theorem Zyz (i:In):obs (evF Tryz.prog (Zk 3 (Za [(65,101,YH i.op [Qk,Y7],[])]) Zc) Zb 100 20 53 [i.val] (Zu 30 1066567520))=Zg2 ((((Zco (VT (WD i.op i.a i.a i.a i.a i.a i.a i.a)) i.a i.a∧(!i.b==Zr)=true)∧(!i.b==Zr)=true)∧(!i.b==Zr)=true)∧(!i.b==Zr)=true) ((!i.b==Zr)=true) Ze:=by kernel_rfl
def ZIA:=Bx.mk (by have h:=@Zyz;simp(maxSteps:=99999999) only[Zx.v,ZF.v,ZD.v,ZO.v,ZU.v,YA.v,Zl.v,ZB.v,Zo.v,Zq.v,Zy.v,QA.v,Z7.v,QX.v,Z8.v,YC.v,Yc.v,Wr.v,V6.v,-eq_self] at h;exact h)
def ZaG (a:Prop) (b:Int) (c:Bool):=ZkQ a (VB b) c
def Zfq:=Bx.mk @ZaG.eq_1
theorem ZyA (i:In):obs (evF Tryz.prog (Zk 3 (Za [(65,101,YH i.op [Qk,Y7],[])]) Zc) Zb 100 20 53 [i.val] (Zu 36 39327008608))=Zeo (XR (VT (ZaG (VT (WD i.op i.a i.a i.a i.a i.a i.a i.a)) i.a (!i.b==Zr))) (!i.b==Zr)) ((!i.c==Zr)=true):=by kernel_rfl
def ZIB:=Bx.mk (by have h:=@ZyA;simp(maxSteps:=99999999) only[Zx.v,ZF.v,ZD.v,ZO.v,ZU.v,YA.v,Zl.v,ZB.v,Zo.v,Zq.v,Zy.v,Yj.v,QA.v,Xh.v,Z7.v,QX.v,Z8.v,YC.v,Yc.v,Wr.v,V6.v,Zfq.v,-eq_self] at h;exact h)
def UU (a:Int):=Zfg a ZuO
def Zlc:=Bx.mk @UU.eq_1
theorem ZyB (i:In):obs (evF Tryz.prog (Zk 3 (Za [(65,101,YH i.op [Qk,Y7],[])]) Zc) Zb 100 20 53 [i.val] (Zu 51 127891913475936))=Zej (Ya (Zbq (WC (WB (JE (VT (ZaG (VT (WD i.op i.a i.a i.a i.a i.a i.a i.a)) i.a (!i.b==Zr))) (!i.b==Zr) (!i.c==Zr)))) Ze) (UU i.m)):=by kernel_rfl
def ZIC:=Bx.mk (by have h:=@ZyB;simp(maxSteps:=99999999) only[Zx.v,ZF.v,ZD.v,ZO.v,ZU.v,Zl.v,ZB.v,Zo.v,Zq.v,Zy.v,Yj.v,QA.v,Xh.v,Xm.v,Xy.v,Z7.v,QX.v,Zea.v,Ye.v,Z8.v,Zkm.v,YC.v,Yc.v,Wr.v,V6.v,Zfq.v,Zlc.v,-eq_self] at h;exact h)
theorem ZyC (i:In):obs (evF Tryz.prog (Zk 3 (Za [(65,101,YH i.op [Qk,Y7],[])]) Zc) Zb 100 20 53 [i.val] (Zu 51 2238954238805856))=Zji (Zhx i.m 2047) ((ZnJ (WC (WB (JE (VT (ZaG (VT (WD i.op i.a i.a i.a i.a i.a i.a i.a)) i.a (!i.b==Zr))) (!i.b==Zr) (!i.c==Zr)))) Ze (UU i.m=true)∧UU i.m=true)∧UU i.m=true) (UU i.m=true):=by kernel_rfl
def ZID:=Bx.mk (by have h:=@ZyC;simp(maxSteps:=99999999) only[Zx.v,ZF.v,ZD.v,ZO.v,ZU.v,YA.v,Zl.v,ZB.v,Zo.v,Zq.v,Zy.v,Yj.v,QA.v,Xh.v,Z7.v,QX.v,Zea.v,Ye.v,Z8.v,YC.v,Yc.v,Wr.v,V6.v,Zfq.v,Zlc.v,-eq_self] at h;exact h)
theorem ZyD (i:In):obs (evF Tryz.prog (Zk 3 (Za [(65,101,YH i.op [Qk,Zb5],[])]) Zc) Zb 100 20 53 [i.val] (Zk8 24))=Zby (ZcL (ZcN (XG (ZfW i.op Ze)) (Je i.a))):=by kernel_rfl
def ZIE:=Bx.mk (by have h:=@ZyD;simp(maxSteps:=99999999) only[Zx.v,ZF.v,ZD.v,ZO.v,ZU.v,YA.v,Zl.v,Zo.v,Zy.v,Xh.v,ZA.v,Z7.v,UA.v,Z8.v,YC.v,Yc.v,-eq_self] at h;exact h)
theorem ZyE (i:In):obs (evF Tryz.prog (Zk 3 (Za [(65,101,YH i.op [Qk,Zb5],[])]) Zc) Zb 100 20 53 [i.val] (Zla 24))=Zer (Zeq (Zep (Zib (ZfX i.op) i.a i.a i.a) i.a) i.a i.a):=by kernel_rfl
def ZIF:=Bx.mk (by have h:=@ZyE;simp(maxSteps:=99999999) only[Zx.v,ZF.v,ZD.v,ZO.v,ZU.v,YA.v,Zl.v,Zo.v,Zq.v,Zy.v,Z7.v,UA.v,Z8.v,YC.v,Yc.v,Wr.v,-eq_self] at h;exact h)
theorem ZyF (i:In):obs (evF Tryz.prog (Zk 3 (Za [(65,101,YH i.op [Qk,Zb5],[])]) Zc) Zb 100 20 53 [i.val] (Zu 30 1066567520))=Zg2 ((((Zco (VT (WD i.op i.a i.a i.a i.a i.a i.a i.a)) i.a i.a∧(!i.b==Zr)=true)∧(!i.b==Zr)=true)∧(!i.b==Zr)=true)∧(!i.b==Zr)=true) ((!i.b==Zr)=true) Ze:=by kernel_rfl
def ZIG:=Bx.mk (by have h:=@ZyF;simp(maxSteps:=99999999) only[Zx.v,ZF.v,ZD.v,ZO.v,ZU.v,YA.v,Zl.v,ZB.v,Zo.v,Zq.v,Zy.v,QA.v,Z7.v,QX.v,UA.v,Z8.v,YC.v,Yc.v,Wr.v,V6.v,-eq_self] at h;exact h)
theorem ZyG (i:In):obs (evF Tryz.prog (Zk 3 (Za [(65,101,YH i.op [Qk,Zb5],[])]) Zc) Zb 100 20 53 [i.val] (Zu 36 39327008608))=Zeo (XR (VT (Ya (Zco (VT (WD i.op i.a i.a i.a i.a i.a i.a i.a)) i.a i.a) (!i.b==Zr))) (!i.b==Zr)) ((!i.c==Zr)=true):=by kernel_rfl
def ZIH:=Bx.mk (by have h:=@ZyG;simp(maxSteps:=99999999) only[Zx.v,ZF.v,ZD.v,ZO.v,ZU.v,YA.v,Zl.v,ZB.v,Zo.v,Zq.v,Zy.v,QA.v,Xm.v,Xy.v,Z7.v,QX.v,UA.v,Z8.v,YC.v,Yc.v,Wr.v,V6.v,-eq_self] at h;exact h)
theorem ZyH (i:In):obs (evF Tryz.prog (Zk 3 (Za [(65,101,YH i.op [Qk,Zb5],[])]) Zc) Zb 100 20 53 [i.val] (Zu 45 1997832095584))=Zej (Ya (Zbq (ZL (JE (VT (Ya (Zco (VT (WD i.op i.a i.a i.a i.a i.a i.a i.a)) i.a i.a) (!i.b==Zr))) (!i.b==Zr) (!i.c==Zr))) Ze) (Zfg i.m ZjK)):=by kernel_rfl
def ZII:=Bx.mk (by have h:=@ZyH;simp(maxSteps:=99999999) only[Zx.v,ZF.v,ZD.v,ZO.v,ZU.v,Zl.v,ZB.v,Zo.v,Zq.v,Zy.v,QA.v,Xm.v,Xy.v,Z7.v,QX.v,UA.v,Z8.v,Zkm.v,YC.v,Yc.v,Wr.v,V6.v,-eq_self] at h;exact h)
theorem ZyI (i:In):obs (evF Tryz.prog (Zk 3 (Za [(65,101,YH i.op [Qk,Zb5],[])]) Zc) Zb 100 20 53 [i.val] (Zu 45 34983180928864))=Zji (Zhx i.m 524287) ((ZnJ (ZL (JE (VT (ZaG (VT (WD i.op i.a i.a i.a i.a i.a i.a i.a)) i.a (!i.b==Zr))) (!i.b==Zr) (!i.c==Zr))) Ze (Zfg i.m ZjK=true)∧Zfg i.m ZjK=true)∧Zfg i.m ZjK=true) (Zfg i.m ZjK=true):=by kernel_rfl
def ZIJ:=Bx.mk (by have h:=@ZyI;simp(maxSteps:=99999999) only[Zx.v,ZF.v,ZD.v,ZO.v,ZU.v,YA.v,Zl.v,ZB.v,Zo.v,Zq.v,Zy.v,Yj.v,QA.v,Xh.v,Z7.v,QX.v,UA.v,Z8.v,YC.v,Yc.v,Wr.v,V6.v,Zfq.v,-eq_self] at h;exact h)
theorem ZyJ (i:In):obs (evF Tryz.prog (Zk 3 (Za [(65,101,YH i.op [Qk,YB,UN],[])]) Zc) Zb 100 20 53 [i.val] (Zk8 24))=Zby (ZcL (ZcN (XG (ZfW i.op Ze)) (Je i.a))):=by kernel_rfl
def ZIK:=Bx.mk (by have h:=@ZyJ;simp(maxSteps:=99999999) only[Zx.v,ZF.v,ZD.v,ZO.v,ZU.v,YA.v,Zl.v,Zo.v,Zy.v,Xh.v,ZA.v,Z7.v,WG.v,Z8.v,YC.v,Yc.v,-eq_self] at h;exact h)
theorem ZyK (i:In):obs (evF Tryz.prog (Zk 3 (Za [(65,101,YH i.op [Qk,YB,UN],[])]) Zc) Zb 100 20 53 [i.val] (Zla 24))=Zer (Zj1 (Zeq (Zj1 (Zib (ZfX i.op) i.a i.a i.a) i.a) i.a i.a) i.a):=by kernel_rfl
def ZIL:=Bx.mk (by have h:=@ZyK;simp(maxSteps:=99999999) only[Zx.v,ZF.v,ZD.v,ZO.v,ZU.v,YA.v,Zl.v,Zo.v,Zq.v,Zy.v,Z7.v,WG.v,Z8.v,YC.v,Yc.v,Wr.v,-eq_self] at h;exact h)
theorem ZyL (i:In):obs (evF Tryz.prog (Zk 3 (Za [(65,101,YH i.op [Qk,YB,UN],[])]) Zc) Zb 100 20 53 [i.val] (Zu 32 4261840736))=Zby (Zbv (XS (Zlb (Y5 (VR (ZL (WD i.op i.a i.a i.a i.a i.a i.a i.a)))) (Je i.b) (Je i.b) (Je i.b) i.a) (VB i.a))):=by kernel_rfl
def ZIM:=Bx.mk (by have h:=@ZyL;simp(maxSteps:=99999999) only[Zx.v,ZF.v,ZD.v,ZO.v,ZU.v,YA.v,Zl.v,Zo.v,Zq.v,Zy.v,Z7.v,WG.v,Zmo.v,Z8.v,Zmu.v,YC.v,Yc.v,Wr.v,V6.v,-eq_self] at h;exact h)
def Ju (a b:Prop) (c d e:Int):=Zib (ZdW a b b) c d e
def Zes:=Bx.mk @Ju.eq_1
theorem ZyM (i:In):obs (evF Tryz.prog (Zk 3 (Za [(65,101,YH i.op [Qk,YB,UN],[])]) Zc) Zb 100 20 53 [i.val] (Zu 32 4269180768))=Zg2 (Zj1 (Zep (Zj1 (Zco (Ju (ZL (WD i.op i.a i.a i.a i.a i.a i.a i.a)) Ze i.b i.b i.b) i.a i.a) i.b) i.b) i.b) (Zk9 i.b) Ze:=by kernel_rfl
def ZIN:=Bx.mk (by have h:=@ZyM;simp(maxSteps:=99999999) only[Zx.v,ZF.v,ZD.v,ZO.v,ZU.v,YA.v,Zl.v,Zo.v,Zq.v,Zy.v,Z7.v,WG.v,Z8.v,YC.v,Yc.v,Wr.v,V6.v,Zes.v,-eq_self] at h;exact h)
theorem ZyN (i:In):obs (evF Tryz.prog (Zk 3 (Za [(65,101,YH i.op [Qk,YB,UN],[])]) Zc) Zb 100 20 53 [i.val] (Zu 42 2227485181792))=Zeo (QF (Zlb (Y5 (VR (WB (ZaG (Ju (ZL (WD i.op i.a i.a i.a i.a i.a i.a i.a)) Ze i.b i.b i.b) i.a (VB i.b))))) (Je i.c) (Je i.c) (Je i.c) i.b) (VB i.b)) Ze:=by kernel_rfl
def ZIO:=Bx.mk (by have h:=@ZyN;simp(maxSteps:=99999999) only[Zx.v,ZF.v,ZD.v,ZO.v,ZU.v,YA.v,Zl.v,Zo.v,Zq.v,Zy.v,Yj.v,QA.v,Xh.v,Z7.v,WG.v,Zea.v,Z8.v,Zmu.v,YC.v,Yc.v,Wr.v,V6.v,Zfq.v,Zes.v,-eq_self] at h;exact h)
theorem ZyO (i:In):obs (evF Tryz.prog (Zk 3 (Za [(65,101,YH i.op [Qk,YB,UN],[])]) Zc) Zb 100 20 53 [i.val] (Zu 42 2708521518944))=Zeo (Zco (Ju (WB (Zq6 (Zco (Ju (ZL (Zq7 (Q6 (KH (J5 (Zbp (VS i.op)) (VS i.op) (Zai i.op 53)) i.op)) i.a i.a i.a i.a i.a i.a i.a)) Ze i.b i.b i.b) i.a i.a) i.b i.b i.b i.b)) Ze i.c i.c i.c) i.b i.b) (Zk9 i.c):=by kernel_rfl
def ZIP:=Bx.mk (by have h:=@ZyO;simp(maxSteps:=99999999) only[Zx.v,ZF.v,ZD.v,ZO.v,ZU.v,YA.v,Zl.v,Zo.v,Zq.v,Zy.v,QA.v,Z7.v,WG.v,Zea.v,Z8.v,Jy.v,YC.v,Yc.v,Wr.v,V6.v,Zes.v,-eq_self] at h;exact h)
theorem ZyP (i:In):obs (evF Tryz.prog (Zk 3 (Za [(65,101,YH i.op [Qk,YB,UN],[])]) Zc) Zb 100 20 53 [i.val] (Zu 58 23736766518691680))=Wj (ZgV i.m Zr) (ZdT (Yt (Yt (WC (Yt (WB (JE (Ju (WB (ZaG (Ju (ZL (WD i.op i.a i.a i.a i.a i.a i.a i.a)) Ze i.b i.b i.b) i.a (VB i.b))) Ze i.c i.c i.c) (VB i.b) (VB i.c)))))))):=by kernel_rfl
def ZIQ:=Bx.mk (by have h:=@ZyP;simp(maxSteps:=99999999) only[Zx.v,ZF.v,ZD.v,ZO.v,ZU.v,Zl.v,ZB.v,Zo.v,Zq.v,Zy.v,Yj.v,QA.v,Xh.v,Z7.v,WG.v,Zea.v,Ye.v,Xq.v,Zbw.v,Z8.v,YC.v,Yc.v,Wr.v,V6.v,Zfq.v,Zes.v,-eq_self] at h;exact h)
theorem ZyQ (i:In):obs (evF Tryz.prog (Zk 3 (Za [(65,101,YH i.op [Qk,YB,Y7],[])]) Zc) Zb 100 20 53 [i.val] (Zk8 24))=Zby (ZcL (ZcN (XG (ZfW i.op Ze)) (Je i.a))):=by kernel_rfl
def ZIR:=Bx.mk (by have h:=@ZyQ;simp(maxSteps:=99999999) only[Zx.v,ZF.v,ZD.v,ZO.v,ZU.v,YA.v,Zl.v,Zo.v,Zy.v,Xh.v,ZA.v,Z7.v,WG.v,Z8.v,YC.v,Yc.v,-eq_self] at h;exact h)
theorem ZyR (i:In):obs (evF Tryz.prog (Zk 3 (Za [(65,101,YH i.op [Qk,YB,Y7],[])]) Zc) Zb 100 20 53 [i.val] (Zla 24))=Zer (Zeq (Zep (Zib (ZfX i.op) i.a i.a i.a) i.a) i.a i.a):=by kernel_rfl
def ZIS:=Bx.mk (by have h:=@ZyR;simp(maxSteps:=99999999) only[Zx.v,ZF.v,ZD.v,ZO.v,ZU.v,YA.v,Zl.v,Zo.v,Zq.v,Zy.v,Z7.v,WG.v,Z8.v,YC.v,Yc.v,Wr.v,-eq_self] at h;exact h)
theorem ZyS (i:In):obs (evF Tryz.prog (Zk 3 (Za [(65,101,YH i.op [Qk,YB,Y7],[])]) Zc) Zb 100 20 53 [i.val] (Zu 32 4261840736))=Zby (Zbv (XS (Zlb (Y5 (VR (ZL (WD i.op i.a i.a i.a i.a i.a i.a i.a)))) (Je i.b) (Je i.b) (Je i.b) i.a) (VB i.a))):=by kernel_rfl
def ZIT:=Bx.mk (by have h:=@ZyS;simp(maxSteps:=99999999) only[Zx.v,ZF.v,ZD.v,ZO.v,ZU.v,YA.v,Zl.v,Zo.v,Zq.v,Zy.v,Z7.v,WG.v,Zmo.v,Z8.v,Zmu.v,YC.v,Yc.v,Wr.v,V6.v,-eq_self] at h;exact h)
theorem ZyT (i:In):obs (evF Tryz.prog (Zk 3 (Za [(65,101,YH i.op [Qk,YB,Y7],[])]) Zc) Zb 100 20 53 [i.val] (Zu 32 4269180768))=Zg2 (Zeq (Zco (Ju (ZL (WD i.op i.a i.a i.a i.a i.a i.a i.a)) Ze i.b i.b i.b) i.a i.a) i.b i.b) (Zk9 i.b) Ze:=by kernel_rfl
def ZIU:=Bx.mk (by have h:=@ZyT;simp(maxSteps:=99999999) only[Zx.v,ZF.v,ZD.v,ZO.v,ZU.v,YA.v,Zl.v,Zo.v,Zq.v,Zy.v,Z7.v,WG.v,Z8.v,YC.v,Yc.v,Wr.v,V6.v,Zes.v,-eq_self] at h;exact h)
theorem ZyU (i:In):obs (evF Tryz.prog (Zk 3 (Za [(65,101,YH i.op [Qk,YB,Y7],[])]) Zc) Zb 100 20 53 [i.val] (Zu 40 629757347680))=Zeo (Zco (XU (Yt (WB (ZaG (Ju (ZL (Zq7 (Q6 (KH (J5 (Zbp (VS i.op)) (VS i.op) (Zai i.op 53)) i.op)) i.a i.a i.a i.a i.a i.a i.a)) Ze i.b i.b i.b) i.a (VB i.b))))) i.b i.b) ((!i.c==Zr)=true):=by kernel_rfl
def ZIV:=Bx.mk (by have h:=@ZyU;simp(maxSteps:=99999999) only[Zx.v,ZF.v,ZD.v,ZO.v,ZU.v,YA.v,Zl.v,ZB.v,Zo.v,Zq.v,Zy.v,Yj.v,QA.v,Xh.v,Z7.v,QX.v,WG.v,Zea.v,Zbw.v,Js.v,Z8.v,Jy.v,YC.v,Yc.v,Wr.v,V6.v,Zfq.v,Zes.v,-eq_self] at h;exact h)
theorem ZyV (i:In):obs (evF Tryz.prog (Zk 3 (Za [(65,101,YH i.op [Qk,YB,Y7],[])]) Zc) Zb 100 20 53 [i.val] (Zu 59 32955742020863840))=Zej (Ya (Zbq (Yt (WC (Yt (WB (JE (XU (Yt (WB (ZaG (Ju (ZL (WD i.op i.a i.a i.a i.a i.a i.a i.a)) Ze i.b i.b i.b) i.a (VB i.b))))) (VB i.b) (!i.c==Zr)))))) Ze) (UU i.m)):=by kernel_rfl
def ZIW:=Bx.mk (by have h:=@ZyV;simp(maxSteps:=99999999) only[Zx.v,ZF.v,ZD.v,ZO.v,ZU.v,Zl.v,ZB.v,Zo.v,Zq.v,Zy.v,Yj.v,QA.v,Xh.v,Xm.v,Xy.v,Z7.v,QX.v,WG.v,Zea.v,Ye.v,Zbw.v,Js.v,Z8.v,Zkm.v,YC.v,Yc.v,Wr.v,V6.v,Zfq.v,Zlc.v,Zes.v,-eq_self] at h;exact h)
theorem ZyW (i:In):obs (evF Tryz.prog (Zk 3 (Za [(65,101,YH i.op [Qk,YB,Y7],[])]) Zc) Zb 100 20 53 [i.val] (Zu 59 573387697305323360))=Zji (Zhx i.m 2047) ((ZnJ (Yt (WC (Yt (WB (JE (XU (Yt (WB (Zq6 (Zco (Ju (ZL (WD i.op i.a i.a i.a i.a i.a i.a i.a)) Ze i.b i.b i.b) i.a i.a) i.b i.b i.b i.b)))) (VB i.b) (!i.c==Zr)))))) Ze (UU i.m=true)∧UU i.m=true)∧UU i.m=true) (UU i.m=true):=by kernel_rfl
def ZIX:=Bx.mk (by have h:=@ZyW;simp(maxSteps:=99999999) only[Zx.v,ZF.v,ZD.v,ZO.v,ZU.v,YA.v,Zl.v,ZB.v,Zo.v,Zq.v,Zy.v,Yj.v,QA.v,Z7.v,QX.v,WG.v,Zea.v,Ye.v,Zbw.v,Js.v,Z8.v,YC.v,Yc.v,Wr.v,V6.v,Zlc.v,Zes.v,-eq_self] at h;exact h)
theorem ZyX (i:In):obs (evF Tryz.prog (Zk 3 (Za [(65,101,YH i.op [Qk,YB],[])]) Zc) Zb 100 20 53 [i.val] (Zk8 24))=Zby (ZL (WA (ZL (WA (ZcN (XG (ZfW i.op Ze)) (Je i.a)))))):=by kernel_rfl
def ZIY:=Bx.mk (by have h:=@ZyX;simp(maxSteps:=99999999) only[Zx.v,ZF.v,ZD.v,ZO.v,ZU.v,YA.v,Zl.v,Zo.v,Zy.v,Xh.v,ZA.v,Z7.v,WG.v,Z8.v,YC.v,Yc.v,-eq_self] at h;exact h)
theorem ZyY (i:In):obs (evF Tryz.prog (Zk 3 (Za [(65,101,YH i.op [Qk,YB],[])]) Zc) Zb 100 20 53 [i.val] (Zla 24))=Zer (Zep (Zeq (Zib (ZfX i.op) i.a i.a i.a) i.a i.a) i.a):=by kernel_rfl
def ZIZ:=Bx.mk (by have h:=@ZyY;simp(maxSteps:=99999999) only[Zx.v,ZF.v,ZD.v,ZO.v,ZU.v,YA.v,Zl.v,Zo.v,Zq.v,Zy.v,Z7.v,WG.v,Z8.v,YC.v,Yc.v,Wr.v,-eq_self] at h;exact h)
theorem ZyZ (i:In):obs (evF Tryz.prog (Zk 3 (Za [(65,101,YH i.op [Qk,YB],[])]) Zc) Zb 100 20 53 [i.val] (Zu 32 4261840736))=Zby (Zbv (XS (Zlb (Y5 (VR (ZL (WD i.op i.a i.a i.a i.a i.a i.a i.a)))) (Je i.b) (Je i.b) (Je i.b) i.a) (VB i.a))):=by kernel_rfl
def ZI0:=Bx.mk (by have h:=@ZyZ;simp(maxSteps:=99999999) only[Zx.v,ZF.v,ZD.v,ZO.v,ZU.v,YA.v,Zl.v,Zo.v,Zq.v,Zy.v,Z7.v,WG.v,Zmo.v,Z8.v,Zmu.v,YC.v,Yc.v,Wr.v,V6.v,-eq_self] at h;exact h)
theorem Zy0 (i:In):obs (evF Tryz.prog (Zk 3 (Za [(65,101,YH i.op [Qk,YB],[])]) Zc) Zb 100 20 53 [i.val] (Zu 32 4269180768))=Zg2 (Zeq (Zco (Ju (ZL (WD i.op i.a i.a i.a i.a i.a i.a i.a)) Ze i.b i.b i.b) i.a i.a) i.b i.b) (Zk9 i.b) Ze:=by kernel_rfl
def ZI1:=Bx.mk (by have h:=@Zy0;simp(maxSteps:=99999999) only[Zx.v,ZF.v,ZD.v,ZO.v,ZU.v,YA.v,Zl.v,Zo.v,Zq.v,Zy.v,Z7.v,WG.v,Z8.v,YC.v,Yc.v,Wr.v,V6.v,Zes.v,-eq_self] at h;exact h)
theorem Zy1 (i:In):obs (evF Tryz.prog (Zk 3 (Za [(65,101,YH i.op [Qk,YB],[])]) Zc) Zb 100 20 53 [i.val] (Zu 38 157310945120))=Zeo (Zco (VT (ZaG (Ju (ZL (WD i.op i.a i.a i.a i.a i.a i.a i.a)) Ze i.b i.b i.b) i.a (VB i.b))) i.b i.b) ((!i.c==Zr)=true):=by kernel_rfl
def ZI2:=Bx.mk (by have h:=@Zy1;simp(maxSteps:=99999999) only[Zx.v,ZF.v,ZD.v,ZO.v,ZU.v,YA.v,Zl.v,ZB.v,Zo.v,Zq.v,Zy.v,Yj.v,QA.v,Xh.v,Z7.v,QX.v,WG.v,Z8.v,YC.v,Yc.v,Wr.v,V6.v,Zfq.v,Zes.v,-eq_self] at h;exact h)
theorem Zy2 (i:In):obs (evF Tryz.prog (Zk 3 (Za [(65,101,YH i.op [Qk,YB],[])]) Zc) Zb 100 20 53 [i.val] (Zu 50 89355191748448))=Wj (ZgV i.m Zr) (ZdT (Yt (WC (WB (JE (VT (ZaG (Ju (ZL (WD i.op i.a i.a i.a i.a i.a i.a i.a)) Ze i.b i.b i.b) i.a (VB i.b))) (VB i.b) (!i.c==Zr)))))):=by kernel_rfl
def ZI3:=Bx.mk (by have h:=@Zy2;simp(maxSteps:=99999999) only[Zx.v,ZF.v,ZD.v,ZO.v,ZU.v,Zl.v,ZB.v,Zo.v,Zq.v,Zy.v,Yj.v,QA.v,Xh.v,Z7.v,QX.v,WG.v,Zea.v,Ye.v,Xq.v,Zbw.v,Z8.v,YC.v,Yc.v,Wr.v,V6.v,Zfq.v,Zes.v,-eq_self] at h;exact h)
theorem Zy3 (i:In):obs (evF Tryz.prog (Zk 3 (Za [(65,101,YH i.op [],[])]) Zc) Zb 100 20 53 [i.val] (Zu 20 1048512))=Zer (((ZqB (Zj0 i.op i.op i.op i.op i.op i.op i.op) Ze ((!i.a==Zr)=true) ((!i.a==Zr)=true) ((!i.a==Zr)=true)∧(!i.a==Zr)=true)∧(!i.a==Zr)=true)∧(!i.a==Zr)=true):=by kernel_rfl
def ZI4:=Bx.mk (by have h:=@Zy3;simp(maxSteps:=99999999) only[Zx.v,ZF.v,ZD.v,ZO.v,ZU.v,YA.v,Zl.v,Zo.v,Zq.v,Zy.v,Yj.v,Z8.v,YC.v,Yc.v,Wr.v,-eq_self] at h;exact h)
theorem Zy4 (i:In):obs (evF Tryz.prog (Zk 3 (Za [(65,101,YH i.op [],[])]) Zc) Zb 100 20 53 [i.val] (Zu 22 4165696))=Zg2 ((((XR (Yt (Ya (Yt (Zj0 i.op i.op i.op i.op i.op i.op i.op)) (!i.a==Zr))) (!i.a==Zr)∧(!i.b==Zr)=true)∧(!i.b==Zr)=true)∧(!i.b==Zr)=true)∧(!i.b==Zr)=true) ((!i.b==Zr)=true) Ze:=by kernel_rfl
def ZI5:=Bx.mk (by have h:=@Zy4;simp(maxSteps:=99999999) only[Zx.v,ZF.v,ZD.v,ZO.v,ZU.v,YA.v,Zl.v,Zo.v,Zq.v,Zy.v,Xm.v,Xy.v,Zbw.v,Z8.v,YC.v,Yc.v,-eq_self] at h;exact h)
theorem Zy5 (i:In):obs (evF Tryz.prog (Zk 3 (Za [(65,101,YH i.op [],[])]) Zc) Zb 100 20 53 [i.val] (Zu 24 9441344))=Zeo (XR (Yt (ZkQ (Yt (Ya (Yt (Zj0 i.op i.op i.op i.op i.op i.op i.op)) (!i.a==Zr))) (!i.a==Zr) (!i.b==Zr))) (!i.b==Zr)) ((!i.c==Zr)=true):=by kernel_rfl
def ZI6:=Bx.mk (by have h:=@Zy5;simp(maxSteps:=99999999) only[Zx.v,ZF.v,ZD.v,ZO.v,ZU.v,YA.v,Zl.v,Zo.v,Zq.v,Zy.v,Yj.v,Xh.v,Xm.v,Xy.v,Zbw.v,Z8.v,YC.v,Yc.v,-eq_self] at h;exact h)
theorem Zy6 (i:In):obs (evF Tryz.prog (Zk 3 (Za [(65,101,YH i.op [],[])]) Zc) Zb 100 20 53 [i.val] (Zu 28 1052736))=Wj (ZgV i.m Zr) (Ka (JE (Yt (ZkQ (Yt (Ya (Yt (KH (J5 (Zbp (VS i.op)) (VS i.op) (Zai i.op 53)) i.op)) (!i.a==Zr))) (!i.a==Zr) (!i.b==Zr))) (!i.b==Zr) (!i.c==Zr))):=by kernel_rfl
def ZI7:=Bx.mk (by have h:=@Zy6;simp(maxSteps:=99999999) only[Zx.v,ZF.v,ZD.v,ZO.v,ZU.v,Zl.v,ZB.v,Zo.v,Zq.v,Zy.v,Yj.v,Xh.v,Xm.v,Xy.v,Xq.v,Zbw.v,Z8.v,Jy.v,YC.v,Yc.v,-eq_self] at h;exact h)
def JS (a:Prop):=ZuP a Ze Ze
def Zog:=Bx.mk @JS.eq_1
theorem Zy7 (i:In):obs (evF Tryz.prog (Zk 3 (Za [(65,101,YH i.op [Y7],[])]) Zc) Zb 100 20 53 [i.val] (Zu 22 4194080))=Zer ((((((JS (Zj0 i.op i.op i.op i.op i.op i.op i.op)∧(!i.a==Zr)=true)∧(!i.a==Zr)=true)∧(!i.a==Zr)=true)∧(!i.a==Zr)=true)∧(!i.a==Zr)=true)∧(!i.a==Zr)=true):=by kernel_rfl
def ZI8:=Bx.mk (by have h:=@Zy7;simp(maxSteps:=99999999) only[Zx.v,ZF.v,ZD.v,ZO.v,ZU.v,YA.v,Zl.v,ZB.v,Zo.v,Zy.v,Z7.v,QX.v,Z8.v,YC.v,Yc.v,Wr.v,Zog.v,-eq_self] at h;exact h)
theorem Zy8 (i:In):obs (evF Tryz.prog (Zk 3 (Za [(65,101,YH i.op [Y7],[])]) Zc) Zb 100 20 53 [i.val] (Zu 26 66658592))=Zg2 ((((XR (JS (Ya (JS (Zj0 i.op i.op i.op i.op i.op i.op i.op)) (!i.a==Zr))) (!i.a==Zr)∧(!i.b==Zr)=true)∧(!i.b==Zr)=true)∧(!i.b==Zr)=true)∧(!i.b==Zr)=true) ((!i.b==Zr)=true) Ze:=by kernel_rfl
def ZI9:=Bx.mk (by have h:=@Zy8;simp(maxSteps:=99999999) only[Zx.v,ZF.v,ZD.v,ZO.v,ZU.v,YA.v,Zl.v,ZB.v,Zo.v,Zy.v,Xm.v,Xy.v,Z7.v,QX.v,Z8.v,YC.v,Yc.v,Zog.v,-eq_self] at h;exact h)
theorem Zy9 (i:In):obs (evF Tryz.prog (Zk 3 (Za [(65,101,YH i.op [Y7],[])]) Zc) Zb 100 20 53 [i.val] (Zu 30 612442400))=Zeo (XR (JS (Ya (XR (JS (Ya (JS (KH (ZjE (Uc (VS i.op)) (VS i.op) (VS i.op) (Zai i.op 53)) i.op)) (!i.a==Zr))) (!i.a==Zr)) (!i.b==Zr))) (!i.b==Zr)) ((!i.c==Zr)=true):=by kernel_rfl
def ZJa:=Bx.mk (by have h:=@Zy9;simp(maxSteps:=99999999) only[Zx.v,ZF.v,ZD.v,ZO.v,ZU.v,YA.v,Ud.v,Zl.v,ZB.v,Zo.v,Zy.v,Xm.v,Xy.v,Z7.v,QX.v,Z8.v,Jy.v,YC.v,Yc.v,Zog.v,-eq_self] at h;exact h)
theorem Zza (i:In):obs (evF Tryz.prog (Zk 3 (Za [(65,101,YH i.op [Y7],[])]) Zc) Zb 100 20 53 [i.val] (Zu 41 121408397600))=Zej (Ya (Q6 (XU (XG (J5 (QF (JS (Ya (XR (JS (Ya (JS (KH (ZjE (Uc (VS i.op)) (VS i.op) (VS i.op) (Zai i.op 53)) i.op)) (!i.a==Zr))) (!i.a==Zr)) (!i.b==Zr))) (!i.b==Zr)) (!i.b==Zr) (!i.c==Zr))))) (UU i.m)):=by kernel_rfl
def ZJb:=Bx.mk (by have h:=@Zza;simp(maxSteps:=99999999) only[Zx.v,ZF.v,ZD.v,ZO.v,ZU.v,Ud.v,Zl.v,ZB.v,Zo.v,Zy.v,Xm.v,ZA.v,Xy.v,Z7.v,QX.v,Js.v,Z8.v,Jy.v,Zkm.v,YC.v,Yc.v,Zlc.v,Zog.v,-eq_self] at h;exact h)
theorem Zzb (i:In):obs (evF Tryz.prog (Zk 3 (Za [(65,101,YH i.op [Y7],[])]) Zc) Zb 100 20 53 [i.val] (Zu 41 2182992699680))=Zji (Zhx i.m 2047) (((Q6 (XU (XG (J5 (QF (JS (Ya (XR (JS (Ya (JS (KH (ZjE (Uc (VS i.op)) (VS i.op) (VS i.op) (Zai i.op 53)) i.op)) (!i.a==Zr))) (!i.a==Zr)) (!i.b==Zr))) (!i.b==Zr)) (!i.b==Zr) (!i.c==Zr))))∧UU i.m=true)∧UU i.m=true)∧UU i.m=true) (UU i.m=true):=by kernel_rfl
def ZJc:=Bx.mk (by have h:=@Zzb;simp(maxSteps:=99999999) only[Zx.v,ZF.v,ZD.v,ZO.v,ZU.v,YA.v,Ud.v,Zl.v,ZB.v,Zo.v,Zy.v,Xm.v,ZA.v,Xy.v,Z7.v,QX.v,Js.v,Z8.v,Jy.v,YC.v,Yc.v,Zlc.v,Zog.v,-eq_self] at h;exact h)
def ZNH:List (FuncId×Con):=(List.range 53).map fun m=>(101,JR (m+1))
theorem ZaH (op:Int) (h1:1≤op) (h2:op≤53):Qi 101 [.int .i64 op] (.string ⟨⟨Zb6 (ZaK op)⟩⟩):=by
 obtain⟨n,rfl⟩:=Int.eq_ofNat_of_zero_le (show 0≤op by omega)
 have e:ZaK (n:Int)=Zj6.getD n 0:=by unfold ZaK; rw[if_pos (by omega)]; rfl
 have hh:Qi 101 [.int .i64 (n:Nat)] (.string ⟨⟨Zb6 (Zj6.getD n 0)⟩⟩):=by
  refine ZjZ QH (show Zk7 _ ZNH from ZDF) (101,JR n) (List.mem_map.2 ⟨n-1,List.mem_range.2 (by omega),?_⟩)
  rw[show n-1+1=n by omega]
 rw[e]; exact hh
theorem ZJd (op:Int) (h1:1≤op) (h2:op≤53):ZaK op=1∨ZaK op=2∨ZaK op=3∨ZaK op=4∨ZaK op=5∨ZaK op=6∨ZaK op=7:=by
 obtain⟨n,rfl⟩:=Int.eq_ofNat_of_zero_le (show 0≤op by omega)
 have e:ZaK (n:Int)=Zj6.getD n 0:=by unfold ZaK; rw[if_pos (by omega)]; rfl
 rw[e]
 have hn:n<54:=by omega
 have h0:n≠0:=by omega
 have key:∀ n,n<54→n≠0→(Zj6.getD n 0=1∨Zj6.getD n 0=2∨Zj6.getD n 0=3∨Zj6.getD n 0=4∨Zj6.getD n 0=5∨Zj6.getD n 0=6∨Zj6.getD n 0=7):=by decide
 exact key n hn h0
theorem ZFe (i:In):WJ 1 i=true↔(0≤i.a∧i.a≤15∧i.b=0∧i.c=0 ∧ -2048≤i.m∧i.m≤2047):=by
 simp[WJ,Um]
 try omega
theorem ZFf (i:In):WJ 2 i=true↔(0≤i.a∧i.a≤15∧i.b=0∧i.c=0 ∧ -524288≤i.m∧i.m≤524287):=by
 simp[WJ,Um]
 try omega
theorem ZDI (i:In):WJ 3 i=true↔(0≤i.a∧i.a≤15∧0≤i.b∧i.b≤15∧0≤i.c∧i.c≤15∧i.m=0):=by
 simp[WJ,Um]
 try omega
theorem ZDJ (i:In):WJ 4 i=true↔(0≤i.a∧i.a≤15∧0≤i.b∧i.b≤15∧i.c=0 ∧ -2048≤i.m∧i.m≤2047):=by
 simp[WJ,Um]
 try omega
theorem ZFg (i:In):WJ 5 i=true↔(0≤i.a∧i.a≤15∧0≤i.b∧i.b≤15∧i.c=0∧i.m=0):=by
 simp[WJ,Um]
 try omega
theorem ZLM (i:In):WJ 6 i=true↔(i.a=0∧i.b=0∧i.c=0∧i.m=0):=by
 simp[WJ,Um]
 try omega
theorem ZJe (i:In):WJ 7 i=true↔(i.a=0∧i.b=0∧i.c=0 ∧ -2048≤i.m∧i.m≤2047):=by
 simp[WJ,Um]
 try omega
theorem ZJf (i:In) (h1:1≤i.op) (h2:i.op≤53) (hk:ZaK i.op=1):Qi 53 [i.val] (.bool (XC i)):=by
 have hm:XC i=WJ 1 i:=by unfold XC; rw[hk]
 have hf:=ZaH i.op h1 h2
 rw[hk,show Zb6 1=[97,105] from rfl] at hf
 have g1:decide (i.op<(1:Int))=false:=dF (by omega)
 have g2:decide (i.op>(53:Int))=false:=dF (by omega)
 have no:WJ 1 i≠true→Value.bool false=Value.bool (XC i):=fun h=>by rw[hm]; cases hc:WJ 1 i; rfl; exact absurd hc h
 by_cases a0:0≤i.a
 ·have a1:decide (i.a≥(0:Int))=true:=lR (by omega)
  by_cases a2:i.a≤15
  ·have a3:decide (i.a≤(15:Int))=true:=lR (by omega)
   by_cases b0:i.b=0
   ·have b1:(i.b==(0:Int))=true:=Zos b0
    by_cases c0:i.c=0
    ·have c1:(i.c==(0:Int))=true:=Zos c0
     by_cases m0 : -2048≤i.m
     ·have m1:decide (i.m≥(-2048:Int))=true:=lR (by omega)
      exact Zi (Z3 hf) (ZID.v i) (by rw[hm]; congr 1; rw[Bool.eq_iff_iff,ZFe,decide_eq_true_eq]; omega) (by simp only[g1,g2,a1,a3,b1,c1,m1,Bool.not_true,Bool.not_false,and_self,and_true,true_and]) rfl rfl
     ·have m1:decide (i.m≥(-2048:Int))=false:=dF (by omega)
      exact Zi (Z3 hf) (ZIC.v i) (no (fun hc=>by have:=(ZFe i).1 hc; omega)) (by simp only[g1,g2,a1,a3,b1,c1,m1,Bool.not_true,Bool.not_false,and_self,and_true,true_and]) rfl rfl
    ·have c1:(i.c==(0:Int))=false:=Qw c0
     exact Zi (Z3 hf) (ZIB.v i) (no (fun hc=>by have:=(ZFe i).1 hc; omega)) (by simp only[g1,g2,a1,a3,b1,c1,Bool.not_true,Bool.not_false,and_self,and_true,true_and]) rfl rfl
   ·have b1:(i.b==(0:Int))=false:=Qw b0
    exact Zi (Z3 hf) (ZIA.v i) (no (fun hc=>by have:=(ZFe i).1 hc; omega)) (by simp only[g1,g2,a1,a3,b1,Bool.not_true,Bool.not_false,and_self,and_true,true_and]) rfl rfl
  ·have a3:decide (i.a≤(15:Int))=false:=dF (by omega)
   exact Zi (Z3 hf) (ZIz.v i) (no (fun hc=>by have:=(ZFe i).1 hc; omega)) (by simp only[g1,g2,a1,a3,Bool.not_true,Bool.not_false,and_self,and_true,true_and]) rfl rfl
 ·have a1:decide (i.a≥(0:Int))=false:=dF (by omega)
  exact Zi (Z3 hf) (ZIy.v i) (no (fun hc=>by have:=(ZFe i).1 hc; omega)) (by simp only[g1,g2,a1,Bool.not_true,Bool.not_false,and_self,and_true,true_and]) rfl rfl
theorem ZJg (i:In) (h1:1≤i.op) (h2:i.op≤53) (hk:ZaK i.op=2):Qi 53 [i.val] (.bool (XC i)):=by
 have hm:XC i=WJ 2 i:=by unfold XC; rw[hk]
 have hf:=ZaH i.op h1 h2
 rw[hk,show Zb6 2=[97,106] from rfl] at hf
 have g1:decide (i.op<(1:Int))=false:=dF (by omega)
 have g2:decide (i.op>(53:Int))=false:=dF (by omega)
 have no:WJ 2 i≠true→Value.bool false=Value.bool (XC i):=fun h=>by rw[hm]; cases hc:WJ 2 i; rfl; exact absurd hc h
 by_cases a0:0≤i.a
 ·have a1:decide (i.a≥(0:Int))=true:=lR (by omega)
  by_cases a2:i.a≤15
  ·have a3:decide (i.a≤(15:Int))=true:=lR (by omega)
   by_cases b0:i.b=0
   ·have b1:(i.b==(0:Int))=true:=Zos b0
    by_cases c0:i.c=0
    ·have c1:(i.c==(0:Int))=true:=Zos c0
     by_cases m0 : -524288≤i.m
     ·have m1:decide (i.m≥(-524288:Int))=true:=lR (by omega)
      exact Zi (Z3 hf) (ZIJ.v i) (by rw[hm]; congr 1; rw[Bool.eq_iff_iff,ZFf,decide_eq_true_eq]; omega) (by simp only[g1,g2,a1,a3,b1,c1,m1,Bool.not_true,Bool.not_false,and_self,and_true,true_and]) rfl rfl
     ·have m1:decide (i.m≥(-524288:Int))=false:=dF (by omega)
      exact Zi (Z3 hf) (ZII.v i) (no (fun hc=>by have:=(ZFf i).1 hc; omega)) (by simp only[g1,g2,a1,a3,b1,c1,m1,Bool.not_true,Bool.not_false,and_self,and_true,true_and]) rfl rfl
    ·have c1:(i.c==(0:Int))=false:=Qw c0
     exact Zi (Z3 hf) (ZIH.v i) (no (fun hc=>by have:=(ZFf i).1 hc; omega)) (by simp only[g1,g2,a1,a3,b1,c1,Bool.not_true,Bool.not_false,and_self,and_true,true_and]) rfl rfl
   ·have b1:(i.b==(0:Int))=false:=Qw b0
    exact Zi (Z3 hf) (ZIG.v i) (no (fun hc=>by have:=(ZFf i).1 hc; omega)) (by simp only[g1,g2,a1,a3,b1,Bool.not_true,Bool.not_false,and_self,and_true,true_and]) rfl rfl
  ·have a3:decide (i.a≤(15:Int))=false:=dF (by omega)
   exact Zi (Z3 hf) (ZIF.v i) (no (fun hc=>by have:=(ZFf i).1 hc; omega)) (by simp only[g1,g2,a1,a3,Bool.not_true,Bool.not_false,and_self,and_true,true_and]) rfl rfl
 ·have a1:decide (i.a≥(0:Int))=false:=dF (by omega)
  exact Zi (Z3 hf) (ZIE.v i) (no (fun hc=>by have:=(ZFf i).1 hc; omega)) (by simp only[g1,g2,a1,Bool.not_true,Bool.not_false,and_self,and_true,true_and]) rfl rfl
theorem ZJh (i:In) (h1:1≤i.op) (h2:i.op≤53) (hk:ZaK i.op=3):Qi 53 [i.val] (.bool (XC i)):=by
 have hm:XC i=WJ 3 i:=by unfold XC; rw[hk]
 have hf:=ZaH i.op h1 h2
 rw[hk,show Zb6 3=[97,98,99] from rfl] at hf
 have g1:decide (i.op<(1:Int))=false:=dF (by omega)
 have g2:decide (i.op>(53:Int))=false:=dF (by omega)
 have no:WJ 3 i≠true→Value.bool false=Value.bool (XC i):=fun h=>by rw[hm]; cases hc:WJ 3 i; rfl; exact absurd hc h
 by_cases a0:0≤i.a
 ·have a1:decide (i.a≥(0:Int))=true:=lR (by omega)
  by_cases a2:i.a≤15
  ·have a3:decide (i.a≤(15:Int))=true:=lR (by omega)
   by_cases b0:0≤i.b
   ·have b1:decide (i.b≥(0:Int))=true:=lR (by omega)
    by_cases b2:i.b≤15
    ·have b3:decide (i.b≤(15:Int))=true:=lR (by omega)
     by_cases c0:0≤i.c
     ·have c1:decide (i.c≥(0:Int))=true:=lR (by omega)
      by_cases c2:i.c≤15
      ·have c3:decide (i.c≤(15:Int))=true:=lR (by omega)
       exact Zi (Z3 hf) (ZIQ.v i) (by rw[hm]; congr 1; rw[Bool.eq_iff_iff,ZDI,beq_iff_eq]; omega) (by simp only[g1,g2,a1,a3,b1,b3,c1,c3,Bool.not_true,Bool.not_false,and_self,and_true,true_and]) rfl rfl
      ·have c3:decide (i.c≤(15:Int))=false:=dF (by omega)
       exact Zi (Z3 hf) (ZIP.v i) (no (fun hc=>by have:=(ZDI i).1 hc; omega)) (by simp only[g1,g2,a1,a3,b1,b3,c1,c3,Bool.not_true,Bool.not_false,and_self,and_true,true_and]) rfl rfl
     ·have c1:decide (i.c≥(0:Int))=false:=dF (by omega)
      exact Zi (Z3 hf) (ZIO.v i) (no (fun hc=>by have:=(ZDI i).1 hc; omega)) (by simp only[g1,g2,a1,a3,b1,b3,c1,Bool.not_true,Bool.not_false,and_self,and_true,true_and]) rfl rfl
    ·have b3:decide (i.b≤(15:Int))=false:=dF (by omega)
     exact Zi (Z3 hf) (ZIN.v i) (no (fun hc=>by have:=(ZDI i).1 hc; omega)) (by simp only[g1,g2,a1,a3,b1,b3,Bool.not_true,Bool.not_false,and_self,and_true,true_and]) rfl rfl
   ·have b1:decide (i.b≥(0:Int))=false:=dF (by omega)
    exact Zi (Z3 hf) (ZIM.v i) (no (fun hc=>by have:=(ZDI i).1 hc; omega)) (by simp only[g1,g2,a1,a3,b1,Bool.not_true,Bool.not_false,and_self,and_true,true_and]) rfl rfl
  ·have a3:decide (i.a≤(15:Int))=false:=dF (by omega)
   exact Zi (Z3 hf) (ZIL.v i) (no (fun hc=>by have:=(ZDI i).1 hc; omega)) (by simp only[g1,g2,a1,a3,Bool.not_true,Bool.not_false,and_self,and_true,true_and]) rfl rfl
 ·have a1:decide (i.a≥(0:Int))=false:=dF (by omega)
  exact Zi (Z3 hf) (ZIK.v i) (no (fun hc=>by have:=(ZDI i).1 hc; omega)) (by simp only[g1,g2,a1,Bool.not_true,Bool.not_false,and_self,and_true,true_and]) rfl rfl
theorem ZJi (i:In) (h1:1≤i.op) (h2:i.op≤53) (hk:ZaK i.op=4):Qi 53 [i.val] (.bool (XC i)):=by
 have hm:XC i=WJ 4 i:=by unfold XC; rw[hk]
 have hf:=ZaH i.op h1 h2
 rw[hk,show Zb6 4=[97,98,105] from rfl] at hf
 have g1:decide (i.op<(1:Int))=false:=dF (by omega)
 have g2:decide (i.op>(53:Int))=false:=dF (by omega)
 have no:WJ 4 i≠true→Value.bool false=Value.bool (XC i):=fun h=>by rw[hm]; cases hc:WJ 4 i; rfl; exact absurd hc h
 by_cases a0:0≤i.a
 ·have a1:decide (i.a≥(0:Int))=true:=lR (by omega)
  by_cases a2:i.a≤15
  ·have a3:decide (i.a≤(15:Int))=true:=lR (by omega)
   by_cases b0:0≤i.b
   ·have b1:decide (i.b≥(0:Int))=true:=lR (by omega)
    by_cases b2:i.b≤15
    ·have b3:decide (i.b≤(15:Int))=true:=lR (by omega)
     by_cases c0:i.c=0
     ·have c1:(i.c==(0:Int))=true:=Zos c0
      by_cases m0 : -2048≤i.m
      ·have m1:decide (i.m≥(-2048:Int))=true:=lR (by omega)
       exact Zi (Z3 hf) (ZIX.v i) (by rw[hm]; congr 1; rw[Bool.eq_iff_iff,ZDJ,decide_eq_true_eq]; omega) (by simp only[g1,g2,a1,a3,b1,b3,c1,m1,Bool.not_true,Bool.not_false,and_self,and_true,true_and]) rfl rfl
      ·have m1:decide (i.m≥(-2048:Int))=false:=dF (by omega)
       exact Zi (Z3 hf) (ZIW.v i) (no (fun hc=>by have:=(ZDJ i).1 hc; omega)) (by simp only[g1,g2,a1,a3,b1,b3,c1,m1,Bool.not_true,Bool.not_false,and_self,and_true,true_and]) rfl rfl
     ·have c1:(i.c==(0:Int))=false:=Qw c0
      exact Zi (Z3 hf) (ZIV.v i) (no (fun hc=>by have:=(ZDJ i).1 hc; omega)) (by simp only[g1,g2,a1,a3,b1,b3,c1,Bool.not_true,Bool.not_false,and_self,and_true,true_and]) rfl rfl
    ·have b3:decide (i.b≤(15:Int))=false:=dF (by omega)
     exact Zi (Z3 hf) (ZIU.v i) (no (fun hc=>by have:=(ZDJ i).1 hc; omega)) (by simp only[g1,g2,a1,a3,b1,b3,Bool.not_true,Bool.not_false,and_self,and_true,true_and]) rfl rfl
   ·have b1:decide (i.b≥(0:Int))=false:=dF (by omega)
    exact Zi (Z3 hf) (ZIT.v i) (no (fun hc=>by have:=(ZDJ i).1 hc; omega)) (by simp only[g1,g2,a1,a3,b1,Bool.not_true,Bool.not_false,and_self,and_true,true_and]) rfl rfl
  ·have a3:decide (i.a≤(15:Int))=false:=dF (by omega)
   exact Zi (Z3 hf) (ZIS.v i) (no (fun hc=>by have:=(ZDJ i).1 hc; omega)) (by simp only[g1,g2,a1,a3,Bool.not_true,Bool.not_false,and_self,and_true,true_and]) rfl rfl
 ·have a1:decide (i.a≥(0:Int))=false:=dF (by omega)
  exact Zi (Z3 hf) (ZIR.v i) (no (fun hc=>by have:=(ZDJ i).1 hc; omega)) (by simp only[g1,g2,a1,Bool.not_true,Bool.not_false,and_self,and_true,true_and]) rfl rfl
theorem ZJj (i:In) (h1:1≤i.op) (h2:i.op≤53) (hk:ZaK i.op=5):Qi 53 [i.val] (.bool (XC i)):=by
 have hm:XC i=WJ 5 i:=by unfold XC; rw[hk]
 have hf:=ZaH i.op h1 h2
 rw[hk,show Zb6 5=[97,98] from rfl] at hf
 have g1:decide (i.op<(1:Int))=false:=dF (by omega)
 have g2:decide (i.op>(53:Int))=false:=dF (by omega)
 have no:WJ 5 i≠true→Value.bool false=Value.bool (XC i):=fun h=>by rw[hm]; cases hc:WJ 5 i; rfl; exact absurd hc h
 by_cases a0:0≤i.a
 ·have a1:decide (i.a≥(0:Int))=true:=lR (by omega)
  by_cases a2:i.a≤15
  ·have a3:decide (i.a≤(15:Int))=true:=lR (by omega)
   by_cases b0:0≤i.b
   ·have b1:decide (i.b≥(0:Int))=true:=lR (by omega)
    by_cases b2:i.b≤15
    ·have b3:decide (i.b≤(15:Int))=true:=lR (by omega)
     by_cases c0:i.c=0
     ·have c1:(i.c==(0:Int))=true:=Zos c0
      exact Zi (Z3 hf) (ZI3.v i) (by rw[hm]; congr 1; rw[Bool.eq_iff_iff,ZFg,beq_iff_eq]; omega) (by simp only[g1,g2,a1,a3,b1,b3,c1,Bool.not_true,Bool.not_false,and_self,and_true,true_and]) rfl rfl
     ·have c1:(i.c==(0:Int))=false:=Qw c0
      exact Zi (Z3 hf) (ZI2.v i) (no (fun hc=>by have:=(ZFg i).1 hc; omega)) (by simp only[g1,g2,a1,a3,b1,b3,c1,Bool.not_true,Bool.not_false,and_self,and_true,true_and]) rfl rfl
    ·have b3:decide (i.b≤(15:Int))=false:=dF (by omega)
     exact Zi (Z3 hf) (ZI1.v i) (no (fun hc=>by have:=(ZFg i).1 hc; omega)) (by simp only[g1,g2,a1,a3,b1,b3,Bool.not_true,Bool.not_false,and_self,and_true,true_and]) rfl rfl
   ·have b1:decide (i.b≥(0:Int))=false:=dF (by omega)
    exact Zi (Z3 hf) (ZI0.v i) (no (fun hc=>by have:=(ZFg i).1 hc; omega)) (by simp only[g1,g2,a1,a3,b1,Bool.not_true,Bool.not_false,and_self,and_true,true_and]) rfl rfl
  ·have a3:decide (i.a≤(15:Int))=false:=dF (by omega)
   exact Zi (Z3 hf) (ZIZ.v i) (no (fun hc=>by have:=(ZFg i).1 hc; omega)) (by simp only[g1,g2,a1,a3,Bool.not_true,Bool.not_false,and_self,and_true,true_and]) rfl rfl
 ·have a1:decide (i.a≥(0:Int))=false:=dF (by omega)
  exact Zi (Z3 hf) (ZIY.v i) (no (fun hc=>by have:=(ZFg i).1 hc; omega)) (by simp only[g1,g2,a1,Bool.not_true,Bool.not_false,and_self,and_true,true_and]) rfl rfl
theorem ZJk (i:In) (h1:1≤i.op) (h2:i.op≤53) (hk:ZaK i.op=6):Qi 53 [i.val] (.bool (XC i)):=by
 have hm:XC i=WJ 6 i:=by unfold XC; rw[hk]
 have hf:=ZaH i.op h1 h2
 rw[hk,show Zb6 6=[] from rfl] at hf
 have g1:decide (i.op<(1:Int))=false:=dF (by omega)
 have g2:decide (i.op>(53:Int))=false:=dF (by omega)
 have no:WJ 6 i≠true→Value.bool false=Value.bool (XC i):=fun h=>by rw[hm]; cases hc:WJ 6 i; rfl; exact absurd hc h
 by_cases a0:i.a=0
 ·have a1:(i.a==(0:Int))=true:=Zos a0
  by_cases b0:i.b=0
  ·have b1:(i.b==(0:Int))=true:=Zos b0
   by_cases c0:i.c=0
   ·have c1:(i.c==(0:Int))=true:=Zos c0
    exact Zi (Z3 hf) (ZI7.v i) (by rw[hm]; congr 1; rw[Bool.eq_iff_iff,ZLM,beq_iff_eq]; omega) (by simp only[g1,g2,a1,b1,c1,Bool.not_true,Bool.not_false,and_self,and_true,true_and]) rfl rfl
   ·have c1:(i.c==(0:Int))=false:=Qw c0
    exact Zi (Z3 hf) (ZI6.v i) (no (fun hc=>by have:=(ZLM i).1 hc; omega)) (by simp only[g1,g2,a1,b1,c1,Bool.not_true,Bool.not_false,and_self,and_true,true_and]) rfl rfl
  ·have b1:(i.b==(0:Int))=false:=Qw b0
   exact Zi (Z3 hf) (ZI5.v i) (no (fun hc=>by have:=(ZLM i).1 hc; omega)) (by simp only[g1,g2,a1,b1,Bool.not_true,Bool.not_false,and_self,and_true,true_and]) rfl rfl
 ·have a1:(i.a==(0:Int))=false:=Qw a0
  exact Zi (Z3 hf) (ZI4.v i) (no (fun hc=>by have:=(ZLM i).1 hc; omega)) (by simp only[g1,g2,a1,Bool.not_true,Bool.not_false,and_self,and_true,true_and]) rfl rfl
theorem ZJl (i:In) (h1:1≤i.op) (h2:i.op≤53) (hk:ZaK i.op=7):Qi 53 [i.val] (.bool (XC i)):=by
 have hm:XC i=WJ 7 i:=by unfold XC; rw[hk]
 have hf:=ZaH i.op h1 h2
 rw[hk,show Zb6 7=[105] from rfl] at hf
 have g1:decide (i.op<(1:Int))=false:=dF (by omega)
 have g2:decide (i.op>(53:Int))=false:=dF (by omega)
 have no:WJ 7 i≠true→Value.bool false=Value.bool (XC i):=fun h=>by rw[hm]; cases hc:WJ 7 i; rfl; exact absurd hc h
 by_cases a0:i.a=0
 ·have a1:(i.a==(0:Int))=true:=Zos a0
  by_cases b0:i.b=0
  ·have b1:(i.b==(0:Int))=true:=Zos b0
   by_cases c0:i.c=0
   ·have c1:(i.c==(0:Int))=true:=Zos c0
    by_cases m0 : -2048≤i.m
    ·have m1:decide (i.m≥(-2048:Int))=true:=lR (by omega)
     exact Zi (Z3 hf) (ZJc.v i) (by rw[hm]; congr 1; rw[Bool.eq_iff_iff,ZJe,decide_eq_true_eq]; omega) (by simp only[g1,g2,a1,b1,c1,m1,Bool.not_true,Bool.not_false,and_self,and_true,true_and]) rfl rfl
    ·have m1:decide (i.m≥(-2048:Int))=false:=dF (by omega)
     exact Zi (Z3 hf) (ZJb.v i) (no (fun hc=>by have:=(ZJe i).1 hc; omega)) (by simp only[g1,g2,a1,b1,c1,m1,Bool.not_true,Bool.not_false,and_self,and_true,true_and]) rfl rfl
   ·have c1:(i.c==(0:Int))=false:=Qw c0
    exact Zi (Z3 hf) (ZJa.v i) (no (fun hc=>by have:=(ZJe i).1 hc; omega)) (by simp only[g1,g2,a1,b1,c1,Bool.not_true,Bool.not_false,and_self,and_true,true_and]) rfl rfl
  ·have b1:(i.b==(0:Int))=false:=Qw b0
   exact Zi (Z3 hf) (ZI9.v i) (no (fun hc=>by have:=(ZJe i).1 hc; omega)) (by simp only[g1,g2,a1,b1,Bool.not_true,Bool.not_false,and_self,and_true,true_and]) rfl rfl
 ·have a1:(i.a==(0:Int))=false:=Qw a0
  exact Zi (Z3 hf) (ZI8.v i) (no (fun hc=>by have:=(ZJe i).1 hc; omega)) (by simp only[g1,g2,a1,Bool.not_true,Bool.not_false,and_self,and_true,true_and]) rfl rfl
theorem Ws (i:In):Qi 53 [i.val] (.bool (XC i)):=by
 by_cases h1:1≤i.op
 ·by_cases h2:i.op≤53
  ·rcases ZJd i.op h1 h2 with h|h|h|h|h|h|h
   ·exact ZJf i h1 h2 h
   ·exact ZJg i h1 h2 h
   ·exact ZJh i h1 h2 h
   ·exact ZJi i h1 h2 h
   ·exact ZJj i h1 h2 h
   ·exact ZJk i h1 h2 h
   ·exact ZJl i h1 h2 h
  ·have e:XC i=false:=by unfold XC ZaK; rw[if_neg (by omega)]; rfl
   rw[e]
   exact Zi QH (ZNG.v i) rfl (by simp only[show decide (i.op<(1:Int))=false from dF (by omega),show decide (i.op>(53:Int))=true from lR (by omega),and_self]) rfl rfl
 ·have e:XC i=false:=by unfold XC ZaK; rw[if_neg (by omega)]; rfl
  rw[e]
  exact Zi QH (ZNF.v i) rfl (by simp only[show decide (i.op<(1:Int))=true from lR (by omega),and_self]) rfl rfl
def ZmJ (args:List Value) (v:Value) (zs zs':List UInt8) (f f':Nat→Bool) (N m:Nat):Con:=⟨args,67,arR true zs f N m,Zf2 N m,v,67,arR true zs' f' N m,Zf2 N m⟩
def Zkn (fr:Nat→Cp) (i:In):List Value:=[Xu fr,i.val,.pointer (some ⟨66,0,none⟩)]
theorem ZJm (c:Cp) (a:Nat) (w:Nat) (need:Nat) (zs:List UInt8) (f:Nat→Bool) (N:Nat) (m:Nat):obs (evF Tryz.prog Zc Zb 100 20 54 [c.val,ZX a,Z1 w,QK need,ZN] (Zgt 67 (ZjX zs f N m) (Zf2 N m) [KR] 0))=Wj Wm (Vt ((!c.V)=true)):=by kernel_rfl
def wa_t:=Bx.mk (by have h:=@ZJm;simp(maxSteps:=99999999) only[Zx.v,ZF.v,ZD.v,ZR.v,ZH.v,Zl.v,XN.v,-eq_self] at h;exact h)
theorem ZJn (c:Cp) (a:Nat) (w:Nat) (need:Nat) (zs:List UInt8) (f:Nat→Bool) (N:Nat) (m:Nat):obs (evF Tryz.prog Zc Zb 100 20 54 [c.val,ZX a,Z1 w,QK need,ZN] (Zgt 67 (ZjX zs f N m) (Zf2 N m) [W1,Zc9] 0))=X2 Jl (Uc (!c.V)) (YS c.Y=true):=by kernel_rfl
def wa_s:=Bx.mk (by have h:=@ZJn;simp(maxSteps:=99999999) only[Zx.v,ZF.v,ZD.v,YA.v,X0.v,ZR.v,Ud.v,XB.v,Zl.v,Ym.v,XN.v,-eq_self] at h;exact h)
theorem ZJo (c:Cp) (a:Nat) (w:Nat) (need:Nat) (zs:List UInt8) (f:Nat→Bool) (N:Nat) (m:Nat):obs (evF Tryz.prog Zc Zb 100 20 54 [c.val,ZX a,Z1 w,QK need,ZN] (Zgt 67 (ZjX zs f N m) (Zf2 N m) [W1,ZbS,ZgB 2] 0))=X2 (ZcC 3) (Zjb (!c.V) (YS c.Y)) (ZgP c.P need (QW need)=true):=by kernel_rfl
def wa_p:=Bx.mk (by have h:=@ZJo;simp(maxSteps:=99999999) only[Zx.v,ZF.v,V7.v,ZD.v,YA.v,X0.v,ZR.v,Zl.v,Ym.v,Zb2.v,XN.v,-eq_self] at h;exact h)
theorem ZJp (c:Cp) (a:Nat) (w:Nat) (need:Nat) (h:Bool) (zs:List UInt8) (f:Nat→Bool) (N:Nat) (m:Nat):obs (evF Tryz.prog (Zk 3 (Za [(68,104,Zay [c.val,ZaJ [ZX a,ZX w]] h,[])]) Zc) Zb 100 20 54 [c.val,ZX a,Z1 w,QK need,ZN] (Yv zs f N m N m 17 131064))=Kc Kn (((((((((((((Xl (ZgL (!c.V) (YS c.Y) (ZgP c.P need (QW need))) (ZM (Z6 c.C c.E c.B c.T c.P c.Y c.R c.V) c.C c.E c.B c.T c.P c.Y c.R c.V) (ZaJ [ZX a,U3 (QW w)]=ZaJ [ZX a,ZX w])∧(!h)=true)∧(!h)=true)∧(!h)=true)∧(!h)=true)∧(!h)=true)∧(!h)=true)∧(!h)=true)∧(!h)=true)∧(!h)=true)∧(!h)=true)∧(!h)=true)∧(!h)=true)∧(!h)=true):=by kernel_rfl
def wa_h:=Bx.mk (by have h:=@ZJp;simp(maxSteps:=99999999) only[Zx.v,ZF.v,V7.v,ZD.v,ZO.v,YA.v,ZR.v,Zp.v,Zw.v,Zl.v,Ym.v,Zb2.v,Z2.v,WY.v,XN.v,-eq_self] at h;exact h)
theorem ZJq (c:Cp) (a:Nat) (w:Nat) (need:Nat) (h:Bool) (zs:List UInt8) (f:Nat→Bool) (N:Nat) (m:Nat):obs (evF Tryz.prog (Zk 3 (Za [(68,104,Zay [c.val,ZaJ [ZX a,ZX w]] h,[])]) Zc) Zb 100 20 54 [c.val,ZX a,Z1 w,QK need,ZN] (Yv zs f N m N m 17 65536))=X2 Kn (QF (Ya (ZfU (Xl (ZgL (!c.V) (YS c.Y) (ZgP c.P need (QW need))) (ZM (Z6 c.C c.E c.B c.T c.P c.Y c.R c.V) c.C c.E c.B c.T c.P c.Y c.R c.V) (ZaJ [ZX a,U3 (QW w)]=ZaJ [ZX a,ZX w])) (!h) (!h)) (!h)) (!h)) (decide (u64.wrap (Qv a+Qv w)>Qv N)=true):=by kernel_rfl
def wa_f:=Bx.mk (by have h:=@ZJq;simp(maxSteps:=99999999) only[Zx.v,ZF.v,V7.v,ZD.v,YA.v,ZR.v,Zp.v,Zw.v,Zl.v,Zy.v,QA.v,Ym.v,Zb2.v,Z2.v,Xh.v,Xm.v,Xy.v,WY.v,VO.v,XH.v,XN.v,-eq_self] at h;exact h)
theorem ZJr (c:Cp) (a:Nat) (w:Nat) (need:Nat) (h:Bool) (zs:List UInt8) (f:Nat→Bool) (N:Nat) (m:Nat):obs (evF Tryz.prog (Zk 3 (Za [(68,104,Zay [c.val,ZaJ [ZX a,ZX w]] h,[])]) Zc) Zb 100 20 54 [c.val,ZX a,Z1 w,QK need,ZN] (Yv zs f N m N m 18 131072))=X2 (ZcC 5) (W8 (!decide (Zek w=Zr)) (Zbr (ZfU (Xl (ZgL (!c.V) (YS c.Y) (ZgP c.P need (QW need))) (ZM (Z6 c.C c.E c.B c.T c.P c.Y c.R c.V) c.C c.E c.B c.T c.P c.Y c.R c.V) (ZaJ [ZX a,U3 (QW w)]=ZaJ [ZX a,ZX w])) (!h) (!h)) (!h) (decide (u64.wrap (Qv a+Qv w)>Qv N)))) ((Zjv a (Zek w) !=Zr)=true):=by kernel_rfl
def wa_a:=Bx.mk (by have h:=@ZJr;simp(maxSteps:=99999999) only[Zx.v,ZF.v,V7.v,ZD.v,YA.v,ZR.v,Zp.v,Zw.v,Zl.v,Zy.v,Yj.v,QA.v,Ym.v,Zb2.v,Z2.v,Xh.v,WY.v,VO.v,XH.v,Zn8.v,XN.v,-eq_self] at h;exact h)
theorem ZJs (c:Cp) (a:Nat) (w:Nat) (need:Nat) (h:Bool) (zs:List UInt8) (f:Nat→Bool) (N:Nat) (m:Nat):obs (evF Tryz.prog (Zk 3 (Za [(68,104,Zay [c.val,ZaJ [ZX a,ZX w]] h,[])]) Zc) Zb 100 20 54 [c.val,ZX a,Z1 w,QK need,ZN] (Yv zs f N m N m 18 0))=Wj Yk (QF (W8 (!decide (Zek w=Zr)) (Zbr (ZfU (Xl (ZgL (!c.V) (YS c.Y) (ZgP c.P need (QW need))) (ZM (Z6 c.C c.E c.B c.T c.P c.Y c.R c.V) c.C c.E c.B c.T c.P c.Y c.R c.V) (ZaJ [ZX a,U3 (QW w)]=ZaJ [ZX a,ZX w])) (!h) (!h)) (!h) (decide (u64.wrap (Qv a+Qv w)>Qv N)))) (Zjv a (Zek w) !=Zr)):=by kernel_rfl
def wa_k:=Bx.mk (by have h:=@ZJs;simp(maxSteps:=99999999) only[Zx.v,ZF.v,V7.v,ZD.v,ZR.v,Zp.v,Zw.v,Zl.v,Zy.v,Yj.v,QA.v,Ym.v,Zb2.v,Z2.v,Xh.v,WY.v,VO.v,XH.v,Zn8.v,XN.v,-eq_self] at h;exact h)
theorem ZJt (fr:Nat→Cp) (k:Int) (u:Nat) (r:Cp):obs (evF Tryz.prog (Zk 3 (Za [(66,105,Za9 (fr 16) (ZX u) r.val,[])]) Zc) Zb 100 20 55 (Zd1 fr (VD k)) Zd2)=Wo r.C r.E r.B r.T r.P r.Y r.R r.V (Ui (QR (ZkS (fr 16))) (Zao (ZkR (QW (fr 16).C) (ZhX VY k)) u)):=by kernel_rfl
def fw_a:=Bx.mk (by have h:=@ZJt;simp(maxSteps:=99999999) only[Zx.v,ZF.v,V7.v,ZD.v,X0.v,ZR.v,Zp.v,Zw.v,ZH.v,Zl.v,Yi.v,YE.v,Z2.v,Z5.v,-eq_self] at h;exact h)
theorem ZJu (fr:Nat→Cp) (r:Cp):obs (evF Tryz.prog (Zk 3 (Za [(66,55,Zb3 fr Wm r.val,[])]) Zc) Zb 100 20 28 [Xu fr] Zd2)=Zba (frQ fr (ZdR r.C ↑r.E r.B r.T r.P r.Y r.R r.V)) (Ui (Uj fr fr) (QR Wm)):=by kernel_rfl
def nw_a:=Bx.mk (by have h:=@ZJu;simp(maxSteps:=99999999) only[Zx.v,ZF.v,ZD.v,X0.v,ZR.v,Zp.v,Zw.v,ZH.v,Zl.v,Yi.v,YE.v,Z5.v,Xn.v,-eq_self] at h;exact h)
def Zdh (a:Nat→Cp) (b c:Value):=[Xu a,b,c]
def VC (a:Nat→Cp) (b:Value):=Zdh a b ZN
def KZ (a:List Value) (b:Nat) (c:List UInt8) (d:Nat→Bool) (e f:Nat):=Zsr a (Z1 b) c d e f
def K0 (a:Nat→Cp) (b c d e f:Int):=VC a (Zvf b c d e f)
def K1 (a:Nat) (b c:Nat→Cp) (d:Nat) (e f:Int):=V4 a b c d e f True
def K2 (a:Nat→Bool) (b:Nat) (c:Nat→Bool) (d:Prop) (e:Nat→Bool) (f:Nat) (g:Nat→Bool) (h:Nat):=Zuj a b c d d d e f (Zui 73 g h)
def Zpv (a:Value) (b:Cp):=a=ZkS b
def WW (a:Value) (b:Cp) (c:Nat→Cp) (d:Nat) (e:Int) (f:Nat) (g:Value) (h:Nat) (i j:Prop):=ZuI (Zpv a b) c d e f (ZgR g h) i j
def Qa:=Bx.mk (aI @Zdh.eq_1 (aI @VC.eq_1 (aI @KZ.eq_1 (aI @K0.eq_1 (aI @K1.eq_1 (aI @K2.eq_1 (aI @Zpv.eq_1 @WW.eq_1)))))))
theorem Zzc (fr:Nat→Cp) (i:In) (a:Nat) (w:Nat) (need:Nat) (t:Nat) (zs:List UInt8) (f:Nat→Bool) (N:Nat) (m:Nat):obs (evF Tryz.prog (Zk 3 (Za [(73,54,KZ [(fr i.b.toNat).val,ZX a,Z1 w,QK need,ZN] t zs f N m,[64,65,66])]) Zc) Zb 100 20 58 (K0 fr 17 i.a i.b i.c i.m) (Yv zs f N m N m 7 67))=UM t (Qg (Ka (Q6 (K1 (0+i.b.toNat*8+8) fr fr (0+i.b.toNat*8) i.b i.b))) (WW (ZI fr (0+i.b.toNat*8) (0+i.b.toNat*8+1) i.b.toNat) (fr i.b.toNat) fr (0+i.b.toNat*8) i.m a Wm w (JI=QK need) Qc) (Yr N m) (K2 f m (fun l=>l.blt 67) Ze f m f m) zs (fun l=>l.blt 67) 73 [64,65,66] m N∧YS t=true):=by kernel_rfl
def ZJv:=Bx.mk (by have h:=@Zzc;simp(maxSteps:=99999999) only[Zx.v,ZF.v,ZD.v,ZO.v,ZU.v,X0.v,ZR.v,Zp.v,Zw.v,ZH.v,Zl.v,ZB.v,Zo.v,Zq.v,Ym.v,Z2.v,Z5.v,ZA.v,Ye.v,Z8.v,Xr.v,WU.v,XN.v,Qa.v,-eq_self] at h;exact h)
theorem Zzd (fr:Nat→Cp) (i:In) (a:Nat) (w:Nat) (need:Nat) (t:Nat) (zs:List UInt8) (f:Nat→Bool) (N:Nat) (m:Nat):obs (evF Tryz.prog (Zk 3 (Za [(73,54,KZ [(fr i.b.toNat).val,ZX a,Z1 w,QK need,ZN] t zs f N m,[64,65,66])]) Zc) Zb 100 20 58 (K0 fr 18 i.a i.b i.c i.m) (Yv zs f N m N m 9 268))=UM t (Qg (Ka (ZL (XU (K1 (0+i.b.toNat*8+8) fr fr (0+i.b.toNat*8) i.b i.b)))) (WW (ZI fr (0+i.b.toNat*8) (0+i.b.toNat*8+1) i.b.toNat) (fr i.b.toNat) fr (0+i.b.toNat*8) i.m a Jl w (JI=QK need) Qc) (Yr N m) (K2 f m (fun l=>l.blt 67) Ze f m f m) zs (fun l=>l.blt 67) 73 [64,65,66] m N∧YS t=true):=by kernel_rfl
def ZJw:=Bx.mk (by have h:=@Zzd;simp(maxSteps:=99999999) only[Zx.v,ZF.v,ZD.v,ZO.v,ZU.v,X0.v,ZR.v,Zp.v,Zw.v,ZH.v,XB.v,Zl.v,ZB.v,Zo.v,Zq.v,Ym.v,Z2.v,Z5.v,ZA.v,QX.v,Ye.v,Js.v,Z8.v,Xr.v,WU.v,XN.v,Qa.v,-eq_self] at h;exact h)
theorem Zze (fr:Nat→Cp) (i:In) (a:Nat) (w:Nat) (need:Nat) (t:Nat) (zs:List UInt8) (f:Nat→Bool) (N:Nat) (m:Nat):obs (evF Tryz.prog (Zk 3 (Za [(73,54,KZ [(fr i.b.toNat).val,ZX a,Z1 w,QK need,ZN] t zs f N m,[64,65,66])]) Zc) Zb 100 20 58 (K0 fr 19 i.a i.b i.c i.m) (Yv zs f N m N m 11 1072))=UM t (Qg (Ka (Zd9 (K1 (0+i.b.toNat*8+8) fr fr (0+i.b.toNat*8) i.b i.b))) (WW (ZI fr (0+i.b.toNat*8) (0+i.b.toNat*8+1) i.b.toNat) (fr i.b.toNat) fr (0+i.b.toNat*8) i.m a Kn w (JI=QK need) Qc) (Yr N m) (K2 f m (fun l=>l.blt 67) Ze f m f m) zs (fun l=>l.blt 67) 73 [64,65,66] m N∧YS t=true):=by kernel_rfl
def ZJx:=Bx.mk (by have h:=@Zze;simp(maxSteps:=99999999) only[Zx.v,ZF.v,ZD.v,ZO.v,ZU.v,X0.v,ZR.v,Zp.v,Zw.v,ZH.v,Zl.v,ZB.v,Zo.v,Zq.v,Ym.v,Z2.v,Z5.v,ZA.v,UA.v,Ye.v,Z8.v,Xr.v,WU.v,XN.v,Qa.v,-eq_self] at h;exact h)
theorem Zzf (fr:Nat→Cp) (i:In) (a:Nat) (w:Nat) (need:Nat) (t:Nat) (zs:List UInt8) (f:Nat→Bool) (N:Nat) (m:Nat):obs (evF Tryz.prog (Zk 3 (Za [(73,54,KZ [(fr i.b.toNat).val,ZX a,Z1 w,QK need,ZN] t zs f N m,[64,65,66])]) Zc) Zb 100 20 58 (K0 fr 20 i.a i.b i.c i.m) (Yv zs f N m N m 5 30))=UM t (Qg (Zbq (K1 (0+i.b.toNat*8+8) fr fr (0+i.b.toNat*8) i.b i.b) Ze) (WW (ZI fr (0+i.b.toNat*8) (0+i.b.toNat*8+1) i.b.toNat) (fr i.b.toNat) fr (0+i.b.toNat*8) i.m a Wm w (Uk=QK need) Qc) (Yr N m) (K2 f m (fun l=>l.blt 67) Ze f m f m) zs (fun l=>l.blt 67) 73 [64,65,66] m N∧YS t=true):=by kernel_rfl
def ZJy:=Bx.mk (by have h:=@Zzf;simp(maxSteps:=99999999) only[Zx.v,ZF.v,ZD.v,ZO.v,ZU.v,X0.v,ZR.v,Zp.v,Zw.v,ZH.v,Zl.v,Zq.v,Ym.v,Z2.v,Z5.v,ZA.v,ZeV.v,Ye.v,Z8.v,Xr.v,WU.v,XN.v,Qa.v,-eq_self] at h;exact h)
theorem Zzg (fr:Nat→Cp) (i:In) (a:Nat) (w:Nat) (need:Nat) (t:Nat) (zs:List UInt8) (f:Nat→Bool) (N:Nat) (m:Nat):obs (evF Tryz.prog (Zk 3 (Za [(73,54,KZ [(fr i.b.toNat).val,ZX a,Z1 w,QK need,ZN] t zs f N m,[64,65,66])]) Zc) Zb 100 20 58 (K0 fr 21 i.a i.b i.c i.m) (Yv zs f N m N m 8 232))=UM t (Qg (VR (WC (K1 (0+i.b.toNat*8+8) fr fr (0+i.b.toNat*8) i.b i.b))) (WW (ZI fr (0+i.b.toNat*8) (0+i.b.toNat*8+1) i.b.toNat) (fr i.b.toNat) fr (0+i.b.toNat*8) i.m a Jl w (Uk=QK need) Qc) (Yr N m) (K2 f m (fun l=>l.blt 67) Ze f m f m) zs (fun l=>l.blt 67) 73 [64,65,66] m N∧YS t=true):=by kernel_rfl
def ZJz:=Bx.mk (by have h:=@Zzg;simp(maxSteps:=99999999) only[Zx.v,ZF.v,ZD.v,ZO.v,ZU.v,X0.v,ZR.v,Zp.v,Zw.v,ZH.v,XB.v,Zl.v,ZB.v,Zq.v,Ym.v,Z2.v,Z5.v,ZA.v,ZeV.v,Ye.v,Z8.v,Xr.v,WU.v,Zmu.v,XN.v,Qa.v,-eq_self] at h;exact h)
theorem Zzh (fr:Nat→Cp) (i:In) (a:Nat) (w:Nat) (need:Nat) (t:Nat) (zs:List UInt8) (f:Nat→Bool) (N:Nat) (m:Nat):obs (evF Tryz.prog (Zk 3 (Za [(73,54,KZ [(fr i.b.toNat).val,ZX a,Z1 w,QK need,ZN] t zs f N m,[64,65,66])]) Zc) Zb 100 20 58 (K0 fr 22 i.a i.b i.c i.m) (Yv zs f N m N m 10 800))=UM t (Qg (XU (ZgX (K1 (0+i.b.toNat*8+8) fr fr (0+i.b.toNat*8) i.b i.b) Ze)) (WW (ZI fr (0+i.b.toNat*8) (0+i.b.toNat*8+1) i.b.toNat) (fr i.b.toNat) fr (0+i.b.toNat*8) i.m a Kn w (Uk=QK need) Qc) (Yr N m) (K2 f m (fun l=>l.blt 67) Ze f m f m) zs (fun l=>l.blt 67) 73 [64,65,66] m N∧YS t=true):=by kernel_rfl
def ZJA:=Bx.mk (by have h:=@Zzh;simp(maxSteps:=99999999) only[Zx.v,ZF.v,ZD.v,ZO.v,ZU.v,X0.v,ZR.v,Zp.v,Zw.v,ZH.v,Zl.v,ZB.v,Zo.v,Zq.v,Ym.v,Z2.v,Z5.v,ZA.v,ZeV.v,QX.v,Ye.v,Js.v,Z8.v,ZnV.v,Xr.v,WU.v,XN.v,Qa.v,-eq_self] at h;exact h)
theorem Zzi (fr:Nat→Cp) (i:In) (a:Nat) (w:Nat) (need:Nat) (t:Nat) (zs:List UInt8) (f:Nat→Bool) (N:Nat) (m:Nat):obs (evF Tryz.prog (Zk 3 (Za [(73,54,KZ [(fr i.b.toNat).val,ZX a,Z1 w,QK need,ZN] t zs f N m,[64,65,66])]) Zc) Zb 100 20 58 (K0 fr 23 i.a i.b i.c i.m) (Yv zs f N m N m 13 4288))=UM t (Qg (Ka (ZL (VI (K1 (0+i.b.toNat*8+8) fr fr (0+i.b.toNat*8) i.b i.b)))) (WW (ZI fr (0+i.b.toNat*8) (0+i.b.toNat*8+1) i.b.toNat) (fr i.b.toNat) fr (0+i.b.toNat*8) i.m a Zd3 w (JI=QK need) Qc) (Yr N m) (K2 f m (fun l=>l.blt 67) Ze f m f m) zs (fun l=>l.blt 67) 73 [64,65,66] m N∧YS t=true):=by kernel_rfl
def ZJB:=Bx.mk (by have h:=@Zzi;simp(maxSteps:=99999999) only[Zx.v,ZF.v,ZD.v,ZO.v,ZU.v,X0.v,ZR.v,Zp.v,Zw.v,ZH.v,Zl.v,ZB.v,Zo.v,Zq.v,Ym.v,Z2.v,Z5.v,ZeU.v,ZA.v,Ye.v,Z8.v,Xr.v,WU.v,XN.v,Qa.v,-eq_self] at h;exact h)
theorem ZvU (fr:Nat→Cp) (i:In) (a:Nat) (w:Nat) (need:Nat) (t:Nat) (zs:List UInt8) (f:Nat→Bool) (N:Nat) (m:Nat):obs (evF Tryz.prog (Zk 3 (Za [(73,54,KZ [(fr i.b.toNat).val,ZX a,Z1 w,QK need,ZN] t zs f N m,[64,65,66])]) Zc) Zb 100 20 58 (K0 fr 24 i.a i.b i.c i.m) (Yv zs f N m N m 14 14464))=UM t (Qg (Zbf (Zk4 (0+i.a.toNat*8+7+1) fr Zam fr (0+i.a.toNat*8+7)) i.a i.a (WC (XU (Y5 (Ka (K1 (0+i.b.toNat*8+8) fr fr (0+i.b.toNat*8) i.b i.b)))))∧ZkW fr (0+i.a.toNat*8) 7=true) (WW (ZI fr (0+i.b.toNat*8) (0+i.b.toNat*8+1) i.b.toNat) (fr i.b.toNat) fr (0+i.b.toNat*8) i.m a Zd3 w (ZmH 18=QK need) Qc) (Yr N m) (K2 f m (fun l=>l.blt 67) Ze f m f m) zs (fun l=>l.blt 67) 73 [64,65,66] m N∧YS t=true):=by kernel_rfl
def ZDK:=Bx.mk (by have h:=@ZvU;simp(maxSteps:=99999999) only[Zx.v,ZF.v,ZD.v,ZO.v,ZU.v,X0.v,ZR.v,Zp.v,Zw.v,ZH.v,Zl.v,ZB.v,Zo.v,Zq.v,Ym.v,Z2.v,Z5.v,ZeU.v,ZA.v,QX.v,Ye.v,Js.v,Z8.v,Xr.v,WU.v,ZcV.v,XN.v,Qa.v,-eq_self] at h;exact h)
theorem ZvV (fr:Nat→Cp) (i:In) (a:Nat) (w:Nat) (need:Nat) (t:Nat) (zs:List UInt8) (f:Nat→Bool) (N:Nat) (m:Nat):obs (evF Tryz.prog (Zk 3 (Za [(73,54,KZ [(fr i.b.toNat).val,ZX a,Z1 w,QK need,ZN] t zs f N m,[64,65,66])]) Zc) Zb 100 20 58 (K0 fr 24 i.a i.b i.c i.m) (Yv zs f N m N m 14 10368))=UM t (Qg (QF (Zbf (Zk4 (0+i.a.toNat*8+7+1) fr Zam fr (0+i.a.toNat*8+7)) i.a i.a (WC (Zax (K1 (0+i.b.toNat*8+8) fr fr (0+i.b.toNat*8) i.b i.b)))) (ZkW fr (0+i.a.toNat*8) 7)) (WW (ZI fr (0+i.b.toNat*8) (0+i.b.toNat*8+1) i.b.toNat) (fr i.b.toNat) fr (0+i.b.toNat*8) i.m a Zd3 w (Uk=QK need) Qc) (Yr N m) (K2 f m (fun l=>l.blt 67) Ze f m f m) zs (fun l=>l.blt 67) 73 [64,65,66] m N∧YS t=true):=by kernel_rfl
def ZDL:=Bx.mk (by have h:=@ZvV;simp(maxSteps:=99999999) only[Zx.v,ZF.v,ZD.v,ZO.v,ZU.v,X0.v,ZR.v,Zp.v,Zw.v,ZH.v,Zl.v,ZB.v,Zo.v,Zq.v,Ym.v,Z2.v,Z5.v,ZeU.v,ZA.v,ZeV.v,ZjN.v,Ye.v,Z8.v,Zkl.v,Xr.v,WU.v,ZcV.v,XN.v,Qa.v,-eq_self] at h;exact h)
theorem Zzj (fr:Nat→Cp) (i:In) (a:Nat) (w:Nat) (need:Nat) (t:Nat) (v:Nat) (zs:List UInt8) (f:Nat→Bool) (N:Nat) (m:Nat):obs (evF Tryz.prog (Zk 3 (Za [(73,54,KZ [(fr i.b.toNat).val,ZX a,Z1 w,QK need,ZN] t zs f N m,[64,65,66]),(74,65,Zsr (Vm ZN a (Z1 w)) (ZfK [ZX v,QB]) zs f N m,[64,65,66])]) Zc) Zb 100 20 58 (K0 fr 17 i.a i.b i.c i.m) (Yv zs f N m N m 12 3))=Zfe (ZhY v 0) t (Qg (Y5 (Ka (V4 (0+i.a.toNat*8+8) fr fr (0+i.a.toNat*8) i.a i.a (VA (Qg (Ka (Q6 (K1 (0+i.b.toNat*8+8) fr fr (0+i.b.toNat*8) i.b i.b))) (WW (ZI fr (0+i.b.toNat*8) (0+i.b.toNat*8+1) i.b.toNat) (fr i.b.toNat) fr (0+i.b.toNat*8) i.m a Wm w (JI=QK need) Qc) (Yr N m) (K2 f m (fun l=>l.blt 67) Ze f m f m) zs (fun l=>l.blt 67) 73 [64,65,66] m N) t)))) (Vv (V2 fr (0+i.b.toNat*8) i.m a) (ZgR Wm w)) (Yr N m) (Wz f m (fun l=>l.blt 67) 74 f m) zs (fun l=>l.blt 67) 74 [64,65,66] m N):=by kernel_rfl
def ZJC:=Bx.mk (by have h:=@Zzj;simp(maxSteps:=99999999) only[Zx.v,ZF.v,ZD.v,ZO.v,ZU.v,X0.v,ZR.v,Zp.v,Zw.v,ZH.v,Zl.v,ZB.v,Zo.v,Zq.v,Ym.v,Z2.v,Z5.v,ZA.v,Zdn.v,Ye.v,Z8.v,Xr.v,WU.v,XN.v,Qa.v,-eq_self] at h;exact h)
theorem Zzk (fr:Nat→Cp) (i:In) (a:Nat) (w:Nat) (need:Nat) (t:Nat) (v:Nat) (zs:List UInt8) (f:Nat→Bool) (N:Nat) (m:Nat):obs (evF Tryz.prog (Zk 3 (Za [(73,54,KZ [(fr i.b.toNat).val,ZX a,Z1 w,QK need,ZN] t zs f N m,[64,65,66]),(74,65,Zsr (Vm ZN a (Z1 w)) (ZfK [ZX v,QB]) zs f N m,[64,65,66])]) Zc) Zb 100 20 58 (K0 fr 18 i.a i.b i.c i.m) (Yv zs f N m N m 14 12))=Zfe (ZhY v 0) t (Qg (Y5 (Ka (V4 (0+i.a.toNat*8+8) fr fr (0+i.a.toNat*8) i.a i.a (VA (Qg (Ka (ZL (XU (K1 (0+i.b.toNat*8+8) fr fr (0+i.b.toNat*8) i.b i.b)))) (WW (ZI fr (0+i.b.toNat*8) (0+i.b.toNat*8+1) i.b.toNat) (fr i.b.toNat) fr (0+i.b.toNat*8) i.m a Jl w (JI=QK need) Qc) (Yr N m) (K2 f m (fun l=>l.blt 67) Ze f m f m) zs (fun l=>l.blt 67) 73 [64,65,66] m N) t)))) (Vv (V2 fr (0+i.b.toNat*8) i.m a) (ZgR Jl w)) (Yr N m) (Wz f m (fun l=>l.blt 67) 74 f m) zs (fun l=>l.blt 67) 74 [64,65,66] m N):=by kernel_rfl
def ZJD:=Bx.mk (by have h:=@Zzk;simp(maxSteps:=99999999) only[Zx.v,ZF.v,ZD.v,ZO.v,ZU.v,X0.v,ZR.v,Zp.v,Zw.v,ZH.v,XB.v,Zl.v,ZB.v,Zo.v,Zq.v,Ym.v,Z2.v,Z5.v,ZA.v,Zdn.v,QX.v,Ye.v,Js.v,Z8.v,Xr.v,WU.v,XN.v,Qa.v,-eq_self] at h;exact h)
theorem Zzl (fr:Nat→Cp) (i:In) (a:Nat) (w:Nat) (need:Nat) (t:Nat) (v:Nat) (zs:List UInt8) (f:Nat→Bool) (N:Nat) (m:Nat):obs (evF Tryz.prog (Zk 3 (Za [(73,54,KZ [(fr i.b.toNat).val,ZX a,Z1 w,QK need,ZN] t zs f N m,[64,65,66]),(74,65,Zsr (Vm ZN a (Z1 w)) (ZfK [ZX v,QB]) zs f N m,[64,65,66])]) Zc) Zb 100 20 58 (K0 fr 19 i.a i.b i.c i.m) (Yv zs f N m N m 16 48))=Zfe (ZhY v 0) t (Qg (Y5 (Ka (V4 (0+i.a.toNat*8+8) fr fr (0+i.a.toNat*8) i.a i.a (VA (Qg (Ka (Zd9 (K1 (0+i.b.toNat*8+8) fr fr (0+i.b.toNat*8) i.b i.b))) (WW (ZI fr (0+i.b.toNat*8) (0+i.b.toNat*8+1) i.b.toNat) (fr i.b.toNat) fr (0+i.b.toNat*8) i.m a Kn w (JI=QK need) Qc) (Yr N m) (K2 f m (fun l=>l.blt 67) Ze f m f m) zs (fun l=>l.blt 67) 73 [64,65,66] m N) t)))) (Vv (V2 fr (0+i.b.toNat*8) i.m a) (ZgR Kn w)) (Yr N m) (Wz f m (fun l=>l.blt 67) 74 f m) zs (fun l=>l.blt 67) 74 [64,65,66] m N):=by kernel_rfl
def ZJE:=Bx.mk (by have h:=@Zzl;simp(maxSteps:=99999999) only[Zx.v,ZF.v,ZD.v,ZO.v,ZU.v,X0.v,ZR.v,Zp.v,Zw.v,ZH.v,Zl.v,ZB.v,Zo.v,Zq.v,Ym.v,Z2.v,Z5.v,ZA.v,Zdn.v,UA.v,Ye.v,Z8.v,Xr.v,WU.v,XN.v,Qa.v,-eq_self] at h;exact h)
theorem Zzm (fr:Nat→Cp) (i:In) (a:Nat) (w:Nat) (need:Nat) (t:Nat) (x:Cp) (zs:List UInt8) (f:Nat→Bool) (N:Nat) (m:Nat):obs (evF Tryz.prog (Zk 3 (Za [(73,54,KZ [(fr i.b.toNat).val,ZX a,Z1 w,QK need,ZN] t zs f N m,[64,65,66]),(74,107,ZLK a x zs f N m,[64,65,66])]) Zc) Zb 100 20 58 (K0 fr 23 i.a i.b i.c i.m) (Yv zs f N m N m 19 131264))=UK (Z6 x.C x.E x.B x.T x.P x.Y x.R x.V) (Z1 t) (QF (Qg (JP (V4 (0+i.a.toNat*8+8) fr fr (0+i.a.toNat*8) i.a i.a (VA (Qg (Ka (ZL (VI (K1 (0+i.b.toNat*8+8) fr fr (0+i.b.toNat*8) i.b i.b)))) (WW (ZI fr (0+i.b.toNat*8) (0+i.b.toNat*8+1) i.b.toNat) (fr i.b.toNat) fr (0+i.b.toNat*8) i.m a Zd3 w (JI=QK need) Qc) (Yr N m) (K2 f m (fun l=>l.blt 67) Ze f m f m) zs (fun l=>l.blt 67) 73 [64,65,66] m N) t))) (JO Qc (V2 fr (0+i.b.toNat*8) i.m a)) (Yr N m) (Wz f m (fun l=>l.blt 67) 74 f m) zs (fun l=>l.blt 67) 74 [64,65,66] m N) (ZjC (KV fr (0+i.b.toNat*8+1+1+1+1)) (8:Int)==Zr)):=by kernel_rfl
def ZJF:=Bx.mk (by have h:=@Zzm;simp(maxSteps:=99999999) only[Zx.v,ZF.v,V7.v,ZD.v,ZO.v,ZU.v,X0.v,ZR.v,Zp.v,Zw.v,ZH.v,Zl.v,ZB.v,Zo.v,Zq.v,Ym.v,Zb2.v,Z2.v,Z5.v,ZeU.v,ZA.v,UA.v,Ye.v,Z8.v,Xr.v,WU.v,XN.v,Qa.v,-eq_self] at h;exact h)
theorem Zzn (fr:Nat→Cp) (i:In) (a:Nat) (w:Nat) (need:Nat) (t:Nat) (x:Cp) (zs:List UInt8) (f:Nat→Bool) (N:Nat) (m:Nat):obs (evF Tryz.prog (Zk 3 (Za [(73,54,KZ [(fr i.b.toNat).val,ZX a,Z1 w,QK need,ZN] t zs f N m,[64,65,66]),(74,107,ZLK a x zs f N m,[64,65,66])]) Zc) Zb 100 20 58 (K0 fr 23 i.a i.b i.c i.m) (Yv zs f N m N m 19 393408))=UK (Z6 x.C x.E x.B x.T x.P x.Y x.R false) (Z1 t) (Qg (JP (V4 (0+i.a.toNat*8+8) fr fr (0+i.a.toNat*8) i.a i.a (VA (Qg (Ka (ZL (VI (K1 (0+i.b.toNat*8+8) fr fr (0+i.b.toNat*8) i.b i.b)))) (WW (ZI fr (0+i.b.toNat*8) (0+i.b.toNat*8+1) i.b.toNat) (fr i.b.toNat) fr (0+i.b.toNat*8) i.m a Zd3 w (JI=QK need) Qc) (Yr N m) (K2 f m (fun l=>l.blt 67) Ze f m f m) zs (fun l=>l.blt 67) 73 [64,65,66] m N) t))) (JO Qc (V2 fr (0+i.b.toNat*8) i.m a)) (Yr N m) (Wz f m (fun l=>l.blt 67) 74 f m) zs (fun l=>l.blt 67) 74 [64,65,66] m N∧(ZjC (KV fr (0+i.b.toNat*8+1+1+1+1)) (8:Int)==Zr)=true):=by kernel_rfl
def ZJG:=Bx.mk (by have h:=@Zzn;simp(maxSteps:=99999999) only[Zx.v,ZF.v,V7.v,ZD.v,ZO.v,ZU.v,X0.v,ZR.v,Zp.v,Zw.v,ZH.v,Zl.v,ZB.v,Zo.v,Zq.v,Ym.v,Zb2.v,Z2.v,Z5.v,ZeU.v,ZA.v,UA.v,Ye.v,Z8.v,Xr.v,WU.v,XN.v,Qa.v,-eq_self] at h;exact h)
def Ys (a:Cp):=ZX a.C
def Zet:=Bx.mk @Ys.eq_1
theorem Zzo (fr:Nat→Cp) (i:In) (a:Nat) (w:Nat) (need:Nat) (t:Nat) (z2:List UInt8) (f2:Nat→Bool) (zs:List UInt8) (f:Nat→Bool) (N:Nat) (m:Nat):evF Tryz.prog (Zk 3 (Za [(73,54,KZ [(fr i.b.toNat).val,ZX a,Z1 w,QK need,ZN] t zs f N m,[64,65,66]),(74,43,ZeT [ZN,ZX a,Z1 w,Ys (fr i.a.toNat)] zs z2 f f2 N m,[64,65,66])]) Zc) Zb 100 20 58 (K0 fr 20 i.a i.b i.c i.m) (ZdK 67 (arR true zs f N m) N m 8 206)=JD [ZI fr (0+i.a.toNat*8) (0+i.a.toNat*8+1) i.a.toNat,Z1 t] 74 [(66,UG N m),(65,Jg 65 f2 m),(64,KS z2)] [(65,m),(64,N),(65,m),(64,N)] 8 (Qg (VR (V4 (0+i.a.toNat*8+8) fr fr (0+i.a.toNat*8) i.a i.a (VA (Qg (Zbq (K1 (0+i.b.toNat*8+8) fr fr (0+i.b.toNat*8) i.b i.b) Ze) (WW (ZI fr (0+i.b.toNat*8) (0+i.b.toNat*8+1) i.b.toNat) (fr i.b.toNat) fr (0+i.b.toNat*8) i.m a Wm w (Uk=QK need) Qc) (Yr N m) (K2 f m (fun l=>l.blt 67) Ze f m f m) zs (fun l=>l.blt 67) 73 [64,65,66] m N) t))) (Vl Qc (V2 fr (0+i.b.toNat*8) i.m a) (ZgR Wm w) (WQ fr 0 (i.a.toNat*8)=Ys (fr i.a.toNat))) (Yr N m) (Wz f m (fun l=>l.blt 67) 74 f m) zs (fun l=>l.blt 67) 74 [64,65,66] m N):=by kernel_rfl
def ZJH:=Bx.mk (by have h:=@Zzo;simp(maxSteps:=99999999) only[Zx.v,ZF.v,ZD.v,ZO.v,ZU.v,X0.v,ZR.v,Ud.v,Zp.v,Zw.v,ZH.v,Zl.v,Zq.v,Ym.v,Z2.v,Z5.v,ZA.v,ZeV.v,Ye.v,Z8.v,Xr.v,WU.v,Zmu.v,Qa.v,Zet.v,-eq_self] at h;exact h)
theorem Zzp (fr:Nat→Cp) (i:In) (a:Nat) (w:Nat) (need:Nat) (t:Nat) (z2:List UInt8) (f2:Nat→Bool) (zs:List UInt8) (f:Nat→Bool) (N:Nat) (m:Nat):evF Tryz.prog (Zk 3 (Za [(73,54,KZ [(fr i.b.toNat).val,ZX a,Z1 w,QK need,ZN] t zs f N m,[64,65,66]),(74,43,ZeT [ZN,ZX a,Z1 w,Ys (fr i.a.toNat)] zs z2 f f2 N m,[64,65,66])]) Zc) Zb 100 20 58 (K0 fr 21 i.a i.b i.c i.m) (ZdK 67 (arR true zs f N m) N m 12 3176)=JD [ZI fr (0+i.a.toNat*8) (0+i.a.toNat*8+1) i.a.toNat,Z1 t] 74 [(66,UG N m),(65,Jg 65 f2 m),(64,KS z2)] [(65,m),(64,N),(65,m),(64,N)] 12 (Qg (ZL (XU (V4 (0+i.a.toNat*8+8) fr fr (0+i.a.toNat*8) i.a i.a (VA (Qg (VR (WC (K1 (0+i.b.toNat*8+8) fr fr (0+i.b.toNat*8) i.b i.b))) (WW (ZI fr (0+i.b.toNat*8) (0+i.b.toNat*8+1) i.b.toNat) (fr i.b.toNat) fr (0+i.b.toNat*8) i.m a Jl w (Uk=QK need) Qc) (Yr N m) (K2 f m (fun l=>l.blt 67) Ze f m f m) zs (fun l=>l.blt 67) 73 [64,65,66] m N) t)))) (Vl Qc (V2 fr (0+i.b.toNat*8) i.m a) (ZgR Jl w) (WQ fr 0 (i.a.toNat*8)=Ys (fr i.a.toNat))) (Yr N m) (Wz f m (fun l=>l.blt 67) 74 f m) zs (fun l=>l.blt 67) 74 [64,65,66] m N):=by kernel_rfl
def ZJI:=Bx.mk (by have h:=@Zzp;simp(maxSteps:=99999999) only[Zx.v,ZF.v,ZD.v,ZO.v,ZU.v,X0.v,ZR.v,Ud.v,Zp.v,Zw.v,ZH.v,XB.v,Zl.v,ZB.v,Zq.v,Ym.v,Z2.v,Z5.v,ZA.v,ZeV.v,QX.v,Ye.v,Js.v,Z8.v,Xr.v,WU.v,Zmu.v,Qa.v,Zet.v,-eq_self] at h;exact h)
theorem Zzq (fr:Nat→Cp) (i:In) (a:Nat) (w:Nat) (need:Nat) (t:Nat) (z2:List UInt8) (f2:Nat→Bool) (zs:List UInt8) (f:Nat→Bool) (N:Nat) (m:Nat):evF Tryz.prog (Zk 3 (Za [(73,54,KZ [(fr i.b.toNat).val,ZX a,Z1 w,QK need,ZN] t zs f N m,[64,65,66]),(74,43,ZeT [ZN,ZX a,Z1 w,Ys (fr i.a.toNat)] zs z2 f f2 N m,[64,65,66])]) Zc) Zb 100 20 58 (K0 fr 22 i.a i.b i.c i.m) (ZdK 67 (arR true zs f N m) N m 14 8480)=JD [ZI fr (0+i.a.toNat*8) (0+i.a.toNat*8+1) i.a.toNat,Z1 t] 74 [(66,UG N m),(65,Jg 65 f2 m),(64,KS z2)] [(65,m),(64,N),(65,m),(64,N)] 14 (Qg (WC (V4 (0+i.a.toNat*8+8) fr fr (0+i.a.toNat*8) i.a i.a (VA (Qg (XU (ZgX (K1 (0+i.b.toNat*8+8) fr fr (0+i.b.toNat*8) i.b i.b) Ze)) (WW (ZI fr (0+i.b.toNat*8) (0+i.b.toNat*8+1) i.b.toNat) (fr i.b.toNat) fr (0+i.b.toNat*8) i.m a Kn w (Uk=QK need) Qc) (Yr N m) (K2 f m (fun l=>l.blt 67) Ze f m f m) zs (fun l=>l.blt 67) 73 [64,65,66] m N) t))) (Vl Qc (V2 fr (0+i.b.toNat*8) i.m a) (ZgR Kn w) (WQ fr 0 (i.a.toNat*8)=Ys (fr i.a.toNat))) (Yr N m) (Wz f m (fun l=>l.blt 67) 74 f m) zs (fun l=>l.blt 67) 74 [64,65,66] m N):=by kernel_rfl
def ZJJ:=Bx.mk (by have h:=@Zzq;simp(maxSteps:=99999999) only[Zx.v,ZF.v,ZD.v,ZO.v,ZU.v,X0.v,ZR.v,Ud.v,Zp.v,Zw.v,ZH.v,Zl.v,ZB.v,Zo.v,Zq.v,Ym.v,Z2.v,Z5.v,ZA.v,ZeV.v,QX.v,Ye.v,Js.v,Z8.v,ZnV.v,Xr.v,WU.v,Qa.v,Zet.v,-eq_self] at h;exact h)
def Qu (a:Nat→Cp) (b c d:Nat) (e:Cp):=Zpv (Zo8 a b c d a d a d) e
def X8:=Bx.mk @Qu.eq_1
theorem Zzr (fr:Nat→Cp) (i:In) (a:Nat) (w:Nat) (need:Nat) (t:Nat) (z2:List UInt8) (f2:Nat→Bool) (zs:List UInt8) (f:Nat→Bool) (N:Nat) (m:Nat):evF Tryz.prog (Zk 3 (Za [(73,54,KZ [(fr i.b.toNat).val,ZX a,Z1 w,QK need,ZN] t zs f N m,[64,65,66]),(74,45,ZeT (Vm ZN a (fr i.a.toNat).val) zs z2 f f2 N m,[64,65,66])]) Zc) Zb 100 20 58 (K0 fr 24 i.a i.b i.c i.m) (ZdK 67 (arR true zs f N m) N m 15 22656)=JD [ZI fr (0+i.a.toNat*8) (0+i.a.toNat*8+1) i.a.toNat,Z1 t] 74 [(66,UG N m),(65,Jg 65 f2 m),(64,KS z2)] [(65,m),(64,N),(65,m),(64,N)] 15 (Qg (ZL (V4 (0+i.a.toNat*8+8) fr fr (0+i.a.toNat*8) i.a i.a (VA (Qg (Zbf (Zk4 (0+i.a.toNat*8+7+1) fr Zam fr (0+i.a.toNat*8+7)) i.a i.a (WC (Zax (K1 (0+i.b.toNat*8+8) fr fr (0+i.b.toNat*8) i.b i.b)))∧ZkW fr (0+i.a.toNat*8) 7=true) (WW (ZI fr (0+i.b.toNat*8) (0+i.b.toNat*8+1) i.b.toNat) (fr i.b.toNat) fr (0+i.b.toNat*8) i.m a Zd3 w (ZmH 18=QK need) Qc) (Yr N m) (K2 f m (fun l=>l.blt 67) Ze f m f m) zs (fun l=>l.blt 67) 73 [64,65,66] m N) t))) (Vv (V2 fr (0+i.b.toNat*8) i.m a) (Qu fr (0+i.a.toNat*8) (0+i.a.toNat*8+1) i.a.toNat (fr i.a.toNat))) (Yr N m) (Wz f m (fun l=>l.blt 67) 74 f m) zs (fun l=>l.blt 67) 74 [64,65,66] m N):=by kernel_rfl
def ZJK:=Bx.mk (by have h:=@Zzr;simp(maxSteps:=99999999) only[Zx.v,ZF.v,ZD.v,ZO.v,ZU.v,X0.v,ZR.v,Ud.v,Zp.v,Zw.v,ZH.v,Zl.v,ZB.v,Zo.v,Zq.v,Ym.v,Z2.v,Z5.v,ZeU.v,ZA.v,ZjN.v,Ye.v,Z8.v,Zkl.v,Xr.v,WU.v,ZcV.v,Qa.v,X8.v,-eq_self] at h;exact h)
theorem Zzs (fr:Nat→Cp) (i:In) (a:Nat) (w:Nat) (need:Nat) (t:Nat) (z2:List UInt8) (f2:Nat→Bool) (zs:List UInt8) (f:Nat→Bool) (N:Nat) (m:Nat):evF Tryz.prog (Zk 3 (Za [(73,54,KZ [(fr i.b.toNat).val,ZX a,Z1 w,QK need,ZN] t zs f N m,[64,65,66]),(74,45,ZeT (Vm ZN a (fr i.a.toNat).val) zs z2 f f2 N m,[64,65,66])]) Zc) Zb 100 20 58 (K0 fr 24 i.a i.b i.c i.m) (ZdK 67 (arR true zs f N m) N m 15 18560)=JD [ZI fr (0+i.a.toNat*8) (0+i.a.toNat*8+1) i.a.toNat,Z1 t] 74 [(66,UG N m),(65,Jg 65 f2 m),(64,KS z2)] [(65,m),(64,N),(65,m),(64,N)] 15 (Qg (ZL (V4 (0+i.a.toNat*8+8) fr fr (0+i.a.toNat*8) i.a i.a (VA (Qg (QF (Zbf (Zk4 (0+i.a.toNat*8+7+1) fr Zam fr (0+i.a.toNat*8+7)) i.a i.a (WC (Zax (K1 (0+i.b.toNat*8+8) fr fr (0+i.b.toNat*8) i.b i.b)))) (ZkW fr (0+i.a.toNat*8) 7)) (WW (ZI fr (0+i.b.toNat*8) (0+i.b.toNat*8+1) i.b.toNat) (fr i.b.toNat) fr (0+i.b.toNat*8) i.m a Zd3 w (Uk=QK need) Qc) (Yr N m) (K2 f m (fun l=>l.blt 67) Ze f m f m) zs (fun l=>l.blt 67) 73 [64,65,66] m N) t))) (Vv (V2 fr (0+i.b.toNat*8) i.m a) (Qu fr (0+i.a.toNat*8) (0+i.a.toNat*8+1) i.a.toNat (fr i.a.toNat))) (Yr N m) (Wz f m (fun l=>l.blt 67) 74 f m) zs (fun l=>l.blt 67) 74 [64,65,66] m N):=by kernel_rfl
def ZJL:=Bx.mk (by have h:=@Zzs;simp(maxSteps:=99999999) only[Zx.v,ZF.v,ZD.v,ZO.v,ZU.v,X0.v,ZR.v,Ud.v,Zp.v,Zw.v,ZH.v,Zl.v,ZB.v,Zo.v,Zq.v,Ym.v,Z2.v,Z5.v,ZeU.v,ZA.v,ZeV.v,ZjN.v,Ye.v,Z8.v,Zkl.v,Xr.v,WU.v,ZcV.v,Qa.v,X8.v,-eq_self] at h;exact h)
def ZJM (c:Cp) (a w need t:Nat) (zs:List UInt8) (f:Nat→Bool) (N m:Nat):Con:=Zsr [c.val,.int .u32 (a:Nat),.int .i64 (w:Nat),.int .u16 (need:Nat),.pointer (some ⟨66,0,none⟩)] (.int .i64 (t:Nat)) zs f N m
theorem ZmK {n:Nat} (h:n=0):((n:Int) !=(0:Int))=false:=by rw[h]; rfl
theorem Zou {n:Nat} (h:¬ n=0):((n:Int) !=(0:Int))=true:=bne_iff_ne.2 (by omega)
theorem Xx (c:Cp) (a w need:Nat) (zs:List UInt8) (f:Nat→Bool) (N m:Nat) (hc:c.Ok) (ha:a<4294967296) (hw:0<w) (hw2:w≤16) (hn:need<65536) (hN:N≤262144):ConOk Tryz.prog 54 3 (ZJM c a w need (V1 c a w need N) zs f N m)∧FlatC (ZJM c a w need (V1 c a w need N) zs f N m):=by
 have ew:u32.wrap (w:Int)=(w:Int):=Kw w (by omega)
 have ea:u64.wrap (u64.wrap (a:Int)+u64.wrap (w:Int))=((a+w:Nat):Int):=by rw[Zq3,Zq3,Zq3]; omega
 have eN:u64.wrap (N:Int)=(N:Int):=by rw[Zq3]; omega
 have et:(a:Int).tmod (w:Int)=((a%w:Nat):Int):=(Int.ofNat_tmod a w).symm
 have e0:decide ((w:Int)=(0:Int))=false:=dF (by omega)
 have hx:=u16_and_nat c.P need hc.2.2.2.2.1 hn
 have har:([c.val,.int .u32 (a:Nat),.int .i64 (w:Nat),.int .u16 (need:Nat),.pointer (some ⟨66,0,none⟩)]:List Value).all (okV (fun l=>Nat.blt l 67) 3)=true:=by rfl
 cases hV:c.V
 ·exact Qt QH har rfl rfl (wa_t.v c a w need zs f N m) (by unfold V1 Vb; rw[hV]; rfl) (by simp only[hV,qT8.v])
 by_cases hy:c.Y=0
 ·have y1:=ZmK hy
  by_cases hp:c.P&&&need=need
  ·have hj:Vb c need=0:=by unfold Vb; rw[hV,if_neg (by decide),if_neg (by omega),if_neg (by omega)]
   have p1:(bits BinOp.and u16 (c.P:Int) (need:Int) !=(need:Int))=false:=by rw[hx,hp]; simp
   have hh:=Zsk c a w hc ha (by omega)
   cases hk:Za1 c.lo c.hi a w
   ·rw[hk] at hh
    exact Qt (Z3 hh) har rfl rfl (wa_h.v c a w need false zs f N m) (by unfold V1; rw[hj,if_neg (by decide),hk]; rfl) (by simp only[hV,y1,p1,ew,qT8.v])
   ·rw[hk] at hh
    by_cases hf:N<a+w
    ·have f1:decide (((a+w:Nat):Int)>(N:Int))=true:=lR (by omega)
     exact Qt (Z3 hh) har rfl rfl (wa_f.v c a w need true zs f N m) (by unfold V1; rw[hj,if_neg (by decide),hk,if_neg (by decide),if_pos hf]; rfl) (by simp only[hV,y1,p1,ew,ea,eN,f1,qT8.v])
    ·have f1:decide (((a+w:Nat):Int)>(N:Int))=false:=dF (by omega)
     by_cases hm:a%w=0
     ·have m1:=ZmK hm
      exact Qt (Z3 hh) har rfl rfl (wa_k.v c a w need true zs f N m) (by unfold V1; rw[hj,if_neg (by decide),hk,if_neg (by decide),if_neg hf,if_neg (by omega)]; rfl) (by simp only[hV,y1,p1,ew,ea,eN,et,e0,f1,m1,cond_true,qT8.v])
     ·have m1:=Zou hm
      exact Qt (Z3 hh) har rfl rfl (wa_a.v c a w need true zs f N m) (by unfold V1; rw[hj,if_neg (by decide),hk,if_neg (by decide),if_neg hf,if_pos (by omega)]; rfl) (by simp only[hV,y1,p1,ew,ea,eN,et,e0,f1,m1,cond_true,qT8.v])
  ·have p1:(bits BinOp.and u16 (c.P:Int) (need:Int) !=(need:Int))=true:=by rw[hx]; exact bne_iff_ne.2 (by omega)
   have hj:Vb c need=3:=by unfold Vb; rw[hV,if_neg (by decide),if_neg (by omega),if_pos (by omega)]
   exact Qt QH har rfl rfl (wa_p.v c a w need zs f N m) (by unfold V1; rw[hj]; rfl) (by simp only[hV,y1,p1,qT8.v])
 ·have y1:=Zou hy
  have hj:Vb c need=2:=by unfold Vb; rw[hV,if_neg (by decide),if_pos hy]
  exact Qt QH har rfl rfl (wa_s.v c a w need zs f N m) (by unfold V1; rw[hj]; rfl) (by simp only[hV,y1,qT8.v])
theorem Zmz (fr:Nat→Cp) (k:Int):u32.wrap (((fr 16).C:Int)+u32.wrap ((4:Int)*u32.wrap k))=((ZcP fr k:Nat):Int):=by
 have h:ZcP fr k=((((fr 16).C:Int)+4*k)%4294967296).toNat:=rfl
 rw[h]; simp only[Zyw]; omega
theorem Zj2 (fr:Nat→Cp) (k:Int):ZcP fr k<4294967296:=by
 have h:ZcP fr k=((((fr 16).C:Int)+4*k)%4294967296).toNat:=rfl
 rw[h]; omega
theorem ZiD (fr:Nat→Cp) (k:Int) (hfr:YR fr):Qi 55 [Xu fr,.int .i64 k] (Zdm fr k).val:=by
 have hb:=Z3 (n:=66) (ls:=[]) (U7 (fr 16) (ZcP fr k) (hfr 16) (Zj2 fr k))
 have hr:=fw_a.v fr k (ZcP fr k) (ZbV (fr 16) (ZcP fr k))
 exact Zi hb hr rfl (by simp only[Zmz,and_self]) rfl rfl
theorem XW (fr:Nat→Cp) (hfr:YR fr):Qi 28 [Xu fr] (Xu (Yo fr)) :=
 Zi (Z3 (ZiD fr 1 hfr)) (nw_a.v fr (Zdm fr 1)) rfl (by simp only[and_self]) rfl rfl
theorem QQ (fr:Nat→Cp) (i:In):(Zkn fr i).all (okV (fun l=>Nat.blt l 67) 3)=true:=by rfl
theorem Zhs {call:QM} (hc:Zs Tryz.prog call) {fn:FuncId} {args:List Value} {v v':Value} {zs zs':List UInt8} {f f':Nat→Bool} {N m:Nat} {T:List (Nat×Bool)} {s':Sy.St} {cs bs:List Value} (ha:args.all (okV (fun l=>Nat.blt l 67) 3)=true) (hv:XD v=true) (hu:isU v=false) (hr:call fn args ⟨67,arR true zs f N m,Zf2 N m,0,T,0,True⟩=some (v',s')) (hvv:v'=v) (hO:s'.O)
  (h66:Sy.look s'.h 66=some ⟨true,none,[.slice (some ⟨64,0,none⟩) N (big+64),.slice (some ⟨65,0,none⟩) m (big+65)],none⟩) (h65:Sy.look s'.h 65=some ⟨true,some (65,1),bs,none⟩) (h64:Sy.look s'.h 64=some ⟨true,some (64,1),cs,none⟩) (hb:bs=bls f' m) (hcs:cs=u8s zs') (hlo:Zi2 s'.lo 65 m∧Zi2 s'.lo 64 N) :
  ConOk Tryz.prog fn 3 (ZmJ args v zs zs' f f' N m)∧FlatC (ZmJ args v zs zs' f f' N m):=by
 subst hvv
 have h0:=Zan (ltZ 67) true zs f N m (l:=[]) trivial
 have h1:=Zan (Zjk 67) true zs' f' N m (l:=[]) trivial
 have h2:=ZcG (l:=[]) (ltZ 67) zs' f' N m cs bs h66 h65 h64 hb hcs trivial
 rw[List.append_nil] at h0 h1 h2
 exact⟨Qn hc ⟨by show 64≤67; omega,Nat.le_refl _,h0,rfl,rfl,rfl,ha,Q8 hv 1,ZoW (ltZ 67) true _ _ N m⟩ hr hO (p:=fun l=>Nat.blt l 67) (σ:=id) ⟨fun _ _=>rfl,h2,rfl,⟨⟨rfl,hlo.1⟩,⟨rfl,hlo.2⟩,trivial⟩,⟨Q8 hv 1,by rw[JB]; rfl⟩,hu,h1,rfl,Xk _ hv,fun x _ _ => .inl rfl⟩,⟨ZlZ _ _ _ _ _⟩⟩
theorem U6 (fr:Nat→Cp) (a:Nat) (ha:a<17):Z0 (Zt undef (frL fr) (0+a*8+7))=(fr a).V:=by rw[Zbs fr a 7 _ ha (by omega) (by omega)]; rfl
theorem XJ (fr:Nat→Cp) (a:Nat) (ha:a<17):WK (0+a*8+7+1) (frL fr)=true:=U2 _ _ (by rw[Zfc,ZfQ]; omega)
theorem YQ (fr:Nat→Cp) (a:Nat) (ha:a<17):Zz [Value.bool false] (frL fr) (0+a*8+7)=true:=by
 unfold Zz Zz
 rw[Zbs fr a 7 _ ha (by omega) (by omega)]
 rfl
def Zds (fr:Nat→Cp) (i:In) (c:Cp) (t:Nat) (zs:List UInt8) (f:Nat→Bool) (N m:Nat):Con:=Zsr (Zkn fr i) (.tuple ⟨[c.val,.int .i64 (t:Nat)]⟩) zs f N m
theorem qB1 (m:Nat) (f:Nat→Bool) (p:Nat→Bool):(bls f m).all (okV p 3)=true:=ZE (Q4 f m)
theorem qB2 (m:Nat) (f:Nat→Bool) (σ:Nat→Nat):(bls f m).map (rnV σ 3)=bls f m:=ZP (Q4 f m)
def qT5:=Bx.mk (aI @Bool.and_self (aI @Bool.not_true (aI @Bool.not_false (aI @and_true (aI @true_and (aI @and_self @Nat.le_refl))))))
theorem ZJN (fr:Nat→Cp) (a b c:Nat) (k:Int) (zs:List UInt8) (f:Nat→Bool) (N m:Nat) (hN:N≤262144) (hfr:YR fr) (ha0:a<16) (hb0:b<16) (ht:QL fr 17 a b k N≠0):ConOk Tryz.prog 58 3 (Zds fr (inS 17 a b c k) U1 (QL fr 17 a b k N) zs f N m)∧FlatC (Zds fr (inS 17 a b c k) U1 (QL fr 17 a b k N) zs f N m):=by
 have ha:a<17:=by omega
 have hb:b<17:=by omega
 have z0:=qD0 b
 have z1:=qD1 b (by omega)
 have z2:=qD0 a
 have z3:=qD1 a (by omega)
 have b1:=qB1 m
 have b2:=qB2 m
 have u1:=qU1
 have u2:=qU2
 have hwy:=Xx (fr b) (atS fr b k) 1 1 zs f N m (hfr b) (Xf _ _ _) (by omega) (by omega) (by omega) hN
 have hmt:V1 (fr b) (atS fr b k) 1 1 N=QL fr 17 a b k N:=by unfold QL XT; rfl
 rw[hmt] at hwy
 exact Qt (Z3 hwy) (QQ _ _) rfl rfl (ZJv.v fr (inS 17 a b c k) (atS fr b k) 1 1 (QL fr 17 a b k N) zs f N m) rfl (by simp only[inS,(qFS fr b hb).v,(qFS fr a ha).v,U6 fr a ha,XJ fr a ha,YQ fr a ha,Yb,z0,z1,z2,z3,b1,b2,u1,u2,tN,qT5.v,cond_true,Zou ht]; exact⟨rfl,rfl⟩)
theorem ZJO (fr:Nat→Cp) (a b c:Nat) (k:Int) (zs:List UInt8) (f:Nat→Bool) (N m:Nat) (hN:N≤262144) (hfr:YR fr) (ha0:a<16) (hb0:b<16) (ht:QL fr 18 a b k N≠0):ConOk Tryz.prog 58 3 (Zds fr (inS 18 a b c k) U1 (QL fr 18 a b k N) zs f N m)∧FlatC (Zds fr (inS 18 a b c k) U1 (QL fr 18 a b k N) zs f N m):=by
 have ha:a<17:=by omega
 have hb:b<17:=by omega
 have z0:=qD0 b
 have z1:=qD1 b (by omega)
 have z2:=qD0 a
 have z3:=qD1 a (by omega)
 have b1:=qB1 m
 have b2:=qB2 m
 have u1:=qU1
 have u2:=qU2
 have hwy:=Xx (fr b) (atS fr b k) 2 1 zs f N m (hfr b) (Xf _ _ _) (by omega) (by omega) (by omega) hN
 have hmt:V1 (fr b) (atS fr b k) 2 1 N=QL fr 18 a b k N:=by unfold QL XT; rfl
 rw[hmt] at hwy
 exact Qt (Z3 hwy) (QQ _ _) rfl rfl (ZJw.v fr (inS 18 a b c k) (atS fr b k) 2 1 (QL fr 18 a b k N) zs f N m) rfl (by simp only[inS,(qFS fr b hb).v,(qFS fr a ha).v,U6 fr a ha,XJ fr a ha,YQ fr a ha,Yb,z0,z1,z2,z3,b1,b2,u1,u2,tN,qT5.v,cond_true,Zou ht]; exact⟨rfl,rfl⟩)
theorem ZJP (fr:Nat→Cp) (a b c:Nat) (k:Int) (zs:List UInt8) (f:Nat→Bool) (N m:Nat) (hN:N≤262144) (hfr:YR fr) (ha0:a<16) (hb0:b<16) (ht:QL fr 19 a b k N≠0):ConOk Tryz.prog 58 3 (Zds fr (inS 19 a b c k) U1 (QL fr 19 a b k N) zs f N m)∧FlatC (Zds fr (inS 19 a b c k) U1 (QL fr 19 a b k N) zs f N m):=by
 have ha:a<17:=by omega
 have hb:b<17:=by omega
 have z0:=qD0 b
 have z1:=qD1 b (by omega)
 have z2:=qD0 a
 have z3:=qD1 a (by omega)
 have b1:=qB1 m
 have b2:=qB2 m
 have u1:=qU1
 have u2:=qU2
 have hwy:=Xx (fr b) (atS fr b k) 4 1 zs f N m (hfr b) (Xf _ _ _) (by omega) (by omega) (by omega) hN
 have hmt:V1 (fr b) (atS fr b k) 4 1 N=QL fr 19 a b k N:=by unfold QL XT; rfl
 rw[hmt] at hwy
 exact Qt (Z3 hwy) (QQ _ _) rfl rfl (ZJx.v fr (inS 19 a b c k) (atS fr b k) 4 1 (QL fr 19 a b k N) zs f N m) rfl (by simp only[inS,(qFS fr b hb).v,(qFS fr a ha).v,U6 fr a ha,XJ fr a ha,YQ fr a ha,Yb,z0,z1,z2,z3,b1,b2,u1,u2,tN,qT5.v,cond_true,Zou ht]; exact⟨rfl,rfl⟩)
theorem ZJQ (fr:Nat→Cp) (a b c:Nat) (k:Int) (zs:List UInt8) (f:Nat→Bool) (N m:Nat) (hN:N≤262144) (hfr:YR fr) (ha0:a<16) (hb0:b<16) (ht:QL fr 20 a b k N≠0):ConOk Tryz.prog 58 3 (Zds fr (inS 20 a b c k) U1 (QL fr 20 a b k N) zs f N m)∧FlatC (Zds fr (inS 20 a b c k) U1 (QL fr 20 a b k N) zs f N m):=by
 have ha:a<17:=by omega
 have hb:b<17:=by omega
 have z0:=qD0 b
 have z1:=qD1 b (by omega)
 have z2:=qD0 a
 have z3:=qD1 a (by omega)
 have b1:=qB1 m
 have b2:=qB2 m
 have u1:=qU1
 have u2:=qU2
 have hwy:=Xx (fr b) (atS fr b k) 1 2 zs f N m (hfr b) (Xf _ _ _) (by omega) (by omega) (by omega) hN
 have hmt:V1 (fr b) (atS fr b k) 1 2 N=QL fr 20 a b k N:=by unfold QL XT; rfl
 rw[hmt] at hwy
 exact Qt (Z3 hwy) (QQ _ _) rfl rfl (ZJy.v fr (inS 20 a b c k) (atS fr b k) 1 2 (QL fr 20 a b k N) zs f N m) rfl (by simp only[inS,(qFS fr b hb).v,(qFS fr a ha).v,U6 fr a ha,XJ fr a ha,YQ fr a ha,Yb,z0,z1,z2,z3,b1,b2,u1,u2,tN,qT5.v,cond_true,Zou ht]; exact⟨rfl,rfl⟩)
theorem ZJR (fr:Nat→Cp) (a b c:Nat) (k:Int) (zs:List UInt8) (f:Nat→Bool) (N m:Nat) (hN:N≤262144) (hfr:YR fr) (ha0:a<16) (hb0:b<16) (ht:QL fr 21 a b k N≠0):ConOk Tryz.prog 58 3 (Zds fr (inS 21 a b c k) U1 (QL fr 21 a b k N) zs f N m)∧FlatC (Zds fr (inS 21 a b c k) U1 (QL fr 21 a b k N) zs f N m):=by
 have ha:a<17:=by omega
 have hb:b<17:=by omega
 have z0:=qD0 b
 have z1:=qD1 b (by omega)
 have z2:=qD0 a
 have z3:=qD1 a (by omega)
 have b1:=qB1 m
 have b2:=qB2 m
 have u1:=qU1
 have u2:=qU2
 have hwy:=Xx (fr b) (atS fr b k) 2 2 zs f N m (hfr b) (Xf _ _ _) (by omega) (by omega) (by omega) hN
 have hmt:V1 (fr b) (atS fr b k) 2 2 N=QL fr 21 a b k N:=by unfold QL XT; rfl
 rw[hmt] at hwy
 exact Qt (Z3 hwy) (QQ _ _) rfl rfl (ZJz.v fr (inS 21 a b c k) (atS fr b k) 2 2 (QL fr 21 a b k N) zs f N m) rfl (by simp only[inS,(qFS fr b hb).v,(qFS fr a ha).v,U6 fr a ha,XJ fr a ha,YQ fr a ha,Yb,z0,z1,z2,z3,b1,b2,u1,u2,tN,qT5.v,cond_true,Zou ht]; exact⟨rfl,rfl⟩)
theorem ZJS (fr:Nat→Cp) (a b c:Nat) (k:Int) (zs:List UInt8) (f:Nat→Bool) (N m:Nat) (hN:N≤262144) (hfr:YR fr) (ha0:a<16) (hb0:b<16) (ht:QL fr 22 a b k N≠0):ConOk Tryz.prog 58 3 (Zds fr (inS 22 a b c k) U1 (QL fr 22 a b k N) zs f N m)∧FlatC (Zds fr (inS 22 a b c k) U1 (QL fr 22 a b k N) zs f N m):=by
 have ha:a<17:=by omega
 have hb:b<17:=by omega
 have z0:=qD0 b
 have z1:=qD1 b (by omega)
 have z2:=qD0 a
 have z3:=qD1 a (by omega)
 have b1:=qB1 m
 have b2:=qB2 m
 have u1:=qU1
 have u2:=qU2
 have hwy:=Xx (fr b) (atS fr b k) 4 2 zs f N m (hfr b) (Xf _ _ _) (by omega) (by omega) (by omega) hN
 have hmt:V1 (fr b) (atS fr b k) 4 2 N=QL fr 22 a b k N:=by unfold QL XT; rfl
 rw[hmt] at hwy
 exact Qt (Z3 hwy) (QQ _ _) rfl rfl (ZJA.v fr (inS 22 a b c k) (atS fr b k) 4 2 (QL fr 22 a b k N) zs f N m) rfl (by simp only[inS,(qFS fr b hb).v,(qFS fr a ha).v,U6 fr a ha,XJ fr a ha,YQ fr a ha,Yb,z0,z1,z2,z3,b1,b2,u1,u2,tN,qT5.v,cond_true,Zou ht]; exact⟨rfl,rfl⟩)
theorem ZJT (fr:Nat→Cp) (a b c:Nat) (k:Int) (zs:List UInt8) (f:Nat→Bool) (N m:Nat) (hN:N≤262144) (hfr:YR fr) (ha0:a<16) (hb0:b<16) (ht:QL fr 23 a b k N≠0):ConOk Tryz.prog 58 3 (Zds fr (inS 23 a b c k) U1 (QL fr 23 a b k N) zs f N m)∧FlatC (Zds fr (inS 23 a b c k) U1 (QL fr 23 a b k N) zs f N m):=by
 have ha:a<17:=by omega
 have hb:b<17:=by omega
 have z0:=qD0 b
 have z1:=qD1 b (by omega)
 have z2:=qD0 a
 have z3:=qD1 a (by omega)
 have b1:=qB1 m
 have b2:=qB2 m
 have u1:=qU1
 have u2:=qU2
 have hwy:=Xx (fr b) (atS fr b k) 16 1 zs f N m (hfr b) (Xf _ _ _) (by omega) (by omega) (by omega) hN
 have hmt:V1 (fr b) (atS fr b k) 16 1 N=QL fr 23 a b k N:=by unfold QL XT; rfl
 rw[hmt] at hwy
 exact Qt (Z3 hwy) (QQ _ _) rfl rfl (ZJB.v fr (inS 23 a b c k) (atS fr b k) 16 1 (QL fr 23 a b k N) zs f N m) rfl (by simp only[inS,(qFS fr b hb).v,(qFS fr a ha).v,U6 fr a ha,XJ fr a ha,YQ fr a ha,Yb,z0,z1,z2,z3,b1,b2,u1,u2,tN,qT5.v,cond_true,Zou ht]; exact⟨rfl,rfl⟩)
theorem ZDM (fr:Nat→Cp) (a b c:Nat) (k:Int) (zs:List UInt8) (f:Nat→Bool) (N m:Nat) (hN:N≤262144) (hfr:YR fr) (ha0:a<16) (hb0:b<16) (kV:(fr a).V=true) (ht:QL fr 24 a b k N≠0):ConOk Tryz.prog 58 3 (Zds fr (inS 24 a b c k) U1 (QL fr 24 a b k N) zs f N m)∧FlatC (Zds fr (inS 24 a b c k) U1 (QL fr 24 a b k N) zs f N m):=by
 have ha:a<17:=by omega
 have hb:b<17:=by omega
 have z0:=qD0 b
 have z1:=qD1 b (by omega)
 have z2:=qD0 a
 have z3:=qD1 a (by omega)
 have b1:=qB1 m
 have b2:=qB2 m
 have u1:=qU1
 have u2:=qU2
 have hwy:=Xx (fr b) (atS fr b k) 16 18 zs f N m (hfr b) (Xf _ _ _) (by omega) (by omega) (by omega) hN
 have hmt:V1 (fr b) (atS fr b k) 16 18 N=QL fr 24 a b k N:=by unfold QL XT; rw[if_pos rfl,kV]; rfl
 rw[hmt] at hwy
 exact Qt (Z3 hwy) (QQ _ _) rfl rfl (ZDK.v fr (inS 24 a b c k) (atS fr b k) 16 18 (QL fr 24 a b k N) zs f N m) rfl (by simp only[inS,(qFS fr b hb).v,(qFS fr a ha).v,U6 fr a ha,XJ fr a ha,YQ fr a ha,Yb,z0,z1,z2,z3,b1,b2,u1,u2,tN,qT5.v,cond_true,kV,Zou ht]; exact⟨rfl,rfl⟩)
theorem ZDN (fr:Nat→Cp) (a b c:Nat) (k:Int) (zs:List UInt8) (f:Nat→Bool) (N m:Nat) (hN:N≤262144) (hfr:YR fr) (ha0:a<16) (hb0:b<16) (kV:(fr a).V=false) (ht:QL fr 24 a b k N≠0):ConOk Tryz.prog 58 3 (Zds fr (inS 24 a b c k) U1 (QL fr 24 a b k N) zs f N m)∧FlatC (Zds fr (inS 24 a b c k) U1 (QL fr 24 a b k N) zs f N m):=by
 have ha:a<17:=by omega
 have hb:b<17:=by omega
 have z0:=qD0 b
 have z1:=qD1 b (by omega)
 have z2:=qD0 a
 have z3:=qD1 a (by omega)
 have b1:=qB1 m
 have b2:=qB2 m
 have u1:=qU1
 have u2:=qU2
 have hwy:=Xx (fr b) (atS fr b k) 16 2 zs f N m (hfr b) (Xf _ _ _) (by omega) (by omega) (by omega) hN
 have hmt:V1 (fr b) (atS fr b k) 16 2 N=QL fr 24 a b k N:=by unfold QL XT; rw[if_pos rfl,kV]; rfl
 rw[hmt] at hwy
 exact Qt (Z3 hwy) (QQ _ _) rfl rfl (ZDL.v fr (inS 24 a b c k) (atS fr b k) 16 2 (QL fr 24 a b k N) zs f N m) rfl (by simp only[inS,(qFS fr b hb).v,(qFS fr a ha).v,U6 fr a ha,XJ fr a ha,YQ fr a ha,Yb,z0,z1,z2,z3,b1,b2,u1,u2,tN,qT5.v,cond_true,kV,Zou ht]; exact⟨rfl,rfl⟩)
theorem ZJU (fr:Nat→Cp) (a b c:Nat) (k:Int) (zs:List UInt8) (f:Nat→Bool) (N m:Nat) (hN:N≤262144) (hfr:YR fr) (ha0:a<16) (hb0:b<16) (hl:zs.length=N) (ht:QL fr 17 a b k N=0):ConOk Tryz.prog 58 3 (Zds fr (inS 17 a b c k) (Zdk (ZkT 1 zs (atS fr b k))) 0 zs f N m)∧FlatC (Zds fr (inS 17 a b c k) (Zdk (ZkT 1 zs (atS fr b k))) 0 zs f N m):=by
 have ha:a<17:=by omega
 have hb:b<17:=by omega
 have z0:=qD0 b
 have z1:=qD1 b (by omega)
 have z2:=qD0 a
 have z3:=qD1 a (by omega)
 have b1:=qB1 m
 have b2:=qB2 m
 have u1:=qU1
 have u2:=qU2
 have hwy:=Xx (fr b) (atS fr b k) 1 1 zs f N m (hfr b) (Xf _ _ _) (by omega) (by omega) (by omega) hN
 have hmt:V1 (fr b) (atS fr b k) 1 1 N=QL fr 17 a b k N:=by unfold QL XT; rfl
 rw[hmt] at hwy
 have hin:=(VK (show V1 (fr b) (atS fr b k) 1 1 N=0 from hmt.trans ht)).1
 have hld:=Zpt 1 (atS fr b k) zs f N m hl hN (by omega) hin
 rw[ht] at hwy
 exact Qt (WV hwy hld) (QQ _ _) rfl rfl (ZJC.v fr (inS 17 a b c k) (atS fr b k) 1 1 0 (ZkT 1 zs (atS fr b k)) zs f N m) rfl (by simp only[inS,(qFS fr b hb).v,(qFS fr a ha).v,U6 fr a ha,XJ fr a ha,YQ fr a ha,Yb,z0,z1,z2,z3,b1,b2,u1,u2,tN,qT5.v,cond_true,ZmK rfl]; repeat' (first|rfl|refine⟨?_,?_⟩))
theorem ZJV (fr:Nat→Cp) (a b c:Nat) (k:Int) (zs:List UInt8) (f:Nat→Bool) (N m:Nat) (hN:N≤262144) (hfr:YR fr) (ha0:a<16) (hb0:b<16) (hl:zs.length=N) (ht:QL fr 18 a b k N=0):ConOk Tryz.prog 58 3 (Zds fr (inS 18 a b c k) (Zdk (ZkT 2 zs (atS fr b k))) 0 zs f N m)∧FlatC (Zds fr (inS 18 a b c k) (Zdk (ZkT 2 zs (atS fr b k))) 0 zs f N m):=by
 have ha:a<17:=by omega
 have hb:b<17:=by omega
 have z0:=qD0 b
 have z1:=qD1 b (by omega)
 have z2:=qD0 a
 have z3:=qD1 a (by omega)
 have b1:=qB1 m
 have b2:=qB2 m
 have u1:=qU1
 have u2:=qU2
 have hwy:=Xx (fr b) (atS fr b k) 2 1 zs f N m (hfr b) (Xf _ _ _) (by omega) (by omega) (by omega) hN
 have hmt:V1 (fr b) (atS fr b k) 2 1 N=QL fr 18 a b k N:=by unfold QL XT; rfl
 rw[hmt] at hwy
 have hin:=(VK (show V1 (fr b) (atS fr b k) 2 1 N=0 from hmt.trans ht)).1
 have hld:=Zpt 2 (atS fr b k) zs f N m hl hN (by omega) hin
 rw[ht] at hwy
 exact Qt (WV hwy hld) (QQ _ _) rfl rfl (ZJD.v fr (inS 18 a b c k) (atS fr b k) 2 1 0 (ZkT 2 zs (atS fr b k)) zs f N m) rfl (by simp only[inS,(qFS fr b hb).v,(qFS fr a ha).v,U6 fr a ha,XJ fr a ha,YQ fr a ha,Yb,z0,z1,z2,z3,b1,b2,u1,u2,tN,qT5.v,cond_true,ZmK rfl]; repeat' (first|rfl|refine⟨?_,?_⟩))
theorem ZJW (fr:Nat→Cp) (a b c:Nat) (k:Int) (zs:List UInt8) (f:Nat→Bool) (N m:Nat) (hN:N≤262144) (hfr:YR fr) (ha0:a<16) (hb0:b<16) (hl:zs.length=N) (ht:QL fr 19 a b k N=0):ConOk Tryz.prog 58 3 (Zds fr (inS 19 a b c k) (Zdk (ZkT 4 zs (atS fr b k))) 0 zs f N m)∧FlatC (Zds fr (inS 19 a b c k) (Zdk (ZkT 4 zs (atS fr b k))) 0 zs f N m):=by
 have ha:a<17:=by omega
 have hb:b<17:=by omega
 have z0:=qD0 b
 have z1:=qD1 b (by omega)
 have z2:=qD0 a
 have z3:=qD1 a (by omega)
 have b1:=qB1 m
 have b2:=qB2 m
 have u1:=qU1
 have u2:=qU2
 have hwy:=Xx (fr b) (atS fr b k) 4 1 zs f N m (hfr b) (Xf _ _ _) (by omega) (by omega) (by omega) hN
 have hmt:V1 (fr b) (atS fr b k) 4 1 N=QL fr 19 a b k N:=by unfold QL XT; rfl
 rw[hmt] at hwy
 have hin:=(VK (show V1 (fr b) (atS fr b k) 4 1 N=0 from hmt.trans ht)).1
 have hld:=Zpt 4 (atS fr b k) zs f N m hl hN (by omega) hin
 rw[ht] at hwy
 exact Qt (WV hwy hld) (QQ _ _) rfl rfl (ZJE.v fr (inS 19 a b c k) (atS fr b k) 4 1 0 (ZkT 4 zs (atS fr b k)) zs f N m) rfl (by simp only[inS,(qFS fr b hb).v,(qFS fr a ha).v,U6 fr a ha,XJ fr a ha,YQ fr a ha,Yb,z0,z1,z2,z3,b1,b2,u1,u2,tN,qT5.v,cond_true,ZmK rfl]; repeat' (first|rfl|refine⟨?_,?_⟩))
theorem ZJX (fr:Nat→Cp) (a b c:Nat) (k:Int) (zs:List UInt8) (f:Nat→Bool) (N m:Nat) (hN:N≤262144) (hfr:YR fr) (ha0:a<16) (hb0:b<16) (hl:zs.length=N) (hm:N≤m*16) (ht:QL fr 23 a b k N=0):ConOk Tryz.prog 58 3 (Zds fr (inS 23 a b c k) (lcV (ofS ((zs.drop (atS fr b k)).take 16) (f (atS fr b k/16))) (fr b).P) 0 zs f N m)∧FlatC (Zds fr (inS 23 a b c k) (lcV (ofS ((zs.drop (atS fr b k)).take 16) (f (atS fr b k/16))) (fr b).P) 0 zs f N m):=by
 have ha:a<17:=by omega
 have hb:b<17:=by omega
 have z0:=qD0 b
 have z1:=qD1 b (by omega)
 have z2:=qD0 a
 have z3:=qD1 a (by omega)
 have b1:=qB1 m
 have b2:=qB2 m
 have u1:=qU1
 have u2:=qU2
 have hwy:=Xx (fr b) (atS fr b k) 16 1 zs f N m (hfr b) (Xf _ _ _) (by omega) (by omega) (by omega) hN
 have hmt:V1 (fr b) (atS fr b k) 16 1 N=QL fr 23 a b k N:=by unfold QL XT; rfl
 rw[hmt] at hwy
 obtain⟨hin,hal,_⟩:=VK (show V1 (fr b) (atS fr b k) 16 1 N=0 from hmt.trans ht)
 have hld:=ZDr (atS fr b k) zs f N m hl hN hm hal hin
 rw[ht] at hwy
 have hx:=u16_and_nat (fr b).P 8 (hfr b).2.2.2.2.1 (by omega)
 generalize ofS ((zs.drop (atS fr b k)).take 16) (f (atS fr b k/16))=x at *
 by_cases hp:(fr b).P&&&8=0
 ·have p1:(bits BinOp.and u16 ((fr b).P:Int) (8:Int)==(0:Int))=true:=by rw[show(8:Int)=((8:Nat):Int) from rfl,hx,hp]; rfl
  exact Qt (WV hwy hld) (QQ _ _) rfl rfl (ZJG.v fr (inS 23 a b c k) (atS fr b k) 16 1 0 x zs f N m) (by unfold lcV; rw[hp]; simp[Cp.val,Cp.cs]) (by simp only[inS,(qFS fr b hb).v,(qFS fr a ha).v,U6 fr a ha,XJ fr a ha,YQ fr a ha,Yb,z0,z1,z2,z3,b1,b2,u1,u2,tN,qT5.v,cond_true,p1,ZmK rfl]; exact⟨rfl,rfl⟩)
 ·have p1:(bits BinOp.and u16 ((fr b).P:Int) (8:Int)==(0:Int))=false:=by rw[show(8:Int)=((8:Nat):Int) from rfl,hx]; exact beq_eq_false_iff_ne.2 (by omega)
  exact Qt (WV hwy hld) (QQ _ _) rfl rfl (ZJF.v fr (inS 23 a b c k) (atS fr b k) 16 1 0 x zs f N m) (by unfold lcV; rw[lR hp,Bool.and_true]; rfl) (by simp only[inS,(qFS fr b hb).v,(qFS fr a ha).v,U6 fr a ha,XJ fr a ha,YQ fr a ha,Yb,z0,z1,z2,z3,b1,b2,u1,u2,tN,qT5.v,cond_true,p1,ZmK rfl]; exact⟨rfl,rfl⟩)
theorem ZJY (fr:Nat→Cp) (a b c:Nat) (k:Int) (zs:List UInt8) (f:Nat→Bool) (N m:Nat) (hN:N≤262144) (hfr:YR fr) (ha0:a<16) (hb0:b<16) (har:ArK zs N m) (ht:QL fr 20 a b k N=0):ConOk Tryz.prog 58 3 (ZmJ (Zkn fr (inS 20 a b c k)) (.tuple ⟨[(fr a).val,.int .i64 0]⟩) zs (Xt (atS fr b k) (leW 1 (fr a).C) zs) f (YY f (atS fr b k/16) false) N m)∧FlatC (ZmJ (Zkn fr (inS 20 a b c k)) (.tuple ⟨[(fr a).val,.int .i64 0]⟩) zs (Xt (atS fr b k) (leW 1 (fr a).C) zs) f (YY f (atS fr b k/16) false) N m):=by
 have ha:a<17:=by omega
 have hb:b<17:=by omega
 have z0:=qD0 b
 have z1:=qD1 b (by omega)
 have z2:=qD0 a
 have z3:=qD1 a (by omega)
 have b1:=qB1 m
 have b2:=qB2 m
 have u1:=qU1
 have u2:=qU2
 have hwy:=Xx (fr b) (atS fr b k) 1 2 zs f N m (hfr b) (Xf _ _ _) (by omega) (by omega) (by omega) hN
 have hmt:V1 (fr b) (atS fr b k) 1 2 N=QL fr 20 a b k N:=by unfold QL XT; rfl
 rw[hmt] at hwy
 obtain⟨hin,hal,_⟩:=VK (show V1 (fr b) (atS fr b k) 1 2 N=0 from hmt.trans ht)
 have hst:=Zma 1 (atS fr b k) (fr a).C zs f N m har (by omega) (hfr a).1 hal hin
 rw[ht] at hwy
 have hr:=ZJH.v fr (inS 20 a b c k) (atS fr b k) 1 2 0 (Xt (atS fr b k) (leW 1 (fr a).C) zs) (YY f (atS fr b k/16) false) zs f N m
 refine Zhs (WV hwy hst) (QQ _ _) rfl rfl hr ?_ ?_ rfl rfl rfl rfl rfl ⟨Nat.le_refl _,Nat.le_refl _⟩
 ·simp only[inS,(qFS fr b hb).v,(qFS fr a ha).v,U6 fr a ha,XJ fr a ha,YQ fr a ha,Yb,z0,z1,z2,z3,b1,b2,u1,u2,tN,qT5.v,cond_true]; rfl
 ·simp only[inS,(qFS fr b hb).v,(qFS fr a ha).v,U6 fr a ha,XJ fr a ha,YQ fr a ha,Yb,z0,z1,z2,z3,b1,b2,u1,u2,tN,qT5.v,cond_true,ZmK rfl]; repeat' (first|rfl|refine⟨?_,?_⟩)
theorem ZJZ (fr:Nat→Cp) (a b c:Nat) (k:Int) (zs:List UInt8) (f:Nat→Bool) (N m:Nat) (hN:N≤262144) (hfr:YR fr) (ha0:a<16) (hb0:b<16) (har:ArK zs N m) (ht:QL fr 21 a b k N=0):ConOk Tryz.prog 58 3 (ZmJ (Zkn fr (inS 21 a b c k)) (.tuple ⟨[(fr a).val,.int .i64 0]⟩) zs (Xt (atS fr b k) (leW 2 (fr a).C) zs) f (YY f (atS fr b k/16) false) N m)∧FlatC (ZmJ (Zkn fr (inS 21 a b c k)) (.tuple ⟨[(fr a).val,.int .i64 0]⟩) zs (Xt (atS fr b k) (leW 2 (fr a).C) zs) f (YY f (atS fr b k/16) false) N m):=by
 have ha:a<17:=by omega
 have hb:b<17:=by omega
 have z0:=qD0 b
 have z1:=qD1 b (by omega)
 have z2:=qD0 a
 have z3:=qD1 a (by omega)
 have b1:=qB1 m
 have b2:=qB2 m
 have u1:=qU1
 have u2:=qU2
 have hwy:=Xx (fr b) (atS fr b k) 2 2 zs f N m (hfr b) (Xf _ _ _) (by omega) (by omega) (by omega) hN
 have hmt:V1 (fr b) (atS fr b k) 2 2 N=QL fr 21 a b k N:=by unfold QL XT; rfl
 rw[hmt] at hwy
 obtain⟨hin,hal,_⟩:=VK (show V1 (fr b) (atS fr b k) 2 2 N=0 from hmt.trans ht)
 have hst:=Zma 2 (atS fr b k) (fr a).C zs f N m har (by omega) (hfr a).1 hal hin
 rw[ht] at hwy
 have hr:=ZJI.v fr (inS 21 a b c k) (atS fr b k) 2 2 0 (Xt (atS fr b k) (leW 2 (fr a).C) zs) (YY f (atS fr b k/16) false) zs f N m
 refine Zhs (WV hwy hst) (QQ _ _) rfl rfl hr ?_ ?_ rfl rfl rfl rfl rfl ⟨Nat.le_refl _,Nat.le_refl _⟩
 ·simp only[inS,(qFS fr b hb).v,(qFS fr a ha).v,U6 fr a ha,XJ fr a ha,YQ fr a ha,Yb,z0,z1,z2,z3,b1,b2,u1,u2,tN,qT5.v,cond_true]; rfl
 ·simp only[inS,(qFS fr b hb).v,(qFS fr a ha).v,U6 fr a ha,XJ fr a ha,YQ fr a ha,Yb,z0,z1,z2,z3,b1,b2,u1,u2,tN,qT5.v,cond_true,ZmK rfl]; repeat' (first|rfl|refine⟨?_,?_⟩)
theorem ZJ0 (fr:Nat→Cp) (a b c:Nat) (k:Int) (zs:List UInt8) (f:Nat→Bool) (N m:Nat) (hN:N≤262144) (hfr:YR fr) (ha0:a<16) (hb0:b<16) (har:ArK zs N m) (ht:QL fr 22 a b k N=0):ConOk Tryz.prog 58 3 (ZmJ (Zkn fr (inS 22 a b c k)) (.tuple ⟨[(fr a).val,.int .i64 0]⟩) zs (Xt (atS fr b k) (leW 4 (fr a).C) zs) f (YY f (atS fr b k/16) false) N m)∧FlatC (ZmJ (Zkn fr (inS 22 a b c k)) (.tuple ⟨[(fr a).val,.int .i64 0]⟩) zs (Xt (atS fr b k) (leW 4 (fr a).C) zs) f (YY f (atS fr b k/16) false) N m):=by
 have ha:a<17:=by omega
 have hb:b<17:=by omega
 have z0:=qD0 b
 have z1:=qD1 b (by omega)
 have z2:=qD0 a
 have z3:=qD1 a (by omega)
 have b1:=qB1 m
 have b2:=qB2 m
 have u1:=qU1
 have u2:=qU2
 have hwy:=Xx (fr b) (atS fr b k) 4 2 zs f N m (hfr b) (Xf _ _ _) (by omega) (by omega) (by omega) hN
 have hmt:V1 (fr b) (atS fr b k) 4 2 N=QL fr 22 a b k N:=by unfold QL XT; rfl
 rw[hmt] at hwy
 obtain⟨hin,hal,_⟩:=VK (show V1 (fr b) (atS fr b k) 4 2 N=0 from hmt.trans ht)
 have hst:=Zma 4 (atS fr b k) (fr a).C zs f N m har (by omega) (hfr a).1 hal hin
 rw[ht] at hwy
 have hr:=ZJJ.v fr (inS 22 a b c k) (atS fr b k) 4 2 0 (Xt (atS fr b k) (leW 4 (fr a).C) zs) (YY f (atS fr b k/16) false) zs f N m
 refine Zhs (WV hwy hst) (QQ _ _) rfl rfl hr ?_ ?_ rfl rfl rfl rfl rfl ⟨Nat.le_refl _,Nat.le_refl _⟩
 ·simp only[inS,(qFS fr b hb).v,(qFS fr a ha).v,U6 fr a ha,XJ fr a ha,YQ fr a ha,Yb,z0,z1,z2,z3,b1,b2,u1,u2,tN,qT5.v,cond_true]; rfl
 ·simp only[inS,(qFS fr b hb).v,(qFS fr a ha).v,U6 fr a ha,XJ fr a ha,YQ fr a ha,Yb,z0,z1,z2,z3,b1,b2,u1,u2,tN,qT5.v,cond_true,ZmK rfl]; repeat' (first|rfl|refine⟨?_,?_⟩)
theorem ZDO (fr:Nat→Cp) (a b c:Nat) (k:Int) (zs:List UInt8) (f:Nat→Bool) (N m:Nat) (hN:N≤262144) (hfr:YR fr) (ha0:a<16) (hb0:b<16) (kV:(fr a).V=true) (har:ArK zs N m) (ht:QL fr 24 a b k N=0):ConOk Tryz.prog 58 3 (ZmJ (Zkn fr (inS 24 a b c k)) (.tuple ⟨[(fr a).val,.int .i64 0]⟩) zs (Xt (atS fr b k) (fr a).bs zs) f (YY f (atS fr b k/16) ((fr a).V&&(fr a).snd)) N m)∧FlatC (ZmJ (Zkn fr (inS 24 a b c k)) (.tuple ⟨[(fr a).val,.int .i64 0]⟩) zs (Xt (atS fr b k) (fr a).bs zs) f (YY f (atS fr b k/16) ((fr a).V&&(fr a).snd)) N m):=by
 have ha:a<17:=by omega
 have hb:b<17:=by omega
 have z0:=qD0 b
 have z1:=qD1 b (by omega)
 have z2:=qD0 a
 have z3:=qD1 a (by omega)
 have b1:=qB1 m
 have b2:=qB2 m
 have u1:=qU1
 have u2:=qU2
 have hwy:=Xx (fr b) (atS fr b k) 16 18 zs f N m (hfr b) (Xf _ _ _) (by omega) (by omega) (by omega) hN
 have hmt:V1 (fr b) (atS fr b k) 16 18 N=QL fr 24 a b k N:=by unfold QL XT; rw[if_pos rfl,kV]; rfl
 rw[hmt] at hwy
 obtain⟨hin,hal,_⟩:=VK (show V1 (fr b) (atS fr b k) 16 18 N=0 from hmt.trans ht)
 have hst:=Zmb (atS fr b k) (fr a) zs f N m har (hfr a) hal hin
 rw[ht] at hwy
 have hr:=ZJK.v fr (inS 24 a b c k) (atS fr b k) 16 18 0 (Xt (atS fr b k) (fr a).bs zs) (YY f (atS fr b k/16) ((fr a).V&&(fr a).snd)) zs f N m
 refine Zhs (WV hwy hst) (QQ _ _) rfl rfl hr ?_ ?_ rfl rfl rfl rfl rfl ⟨Nat.le_refl _,Nat.le_refl _⟩
 ·simp only[inS,(qFS fr b hb).v,(qFS fr a ha).v,U6 fr a ha,XJ fr a ha,YQ fr a ha,Yb,z0,z1,z2,z3,b1,b2,u1,u2,tN,qT5.v,cond_true]; rfl
 ·simp only[inS,(qFS fr b hb).v,(qFS fr a ha).v,U6 fr a ha,XJ fr a ha,YQ fr a ha,Yb,z0,z1,z2,z3,b1,b2,u1,u2,tN,qT5.v,cond_true,kV,ZmK rfl]; repeat' (first|rfl|refine⟨?_,?_⟩)
theorem ZDP (fr:Nat→Cp) (a b c:Nat) (k:Int) (zs:List UInt8) (f:Nat→Bool) (N m:Nat) (hN:N≤262144) (hfr:YR fr) (ha0:a<16) (hb0:b<16) (kV:(fr a).V=false) (har:ArK zs N m) (ht:QL fr 24 a b k N=0):ConOk Tryz.prog 58 3 (ZmJ (Zkn fr (inS 24 a b c k)) (.tuple ⟨[(fr a).val,.int .i64 0]⟩) zs (Xt (atS fr b k) (fr a).bs zs) f (YY f (atS fr b k/16) ((fr a).V&&(fr a).snd)) N m)∧FlatC (ZmJ (Zkn fr (inS 24 a b c k)) (.tuple ⟨[(fr a).val,.int .i64 0]⟩) zs (Xt (atS fr b k) (fr a).bs zs) f (YY f (atS fr b k/16) ((fr a).V&&(fr a).snd)) N m):=by
 have ha:a<17:=by omega
 have hb:b<17:=by omega
 have z0:=qD0 b
 have z1:=qD1 b (by omega)
 have z2:=qD0 a
 have z3:=qD1 a (by omega)
 have b1:=qB1 m
 have b2:=qB2 m
 have u1:=qU1
 have u2:=qU2
 have hwy:=Xx (fr b) (atS fr b k) 16 2 zs f N m (hfr b) (Xf _ _ _) (by omega) (by omega) (by omega) hN
 have hmt:V1 (fr b) (atS fr b k) 16 2 N=QL fr 24 a b k N:=by unfold QL XT; rw[if_pos rfl,kV]; rfl
 rw[hmt] at hwy
 obtain⟨hin,hal,_⟩:=VK (show V1 (fr b) (atS fr b k) 16 2 N=0 from hmt.trans ht)
 have hst:=Zmb (atS fr b k) (fr a) zs f N m har (hfr a) hal hin
 rw[ht] at hwy
 have hr:=ZJL.v fr (inS 24 a b c k) (atS fr b k) 16 2 0 (Xt (atS fr b k) (fr a).bs zs) (YY f (atS fr b k/16) ((fr a).V&&(fr a).snd)) zs f N m
 refine Zhs (WV hwy hst) (QQ _ _) rfl rfl hr ?_ ?_ rfl rfl rfl rfl rfl ⟨Nat.le_refl _,Nat.le_refl _⟩
 ·simp only[inS,(qFS fr b hb).v,(qFS fr a ha).v,U6 fr a ha,XJ fr a ha,YQ fr a ha,Yb,z0,z1,z2,z3,b1,b2,u1,u2,tN,qT5.v,cond_true]; rfl
 ·simp only[inS,(qFS fr b hb).v,(qFS fr a ha).v,U6 fr a ha,XJ fr a ha,YQ fr a ha,Yb,z0,z1,z2,z3,b1,b2,u1,u2,tN,qT5.v,cond_true,kV,ZmK rfl]; repeat' (first|rfl|refine⟨?_,?_⟩)
end Go.Proofs.YtagacmljbgkmoaaGreatDoor
