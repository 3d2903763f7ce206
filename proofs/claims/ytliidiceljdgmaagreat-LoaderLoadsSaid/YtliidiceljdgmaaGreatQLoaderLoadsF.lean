/-
  LoaderLoads: the proof's last part: the statement holds, with no condition.
-/
import Derived.Below
import Derived.ChangeOld
import Derived.ChangeSame
import Derived.ChangeSlices
import Derived.Deep.Fields
import Derived.Deep.Slices
import Derived.Lib.SmallJoins
import Derived.OpenShut
import Derived.ProofKit
import Derived.ShutString
import Derived.Test.YtliidiceljdgmaaGreatQLoaderLoadsE
import Derived.Test.YtliidiceljdgmaaGreatRows
import Derived.WalkKit
set_option linter.unusedSimpArgs false
set_option linter.unusedVariables false
set_option linter.unusedSectionVars false
namespace Go.Proofs.YtliidiceljdgmaaGreat
open Go.IntKind (u8 u16 u32 u64 i64)
open Go.RowKit
open Sy
set_option maxRecDepth 100000
theorem Wp {q:Nat→Bool} (h4:q 69=true) (h5:q 70=true) (N m:Nat):∀ v∈([.slice (some ⟨69,0,none⟩) N (big+69),.slice (some ⟨70,0,none⟩) m (big+70)]:List Value),okV q 3 v=true:=by
 intro v hv
 simp only[rr, tt, List.mem_cons,List.not_mem_nil,or_false] at hv
 rcases hv with rfl|rfl<;>simp[okV,QP,h4,h5,ZP,big]
theorem Ku {q:Nat→Bool} (h:∀ l,l<72→q l=true) (zs:List UInt8) (f:Nat→Bool) (N m:Nat) {l:Sy.Heap} (hl:OkH q l):OkH q (Jf zs f N m++l) :=
 ⟨⟨h 71 (by omega),rfl,fun v hv=>ZM 3 v (Wp (h 69 (by omega)) (h 70 (by omega)) N m v hv)⟩,⟨h 70 (by omega),h 70 (by omega),Zv (Z8 f m)⟩,⟨h 69 (by omega),h 69 (by omega),Zv (Zp zs)⟩,hl⟩
theorem Wq {h1:Sy.Heap} {p:Nat→Bool} (hp:∀ l,l<72→p l=true) (zs:List UInt8) (f:Nat→Bool) (N m:Nat) (cs ws:List Value) {l:Sy.Heap} (h71:Sy.look h1 71=some ⟨true,none,[.slice (some ⟨69,0,none⟩) N (big+69),.slice (some ⟨70,0,none⟩) m (big+70)],none⟩)
  (h70:Sy.look h1 70=some ⟨true,some (70,1),ws,none⟩) (h69:Sy.look h1 69=some ⟨true,some (69,1),cs,none⟩) (hw:ws=bls f m) (hc:cs=u8s zs) (hl:Ya 3 p id h1 l):Ya 3 p id h1 (Jf zs f N m++l):=by
 refine⟨⟨hp 71 (by omega),List.all_eq_true.2 (Wp (hp 69 (by omega)) (hp 70 (by omega)) N m),rfl,?_⟩,⟨hp 70 (by omega),Zh (Z8 f m),hp 70 (by omega),?_⟩,⟨hp 69 (by omega),Zh (Zp zs),hp 69 (by omega),?_⟩,hl⟩
 ·simp only[rr, tt, id,h71]; exact⟨rfl,rfl,trivial,(Qr _ rfl _).symm⟩
 ·simp only[rr, tt, id,h70]; exact⟨rfl,rfl,trivial,by rw[Qr _ rfl,hw]⟩
 ·simp only[rr, tt, id,h69]; exact⟨rfl,rfl,trivial,by rw[Qr _ rfl,hc]⟩
theorem Zen {q:Nat→Bool} (h:∀ l,l<72→q l=true):∀ x∈rkE,okV q 3 x.2=true:=fun x hx=>by
 have h7:=h 67 (by omega)
 have h8:=h 68 (by omega)
 have h1:=h 71 (by omega)
 simp only[rr, tt, rkE,List.mem_cons,List.not_mem_nil,or_false] at hx
 rcases hx with rfl|rfl|rfl|rfl|rfl|rfl|rfl|rfl<;>simp[okV,QP,h7,h1,h8,ZP,big]
theorem Un {q:Nat→Bool} {a2:Option Addr} {n2 c2:Nat} (h:okV q 3 (.slice a2 n2 c2)=true) (h4:q 64=true) (h6:q 66=true) (p s t:Nat) (nc ns:Nat) (d:List UInt8):∀ v∈Zfm p s t nc ns d a2 n2 c2,okV q 3 v=true:=fun v hv=>by
 simp only[rr, tt, Zfm,List.mem_cons,List.not_mem_nil,or_false] at hv
 rcases hv with rfl|rfl|rfl|rfl|rfl|rfl|rfl
 all_goals first
  | exact h
  | simp[okV,QP,h4,h6,ZP,big]
theorem Zeo {q:Nat→Bool} {a2:Option Addr} {n2 c2:Nat} (em:U4 a2 n2 c2) (h:∀ l,l<72→q l=true) (p s t nc ns:Nat) (d:List UInt8) (c da ds sa ss ha hs:Nat) {g:Nat} (hg:g<72) {cs:List Value} (hc:∀ v∈cs,ZP v=true):OkH q (rkH p s t nc ns d a2 n2 c2 c da ds sa ss ha hs [(g,⟨false,some (0,0),cs,none⟩)]) :=
 ⟨⟨h 68 (by omega),rfl,Zv (XE c da ds sa ss ha hs)⟩,⟨h 67 (by omega),rfl,fun v hv=>ZM 3 v (Un (em _ 3 fun l hl=>h l (by omega)) (h 64 (by omega)) (h 66 (by omega)) _ _ _ _ _ _ v hv)⟩,⟨h g hg,h 0 (by omega),Zv hc⟩,trivial⟩
theorem Kv {h1:Sy.Heap} {q:Nat→Bool} {σ:Nat→Nat} {a2:Option Addr} {n2 c2:Nat} (em:U4 a2 n2 c2) (hq:∀ l,l<72→q l=true) (hs:∀ l,l<72→σ l=l) (p s t nc ns:Nat) (d:List UInt8) (c da ds sa ss ha hs':Nat) {g:Nat} (hg:g<72) {cs:List Value} (hc:∀ v∈cs,ZP v=true)
  (h68:Sy.look h1 68=some ⟨false,none,YQ c da ds sa ss ha hs',none⟩) (h67:Sy.look h1 67=some ⟨false,none,Zfm p s t nc ns d a2 n2 c2,none⟩) (h66:Sy.look h1 g=some ⟨false,some (0,0),cs,none⟩):Ya 3 q σ h1 (rkH p s t nc ns d a2 n2 c2 c da ds sa ss ha hs' [(g,⟨false,some (0,0),cs,none⟩)]):=by
 have hr:∀ l:List Value,(∀ w∈l,okV (fun l=>Nat.blt l 72) 3 w=true)→l.map (rnV σ 3)=l:=fun l hl=>by
  rw[List.map_congr_left (g:=id) (fun w hw=>WI (p:=fun l=>Nat.blt l 72) (fun l hl=>hs l (by simpa using hl)) 3 w (hl w hw))]
  simp
 refine⟨⟨hq 68 (by omega),Zh (XE c da ds sa ss ha hs'),rfl,?_⟩,⟨hq 67 (by omega),List.all_eq_true.2 (Un (em _ 3 fun l hl=>hq l (by omega)) (hq 64 (by omega)) (hq 66 (by omega)) _ _ _ _ _ _),rfl,?_⟩,⟨hq g hg,Zh hc,hq 0 (by omega),?_⟩,trivial⟩
 ·show match Sy.look h1 (σ 68) with|none=>False|some k1=>_
  rw[hs 68 (by omega),h68]
  exact⟨rfl,rfl,trivial,(Zi (XE c da ds sa ss ha hs')).symm⟩
 ·show match Sy.look h1 (σ 67) with|none=>False|some k1=>_
  rw[hs 67 (by omega),h67]
  exact⟨rfl,rfl,trivial,(hr _ (Un (em _ 3 fun l hl=>by show Nat.blt l 72=true; exact Zt (by omega)) rfl rfl _ _ _ _ _ _)).symm⟩
 ·show match Sy.look h1 (σ g) with|none=>False|some k1=>_
  rw[hs g hg,h66]
  refine⟨rfl,?_,trivial,(Zi hc).symm⟩
  show(opB (some (0,0)) (some (σ 0,0))||_)=true
  rw[hs 0 (by omega)]; rfl
def rkF (zs:List UInt8) (f:Nat→Bool) (N m:Nat):Sf:=⟨72,rkE,Jf zs f N m,[(70,m),(69,N)]⟩
theorem Zcl (zs:List UInt8) (f:Nat→Bool) (N m:Nat):(rkF zs f N m).Ok (Z3 72 72 id (fun l=>Nat.blt l 72)) :=
 Sf.Ok.mk' 3 (by have:=Ku (UU 72) zs f N m (l:=[]) trivial; rwa [List.append_nil] at this) rfl (fun x hx=>Zen (UU 72) x hx)
theorem Zhx {v:Value} {j:Nat} (hv:∀ q,okV q 3 v=true) {q:Nat→Bool} (h:∀ l,l<72→q l=true):∀ x∈rkE++[(j,v)],okV q 3 x.2=true:=fun x hx=>by
 rw[List.mem_append] at hx
 rcases hx with hx|hx
 ·exact Zen h x hx
 ·obtain rfl:=List.mem_singleton.1 hx; exact hv q
theorem ZnO (p s t ns:Nat) (d:List UInt8) {a2:Option Addr} {n2 c2:Nat} (em:U4 a2 n2 c2) (cs:List Nat) (zs:List UInt8) (f:Nat→Bool) (N m:Nat) (c da ds sa ss ha hs k:Nat):(rk0 p s t ns d a2 n2 c2 cs zs f N m c da ds sa ss ha hs k).Wf :=
 ⟨by show 64≤72; omega,Sf.Ok.mk' 3 (Ku (ltZ 72) zs f N m (Zeo em (ltZ 72) _ _ _ _ _ _ _ _ _ _ _ _ _ (by omega) (Zg cs))) rfl (Zhx (fun _=>rfl) (ltZ 72))⟩
theorem ZnP (p s t nc ns:Nat) (d:List UInt8) (rs:List Rl) (zs:List UInt8) (f:Nat→Bool) (N m:Nat) (c da ds sa ss ha hs k:Nat):(rk1 p s t nc ns d rs zs f N m c da ds sa ss ha hs k).Wf :=
 ⟨by show 64≤72; omega,Sf.Ok.mk' 3 (Ku (ltZ 72) zs f N m (Zeo (VR _) (ltZ 72) _ _ _ _ _ _ _ _ _ _ _ _ _ (by omega) (ZC rs))) rfl (Zhx (fun _=>rfl) (ltZ 72))⟩
theorem Zje (p s t ns:Nat) (d:List UInt8) {a2:Option Addr} {n2 c2:Nat} (em:U4 a2 n2 c2) (cs:List Nat) (zs:List UInt8) (N m:Nat) (c da ds sa ss ha hs:Nat) (h:ArK zs N m) (hc:∀ x∈cs,x<4294967296) (hl:cs.length≤4096) (hN:4*cs.length≤N) :
  ∀ k:{ k:Nat // k≤cs.length },Qj Tryz.prog 119 (ZB Tryz.prog 5 0) ((rk0 p s t ns d a2 n2 c2 cs (ZR cs k.1 zs) (fun _=>false) N m c da ds sa ss ha hs k.1).fr 119) (.exit 0) ((rkF (ZR cs cs.length zs) (fun _=>false) N m).fr 119):=by
 refine Kt (L:=100) (ZU _ _ 5) (fun _ h=>h) (X:={ k:Nat // k≤cs.length }) (fun k=>rk0 p s t ns d a2 n2 c2 cs (ZR cs k.1 zs) (fun _=>false) N m c da ds sa ss ha hs k.1) (fun _=>rkF (ZR cs cs.length zs) (fun _=>false) N m) (fun _ => .exit 0) (fun k=>cs.length-k.1) (fun k=>ZnO _ _ _ _ _ em _ _ _ _ _ _ _ _ _ _ _ _ _) ?_
 rintro⟨k,hk⟩
 have hzl:(ZR cs k zs).length=N:=by rw[YA _ _ _ (by rw[h.len]; omega),h.len]
 have f1:∀ (zs:List UInt8) (p:Nat→Bool),(u8s zs).all (okV p 3)=true:=fun zs p=>Zh (Zp _)
 have f2:∀ (zs:List UInt8) (σ:Nat→Nat),(u8s zs).map (rnV σ 3)=u8s zs:=fun zs σ=>Zi (Zp _)
 have f3:∀ (f:Nat→Bool) (p:Nat→Bool),(bls f m).all (okV p 3)=true:=fun f p=>Zh (Z8 f m)
 have f4:∀ (f:Nat→Bool) (σ:Nat→Nat),(bls f m).map (rnV σ 3)=bls f m:=fun f σ=>Zi (Z8 f m)
 by_cases hlt:k<cs.length
 ·have hx:cs.getD k 0<4294967296:=by
   rw[List.getD_eq_getElem?_getD,List.getElem?_eq_getElem hlt]; exact hc _ (List.getElem_mem hlt)
  have hcon:=Zlc (4*k) (cs.getD k 0) (ZR cs k zs) (fun _=>false) N m ⟨hzl,h.tags,h.big,h.big2⟩ hx (by omega) (fun _ _=>rfl)
  have hr:=ZpF p s t ns d a2 n2 c2 cs (ZR cs k zs) (fun _=>false) N m c da ds sa ss ha hs k (4*k) (cs.getD k 0)
  have e1:u32.wrap (k:Int)=(k:Int):=YR k (by omega)
  have e2:u32.wrap ((4:Int)*(k:Int))=((4*k:Nat):Int):=by rw[show(4:Int)*(k:Int)=((4*k:Nat):Int) by omega,YR _ (by omega)]
  have e3:u32.wrap ((0:Int)+((4*k:Nat):Int))=((4*k:Nat):Int):=by rw[Int.zero_add,YR _ (by omega)]
  have e4:i64.wrap ((k:Int)+(1:Int))=((k+1:Nat):Int):=ZQ k (by omega)
  simp only[rr, tt, e1,e2,e3,e4,Int.toNat_natCast,Nat.zero_add,Nat.mul_one,Yn] at hr
  refine⟨_,_,_,_,.normal,_,3,fun l=>Nat.blt l 72,id,Zu (L:=100) Zn (Qe (ZW fun x hx=>by
   obtain rfl:=List.mem_singleton.1 hx; exact hcon) (Zx _)) (Zj _) 20,hr,?_,.inl ⟨rfl,⟨k+1,by omega⟩,by show cs.length-(k+1)<cs.length-k; omega,rfl,rfl,rfl,?_⟩⟩
  ·simp(disch:=omega) only[rr, tt, Zcd,Qd,f1,f2,f3,f4,decide_eq_true,decide_eq_false,Bool.and_self,cond_true,and_true,true_and,and_self,Nat.le_refl]
  ·exact⟨fun _ _=>rfl,Wq (ltZ 72) _ _ N m _ _ rfl rfl rfl rfl rfl (Kv em (ltZ 72) (fun _ _=>rfl) _ _ _ _ _ _ _ _ _ _ _ _ _ (by omega) (Zg cs) rfl rfl rfl),rfl,⟨⟨rfl,Nat.le_refl _⟩,⟨rfl,Nat.le_refl _⟩,trivial⟩,by repeat' (first|exact trivial|refine⟨⟨by kernel_rfl,by kernel_rfl⟩,?_⟩),Nat.le_refl _,fun l hl=>ZN hl,Zcl _ _ N m,fun x _ _ => .inl rfl⟩
 ·have hkk:k=cs.length:=by omega
  subst hkk
  have hr:=ZpG p s t ns d a2 n2 c2 cs (ZR cs cs.length zs) (fun _=>false) N m c da ds sa ss ha hs cs.length
  refine⟨_,_,_,_,.exit 0,_,3,fun l=>Nat.blt l 72,id,Zu (L:=100) Zn (Zx _) (Zj _) 20,hr,?_,.inr ⟨by simp,rfl,rfl,?_⟩⟩
  ·exact⟨trivial,decide_eq_false (by omega)⟩
  ·have hs:=Wq (l:=[]) (ltZ 72) (ZR cs cs.length zs) (fun _=>false) N m _ _ (by rfl) (by rfl) (by rfl) rfl rfl trivial (h1:=Jf (ZR cs cs.length zs) (fun _=>false) N m)
   rw[List.append_nil] at hs
   exact⟨fun _ _=>rfl,hs,rfl,⟨⟨rfl,Nat.le_refl _⟩,⟨rfl,Nat.le_refl _⟩,trivial⟩,by repeat' (first|exact trivial|refine⟨⟨by kernel_rfl,by kernel_rfl⟩,?_⟩),Nat.le_refl _,fun l hl=>ZN hl,Zcl _ _ N m,fun x _ _ => .inl rfl⟩
def Zka (p s t ns:Nat) (d:List UInt8) {a2:Option Addr} {n2 c2:Nat} (em:U4 a2 n2 c2) (cs:List Nat) (zs:List UInt8) (N m:Nat) (c da ds sa ss ha hs:Nat) (h:ArK zs N m) (hc:∀ x∈cs,x<4294967296) (hl:cs.length≤4096) (hN:4*cs.length≤N):Ent Tryz.prog :=
 Vl Tryz.prog 5 0 119 (rk0 p s t ns d a2 n2 c2 cs zs (fun _=>false) N m c da ds sa ss ha hs 0) (.exit 0) (rkF (ZR cs cs.length zs) (fun _=>false) N m) (by kernel_rfl) (by kernel_rfl) (Zje p s t ns d em cs zs N m c da ds sa ss ha hs h hc hl hN ⟨0,Nat.zero_le _⟩)
theorem ZnQ {da:Nat} {r:Rl} (b0:r.at_<4294967296) (b1:r.off<4294967296) (b2:r.size<4294967296) (b3:r.perms<65536) (b4:r.typ<65536) (h3:da<500000):CpB (Yq da r).a (Yq da r).e (Yq da r).b (Yq da r).t (Yq da r).p (Yq da r).y 0:=by
 have q1:=ZgJ (bif r.code then r.off else(da+r.off)%4294967296) r.size r.perms
 have q2:=ZgI (bif r.code then r.off else(da+r.off)%4294967296) r.size r.perms
 refine⟨?_,ZgF _ _ _,ZgG _ _ _,ZgH _ _ _,?_,b4,by omega⟩
 ·show mA _ _ _<_
  cases hc:r.code<;>rw[hc] at q1<;>simp only[rr, tt, cond_true,cond_false] at q1 ⊢ <;> omega
 ·show mP _ _ _<_
  omega
theorem Zjf (p s t nc ns:Nat) (d:List UInt8) (rs:List Rl) (zs:List UInt8) (N m:Nat) (c da ds sa ss ha hs:Nat) (h:ArK zs N m) (hr:∀ r∈rs,RlFit da N r) (hT:∀ k,k<rs.length→rlT da rs k ((da+(rl0 rs k).at_)/16)=false) (hl:rs.length≤256) (h3:da<500000) :
  ∀ k:{ k:Nat // k≤rs.length },Qj Tryz.prog 119 (ZB Tryz.prog 5 1) ((rk1 p s t nc ns d rs (X9 da rs zs k.1) (rlT da rs k.1) N m c da ds sa ss ha hs k.1).fr 119) (.exit 2) ((rkF (X9 da rs zs rs.length) (rlT da rs rs.length) N m).fr 119):=by
 refine Kt (L:=100) (ZU _ _ 5) (fun _ h=>h) (X:={ k:Nat // k≤rs.length }) (fun k=>rk1 p s t nc ns d rs (X9 da rs zs k.1) (rlT da rs k.1) N m c da ds sa ss ha hs k.1) (fun _=>rkF (X9 da rs zs rs.length) (rlT da rs rs.length) N m) (fun _ => .exit 2) (fun k=>rs.length-k.1) (fun k=>ZnP _ _ _ _ _ _ _ _ _ _ _ _ _ _ _ _ _ _ _) ?_
 rintro⟨k,hk⟩
 have hzl:(X9 da rs zs k).length=N:=Jt da rs zs N h.len hr k hk
 have f1:∀ (zs:List UInt8) (p:Nat→Bool),(u8s zs).all (okV p 3)=true:=fun zs p=>Zh (Zp _)
 have f2:∀ (zs:List UInt8) (σ:Nat→Nat),(u8s zs).map (rnV σ 3)=u8s zs:=fun zs σ=>Zi (Zp _)
 have f3:∀ (f:Nat→Bool) (p:Nat→Bool),(bls f m).all (okV p 3)=true:=fun f p=>Zh (Z8 f m)
 have f4:∀ (f:Nat→Bool) (σ:Nat→Nat),(bls f m).map (rnV σ 3)=bls f m:=fun f σ=>Zi (Z8 f m)
 by_cases hlt:k<rs.length
 ·have hx:RlFit da N (rl0 rs k):=by
   unfold rl0
   rw[List.getD_eq_getElem?_getD,List.getElem?_eq_getElem hlt]
   exact hr _ (List.getElem_mem hlt)
  have b0:=hx.ok.at_; have b1:=hx.ok.off; have b2:=hx.ok.size; have b3:=hx.ok.perms; have b4:=hx.ok.typ; have b5:=hx.fit; have b6:=h.big2
  have g0:=K0 hlt
  have g1:=Ue hlt
  have g2:=Uf hlt
  have g3:=Ug hlt
  have g4:=Uh hlt
  have g5:=Ui hlt
  have e5:i64.wrap ((k:Int)+(1:Int))=((k+1:Nat):Int):=ZQ k (by omega)
  have e7:u32.wrap ((da:Int)+((rl0 rs k).at_:Int))=((da+(rl0 rs k).at_:Nat):Int):=by rw[ZaI,YR _ (by omega)]
  have k1:=XD hlt 0 0 0 0 0 false
  have k2:=UY hlt 0
  have k3:Qc (k*6+6) (rels rs)=true:=by rw[YZ]; exact decide_eq_true (by omega)
  have k4:Qc (k*6+1) (rels rs)=true:=by rw[YZ]; exact decide_eq_true (by omega)
  have c0:decide ((0:Int)≤(k:Int))=true:=decide_eq_true (by omega)
  have c1:decide ((k:Int)<(rs.length:Int))=true:=decide_eq_true (by omega)
  have hcp:CpB (Yq da (rl0 rs k)).a (Yq da (rl0 rs k)).e (Yq da (rl0 rs k)).b (Yq da (rl0 rs k)).t (Yq da (rl0 rs k)).p (Yq da (rl0 rs k)).y 0:=ZnQ b0 b1 b2 b3 b4 h3
  have hcon:=Zld (da+(rl0 rs k).at_) _ _ _ _ _ _ (X9 da rs zs k) (rlT da rs k) N m ⟨hzl,h.tags,h.big,h.big2⟩ hcp hx.snd hx.al hx.fit (hT k hlt)
  have hbase:=Zu (L:=100) Zn (Qe (ZW (L:=[(78,20,ZmV (da+(rl0 rs k).at_) _ _ _ _ _ _ (X9 da rs zs k) (rlT da rs k) N m,[69,70,71])]) fun x hx=>by
   obtain rfl:=List.mem_singleton.1 hx; exact hcon) (Z1 Zbg)) (Zj _) 20
  have hv:=hx.v
  cases hcode:(rl0 rs k).code
  ·have hca:Yq da (rl0 rs k)=Jc ((da+(rl0 rs k).off)%4294967296) (rl0 rs k).size (rl0 rs k).perms (rl0 rs k).typ:=by unfold Yq; rw[hcode]; rfl
   have e9:u32.wrap ((da:Int)+((rl0 rs k).off:Int))=(((da+(rl0 rs k).off)%4294967296:Nat):Int):=by rw[IntKind.wrap_u32]; omega
   have hv':mV ((da+(rl0 rs k).off)%4294967296) (rl0 rs k).size (rl0 rs k).perms=true:=by rw[hca] at hv; exact hv
   have hr:=ZpH p s t nc ns d rs (X9 da rs zs k) (rlT da rs k) N m c da ds sa ss ha hs k (da+(rl0 rs k).at_) (Yq da (rl0 rs k)).a (Yq da (rl0 rs k)).e (Yq da (rl0 rs k)).b (Yq da (rl0 rs k)).t (Yq da (rl0 rs k)).p (Yq da (rl0 rs k)).y
   simp only[rr, tt, Nat.zero_add,Nat.add_zero,Nat.add_assoc,Nat.reduceAdd,Int.toNat_natCast,g0,g1,g2,g3,g4,g5,e5,e7,e9,f2,f4] at hr
   refine⟨_,_,_,_,.normal,_,3,fun l=>Nat.blt l 72,id,hbase,hr,?_,.inl ⟨rfl,⟨k+1,by omega⟩,by show rs.length-(k+1)<rs.length-k; omega,rfl,rfl,rfl,?_⟩⟩
   ·simp only[rr, tt, k1,k2,k3,k4,c0,c1,f1,f2,f3,f4,hca,Jc,hcode,hv',Bool.and_self,cond_true,and_true,true_and,and_self,Nat.le_refl]
    refine⟨?_,?_,?_,?_,?_⟩<;>omega
   ·exact⟨fun _ _=>rfl,Wq (ltZ 72) _ _ N m _ _ rfl rfl rfl rfl rfl (Kv (VR _) (ltZ 72) (fun _ _=>rfl) _ _ _ _ _ _ _ _ _ _ _ _ _ (by omega) (ZC rs) rfl rfl rfl),rfl,⟨⟨rfl,Nat.le_refl _⟩,⟨rfl,Nat.le_refl _⟩,trivial⟩,by repeat' (first|exact trivial|refine⟨⟨by kernel_rfl,by kernel_rfl⟩,?_⟩),Nat.le_refl _,fun l hl=>ZN hl,Zcl _ _ N m,fun x _ _ => .inl rfl⟩
  ·have hca:Yq da (rl0 rs k)=Jc (rl0 rs k).off (rl0 rs k).size (rl0 rs k).perms (rl0 rs k).typ:=by unfold Yq; rw[hcode]; rfl
   have e9:u32.wrap ((0:Int)+((rl0 rs k).off:Int))=(((rl0 rs k).off:Nat):Int):=by rw[Int.zero_add,YR _ b1]
   have hv':mV (rl0 rs k).off (rl0 rs k).size (rl0 rs k).perms=true:=by rw[hca] at hv; exact hv
   have hr:=ZpI p s t nc ns d rs (X9 da rs zs k) (rlT da rs k) N m c da ds sa ss ha hs k (da+(rl0 rs k).at_) (Yq da (rl0 rs k)).a (Yq da (rl0 rs k)).e (Yq da (rl0 rs k)).b (Yq da (rl0 rs k)).t (Yq da (rl0 rs k)).p (Yq da (rl0 rs k)).y
   simp only[rr, tt, Nat.zero_add,Nat.add_zero,Nat.add_assoc,Nat.reduceAdd,Int.toNat_natCast,g0,g1,g2,g3,g4,g5,e5,e7,e9,f2,f4] at hr
   refine⟨_,_,_,_,.normal,_,3,fun l=>Nat.blt l 72,id,hbase,hr,?_,.inl ⟨rfl,⟨k+1,by omega⟩,by show rs.length-(k+1)<rs.length-k; omega,rfl,rfl,rfl,?_⟩⟩
   ·simp only[rr, tt, k1,k2,k3,k4,c0,c1,f1,f2,f3,f4,hca,Jc,hcode,hv',Bool.and_self,cond_true,and_true,true_and,and_self,Nat.le_refl]
    refine⟨?_,?_,?_,?_,?_⟩<;>omega
   ·exact⟨fun _ _=>rfl,Wq (ltZ 72) _ _ N m _ _ rfl rfl rfl rfl rfl (Kv (VR _) (ltZ 72) (fun _ _=>rfl) _ _ _ _ _ _ _ _ _ _ _ _ _ (by omega) (ZC rs) rfl rfl rfl),rfl,⟨⟨rfl,Nat.le_refl _⟩,⟨rfl,Nat.le_refl _⟩,trivial⟩,by repeat' (first|exact trivial|refine⟨⟨by kernel_rfl,by kernel_rfl⟩,?_⟩),Nat.le_refl _,fun l hl=>ZN hl,Zcl _ _ N m,fun x _ _ => .inl rfl⟩
 ·have hkk:k=rs.length:=by omega
  subst hkk
  have hr:=ZpJ p s t nc ns d rs (X9 da rs zs rs.length) (rlT da rs rs.length) N m c da ds sa ss ha hs rs.length
  refine⟨_,_,_,_,.exit 2,_,3,fun l=>Nat.blt l 72,id,Zu (L:=100) Zn (Zx _) (Zj _) 20,hr,?_,.inr ⟨by simp,rfl,rfl,?_⟩⟩
  ·exact⟨trivial,decide_eq_false (by omega)⟩
  ·have hs:=Wq (l:=[]) (ltZ 72) (X9 da rs zs rs.length) (rlT da rs rs.length) N m _ _ (by rfl) (by rfl) (by rfl) rfl rfl trivial (h1:=Jf (X9 da rs zs rs.length) (rlT da rs rs.length) N m)
   rw[List.append_nil] at hs
   exact⟨fun _ _=>rfl,hs,rfl,⟨⟨rfl,Nat.le_refl _⟩,⟨rfl,Nat.le_refl _⟩,trivial⟩,by repeat' (first|exact trivial|refine⟨⟨by kernel_rfl,by kernel_rfl⟩,?_⟩),Nat.le_refl _,fun l hl=>ZN hl,Zcl _ _ N m,fun x _ _ => .inl rfl⟩
def ZnR (p s t nc ns:Nat) (d:List UInt8) (rs:List Rl) (zs:List UInt8) (N m:Nat) (c da ds sa ss ha hs:Nat) (h:ArK zs N m) (hr:∀ r∈rs,RlFit da N r) (hT:∀ k,k<rs.length→rlT da rs k ((da+(rl0 rs k).at_)/16)=false) (hl:rs.length≤256) (h3:da<500000):Ent Tryz.prog :=
 Vl Tryz.prog 5 1 119 (rk1 p s t nc ns d rs zs (fun _=>false) N m c da ds sa ss ha hs 0) (.exit 2) (rkF (X9 da rs zs rs.length) (rlT da rs rs.length) N m) (by kernel_rfl) (by kernel_rfl) (Zjf p s t nc ns d rs zs N m c da ds sa ss ha hs h hr hT hl h3 ⟨0,Nat.zero_le _⟩)
theorem ZnS (c da ds sa s t:Nat) (so:List Nat) (k:Nat) (hk:k<4) (hso:so.getD k 0≤4096) (hsa:sa<500000) (hs':s≤4096):rfC c da ds sa s t so k=frC c da ds sa s t so k:=by
 have hks:k*s≤4*4096:=Nat.mul_le_mul (by omega) hs'
 have e1:rfW so k=((4*so.getD k 0:Nat):Int):=by
  show u32.wrap ((4:Int)*Zb (Zd undef (Zk so) (0+(k:Int).toNat*1)))=_
  rw[Int.toNat_natCast,Nat.zero_add,Nat.mul_one,Yn,show(4:Int)*((so.getD k 0:Nat):Int)=((4*so.getD k 0:Nat):Int) by omega,YR _ (by omega)]
 have e2:rfK k s sa=sa+k*s:=by
  show(u32.wrap ((sa:Int)+u32.wrap (u32.wrap (k:Int)*u32.wrap (s:Int)))).toNat=_
  rw[YR k (by omega),YR s (by omega),show(k:Int)*(s:Int)=((k*s:Nat):Int) from(Int.natCast_mul k s).symm,YR _ (by omega),show(sa:Int)+((k*s:Nat):Int)=((sa+k*s:Nat):Int) by omega,YR _ (by omega),Int.toNat_natCast]
 have e3:(u32.wrap (s:Int)).toNat=s:=by rw[YR s (by omega),Int.toNat_natCast]
 unfold rfC frC pc8
 rw[e1,e2,e3,Int.toNat_natCast]
theorem Zkb {l:Nat} (h:l<72):Nat.blt l 73=true:=Zt (by omega)
def ZpN (p s t:Nat) (nc:Nat) (d:List UInt8) (a2:Option Addr) (n2 c2:Nat) (c da ds sa ss ha hs:Nat) (so:List Nat):Nat→Sf
 | 0=>ZpD p s t nc d a2 n2 c2 c da ds sa ss ha hs so 0
 | k+1=>ZpE p s t nc d a2 n2 c2 c da ds sa ss ha hs so (frL c da ds sa s t so (k+1)) (k+1)
def ZnT (c da ds sa s t:Nat) (so:List Nat):Sf:=⟨74,rkE++[(11,.slice (some ⟨73,0,none⟩) so.length (big+73))],[(73,⟨true,some (73,136),frL c da ds sa s t so so.length,none⟩)],[(73,so.length)]⟩
theorem Zhy {v w:Value} {i j:Nat} {q:Nat→Bool} (hv:okV q 3 v=true) (hw:okV q 3 w=true) (h:∀ l,l<72→q l=true):∀ x∈rkE++[(i,v),(j,w)],okV q 3 x.2=true:=fun x hx=>by
 rw[List.mem_append] at hx
 rcases hx with hx|hx
 ·exact Zen h x hx
 ·simp only[rr, tt, List.mem_cons,List.not_mem_nil,or_false] at hx
  rcases hx with rfl|rfl
  ·exact hv
  ·exact hw
theorem Zdj (c da ds sa s t:Nat) (so:List Nat) (a:Nat) (ha:a=72∨a=73) (σ:Nat→Nat) (p:Nat→Bool) (hs:∀ l,l<72→σ l=l) (hp:∀ l,l<72→p l=true):(ZnT c da ds sa s t so).Ok (Z3 a 74 σ p):=by
 have hlow:∀ l,l<72→Z3 a 74 σ p l=true:=fun l hl=>by
  unfold Z3
  rw[Zt (by omega:l<a),hs l hl,hp l hl,Nat.beq_refl]
  cases Nat.blt l NG<;>rfl
 have hq:Z3 a 74 σ p 73=true:=by
  unfold Z3
  rw[ZN (by omega:a≤73)]; rfl
 refine Sf.Ok.mk' 3 ⟨⟨hq,hq,Zv (Xl _ _ _ _ _ _ _ _)⟩,trivial⟩ (by show(Z3 a 74 σ p 73&&true)=true; rw[hq]; rfl) (fun x hx => ?_)
 rw[show(ZnT c da ds sa s t so).e=rkE++[(11,.slice (some ⟨73,0,none⟩) so.length (big+73))] from rfl,List.mem_append] at hx
 rcases hx with hx|hx
 ·exact Zen hlow x hx
 ·obtain rfl:=List.mem_singleton.1 hx
  simp[okV,QP,hq,ZP,big]
theorem Zl4 (p s t:Nat) (nc:Nat) (d:List UInt8) {a2:Option Addr} {n2 c2:Nat} (em:U4 a2 n2 c2) (c da ds sa ss ha hs:Nat) (so:List Nat) (k:Nat):(ZpN p s t nc d a2 n2 c2 c da ds sa ss ha hs so k).Wf:=by
 cases k with
 | zero=>exact⟨by show 64≤72; omega,Sf.Ok.mk' 3 (Zeo em (ltZ 72) _ _ _ _ _ _ _ _ _ _ _ _ _ (by omega) (Zg so)) rfl (Zhy rfl rfl (ltZ 72))⟩
 | succ k=>exact⟨by show 64≤73; omega,Sf.Ok.mk' 3 ⟨⟨rfl,rfl,Zv (Xl _ _ _ _ _ _ _ _)⟩,Zeo em (fun l hl=>Zkb hl) _ _ _ _ _ _ _ _ _ _ _ _ _ (by omega) (Zg so)⟩ rfl (Zhy rfl rfl (fun l hl=>Zkb hl))⟩
theorem Zjg (p s t:Nat) (nc:Nat) (d:List UInt8) {a2:Option Addr} {n2 c2:Nat} (em:U4 a2 n2 c2) (c da ds sa ss ha hs:Nat) (so:List Nat) (h1:1≤so.length) (h4:so.length≤4) (hso:∀ x∈so,x<4096) (hc:c<500000) (hda:da<500000) (hds:ds<500000) (hsa:sa<500000) (hs2:s≤4096) (ht:t≤2048) :
  ∀ k:{ k:Nat // k≤so.length },Qj Tryz.prog 119 (ZB Tryz.prog 5 2) ((ZpN p s t nc d a2 n2 c2 c da ds sa ss ha hs so k.1).fr 119) (.exit 4) ((ZnT c da ds sa s t so).fr 119):=by
 refine Kt (L:=100) (ZU _ _ 5) (fun _ h=>h) (X:={ k:Nat // k≤so.length }) (fun k=>ZpN p s t nc d a2 n2 c2 c da ds sa ss ha hs so k.1) (fun _=>ZnT c da ds sa s t so) (fun _ => .exit 4) (fun k=>so.length-k.1) (fun k=>Zl4 _ _ _ _ _ em _ _ _ _ _ _ _ _ _) ?_
 rintro⟨k,hk⟩
 by_cases hlt:k<so.length
 ·have hx:so.getD k 0<4096:=by
   rw[List.getD_eq_getElem?_getD,List.getElem?_eq_getElem hlt]; exact hso _ (List.getElem_mem hlt)
  have hcon:∀ X:Nat,∀ x∈Zor X p s t nc so.length d a2 n2 c2 c da ds sa ss ha hs,ConOk Tryz.prog x.2.1 3 x.2.2.1∧FlatC x.2.2.1:=fun X x hx=>by
   simp only[rr, tt, Zor,List.mem_cons,List.not_mem_nil,or_false] at hx
   rcases hx with rfl|rfl
   ·exact Zl1 c da ds sa ss ha hs hda hds
   ·exact Zl2 p s t nc so.length d a2 n2 c2 em ht
  have hb:=fun X=>Zu (L:=100) Zn (Qe (ZW (hcon X)) (Z1 Zbg)) (Zj _) 20
  have e1:Zb (Zd undef (Zk so) k)=((so.getD k 0:Nat):Int):=Yn so k
  have e2:u32.wrap ((4:Int)*((so.getD k 0:Nat):Int))=((4*so.getD k 0:Nat):Int):=by rw[show(4:Int)*((so.getD k 0:Nat):Int)=((4*so.getD k 0:Nat):Int) by omega,YR _ (by omega)]
  have e3:u32.wrap (k:Int)=(k:Int):=YR k (by omega)
  have e4:u32.wrap (s:Int)=(s:Int):=YR s (by omega)
  have hks:k*s≤4*4096:=Nat.mul_le_mul (by omega) hs2
  have e5:u32.wrap ((k:Int)*(s:Int))=((k*s:Nat):Int):=by rw[show(k:Int)*(s:Int)=((k*s:Nat):Int) from(Int.natCast_mul k s).symm,YR _ (by omega)]
  have e6:u32.wrap ((sa:Int)+((k*s:Nat):Int))=((sa+k*s:Nat):Int):=by rw[show(sa:Int)+((k*s:Nat):Int)=((sa+k*s:Nat):Int) by omega,YR _ (by omega)]
  have e8:i64.wrap ((k:Int)+(1:Int))=((k+1:Nat):Int):=ZQ k (by omega)
  have hcast:∀ n:Nat,((n:Nat):Int).toNat=n:=fun n=>Int.toNat_natCast n
  have b1:=ZgF 0 c 5
  have b2:=ZgG 0 c 5
  have b3:=ZgH 0 c 5
  have b4:=ZgI 0 c 5
  have b5:=ZgJ 0 c 5
  have hf:=ZnS c da ds sa s t so k (by omega) (by omega) hsa hs2
  cases k with
  | zero =>
   have hr:=ZpK p s t nc d a2 n2 c2 c da ds sa ss ha hs so 0
   simp only[rr, tt, hf,hcast,Nat.zero_add,Nat.mul_one,e1,e2,e3,e4,e5,e6,e8] at hr
   refine⟨_,_,_,_,.normal,_,3,fun l=>Nat.blt l 73,toσ 72 85,hb 78,hr,?_,.inl ⟨rfl,⟨1,by omega⟩,by show so.length-1<so.length-0; omega,rfl,rfl,rfl,?_⟩⟩
   ·simp(disch:=omega) only[rr, tt, Yf,Qd,Zfh em,decide_eq_true,decide_eq_false,Bool.and_self,cond_true,and_true,true_and,and_self,Nat.le_refl]
    repeat' (with_reducible apply And.intro)
    all_goals omega
   ·refine⟨fun l hl=>if_neg (by have:NG=64:=rfl; omega),⟨⟨rfl,Zh (Xl _ _ _ _ _ _ _ _),rfl,?_⟩,Kv em (fun l hl=>Zkb hl) (fun l hl=>if_neg (by omega)) _ _ _ _ _ _ _ _ _ _ _ _ _ (by omega) (Zg so) rfl rfl rfl⟩,rfl,⟨⟨rfl,Nat.le_refl _⟩,trivial⟩,by repeat' (first|exact trivial|refine⟨⟨by kernel_rfl,by kernel_rfl⟩,?_⟩),by show 72≤73; omega,fun l hl=>ZN hl,Zdj _ _ _ _ _ _ _ 72 (.inl rfl) _ _ (fun l hl=>if_neg (by omega)) (fun l hl=>Zkb hl),fun y hy hrw => ?_⟩
    ·exact⟨rfl,rfl,trivial,by rw[Zi (Xl _ _ _ _ _ _ _ _)]; rfl⟩
    ·rcases List.mem_cons.1 hy with rfl|hy
     ·cases hrw
     ·simp only[rr, tt, rkH,List.mem_cons,List.not_mem_nil,or_false] at hy
      rcases hy with rfl|rfl|rfl<;>exact .inl rfl
  | succ k =>
   have hr:=ZpL p s t nc d a2 n2 c2 c da ds sa ss ha hs so (frL c da ds sa s t so (k+1)) (k+1)
   simp only[rr, tt, hf,hcast,Nat.zero_add,Nat.mul_one,e1,e2,e3,e4,e5,e6,e8] at hr
   refine⟨_,_,_,_,.normal,_,3,fun l=>Nat.blt l 73,toσ 72 86,hb 79,hr,?_,.inl ⟨rfl,⟨k+2,by omega⟩,by show so.length-(k+2)<so.length-(k+1); omega,rfl,rfl,rfl,?_⟩⟩
   ·show cond _ _ _
    rw[Zq,Zhs,Nat.beq_refl]
    show cond _ _ _
    rw[Nat.ble_eq_true_of_le (by omega),Zt (by omega)]
    simp(disch:=omega) only[rr, tt, Yf,Qd,Zfh em,decide_eq_true,decide_eq_false,Bool.and_self,cond_true,and_true,true_and,and_self,Nat.le_refl]
    repeat' (with_reducible apply And.intro)
    all_goals omega
   ·refine⟨fun l hl=>if_neg (by have:NG=64:=rfl; omega),⟨⟨rfl,Zh (Xl _ _ _ _ _ _ _ _),rfl,?_⟩,Kv em (fun l hl=>Zkb hl) (fun l hl=>if_neg (by omega)) _ _ _ _ _ _ _ _ _ _ _ _ _ (by omega) (Zg so) rfl rfl rfl⟩,rfl,⟨⟨rfl,Nat.le_refl _⟩,trivial⟩,by repeat' (first|exact trivial|refine⟨⟨by kernel_rfl,by kernel_rfl⟩,?_⟩),by show 73≤73; omega,fun l hl=>ZN hl,Zdj _ _ _ _ _ _ _ 73 (.inr rfl) _ _ (fun l hl=>if_neg (by omega)) (fun l hl=>Zkb hl),fun y hy hrw => ?_⟩
    ·exact⟨rfl,rfl,trivial,by rw[Zi (Xl _ _ _ _ _ _ _ _)]; rfl⟩
    ·rcases List.mem_cons.1 hy with rfl|hy
     ·cases hrw
     ·simp only[rr, tt, rkH,List.mem_cons,List.not_mem_nil,or_false] at hy
      rcases hy with rfl|rfl|rfl<;>exact .inl rfl
 ·have hkk:k=so.length:=by omega
  obtain⟨j,rfl⟩:∃ j,k=j+1:=⟨k-1,by omega⟩
  have hr:=ZpM p s t nc d a2 n2 c2 c da ds sa ss ha hs so (frL c da ds sa s t so (j+1)) (j+1)
  have e3:Value.slice (some ⟨72,0,none⟩) (j+1) (big+72)=rnV (toσ 73 72) 3 (.slice (some ⟨73,0,none⟩) so.length (big+73)):=by
   rw[hkk]; kernel_rfl
  refine⟨_,_,_,_,.exit 4,_,3,fun l=>Nat.blt l 74,toσ 73 72,Zu (L:=100) Zn (Zx _) (Zj _) 20,hr,?_,.inr ⟨by simp,rfl,rfl,?_⟩⟩
  ·exact⟨trivial,decide_eq_false (by omega)⟩
  ·refine⟨fun l hl=>if_neg (by have:NG=64:=rfl; omega),⟨⟨rfl,Zh (Xl _ _ _ _ _ _ _ _),rfl,?_⟩,trivial⟩,rfl,⟨⟨rfl,?_⟩,trivial⟩,?_,by show 73≤74; omega,fun l hl=>ZN hl,Zdj _ _ _ _ _ _ _ 73 (.inr rfl) _ _ (fun l hl=>if_neg (by omega)) (fun l hl=>by show Nat.blt l 74=true; exact Zt (by omega)),fun y hy hrw => ?_⟩
   ·exact⟨rfl,rfl,trivial,by rw[Zi (Xl _ _ _ _ _ _ _ _),← hkk]⟩
   ·exact Nat.le_of_eq hkk.symm
   ·refine⟨?_,?_,?_,?_,?_,?_,?_,?_,⟨by kernel_rfl,Eq.trans (b:=Value.slice (some ⟨72,0,none⟩) (j+1) (big+72)) (by kernel_rfl) e3⟩,trivial⟩<;>exact⟨by kernel_rfl,by kernel_rfl⟩
   ·obtain rfl:=List.mem_singleton.1 hy; cases hrw
def Zkc (p s t:Nat) (nc:Nat) (d:List UInt8) {a2:Option Addr} {n2 c2:Nat} (em:U4 a2 n2 c2) (c da ds sa ss ha hs:Nat) (so:List Nat) (h1:1≤so.length) (h4:so.length≤4) (hso:∀ x∈so,x<4096) (hc:c<500000) (hda:da<500000) (hds:ds<500000) (hsa:sa<500000) (hs2:s≤4096) (ht:t≤2048):Ent Tryz.prog :=
 Vl Tryz.prog 5 2 119 (ZpD p s t nc d a2 n2 c2 c da ds sa ss ha hs so 0) (.exit 4) (ZnT c da ds sa s t so) (by kernel_rfl) (by kernel_rfl) (Zjg p s t nc d em c da ds sa ss ha hs so h1 h4 hso hc hda hds hsa hs2 ht ⟨0,by omega⟩)
def Zos (v:Value) (hh:Sy.Heap) (p:Nat) (cs:List Nat) (d:List UInt8) (c da ds sa ss ha hs:Nat):Sy.Steps :=
 [(68,16,Jd v hh c da ds sa ss ha hs,[64,65,66]),(69,17,ZoV p,[]),(72,19,Zms da d (ZR cs cs.length (List.replicate (p*256) 0)) (fun _=>false) (p*256) (ZE p),[69,70,71])]
def Zhz (j:Nat):Value:=.tuple ⟨[.pointer (some ⟨71,0,none⟩),.slice (some ⟨72,0,none⟩) j (big+72),.int .i64 0]⟩
def Kw (v:Value) (hh:Sy.Heap) (p:Nat) (zs:List UInt8) (f:Nat→Bool) (fl:List Cp) (j:Nat):Con :=
 ⟨[v],67,hh,[],Zhz j,73,Jf zs f (p*256) (ZE p)++[(72,⟨false,some (0,0),cpL fl,none⟩)],[(70,ZE p),(69,p*256)]⟩
theorem ZpO (p s t:Nat) (cs:List Nat) (d:List UInt8) (rs:List Rl) (so:List Nat) (c da ds sa ss ha hs:Nat) (h1:ArK (List.replicate (p*256) (0:UInt8)) (p*256) (ZE p)) (h2:∀ (x:Nat),x∈cs→x<4294967296) (h3:cs.length≤4096) (h4:4*cs.length≤p*256) (h5:ArK (QK da d (ZR cs cs.length (List.replicate (p*256) (0:UInt8)))) (p*256) (ZE p)) (h6:∀ (r:Rl),r∈rs→RlFit da (p*256) r) (hT:∀ (k:Nat),k<rs.length→rlT da rs k ((da+(rl0 rs k).at_)/16)=false) (h7:rs.length≤256) (h8:da<500000) (em:U4 (some ⟨65,0,none⟩) rs.length (big+65)) (q1:1≤so.length) (q4:so.length≤4) (qso:∀ (x:Nat),x∈so→x<4096) (qc:c<500000) (qda:da<500000) (qds:ds<500000) (qsa:sa<500000) (qs2:s≤4096) (qt:t≤2048):evF Tryz.prog (QA 3 (ZT (Zos (Yg p s t d (some ⟨65,0,none⟩) cs.length rs.length so.length (big+65)) (btH rs so) p cs d c da ds sa ss ha hs)) ZD) (YD [Zka p s t so.length d em cs (List.replicate (p*256) (0:UInt8)) (p*256) (ZE p) c da ds sa ss ha hs h1 h2 h3 h4,ZnR p s t cs.length so.length d rs (QK da d (ZR cs cs.length (List.replicate (p*256) (0:UInt8)))) (p*256) (ZE p) c da ds sa ss ha hs h5 h6 hT h7 h8,Zkc p s t cs.length d em c da ds sa ss ha hs so q1 q4 qso qc qda qds qsa qs2 qt]) 100 20 5 [Yg p s t d (some ⟨65,0,none⟩) cs.length rs.length so.length (big+65)] ⟨67,lqH cs rs so,[],0,[],0,True⟩=some (Value.tuple { toList:=[Value.pointer (some ⟨71,0,none⟩),.slice (some ⟨73,0,none⟩) so.length 9223372036854775881,.int .i64 0] },{ n:=74,h:=[(73,⟨true,some (73,136),frL c da ds sa s t so so.length,none⟩),(71,⟨true,none,[Value.slice (some ⟨69,0,none⟩) (p*256) 9223372036854775877,.slice (some ⟨70,0,none⟩) (ZE p) 9223372036854775878],none⟩),(70,⟨true,some (70,1),bls (rlT da rs rs.length) (ZE p),none⟩),(69,⟨true,some (69,1),u8s (X9 da rs (QK da d (ZR cs cs.length (List.replicate (p*256) (0:UInt8)))) rs.length),none⟩),(68,⟨true,none,[Value.int .u32 0,.int .u32 (↑c),.int .u32 (↑da),.int .u32 (↑ds),.int .u32 (↑sa),.int .u32 (↑ss),.int .u32 (↑ha),.int .u32 (↑hs)],none⟩),(67,⟨true,none,[Value.int .i64 (↑p),.int .i64 (↑s),.int .i64 (↑t),.slice (some ⟨64,0,none⟩) cs.length 9223372036854775872,.string ⟨⟨d⟩⟩,.slice (some ⟨65,0,none⟩) rs.length 9223372036854775873,.slice (some ⟨66,0,none⟩) so.length 9223372036854775874],none⟩),(64,⟨false,some (0,0),Zk cs,none⟩),(65,⟨false,some (0,0),rels rs,none⟩),(66,⟨false,some (0,0),Zk so,none⟩)],lo:=[(73,so.length),(70,ZE p),(69,p*256),(70,ZE p),(69,p*256),(70,ZE p),(69,p*256),(70,ZE p),(69,p*256)],esc:=0,T:=[],k:=0,O:=(((((True∧True∧(rr (Value.agg ⟨[.int .i64 (↑p),.int .i64 (↑s),.int .i64 (↑t),.slice (some ⟨64,0,none⟩) cs.length 9223372036854775872,.string ⟨⟨d⟩⟩,.slice (some ⟨65,0,none⟩) rs.length 9223372036854775873,.slice (some ⟨66,0,none⟩) so.length 9223372036854775874]⟩)∧True)∧((tt∧(rels rs).all (okV (fun l=>l.blt 67) 3)=true∧tt∧tt∧tt∧True∧rels rs=List.map (rnV (lift 67 68 [64,65,66]) 3) (rels rs))∧(tt∧(Zk so).all (okV (fun l=>l.blt 67) 3)=true∧tt∧tt∧tt∧True∧Zk so=List.map (rnV (lift 67 68 [64,65,66]) 3) (Zk so))∧True)∧True)∧True∧(rr (Value.int .i64 (↑p))∧True)∧True∧True)∧(rr (Value.pointer (some ⟨67,0,none⟩))∧rr (Value.pointer none)∧rr (Value.slice none 0 0)∧rr (Value.int .i64 0)∧rr (Value.pointer (some ⟨68,0,none⟩))∧rr (Value.int .i64 0)∧rr (Value.pointer (some ⟨71,0,none⟩))∧rr (Value.int .i64 0)∧rr (Value.int .i64 0)∧True)∧((tt∧tt∧True∧rr [Value.slice (some ⟨69,0,none⟩) (p*256) 9223372036854775877,.slice (some ⟨70,0,none⟩) (ZE p) 9223372036854775878])∧(tt∧tt∧True∧rr (bls (fun x=>false) (ZE p)))∧(tt∧tt∧True∧rr (u8s (List.replicate (p*256) (0:UInt8))))∧(tt∧tt∧True∧rr [Value.int .u32 0,.int .u32 (↑c),.int .u32 (↑da),.int .u32 (↑ds),.int .u32 (↑sa),.int .u32 (↑ss),.int .u32 (↑ha),.int .u32 (↑hs)])∧(tt∧tt∧True∧rr [Value.int .i64 (↑p),.int .i64 (↑s),.int .i64 (↑t),.slice (some ⟨64,0,none⟩) cs.length 9223372036854775872,.string ⟨⟨d⟩⟩,.slice (some ⟨65,0,none⟩) rs.length 9223372036854775873,.slice (some ⟨66,0,none⟩) so.length 9223372036854775874])∧(tt∧tt∧True∧rr (Zk cs))∧True)∧(ZE p≤ZE p∧p*256≤p*256∧True)∧True)∧True∧(rr (Value.pointer (some ⟨71,0,none⟩))∧rr (Value.int .u32 (↑da))∧rr (Value.string ⟨⟨d⟩⟩)∧True)∧((tt∧tt∧tt∧tt∧tt∧True∧rr [Value.slice (some ⟨69,0,none⟩) (p*256) 9223372036854775877,.slice (some ⟨70,0,none⟩) (ZE p) 9223372036854775878])∧(tt∧(bls (fun x=>false) (ZE p)).all (okV (fun l=>l.blt 67) 3)=true∧tt∧tt∧tt∧True∧bls (fun x=>false) (ZE p)=List.map (rnV (lift 67 72 [69,70,71]) 3) (bls (fun x=>false) (ZE p)))∧(tt∧(u8s (ZR cs cs.length (List.replicate (p*256) (0:UInt8)))).all (okV (fun l=>l.blt 67) 3)=true∧tt∧tt∧tt∧True∧u8s (ZR cs cs.length (List.replicate (p*256) (0:UInt8)))=List.map (rnV (lift 67 72 [69,70,71]) 3) (u8s (ZR cs cs.length (List.replicate (p*256) (0:UInt8)))))∧True)∧(tt∧ZE p≤ZE p)∧(tt∧p*256≤p*256)∧True)∧(rr (Value.pointer (some ⟨67,0,none⟩))∧rr (Value.pointer none)∧rr (Value.slice none 0 0)∧rr (Value.int .i64 0)∧rr (Value.pointer (some ⟨68,0,none⟩))∧rr (Value.int .i64 0)∧rr (Value.pointer (some ⟨71,0,none⟩))∧rr (Value.int .i64 0)∧rr (Value.int .i64 0)∧True)∧((tt∧tt∧True∧rr [Value.slice (some ⟨69,0,none⟩) (p*256) 9223372036854775877,.slice (some ⟨70,0,none⟩) (ZE p) 9223372036854775878])∧(tt∧tt∧True∧rr (bls (fun x=>false) (ZE p)))∧(tt∧tt∧True∧rr (u8s (QK da d (ZR cs cs.length (List.replicate (p*256) (0:UInt8))))))∧(tt∧tt∧True∧rr [Value.int .u32 0,.int .u32 (↑c),.int .u32 (↑da),.int .u32 (↑ds),.int .u32 (↑sa),.int .u32 (↑ss),.int .u32 (↑ha),.int .u32 (↑hs)])∧(tt∧tt∧True∧rr [Value.int .i64 (↑p),.int .i64 (↑s),.int .i64 (↑t),.slice (some ⟨64,0,none⟩) cs.length 9223372036854775872,.string ⟨⟨d⟩⟩,.slice (some ⟨65,0,none⟩) rs.length 9223372036854775873,.slice (some ⟨66,0,none⟩) so.length 9223372036854775874])∧(tt∧tt∧True∧rr (rels rs))∧True)∧(ZE p≤ZE p∧p*256≤p*256∧True)∧True)∧(rr (Value.pointer (some ⟨67,0,none⟩))∧rr (Value.pointer none)∧rr (Value.slice none 0 0)∧rr (Value.int .i64 0)∧rr (Value.pointer (some ⟨68,0,none⟩))∧rr (Value.int .i64 0)∧rr (Value.pointer (some ⟨71,0,none⟩))∧rr (Value.int .i64 0)∧rr (Value.slice none 0 0)∧rr (Value.int .i64 0)∧True)∧((tt∧tt∧True∧rr [Value.int .u32 0,.int .u32 (↑c),.int .u32 (↑da),.int .u32 (↑ds),.int .u32 (↑sa),.int .u32 (↑ss),.int .u32 (↑ha),.int .u32 (↑hs)])∧(tt∧tt∧True∧rr [Value.int .i64 (↑p),.int .i64 (↑s),.int .i64 (↑t),.slice (some ⟨64,0,none⟩) cs.length 9223372036854775872,.string ⟨⟨d⟩⟩,.slice (some ⟨65,0,none⟩) rs.length 9223372036854775873,.slice (some ⟨66,0,none⟩) so.length 9223372036854775874])∧(tt∧tt∧True∧rr (Zk so))∧True)∧True∧True:St }):=by kernel_rfl
theorem ZpP (p s t:Nat) (cs:List Nat) (d:List UInt8) (a2:Option Addr) (c2:Nat) (so:List Nat) (c da ds sa ss ha hs:Nat) (h1:ArK (List.replicate (p*256) (0:UInt8)) (p*256) (ZE p)) (h2:∀ (x:Nat),x∈cs→x<4294967296) (h3:cs.length≤4096) (h4:4*cs.length≤p*256) (em:U4 a2 0 c2) (q1:1≤so.length) (q4:so.length≤4) (qso:∀ (x:Nat),x∈so→x<4096) (qc:c<500000) (qda:da<500000) (qds:ds<500000) (qsa:sa<500000) (qs2:s≤4096) (qt:t≤2048):evF Tryz.prog (QA 3 (ZT (Zos (Yg p s t d a2 cs.length 0 so.length c2) (WM so) p cs d c da ds sa ss ha hs)) ZD) (YD [Zka p s t so.length d em cs (List.replicate (p*256) (0:UInt8)) (p*256) (ZE p) c da ds sa ss ha hs h1 h2 h3 h4,Zkc p s t cs.length d em c da ds sa ss ha hs so q1 q4 qso qc qda qds qsa qs2 qt]) 100 20 5 [Yg p s t d a2 cs.length 0 so.length c2] ⟨67,Zcf cs so,[],0,[],0,True⟩=some (Value.tuple { toList:=[Value.pointer (some ⟨71,0,none⟩),.slice (some ⟨73,0,none⟩) so.length 9223372036854775881,.int .i64 0] },{ n:=74,h:=[(73,⟨true,some (73,136),frL c da ds sa s t so so.length,none⟩),(71,⟨true,none,[Value.slice (some ⟨69,0,none⟩) (p*256) 9223372036854775877,.slice (some ⟨70,0,none⟩) (ZE p) 9223372036854775878],none⟩),(70,⟨true,some (70,1),bls (fun x=>false) (ZE p),none⟩),(69,⟨true,some (69,1),u8s (QK da d (ZR cs cs.length (List.replicate (p*256) (0:UInt8)))),none⟩),(68,⟨true,none,[Value.int .u32 0,.int .u32 (↑c),.int .u32 (↑da),.int .u32 (↑ds),.int .u32 (↑sa),.int .u32 (↑ss),.int .u32 (↑ha),.int .u32 (↑hs)],none⟩),(67,⟨true,none,[Value.int .i64 (↑p),.int .i64 (↑s),.int .i64 (↑t),.slice (some ⟨64,0,none⟩) cs.length 9223372036854775872,.string ⟨⟨d⟩⟩,.slice a2 0 c2,.slice (some ⟨66,0,none⟩) so.length 9223372036854775874],none⟩),(64,⟨false,some (0,0),Zk cs,none⟩),(66,⟨false,some (0,0),Zk so,none⟩)],lo:=[(73,so.length),(70,ZE p),(69,p*256),(70,ZE p),(69,p*256),(70,ZE p),(69,p*256)],esc:=0,T:=[],k:=0,O:=((((True∧True∧(Value.agg ⟨[.int .i64 (↑p),.int .i64 (↑s),.int .i64 (↑t),.slice (some ⟨64,0,none⟩) cs.length 9223372036854775872,.string ⟨⟨d⟩⟩,.slice a2 0 c2,.slice (some ⟨66,0,none⟩) so.length 9223372036854775874]⟩=Value.agg ⟨[.int .i64 (↑p),.int .i64 (↑s),.int .i64 (↑t),.slice (some ⟨64,0,none⟩) cs.length 9223372036854775872,.string ⟨⟨d⟩⟩,.slice (Option.map (rnA (lift 67 68 [64,65,66])) a2) 0 (rnC (lift 67 68 [64,65,66]) c2),.slice (some ⟨66,0,none⟩) so.length 9223372036854775874]⟩∧True)∧((tt∧(Zk so).all (okV (fun l=>l.blt 67) 3)=true∧tt∧tt∧tt∧True∧Zk so=List.map (rnV (lift 67 68 [64,65,66]) 3) (Zk so))∧True)∧True)∧True∧(rr (Value.int .i64 (↑p))∧True)∧True∧True)∧(rr (Value.pointer (some ⟨67,0,none⟩))∧rr (Value.pointer none)∧rr (Value.slice none 0 0)∧rr (Value.int .i64 0)∧rr (Value.pointer (some ⟨68,0,none⟩))∧rr (Value.int .i64 0)∧rr (Value.pointer (some ⟨71,0,none⟩))∧rr (Value.int .i64 0)∧rr (Value.int .i64 0)∧True)∧((tt∧tt∧True∧rr [Value.slice (some ⟨69,0,none⟩) (p*256) 9223372036854775877,.slice (some ⟨70,0,none⟩) (ZE p) 9223372036854775878])∧(tt∧tt∧True∧rr (bls (fun x=>false) (ZE p)))∧(tt∧tt∧True∧rr (u8s (List.replicate (p*256) (0:UInt8))))∧(tt∧tt∧True∧rr [Value.int .u32 0,.int .u32 (↑c),.int .u32 (↑da),.int .u32 (↑ds),.int .u32 (↑sa),.int .u32 (↑ss),.int .u32 (↑ha),.int .u32 (↑hs)])∧(tt∧tt∧True∧rr [Value.int .i64 (↑p),.int .i64 (↑s),.int .i64 (↑t),.slice (some ⟨64,0,none⟩) cs.length 9223372036854775872,.string ⟨⟨d⟩⟩,.slice a2 0 c2,.slice (some ⟨66,0,none⟩) so.length 9223372036854775874])∧(tt∧tt∧True∧rr (Zk cs))∧True)∧(ZE p≤ZE p∧p*256≤p*256∧True)∧True)∧True∧(rr (Value.pointer (some ⟨71,0,none⟩))∧rr (Value.int .u32 (↑da))∧rr (Value.string ⟨⟨d⟩⟩)∧True)∧((tt∧tt∧tt∧tt∧tt∧True∧rr [Value.slice (some ⟨69,0,none⟩) (p*256) 9223372036854775877,.slice (some ⟨70,0,none⟩) (ZE p) 9223372036854775878])∧(tt∧(bls (fun x=>false) (ZE p)).all (okV (fun l=>l.blt 67) 3)=true∧tt∧tt∧tt∧True∧bls (fun x=>false) (ZE p)=List.map (rnV (lift 67 72 [69,70,71]) 3) (bls (fun x=>false) (ZE p)))∧(tt∧(u8s (ZR cs cs.length (List.replicate (p*256) (0:UInt8)))).all (okV (fun l=>l.blt 67) 3)=true∧tt∧tt∧tt∧True∧u8s (ZR cs cs.length (List.replicate (p*256) (0:UInt8)))=List.map (rnV (lift 67 72 [69,70,71]) 3) (u8s (ZR cs cs.length (List.replicate (p*256) (0:UInt8)))))∧True)∧(tt∧ZE p≤ZE p)∧(tt∧p*256≤p*256)∧True)∧(rr (Value.pointer (some ⟨67,0,none⟩))∧rr (Value.pointer none)∧rr (Value.slice none 0 0)∧rr (Value.int .i64 0)∧rr (Value.pointer (some ⟨68,0,none⟩))∧rr (Value.int .i64 0)∧rr (Value.pointer (some ⟨71,0,none⟩))∧rr (Value.int .i64 0)∧rr (Value.slice none 0 0)∧rr (Value.int .i64 0)∧True)∧((tt∧tt∧True∧rr [Value.int .u32 0,.int .u32 (↑c),.int .u32 (↑da),.int .u32 (↑ds),.int .u32 (↑sa),.int .u32 (↑ss),.int .u32 (↑ha),.int .u32 (↑hs)])∧(tt∧tt∧True∧rr [Value.int .i64 (↑p),.int .i64 (↑s),.int .i64 (↑t),.slice (some ⟨64,0,none⟩) cs.length 9223372036854775872,.string ⟨⟨d⟩⟩,.slice a2 0 c2,.slice (some ⟨66,0,none⟩) so.length 9223372036854775874])∧(tt∧tt∧True∧rr (Zk so))∧True)∧True∧True:St }):=by kernel_rfl
theorem Uo {q:Nat→Bool} (j:Nat) (h:∀ l,l<73→q l=true):okV q 3 (Zhz j)=true:=by
 have h2:=h 71 (by omega)
 have h3:=h 72 (by omega)
 simp[Zhz,okV,QP,h2,h3,ZP,big]
theorem ZhA {q:Nat→Bool} (h:∀ l,l<72→q l=true) (zs:List UInt8) (f:Nat→Bool) (N m:Nat):∀ x∈Jf zs f N m,∀ v∈x.2.cells,okV q 3 v=true:=fun x hx v hv=>by
 simp only[rr, tt, Jf,List.mem_cons,List.not_mem_nil,or_false] at hx
 rcases hx with rfl|rfl|rfl
 ·exact Wp (h 69 (by omega)) (h 70 (by omega)) N m v hv
 ·exact ZS (Z8 f m v hv) 3
 ·exact ZS (Zp zs v hv) 3
theorem Up (v:Value) (hh:Sy.Heap) (p:Nat) (zs:List UInt8) (f:Nat→Bool) (fl:List Cp) (j:Nat):FlatC (Kw v hh p zs f fl j):=⟨fun x hx hne=>by
 simp only[rr, tt, Kw,Jf,List.cons_append,List.nil_append,List.mem_cons,List.not_mem_nil,or_false] at hx
 rcases hx with rfl|rfl|rfl|rfl
 ·exact absurd rfl hne
 ·exact Z8 _ _
 ·exact Zp _
 ·exact Z7 fl⟩
theorem Zcm {v:Value} {hh:Sy.Heap} (p:Nat) (zs:List UInt8) (f:Nat→Bool) (fl:List Cp) (j:Nat) (hv:okV (fun l=>Nat.blt l 67) 3 v=true) (hk0:OkH (fun l=>Nat.blt l 67) hh):(Kw v hh p zs f fl j).Wf 3:=by
 refine⟨by show 64≤67; omega,by show 67≤73; omega,hk0,rfl,rfl,rfl,by show(okV _ 3 v&&true)=true; rw[Bool.and_true]; exact hv,Uo j (ltZ 73),?_⟩
 intro x hx w hw
 simp only[rr, tt, Kw,List.mem_append,List.mem_singleton] at hx
 rcases hx with hx|rfl
 ·exact ZhA (fun l hl=>Zkb hl) _ _ _ _ x hx w hw
 ·exact ZS (Z7 _ w hw) 3
theorem Zep {v:Value} {hh:Sy.Heap} (p:Nat) (zs:List UInt8) (f:Nat→Bool) (fl:List Cp) (j:Nat) (hno:Sy.look hh 73=none) {s':Sy.St} {u:Value} {k:Sy.Blk} {ws cs:List Value} (hu:u = .tuple ⟨[.pointer (some ⟨71,0,none⟩),.slice (some ⟨73,0,none⟩) j (big+73),.int .i64 0]⟩) (h71:Sy.look s'.h 71=some ⟨true,none,[.slice (some ⟨69,0,none⟩) (p*256) (big+69),.slice (some ⟨70,0,none⟩) (ZE p) (big+70)],none⟩)
  (h70:Sy.look s'.h 70=some ⟨true,some (70,1),ws,none⟩) (hws:ws=bls f (ZE p)) (h69:Sy.look s'.h 69=some ⟨true,some (69,1),u8s zs,none⟩) (hk:Sy.look s'.h 73=some k) (hc:k.cells=cs) (hcs:cs=cpL fl) (hi:k.it=none) (hlo:WX s'.lo 70 (ZE p)∧WX s'.lo 69 (p*256)):(Kw v hh p zs f fl j).Ends 3 (fun l=>Nat.blt l 73) (toσ 72 73) u s':=by
 have hlow:∀ l,l<72→toσ 72 73 l=l:=fun l hl=>if_neg (by omega)
 have h3:toσ 72 73 72=73:=if_pos rfl
 have hr:∀ l:List Value,(∀ w∈l,okV (fun l=>Nat.blt l 72) 3 w=true)→l.map (rnV (toσ 72 73) 3)=l:=fun l hl=>by
  rw[List.map_congr_left (g:=id) (fun w hw=>WI (p:=fun l=>Nat.blt l 72) (fun l hl=>hlow l (by simpa using hl)) 3 w (hl w hw))]
  simp
 have hkp:∀ l,l<72→Z3 67 73 (toσ 72 73) (fun l=>Nat.blt l 73) l=true:=fun l hl=>by
  show(Nat.blt l NG||(bif Nat.blt l 67 then(Nat.beq (toσ 72 73 l) l&&Nat.blt l 73) else Nat.blt l 73))=true
  rw[hlow l hl,Zkb hl,Nat.beq_refl]
  cases Nat.blt l NG<;>cases Nat.blt l 67<;>rfl
 have hk3:Z3 67 73 (toσ 72 73) (fun l=>Nat.blt l 73) 72=true:=rfl
 have hkA:∀ l,l<73→Z3 67 73 (toσ 72 73) (fun l=>Nat.blt l 73) l=true:=fun l hl=>by
  by_cases h:l=72
  ·subst h; exact hk3
  ·exact hkp l (by omega)
 refine⟨fun l hl=>hlow l (by have:NG=64:=rfl; omega),⟨⟨rfl,List.all_eq_true.2 (Wp rfl rfl _ _),rfl,?_⟩,⟨rfl,Zh (Z8 _ _),rfl,?_⟩,⟨rfl,Zh (Zp zs),rfl,?_⟩,⟨rfl,XX _ _,rfl,?_⟩,trivial⟩,rfl,⟨⟨rfl,?_⟩,⟨rfl,?_⟩,trivial⟩,⟨Uo j (ltZ 73),?_⟩,rfl,?_,rfl,ZM 3 _ (Uo j hkA),fun x hx hrw => ?_⟩
 ·show match Sy.look s'.h (toσ 72 73 71) with|none=>False|some k1=>_
  rw[hlow 71 (by omega),h71]; exact⟨rfl,rfl,trivial,(hr _ (Wp rfl rfl _ _)).symm⟩
 ·show match Sy.look s'.h (toσ 72 73 70) with|none=>False|some k1=>_
  rw[hlow 70 (by omega),h70]
  exact⟨rfl,rfl,trivial,by rw[Zi (Z8 _ _)]; exact hws⟩
 ·show match Sy.look s'.h (toσ 72 73 69) with|none=>False|some k1=>_
  rw[hlow 69 (by omega),h69]
  exact⟨rfl,rfl,trivial,(Zi (Zp _)).symm⟩
 ·show match Sy.look s'.h (toσ 72 73 72) with|none=>False|some k1=>_
  rw[h3,hk]
  exact⟨rfl,by simp[Vp,opB,Zaa],by rw[hi]; trivial,by rw[XW,hc,hcs]⟩
 ·rw[hlow 70 (by omega)]; exact hlo.1
 ·rw[hlow 69 (by omega)]; exact hlo.2
 ·rw[hu]
  show Value.tuple ⟨[.pointer (some ⟨71,0,none⟩),.slice (some ⟨73,0,none⟩) j (big+73),.int .i64 0]⟩ = .tuple ⟨[.pointer (some ⟨toσ 72 73 71,0,none⟩),.slice (some ⟨toσ 72 73 72,0,none⟩) j (rnC (toσ 72 73) (big+72)),.int .i64 0]⟩
  rw[Zj7,h3,hlow 71 (by omega)]
 ·exact Ku (fun l hl=>hkp l hl) _ _ _ _ ⟨⟨hk3,rfl,Zv (Z7 fl)⟩,trivial⟩
 ·simp only[rr, tt, Kw,Jf,List.cons_append,List.nil_append,List.mem_cons,List.not_mem_nil,or_false] at hx
  rcases hx with rfl|rfl|rfl|rfl
  ·cases hrw
  ·cases hrw
  ·cases hrw
  ·right; rw[h3]; exact hno
theorem KT (p:Nat) (h1:16≤p) (h2:p≤1024):ArK (List.replicate (p*256) 0) (p*256) (ZE p):=⟨List.length_replicate,by unfold ZE; omega,by unfold ZE; omega,by omega⟩
theorem ZnU {p s t:Nat} {cs:List Nat} {d:List UInt8} {so:List Nat} {c da ds sa ss ha hs:Nat} (h:LqOk p s t cs d so c da ds sa ss ha hs):ArK (zsB p cs da d) (p*256) (ZE p) :=
 ⟨(WJ h).len,(KT p h.p1 h.p2).tags,(KT p h.p1 h.p2).big,(KT p h.p1 h.p2).big2⟩
theorem Zeq {p s t:Nat} {cs:List Nat} {d:List UInt8} {so:List Nat} {c da ds sa ss ha hs:Nat} (h:LqOk p s t cs d so c da ds sa ss ha hs) {v:Value} {hh:Sy.Heap} (hlay:ConOk Tryz.prog 16 3 (Jd v hh c da ds sa ss ha hs)):ZA Tryz.prog (QA 3 (ZT (Zos v hh p cs d c da ds sa ss ha hs)) ZD):=by
 have e0:=h.hc; have e2:=h.hda; have e3:=h.hds; have e4:=h.hsa; have e5:=h.fit; have e6:=h.p2
 have hz:=KT p h.p1 h.p2
 have hzl:(ZR cs cs.length (List.replicate (p*256) 0)).length=p*256:=by rw[YA _ _ _ (by rw[hz.len]; omega),hz.len]
 refine Qe (ZW fun x hx => ?_) (Zx _)
 simp only[rr, tt, Zos,List.mem_cons,List.not_mem_nil,or_false] at hx
 rcases hx with rfl|rfl|rfl
 ·exact⟨hlay,⟨fun x hx=>by cases hx⟩⟩
 ·exact ZiB p h.p1 h.p2
 ·exact ZcZ da d _ _ _ _ ⟨hzl,hz.tags,hz.big,hz.big2⟩ (by omega) (fun _ _=>rfl)
theorem Zl5 (p s t:Nat) (cs:List Nat) (d:List UInt8) (rs:List Rl) (so:List Nat) (c da ds sa ss ha hs:Nat) (h:LqOk p s t cs d so c da ds sa ss ha hs) (h6:∀ r∈rs,RlFit da (p*256) r) (hT:∀ k,k<rs.length→rlT da rs k ((da+(rl0 rs k).at_)/16)=false) (h7:rs.length≤256) (j:Nat) (hj:so.length=j) (j1:1≤j) (j4:j≤4)
  (hlay:ConOk Tryz.prog 16 3 (Jd (Yg p s t d (some ⟨65,0,none⟩) cs.length rs.length so.length (big+65)) (btH rs so) c da ds sa ss ha hs)) :
  ConOk Tryz.prog 5 3 (Kw (Yg p s t d (some ⟨65,0,none⟩) cs.length rs.length so.length (big+65)) (lqH cs rs so) p (X9 da rs (zsB p cs da d) rs.length) (rlT da rs rs.length) (Zhr c da ds sa s t so j) j):=by
 have e0:=h.hc; have e2:=h.hda; have e3:=h.hds; have e4:=h.hsa; have e5:=h.fit; have e6:=h.p2
 have f1:∀ (zs:List UInt8) (p:Nat→Bool),(u8s zs).all (okV p 3)=true:=fun zs p=>Zh (Zp _)
 have f2:∀ (zs:List UInt8) (σ:Nat→Nat),(u8s zs).map (rnV σ 3)=u8s zs:=fun zs σ=>Zi (Zp _)
 have f3:∀ (xs:List Nat) (p:Nat→Bool),(Zk xs).all (okV p 3)=true:=fun xs p=>Zh (Zg _)
 have f4:∀ (xs:List Nat) (σ:Nat→Nat),(Zk xs).map (rnV σ 3)=Zk xs:=fun xs σ=>Zi (Zg _)
 have f7:∀ (f:Nat→Bool) (m:Nat) (p:Nat→Bool),(bls f m).all (okV p 3)=true:=fun f m p=>Zh (Z8 f m)
 have f8:∀ (f:Nat→Bool) (m:Nat) (σ:Nat→Nat),(bls f m).map (rnV σ 3)=bls f m:=fun f m σ=>Zi (Z8 f m)
 have f5:∀ (p:Nat→Bool),(rels rs).all (okV p 3)=true:=fun p=>Zh (ZC rs)
 have f6:∀ (σ:Nat→Nat),(rels rs).map (rnV σ 3)=rels rs:=fun σ=>Zi (ZC rs)
 subst hj
 have hr:=ZpO p s t cs d rs so c da ds sa ss ha hs (KT p h.p1 h.p2) h.hcs h.n1 (by omega) (ZnU h) h6 hT h7 (by omega) (VR _) j1 j4 h.hso (by omega) (by omega) (by omega) (by omega) h.s2 h.t2
 refine ZF (Zu (L:=100) Zn (Zeq h hlay) (Z5 _) 20) (Zcm p _ _ _ _ (YU rfl rfl _ _ _ _ rfl _ _) (Vt (fun l hl=>Zt hl) cs rs so)) hr ?_ (Zep p _ _ _ _ rfl rfl rfl rfl rfl rfl rfl rfl (XZ _ _ _ _ _ _ _ _) rfl ⟨Nat.le_refl _,Nat.le_refl _⟩)
 simp(disch:=omega) only[rr, tt, Zfh (VR _),f1,f2,f3,f4,f5,f6,f7,f8,zsB,decide_eq_true,decide_eq_false,Bool.and_self,cond_true,and_true,true_and,and_self,Nat.le_refl]
theorem Zl6 (p s t:Nat) (cs:List Nat) (d:List UInt8) (a2:Option Addr) (c2:Nat) (em:X5 a2 c2) (so:List Nat) (c da ds sa ss ha hs:Nat) (h:LqOk p s t cs d so c da ds sa ss ha hs) (j:Nat) (hj:so.length=j) (j1:1≤j) (j4:j≤4)
  (hlay:ConOk Tryz.prog 16 3 (Jd (Yg p s t d a2 cs.length 0 so.length c2) (WM so) c da ds sa ss ha hs)) :
  ConOk Tryz.prog 5 3 (Kw (Yg p s t d a2 cs.length 0 so.length c2) (Zcf cs so) p (zsB p cs da d) (fun _=>false) (Zhr c da ds sa s t so j) j):=by
 have e0:=h.hc; have e2:=h.hda; have e3:=h.hds; have e4:=h.hsa; have e5:=h.fit; have e6:=h.p2
 have f1:∀ (zs:List UInt8) (p:Nat→Bool),(u8s zs).all (okV p 3)=true:=fun zs p=>Zh (Zp _)
 have f2:∀ (zs:List UInt8) (σ:Nat→Nat),(u8s zs).map (rnV σ 3)=u8s zs:=fun zs σ=>Zi (Zp _)
 have f3:∀ (xs:List Nat) (p:Nat→Bool),(Zk xs).all (okV p 3)=true:=fun xs p=>Zh (Zg _)
 have f4:∀ (xs:List Nat) (σ:Nat→Nat),(Zk xs).map (rnV σ 3)=Zk xs:=fun xs σ=>Zi (Zg _)
 have f7:∀ (f:Nat→Bool) (m:Nat) (p:Nat→Bool),(bls f m).all (okV p 3)=true:=fun f m p=>Zh (Z8 f m)
 have f8:∀ (f:Nat→Bool) (m:Nat) (σ:Nat→Nat),(bls f m).map (rnV σ 3)=bls f m:=fun f m σ=>Zi (Z8 f m)
 have hs2:=em (fun l=>Nat.blt l 67) 2 (fun l hl=>Zt hl)
 subst hj
 have hr:=ZpP p s t cs d a2 c2 so c da ds sa ss ha hs (KT p h.p1 h.p2) h.hcs h.n1 (by omega) (fun q d hq=>em q d hq) j1 j4 h.hso (by omega) (by omega) (by omega) (by omega) h.s2 h.t2
 refine ZF (Zu (L:=100) Zn (Zeq h hlay) (Z5 _) 20) (Zcm p _ _ _ _ (YU rfl rfl _ _ _ _ hs2 _ _) (X7 (fun l hl=>Zt hl) cs so)) hr ?_ (Zep p _ _ _ _ rfl rfl rfl rfl rfl rfl rfl rfl (XZ _ _ _ _ _ _ _ _) rfl ⟨Nat.le_refl _,Nat.le_refl _⟩)
 simp(disch:=omega) only[rr, tt, Xh em,f1,f2,f3,f4,f7,f8,decide_eq_true,decide_eq_false,Bool.and_self,cond_true,and_true,true_and,and_self,Nat.le_refl]
def rtE (g:Nat) (out:Value) (k:Nat):List (Nat×Value):=[(0,.pointer (some ⟨66,0,none⟩)),(1,.int .i64 (g:Nat)),(4,.slice none 0 0),(5,out),(6,.int .i64 (k:Nat))]
def rtN (g:Nat) (zs:List UInt8) (f:Nat→Bool) (N m:Nat) (k:Nat):Sf:=⟨67,rtE g (.slice none 0 0) k,arR false zs f N m,Zb0 N m⟩
def rtO (l:List Nat):Sy.Blk:=⟨true,some (67,1),Zk l,none⟩
def rtY (g:Nat) (zs:List UInt8) (f:Nat→Bool) (N m:Nat) (l:List Nat) (k:Nat):Sf:=⟨68,rtE g (.slice (some ⟨67,0,none⟩) l.length (big+67)) k,(67,rtO l)::arR false zs f N m,(67,l.length)::Zb0 N m⟩
theorem ZnV (g:Nat) (zs:List UInt8) (f:Nat→Bool) (N:Nat) (m:Nat) (k:Nat):evC Tryz.prog (evF Tryz.prog ZD Zf 100 20) (Zf 36) 36 100 (ZB Tryz.prog 36 0) (Sf.frT 36 (rtN g zs f N m k) (tb 7 1))=some (Exit.normal,{ e:=[[Value.pointer (some ⟨66,0,none⟩),.int .i64 (↑g),unk,unk,.slice none 0 0,.slice none 0 0,.int .i64 (i64.wrap ((↑k:Int)+(1:Int))),.int .i64 (↑k),.pointer (some ⟨66,0,none⟩),.pointer (some ⟨66,0,none⟩),.pointer (some { block:=66,off:=1 }),.slice (some ⟨65,0,none⟩) m 9223372036854775873,.int .i64 (↑m),.bool (decide ((↑k:Int)<(↑m:Int))),.int .i64 (↑k),.int .i64 (i64.wrap ((↑k:Int)+(1:Int)))],[Value.pointer (some ⟨66,0,none⟩),.pointer (some ⟨66,0,none⟩),.pointer (some { block:=66,off:=1 }),.slice (some ⟨65,0,none⟩) m 9223372036854775873,.int .i64 (↑k),.pointer (some { block:=65,off:=0+(↑k:Int).toNat*1 }),.bool (Zw (Zd undef (bls f m) (0+(↑k:Int).toNat*1))),.bool (Zw (Zd undef (bls f m) (0+(↑k:Int).toNat*1))),undef,undef,undef,undef,.bool false,unk,unk,unk],[unk,unk,unk,unk,unk,unk,unk,unk,unk,unk,unk,unk,unk,unk,unk,unk]],s:={ n:=67,h:=[(66,⟨false,none,[Value.slice (some ⟨64,0,none⟩) N 9223372036854775872,.slice (some ⟨65,0,none⟩) m 9223372036854775873],none⟩),(65,⟨false,some (65,1),bls f m,none⟩),(64,⟨false,some (64,1),u8s zs,none⟩)],lo:=[(65,m),(64,N)],esc:=0,T:=[],k:=7,O:=((((((bif Qc (0+(↑k:Int).toNat*1+1) (bls f m)&&Zs [Value.bool false] (bls f m) (0+(↑k:Int).toNat*1) then bif decide ((0:Int)≤(↑k:Int))&&decide ((↑k:Int)<(↑m:Int)) then True∧decide ((↑k:Int)<(↑m:Int))=true else False else False)∧Zw (Zd undef (bls f m) (0+(↑k:Int).toNat*1))=false)∧Zw (Zd undef (bls f m) (0+(↑k:Int).toNat*1))=false)∧Zw (Zd undef (bls f m) (0+(↑k:Int).toNat*1))=false)∧Zw (Zd undef (bls f m) (0+(↑k:Int).toNat*1))=false)∧Zw (Zd undef (bls f m) (0+(↑k:Int).toNat*1))=false)∧false=false:St }:Fr }):=by kernel_rfl
theorem ZnW (g:Nat) (zs:List UInt8) (f:Nat→Bool) (N:Nat) (m:Nat) (k:Nat):evC Tryz.prog (evF Tryz.prog ZD Zf 100 20) (Zf 36) 36 100 (ZB Tryz.prog 36 0) (Sf.frT 36 (rtN g zs f N m k) (tb 7 63))=some (Exit.normal,{ e:=[[Value.pointer (some ⟨66,0,none⟩),.int .i64 (↑g),unk,unk,.slice none 0 0,.slice none 0 0,.int .i64 (i64.wrap ((↑k:Int)+(1:Int))),.int .i64 (↑k),.pointer (some ⟨66,0,none⟩),.pointer (some ⟨66,0,none⟩),.pointer (some { block:=66,off:=1 }),.slice (some ⟨65,0,none⟩) m 9223372036854775873,.int .i64 (↑m),.bool (decide ((↑k:Int)<(↑m:Int))),.int .i64 (↑k),.int .i64 (i64.wrap ((↑k:Int)+(1:Int)))],[Value.pointer (some ⟨66,0,none⟩),.pointer (some ⟨66,0,none⟩),.pointer (some { block:=66,off:=1 }),.slice (some ⟨65,0,none⟩) m 9223372036854775873,.int .i64 (↑k),.pointer (some { block:=65,off:=0+(↑k:Int).toNat*1 }),.bool (Zw (Zd undef (bls f m) (0+(↑k:Int).toNat*1))),.bool (Zw (Zd undef (bls f m) (0+(↑k:Int).toNat*1))),.int .i64 (↑k),.int .i64 (i64.wrap ((↑k:Int).tdiv (16:Int))),.int .i64 (↑g),.bool (i64.wrap ((↑k:Int).tdiv (16:Int))==(↑g:Int)),.bool (i64.wrap ((↑k:Int).tdiv (16:Int))==(↑g:Int)),unk,unk,unk],[unk,unk,unk,unk,unk,unk,unk,unk,unk,unk,unk,unk,unk,unk,unk,unk]],s:={ n:=67,h:=[(66,⟨false,none,[Value.slice (some ⟨64,0,none⟩) N 9223372036854775872,.slice (some ⟨65,0,none⟩) m 9223372036854775873],none⟩),(65,⟨false,some (65,1),bls f m,none⟩),(64,⟨false,some (64,1),u8s zs,none⟩)],lo:=[(65,m),(64,N)],esc:=0,T:=[],k:=7,O:=((((((bif Qc (0+(↑k:Int).toNat*1+1) (bls f m)&&Zs [Value.bool false] (bls f m) (0+(↑k:Int).toNat*1) then bif decide ((0:Int)≤(↑k:Int))&&decide ((↑k:Int)<(↑m:Int)) then True∧decide ((↑k:Int)<(↑m:Int))=true else False else False)∧Zw (Zd undef (bls f m) (0+(↑k:Int).toNat*1))=true)∧Zw (Zd undef (bls f m) (0+(↑k:Int).toNat*1))=true)∧Zw (Zd undef (bls f m) (0+(↑k:Int).toNat*1))=true)∧Zw (Zd undef (bls f m) (0+(↑k:Int).toNat*1))=true)∧Zw (Zd undef (bls f m) (0+(↑k:Int).toNat*1))=true)∧(i64.wrap ((↑k:Int).tdiv (16:Int))==(↑g:Int))=false:St }:Fr }):=by kernel_rfl
theorem ZnX (g:Nat) (zs:List UInt8) (f:Nat→Bool) (N:Nat) (m:Nat) (k:Nat):evC Tryz.prog (evF Tryz.prog ZD Zf 100 20) (Zf 36) 36 100 (ZB Tryz.prog 36 0) (Sf.frT 36 (rtN g zs f N m k) (tb 8 127))=some (Exit.normal,{ e:=[[Value.pointer (some ⟨66,0,none⟩),.int .i64 (↑g),unk,unk,.slice none 0 0,.slice (some ⟨68,0,none⟩) 1 9223372036854775876,.int .i64 (i64.wrap ((↑k:Int)+(1:Int))),.int .i64 (↑k),.pointer (some ⟨66,0,none⟩),.pointer (some ⟨66,0,none⟩),.pointer (some { block:=66,off:=1 }),.slice (some ⟨65,0,none⟩) m 9223372036854775873,.int .i64 (↑m),.bool (decide ((↑k:Int)<(↑m:Int))),.int .i64 (↑k),.int .i64 (i64.wrap ((↑k:Int)+(1:Int)))],[Value.pointer (some ⟨66,0,none⟩),.pointer (some ⟨66,0,none⟩),.pointer (some { block:=66,off:=1 }),.slice (some ⟨65,0,none⟩) m 9223372036854775873,.int .i64 (↑k),.pointer (some { block:=65,off:=0+(↑k:Int).toNat*1 }),.bool (Zw (Zd undef (bls f m) (0+(↑k:Int).toNat*1))),.bool (Zw (Zd undef (bls f m) (0+(↑k:Int).toNat*1))),.int .i64 (↑k),.int .i64 (i64.wrap ((↑k:Int).tdiv (16:Int))),.int .i64 (↑g),.bool (i64.wrap ((↑k:Int).tdiv (16:Int))==(↑g:Int)),.bool (i64.wrap ((↑k:Int).tdiv (16:Int))==(↑g:Int)),.slice none 0 0,.int .i64 (↑k),.int .i64 (i64.wrap ((16:Int)*(↑k:Int)))],[Value.int .u32 (u32.wrap (i64.wrap ((16:Int)*(↑k:Int)))),.slice (some ⟨67,0,none⟩) 1 1,.slice (some ⟨68,0,none⟩) 1 9223372036854775876,unk,unk,unk,unk,unk,unk,unk,unk,unk,unk,unk,unk,unk]],s:={ n:=69,h:=[(68,⟨true,some (68,1),[Value.int .u32 (u32.wrap (i64.wrap ((16:Int)*(↑k:Int))))],none⟩),(67,⟨true,none,[Value.int .u32 (u32.wrap (i64.wrap ((16:Int)*(↑k:Int))))],none⟩),(66,⟨false,none,[Value.slice (some ⟨64,0,none⟩) N 9223372036854775872,.slice (some ⟨65,0,none⟩) m 9223372036854775873],none⟩),(65,⟨false,some (65,1),bls f m,none⟩),(64,⟨false,some (64,1),u8s zs,none⟩)],lo:=[(68,1),(65,m),(64,N)],esc:=0,T:=[],k:=8,O:=(((((((bif Qc (0+(↑k:Int).toNat*1+1) (bls f m)&&Zs [Value.bool false] (bls f m) (0+(↑k:Int).toNat*1) then bif decide ((0:Int)≤(↑k:Int))&&decide ((↑k:Int)<(↑m:Int)) then True∧decide ((↑k:Int)<(↑m:Int))=true else False else False)∧Zw (Zd undef (bls f m) (0+(↑k:Int).toNat*1))=true)∧Zw (Zd undef (bls f m) (0+(↑k:Int).toNat*1))=true)∧Zw (Zd undef (bls f m) (0+(↑k:Int).toNat*1))=true)∧Zw (Zd undef (bls f m) (0+(↑k:Int).toNat*1))=true)∧Zw (Zd undef (bls f m) (0+(↑k:Int).toNat*1))=true)∧(i64.wrap ((↑k:Int).tdiv (16:Int))==(↑g:Int))=true)∧false=false:St }:Fr }):=by kernel_rfl
theorem ZnY (g:Nat) (zs:List UInt8) (f:Nat→Bool) (N:Nat) (m:Nat) (k:Nat):evC Tryz.prog (evF Tryz.prog ZD Zf 100 20) (Zf 36) 36 100 (ZB Tryz.prog 36 0) (Sf.frT 36 (rtN g zs f N m k) [(0,false)])=some (Exit.exit 0,{ e:=mkE 36 [(0,Value.pointer (some ⟨66,0,none⟩)),(1,.int .i64 (↑g)),(4,.slice none 0 0),(5,.slice none 0 0),(6,.int .i64 (↑k)),(7,.int .i64 (↑k)),(8,.pointer (some ⟨66,0,none⟩)),(9,.pointer (some ⟨66,0,none⟩)),(10,.pointer (some { block:=66,off:=1 })),(11,.slice (some ⟨65,0,none⟩) m 9223372036854775873),(12,.int .i64 (↑m)),(13,.bool (decide ((↑k:Int)<(↑m:Int))))],s:={ n:=67,h:=[(66,⟨false,none,[Value.slice (some ⟨64,0,none⟩) N 9223372036854775872,.slice (some ⟨65,0,none⟩) m 9223372036854775873],none⟩),(65,⟨false,some (65,1),bls f m,none⟩),(64,⟨false,some (64,1),u8s zs,none⟩)],lo:=[(65,m),(64,N)],esc:=0,T:=[],k:=1,O:=True∧decide ((↑k:Int)<(↑m:Int))=false:St }:Fr }):=by kernel_rfl
theorem ZnZ (g:Nat) (zs:List UInt8) (f:Nat→Bool) (N:Nat) (m:Nat) (l:List Nat) (k:Nat):evC Tryz.prog (evF Tryz.prog ZD Zf 100 20) (Zf 36) 36 100 (ZB Tryz.prog 36 0) (Sf.frT 36 (rtY g zs f N m l k) (tb 7 1))=some (Exit.normal,{ e:=[[Value.pointer (some ⟨66,0,none⟩),.int .i64 (↑g),unk,unk,.slice none 0 0,.slice (some ⟨67,0,none⟩) l.length 9223372036854775875,.int .i64 (i64.wrap ((↑k:Int)+(1:Int))),.int .i64 (↑k),.pointer (some ⟨66,0,none⟩),.pointer (some ⟨66,0,none⟩),.pointer (some { block:=66,off:=1 }),.slice (some ⟨65,0,none⟩) m 9223372036854775873,.int .i64 (↑m),.bool (decide ((↑k:Int)<(↑m:Int))),.int .i64 (↑k),.int .i64 (i64.wrap ((↑k:Int)+(1:Int)))],[Value.pointer (some ⟨66,0,none⟩),.pointer (some ⟨66,0,none⟩),.pointer (some { block:=66,off:=1 }),.slice (some ⟨65,0,none⟩) m 9223372036854775873,.int .i64 (↑k),.pointer (some { block:=65,off:=0+(↑k:Int).toNat*1 }),.bool (Zw (Zd undef (bls f m) (0+(↑k:Int).toNat*1))),.bool (Zw (Zd undef (bls f m) (0+(↑k:Int).toNat*1))),undef,undef,undef,undef,.bool false,unk,unk,unk],[unk,unk,unk,unk,unk,unk,unk,unk,unk,unk,unk,unk,unk,unk,unk,unk]],s:={ n:=68,h:=[(67,⟨true,some (67,1),Zk l,none⟩),(66,⟨false,none,[Value.slice (some ⟨64,0,none⟩) N 9223372036854775872,.slice (some ⟨65,0,none⟩) m 9223372036854775873],none⟩),(65,⟨false,some (65,1),bls f m,none⟩),(64,⟨false,some (64,1),u8s zs,none⟩)],lo:=[(67,l.length),(65,m),(64,N)],esc:=0,T:=[],k:=7,O:=((((((bif Qc (0+(↑k:Int).toNat*1+1) (bls f m)&&Zs [Value.bool false] (bls f m) (0+(↑k:Int).toNat*1) then bif decide ((0:Int)≤(↑k:Int))&&decide ((↑k:Int)<(↑m:Int)) then True∧decide ((↑k:Int)<(↑m:Int))=true else False else False)∧Zw (Zd undef (bls f m) (0+(↑k:Int).toNat*1))=false)∧Zw (Zd undef (bls f m) (0+(↑k:Int).toNat*1))=false)∧Zw (Zd undef (bls f m) (0+(↑k:Int).toNat*1))=false)∧Zw (Zd undef (bls f m) (0+(↑k:Int).toNat*1))=false)∧Zw (Zd undef (bls f m) (0+(↑k:Int).toNat*1))=false)∧false=false:St }:Fr }):=by kernel_rfl
theorem Zn0 (g:Nat) (zs:List UInt8) (f:Nat→Bool) (N:Nat) (m:Nat) (l:List Nat) (k:Nat):evC Tryz.prog (evF Tryz.prog ZD Zf 100 20) (Zf 36) 36 100 (ZB Tryz.prog 36 0) (Sf.frT 36 (rtY g zs f N m l k) (tb 7 63))=some (Exit.normal,{ e:=[[Value.pointer (some ⟨66,0,none⟩),.int .i64 (↑g),unk,unk,.slice none 0 0,.slice (some ⟨67,0,none⟩) l.length 9223372036854775875,.int .i64 (i64.wrap ((↑k:Int)+(1:Int))),.int .i64 (↑k),.pointer (some ⟨66,0,none⟩),.pointer (some ⟨66,0,none⟩),.pointer (some { block:=66,off:=1 }),.slice (some ⟨65,0,none⟩) m 9223372036854775873,.int .i64 (↑m),.bool (decide ((↑k:Int)<(↑m:Int))),.int .i64 (↑k),.int .i64 (i64.wrap ((↑k:Int)+(1:Int)))],[Value.pointer (some ⟨66,0,none⟩),.pointer (some ⟨66,0,none⟩),.pointer (some { block:=66,off:=1 }),.slice (some ⟨65,0,none⟩) m 9223372036854775873,.int .i64 (↑k),.pointer (some { block:=65,off:=0+(↑k:Int).toNat*1 }),.bool (Zw (Zd undef (bls f m) (0+(↑k:Int).toNat*1))),.bool (Zw (Zd undef (bls f m) (0+(↑k:Int).toNat*1))),.int .i64 (↑k),.int .i64 (i64.wrap ((↑k:Int).tdiv (16:Int))),.int .i64 (↑g),.bool (i64.wrap ((↑k:Int).tdiv (16:Int))==(↑g:Int)),.bool (i64.wrap ((↑k:Int).tdiv (16:Int))==(↑g:Int)),unk,unk,unk],[unk,unk,unk,unk,unk,unk,unk,unk,unk,unk,unk,unk,unk,unk,unk,unk]],s:={ n:=68,h:=[(67,⟨true,some (67,1),Zk l,none⟩),(66,⟨false,none,[Value.slice (some ⟨64,0,none⟩) N 9223372036854775872,.slice (some ⟨65,0,none⟩) m 9223372036854775873],none⟩),(65,⟨false,some (65,1),bls f m,none⟩),(64,⟨false,some (64,1),u8s zs,none⟩)],lo:=[(67,l.length),(65,m),(64,N)],esc:=0,T:=[],k:=7,O:=((((((bif Qc (0+(↑k:Int).toNat*1+1) (bls f m)&&Zs [Value.bool false] (bls f m) (0+(↑k:Int).toNat*1) then bif decide ((0:Int)≤(↑k:Int))&&decide ((↑k:Int)<(↑m:Int)) then True∧decide ((↑k:Int)<(↑m:Int))=true else False else False)∧Zw (Zd undef (bls f m) (0+(↑k:Int).toNat*1))=true)∧Zw (Zd undef (bls f m) (0+(↑k:Int).toNat*1))=true)∧Zw (Zd undef (bls f m) (0+(↑k:Int).toNat*1))=true)∧Zw (Zd undef (bls f m) (0+(↑k:Int).toNat*1))=true)∧Zw (Zd undef (bls f m) (0+(↑k:Int).toNat*1))=true)∧(i64.wrap ((↑k:Int).tdiv (16:Int))==(↑g:Int))=false:St }:Fr }):=by kernel_rfl
theorem Zn1 (g:Nat) (zs:List UInt8) (f:Nat→Bool) (N:Nat) (m:Nat) (l:List Nat) (k:Nat):evC Tryz.prog (evF Tryz.prog ZD Zf 100 20) (Zf 36) 36 100 (ZB Tryz.prog 36 0) (Sf.frT 36 (rtY g zs f N m l k) (tb 7 127))=some (Exit.normal,{ e:=[[Value.pointer (some ⟨66,0,none⟩),.int .i64 (↑g),unk,unk,.slice none 0 0,.slice (some ⟨69,0,none⟩) (l.length+1) 9223372036854775877,.int .i64 (i64.wrap ((↑k:Int)+(1:Int))),.int .i64 (↑k),.pointer (some ⟨66,0,none⟩),.pointer (some ⟨66,0,none⟩),.pointer (some { block:=66,off:=1 }),.slice (some ⟨65,0,none⟩) m 9223372036854775873,.int .i64 (↑m),.bool (decide ((↑k:Int)<(↑m:Int))),.int .i64 (↑k),.int .i64 (i64.wrap ((↑k:Int)+(1:Int)))],[Value.pointer (some ⟨66,0,none⟩),.pointer (some ⟨66,0,none⟩),.pointer (some { block:=66,off:=1 }),.slice (some ⟨65,0,none⟩) m 9223372036854775873,.int .i64 (↑k),.pointer (some { block:=65,off:=0+(↑k:Int).toNat*1 }),.bool (Zw (Zd undef (bls f m) (0+(↑k:Int).toNat*1))),.bool (Zw (Zd undef (bls f m) (0+(↑k:Int).toNat*1))),.int .i64 (↑k),.int .i64 (i64.wrap ((↑k:Int).tdiv (16:Int))),.int .i64 (↑g),.bool (i64.wrap ((↑k:Int).tdiv (16:Int))==(↑g:Int)),.bool (i64.wrap ((↑k:Int).tdiv (16:Int))==(↑g:Int)),.slice (some ⟨67,0,none⟩) l.length 9223372036854775875,.int .i64 (↑k),.int .i64 (i64.wrap ((16:Int)*(↑k:Int)))],[Value.int .u32 (u32.wrap (i64.wrap ((16:Int)*(↑k:Int)))),.slice (some ⟨68,0,none⟩) 1 1,.slice (some ⟨69,0,none⟩) (l.length+1) 9223372036854775877,unk,unk,unk,unk,unk,unk,unk,unk,unk,unk,unk,unk,unk]],s:={ n:=70,h:=[(69,⟨true,some (69,1),Zk l++[Value.int .u32 (u32.wrap (i64.wrap ((16:Int)*(↑k:Int))))],none⟩),(68,⟨true,none,[Value.int .u32 (u32.wrap (i64.wrap ((16:Int)*(↑k:Int))))],none⟩),(66,⟨false,none,[Value.slice (some ⟨64,0,none⟩) N 9223372036854775872,.slice (some ⟨65,0,none⟩) m 9223372036854775873],none⟩),(65,⟨false,some (65,1),bls f m,none⟩),(64,⟨false,some (64,1),u8s zs,none⟩)],lo:=[(69,l.length+1),(67,l.length),(65,m),(64,N)],esc:=0,T:=[],k:=7,O:=bif (Zr (Zk l)).beq (l.length*1) then bif ((l.length+1)*4).ble 1099511627776&&(l.length+1).blt 4611686018427387904 then((((((bif Qc (0+(↑k:Int).toNat*1+1) (bls f m)&&Zs [Value.bool false] (bls f m) (0+(↑k:Int).toNat*1) then bif decide ((0:Int)≤(↑k:Int))&&decide ((↑k:Int)<(↑m:Int)) then True∧decide ((↑k:Int)<(↑m:Int))=true else False else False)∧Zw (Zd undef (bls f m) (0+(↑k:Int).toNat*1))=true)∧Zw (Zd undef (bls f m) (0+(↑k:Int).toNat*1))=true)∧Zw (Zd undef (bls f m) (0+(↑k:Int).toNat*1))=true)∧Zw (Zd undef (bls f m) (0+(↑k:Int).toNat*1))=true)∧Zw (Zd undef (bls f m) (0+(↑k:Int).toNat*1))=true)∧(i64.wrap ((↑k:Int).tdiv (16:Int))==(↑g:Int))=true else False else False:St }:Fr }):=by kernel_rfl
theorem Zn2 (g:Nat) (zs:List UInt8) (f:Nat→Bool) (N:Nat) (m:Nat) (l:List Nat) (k:Nat):evC Tryz.prog (evF Tryz.prog ZD Zf 100 20) (Zf 36) 36 100 (ZB Tryz.prog 36 0) (Sf.frT 36 (rtY g zs f N m l k) [(0,false)])=some (Exit.exit 0,{ e:=mkE 36 [(0,Value.pointer (some ⟨66,0,none⟩)),(1,.int .i64 (↑g)),(4,.slice none 0 0),(5,.slice (some ⟨67,0,none⟩) l.length 9223372036854775875),(6,.int .i64 (↑k)),(7,.int .i64 (↑k)),(8,.pointer (some ⟨66,0,none⟩)),(9,.pointer (some ⟨66,0,none⟩)),(10,.pointer (some { block:=66,off:=1 })),(11,.slice (some ⟨65,0,none⟩) m 9223372036854775873),(12,.int .i64 (↑m)),(13,.bool (decide ((↑k:Int)<(↑m:Int))))],s:={ n:=68,h:=[(67,⟨true,some (67,1),Zk l,none⟩),(66,⟨false,none,[Value.slice (some ⟨64,0,none⟩) N 9223372036854775872,.slice (some ⟨65,0,none⟩) m 9223372036854775873],none⟩),(65,⟨false,some (65,1),bls f m,none⟩),(64,⟨false,some (64,1),u8s zs,none⟩)],lo:=[(67,l.length),(65,m),(64,N)],esc:=0,T:=[],k:=1,O:=True∧decide ((↑k:Int)<(↑m:Int))=false:St }:Fr }):=by kernel_rfl
def tgYC (g:Nat) (zs:List UInt8) (f:Nat→Bool) (N m n:Nat) (tl:List Nat):Con:=⟨[.pointer (some ⟨67,0,none⟩),.int .i64 (g:Nat)],68,arW false zs f N m n,arO N n,.slice (some ⟨68,0,none⟩) tl.length (big+68),69,[(68,⟨false,some (0,0),Zk tl,none⟩)],[]⟩
def tgE (g:Nat) (out:Value) (k:Nat):List (Nat×Value):=[(0,.pointer (some ⟨67,0,none⟩)),(4,.slice none 0 0),(5,out),(6,.int .i64 (16*g:Nat)),(20,.int .i64 (k:Nat))]
def tgN (g:Nat) (zs:List UInt8) (f:Nat→Bool) (N m n:Nat) (k:Nat):Sf:=⟨68,tgE g (.slice none 0 0) k,arW false zs f N m n,arO N n⟩
def tgO (l:List Nat):Sy.Blk:=⟨true,some (68,1),Zk l,none⟩
def tgY (g:Nat) (zs:List UInt8) (f:Nat→Bool) (N m n:Nat) (l:List Nat) (k:Nat):Sf:=⟨69,tgE g (.slice (some ⟨68,0,none⟩) l.length (big+68)) k,(68,tgO l)::arW false zs f N m n,(68,l.length)::arO N n⟩
theorem Zn3 (g:Nat) (zs:List UInt8) (f:Nat→Bool) (N:Nat) (m:Nat) (n:Nat) (k:Nat):evC Tryz.prog (evF Tryz.prog (ZH 3 (Za3 m n f)) Zf 100 20) (Zf 35) 41 100 (ZB Tryz.prog 35 0) (Sf.frT 41 (tgN g zs f N m n k) [(0,true),(1,false)])=some (Exit.normal,{ e:=mkE 41 [(0,Value.pointer (some ⟨67,0,none⟩)),(4,.slice none 0 0),(5,.slice none 0 0),(6,.int .i64 (↑(16*g))),(7,.int .i64 (↑k)),(20,.int .i64 (i64.wrap ((↑k:Int)+(1:Int)))),(21,.bool (decide ((↑k:Int)<(16:Int)))),(22,.int .i64 (↑k)),(23,.pointer (some ⟨67,0,none⟩)),(24,.pointer (some ⟨67,0,none⟩)),(25,.pointer (some ⟨67,0,none⟩)),(26,.pointer (some ⟨66,0,none⟩)),(27,.int .i64 (↑(16*g))),(28,.int .i64 (↑k)),(29,.int .i64 (i64.wrap ((↑(16*g):Int)+(↑k:Int)))),(30,.bool (f (i64.wrap ((↑(16*g):Int)+(↑k:Int))).toNat)),(39,.int .i64 (i64.wrap ((↑k:Int)+(1:Int))))],s:={ n:=68,h:=[(67,⟨false,none,[Value.pointer (some ⟨66,0,none⟩),.slice (some ⟨64,0,none⟩) N 9223372036854775872],none⟩),(66,⟨false,none,[Value.int .i64 (↑m),.slice (some ⟨65,0,none⟩) n 9223372036854775873],none⟩),(65,⟨false,some (65,1),v64 (Zm f n),none⟩),(64,⟨false,some (64,1),u8s zs,none⟩)],lo:=[(65,n),(64,N)],esc:=0,T:=[],k:=2,O:=((True∧decide ((↑k:Int)<(16:Int))=true)∧((0:Int)≤i64.wrap ((↑(16*g):Int)+(↑k:Int))∧i64.wrap ((↑(16*g):Int)+(↑k:Int))<(↑m:Int))∧(rr (Value.pointer (some ⟨66,0,none⟩))∧rr (Value.int .i64 (i64.wrap ((↑(16*g):Int)+(↑k:Int))))∧True)∧((tt∧tt∧tt∧tt∧tt∧True∧[Value.int .i64 (↑m),.slice (some ⟨65,0,none⟩) n 9223372036854775873]=[Value.int .i64 (↑m),.slice (some ⟨65,0,none⟩) (Zm f n).length 9223372036854775873])∧(tt∧(v64 (Zm f n)).all (okV (fun l=>l.blt 68) 3)=true∧tt∧tt∧tt∧True∧v64 (Zm f n)=List.map (rnV (lift 68 68 [64,65,66,67]) 3) (v64 (Zm f n)))∧True)∧(tt∧n≤n)∧True)∧f (i64.wrap ((↑(16*g):Int)+(↑k:Int))).toNat=false:St }:Fr }):=by kernel_rfl
theorem Zn4 (g:Nat) (zs:List UInt8) (f:Nat→Bool) (N:Nat) (m:Nat) (n:Nat) (k:Nat):evC Tryz.prog (evF Tryz.prog (ZH 3 (Za3 m n f)) Zf 100 20) (Zf 35) 41 100 (ZB Tryz.prog 35 0) (Sf.frT 41 (tgN g zs f N m n k) [(0,true),(1,true)])=some (Exit.normal,{ e:=[[Value.pointer (some ⟨67,0,none⟩),unk,unk,unk,.slice none 0 0,.slice (some ⟨69,0,none⟩) 1 9223372036854775877,.int .i64 (↑(16*g)),.int .i64 (↑k),unk,unk,unk,unk,unk,unk,unk,unk],[unk,unk,unk,unk,.int .i64 (i64.wrap ((↑k:Int)+(1:Int))),.bool (decide ((↑k:Int)<(16:Int))),.int .i64 (↑k),.pointer (some ⟨67,0,none⟩),.pointer (some ⟨67,0,none⟩),.pointer (some ⟨67,0,none⟩),.pointer (some ⟨66,0,none⟩),.int .i64 (↑(16*g)),.int .i64 (↑k),.int .i64 (i64.wrap ((↑(16*g):Int)+(↑k:Int))),.bool (f (i64.wrap ((↑(16*g):Int)+(↑k:Int))).toNat),.slice none 0 0],[Value.int .i64 (↑(16*g)),.int .i64 (↑k),.int .i64 (i64.wrap ((↑(16*g):Int)+(↑k:Int))),.int .i64 (i64.wrap (i64.wrap ((↑(16*g):Int)+(↑k:Int))*(16:Int))),.int .u32 (u32.wrap (i64.wrap (i64.wrap ((↑(16*g):Int)+(↑k:Int))*(16:Int)))),.slice (some ⟨68,0,none⟩) 1 1,.slice (some ⟨69,0,none⟩) 1 9223372036854775877,.int .i64 (i64.wrap ((↑k:Int)+(1:Int))),unk,unk,unk,unk,unk,unk,unk,unk]],s:={ n:=70,h:=[(69,⟨true,some (69,1),[Value.int .u32 (u32.wrap (i64.wrap (i64.wrap ((↑(16*g):Int)+(↑k:Int))*(16:Int))))],none⟩),(68,⟨true,none,[Value.int .u32 (u32.wrap (i64.wrap (i64.wrap ((↑(16*g):Int)+(↑k:Int))*(16:Int))))],none⟩),(67,⟨false,none,[Value.pointer (some ⟨66,0,none⟩),.slice (some ⟨64,0,none⟩) N 9223372036854775872],none⟩),(66,⟨false,none,[Value.int .i64 (↑m),.slice (some ⟨65,0,none⟩) n 9223372036854775873],none⟩),(65,⟨false,some (65,1),v64 (Zm f n),none⟩),(64,⟨false,some (64,1),u8s zs,none⟩)],lo:=[(69,1),(65,n),(64,N)],esc:=0,T:=[],k:=2,O:=((True∧decide ((↑k:Int)<(16:Int))=true)∧((0:Int)≤i64.wrap ((↑(16*g):Int)+(↑k:Int))∧i64.wrap ((↑(16*g):Int)+(↑k:Int))<(↑m:Int))∧(rr (Value.pointer (some ⟨66,0,none⟩))∧rr (Value.int .i64 (i64.wrap ((↑(16*g):Int)+(↑k:Int))))∧True)∧((tt∧tt∧tt∧tt∧tt∧True∧[Value.int .i64 (↑m),.slice (some ⟨65,0,none⟩) n 9223372036854775873]=[Value.int .i64 (↑m),.slice (some ⟨65,0,none⟩) (Zm f n).length 9223372036854775873])∧(tt∧(v64 (Zm f n)).all (okV (fun l=>l.blt 68) 3)=true∧tt∧tt∧tt∧True∧v64 (Zm f n)=List.map (rnV (lift 68 68 [64,65,66,67]) 3) (v64 (Zm f n)))∧True)∧(tt∧n≤n)∧True)∧f (i64.wrap ((↑(16*g):Int)+(↑k:Int))).toNat=true:St }:Fr }):=by kernel_rfl
theorem Zn5 (g:Nat) (zs:List UInt8) (f:Nat→Bool) (N:Nat) (m:Nat) (n:Nat) (k:Nat):evC Tryz.prog (evF Tryz.prog (ZH 3 (Za3 m n f)) Zf 100 20) (Zf 35) 41 100 (ZB Tryz.prog 35 0) (Sf.frT 41 (tgN g zs f N m n k) [(0,false)])=some (Exit.exit 0,{ e:=mkE 41 [(0,Value.pointer (some ⟨67,0,none⟩)),(4,.slice none 0 0),(5,.slice none 0 0),(6,.int .i64 (↑(16*g))),(20,.int .i64 (↑k)),(21,.bool (decide ((↑k:Int)<(16:Int))))],s:={ n:=68,h:=[(67,⟨false,none,[Value.pointer (some ⟨66,0,none⟩),.slice (some ⟨64,0,none⟩) N 9223372036854775872],none⟩),(66,⟨false,none,[Value.int .i64 (↑m),.slice (some ⟨65,0,none⟩) n 9223372036854775873],none⟩),(65,⟨false,some (65,1),v64 (Zm f n),none⟩),(64,⟨false,some (64,1),u8s zs,none⟩)],lo:=[(65,n),(64,N)],esc:=0,T:=[],k:=1,O:=True∧decide ((↑k:Int)<(16:Int))=false:St }:Fr }):=by kernel_rfl
theorem Zn6 (g:Nat) (zs:List UInt8) (f:Nat→Bool) (N:Nat) (m:Nat) (n:Nat) (l:List Nat) (k:Nat):evC Tryz.prog (evF Tryz.prog (ZH 3 (Za3 m n f)) Zf 100 20) (Zf 35) 41 100 (ZB Tryz.prog 35 0) (Sf.frT 41 (tgY g zs f N m n l k) [(0,true),(1,false)])=some (Exit.normal,{ e:=mkE 41 [(0,Value.pointer (some ⟨67,0,none⟩)),(4,.slice none 0 0),(5,.slice (some ⟨68,0,none⟩) l.length 9223372036854775876),(6,.int .i64 (↑(16*g))),(7,.int .i64 (↑k)),(20,.int .i64 (i64.wrap ((↑k:Int)+(1:Int)))),(21,.bool (decide ((↑k:Int)<(16:Int)))),(22,.int .i64 (↑k)),(23,.pointer (some ⟨67,0,none⟩)),(24,.pointer (some ⟨67,0,none⟩)),(25,.pointer (some ⟨67,0,none⟩)),(26,.pointer (some ⟨66,0,none⟩)),(27,.int .i64 (↑(16*g))),(28,.int .i64 (↑k)),(29,.int .i64 (i64.wrap ((↑(16*g):Int)+(↑k:Int)))),(30,.bool (f (i64.wrap ((↑(16*g):Int)+(↑k:Int))).toNat)),(39,.int .i64 (i64.wrap ((↑k:Int)+(1:Int))))],s:={ n:=69,h:=[(68,⟨true,some (68,1),Zk l,none⟩),(67,⟨false,none,[Value.pointer (some ⟨66,0,none⟩),.slice (some ⟨64,0,none⟩) N 9223372036854775872],none⟩),(66,⟨false,none,[Value.int .i64 (↑m),.slice (some ⟨65,0,none⟩) n 9223372036854775873],none⟩),(65,⟨false,some (65,1),v64 (Zm f n),none⟩),(64,⟨false,some (64,1),u8s zs,none⟩)],lo:=[(68,l.length),(65,n),(64,N)],esc:=0,T:=[],k:=2,O:=((True∧decide ((↑k:Int)<(16:Int))=true)∧((0:Int)≤i64.wrap ((↑(16*g):Int)+(↑k:Int))∧i64.wrap ((↑(16*g):Int)+(↑k:Int))<(↑m:Int))∧(rr (Value.pointer (some ⟨66,0,none⟩))∧rr (Value.int .i64 (i64.wrap ((↑(16*g):Int)+(↑k:Int))))∧True)∧((tt∧tt∧tt∧tt∧tt∧True∧[Value.int .i64 (↑m),.slice (some ⟨65,0,none⟩) n 9223372036854775873]=[Value.int .i64 (↑m),.slice (some ⟨65,0,none⟩) (Zm f n).length 9223372036854775873])∧(tt∧(v64 (Zm f n)).all (okV (fun l=>l.blt 68) 3)=true∧tt∧tt∧tt∧True∧v64 (Zm f n)=List.map (rnV (lift 68 69 [64,65,66,67]) 3) (v64 (Zm f n)))∧True)∧(tt∧n≤n)∧True)∧f (i64.wrap ((↑(16*g):Int)+(↑k:Int))).toNat=false:St }:Fr }):=by kernel_rfl
theorem Zn7 (g:Nat) (zs:List UInt8) (f:Nat→Bool) (N:Nat) (m:Nat) (n:Nat) (l:List Nat) (k:Nat):evC Tryz.prog (evF Tryz.prog (ZH 3 (Za3 m n f)) Zf 100 20) (Zf 35) 41 100 (ZB Tryz.prog 35 0) (Sf.frT 41 (tgY g zs f N m n l k) [(0,true),(1,true)])=some (Exit.normal,{ e:=[[Value.pointer (some ⟨67,0,none⟩),unk,unk,unk,.slice none 0 0,.slice (some ⟨70,0,none⟩) (l.length+1) 9223372036854775878,.int .i64 (↑(16*g)),.int .i64 (↑k),unk,unk,unk,unk,unk,unk,unk,unk],[unk,unk,unk,unk,.int .i64 (i64.wrap ((↑k:Int)+(1:Int))),.bool (decide ((↑k:Int)<(16:Int))),.int .i64 (↑k),.pointer (some ⟨67,0,none⟩),.pointer (some ⟨67,0,none⟩),.pointer (some ⟨67,0,none⟩),.pointer (some ⟨66,0,none⟩),.int .i64 (↑(16*g)),.int .i64 (↑k),.int .i64 (i64.wrap ((↑(16*g):Int)+(↑k:Int))),.bool (f (i64.wrap ((↑(16*g):Int)+(↑k:Int))).toNat),.slice (some ⟨68,0,none⟩) l.length 9223372036854775876],[Value.int .i64 (↑(16*g)),.int .i64 (↑k),.int .i64 (i64.wrap ((↑(16*g):Int)+(↑k:Int))),.int .i64 (i64.wrap (i64.wrap ((↑(16*g):Int)+(↑k:Int))*(16:Int))),.int .u32 (u32.wrap (i64.wrap (i64.wrap ((↑(16*g):Int)+(↑k:Int))*(16:Int)))),.slice (some ⟨69,0,none⟩) 1 1,.slice (some ⟨70,0,none⟩) (l.length+1) 9223372036854775878,.int .i64 (i64.wrap ((↑k:Int)+(1:Int))),unk,unk,unk,unk,unk,unk,unk,unk]],s:={ n:=71,h:=[(70,⟨true,some (70,1),Zk l++[Value.int .u32 (u32.wrap (i64.wrap (i64.wrap ((↑(16*g):Int)+(↑k:Int))*(16:Int))))],none⟩),(69,⟨true,none,[Value.int .u32 (u32.wrap (i64.wrap (i64.wrap ((↑(16*g):Int)+(↑k:Int))*(16:Int))))],none⟩),(67,⟨false,none,[Value.pointer (some ⟨66,0,none⟩),.slice (some ⟨64,0,none⟩) N 9223372036854775872],none⟩),(66,⟨false,none,[Value.int .i64 (↑m),.slice (some ⟨65,0,none⟩) n 9223372036854775873],none⟩),(65,⟨false,some (65,1),v64 (Zm f n),none⟩),(64,⟨false,some (64,1),u8s zs,none⟩)],lo:=[(70,l.length+1),(68,l.length),(65,n),(64,N)],esc:=0,T:=[],k:=2,O:=bif (Zr (Zk l)).beq (l.length*1) then bif ((l.length+1)*4).ble 1099511627776&&(l.length+1).blt 4611686018427387904 then((True∧decide ((↑k:Int)<(16:Int))=true)∧((0:Int)≤i64.wrap ((↑(16*g):Int)+(↑k:Int))∧i64.wrap ((↑(16*g):Int)+(↑k:Int))<(↑m:Int))∧(rr (Value.pointer (some ⟨66,0,none⟩))∧rr (Value.int .i64 (i64.wrap ((↑(16*g):Int)+(↑k:Int))))∧True)∧((tt∧tt∧tt∧tt∧tt∧True∧[Value.int .i64 (↑m),.slice (some ⟨65,0,none⟩) n 9223372036854775873]=[Value.int .i64 (↑m),.slice (some ⟨65,0,none⟩) (Zm f n).length 9223372036854775873])∧(tt∧(v64 (Zm f n)).all (okV (fun l=>l.blt 68) 3)=true∧tt∧tt∧tt∧True∧v64 (Zm f n)=List.map (rnV (lift 68 69 [64,65,66,67]) 3) (v64 (Zm f n)))∧True)∧(tt∧n≤n)∧True)∧f (i64.wrap ((↑(16*g):Int)+(↑k:Int))).toNat=true else False else False:St }:Fr }):=by kernel_rfl
theorem Zn8 (g:Nat) (zs:List UInt8) (f:Nat→Bool) (N:Nat) (m:Nat) (n:Nat) (l:List Nat) (k:Nat):evC Tryz.prog (evF Tryz.prog (ZH 3 (Za3 m n f)) Zf 100 20) (Zf 35) 41 100 (ZB Tryz.prog 35 0) (Sf.frT 41 (tgY g zs f N m n l k) [(0,false)])=some (Exit.exit 0,{ e:=mkE 41 [(0,Value.pointer (some ⟨67,0,none⟩)),(4,.slice none 0 0),(5,.slice (some ⟨68,0,none⟩) l.length 9223372036854775876),(6,.int .i64 (↑(16*g))),(20,.int .i64 (↑k)),(21,.bool (decide ((↑k:Int)<(16:Int))))],s:={ n:=69,h:=[(68,⟨true,some (68,1),Zk l,none⟩),(67,⟨false,none,[Value.pointer (some ⟨66,0,none⟩),.slice (some ⟨64,0,none⟩) N 9223372036854775872],none⟩),(66,⟨false,none,[Value.int .i64 (↑m),.slice (some ⟨65,0,none⟩) n 9223372036854775873],none⟩),(65,⟨false,some (65,1),v64 (Zm f n),none⟩),(64,⟨false,some (64,1),u8s zs,none⟩)],lo:=[(68,l.length),(65,n),(64,N)],esc:=0,T:=[],k:=1,O:=True∧decide ((↑k:Int)<(16:Int))=false:St }:Fr }):=by kernel_rfl
def tgK (f:Nat→Bool) (g:Nat):Nat→List Nat
 | 0=>[]
 | k+1=>bif f (16*g+k) then tgK f g k++[(16*g+k)*16] else tgK f g k
theorem Zdk (f:Nat→Bool) (g:Nat):∀ k,(tgK f g k).length≤k
 | 0=>Nat.le_refl _
 | k+1=>by
  have:=Zdk f g k
  unfold tgK
  cases f (16*g+k)
  ·show(tgK f g k).length≤k+1; omega
  ·show(tgK f g k++[_]).length≤k+1; rw[List.length_append]; simp; omega
def tgS (g:Nat) (zs:List UInt8) (f:Nat→Bool) (N m n:Nat):List Nat→Nat→Sf
 | [],k=>tgN g zs f N m n k
 | x::l,k=>tgY g zs f N m n (x::l) k
def tgP (l:List Nat):Sy.Blk:=⟨true,some (69,1),Zk l,none⟩
def tgF:List Nat→Sf
 | []=>⟨68,[(5,.slice none 0 0)],[],[]⟩
 | x::l=>⟨70,[(5,.slice (some ⟨69,0,none⟩) (x::l).length (big+69))],[(69,tgP (x::l))],[(69,(x::l).length)]⟩
theorem Zl7 (g:Nat) (zs:List UInt8) (f:Nat→Bool) (N m n:Nat) (l:List Nat) (k:Nat) (h:l≠[]):tgS g zs f N m n l k=tgY g zs f N m n l k:=by
 cases l with
 | nil=>exact absurd rfl h
 | cons x l=>rfl
theorem Zcn (l:List Nat) (x:Nat):Zk l++[Value.int .u32 (x:Int)]=Zk (l++[x]):=by simp[Zk]
theorem U5 (l:List Nat) (a:Nat) (ha:a≤69) (σ:Nat→Nat) (p:Nat→Bool):(tgF l).Ok (Z3 a (tgF l).n σ p):=by
 cases l with
 | nil=>exact Sf.Ok.mk' 3 trivial rfl (fun x hx=>by obtain rfl:=List.mem_singleton.1 hx; rfl)
 | cons x l =>
  have hq:Z3 a 70 σ p 69=true:=by
   show(Nat.blt 69 NG||(bif Nat.blt 69 a then(Nat.beq (σ 69) 69&&p 69) else Nat.blt 69 70))=true
   rw[ZN (show a≤69 from ha)]; rfl
  refine Sf.Ok.mk' 3 ⟨⟨hq,hq,Zv (Zg _)⟩,trivial⟩ (by show(Z3 a 70 σ p 69&&true)=true; rw[hq]; rfl) (fun y hy => ?_)
  obtain rfl:=List.mem_singleton.1 hy
  show okV (Z3 a 70 σ p) 3 (.slice (some ⟨69,0,none⟩) (x::l).length (big+69))=true
  simp[okV,QP,hq,big]
theorem Zn9 (g:Nat) (zs:List UInt8) (f:Nat→Bool) (N m n:Nat) (l:List Nat) (k:Nat):(tgS g zs f N m n l k).Wf:=by
 cases l with
 | nil=>exact⟨by show 64≤68; omega,Sf.Ok.mk' 3 (KR ZaF false zs f N m n) rfl (fun x hx=>by
   simp only[rr, tt, tgS,tgN,tgE,List.mem_cons,List.not_mem_nil,or_false] at hx
   rcases hx with rfl|rfl|rfl|rfl|rfl<;>rfl)⟩
 | cons x l=>exact⟨by show 64≤69; omega,Sf.Ok.mk' 3 ⟨⟨rfl,rfl,Zv (Zg _)⟩,KR (fun l hl=>by show Nat.blt l 69=true; exact Zt (by omega)) false zs f N m n⟩ rfl (fun x hx=>by
   simp only[rr, tt, tgS,tgY,tgE,List.mem_cons,List.not_mem_nil,or_false] at hx
   rcases hx with rfl|rfl|rfl|rfl|rfl<;>rfl)⟩
theorem Kx {h1:Sy.Heap} {p:Nat→Bool} {σ:Nat→Nat} (hp:∀ l,l<68→p l=true) (hs:∀ l,l<68→σ l=l) (zs:List UInt8) (f:Nat→Bool) (N m n:Nat) (h67:Sy.look h1 67=some ⟨false,none,[.pointer (some ⟨66,0,none⟩),.slice (some ⟨64,0,none⟩) N (big+64)],none⟩) (h66:Sy.look h1 66=some ⟨false,none,[.int .i64 (m:Nat),.slice (some ⟨65,0,none⟩) n (big+65)],none⟩)
  (h65:Sy.look h1 65=some ⟨false,some (65,1),v64 (Zm f n),none⟩) (h64:Sy.look h1 64=some ⟨false,some (64,1),u8s zs,none⟩):Ya 3 p σ h1 (arW false zs f N m n):=by
 have hr:∀ l:List Value,(∀ w∈l,okV (fun l=>Nat.blt l 68) 3 w=true)→l.map (rnV σ 3)=l:=fun l hl=>by
  rw[List.map_congr_left (g:=id) (fun w hw=>WI (p:=fun l=>Nat.blt l 68) (fun l hl=>hs l (by simpa using hl)) 3 w (hl w hw))]
  simp
 have hc:=QO (q:=fun l=>Nat.blt l 68) ZaF N m n
 have hcp:=QO (q:=p) hp N m n
 refine⟨⟨hp 67 (by omega),List.all_eq_true.2 hcp.1,rfl,?_⟩,⟨hp 66 (by omega),List.all_eq_true.2 hcp.2,rfl,?_⟩,⟨hp 65 (by omega),Zh (Z4 _),hp 65 (by omega),?_⟩,⟨hp 64 (by omega),Zh (Zp zs),hp 64 (by omega),?_⟩,trivial⟩
 ·show match Sy.look h1 (σ 67) with|none=>False|some k1=>_
  rw[hs 67 (by omega),h67]; exact⟨rfl,rfl,trivial,(hr _ hc.1).symm⟩
 ·show match Sy.look h1 (σ 66) with|none=>False|some k1=>_
  rw[hs 66 (by omega),h66]; exact⟨rfl,rfl,trivial,(hr _ hc.2).symm⟩
 ·show match Sy.look h1 (σ 65) with|none=>False|some k1=>_
  rw[hs 65 (by omega),h65]
  refine⟨rfl,?_,trivial,(Zi (Z4 _)).symm⟩
  show(opB (some (65,1)) (some (σ 65,1))||_)=true
  rw[hs 65 (by omega)]; rfl
 ·show match Sy.look h1 (σ 64) with|none=>False|some k1=>_
  rw[hs 64 (by omega),h64]
  refine⟨rfl,?_,trivial,(Zi (Zp _)).symm⟩
  show(opB (some (64,1)) (some (σ 64,1))||_)=true
  rw[hs 64 (by omega)]; rfl
theorem Zco (l:List Nat):(Zk l).length=l.length:=by simp[Zk]
theorem ZhB (g:Nat) (zs:List UInt8) (f:Nat→Bool) (N m n:Nat) (h:ArOk zs N m n) (hg:(g+1)*256≤N) :
  ∀ k:{ k:Nat // k≤16 },Qj Tryz.prog 41 (ZB Tryz.prog 35 0) ((tgS g zs f N m n (tgK f g k.1) k.1).fr 41) (.exit 0) ((tgF (tgK f g 16)).fr 41):=by
 obtain⟨hl,h1,h2,h3,h4⟩:=h
 have v1:∀ (σ:Nat→Nat),(v64 (Zm f n)).map (rnV σ 3)=v64 (Zm f n):=fun σ=>Zi (Z4 _)
 have v2:∀ (p:Nat→Bool),(v64 (Zm f n)).all (okV p 3)=true:=fun p=>Zh (Z4 _)
 refine Xn (L:=100) (ZU _ _ 35) (fun _ h=>h) (X:={ k:Nat // k≤16 }) (fun k=>tgS g zs f N m n (tgK f g k.1) k.1) (fun _=>tgF (tgK f g 16)) (fun _ => .exit 0) (fun k=>16-k.1) (fun k=>Zn9 _ _ _ _ _ _ _ _) ?_
 rintro⟨k,hk⟩
 have hbase:=Zu (L:=100) Zn (Z1 (Zd5 m n f h2 h3)) (Zj _) 20
 have hroW:∀ (σ:Nat→Nat),(∀ l,l<68→σ l=l)→∀ y∈arW false zs f N m n,σ y.1=y.1:=fun σ hσ y hy=>by
  simp only[rr, tt, arW,List.mem_cons,List.not_mem_nil,or_false] at hy
  rcases hy with rfl|rfl|rfl|rfl
  ·exact hσ 67 (by omega)
  ·exact hσ 66 (by omega)
  ·exact hσ 65 (by omega)
  ·exact hσ 64 (by omega)
 by_cases hlt:k<16
 ·have e1:i64.wrap (((16*g:Nat):Int)+(k:Int))=((16*g+k:Nat):Int):=by rw[ZaI,XS _ (by omega)]
  have e2:u32.wrap (i64.wrap (((16*g+k:Nat):Int)*(16:Int)))=(((16*g+k)*16:Nat):Int):=by rw[show((16*g+k:Nat):Int)*(16:Int)=(((16*g+k)*16:Nat):Int) by omega,XS _ (by omega),YR _ (by omega)]
  have e5:i64.wrap ((k:Int)+(1:Int))=((k+1:Nat):Int):=ZQ k (by omega)
  have b1:(0:Int)≤((16*g+k:Nat):Int):=by omega
  have b2:((16*g+k:Nat):Int)<(m:Int):=by omega
  have d1:decide ((k:Int)<(16:Int))=true:=decide_eq_true (by omega)
  have hlen:=Zdk f g k
  by_cases hL:tgK f g k=[]
  ·have hI:tgS g zs f N m n (tgK f g k) k=tgN g zs f N m n k:=by rw[hL]; rfl
   show ∃ call T e g' d p σ,ZA Tryz.prog call∧evC Tryz.prog call _ 41 100 _ (Sf.frT 41 (tgS g zs f N m n (tgK f g k) k) T)=some (e,g')∧_
   rw[hI]
   cases hf:f (16*g+k)
   ·have hnext:tgK f g (k+1)=[]:=by unfold tgK; rw[hf,hL]; rfl
    have hr:=Zn3 g zs f N m n k
    simp only[rr, tt, e1,e2,e5,Int.toNat_natCast] at hr
    refine⟨_,_,.normal,_,3,fun l=>Nat.blt l 68,id,hbase,hr,?_,.inl ⟨rfl,⟨k+1,by omega⟩,by show 16-(k+1)<16-k; omega,rfl,rfl,?_⟩⟩
    ·simp only[rr, tt, b1,b2,d1,hf,v1,v2,Qm,and_true,true_and,and_self,Nat.le_refl]
    ·show Sf.Leads 3 _ _ _ _ (tgS g zs f N m n (tgK f g (k+1)) (k+1)) _
     rw[hnext]
     exact⟨fun _ _=>rfl,Kx ZaF (fun _ _=>rfl) zs f N m n rfl rfl rfl rfl,rfl,⟨⟨rfl,Nat.le_refl _⟩,⟨rfl,Nat.le_refl _⟩,trivial⟩,⟨⟨by kernel_rfl,by kernel_rfl⟩,⟨by kernel_rfl,by kernel_rfl⟩,⟨by kernel_rfl,by kernel_rfl⟩,⟨by kernel_rfl,by kernel_rfl⟩,⟨by kernel_rfl,by kernel_rfl⟩,trivial⟩,Nat.le_refl _,fun l hl=>ZN hl,U5 _ _ (by show 68≤69; omega) _ _,fun x _ _ => .inl rfl⟩
   ·have hnext:tgK f g (k+1)=[(16*g+k)*16]:=by unfold tgK; rw[hf,hL]; rfl
    have hr:=Zn4 g zs f N m n k
    simp only[rr, tt, e1,e2,e5,Int.toNat_natCast] at hr
    refine⟨_,_,.normal,_,3,fun l=>Nat.blt l 69,toσ 68 69,hbase,hr,?_,.inl ⟨rfl,⟨k+1,by omega⟩,by show 16-(k+1)<16-k; omega,rfl,rfl,?_⟩⟩
    ·simp only[rr, tt, b1,b2,d1,hf,v1,v2,Qm,and_true,true_and,and_self,Nat.le_refl]
    ·show Sf.Leads 3 _ _ _ _ (tgS g zs f N m n (tgK f g (k+1)) (k+1)) _
     rw[hnext]
     refine⟨fun l hl=>if_neg (by have:NG=64:=rfl; omega),⟨⟨rfl,Zh (Zg _),rfl,?_⟩,Kx (fun l hl=>by show Nat.blt l 69=true; exact Zt (by omega)) (fun l hl=>if_neg (by omega)) zs f N m n rfl rfl rfl rfl⟩,rfl,⟨⟨rfl,?_⟩,⟨rfl,Nat.le_refl _⟩,⟨rfl,Nat.le_refl _⟩,trivial⟩,?_,by show 68≤69; omega,fun l hl=>ZN hl,U5 _ _ (by show 68≤69; omega) _ _,fun y hy hrw => ?_⟩
     ·exact⟨rfl,rfl,trivial,by show _=List.map _ (Zk _); rw[Zi (Zg _)]; try rfl⟩
     ·exact Nat.le_refl _
     ·exact⟨⟨by kernel_rfl,by kernel_rfl⟩,⟨by kernel_rfl,by kernel_rfl⟩,⟨by kernel_rfl,by kernel_rfl⟩,⟨by kernel_rfl,by kernel_rfl⟩,⟨by kernel_rfl,by kernel_rfl⟩,trivial⟩
     ·rcases List.mem_cons.1 hy with rfl|hy
      ·cases hrw
      ·left; exact hroW (toσ 68 69) (fun l hl=>if_neg (by omega)) y hy
  ·have hI:tgS g zs f N m n (tgK f g k) k=tgY g zs f N m n (tgK f g k) k:=Zl7 _ _ _ _ _ _ _ _ hL
   show ∃ call T e g' d p σ,ZA Tryz.prog call∧evC Tryz.prog call _ 41 100 _ (Sf.frT 41 (tgS g zs f N m n (tgK f g k) k) T)=some (e,g')∧_
   rw[hI]
   cases hf:f (16*g+k)
   ·have hnext:tgK f g (k+1)=tgK f g k:=by show(bif f (16*g+k) then _ else _)=_; rw[hf]; rfl
    have hr:=Zn6 g zs f N m n (tgK f g k) k
    simp only[rr, tt, e1,e2,e5,Int.toNat_natCast] at hr
    refine⟨_,_,.normal,_,3,fun l=>Nat.blt l 69,toσ 68 68,hbase,hr,?_,.inl ⟨rfl,⟨k+1,by omega⟩,by show 16-(k+1)<16-k; omega,rfl,rfl,?_⟩⟩
    ·simp only[rr, tt, b1,b2,d1,hf,v1,v2,Qm,and_true,true_and,and_self,Nat.le_refl]
    ·show Sf.Leads 3 _ _ _ _ (tgS g zs f N m n (tgK f g (k+1)) (k+1)) _
     rw[hnext,Zl7 _ _ _ _ _ _ _ _ hL]
     refine⟨fun l hl=>if_neg (by have:NG=64:=rfl; omega),⟨⟨rfl,Zh (Zg _),rfl,?_⟩,Kx (fun l hl=>by show Nat.blt l 69=true; exact Zt (by omega)) (fun l hl=>if_neg (by omega)) zs f N m n rfl rfl rfl rfl⟩,rfl,⟨⟨rfl,?_⟩,⟨rfl,Nat.le_refl _⟩,⟨rfl,Nat.le_refl _⟩,trivial⟩,?_,by show 69≤69; omega,fun l hl=>ZN hl,U5 _ _ (by show 69≤69; omega) _ _,fun y hy hrw => ?_⟩
     ·exact⟨rfl,rfl,trivial,by show _=List.map _ (Zk _); rw[Zi (Zg _)]; try rfl⟩
     ·exact Nat.le_refl _
     ·exact⟨⟨by kernel_rfl,by kernel_rfl⟩,⟨by kernel_rfl,by kernel_rfl⟩,⟨by kernel_rfl,by kernel_rfl⟩,⟨by kernel_rfl,by kernel_rfl⟩,⟨by kernel_rfl,by kernel_rfl⟩,trivial⟩
     ·rcases List.mem_cons.1 hy with rfl|hy
      ·cases hrw
      ·left; exact hroW (toσ 68 68) (fun l hl=>if_neg (by omega)) y hy
   ·have hnext:tgK f g (k+1)=tgK f g k++[(16*g+k)*16]:=by show(bif f (16*g+k) then _ else _)=_; rw[hf]; rfl
    have hr:=Zn7 g zs f N m n (tgK f g k) k
    simp only[rr, tt, e1,e2,e5,Int.toNat_natCast,Zcn] at hr
    have hn1:(tgK f g k).length+1=(tgK f g k++[(16*g+k)*16]).length:=by rw[List.length_append]; rfl
    refine⟨_,_,.normal,_,3,fun l=>Nat.blt l 69,toσ 68 70,hbase,hr,?_,.inl ⟨rfl,⟨k+1,by omega⟩,by show 16-(k+1)<16-k; omega,rfl,rfl,?_⟩⟩
    ·show cond _ _ _
     rw[Zq,Zco,Nat.mul_one,Nat.beq_refl]
     show cond _ _ _
     rw[Nat.ble_eq_true_of_le (by omega),Zt (by omega)]
     simp only[rr, tt, b1,b2,d1,hf,v1,v2,Qm,Bool.and_self,cond_true,and_true,true_and,and_self,Nat.le_refl]
    ·show Sf.Leads 3 _ _ _ _ (tgS g zs f N m n (tgK f g (k+1)) (k+1)) _
     rw[hnext,Zl7 _ _ _ _ _ _ _ _ (by simp)]
     refine⟨fun l hl=>if_neg (by have:NG=64:=rfl; omega),⟨⟨rfl,Zh (Zg _),rfl,?_⟩,Kx (fun l hl=>by show Nat.blt l 69=true; exact Zt (by omega)) (fun l hl=>if_neg (by omega)) zs f N m n rfl rfl rfl rfl⟩,rfl,⟨⟨rfl,?_⟩,⟨rfl,Nat.le_refl _⟩,⟨rfl,Nat.le_refl _⟩,trivial⟩,?_,by show 69≤69; omega,fun l hl=>ZN hl,U5 _ _ (by show 69≤69; omega) _ _,fun y hy hrw => ?_⟩
     ·exact⟨rfl,rfl,trivial,by show _=List.map _ (Zk _); rw[Zi (Zg _)]; try rfl⟩
     ·exact Nat.le_of_eq hn1.symm
     ·rw[hn1]; exact⟨⟨by kernel_rfl,by kernel_rfl⟩,⟨by kernel_rfl,by kernel_rfl⟩,⟨by kernel_rfl,by kernel_rfl⟩,⟨by kernel_rfl,by kernel_rfl⟩,⟨by kernel_rfl,by kernel_rfl⟩,trivial⟩
     ·rcases List.mem_cons.1 hy with rfl|hy
      ·cases hrw
      ·left; exact hroW (toσ 68 70) (fun l hl=>if_neg (by omega)) y hy
 ·have hkk:k=16:=by omega
  subst hkk
  show ∃ call T e g' d p σ,ZA Tryz.prog call∧evC Tryz.prog call _ 41 100 _ (Sf.frT 41 (tgS g zs f N m n (tgK f g 16) 16) T)=some (e,g')∧g'.s.O∧(_∨(e ≠ .normal∧e = .exit 0∧Sf.Leads d p σ (tgS g zs f N m n (tgK f g 16) 16) g' (tgF (tgK f g 16)) (tgF (tgK f g 16))))
  generalize tgK f g 16=L
  cases L with
  | nil =>
   have hr:=Zn5 g zs f N m n 16
   exact⟨_,_,.exit 0,_,3,fun l=>Nat.blt l 68,id,hbase,hr,⟨trivial,rfl⟩,.inr ⟨by simp,rfl,⟨fun _ _=>rfl,trivial,rfl,trivial,⟨⟨by kernel_rfl,by kernel_rfl⟩,trivial⟩,Nat.le_refl _,fun l hl=>ZN hl,U5 _ _ (by show 68≤69; omega) _ _,fun x hx=>by cases hx⟩⟩⟩
  | cons x l =>
   have hr:=Zn8 g zs f N m n (x::l) 16
   refine⟨_,_,.exit 0,_,3,fun l=>Nat.blt l 70,toσ 69 68,hbase,hr,⟨trivial,rfl⟩,.inr ⟨by simp,rfl,⟨fun l hl=>if_neg (by have:NG=64:=rfl; omega),⟨⟨rfl,Zh (Zg _),rfl,?_⟩,trivial⟩,rfl,⟨⟨rfl,Nat.le_refl _⟩,trivial⟩,⟨⟨by kernel_rfl,by kernel_rfl⟩,trivial⟩,by show 69≤70; omega,fun l hl=>ZN hl,U5 _ _ (by show 69≤69; omega) _ _,fun y hy hrw => ?_⟩⟩⟩
   ·exact⟨rfl,rfl,trivial,(Zi (Zg _)).symm⟩
   ·obtain rfl:=List.mem_singleton.1 hy; cases hrw
def tgFy (tl:List Nat):Sf:=⟨70,[(5,.slice (some ⟨69,0,none⟩) tl.length (big+69))],[(69,tgP tl)],[(69,tl.length)]⟩
def ZpQ (g:Nat) (zs:List UInt8) (f:Nat→Bool) (N m n:Nat) (tl:List Nat) (h:ArOk zs N m n) (hg:(g+1)*256≤N) (ht:tgK f g 16=tl) (hne:tl≠[]):Ent Tryz.prog :=
 Vl Tryz.prog 35 0 41 (tgN g zs f N m n 0) (.exit 0) (tgFy tl) (by kernel_rfl) (by kernel_rfl) (by
  have:=ZhB g zs f N m n h hg ⟨0,by omega⟩
  have e:tgF (tgK f g 16)=tgFy tl:=by
   rw[ht]
   cases tl with
   | nil=>exact absurd rfl hne
   | cons x l=>rfl
  rw[e] at this
  exact this)
theorem tg_y (g:Nat) (zs:List UInt8) (f:Nat→Bool) (N m n:Nat) (tl:List Nat) (h:ArOk zs N m n) (hg:(g+1)*256≤N) (ht:tgK f g 16=tl) (hne:tl≠[]):evF Tryz.prog ZD (YD [ZpQ g zs f N m n tl h hg ht hne]) 100 40 35 [Value.pointer (some ⟨67,0,none⟩),.int .i64 (↑g)] ⟨68,arW false zs f N m n,arO N n,0,[(13,false)],0,True⟩=some (Value.slice (some ⟨69,0,none⟩) tl.length 9223372036854775877,{ n:=70,h:=[(69,⟨true,some (69,1),Zk tl,none⟩),(67,⟨false,none,[Value.pointer (some ⟨66,0,none⟩),.slice (some ⟨64,0,none⟩) N 9223372036854775872],none⟩),(66,⟨false,none,[Value.int .i64 (↑m),.slice (some ⟨65,0,none⟩) n 9223372036854775873],none⟩),(65,⟨false,some (65,1),v64 (Zm f n),none⟩),(64,⟨false,some (64,1),u8s zs,none⟩)],lo:=[(69,tl.length),(65,n),(64,N)],esc:=0,T:=[],k:=14,O:=(True∧decide ((↑g:Int)≥i64.wrap ((↑N:Int).tdiv (256:Int)))=false)∧(rr (Value.pointer (some ⟨67,0,none⟩))∧rr (Value.slice none 0 0)∧rr (Value.slice none 0 0)∧Value.int .i64 (i64.wrap ((i64.wrap ((↑g:Int)*(256:Int))).tdiv (16:Int)))=Value.int .i64 (↑(16*g))∧rr (Value.int .i64 0)∧True)∧((tt∧tt∧True∧rr [Value.pointer (some ⟨66,0,none⟩),.slice (some ⟨64,0,none⟩) N 9223372036854775872])∧(tt∧tt∧True∧rr [Value.int .i64 (↑m),.slice (some ⟨65,0,none⟩) n 9223372036854775873])∧(tt∧tt∧True∧rr (v64 (Zm f n)))∧(tt∧tt∧True∧rr (u8s zs))∧True)∧(n≤n∧N≤N∧True)∧True:St }):=by kernel_rfl
def rtK (f:Nat→Bool) (g:Nat):Nat→List Nat
 | 0=>[]
 | k+1=>bif f k&&decide (k/16=g) then rtK f g k++[16*k] else rtK f g k
theorem ZhC (f:Nat→Bool) (g:Nat):∀ k,(rtK f g k).length≤k
 | 0=>Nat.le_refl _
 | k+1=>by
  have:=ZhC f g k
  unfold rtK
  cases f k&&decide (k/16=g)
  ·show(rtK f g k).length≤k+1; omega
  ·show(rtK f g k++[_]).length≤k+1; rw[List.length_append]; simp; omega
theorem U6 (f:Nat→Bool) (g:Nat):∀ k,k≤16*g→rtK f g k=[]
 | 0,_=>rfl
 | k+1,h=>by
  show(bif f k&&decide (k/16=g) then rtK f g k++[16*k] else rtK f g k)=[]
  rw[decide_eq_false (by omega),Bool.and_false]
  exact U6 f g k (by omega)
theorem Zkd (f:Nat→Bool) (g:Nat):∀ k,k≤16→rtK f g (16*g+k)=tgK f g k
 | 0,_=>U6 f g _ (Nat.le_refl _)
 | k+1,h=>by
  show(bif f (16*g+k)&&decide ((16*g+k)/16=g) then rtK f g (16*g+k)++[16*(16*g+k)] else rtK f g (16*g+k))=_
  rw[decide_eq_true (by omega),Bool.and_true,Zkd f g k (by omega),Nat.mul_comm 16 (16*g+k)]
  rfl
theorem Zke (f:Nat→Bool) (g:Nat):∀ k,rtK f g (16*g+16+k)=tgK f g 16
 | 0=>Zkd f g 16 (Nat.le_refl _)
 | k+1=>by
  show(bif f (16*g+16+k)&&decide ((16*g+16+k)/16=g) then rtK f g (16*g+16+k)++[16*(16*g+16+k)] else rtK f g (16*g+16+k))=_
  rw[decide_eq_false (by omega),Bool.and_false]
  exact Zke f g k
def rtS (g:Nat) (zs:List UInt8) (f:Nat→Bool) (N m:Nat):List Nat→Nat→Sf
 | [],k=>rtN g zs f N m k
 | x::l,k=>rtY g zs f N m (x::l) k
theorem Zjh (g:Nat) (zs:List UInt8) (f:Nat→Bool) (N m:Nat) (l:List Nat) (k:Nat) (h:l≠[]):rtS g zs f N m l k=rtY g zs f N m l k:=by
 cases l with
 | nil=>exact absurd rfl h
 | cons x l=>rfl
def rtP (l:List Nat):Sy.Blk:=⟨true,some (68,1),Zk l,none⟩
def rtF:List Nat→Sf
 | []=>⟨67,[(5,.slice none 0 0)],[],[]⟩
 | x::l=>⟨69,[(5,.slice (some ⟨68,0,none⟩) (x::l).length (big+68))],[(68,rtP (x::l))],[(68,(x::l).length)]⟩
theorem K5 (l:List Nat) (a:Nat) (ha:a≤68) (σ:Nat→Nat) (p:Nat→Bool):(rtF l).Ok (Z3 a (rtF l).n σ p):=by
 cases l with
 | nil=>exact Sf.Ok.mk' 3 trivial rfl (fun x hx=>by obtain rfl:=List.mem_singleton.1 hx; rfl)
 | cons x l =>
  have hq:Z3 a 69 σ p 68=true:=by
   show(Nat.blt 68 NG||(bif Nat.blt 68 a then(Nat.beq (σ 68) 68&&p 68) else Nat.blt 68 69))=true
   rw[ZN (show a≤68 from ha)]; rfl
  refine Sf.Ok.mk' 3 ⟨⟨hq,hq,Zv (Zg _)⟩,trivial⟩ (by show(Z3 a 69 σ p 68&&true)=true; rw[hq]; rfl) (fun y hy => ?_)
  obtain rfl:=List.mem_singleton.1 hy
  show okV (Z3 a 69 σ p) 3 (.slice (some ⟨68,0,none⟩) (x::l).length (big+68))=true
  simp[okV,QP,hq,big]
theorem Jw {q:Nat→Bool} (h:∀ l,l<67→q l=true) (rw:Bool) (zs:List UInt8) (f:Nat→Bool) (N m:Nat):OkH q (arR rw zs f N m):=by
 have:=KO h rw zs f N m (l:=[]) trivial
 rwa [List.append_nil] at this
theorem Zoa (g:Nat) (zs:List UInt8) (f:Nat→Bool) (N m:Nat) (l:List Nat) (k:Nat):(rtS g zs f N m l k).Wf:=by
 cases l with
 | nil=>exact⟨by show 64≤67; omega,Sf.Ok.mk' 3 (Jw (ltZ 67) false zs f N m) rfl (fun x hx=>by
   simp only[rr, tt, rtS,rtN,rtE,List.mem_cons,List.not_mem_nil,or_false] at hx
   rcases hx with rfl|rfl|rfl|rfl|rfl<;>rfl)⟩
 | cons x l=>exact⟨by show 64≤68; omega,Sf.Ok.mk' 3 ⟨⟨rfl,rfl,Zv (Zg _)⟩,Jw (fun l hl=>by show Nat.blt l 68=true; exact Zt (by omega)) false zs f N m⟩ rfl (fun x hx=>by
   simp only[rr, tt, rtS,rtY,rtE,List.mem_cons,List.not_mem_nil,or_false] at hx
   rcases hx with rfl|rfl|rfl|rfl|rfl<;>rfl)⟩
theorem Wr {h1:Sy.Heap} {p:Nat→Bool} {σ:Nat→Nat} (hp:∀ l,l<67→p l=true) (hs:∀ l,l<67→σ l=l) (zs:List UInt8) (f:Nat→Bool) (N m:Nat) (h66:Sy.look h1 66=some ⟨false,none,[.slice (some ⟨64,0,none⟩) N (big+64),.slice (some ⟨65,0,none⟩) m (big+65)],none⟩)
  (h65:Sy.look h1 65=some ⟨false,some (65,1),bls f m,none⟩) (h64:Sy.look h1 64=some ⟨false,some (64,1),u8s zs,none⟩):Ya 3 p σ h1 (arR false zs f N m):=by
 have hr:∀ l:List Value,(∀ w∈l,okV (fun l=>Nat.blt l 67) 3 w=true)→l.map (rnV σ 3)=l:=fun l hl=>by
  rw[List.map_congr_left (g:=id) (fun w hw=>WI (p:=fun l=>Nat.blt l 67) (fun l hl=>hs l (by simpa using hl)) 3 w (hl w hw))]
  simp
 refine⟨⟨hp 66 (by omega),List.all_eq_true.2 (Kh (hp 64 (by omega)) (hp 65 (by omega)) N m),rfl,?_⟩,⟨hp 65 (by omega),Zh (Z8 f m),hp 65 (by omega),?_⟩,⟨hp 64 (by omega),Zh (Zp zs),hp 64 (by omega),?_⟩,trivial⟩
 ·show match Sy.look h1 (σ 66) with|none=>False|some k1=>_
  rw[hs 66 (by omega),h66]; exact⟨rfl,rfl,trivial,(hr _ (Kh rfl rfl N m)).symm⟩
 ·show match Sy.look h1 (σ 65) with|none=>False|some k1=>_
  rw[hs 65 (by omega),h65]
  refine⟨rfl,?_,trivial,(Zi (Z8 f m)).symm⟩
  show(opB (some (65,1)) (some (σ 65,1))||_)=true
  rw[hs 65 (by omega)]; rfl
 ·show match Sy.look h1 (σ 64) with|none=>False|some k1=>_
  rw[hs 64 (by omega),h64]
  refine⟨rfl,?_,trivial,(Zi (Zp _)).symm⟩
  show(opB (some (64,1)) (some (σ 64,1))||_)=true
  rw[hs 64 (by omega)]; rfl
theorem Zji (f:Nat→Bool) (m i:Nat) (h:i<m) (b:Bool):Zs [Value.bool b] (bls f m) i=true:=by
 simp only[rr, tt, Zs,Zgl f m i h]; rfl
theorem ZhD (g:Nat) (zs:List UInt8) (f:Nat→Bool) (N m:Nat) (hm:m≤100000) (_hg:g≤100000) :
  ∀ k:{ k:Nat // k≤m },Qj Tryz.prog 36 (ZB Tryz.prog 36 0) ((rtS g zs f N m (rtK f g k.1) k.1).fr 36) (.exit 0) ((rtF (rtK f g m)).fr 36):=by
 refine Xn (L:=100) (ZU _ _ 36) (fun _ h=>h) (X:={ k:Nat // k≤m }) (fun k=>rtS g zs f N m (rtK f g k.1) k.1) (fun _=>rtF (rtK f g m)) (fun _ => .exit 0) (fun k=>m-k.1) (fun k=>Zoa _ _ _ _ _ _ _) ?_
 rintro⟨k,hk⟩
 have hbase:=Zu (P:=Tryz.prog) (L:=100) Zn (Zx _) (Zj _) 20
 have hroR:∀ (σ:Nat→Nat),(∀ l,l<67→σ l=l)→∀ y∈arR false zs f N m,σ y.1=y.1:=fun σ hσ y hy=>by
  simp only[rr, tt, arR,List.mem_cons,List.not_mem_nil,or_false] at hy
  rcases hy with rfl|rfl|rfl
  ·exact hσ 66 (by omega)
  ·exact hσ 65 (by omega)
  ·exact hσ 64 (by omega)
 by_cases hlt:k<m
 ·have e5:i64.wrap ((k:Int)+(1:Int))=((k+1:Nat):Int):=ZQ k (by omega)
  have e6:u32.wrap (i64.wrap ((16:Int)*(k:Int)))=((16*k:Nat):Int):=by rw[show(16:Int)*(k:Int)=((16*k:Nat):Int) by omega,XS _ (by omega),YR _ (by omega)]
  have e7:i64.wrap ((k:Int).tdiv (16:Int))=((k/16:Nat):Int):=by rw[Wm,XS _ (by omega)]
  have d0:decide ((0:Int)≤(k:Int))=true:=decide_eq_true (by omega)
  have hd:decide ((k:Int)<(m:Int))=true:=decide_eq_true (by omega)
  have fl:=Zji f m k hlt false
  have fh:Qc (k+1) (bls f m)=true:=by rw[ZcT]; exact decide_eq_true (by omega)
  have gb:Zw (Zd undef (bls f m) k)=f k:=by rw[Zgl f m k hlt]; rfl
  have hlen:=ZhC f g k
  by_cases hL:rtK f g k=[]
  ·have hI:rtS g zs f N m (rtK f g k) k=rtN g zs f N m k:=by rw[hL]; rfl
   show ∃ call T e g' d p σ,ZA Tryz.prog call∧evC Tryz.prog call _ 36 100 _ (Sf.frT 36 (rtS g zs f N m (rtK f g k) k) T)=some (e,g')∧_
   rw[hI]
   by_cases hf:f k=true
   ·by_cases hq:k/16=g
    ·have hnext:rtK f g (k+1)=[16*k]:=by
      show(bif f k&&decide (k/16=g) then rtK f g k++[16*k] else rtK f g k)=_
      rw[hf,decide_eq_true hq,hL]; rfl
     have hr:=ZnX g zs f N m k
     simp only[rr, tt, e5,e6,e7,Int.toNat_natCast,Nat.zero_add,Nat.mul_one,gb] at hr
     refine⟨_,_,.normal,_,3,fun l=>Nat.blt l 68,toσ 67 68,hbase,hr,?_,.inl ⟨rfl,⟨k+1,by omega⟩,by show m-(k+1)<m-k; omega,rfl,rfl,?_⟩⟩
     ·simp only[rr, tt, hd,d0,fl,fh,hf,hq,beq_self_eq_true,Bool.and_self,cond_true,and_true,true_and,and_self]
     ·show Sf.Leads 3 _ _ _ _ (rtS g zs f N m (rtK f g (k+1)) (k+1)) _
      rw[hnext]
      refine⟨fun l hl=>if_neg (by have:NG=64:=rfl; omega),⟨⟨rfl,Zh (Zg _),rfl,?_⟩,Wr (fun l hl=>by show Nat.blt l 68=true; exact Zt (by omega)) (fun l hl=>if_neg (by omega)) zs f N m rfl rfl rfl⟩,rfl,⟨⟨rfl,?_⟩,⟨rfl,Nat.le_refl _⟩,⟨rfl,Nat.le_refl _⟩,trivial⟩,?_,by show 67≤68; omega,fun l hl=>ZN hl,K5 _ _ (by show 67≤68; omega) _ _,fun y hy hrw => ?_⟩
      ·exact⟨rfl,rfl,trivial,by show _=List.map _ (Zk _); rw[Zi (Zg _)]; try rfl⟩
      ·exact Nat.le_refl _
      ·exact⟨⟨by kernel_rfl,by kernel_rfl⟩,⟨by kernel_rfl,by kernel_rfl⟩,⟨by kernel_rfl,by kernel_rfl⟩,⟨by kernel_rfl,by kernel_rfl⟩,⟨by kernel_rfl,by kernel_rfl⟩,trivial⟩
      ·rcases List.mem_cons.1 hy with rfl|hy
       ·cases hrw
       ·left; exact hroR (toσ 67 68) (fun l hl=>if_neg (by omega)) y hy
    ·have hnext:rtK f g (k+1)=[]:=by
      show(bif f k&&decide (k/16=g) then rtK f g k++[16*k] else rtK f g k)=_
      rw[decide_eq_false hq,Bool.and_false]; exact hL
     have hbq:(((k/16:Nat):Int)==(g:Int))=false:=by rw[beq_eq_false_iff_ne]; omega
     have hr:=ZnW g zs f N m k
     simp only[rr, tt, e5,e6,e7,Int.toNat_natCast,Nat.zero_add,Nat.mul_one,gb] at hr
     refine⟨_,_,.normal,_,3,fun l=>Nat.blt l 67,id,hbase,hr,?_,.inl ⟨rfl,⟨k+1,by omega⟩,by show m-(k+1)<m-k; omega,rfl,rfl,?_⟩⟩
     ·simp only[rr, tt, hd,d0,fl,fh,hf,hbq,Bool.and_self,cond_true,and_true,true_and,and_self]
     ·show Sf.Leads 3 _ _ _ _ (rtS g zs f N m (rtK f g (k+1)) (k+1)) _
      rw[hnext]
      exact⟨fun _ _=>rfl,Wr (ltZ 67) (fun _ _=>rfl) zs f N m rfl rfl rfl,rfl,⟨⟨rfl,Nat.le_refl _⟩,⟨rfl,Nat.le_refl _⟩,trivial⟩,⟨⟨by kernel_rfl,by kernel_rfl⟩,⟨by kernel_rfl,by kernel_rfl⟩,⟨by kernel_rfl,by kernel_rfl⟩,⟨by kernel_rfl,by kernel_rfl⟩,⟨by kernel_rfl,by kernel_rfl⟩,trivial⟩,Nat.le_refl _,fun l hl=>ZN hl,K5 _ _ (by show 67≤68; omega) _ _,fun x _ _ => .inl rfl⟩
   ·have hf':f k=false:=by simpa using hf
    have hnext:rtK f g (k+1)=[]:=by
     show(bif f k&&decide (k/16=g) then rtK f g k++[16*k] else rtK f g k)=_
     rw[hf',Bool.false_and]; exact hL
    have hr:=ZnV g zs f N m k
    simp only[rr, tt, e5,e6,e7,Int.toNat_natCast,Nat.zero_add,Nat.mul_one,gb] at hr
    refine⟨_,_,.normal,_,3,fun l=>Nat.blt l 67,id,hbase,hr,?_,.inl ⟨rfl,⟨k+1,by omega⟩,by show m-(k+1)<m-k; omega,rfl,rfl,?_⟩⟩
    ·simp only[rr, tt, hd,d0,fl,fh,hf',Bool.and_self,cond_true,and_true,true_and,and_self]
    ·show Sf.Leads 3 _ _ _ _ (rtS g zs f N m (rtK f g (k+1)) (k+1)) _
     rw[hnext]
     exact⟨fun _ _=>rfl,Wr (ltZ 67) (fun _ _=>rfl) zs f N m rfl rfl rfl,rfl,⟨⟨rfl,Nat.le_refl _⟩,⟨rfl,Nat.le_refl _⟩,trivial⟩,⟨⟨by kernel_rfl,by kernel_rfl⟩,⟨by kernel_rfl,by kernel_rfl⟩,⟨by kernel_rfl,by kernel_rfl⟩,⟨by kernel_rfl,by kernel_rfl⟩,⟨by kernel_rfl,by kernel_rfl⟩,trivial⟩,Nat.le_refl _,fun l hl=>ZN hl,K5 _ _ (by show 67≤68; omega) _ _,fun x _ _ => .inl rfl⟩
  ·have hI:rtS g zs f N m (rtK f g k) k=rtY g zs f N m (rtK f g k) k:=Zjh _ _ _ _ _ _ _ hL
   show ∃ call T e g' d p σ,ZA Tryz.prog call∧evC Tryz.prog call _ 36 100 _ (Sf.frT 36 (rtS g zs f N m (rtK f g k) k) T)=some (e,g')∧_
   rw[hI]
   by_cases hf:f k=true
   ·by_cases hq:k/16=g
    ·have hnext:rtK f g (k+1)=rtK f g k++[16*k]:=by
      show(bif f k&&decide (k/16=g) then rtK f g k++[16*k] else rtK f g k)=_
      rw[hf,decide_eq_true hq]; rfl
     have hn1:(rtK f g k).length+1=(rtK f g k++[16*k]).length:=by rw[List.length_append]; rfl
     have hr:=Zn1 g zs f N m (rtK f g k) k
     simp only[rr, tt, e5,e6,e7,Int.toNat_natCast,Nat.zero_add,Nat.mul_one,gb,Zcn] at hr
     refine⟨_,_,.normal,_,3,fun l=>Nat.blt l 68,toσ 67 69,hbase,hr,?_,.inl ⟨rfl,⟨k+1,by omega⟩,by show m-(k+1)<m-k; omega,rfl,rfl,?_⟩⟩
     ·show cond _ _ _
      rw[Zq,Zco,Nat.beq_refl]
      show cond _ _ _
      rw[Nat.ble_eq_true_of_le (by omega),Zt (by omega)]
      simp only[rr, tt, hd,d0,fl,fh,hf,hq,beq_self_eq_true,Bool.and_self,cond_true,and_true,true_and,and_self]
     ·show Sf.Leads 3 _ _ _ _ (rtS g zs f N m (rtK f g (k+1)) (k+1)) _
      rw[hnext,Zjh _ _ _ _ _ _ _ (by simp)]
      refine⟨fun l hl=>if_neg (by have:NG=64:=rfl; omega),⟨⟨rfl,Zh (Zg _),rfl,?_⟩,Wr (fun l hl=>by show Nat.blt l 68=true; exact Zt (by omega)) (fun l hl=>if_neg (by omega)) zs f N m rfl rfl rfl⟩,rfl,⟨⟨rfl,?_⟩,⟨rfl,Nat.le_refl _⟩,⟨rfl,Nat.le_refl _⟩,trivial⟩,?_,by show 68≤68; omega,fun l hl=>ZN hl,K5 _ _ (by show 68≤68; omega) _ _,fun y hy hrw => ?_⟩
      ·exact⟨rfl,rfl,trivial,by show _=List.map _ (Zk _); rw[Zi (Zg _)]; try rfl⟩
      ·exact Nat.le_of_eq hn1.symm
      ·rw[hn1]; exact⟨⟨by kernel_rfl,by kernel_rfl⟩,⟨by kernel_rfl,by kernel_rfl⟩,⟨by kernel_rfl,by kernel_rfl⟩,⟨by kernel_rfl,by kernel_rfl⟩,⟨by kernel_rfl,by kernel_rfl⟩,trivial⟩
      ·rcases List.mem_cons.1 hy with rfl|hy
       ·cases hrw
       ·left; exact hroR (toσ 67 69) (fun l hl=>if_neg (by omega)) y hy
    ·have hnext:rtK f g (k+1)=rtK f g k:=by
      show(bif f k&&decide (k/16=g) then rtK f g k++[16*k] else rtK f g k)=_
      rw[decide_eq_false hq,Bool.and_false]; rfl
     have hbq:(((k/16:Nat):Int)==(g:Int))=false:=by rw[beq_eq_false_iff_ne]; omega
     have hr:=Zn0 g zs f N m (rtK f g k) k
     simp only[rr, tt, e5,e6,e7,Int.toNat_natCast,Nat.zero_add,Nat.mul_one,gb] at hr
     refine⟨_,_,.normal,_,3,fun l=>Nat.blt l 68,toσ 67 67,hbase,hr,?_,.inl ⟨rfl,⟨k+1,by omega⟩,by show m-(k+1)<m-k; omega,rfl,rfl,?_⟩⟩
     ·simp only[rr, tt, hd,d0,fl,fh,hf,hbq,Bool.and_self,cond_true,and_true,true_and,and_self]
     ·show Sf.Leads 3 _ _ _ _ (rtS g zs f N m (rtK f g (k+1)) (k+1)) _
      rw[hnext,Zjh _ _ _ _ _ _ _ hL]
      refine⟨fun l hl=>if_neg (by have:NG=64:=rfl; omega),⟨⟨rfl,Zh (Zg _),rfl,?_⟩,Wr (fun l hl=>by show Nat.blt l 68=true; exact Zt (by omega)) (fun l hl=>if_neg (by omega)) zs f N m rfl rfl rfl⟩,rfl,⟨⟨rfl,?_⟩,⟨rfl,Nat.le_refl _⟩,⟨rfl,Nat.le_refl _⟩,trivial⟩,?_,by show 68≤68; omega,fun l hl=>ZN hl,K5 _ _ (by show 68≤68; omega) _ _,fun y hy hrw => ?_⟩
      ·exact⟨rfl,rfl,trivial,by show _=List.map _ (Zk _); rw[Zi (Zg _)]; try rfl⟩
      ·exact Nat.le_refl _
      ·exact⟨⟨by kernel_rfl,by kernel_rfl⟩,⟨by kernel_rfl,by kernel_rfl⟩,⟨by kernel_rfl,by kernel_rfl⟩,⟨by kernel_rfl,by kernel_rfl⟩,⟨by kernel_rfl,by kernel_rfl⟩,trivial⟩
      ·rcases List.mem_cons.1 hy with rfl|hy
       ·cases hrw
       ·left; exact hroR (toσ 67 67) (fun l hl=>if_neg (by omega)) y hy
   ·have hf':f k=false:=by simpa using hf
    have hnext:rtK f g (k+1)=rtK f g k:=by
     show(bif f k&&decide (k/16=g) then rtK f g k++[16*k] else rtK f g k)=_
     rw[hf',Bool.false_and]; rfl
    have hr:=ZnZ g zs f N m (rtK f g k) k
    simp only[rr, tt, e5,e6,e7,Int.toNat_natCast,Nat.zero_add,Nat.mul_one,gb] at hr
    refine⟨_,_,.normal,_,3,fun l=>Nat.blt l 68,toσ 67 67,hbase,hr,?_,.inl ⟨rfl,⟨k+1,by omega⟩,by show m-(k+1)<m-k; omega,rfl,rfl,?_⟩⟩
    ·simp only[rr, tt, hd,d0,fl,fh,hf',Bool.and_self,cond_true,and_true,true_and,and_self]
    ·show Sf.Leads 3 _ _ _ _ (rtS g zs f N m (rtK f g (k+1)) (k+1)) _
     rw[hnext,Zjh _ _ _ _ _ _ _ hL]
     refine⟨fun l hl=>if_neg (by have:NG=64:=rfl; omega),⟨⟨rfl,Zh (Zg _),rfl,?_⟩,Wr (fun l hl=>by show Nat.blt l 68=true; exact Zt (by omega)) (fun l hl=>if_neg (by omega)) zs f N m rfl rfl rfl⟩,rfl,⟨⟨rfl,?_⟩,⟨rfl,Nat.le_refl _⟩,⟨rfl,Nat.le_refl _⟩,trivial⟩,?_,by show 68≤68; omega,fun l hl=>ZN hl,K5 _ _ (by show 68≤68; omega) _ _,fun y hy hrw => ?_⟩
     ·exact⟨rfl,rfl,trivial,by show _=List.map _ (Zk _); rw[Zi (Zg _)]; try rfl⟩
     ·exact Nat.le_refl _
     ·exact⟨⟨by kernel_rfl,by kernel_rfl⟩,⟨by kernel_rfl,by kernel_rfl⟩,⟨by kernel_rfl,by kernel_rfl⟩,⟨by kernel_rfl,by kernel_rfl⟩,⟨by kernel_rfl,by kernel_rfl⟩,trivial⟩
     ·rcases List.mem_cons.1 hy with rfl|hy
      ·cases hrw
      ·left; exact hroR (toσ 67 67) (fun l hl=>if_neg (by omega)) y hy
 ·have hkk:k=m:=by omega
  subst hkk
  show ∃ call T e g' d p σ,ZA Tryz.prog call∧evC Tryz.prog call _ 36 100 _ (Sf.frT 36 (rtS g zs f N k (rtK f g k) k) T)=some (e,g')∧g'.s.O∧(_∨(e ≠ .normal∧e = .exit 0∧Sf.Leads d p σ (rtS g zs f N k (rtK f g k) k) g' (rtF (rtK f g k)) (rtF (rtK f g k))))
  generalize rtK f g k=L
  have hx:decide ((k:Int)<(k:Int))=false:=decide_eq_false (by omega)
  cases L with
  | nil =>
   have hr:=ZnY g zs f N k k
   exact⟨_,_,.exit 0,_,3,fun l=>Nat.blt l 67,id,hbase,hr,⟨trivial,hx⟩,.inr ⟨by simp,rfl,⟨fun _ _=>rfl,trivial,rfl,trivial,⟨⟨by kernel_rfl,by kernel_rfl⟩,trivial⟩,Nat.le_refl _,fun l hl=>ZN hl,K5 _ _ (by show 67≤68; omega) _ _,fun x hx=>by cases hx⟩⟩⟩
  | cons x l =>
   have hr:=Zn2 g zs f N k (x::l) k
   refine⟨_,_,.exit 0,_,3,fun l=>Nat.blt l 69,toσ 68 67,hbase,hr,⟨trivial,hx⟩,.inr ⟨by simp,rfl,⟨fun l hl=>if_neg (by have:NG=64:=rfl; omega),⟨⟨rfl,Zh (Zg _),rfl,?_⟩,trivial⟩,rfl,⟨⟨rfl,Nat.le_refl _⟩,trivial⟩,⟨⟨by kernel_rfl,by kernel_rfl⟩,trivial⟩,by show 68≤69; omega,fun l hl=>ZN hl,K5 _ _ (by show 68≤68; omega) _ _,fun y hy hrw => ?_⟩⟩⟩
   ·exact⟨rfl,rfl,trivial,(Zi (Zg _)).symm⟩
   ·obtain rfl:=List.mem_singleton.1 hy; cases hrw
def ZpR (g:Nat) (zs:List UInt8) (f:Nat→Bool) (N m n:Nat) (h:ArOk zs N m n) (hg:(g+1)*256≤N) (ht:tgK f g 16=[]):Ent Tryz.prog :=
 Vl Tryz.prog 35 0 41 (tgN g zs f N m n 0) (.exit 0) (tgF []) (by kernel_rfl) (by kernel_rfl) (by
  have:=ZhB g zs f N m n h hg ⟨0,by omega⟩
  rw[ht] at this
  exact this)
def rtFy (tl:List Nat):Sf:=⟨69,[(5,.slice (some ⟨68,0,none⟩) tl.length (big+68))],[(68,rtP tl)],[(68,tl.length)]⟩
def ZpS (g:Nat) (zs:List UInt8) (f:Nat→Bool) (N m:Nat) (tl:List Nat) (hm:m≤100000) (hg:g≤100000) (ht:rtK f g m=tl) (hne:tl≠[]):Ent Tryz.prog :=
 Vl Tryz.prog 36 0 36 (rtN g zs f N m 0) (.exit 0) (rtFy tl) (by kernel_rfl) (by kernel_rfl) (by
  have:=ZhD g zs f N m hm hg ⟨0,by omega⟩
  have e:rtF (rtK f g m)=rtFy tl:=by
   rw[ht]
   cases tl with
   | nil=>exact absurd rfl hne
   | cons x l=>rfl
  rw[e] at this
  exact this)
def ZpT (g:Nat) (zs:List UInt8) (f:Nat→Bool) (N m:Nat) (hm:m≤100000) (hg:g≤100000) (ht:rtK f g m=[]):Ent Tryz.prog :=
 Vl Tryz.prog 36 0 36 (rtN g zs f N m 0) (.exit 0) (rtF []) (by kernel_rfl) (by kernel_rfl) (by
  have:=ZhD g zs f N m hm hg ⟨0,by omega⟩
  rw[ht] at this
  exact this)
def rtYC (g:Nat) (zs:List UInt8) (f:Nat→Bool) (N m:Nat) (tl:List Nat):Con:=⟨[.pointer (some ⟨66,0,none⟩),.int .i64 (g:Nat)],67,arR false zs f N m,Zb0 N m,.slice (some ⟨67,0,none⟩) tl.length (big+67),68,[(67,⟨false,some (0,0),Zk tl,none⟩)],[]⟩
def rtNC (g:Nat) (zs:List UInt8) (f:Nat→Bool) (N m:Nat):Con:=⟨[.pointer (some ⟨66,0,none⟩),.int .i64 (g:Nat)],67,arR false zs f N m,Zb0 N m,.slice none 0 0,67,[],[]⟩
theorem tn_y (g:Nat) (zs:List UInt8) (f:Nat→Bool) (N m n:Nat) (h:ArOk zs N m n) (hg:(g+1)*256≤N) (ht:tgK f g 16=[]):obs (evF Tryz.prog ZD (YD [ZpR g zs f N m n h hg ht]) 100 40 35 [Value.pointer (some ⟨67,0,none⟩),.int .i64 (↑g)] ⟨68,arW false zs f N m n,arO N n,0,[(13,false)],0,True⟩)=some (Value.slice none 0 0,(True∧decide ((↑g:Int)≥i64.wrap ((↑N:Int).tdiv (256:Int)))=false)∧(rr (Value.pointer (some ⟨67,0,none⟩))∧rr (Value.slice none 0 0)∧rr (Value.slice none 0 0)∧Value.int .i64 (i64.wrap ((i64.wrap ((↑g:Int)*(256:Int))).tdiv (16:Int)))=Value.int .i64 (↑(16*g))∧rr (Value.int .i64 0)∧True)∧((tt∧tt∧True∧rr [Value.pointer (some ⟨66,0,none⟩),.slice (some ⟨64,0,none⟩) N 9223372036854775872])∧(tt∧tt∧True∧rr [Value.int .i64 (↑m),.slice (some ⟨65,0,none⟩) n 9223372036854775873])∧(tt∧tt∧True∧rr (v64 (Zm f n)))∧(tt∧tt∧True∧rr (u8s zs))∧True)∧(n≤n∧N≤N∧True)∧True):=by kernel_rfl
theorem ZpU (g:Nat) (zs:List UInt8) (f:Nat→Bool) (N m:Nat) (tl:List Nat) (hm:m≤100000) (hg:g≤100000) (ht:rtK f g m=tl) (hne:tl≠[]):evF Tryz.prog ZD (YD [ZpS g zs f N m tl hm hg ht hne]) 100 40 36 [Value.pointer (some ⟨66,0,none⟩),.int .i64 (↑g)] ⟨67,arR false zs f N m,Zb0 N m,0,[],0,True⟩=some (Value.slice (some ⟨68,0,none⟩) tl.length 9223372036854775876,{ n:=69,h:=[(68,⟨true,some (68,1),Zk tl,none⟩),(66,⟨false,none,[Value.slice (some ⟨64,0,none⟩) N 9223372036854775872,.slice (some ⟨65,0,none⟩) m 9223372036854775873],none⟩),(65,⟨false,some (65,1),bls f m,none⟩),(64,⟨false,some (64,1),u8s zs,none⟩)],lo:=[(68,tl.length),(65,m),(64,N)],esc:=0,T:=[],k:=0,O:=True∧(rr (Value.pointer (some ⟨66,0,none⟩))∧rr (Value.int .i64 (↑g))∧rr (Value.slice none 0 0)∧rr (Value.slice none 0 0)∧rr (Value.int .i64 0)∧True)∧((tt∧tt∧True∧rr [Value.slice (some ⟨64,0,none⟩) N 9223372036854775872,.slice (some ⟨65,0,none⟩) m 9223372036854775873])∧(tt∧tt∧True∧rr (bls f m))∧(tt∧tt∧True∧rr (u8s zs))∧True)∧(m≤m∧N≤N∧True)∧True:St }):=by kernel_rfl
theorem ZpV (g:Nat) (zs:List UInt8) (f:Nat→Bool) (N m:Nat) (hm:m≤100000) (hg:g≤100000) (ht:rtK f g m=[]):obs (evF Tryz.prog ZD (YD [ZpT g zs f N m hm hg ht]) 100 40 36 [Value.pointer (some ⟨66,0,none⟩),.int .i64 (↑g)] ⟨67,arR false zs f N m,Zb0 N m,0,[],0,True⟩)=some (Value.slice none 0 0,True∧(rr (Value.pointer (some ⟨66,0,none⟩))∧rr (Value.int .i64 (↑g))∧rr (Value.slice none 0 0)∧rr (Value.slice none 0 0)∧rr (Value.int .i64 0)∧True)∧((tt∧tt∧True∧rr [Value.slice (some ⟨64,0,none⟩) N 9223372036854775872,.slice (some ⟨65,0,none⟩) m 9223372036854775873])∧(tt∧tt∧True∧rr (bls f m))∧(tt∧tt∧True∧rr (u8s zs))∧True)∧(m≤m∧N≤N∧True)∧True):=by kernel_rfl
theorem Zl8 (g:Nat) (zs:List UInt8) (f:Nat→Bool) (N m n:Nat) (h:ArOk zs N m n) (hg:(g+1)*256≤N) (ht:tgK f g 16=[]):ConOk Tryz.prog 35 3 (ZmZ g zs f N m n)∧FlatC (ZmZ g zs f N m n):=by
 obtain⟨hl,h1,h2,h3,h4⟩:=h
 have hr:=tn_y g zs f N m n ⟨hl,h1,h2,h3,h4⟩ hg ht
 have e1:i64.wrap ((i64.wrap ((g:Int)*(256:Int))).tdiv (16:Int))=((16*g:Nat):Int):=by
  rw[show(g:Int)*(256:Int)=((g*256:Nat):Int) by omega,XS _ (by omega),Wm,XS _ (by omega)]
  omega
 have e2:i64.wrap ((N:Int).tdiv (256:Int))=((N/256:Nat):Int):=by rw[show(N:Int).tdiv (256:Int)=((N/256:Nat):Int) from(Int.ofNat_tdiv N 256).symm,XS _ (by omega)]
 refine Zc0 (Zu (L:=100) Zn (Zx _) (Z5 _) 40) rfl rfl rfl hr ?_
 simp only[rr, tt, e1,e2,and_true,true_and,and_self,Nat.le_refl]
 exact decide_eq_false (by omega)
theorem Zl9 (g:Nat) (zs:List UInt8) (f:Nat→Bool) (N m n:Nat) (tl:List Nat) (h:ArOk zs N m n) (hg:(g+1)*256≤N) (ht:tgK f g 16=tl) (hne:tl≠[]):ConOk Tryz.prog 35 3 (tgYC g zs f N m n tl):=by
 obtain⟨hl,h1,h2,h3,h4⟩:=h
 have hr:=tg_y g zs f N m n tl ⟨hl,h1,h2,h3,h4⟩ hg ht hne
 have e1:i64.wrap ((i64.wrap ((g:Int)*(256:Int))).tdiv (16:Int))=((16*g:Nat):Int):=by
  rw[show(g:Int)*(256:Int)=((g*256:Nat):Int) by omega,XS _ (by omega),Wm,XS _ (by omega)]
  omega
 have e2:i64.wrap ((N:Int).tdiv (256:Int))=((N/256:Nat):Int):=by rw[show(N:Int).tdiv (256:Int)=((N/256:Nat):Int) from(Int.ofNat_tdiv N 256).symm,XS _ (by omega)]
 refine ZF (Zu (L:=100) Zn (Zx _) (Z5 _) 40) ⟨by show 64≤68; omega,by show 68≤69; omega,KR ZaF false zs f N m n,rfl,rfl,rfl,rfl,rfl,fun x hx v hv => ?_⟩ hr ?_ (p:=fun l=>Nat.blt l 69) (σ:=toσ 68 69) ⟨fun l hl=>if_neg (by have:NG=64:=rfl; omega),⟨⟨rfl,Zh (Zg _),rfl,?_⟩,trivial⟩,rfl,trivial,⟨rfl,by kernel_rfl⟩,rfl,⟨⟨rfl,rfl,Zv (Zg _)⟩,trivial⟩,rfl,ZM 3 _ rfl,fun x hx hrw => ?_⟩
 ·obtain rfl:=List.mem_singleton.1 hx
  exact ZS (Zg _ v hv) 3
 ·simp only[rr, tt, e1,e2,and_true,true_and,and_self,Nat.le_refl]
  exact decide_eq_false (by omega)
 ·exact⟨rfl,rfl,trivial,(Zi (Zg _)).symm⟩
 ·obtain rfl:=List.mem_singleton.1 hx
  right; rfl
theorem Zjj (g:Nat) (zs:List UInt8) (f:Nat→Bool) (N m:Nat) (tl:List Nat) (hm:m≤100000) (hg:g≤100000) (ht:rtK f g m=tl) (hne:tl≠[]):ConOk Tryz.prog 36 3 (rtYC g zs f N m tl):=by
 have hr:=ZpU g zs f N m tl hm hg ht hne
 refine ZF (Zu (L:=100) Zn (Zx _) (Z5 _) 40) ⟨by show 64≤67; omega,by show 67≤68; omega,Jw (ltZ 67) false zs f N m,rfl,rfl,rfl,rfl,rfl,fun x hx v hv => ?_⟩ hr ?_ (p:=fun l=>Nat.blt l 68) (σ:=toσ 67 68) ⟨fun l hl=>if_neg (by have:NG=64:=rfl; omega),⟨⟨rfl,Zh (Zg _),rfl,?_⟩,trivial⟩,rfl,trivial,⟨rfl,by kernel_rfl⟩,rfl,⟨⟨rfl,rfl,Zv (Zg _)⟩,trivial⟩,rfl,ZM 3 _ rfl,fun x hx hrw => ?_⟩
 ·obtain rfl:=List.mem_singleton.1 hx
  exact ZS (Zg _ v hv) 3
 ·simp only[rr, tt, and_true,true_and,and_self,Nat.le_refl]
 ·exact⟨rfl,rfl,trivial,(Zi (Zg _)).symm⟩
 ·obtain rfl:=List.mem_singleton.1 hx
  right; rfl
theorem Zjk (g:Nat) (zs:List UInt8) (f:Nat→Bool) (N m:Nat) (hm:m≤100000) (hg:g≤100000) (ht:rtK f g m=[]):ConOk Tryz.prog 36 3 (rtNC g zs f N m):=by
 have hr:=ZpV g zs f N m hm hg ht
 unfold obs at hr
 obtain⟨⟨v',s'⟩,h1,h2⟩:=oM hr
 simp only[rr, tt, Prod.mk.injEq] at h2
 obtain⟨rfl,h2⟩:=h2
 refine ZF (Zu (L:=100) Zn (Zx _) (Z5 _) 40) ⟨by show 64≤67; omega,Nat.le_refl _,Jw (ltZ 67) false zs f N m,rfl,rfl,rfl,rfl,rfl,fun x hx=>by cases hx⟩ h1 ?_ (p:=fun l=>Nat.blt l 67) (σ:=id) ⟨fun _ _=>rfl,trivial,rfl,trivial,⟨rfl,rfl⟩,rfl,trivial,rfl,ZM 3 _ rfl,fun x hx=>by cases hx⟩
 rw[h2]
 simp only[rr, tt, and_true,true_and,and_self,Nat.le_refl]
end Go.Proofs.YtliidiceljdgmaaGreat
namespace Go.Proofs.YtliidiceljdgmaaGreat.Sy
open Go.IntKind (u8 u16 u32 u64 i64)
open Go.RowKit
theorem Zjl {P:Program} {nt L:Nat} {c:Code} {X:Type} (I F:X→Sf) (ex:X→Exit) (μ:X→Nat) (hI:∀ x,(I x).Wf)
  (hround:∀ x,∃ (call:Qb) (lp:Vz) (S:List Code) (T:List (Nat×Bool)) (e:Exit) (g:Fr) (d:Nat) (p:Nat→Bool) (σ:Nat→Nat),ZA P call∧QI P S lp∧(∀ c'∈loops c,c'∈S)∧evC P call lp nt L c ((I x).frT nt T)=some (e,g)∧g.s.O ∧
   ((e = .normal∧∃ y,μ y<μ x∧F y=F x∧ex y=ex x∧Sf.Leads d p σ (I x) g (I y) (F x))∨(e ≠ .normal∧e=ex x∧Sf.Leads d p σ (I x) g (F x) (F x)))) :
  ∀ x,Qj P nt c ((I x).fr nt) (ex x) ((F x).fr nt):=by
 have key:∀ m x,μ x=m→Qj P nt c ((I x).fr nt) (ex x) ((F x).fr nt):=by
  intro m
  induction m using Nat.strongRecOn with
  | _ m ih =>
   intro x hm r a w Q hf hwf hg hfr hQ
   obtain⟨call,lp,S,T,e,g,d,p,σ,hcall,hlp,hS0,hev,hO,hcase⟩:=hround x
   have hx:=hI x
   have hgl:=hg.low hx.ok.s
   have hfl:=hf.low (hx.ok.t nt)
   refine Xm ?_
   refine(Wh hcall hlp (ZaA hcall) L c _ _ _ hS0 hev hO (r.low (I x).n) a w _ hfl hwf (hgl.same rfl rfl) (Ke hx.ng) ?_).1
   intro r1 a1 w1 T0 hf1
   have T1:To (r.low (I x).n) (I x).st w r1 g.s w1:=T0.start rfl rfl rfl
   rcases hcase with⟨rfl,y,hy1,hy2,hy3,hL⟩|⟨hne,rfl,hL⟩
   ·have hy:=hI y
    have hS:=Ve hL.h hL.inj hL.lo
    have hgy:=hS.good hL.σ0 T1.good
    have hfy:=hL.l.fits hL.σ0 hf1
    have hfrY:QQ (r1.by σ p) (I y).n (F y).n:=fun l hl _=>by
     have h1:Nat.blt l NG=false:=by
      cases h:Nat.blt l NG
      ·rfl
      ·have:=hy.ng; simp at h; omega
     show(Nat.blt l NG||(p l&&r1.d (σ l)))=false
     rw[h1,hL.pn l hl]; rfl
    refine ih (μ y) (by omega) y rfl (r1.by σ p) a1 w1 Q hfy hy.wfn hgy hfrY ?_
    rw[hy2,hy3]
    intro r3 a3 w3 T2 hf3
    obtain⟨T3,hv⟩:=T1.behind hg hx.ng hL.σ0 hS T2 hL.n hfr hL.keep.s (fun g k hk=>hL.ro _ (ZV hk))
    refine hQ _ a3 w3 T3 ⟨hf3.size,hf3.defers,fun t => ?_⟩
    rcases hL.keep.t nt t with h|h
    ·exact .inl h
    ·exact hv _ _ h (hf3.tmps t)
   ·have hS:=Ve hL.h hL.inj hL.lo
    have hgy:=hS.good hL.σ0 T1.good
    have hfy:=hL.l.fits hL.σ0 hf1
    obtain⟨T3,hv⟩:=T1.behind hg hx.ng hL.σ0 hS (To.refl hgy) hL.n hfr hL.keep.s (fun g k hk=>hL.ro _ (ZV hk))
    have:=hQ _ a1 w1 T3 ⟨hfy.size,hfy.defers,fun t=>by
     rcases hL.keep.t nt t with h|h
     ·exact .inl h
     ·exact hv _ _ h (hfy.tmps t)⟩
    cases hex:ex x with
    | normal=>exact absurd hex hne
    | _=>rw[hex] at this; exact this
 exact fun x=>key _ x rfl
theorem Zjm (b:Code):∀ c,c∈loops b→∀ c'∈loops c,c'∈loops b:=by
 induction b with
 | seq a b iha ihb =>
  intro c h c' h'
  rcases List.mem_append.1 (show c∈loops a++loops b from h) with h1|h1
  ·exact List.mem_append_left _ (iha c h1 c' h')
  ·exact List.mem_append_right _ (ihb c h1 c' h')
 | cond x a b iha ihb =>
  intro c h c' h'
  rcases List.mem_append.1 (show c∈loops a++loops b from h) with h1|h1
  ·exact List.mem_append_left _ (iha c h1 c' h')
  ·exact List.mem_append_right _ (ihb c h1 c' h')
 | block n a ih=>exact fun c h c' h'=>ih c h c' h'
 | loop a ih =>
  intro c h c' h'
  rcases List.mem_cons.1 (show c∈a::loops a from h) with rfl|h1
  ·exact List.mem_cons_of_mem _ h'
  ·exact List.mem_cons_of_mem _ (ih c h1 c' h')
 | _=>intro c h; cases h
theorem Zcp {α:Type} (d:α):∀ (l:List α) (i:Nat),i<l.length→Zd d l i∈l
 | [],i,h=>by simp at h
 | x::l,0,_=>List.mem_cons_self ..
 | x::l,i+1,h=>List.mem_cons_of_mem _ (Zcp d l i (by simp at h; omega))
theorem Zma {P:Program} {f:FuncId} {i:Nat} (h:Nat.blt i (Zr (loops (YH P f)))=true) (l:List (Ent P)) :
  QI P (loops (YH P f)) (YD l f)∧∀ c'∈loops (ZB P f i),c'∈loops (YH P f):=by
 have hi:i<(loops (YH P f)).length:=by rw[Zq] at h; simpa using h
 refine⟨?_,fun c' hc'=>Zjm _ _ (Zcp _ _ i hi) c' hc'⟩
 cases h1:(P.funcs[f]?).bind (·.body) with
 | none =>
  have hb:YH P f = .skip:=by unfold YH; rw[h1]
  rw[hb] at hi
  exact absurd hi (by simp[loops])
 | some c =>
  have hb:YH P f=c:=by unfold YH; rw[h1]
  obtain⟨fn,h2,h3⟩:=oB h1
  rw[hb]
  exact Z5 l f fn c h2 h3
end Go.Proofs.YtliidiceljdgmaaGreat.Sy
namespace Go.Proofs.YtliidiceljdgmaaGreat
open Go.IntKind (u8 u16 u32 u64 i64)
open Go.RowKit
open Sy
set_option maxRecDepth 100000
def arS (zs:List UInt8) (f:Nat→Bool) (N m:Nat):Sy.Heap:=[(70,⟨false,none,[.slice (some ⟨68,0,none⟩) N (big+68),.slice (some ⟨69,0,none⟩) m (big+69)],none⟩),(69,⟨false,some (69,1),bls f m,none⟩),(68,⟨false,some (68,1),u8s zs,none⟩)]
def saH (zs:List UInt8) (f:Nat→Bool) (N m n:Nat):Sy.Heap:=arW false zs f N m n++arS zs f N m
def saO (N m n:Nat):List (Nat×Nat):=arO N n++[(69,m),(68,N)]
def saE (g:Nat):List (Nat×Value):=[(0,.pointer (some ⟨67,0,none⟩)),(1,.pointer (some ⟨70,0,none⟩)),(4,.bool false),(7,.int .i64 (g:Nat))]
def sbI (g:Nat) (tl:List Nat) (k:Nat):Sf:=⟨73,saE g++[(8,.slice (some ⟨71,0,none⟩) tl.length (big+71)),(9,.slice (some ⟨72,0,none⟩) tl.length (big+72)),(10,.int .i64 (k:Nat))],[(71,⟨false,some (0,0),Zk tl,none⟩),(72,⟨false,some (0,0),Zk tl,none⟩)],[]⟩
def saI (zs:List UInt8) (f:Nat→Bool) (N m n:Nat) (k:Nat):Sf:=⟨71,saE k,saH zs f N m n,saO N m n⟩
theorem sb_a (g:Nat) (tl:List Nat) (k:Nat):Option.map (Uu 65 [0,1,4,7,8,9,10] [71,72]) (evC Tryz.prog (evF Tryz.prog ZD Zf 100 20) (Zf 8) 65 100 (ZB Tryz.prog 8 1) (Sf.frT 65 (sbI g tl k) [(0,true),(1,false)]))=some (Exit.normal,{ e:=mkE 65 [(0,.pointer (some ⟨67,0,none⟩)),(1,.pointer (some ⟨70,0,none⟩)),(4,.bool false),(7,.int .i64 (↑g)),(8,.slice (some ⟨71,0,none⟩) tl.length 9223372036854775879),(9,.slice (some ⟨72,0,none⟩) tl.length 9223372036854775880),(10,.int .i64 (i64.wrap ((↑k:Int)+(1:Int))))],s:={ n:=73,h:=[(71,⟨false,some (0,0),Zk tl,none⟩),(72,⟨false,some (0,0),Zk tl,none⟩)],lo:=[],esc:=0,T:=[],k:=0,O:=(bif Qc (0+(↑k:Int).toNat*1+1) (Zk tl)&&Zs [Value.int .u32 0] (Zk tl) (0+(↑k:Int).toNat*1) then bif decide ((0:Int)≤(↑k:Int))&&decide ((↑k:Int)<(↑tl.length:Int)) then bif Qc (0+(↑k:Int).toNat*1+1) (Zk tl)&&Zs [Value.int .u32 0] (Zk tl) (0+(↑k:Int).toNat*1) then bif decide ((0:Int)≤(↑k:Int))&&decide ((↑k:Int)<(↑tl.length:Int)) then True∧decide ((↑k:Int)<(↑tl.length:Int))=true else False else False else False else False)∧(Zb (Zd undef (Zk tl) (0+(↑k:Int).toNat*1)) !=Zb (Zd undef (Zk tl) (0+(↑k:Int).toNat*1)))=false:St }:Fr }):=by kernel_rfl
theorem sb_e (g:Nat) (tl:List Nat) (k:Nat):Option.map (Uu 65 [0,1,4,7] []) (evC Tryz.prog (evF Tryz.prog ZD Zf 100 20) (Zf 8) 65 100 (ZB Tryz.prog 8 1) (Sf.frT 65 (sbI g tl k) [(0,false)]))=some (Exit.exit 2,{ e:=mkE 65 [(0,.pointer (some ⟨67,0,none⟩)),(1,.pointer (some ⟨70,0,none⟩)),(4,.bool false),(7,.int .i64 (↑g))],s:={ n:=73,h:=[],lo:=[],esc:=0,T:=[],k:=0,O:=True∧decide ((↑k:Int)<(↑tl.length:Int))=false:St }:Fr }):=by kernel_rfl
theorem sa_e (zs:List UInt8) (f:Nat→Bool) (N:Nat) (m:Nat) (n:Nat) (k:Nat):Option.map (Uu 65 [] []) (evC Tryz.prog (evF Tryz.prog ZD Zf 100 20) (Zf 8) 65 100 (ZB Tryz.prog 8 0) (Sf.frT 65 (saI zs f N m n k) [(0,false)]))=some (Exit.exit 0,{ e:=mkE 65 [],s:={ n:=71,h:=[],lo:=[(65,n),(64,N),(69,m),(68,N)],esc:=0,T:=[],k:=0,O:=True∧decide ((↑k:Int)<i64.wrap ((↑N:Int).tdiv (256:Int)))=false:St }:Fr }):=by kernel_rfl
theorem sa_n (zs:List UInt8) (f:Nat→Bool) (N:Nat) (m:Nat) (n:Nat) (k:Nat):Option.map (Uu 65 [0,1,4,7] [64,65,66,67,68,69,70]) (evC Tryz.prog (evF Tryz.prog (QA 3 (ZT [(71,35,ZmZ k zs f N m n,[64,65,66,67]),(71,36,rtNC k zs f N m,[68,69,70])]) ZD) Zf 100 20) (Zf 8) 65 100 (ZB Tryz.prog 8 0) (Sf.frT 65 (saI zs f N m n k) [(0,true)]))=some (Exit.normal,{ e:=mkE 65 [(0,.pointer (some ⟨67,0,none⟩)),(1,.pointer (some ⟨70,0,none⟩)),(4,.bool false),(7,.int .i64 (i64.wrap ((↑k:Int)+(1:Int))))],s:={ n:=71,h:=[(67,⟨false,none,[Value.pointer (some ⟨66,0,none⟩),.slice (some ⟨64,0,none⟩) N 9223372036854775872],none⟩),(66,⟨false,none,[Value.int .i64 (↑m),.slice (some ⟨65,0,none⟩) n 9223372036854775873],none⟩),(65,⟨false,some (65,1),v64 (Zm f n),none⟩),(64,⟨false,some (64,1),u8s zs,none⟩),(70,⟨false,none,[Value.slice (some ⟨68,0,none⟩) N 9223372036854775876,.slice (some ⟨69,0,none⟩) m 9223372036854775877],none⟩),(69,⟨false,some (69,1),bls f m,none⟩),(68,⟨false,some (68,1),u8s zs,none⟩)],lo:=[(65,n),(64,N),(69,m),(68,N)],esc:=0,T:=[],k:=0,O:=((True∧decide ((↑k:Int)<i64.wrap ((↑N:Int).tdiv (256:Int)))=true)∧True∧(rr (Value.pointer (some ⟨67,0,none⟩))∧rr (Value.int .i64 (↑k))∧True)∧((tt∧tt∧tt∧tt∧tt∧True∧rr [Value.pointer (some ⟨66,0,none⟩),.slice (some ⟨64,0,none⟩) N 9223372036854775872])∧(tt∧tt∧tt∧tt∧tt∧True∧rr [Value.int .i64 (↑m),.slice (some ⟨65,0,none⟩) n 9223372036854775873])∧(tt∧(v64 (Zm f n)).all (okV (fun l=>l.blt 68) 3)=true∧tt∧tt∧tt∧True∧v64 (Zm f n)=List.map (rnV (lift 68 71 [64,65,66,67]) 3) (v64 (Zm f n)))∧(tt∧(u8s zs).all (okV (fun l=>l.blt 68) 3)=true∧tt∧tt∧tt∧True∧u8s zs=List.map (rnV (lift 68 71 [64,65,66,67]) 3) (u8s zs))∧True)∧(tt∧n≤n)∧(tt∧N≤N)∧True)∧True∧(rr (Value.pointer (some ⟨70,0,none⟩))∧rr (Value.int .i64 (↑k))∧True)∧((tt∧tt∧tt∧tt∧tt∧True∧rr [Value.slice (some ⟨68,0,none⟩) N 9223372036854775876,.slice (some ⟨69,0,none⟩) m 9223372036854775877])∧(tt∧(bls f m).all (okV (fun l=>l.blt 67) 3)=true∧tt∧tt∧tt∧True∧bls f m=List.map (rnV (lift 67 71 [68,69,70]) 3) (bls f m))∧(tt∧(u8s zs).all (okV (fun l=>l.blt 67) 3)=true∧tt∧tt∧tt∧True∧u8s zs=List.map (rnV (lift 67 71 [68,69,70]) 3) (u8s zs))∧True)∧(tt∧m≤m)∧(tt∧N≤N)∧True:St }:Fr }):=by kernel_rfl
namespace Sy
open Go.IntKind (u8 u16 u32 u64 i64)
theorem Zjn {P:Program} {nt L:Nat} {c:Code} {X:Type} (I F:X→Sf) (ex:X→Exit) (μ:X→Nat) (hI:∀ x,(I x).Wf)
  (hround:∀ x,∃ (call:Qb) (lp:Vz) (S:List Code) (T:List (Nat×Bool)) (ts ls:List Nat) (e:Exit) (g:Fr) (d:Nat) (p:Nat→Bool) (σ:Nat→Nat),ZA P call∧QI P S lp∧(∀ c'∈loops c,c'∈S)∧(evC P call lp nt L c ((I x).frT nt T)).map (Uu nt ts ls)=some (e,g)∧g.s.O ∧
   ((e = .normal∧∃ y,μ y<μ x∧F y=F x∧ex y=ex x∧((I y).e.all fun z=>inN z.1 ts)=true∧Sf.Leads d p σ (I x) g (I y) (F x))∨(e ≠ .normal∧e=ex x∧((F x).e.all fun z=>inN z.1 ts)=true∧Sf.Leads d p σ (I x) g (F x) (F x)))) :
  ∀ x,Qj P nt c ((I x).fr nt) (ex x) ((F x).fr nt):=by
 refine Zjl (L:=L) I F ex μ hI fun x => ?_
 obtain⟨call,lp,S,T,ts,ls,e,g,d,p,σ,hcall,hlp,hS,hev,hO,hc⟩:=hround x
 obtain⟨y,h1,h2⟩:=oM hev
 have e1:e=(Uu nt ts ls y).1:=by rw[h2]
 have e2:g=(Uu nt ts ls y).2:=by rw[h2]
 subst e1
 subst e2
 refine⟨call,lp,S,T,y.1,y.2,d,p,σ,hcall,hlp,hS,h1,hO,?_⟩
 rcases hc with⟨a,z,b1,b2,b3,b4,b5⟩|⟨a,b1,b4,b5⟩
 ·exact .inl ⟨a,z,b1,b2,b3,b5.uncut b4⟩
 ·exact .inr ⟨a,b1,b5.uncut b4⟩
end Sy
end Go.Proofs.YtliidiceljdgmaaGreat
namespace Go.Proofs.YtliidiceljdgmaaGreat
open Go.IntKind (u8 u16 u32 u64 i64)
open Go.RowKit
open Sy
set_option maxRecDepth 100000
def sbF (g:Nat):Sf:=⟨73,saE g,[],[]⟩
theorem ZhE {q:Nat→Bool} (h:∀ l,l<71→q l=true) (g:Nat):∀ x∈saE g,okV q 3 x.2=true:=fun x hx=>by
 have h7:=h 67 (by omega)
 have h8:=h 70 (by omega)
 simp only[rr, tt, saE,List.mem_cons,List.not_mem_nil,or_false] at hx
 rcases hx with rfl|rfl|rfl|rfl<;>simp[okV,QP,h7,h8,ZP]
theorem Zkf (g:Nat):(sbF g).Ok (Z3 73 73 id (fun l=>Nat.blt l 73)) :=
 Sf.Ok.mk' 3 trivial rfl (ZhE (fun l hl=>UU 73 l (by omega)) g)
theorem Zmb (g:Nat) (tl:List Nat) (hl:tl.length≤16) :
  ∀ k:{ k:Nat // k≤tl.length },Qj Tryz.prog 65 (ZB Tryz.prog 8 1) ((sbI g tl k.1).fr 65) (.exit 2) ((sbF g).fr 65):=by
 refine Kt (L:=100) (ZU _ _ 8) (fun _ h=>h) (X:={ k:Nat // k≤tl.length }) (fun k=>sbI g tl k.1) (fun _=>sbF g) (fun _ => .exit 2) (fun k=>tl.length-k.1) (fun k => ?_) ?_
 ·exact⟨by show 64≤73; omega,Sf.Ok.mk' 3 ⟨⟨rfl,rfl,Zv (Zg tl)⟩,⟨rfl,rfl,Zv (Zg tl)⟩,trivial⟩ rfl (fun x hx=>by
   rw[show(sbI g tl k.1).e=saE g++[(8,.slice (some ⟨71,0,none⟩) tl.length (big+71)),(9,.slice (some ⟨72,0,none⟩) tl.length (big+72)),(10,.int .i64 (k.1:Nat))] from rfl,List.mem_append] at hx
   rcases hx with hx|hx
   ·exact ZhE (fun l hl=>by show Nat.blt l 73=true; exact Zt (by omega)) g x hx
   ·simp only[rr, tt, List.mem_cons,List.not_mem_nil,or_false] at hx
    rcases hx with rfl|rfl|rfl<;>rfl)⟩
 rintro⟨k,hk⟩
 by_cases hlt:k<tl.length
 ·have hr:=sb_a g tl k
  have e5:i64.wrap ((k:Int)+(1:Int))=((k+1:Nat):Int):=ZQ k (by omega)
  simp only[rr, tt, e5,Int.toNat_natCast,Nat.zero_add,Nat.mul_one] at hr
  refine⟨_,_,_,_,.normal,_,3,fun l=>Nat.blt l 73,id,Zu (L:=100) Zn (Zx _) (Zj _) 20,hr,?_,.inl ⟨rfl,⟨k+1,by omega⟩,by show tl.length-(k+1)<tl.length-k; omega,rfl,rfl,rfl,?_⟩⟩
  ·simp(disch:=omega) only[rr, tt, Yf,Qd,bne_self_eq_false,decide_eq_true,Bool.and_self,cond_true,and_true,true_and,and_self]
  ·exact⟨fun _ _=>rfl,⟨⟨rfl,Zh (Zg tl),rfl,rfl,rfl,trivial,(Zi (Zg tl)).symm⟩,⟨rfl,Zh (Zg tl),rfl,rfl,rfl,trivial,(Zi (Zg tl)).symm⟩,trivial⟩,rfl,trivial,by repeat' (first|exact trivial|refine⟨⟨by kernel_rfl,by kernel_rfl⟩,?_⟩),Nat.le_refl _,fun l hl=>ZN hl,Zkf g,fun x _ _ => .inl rfl⟩
 ·have hkk:k=tl.length:=by omega
  subst hkk
  have hr:=sb_e g tl tl.length
  refine⟨_,_,_,_,.exit 2,_,3,fun l=>Nat.blt l 73,id,Zu (L:=100) Zn (Zx _) (Zj _) 20,hr,?_,.inr ⟨by simp,rfl,rfl,?_⟩⟩
  ·exact⟨trivial,decide_eq_false (by omega)⟩
  ·exact⟨fun _ _=>rfl,trivial,rfl,trivial,by repeat' (first|exact trivial|refine⟨⟨by kernel_rfl,by kernel_rfl⟩,?_⟩),Nat.le_refl _,fun l hl=>ZN hl,Zkf g,fun x hx=>by cases hx⟩
def Zob (g:Nat) (tl:List Nat) (hl:tl.length≤16):Ent Tryz.prog :=
 Vl Tryz.prog 8 1 65 (sbI g tl 0) (.exit 2) (sbF g) (by kernel_rfl) (by kernel_rfl) (Zmb g tl hl ⟨0,Nat.zero_le _⟩)
theorem sa_y (zs:List UInt8) (f:Nat→Bool) (N:Nat) (m:Nat) (n:Nat) (k:Nat) (tl:List Nat) (hl:tl.length≤16):Option.map (Uu 65 [0,1,4,7] [64,65,66,67,68,69,70]) (evC Tryz.prog (evF Tryz.prog (QA 3 (ZT [(71,35,tgYC k zs f N m n tl,[64,65,66,67]),(72,36,rtYC k zs f N m tl,[68,69,70])]) ZD) Zf 100 20) (YD [Zob k tl hl] 8) 65 100 (ZB Tryz.prog 8 0) (Sf.frT 65 (saI zs f N m n k) [(0,true),(1,false)]))=some (Exit.normal,{ e:=mkE 65 [(0,.pointer (some ⟨67,0,none⟩)),(1,.pointer (some ⟨70,0,none⟩)),(4,.bool false),(7,.int .i64 (i64.wrap ((↑k:Int)+(1:Int))))],s:={ n:=73,h:=[(67,⟨false,none,[Value.pointer (some ⟨66,0,none⟩),.slice (some ⟨64,0,none⟩) N 9223372036854775872],none⟩),(66,⟨false,none,[Value.int .i64 (↑m),.slice (some ⟨65,0,none⟩) n 9223372036854775873],none⟩),(65,⟨false,some (65,1),v64 (Zm f n),none⟩),(64,⟨false,some (64,1),u8s zs,none⟩),(70,⟨false,none,[Value.slice (some ⟨68,0,none⟩) N 9223372036854775876,.slice (some ⟨69,0,none⟩) m 9223372036854775877],none⟩),(69,⟨false,some (69,1),bls f m,none⟩),(68,⟨false,some (68,1),u8s zs,none⟩)],lo:=[(65,n),(64,N),(69,m),(68,N)],esc:=0,T:=[],k:=0,O:=((((True∧decide ((↑k:Int)<i64.wrap ((↑N:Int).tdiv (256:Int)))=true)∧True∧(rr (Value.pointer (some ⟨67,0,none⟩))∧rr (Value.int .i64 (↑k))∧True)∧((tt∧tt∧tt∧tt∧tt∧True∧rr [Value.pointer (some ⟨66,0,none⟩),.slice (some ⟨64,0,none⟩) N 9223372036854775872])∧(tt∧tt∧tt∧tt∧tt∧True∧rr [Value.int .i64 (↑m),.slice (some ⟨65,0,none⟩) n 9223372036854775873])∧(tt∧(v64 (Zm f n)).all (okV (fun l=>l.blt 68) 3)=true∧tt∧tt∧tt∧True∧v64 (Zm f n)=List.map (rnV (lift 68 71 [64,65,66,67]) 3) (v64 (Zm f n)))∧(tt∧(u8s zs).all (okV (fun l=>l.blt 68) 3)=true∧tt∧tt∧tt∧True∧u8s zs=List.map (rnV (lift 68 71 [64,65,66,67]) 3) (u8s zs))∧True)∧(tt∧n≤n)∧(tt∧N≤N)∧True)∧True∧(rr (Value.pointer (some ⟨70,0,none⟩))∧rr (Value.int .i64 (↑k))∧True)∧((tt∧tt∧tt∧tt∧tt∧True∧rr [Value.slice (some ⟨68,0,none⟩) N 9223372036854775876,.slice (some ⟨69,0,none⟩) m 9223372036854775877])∧(tt∧(bls f m).all (okV (fun l=>l.blt 67) 3)=true∧tt∧tt∧tt∧True∧bls f m=List.map (rnV (lift 67 72 [68,69,70]) 3) (bls f m))∧(tt∧(u8s zs).all (okV (fun l=>l.blt 67) 3)=true∧tt∧tt∧tt∧True∧u8s zs=List.map (rnV (lift 67 72 [68,69,70]) 3) (u8s zs))∧True)∧(tt∧m≤m)∧(tt∧N≤N)∧True)∧((↑tl.length:Int) !=(↑tl.length:Int))=false)∧(rr (Value.pointer (some ⟨67,0,none⟩))∧rr (Value.pointer (some ⟨70,0,none⟩))∧rr (Value.bool false)∧rr (Value.int .i64 (↑k))∧rr (Value.slice (some ⟨71,0,none⟩) tl.length 9223372036854775879)∧rr (Value.slice (some ⟨72,0,none⟩) tl.length 9223372036854775880)∧rr (Value.int .i64 0)∧True)∧((tt∧tt∧True∧rr (Zk tl))∧(tt∧tt∧True∧rr (Zk tl))∧True)∧True∧True:St }:Fr }):=by kernel_rfl
def saF:Sf:=⟨71,[],[],[]⟩
theorem Zer {q:Nat→Bool} (h4:q 68=true) (h5:q 69=true) (N m:Nat):∀ v∈([.slice (some ⟨68,0,none⟩) N (big+68),.slice (some ⟨69,0,none⟩) m (big+69)]:List Value),okV q 3 v=true:=by
 intro v hv
 simp only[rr, tt, List.mem_cons,List.not_mem_nil,or_false] at hv
 rcases hv with rfl|rfl<;>simp[okV,QP,h4,h5,ZP,big]
theorem Zkg {q:Nat→Bool} (h:∀ l,l<71→q l=true) (zs:List UInt8) (f:Nat→Bool) (N m n:Nat):OkH q (saH zs f N m n) :=
 have hc:=QO (q:=q) (fun l hl=>h l (by omega)) N m n
 ⟨⟨h 67 (by omega),rfl,fun v hv=>ZM 3 v (hc.1 v hv)⟩,⟨h 66 (by omega),rfl,fun v hv=>ZM 3 v (hc.2 v hv)⟩,⟨h 65 (by omega),h 65 (by omega),Zv (Z4 _)⟩,⟨h 64 (by omega),h 64 (by omega),Zv (Zp zs)⟩,
  ⟨h 70 (by omega),rfl,fun v hv=>ZM 3 v (Zer (h 68 (by omega)) (h 69 (by omega)) N m v hv)⟩,⟨h 69 (by omega),h 69 (by omega),Zv (Z8 f m)⟩,⟨h 68 (by omega),h 68 (by omega),Zv (Zp zs)⟩,trivial⟩
theorem Zes (zs:List UInt8) (f:Nat→Bool) (N m n:Nat):Ya 3 (fun l=>Nat.blt l 71) id (saH zs f N m n) (saH zs f N m n):=by
 have hc:=QO (q:=fun l=>Nat.blt l 71) (fun l hl=>Zt (by omega)) N m n
 have hm:∀ l:List Value,l=l.map (rnV id 3):=fun l=>(Qr _ rfl l).symm
 exact⟨⟨rfl,List.all_eq_true.2 hc.1,rfl,rfl,rfl,trivial,hm _⟩,⟨rfl,List.all_eq_true.2 hc.2,rfl,rfl,rfl,trivial,hm _⟩,⟨rfl,Zh (Z4 _),rfl,rfl,rfl,trivial,hm _⟩,⟨rfl,Zh (Zp zs),rfl,rfl,rfl,trivial,hm _⟩,
  ⟨rfl,List.all_eq_true.2 (Zer rfl rfl N m),rfl,rfl,rfl,trivial,hm _⟩,⟨rfl,Zh (Z8 f m),rfl,rfl,rfl,trivial,hm _⟩,⟨rfl,Zh (Zp zs),rfl,rfl,rfl,trivial,hm _⟩,trivial⟩
theorem ZhF:saF.Ok (Z3 71 71 id (fun l=>Nat.blt l 71)):=Sf.Ok.mk' 3 trivial rfl (fun x hx=>by cases hx)
theorem Zmc (zs:List UInt8) (f:Nat→Bool) (N m n p:Nat) (h:ArOk zs N m n) (hN:N=p*256) (hm:m=p*16) (hp:p≤1024) :
  ∀ k:{ k:Nat // k≤p },Qj Tryz.prog 65 (ZB Tryz.prog 8 0) ((saI zs f N m n k.1).fr 65) (.exit 0) (saF.fr 65):=by
 have f1:∀ p,(u8s zs).all (okV p 3)=true:=fun p=>Zh (Zp _)
 have f2:∀ σ,(u8s zs).map (rnV σ 3)=u8s zs:=fun σ=>Zi (Zp _)
 have f3:∀ (p:Nat→Bool),(bls f m).all (okV p 3)=true:=fun p=>Zh (Z8 f m)
 have f4:∀ (σ:Nat→Nat),(bls f m).map (rnV σ 3)=bls f m:=fun σ=>Zi (Z8 f m)
 have v1:∀ (σ:Nat→Nat),(v64 (Zm f n)).map (rnV σ 3)=v64 (Zm f n):=fun σ=>Zi (Z4 _)
 have v2:∀ (p:Nat→Bool),(v64 (Zm f n)).all (okV p 3)=true:=fun p=>Zh (Z4 _)
 have e6:i64.wrap ((N:Int).tdiv (256:Int))=(p:Int):=by rw[show(N:Int).tdiv (256:Int)=((N/256:Nat):Int) from(Int.ofNat_tdiv N 256).symm,XS _ (by omega)]; omega
 refine Zjn (L:=100) (X:={ k:Nat // k≤p }) (fun k=>saI zs f N m n k.1) (fun _=>saF) (fun _ => .exit 0) (fun k=>p-k.1) (fun k => ?_) ?_
 ·exact⟨by show 64≤71; omega,Sf.Ok.mk' 3 (Zkg (ltZ 71) zs f N m n) rfl (ZhE (ltZ 71) _)⟩
 rintro⟨k,hk⟩
 by_cases hlt:k<p
 ·have e5:i64.wrap ((k:Int)+(1:Int))=((k+1:Nat):Int):=ZQ k (by omega)
  have hrt:rtK f k m=tgK f k 16:=by
   have:=Zke f k (m-(16*k+16))
   rwa [show 16*k+16+(m-(16*k+16))=m by omega] at this
  cases hL:tgK f k 16 with
  | nil =>
   have hr:=sa_n zs f N m n k
   simp only[rr, tt, e5,e6] at hr
   refine⟨_,_,loops (ZB Tryz.prog 8 0),_,_,_,.normal,_,3,fun l=>Nat.blt l 71,id,Zu (L:=100) Zn (Qe (ZW fun x hx=>by
    simp only[rr, tt, List.mem_cons,List.not_mem_nil,or_false] at hx
    rcases hx with rfl|rfl
    ·exact Zl8 k zs f N m n h (by omega) hL
    ·exact⟨Zjk k zs f N m (by omega) (by omega) (hrt.trans hL),⟨fun x hx=>by cases hx⟩⟩) (Zx _)) (Zj _) 20,ZU _ _ 8,fun _ h=>h,hr,?_,.inl ⟨rfl,⟨k+1,by omega⟩,by show p-(k+1)<p-k; omega,rfl,rfl,rfl,?_⟩⟩
   ·simp(disch:=omega) only[rr, tt, f1,f2,f3,f4,v1,v2,decide_eq_true,decide_eq_false,Bool.and_self,cond_true,and_true,true_and,and_self,Nat.le_refl]
   ·exact⟨fun _ _=>rfl,Zes zs f N m n,rfl,⟨⟨rfl,Nat.le_refl _⟩,⟨rfl,Nat.le_refl _⟩,⟨rfl,Nat.le_refl _⟩,⟨rfl,Nat.le_refl _⟩,trivial⟩,by repeat' (first|exact trivial|refine⟨⟨by kernel_rfl,by kernel_rfl⟩,?_⟩),Nat.le_refl _,fun l hl=>ZN hl,ZhF,fun x _ _ => .inl rfl⟩
  | cons y tl =>
   have hl16:(y::tl).length≤16:=by rw[← hL]; exact Zdk _ _ _
   have hr:=sa_y zs f N m n k (y::tl) hl16
   simp only[rr, tt, e5,e6] at hr
   have hn:=Zma (P:=Tryz.prog) (f:=8) (i:=0) (by kernel_rfl) [Zob k (y::tl) hl16]
   refine⟨_,_,_,_,_,_,.normal,_,3,fun l=>Nat.blt l 71,id,Zu (L:=100) Zn (Qe (ZW fun x hx=>by
    simp only[rr, tt, List.mem_cons,List.not_mem_nil,or_false] at hx
    rcases hx with rfl|rfl
    ·exact⟨Zl9 k zs f N m n _ h (by omega) hL (by simp),⟨fun x hx _=>by obtain rfl:=List.mem_singleton.1 hx; exact Zg _⟩⟩
    ·exact⟨Zjj k zs f N m _ (by omega) (by omega) (hrt.trans hL) (by simp),⟨fun x hx _=>by obtain rfl:=List.mem_singleton.1 hx; exact Zg _⟩⟩) (Zx _)) (Zj _) 20,hn.1,hn.2,hr,?_,.inl ⟨rfl,⟨k+1,by omega⟩,by show p-(k+1)<p-k; omega,rfl,rfl,rfl,?_⟩⟩
   ·simp(disch:=omega) only[rr, tt, f1,f2,f3,f4,v1,v2,bne_self_eq_false,decide_eq_true,decide_eq_false,Bool.and_self,cond_true,and_true,true_and,and_self,Nat.le_refl]
   ·exact⟨fun _ _=>rfl,Zes zs f N m n,rfl,⟨⟨rfl,Nat.le_refl _⟩,⟨rfl,Nat.le_refl _⟩,⟨rfl,Nat.le_refl _⟩,⟨rfl,Nat.le_refl _⟩,trivial⟩,by repeat' (first|exact trivial|refine⟨⟨by kernel_rfl,by kernel_rfl⟩,?_⟩),Nat.le_refl _,fun l hl=>ZN hl,ZhF,fun x _ _ => .inl rfl⟩
 ·have hkk:k=p:=by omega
  subst hkk
  have hr:=sa_e zs f N m n k
  simp only[rr, tt, e6] at hr
  refine⟨_,_,loops (ZB Tryz.prog 8 0),_,_,_,.exit 0,_,3,fun l=>Nat.blt l 71,id,Zu (L:=100) Zn (Zx _) (Zj _) 20,ZU _ _ 8,fun _ h=>h,hr,?_,.inr ⟨by simp,rfl,rfl,?_⟩⟩
  ·exact⟨trivial,decide_eq_false (by omega)⟩
  ·exact⟨fun _ _=>rfl,trivial,rfl,trivial,trivial,Nat.le_refl _,fun l hl=>ZN hl,ZhF,fun x hx=>by cases hx⟩
def ZpW (zs:List UInt8) (f:Nat→Bool) (N m n p:Nat) (h:ArOk zs N m n) (hN:N=p*256) (hm:m=p*16) (hp:p≤1024):Ent Tryz.prog :=
 Vl Tryz.prog 8 0 65 (saI zs f N m n 0) (.exit 0) saF (by kernel_rfl) (by kernel_rfl) (Zmc zs f N m n p h hN hm hp ⟨0,Nat.zero_le _⟩)
theorem sa_s (zs zs':List UInt8) (f:Nat→Bool) (N m n p:Nat) (h:ArOk zs N m n) (hN:N=p*256) (hm:m=p*16) (hp:p≤1024):obs (evF Tryz.prog (QA 3 (ZT [(71,34,ZmX [Value.pointer (some ⟨67,0,none⟩),.int .u32 0,.int .i64 (↑N)] (Value.tuple { toList:=[Value.string ⟨⟨zs'⟩⟩,.bool true] }) zs f N m n,[64,65,66,67])]) ZD) (YD [ZpW zs f N m n p h hN hm hp]) 100 40 8 [Value.pointer (some ⟨67,0,none⟩),.pointer (some ⟨70,0,none⟩)] ⟨71,saH zs f N m n,saO N m n,0,[(15,false)],0,True⟩)=some (Value.bool true,((bif (List.take N (List.drop 0 (u8s zs))).all Zjt then bif Qc (0+N) (u8s zs) then True∧True∧(rr (Value.pointer (some ⟨67,0,none⟩))∧rr (Value.int .u32 0)∧rr (Value.int .i64 (↑N))∧True)∧((tt∧tt∧tt∧tt∧tt∧True∧rr [Value.pointer (some ⟨66,0,none⟩),.slice (some ⟨64,0,none⟩) N 9223372036854775872])∧(tt∧tt∧tt∧tt∧tt∧True∧rr [Value.int .i64 (↑m),.slice (some ⟨65,0,none⟩) n 9223372036854775873])∧(tt∧(v64 (Zm f n)).all (okV (fun l=>l.blt 68) 3)=true∧tt∧tt∧tt∧True∧v64 (Zm f n)=List.map (rnV (lift 68 71 [64,65,66,67]) 3) (v64 (Zm f n)))∧(tt∧(u8s zs).all (okV (fun l=>l.blt 68) 3)=true∧tt∧tt∧tt∧True∧u8s zs=List.map (rnV (lift 68 71 [64,65,66,67]) 3) (u8s zs))∧True)∧(tt∧n≤n)∧(tt∧N≤N)∧True else False else False)∧(!X1 zs' (List.map Zmn (List.take N (List.drop 0 (u8s zs)))))=false)∧(rr (Value.pointer (some ⟨67,0,none⟩))∧rr (Value.pointer (some ⟨70,0,none⟩))∧rr (Value.bool false)∧rr (Value.int .i64 0)∧True)∧((tt∧tt∧True∧rr [Value.pointer (some ⟨66,0,none⟩),.slice (some ⟨64,0,none⟩) N 9223372036854775872])∧(tt∧tt∧True∧rr [Value.int .i64 (↑m),.slice (some ⟨65,0,none⟩) n 9223372036854775873])∧(tt∧tt∧True∧rr (v64 (Zm f n)))∧(tt∧tt∧True∧rr (u8s zs))∧(tt∧tt∧True∧rr [Value.slice (some ⟨68,0,none⟩) N 9223372036854775876,.slice (some ⟨69,0,none⟩) m 9223372036854775877])∧(tt∧tt∧True∧rr (bls f m))∧(tt∧tt∧True∧rr (u8s zs))∧True)∧(n≤n∧N≤N∧m≤m∧N≤N∧True)∧True):=by kernel_rfl
def saC (zs:List UInt8) (f:Nat→Bool) (N m n:Nat):Con:=⟨[.pointer (some ⟨67,0,none⟩),.pointer (some ⟨70,0,none⟩)],71,saH zs f N m n,saO N m n,.bool true,71,[],[]⟩
theorem Zkh (zs:List UInt8) (f:Nat→Bool) (N m n p:Nat) (h:ArOk zs N m n) (hN:N=p*256) (hm:m=p*16) (hp:p≤1024) (hp1:1≤p):ConOk Tryz.prog 8 3 (saC zs f N m n)∧FlatC (saC zs f N m n):=by
 have hr:=sa_s zs zs f N m n p h hN hm hp
 have f1:∀ p,(u8s zs).all (okV p 3)=true:=fun p=>Zh (Zp _)
 have f2:∀ σ,(u8s zs).map (rnV σ 3)=u8s zs:=fun σ=>Zi (Zp _)
 have v1:∀ (σ:Nat→Nat),(v64 (Zm f n)).map (rnV σ 3)=v64 (Zm f n):=fun σ=>Zi (Z4 _)
 have v2:∀ (p:Nat→Bool),(v64 (Zm f n)).all (okV p 3)=true:=fun p=>Zh (Z4 _)
 have hl:(u8s zs).length=N:=by simp[u8s,h.len]
 have h1:List.take N (List.drop 0 (u8s zs))=u8s zs:=by rw[List.drop_zero,List.take_of_length_le (by omega)]
 have h2:X1 zs zs=true:=by rw[XB]; exact beq_self_eq_true zs
 have h3:Qc (0+N) (u8s zs)=true:=by rw[QM,hl]; omega
 simp only[rr, tt, h1,h2,h3,ZaN,J0] at hr
 unfold obs at hr
 obtain⟨⟨v',s'⟩,r1,r2⟩:=oM hr
 simp only[rr, tt, Prod.mk.injEq] at r2
 obtain⟨rfl,r2⟩:=r2
 have hcon:=ZmY 0 N zs f N m n h (by omega) (by omega)
 rw[rwC,List.drop_zero,show List.take N zs=zs from by rw[← h.len,List.take_length]] at hcon
 refine⟨ZF (Zu (L:=100) Zn (Qe (ZW fun x hx=>by
  obtain rfl:=List.mem_singleton.1 hx; exact hcon) (Zx _)) (Z5 _) 40) ⟨by show 64≤71; omega,Nat.le_refl _,Zkg (ltZ 71) zs f N m n,rfl,rfl,rfl,rfl,rfl,fun x hx=>by cases hx⟩ r1 ?_ (p:=fun l=>Nat.blt l 71) (σ:=id) ⟨fun _ _=>rfl,trivial,rfl,trivial,⟨rfl,rfl⟩,rfl,trivial,rfl,ZM 3 _ rfl,fun x hx=>by cases hx⟩,⟨fun x hx=>by cases hx⟩⟩
 rw[r2]
 simp(disch:=omega) only[rr, tt, f1,f2,v1,v2,decide_eq_true,decide_eq_false,Bool.not_true,Bool.and_self,cond_true,and_true,true_and,and_self,Nat.le_refl]
def fcE (j:Nat):List (Nat×Value):=[(2,.bool false),(3,.pointer (some ⟨73,0,none⟩)),(4,.slice (some ⟨74,0,none⟩) j (big+74)),(5,.int .i64 0),(6,.pointer (some ⟨79,0,none⟩)),(7,.slice (some ⟨80,0,none⟩) j (big+80)),(8,.int .i64 0)]
def fcI (fl:List Cp) (j k:Nat):Sf:=⟨81,fcE j++[(9,.int .i64 (k:Nat))],[(74,⟨false,some (0,0),cpL fl,none⟩),(80,⟨false,some (0,0),cpL fl,none⟩)],[]⟩
def Zmd:List Value:=(List.replicate 17 z8).flatten
def ZpX (l:List Value):Prop:=(!(ZeC Tryz.prog 8 41 (.agg ⟨l⟩) (.agg ⟨l⟩)).getD false)=false
theorem fc_a (fl:List Cp) (j:Nat) (k:Nat):Option.map (Uu 75 [2,3,4,5,6,7,8,9] [74,80]) (evC Tryz.prog (evF Tryz.prog ZD Zf 100 20) (Zf 3) 75 100 (ZB Tryz.prog 3 0) (Sf.frT 75 (fcI fl j k) [(0,true),(1,false)]))=some (Exit.normal,{ e:=mkE 75 [(2,.bool false),(3,.pointer (some ⟨73,0,none⟩)),(4,.slice (some ⟨74,0,none⟩) j 9223372036854775882),(5,.int .i64 0),(6,.pointer (some ⟨79,0,none⟩)),(7,.slice (some ⟨80,0,none⟩) j 9223372036854775888),(8,.int .i64 0),(9,.int .i64 (i64.wrap ((↑k:Int)+(1:Int))))],s:={ n:=81,h:=[(74,⟨false,some (0,0),cpL fl,none⟩),(80,⟨false,some (0,0),cpL fl,none⟩)],lo:=[],esc:=0,T:=[],k:=0,O:=(bif Qc (0+(↑k:Int).toNat*136+136) (cpL fl)&&Zs Zmd (cpL fl) (0+(↑k:Int).toNat*136) then bif decide ((0:Int)≤(↑k:Int))&&decide ((↑k:Int)<(↑j:Int)) then bif Qc (0+(↑k:Int).toNat*136+136) (cpL fl)&&Zs Zmd (cpL fl) (0+(↑k:Int).toNat*136) then bif decide ((0:Int)≤(↑k:Int))&&decide ((↑k:Int)<(↑j:Int)) then True∧decide ((↑k:Int)<(↑j:Int))=true else False else False else False else False)∧ZpX (WN Zmd (cpL fl) (0+(↑k:Int).toNat*136)):St }:Fr }):=by kernel_rfl
theorem fc_e (fl:List Cp) (j:Nat) (k:Nat):Option.map (Uu 75 [2,3,4,5,6,7,8] []) (evC Tryz.prog (evF Tryz.prog ZD Zf 100 20) (Zf 3) 75 100 (ZB Tryz.prog 3 0) (Sf.frT 75 (fcI fl j k) [(0,false)]))=some (Exit.exit 0,{ e:=mkE 75 [(2,.bool false),(3,.pointer (some ⟨73,0,none⟩)),(4,.slice (some ⟨74,0,none⟩) j 9223372036854775882),(5,.int .i64 0),(6,.pointer (some ⟨79,0,none⟩)),(7,.slice (some ⟨80,0,none⟩) j 9223372036854775888),(8,.int .i64 0)],s:={ n:=81,h:=[],lo:=[],esc:=0,T:=[],k:=0,O:=True∧decide ((↑k:Int)<(↑j:Int))=false:St }:Fr }):=by kernel_rfl
theorem Ky:∀ (l:List Cp) (k j:Nat),k<l.length→j<8→Zd undef (cpL l) (k*8+j)=Zd undef (cpC (l.getD k ⟨0,0,0,0,0,0,false⟩)) j
 | [],k,j,h,_=>by simp at h
 | x::l,0,j,_,hj=>by
  rw[show cpL (x::l)=cpC x++cpL l from by simp[cpL]]
  obtain rfl|rfl|rfl|rfl|rfl|rfl|rfl|rfl:j=0∨j=1∨j=2∨j=3∨j=4∨j=5∨j=6∨j=7:=by omega
  all_goals rfl
 | x::l,k+1,j,h,hj=>by
  rw[show cpL (x::l)=cpC x++cpL l from by simp[cpL],show(k+1)*8+j=(cpC x).length+(k*8+j) by simp[cpC]; omega,W2]
  exact Ky l k j (by simp at h; omega) hj
theorem Zoc (l:List Cp) (n:Nat):Qc n (cpL l)=decide (n≤l.length*8):=by rw[Bool.eq_iff_iff,QM,KQ]; simp
theorem Zme {l:List Cp} {k:Nat} (h:k<l.length):Zs [Value.int u32 (0:Int),Value.int u8 (0:Int),Value.int u16 (0:Int),Value.int u16 (0:Int),Value.int u16 (0:Int),Value.int u16 (0:Int),Value.int u32 (0:Int),Value.bool false] (cpL l) (k*8)=true:=by
 have h0:=Ky l k 0 h (by omega)
 rw[Nat.add_zero] at h0
 simp only[rr, tt, Zs,Nat.add_assoc,Nat.reduceAdd,h0,Ky l k 1 h (by omega),Ky l k 2 h (by omega),Ky l k 3 h (by omega),Ky l k 4 h (by omega),Ky l k 5 h (by omega),Ky l k 6 h (by omega),Ky l k 7 h (by omega)]
 rfl
theorem W6 {P:Program} {eq:TypeId→Value→Value→Option Bool} (h:∀ t x b,eq t x x=some b→b=true) (xs:List Value):∀ (l:List (TypeId×Nat)) (b:Bool),Wv eq xs xs P l=some b→b=true
 | [],b,hb=>by cases hb; rfl
 | f::l,b,hb=>by
  unfold Wv at hb
  obtain⟨x,h1,hb⟩:=oB hb
  obtain⟨y,h2,hb⟩:=oB hb
  rw[h1] at h2
  cases h2
  obtain⟨c,h3,hb⟩:=oB hb
  obtain⟨d,h4,rfl⟩:=oM hb
  rw[h _ _ _ h3,W6 h xs l d h4]
  rfl
theorem Uq (P:Program):∀ (d:Nat) (t:TypeId) (x:Value) (b:Bool),ZeC P d t x x=some b→b=true
 | 0,_,_,_,h=>by cases h
 | d+1,t,x,b,h=>by
  unfold ZeC at h
  obtain⟨ty,_,h⟩:=oB h
  split at h
  ·cases h; simp
  ·simp at h; exact h
  ·cases h
   rw[XB]
   exact beq_self_eq_true _
  ·cases hs:P.stoodInHeld t<;>rw[hs] at h
   ·exact W6 (Uq P d) _ _ _ h
   ·cases h
  ·obtain⟨z,_,h⟩:=oB h
   exact W6 (Uq P d) _ _ _ h
  ·cases h
theorem Zmf (cs:List Value) (o:Nat):ZpX (WN Zmd cs o):=by
 have h:(ZeC Tryz.prog 8 41 (.agg ⟨WN Zmd cs o⟩) (.agg ⟨WN Zmd cs o⟩)).isSome=true:=by kernel_rfl
 obtain⟨b,hb⟩:=Option.isSome_iff_exists.1 h
 unfold ZpX
 rw[hb,Uq _ _ _ _ _ hb]
 rfl
theorem Zfi (a b cs:List Value):∀ o,Zs (a++b) cs o=(Zs a cs o&&Zs b cs (o+a.length)):=by
 induction a with
 | nil=>intro o; simp[Zs]
 | cons z a ih=>intro o; simp only[rr, tt, List.cons_append,Zs,ih (o+1),List.length_cons,Bool.and_assoc,Nat.add_assoc,Nat.add_comm 1]
theorem Zet (fl:List Cp):∀ n i,i+n≤fl.length→Zs (List.replicate n z8).flatten (cpL fl) (i*8)=true
 | 0,_,_=>rfl
 | n+1,i,h=>by
  rw[List.replicate_succ,List.flatten_cons,Zfi,show i*8+z8.length=(i+1)*8 from by show i*8+8=_; omega,Zet fl n (i+1) (by omega),Bool.and_true]
  exact Zme (by omega)
def fcF (j:Nat):Sf:=⟨81,fcE j,[],[]⟩
theorem Zki {q:Nat→Bool} (h:∀ l,l<81→q l=true) (j:Nat):∀ x∈fcE j,okV q 3 x.2=true:=fun x hx=>by
 have h1:=h 73 (by omega)
 have h2:=h 74 (by omega)
 have h3:=h 79 (by omega)
 have h4:=h 80 (by omega)
 simp only[rr, tt, fcE,List.mem_cons,List.not_mem_nil,or_false] at hx
 rcases hx with rfl|rfl|rfl|rfl|rfl|rfl|rfl<;>simp[okV,QP,h1,h2,h3,h4,ZP,big]
theorem Zkj (j:Nat):(fcF j).Ok (Z3 81 81 id (fun l=>Nat.blt l 81)):=Sf.Ok.mk' 3 trivial rfl (Zki (UU 81) j)
theorem Zmg (fl:List Cp) (j:Nat) (hj:fl.length=17*j) (hj4:j≤4) :
  ∀ k:{ k:Nat // k≤j },Qj Tryz.prog 75 (ZB Tryz.prog 3 0) ((fcI fl j k.1).fr 75) (.exit 0) ((fcF j).fr 75):=by
 refine Kt (L:=100) (ZU _ _ 3) (fun _ h=>h) (X:={ k:Nat // k≤j }) (fun k=>fcI fl j k.1) (fun _=>fcF j) (fun _ => .exit 0) (fun k=>j-k.1) (fun k => ?_) ?_
 ·exact⟨by show 64≤81; omega,Sf.Ok.mk' 3 ⟨⟨rfl,rfl,Zv (Z7 fl)⟩,⟨rfl,rfl,Zv (Z7 fl)⟩,trivial⟩ rfl (fun x hx=>by
   rw[show(fcI fl j k.1).e=fcE j++[(9,.int .i64 (k.1:Nat))] from rfl,List.mem_append] at hx
   rcases hx with hx|hx
   ·exact Zki (ltZ 81) j x hx
   ·obtain rfl:=List.mem_singleton.1 hx; rfl)⟩
 rintro⟨k,hk⟩
 by_cases hlt:k<j
 ·have hr:=fc_a fl j k
  have e5:i64.wrap ((k:Int)+(1:Int))=((k+1:Nat):Int):=ZQ k (by omega)
  have h1:Zs Zmd (cpL fl) (0+(k:Int).toNat*136)=true:=by
   have:=Zet fl 17 (17*k) (by omega)
   rwa [show 17*k*8=0+(k:Int).toNat*136 by omega] at this
  have h2:Qc (0+(k:Int).toNat*136+136) (cpL fl)=true:=by rw[Zoc]; exact decide_eq_true (by omega)
  have d1:decide ((0:Int)≤(k:Int))=true:=decide_eq_true (by omega)
  have d2:decide ((k:Int)<(j:Int))=true:=decide_eq_true (by omega)
  simp only[rr, tt, e5] at hr
  refine⟨_,_,_,_,.normal,_,3,fun l=>Nat.blt l 81,id,Zu (L:=100) Zn (Zx _) (Zj _) 20,hr,?_,.inl ⟨rfl,⟨k+1,by omega⟩,by show j-(k+1)<j-k; omega,rfl,rfl,rfl,?_⟩⟩
  ·simp only[rr, tt, h1,h2,d1,d2,Bool.and_self,cond_true,and_true,true_and]
   exact Zmf _ _
  ·exact⟨fun _ _=>rfl,⟨⟨rfl,XX _ _,rfl,rfl,rfl,trivial,(XW _ _).symm⟩,⟨rfl,XX _ _,rfl,rfl,rfl,trivial,(XW _ _).symm⟩,trivial⟩,rfl,trivial,by repeat' (first|exact trivial|refine⟨⟨by kernel_rfl,by kernel_rfl⟩,?_⟩),Nat.le_refl _,fun l hl=>ZN hl,Zkj j,fun x _ _ => .inl rfl⟩
 ·have hkk:k=j:=by omega
  subst hkk
  have hr:=fc_e fl k k
  refine⟨_,_,_,_,.exit 0,_,3,fun l=>Nat.blt l 81,id,Zu (L:=100) Zn (Zx _) (Zj _) 20,hr,?_,.inr ⟨by simp,rfl,rfl,?_⟩⟩
  ·exact⟨trivial,decide_eq_false (by omega)⟩
  ·exact⟨fun _ _=>rfl,trivial,rfl,trivial,by repeat' (first|exact trivial|refine⟨⟨by kernel_rfl,by kernel_rfl⟩,?_⟩),Nat.le_refl _,fun l hl=>ZN hl,Zkj k,fun x hx=>by cases hx⟩
def Zod (fl:List Cp) (j:Nat) (hj:fl.length=17*j) (hj4:j≤4):Ent Tryz.prog :=
 Vl Tryz.prog 3 0 75 (fcI fl j 0) (.exit 0) (fcF j) (by kernel_rfl) (by kernel_rfl) (Zmg fl j hj hj4 ⟨0,Nat.zero_le _⟩)
def leB0 (a:Int):Bool:=decide (0≤a)
def ltB (a b:Int):Bool:=decide (0≤a)&&decide (a<b)
def mkD:FuncId→List Value→Option Con:=fun f args=>bif Nat.beq f 81 then
 match args with
 | [.agg ⟨[.int .u32 a,.int .u32 s]⟩,.int .u16 p]=>bif ltB a 4294967296&&ltB s 4294967296&&leB0 p then some (Ze4 a s p) else none
 | _=>none
 else bif Nat.beq f 50 then
 match args with
 | [.agg ⟨[.int .u32 c,.int .u8 e,.int .u16 b,.int .u16 t,.int .u16 p,.int .u16 y,.int .u32 r,.bool v]⟩,.int .u32 to]=>bif ltB c 4294967296&&ltB e 256&&ltB b 65536&&ltB t 65536&&ltB p 65536&&ltB y 65536&&ltB r 4294967296&&ltB to 4294967296 then some (ZgE c e b t p y r v to) else none
 | _=>none
 else none
theorem Vu {a b:Int} (h:ltB a b=true):0≤a∧a<b:=by simpa [ltB] using h
theorem Zoe:∀ f args c,mkD f args=some c→ConOk Tryz.prog f 3 c∧FlatC c:=by
 intro f args c h
 unfold mkD at h
 cases h1:Nat.beq f 81<;>rw[h1] at h
 ·simp only[rr, tt, cond_false] at h
  obtain⟨h2,h3⟩:=ZL h
  have h2:=eB h2
  subst h2
  split at h3
  ·obtain⟨h4,h5⟩:=ZL h3
   cases h5
   simp only[rr, tt, Bool.and_eq_true] at h4
   obtain⟨⟨⟨⟨⟨⟨⟨a1,a2⟩,a3⟩,a4⟩,a5⟩,a6⟩,a7⟩,a8⟩:=h4
   have a1:=Vu a1; have a2:=Vu a2; have a3:=Vu a3; have a4:=Vu a4
   have a5:=Vu a5; have a6:=Vu a6; have a7:=Vu a7; have a8:=Vu a8
   exact⟨Zd1 _ _ _ _ _ _ _ _ _ ⟨a1.1,a1.2,a2.1,a2.2,a3.1,a3.2,a4.1,a4.2,a5.1,a5.2,a6.1,a6.2,a7.1,a7.2,a8.1,a8.2⟩,⟨fun x hx=>by cases hx⟩⟩
  ·cases h3
 ·have h2:=eB h1
  subst h2
  simp only[rr, tt, cond_true] at h
  split at h
  ·obtain⟨h4,h5⟩:=ZL h
   cases h5
   simp only[rr, tt, Bool.and_eq_true] at h4
   obtain⟨⟨a1,a2⟩,a3⟩:=h4
   have a1:=Vu a1; have a2:=Vu a2
   exact⟨Zd0 _ _ _ ⟨a1.1,a1.2,a2.1,a2.2,by simpa [leB0] using a3⟩,⟨fun x hx=>by cases hx⟩⟩
  ·cases h
def XF:Con:=⟨[],64,[],[],.bool true,64,[],[]⟩
def WRun (f:FuncId) (c:Con):Prop:=Zf6 3 (evF Tryz.prog (ZkP 3 mkD ZD) Zf 1000 40) f c
theorem Zmh {f:FuncId} {c:Con} (h:WRun f c=True):ConOk Tryz.prog f 3 c∧FlatC c:=Zf7 (Zu Zn (Zif Zoe (Zx _)) (Zj _) 40) h
theorem Zfj:WRun 6 XF=True:=by kernel_rfl
def loL (v:Value) (hh:Sy.Heap) (p j:Nat) (zs:List UInt8) (f:Nat→Bool) (fl:List Cp):Sy.Steps :=
 [(68,4,Je v hh p zs f fl j,[64,65,66]),(75,5,Kw v hh p zs f fl j,[64,65,66]),(81,6,XF,[]),(81,8,saC zs f (p*256) (ZE p) (Zl p),[70,71,72,73,77,78,79])]
def loE (v:Value) (hh h2:Sy.Heap) (e:Int):Sy.Steps:=[(69,9,W5 v hh e,[64,65,66]),(69,16,W5 v h2 e,[64,65,66]),(70,16,W5 v h2 e,[64,65,66]),(71,16,W5 v h2 e,[64,65,66]),(68,6,XF,[]),(69,6,XF,[]),(70,6,XF,[]),(71,6,XF,[]),(72,6,XF,[]),(73,6,XF,[])]
def loT:List (Nat×Bool):=[(0,true),(1,true),(2,false),(3,false),(4,false),(5,false),(6,false),(7,false),(14,false),(15,false),(16,false),(19,true),(20,true),(21,true),(22,true),(23,true),(24,true),(25,true),(26,true),(27,true),(28,true),(29,true)]
def loM (v:Value) (hh:Sy.Heap) (e:Int):Sy.Steps:=[(69,9,W5 v hh e,[64,65,66]),(69,16,W5 v hh e,[64,65,66]),(70,16,W5 v hh e,[64,65,66]),(71,16,W5 v hh e,[64,65,66])]
def Zkk:WH:=fun f _ _=>bif Nat.beq f 6 then some (XF,[],True) else none
theorem ZpY (p s t:Nat) (cs:List Nat) (d:List UInt8) (rs:List Rl) (so:List Nat) (zs:List UInt8) (f:Nat→Bool) (fl:List Cp) (hj:fl.length=17*so.length) (hj4:so.length≤4):obs (evF Tryz.prog (QA 3 (ZT (loL (Yg p s t d (some ⟨65,0,none⟩) cs.length rs.length so.length (big+65)) (lqH cs rs so) p so.length zs f fl)) ZD) (YD [Zod fl so.length hj hj4]) 100 20 3 [Yg p s t d (some ⟨65,0,none⟩) cs.length rs.length so.length (big+65)] ⟨67,lqH cs rs so,[],0,[(6,false),(7,false),(8,false),(9,false),(10,false),(11,false),(32,true),(33,true),(34,true),(36,true)],0,True⟩)=some (Value.bool true,((((((((((((((True∧True∧(rr (Value.agg ⟨[.int .i64 (↑p),.int .i64 (↑s),.int .i64 (↑t),.slice (some ⟨64,0,none⟩) cs.length 9223372036854775872,.string ⟨⟨d⟩⟩,.slice (some ⟨65,0,none⟩) rs.length 9223372036854775873,.slice (some ⟨66,0,none⟩) so.length 9223372036854775874]⟩)∧True)∧((tt∧(Zk cs).all (okV (fun l=>l.blt 67) 3)=true∧tt∧tt∧tt∧True∧Zk cs=List.map (rnV (lift 67 68 [64,65,66]) 3) (Zk cs))∧(tt∧(rels rs).all (okV (fun l=>l.blt 67) 3)=true∧tt∧tt∧tt∧True∧rels rs=List.map (rnV (lift 67 68 [64,65,66]) 3) (rels rs))∧(tt∧(Zk so).all (okV (fun l=>l.blt 67) 3)=true∧tt∧tt∧tt∧True∧Zk so=List.map (rnV (lift 67 68 [64,65,66]) 3) (Zk so))∧True)∧True)∧True∧(rr (Value.agg ⟨[.int .i64 (↑p),.int .i64 (↑s),.int .i64 (↑t),.slice (some ⟨64,0,none⟩) cs.length 9223372036854775872,.string ⟨⟨d⟩⟩,.slice (some ⟨65,0,none⟩) rs.length 9223372036854775873,.slice (some ⟨66,0,none⟩) so.length 9223372036854775874]⟩)∧True)∧((tt∧(Zk cs).all (okV (fun l=>l.blt 67) 3)=true∧tt∧tt∧tt∧True∧Zk cs=List.map (rnV (lift 67 75 [64,65,66]) 3) (Zk cs))∧(tt∧(rels rs).all (okV (fun l=>l.blt 67) 3)=true∧tt∧tt∧tt∧True∧rels rs=List.map (rnV (lift 67 75 [64,65,66]) 3) (rels rs))∧(tt∧(Zk so).all (okV (fun l=>l.blt 67) 3)=true∧tt∧tt∧tt∧True∧Zk so=List.map (rnV (lift 67 75 [64,65,66]) 3) (Zk so))∧True)∧True)∧((↑so.length:Int) !=(↑so.length:Int))=false)∧((↑so.length:Int) !=(↑so.length:Int))=false)∧((↑so.length:Int) !=(↑so.length:Int))=false)∧((↑so.length:Int) !=(↑so.length:Int))=false)∧((↑so.length:Int) !=(↑so.length:Int))=false)∧((↑so.length:Int) !=(↑so.length:Int))=false)∧True∧True∧True∧True)∧(rr (Value.bool false)∧rr (Value.pointer (some ⟨73,0,none⟩))∧rr (Value.slice (some ⟨74,0,none⟩) so.length 9223372036854775882)∧rr (Value.int .i64 0)∧rr (Value.pointer (some ⟨79,0,none⟩))∧rr (Value.slice (some ⟨80,0,none⟩) so.length 9223372036854775888)∧rr (Value.int .i64 0)∧rr (Value.int .i64 0)∧True)∧((tt∧tt∧True∧rr (cpL fl))∧(tt∧tt∧True∧rr (cpL fl))∧True)∧True∧True)∧((↑(p*256):Int)==(↑(p*256):Int))=true)∧((↑(p*256):Int)==(↑(p*256):Int))=true)∧((↑(p*256):Int)==(↑(p*256):Int))=true)∧True∧(rr (Value.pointer (some ⟨73,0,none⟩))∧rr (Value.pointer (some ⟨79,0,none⟩))∧True)∧((tt∧tt∧tt∧tt∧tt∧True∧rr [Value.pointer (some ⟨72,0,none⟩),.slice (some ⟨70,0,none⟩) (p*256) 9223372036854775878])∧(tt∧tt∧tt∧tt∧tt∧True∧rr [Value.int .i64 (↑(ZE p)),.slice (some ⟨71,0,none⟩) (Zl p) 9223372036854775879])∧(tt∧(v64 (Zm f (Zl p))).all (okV (fun l=>l.blt 71) 3)=true∧tt∧tt∧tt∧True∧v64 (Zm f (Zl p))=List.map (rnV (lift 71 81 [70,71,72,73,77,78,79]) 3) (v64 (Zm f (Zl p))))∧(tt∧(u8s zs).all (okV (fun l=>l.blt 71) 3)=true∧tt∧tt∧tt∧True∧u8s zs=List.map (rnV (lift 71 81 [70,71,72,73,77,78,79]) 3) (u8s zs))∧(tt∧tt∧tt∧tt∧tt∧True∧rr [Value.slice (some ⟨77,0,none⟩) (p*256) 9223372036854775885,.slice (some ⟨78,0,none⟩) (ZE p) 9223372036854775886])∧(tt∧(bls f (ZE p)).all (okV (fun l=>l.blt 71) 3)=true∧tt∧tt∧tt∧True∧bls f (ZE p)=List.map (rnV (lift 71 81 [70,71,72,73,77,78,79]) 3) (bls f (ZE p)))∧(tt∧(u8s zs).all (okV (fun l=>l.blt 71) 3)=true∧tt∧tt∧tt∧True∧u8s zs=List.map (rnV (lift 71 81 [70,71,72,73,77,78,79]) 3) (u8s zs))∧True)∧(tt∧Zl p≤Zl p)∧(tt∧p*256≤p*256)∧(tt∧ZE p≤ZE p)∧(tt∧p*256≤p*256)∧True)∧((↑(p*256):Int)==(↑(p*256):Int))=true):=by kernel_rfl
theorem ZpZ (p s t:Nat) (cs:List Nat) (d:List UInt8) (a2:Option Addr) (c2:Nat) (so:List Nat) (zs:List UInt8) (f:Nat→Bool) (fl:List Cp) (hj:fl.length=17*so.length) (hj4:so.length≤4):obs (evF Tryz.prog (QA 3 (ZT (loL (Yg p s t d a2 cs.length 0 so.length c2) (Zcf cs so) p so.length zs f fl)) ZD) (YD [Zod fl so.length hj hj4]) 100 20 3 [Yg p s t d a2 cs.length 0 so.length c2] ⟨67,Zcf cs so,[],0,[(6,false),(7,false),(8,false),(9,false),(10,false),(11,false),(32,true),(33,true),(34,true),(36,true)],0,True⟩)=some (Value.bool true,((((((((((((((True∧True∧(Value.agg ⟨[.int .i64 (↑p),.int .i64 (↑s),.int .i64 (↑t),.slice (some ⟨64,0,none⟩) cs.length 9223372036854775872,.string ⟨⟨d⟩⟩,.slice a2 0 c2,.slice (some ⟨66,0,none⟩) so.length 9223372036854775874]⟩=Value.agg ⟨[.int .i64 (↑p),.int .i64 (↑s),.int .i64 (↑t),.slice (some ⟨64,0,none⟩) cs.length 9223372036854775872,.string ⟨⟨d⟩⟩,.slice (Option.map (rnA (lift 67 68 [64,65,66])) a2) 0 (rnC (lift 67 68 [64,65,66]) c2),.slice (some ⟨66,0,none⟩) so.length 9223372036854775874]⟩∧True)∧((tt∧(Zk cs).all (okV (fun l=>l.blt 67) 3)=true∧tt∧tt∧tt∧True∧Zk cs=List.map (rnV (lift 67 68 [64,65,66]) 3) (Zk cs))∧(tt∧(Zk so).all (okV (fun l=>l.blt 67) 3)=true∧tt∧tt∧tt∧True∧Zk so=List.map (rnV (lift 67 68 [64,65,66]) 3) (Zk so))∧True)∧True)∧True∧(Value.agg ⟨[.int .i64 (↑p),.int .i64 (↑s),.int .i64 (↑t),.slice (some ⟨64,0,none⟩) cs.length 9223372036854775872,.string ⟨⟨d⟩⟩,.slice a2 0 c2,.slice (some ⟨66,0,none⟩) so.length 9223372036854775874]⟩=Value.agg ⟨[.int .i64 (↑p),.int .i64 (↑s),.int .i64 (↑t),.slice (some ⟨64,0,none⟩) cs.length 9223372036854775872,.string ⟨⟨d⟩⟩,.slice (Option.map (rnA (lift 67 75 [64,65,66])) a2) 0 (rnC (lift 67 75 [64,65,66]) c2),.slice (some ⟨66,0,none⟩) so.length 9223372036854775874]⟩∧True)∧((tt∧(Zk cs).all (okV (fun l=>l.blt 67) 3)=true∧tt∧tt∧tt∧True∧Zk cs=List.map (rnV (lift 67 75 [64,65,66]) 3) (Zk cs))∧(tt∧(Zk so).all (okV (fun l=>l.blt 67) 3)=true∧tt∧tt∧tt∧True∧Zk so=List.map (rnV (lift 67 75 [64,65,66]) 3) (Zk so))∧True)∧True)∧((↑so.length:Int) !=(↑so.length:Int))=false)∧((↑so.length:Int) !=(↑so.length:Int))=false)∧((↑so.length:Int) !=(↑so.length:Int))=false)∧((↑so.length:Int) !=(↑so.length:Int))=false)∧((↑so.length:Int) !=(↑so.length:Int))=false)∧((↑so.length:Int) !=(↑so.length:Int))=false)∧True∧True∧True∧True)∧(rr (Value.bool false)∧rr (Value.pointer (some ⟨73,0,none⟩))∧rr (Value.slice (some ⟨74,0,none⟩) so.length 9223372036854775882)∧rr (Value.int .i64 0)∧rr (Value.pointer (some ⟨79,0,none⟩))∧rr (Value.slice (some ⟨80,0,none⟩) so.length 9223372036854775888)∧rr (Value.int .i64 0)∧rr (Value.int .i64 0)∧True)∧((tt∧tt∧True∧rr (cpL fl))∧(tt∧tt∧True∧rr (cpL fl))∧True)∧True∧True)∧((↑(p*256):Int)==(↑(p*256):Int))=true)∧((↑(p*256):Int)==(↑(p*256):Int))=true)∧((↑(p*256):Int)==(↑(p*256):Int))=true)∧True∧(rr (Value.pointer (some ⟨73,0,none⟩))∧rr (Value.pointer (some ⟨79,0,none⟩))∧True)∧((tt∧tt∧tt∧tt∧tt∧True∧rr [Value.pointer (some ⟨72,0,none⟩),.slice (some ⟨70,0,none⟩) (p*256) 9223372036854775878])∧(tt∧tt∧tt∧tt∧tt∧True∧rr [Value.int .i64 (↑(ZE p)),.slice (some ⟨71,0,none⟩) (Zl p) 9223372036854775879])∧(tt∧(v64 (Zm f (Zl p))).all (okV (fun l=>l.blt 71) 3)=true∧tt∧tt∧tt∧True∧v64 (Zm f (Zl p))=List.map (rnV (lift 71 81 [70,71,72,73,77,78,79]) 3) (v64 (Zm f (Zl p))))∧(tt∧(u8s zs).all (okV (fun l=>l.blt 71) 3)=true∧tt∧tt∧tt∧True∧u8s zs=List.map (rnV (lift 71 81 [70,71,72,73,77,78,79]) 3) (u8s zs))∧(tt∧tt∧tt∧tt∧tt∧True∧rr [Value.slice (some ⟨77,0,none⟩) (p*256) 9223372036854775885,.slice (some ⟨78,0,none⟩) (ZE p) 9223372036854775886])∧(tt∧(bls f (ZE p)).all (okV (fun l=>l.blt 71) 3)=true∧tt∧tt∧tt∧True∧bls f (ZE p)=List.map (rnV (lift 71 81 [70,71,72,73,77,78,79]) 3) (bls f (ZE p)))∧(tt∧(u8s zs).all (okV (fun l=>l.blt 71) 3)=true∧tt∧tt∧tt∧True∧u8s zs=List.map (rnV (lift 71 81 [70,71,72,73,77,78,79]) 3) (u8s zs))∧True)∧(tt∧Zl p≤Zl p)∧(tt∧p*256≤p*256)∧(tt∧ZE p≤ZE p)∧(tt∧p*256≤p*256)∧True)∧((↑(p*256):Int)==(↑(p*256):Int))=true):=by kernel_rfl
theorem Zp0 (p s t e:Int) (d:List UInt8) (nc:Nat) (rs:List Rl) (so:List Nat):obs (evF Tryz.prog (QA 3 (ZT (loE (Yj p s t d (some ⟨64,0,none⟩) (some ⟨65,0,none⟩) (some ⟨66,0,none⟩) nc rs.length so.length (big+64) (big+65) (big+66)) (btH rs so) (btH rs so) e)) ZD) Zf 100 20 3 [Yj p s t d (some ⟨64,0,none⟩) (some ⟨65,0,none⟩) (some ⟨66,0,none⟩) nc rs.length so.length (big+64) (big+65) (big+66)] { n:=67,h:=btH rs so,lo:=[],esc:=0,T:=loT,k:=0,O:=True:St })=some (Value.bool true,((((((((((((((((((((((((True∧True∧(rr (Value.agg ⟨[.int .i64 p,.int .i64 s,.int .i64 t,.slice (some ⟨64,0,none⟩) nc 9223372036854775872,.string ⟨⟨d⟩⟩,.slice (some ⟨65,0,none⟩) rs.length 9223372036854775873,.slice (some ⟨66,0,none⟩) so.length 9223372036854775874]⟩)∧True)∧((tt∧(rels rs).all (okV (fun l=>l.blt 67) 3)=true∧tt∧tt∧tt∧True∧rels rs=List.map (rnV (lift 67 69 [64,65,66]) 3) (rels rs))∧(tt∧(Zk so).all (okV (fun l=>l.blt 67) 3)=true∧tt∧tt∧tt∧True∧Zk so=List.map (rnV (lift 67 69 [64,65,66]) 3) (Zk so))∧True)∧True)∧(e !=(0:Int))=true)∧True∧(rr (Value.agg ⟨[.int .i64 p,.int .i64 s,.int .i64 t,.slice (some ⟨64,0,none⟩) nc 9223372036854775872,.string ⟨⟨d⟩⟩,.slice (some ⟨65,0,none⟩) rs.length 9223372036854775873,.slice (some ⟨66,0,none⟩) so.length 9223372036854775874]⟩)∧True)∧((tt∧(rels rs).all (okV (fun l=>l.blt 67) 3)=true∧tt∧tt∧tt∧True∧rels rs=List.map (rnV (lift 67 71 [64,65,66]) 3) (rels rs))∧(tt∧(Zk so).all (okV (fun l=>l.blt 67) 3)=true∧tt∧tt∧tt∧True∧Zk so=List.map (rnV (lift 67 71 [64,65,66]) 3) (Zk so))∧True)∧True)∧(e !=(0:Int))=true)∧(e !=e)=false)∧(e !=e)=false)∧(e !=e)=false)∧(e !=e)=false)∧(e !=e)=false)∧(e !=e)=false)∧(!true==(e !=(0:Int)))=false)∧True∧True∧True∧True)∧(!true==(e !=(0:Int)))=false)∧(!true==(e !=(0:Int)))=false)∧(e !=(0:Int))=true)∧(e !=(0:Int))=true)∧(e !=(0:Int))=true)∧(e !=(0:Int))=true)∧(e !=(0:Int))=true)∧(e !=(0:Int))=true)∧(e !=(0:Int))=true)∧(e !=(0:Int))=true)∧(e !=(0:Int))=true)∧(e !=(0:Int))=true)∧(e !=(0:Int))=true):=by kernel_rfl
theorem Zp1 (p s t e:Int) (d:List UInt8) (a2:Option Addr) (c2 nc:Nat) (so:List Nat):obs (evF Tryz.prog (QA 3 (ZT (loE (Yj p s t d (some ⟨64,0,none⟩) a2 (some ⟨66,0,none⟩) nc 0 so.length (big+64) c2 (big+66)) (WM so) (WM so) e)) ZD) Zf 100 20 3 [Yj p s t d (some ⟨64,0,none⟩) a2 (some ⟨66,0,none⟩) nc 0 so.length (big+64) c2 (big+66)] { n:=67,h:=WM so,lo:=[],esc:=0,T:=loT,k:=0,O:=True:St })=some (Value.bool true,((((((((((((((((((((((((True∧True∧(Value.agg ⟨[.int .i64 p,.int .i64 s,.int .i64 t,.slice (some ⟨64,0,none⟩) nc 9223372036854775872,.string ⟨⟨d⟩⟩,.slice a2 0 c2,.slice (some ⟨66,0,none⟩) so.length 9223372036854775874]⟩=Value.agg ⟨[.int .i64 p,.int .i64 s,.int .i64 t,.slice (some ⟨64,0,none⟩) nc 9223372036854775872,.string ⟨⟨d⟩⟩,.slice (Option.map (rnA (lift 67 69 [64,65,66])) a2) 0 (rnC (lift 67 69 [64,65,66]) c2),.slice (some ⟨66,0,none⟩) so.length 9223372036854775874]⟩∧True)∧((tt∧(Zk so).all (okV (fun l=>l.blt 67) 3)=true∧tt∧tt∧tt∧True∧Zk so=List.map (rnV (lift 67 69 [64,65,66]) 3) (Zk so))∧True)∧True)∧(e !=(0:Int))=true)∧True∧(Value.agg ⟨[.int .i64 p,.int .i64 s,.int .i64 t,.slice (some ⟨64,0,none⟩) nc 9223372036854775872,.string ⟨⟨d⟩⟩,.slice a2 0 c2,.slice (some ⟨66,0,none⟩) so.length 9223372036854775874]⟩=Value.agg ⟨[.int .i64 p,.int .i64 s,.int .i64 t,.slice (some ⟨64,0,none⟩) nc 9223372036854775872,.string ⟨⟨d⟩⟩,.slice (Option.map (rnA (lift 67 71 [64,65,66])) a2) 0 (rnC (lift 67 71 [64,65,66]) c2),.slice (some ⟨66,0,none⟩) so.length 9223372036854775874]⟩∧True)∧((tt∧(Zk so).all (okV (fun l=>l.blt 67) 3)=true∧tt∧tt∧tt∧True∧Zk so=List.map (rnV (lift 67 71 [64,65,66]) 3) (Zk so))∧True)∧True)∧(e !=(0:Int))=true)∧(e !=e)=false)∧(e !=e)=false)∧(e !=e)=false)∧(e !=e)=false)∧(e !=e)=false)∧(e !=e)=false)∧(!true==(e !=(0:Int)))=false)∧True∧True∧True∧True)∧(!true==(e !=(0:Int)))=false)∧(!true==(e !=(0:Int)))=false)∧(e !=(0:Int))=true)∧(e !=(0:Int))=true)∧(e !=(0:Int))=true)∧(e !=(0:Int))=true)∧(e !=(0:Int))=true)∧(e !=(0:Int))=true)∧(e !=(0:Int))=true)∧(e !=(0:Int))=true)∧(e !=(0:Int))=true)∧(e !=(0:Int))=true)∧(e !=(0:Int))=true):=by kernel_rfl
theorem Zp2 (p s t e:Int) (d:List UInt8) (a2:Option Addr) (c2 nc:Nat) (so:List Nat):obs (evF Tryz.prog (QA 3 (ZT (loE (Yj p s t d (some ⟨64,0,none⟩) a2 (some ⟨66,0,none⟩) nc 0 so.length (big+64) c2 (big+66)) (WM so) [] e)) ZD) Zf 100 20 3 [Yj p s t d (some ⟨64,0,none⟩) a2 (some ⟨66,0,none⟩) nc 0 so.length (big+64) c2 (big+66)] { n:=67,h:=WM so,lo:=[],esc:=0,T:=loT,k:=0,O:=True:St })=some (Value.bool true,((((((((((((((((((((((((True∧True∧(Value.agg ⟨[.int .i64 p,.int .i64 s,.int .i64 t,.slice (some ⟨64,0,none⟩) nc 9223372036854775872,.string ⟨⟨d⟩⟩,.slice a2 0 c2,.slice (some ⟨66,0,none⟩) so.length 9223372036854775874]⟩=Value.agg ⟨[.int .i64 p,.int .i64 s,.int .i64 t,.slice (some ⟨64,0,none⟩) nc 9223372036854775872,.string ⟨⟨d⟩⟩,.slice (Option.map (rnA (lift 67 69 [64,65,66])) a2) 0 (rnC (lift 67 69 [64,65,66]) c2),.slice (some ⟨66,0,none⟩) so.length 9223372036854775874]⟩∧True)∧((tt∧(Zk so).all (okV (fun l=>l.blt 67) 3)=true∧tt∧tt∧tt∧True∧Zk so=List.map (rnV (lift 67 69 [64,65,66]) 3) (Zk so))∧True)∧True)∧(e !=(0:Int))=true)∧True∧(Value.agg ⟨[.int .i64 p,.int .i64 s,.int .i64 t,.slice (some ⟨64,0,none⟩) nc 9223372036854775872,.string ⟨⟨d⟩⟩,.slice a2 0 c2,.slice (some ⟨66,0,none⟩) so.length 9223372036854775874]⟩=Value.agg ⟨[.int .i64 p,.int .i64 s,.int .i64 t,.slice (some ⟨64,0,none⟩) nc 9223372036854775872,.string ⟨⟨d⟩⟩,.slice (Option.map (rnA (lift 67 71 [64,65,66])) a2) 0 (rnC (lift 67 71 [64,65,66]) c2),.slice (some ⟨66,0,none⟩) so.length 9223372036854775874]⟩∧True)∧True∧True)∧(e !=(0:Int))=true)∧(e !=e)=false)∧(e !=e)=false)∧(e !=e)=false)∧(e !=e)=false)∧(e !=e)=false)∧(e !=e)=false)∧(!true==(e !=(0:Int)))=false)∧True∧True∧True∧True)∧(!true==(e !=(0:Int)))=false)∧(!true==(e !=(0:Int)))=false)∧(e !=(0:Int))=true)∧(e !=(0:Int))=true)∧(e !=(0:Int))=true)∧(e !=(0:Int))=true)∧(e !=(0:Int))=true)∧(e !=(0:Int))=true)∧(e !=(0:Int))=true)∧(e !=(0:Int))=true)∧(e !=(0:Int))=true)∧(e !=(0:Int))=true)∧(e !=(0:Int))=true):=by kernel_rfl
theorem Zp3 (p s t e:Int) (d:List UInt8) (a1 a2 a3:Option Addr) (n1 n2 n3 c1 c2 c3:Nat) (hh:Heap):obs (evF Tryz.prog (Zf4 3 (Kp (loM (Yj p s t d a1 a2 a3 n1 n2 n3 c1 c2 c3) hh e)) (ZH 3 Zkk)) Zf 100 20 3 [Yj p s t d a1 a2 a3 n1 n2 n3 c1 c2 c3] { n:=67,h:=hh,lo:=[],esc:=0,T:=loT,k:=0,O:=True:St })=some (Value.bool true,((((((((((((((((((((((((True∧True∧rr [Value.agg ⟨[.int .i64 p,.int .i64 s,.int .i64 t,.slice a1 n1 c1,.string ⟨⟨d⟩⟩,.slice a2 n2 c2,.slice a3 n3 c3]⟩]∧hh=[]∧True)∧(e !=(0:Int))=true)∧True∧rr [Value.agg ⟨[.int .i64 p,.int .i64 s,.int .i64 t,.slice a1 n1 c1,.string ⟨⟨d⟩⟩,.slice a2 n2 c2,.slice a3 n3 c3]⟩]∧hh=[]∧True)∧(e !=(0:Int))=true)∧(e !=e)=false)∧(e !=e)=false)∧(e !=e)=false)∧(e !=e)=false)∧(e !=e)=false)∧(e !=e)=false)∧(!true==(e !=(0:Int)))=false)∧True∧True∧True∧True)∧(!true==(e !=(0:Int)))=false)∧(!true==(e !=(0:Int)))=false)∧(e !=(0:Int))=true)∧(e !=(0:Int))=true)∧(e !=(0:Int))=true)∧(e !=(0:Int))=true)∧(e !=(0:Int))=true)∧(e !=(0:Int))=true)∧(e !=(0:Int))=true)∧(e !=(0:Int))=true)∧(e !=(0:Int))=true)∧(e !=(0:Int))=true)∧(e !=(0:Int))=true):=by kernel_rfl
theorem Zp4 (Ze Zc types:Int) (data:List UInt8) (a1 a2 a3:Option Addr) (nc nr ns c1 c2 c3:Nat):obs (evF Tryz.prog ZD Zf 100 10 55 [Yj Ze Zc types data a1 a2 a3 nc nr ns c1 c2 c3] ⟨67,[],[],0,(tb 16 65535),0,True⟩)=some (Value.int .i64 3,(((((((((((((((True∧decide ((↑nc:Int)>(4096:Int))=true)∧decide ((↑nc:Int)>(4096:Int))=true)∧decide ((↑nc:Int)>(4096:Int))=true)∧decide ((↑nc:Int)>(4096:Int))=true)∧decide ((↑nc:Int)>(4096:Int))=true)∧tt)∧tt)∧tt)∧tt)∧tt)∧tt)∧tt)∧tt)∧tt)∧tt)∧tt):=by kernel_rfl
theorem Zp5 (Ze Zc types:Int) (data:List UInt8) (a1 a2 a3:Option Addr) (nc nr ns c1 c2 c3:Nat):obs (evF Tryz.prog ZD Zf 100 10 55 [Yj Ze Zc types data a1 a2 a3 nc nr ns c1 c2 c3] ⟨67,[],[],0,(tb 16 65504),0,True⟩)=some (Value.int .i64 3,(((((((((((((((True∧decide ((↑nc:Int)>(4096:Int))=false)∧decide ((↑nc:Int)>(4096:Int))=false)∧decide ((↑nc:Int)>(4096:Int))=false)∧decide ((↑nc:Int)>(4096:Int))=false)∧decide ((↑nc:Int)>(4096:Int))=false)∧decide ((↑(Zr data):Int)>(16384:Int))=true)∧decide ((↑(Zr data):Int)>(16384:Int))=true)∧decide ((↑(Zr data):Int)>(16384:Int))=true)∧decide ((↑(Zr data):Int)>(16384:Int))=true)∧decide ((↑(Zr data):Int)>(16384:Int))=true)∧tt)∧tt)∧tt)∧tt)∧tt)∧tt):=by kernel_rfl
theorem Zp6 (Ze Zc types:Int) (data:List UInt8) (a1 a2 a3:Option Addr) (nc nr ns c1 c2 c3:Nat):obs (evF Tryz.prog ZD Zf 100 10 55 [Yj Ze Zc types data a1 a2 a3 nc nr ns c1 c2 c3] ⟨67,[],[],0,(tb 16 64512),0,True⟩)=some (Value.int .i64 3,(((((((((((((((True∧decide ((↑nc:Int)>(4096:Int))=false)∧decide ((↑nc:Int)>(4096:Int))=false)∧decide ((↑nc:Int)>(4096:Int))=false)∧decide ((↑nc:Int)>(4096:Int))=false)∧decide ((↑nc:Int)>(4096:Int))=false)∧decide ((↑(Zr data):Int)>(16384:Int))=false)∧decide ((↑(Zr data):Int)>(16384:Int))=false)∧decide ((↑(Zr data):Int)>(16384:Int))=false)∧decide ((↑(Zr data):Int)>(16384:Int))=false)∧decide ((↑(Zr data):Int)>(16384:Int))=false)∧decide ((↑nr:Int)>(256:Int))=true)∧decide ((↑nr:Int)>(256:Int))=true)∧decide ((↑nr:Int)>(256:Int))=true)∧decide ((↑nr:Int)>(256:Int))=true)∧decide ((↑nr:Int)>(256:Int))=true)∧tt):=by kernel_rfl
theorem Zp7 (Ze Zc types:Int) (data:List UInt8) (a1 a2 a3:Option Addr) (nc nr ns c1 c2 c3:Nat):obs (evF Tryz.prog ZD Zf 100 10 55 [Yj Ze Zc types data a1 a2 a3 nc nr ns c1 c2 c3] ⟨67,[],[],0,(tb 16 32768),0,True⟩)=some (Value.int .i64 3,(((((((((((((((True∧decide ((↑nc:Int)>(4096:Int))=false)∧decide ((↑nc:Int)>(4096:Int))=false)∧decide ((↑nc:Int)>(4096:Int))=false)∧decide ((↑nc:Int)>(4096:Int))=false)∧decide ((↑nc:Int)>(4096:Int))=false)∧decide ((↑(Zr data):Int)>(16384:Int))=false)∧decide ((↑(Zr data):Int)>(16384:Int))=false)∧decide ((↑(Zr data):Int)>(16384:Int))=false)∧decide ((↑(Zr data):Int)>(16384:Int))=false)∧decide ((↑(Zr data):Int)>(16384:Int))=false)∧decide ((↑nr:Int)>(256:Int))=false)∧decide ((↑nr:Int)>(256:Int))=false)∧decide ((↑nr:Int)>(256:Int))=false)∧decide ((↑nr:Int)>(256:Int))=false)∧decide ((↑nr:Int)>(256:Int))=false)∧decide ((↑ns:Int)>(4:Int))=true):=by kernel_rfl
theorem Zp8 (Ze Zc types:Int) (data:List UInt8) (a1 a2 a3:Option Addr) (nc nr ns c1 c2 c3:Nat):obs (evF Tryz.prog ZD Zf 100 10 55 [Yj Ze Zc types data a1 a2 a3 nc nr ns c1 c2 c3] ⟨67,[],[],0,(tb 52 4503599627304960),0,True⟩)=some (Value.int .i64 2,(((((((((((((((((((((((((((((((((((((((((((((((((((True∧decide ((↑nc:Int)>(4096:Int))=false)∧decide ((↑nc:Int)>(4096:Int))=false)∧decide ((↑nc:Int)>(4096:Int))=false)∧decide ((↑nc:Int)>(4096:Int))=false)∧decide ((↑nc:Int)>(4096:Int))=false)∧decide ((↑(Zr data):Int)>(16384:Int))=false)∧decide ((↑(Zr data):Int)>(16384:Int))=false)∧decide ((↑(Zr data):Int)>(16384:Int))=false)∧decide ((↑(Zr data):Int)>(16384:Int))=false)∧decide ((↑(Zr data):Int)>(16384:Int))=false)∧decide ((↑nr:Int)>(256:Int))=false)∧decide ((↑nr:Int)>(256:Int))=false)∧decide ((↑nr:Int)>(256:Int))=false)∧decide ((↑nr:Int)>(256:Int))=false)∧decide ((↑nr:Int)>(256:Int))=false)∧decide ((↑ns:Int)>(4:Int))=false)∧decide (Ze<(16:Int))=true)∧decide (Ze<(16:Int))=true)∧decide (Ze<(16:Int))=true)∧decide (Ze<(16:Int))=true)∧tt)∧tt)∧tt)∧tt)∧tt)∧tt)∧tt)∧tt)∧tt)∧tt)∧tt)∧tt)∧tt)∧tt)∧tt)∧tt)∧tt)∧tt)∧tt)∧tt)∧tt)∧tt)∧tt)∧tt)∧tt)∧tt)∧tt)∧tt)∧tt)∧tt)∧tt)∧tt):=by kernel_rfl
theorem Zp9 (Ze Zc types:Int) (data:List UInt8) (a1 a2 a3:Option Addr) (nc nr ns c1 c2 c3:Nat):obs (evF Tryz.prog ZD Zf 100 10 55 [Yj Ze Zc types data a1 a2 a3 nc nr ns c1 c2 c3] ⟨67,[],[],0,(tb 52 4503599626321920),0,True⟩)=some (Value.int .i64 2,(((((((((((((((((((((((((((((((((((((((((((((((((((True∧decide ((↑nc:Int)>(4096:Int))=false)∧decide ((↑nc:Int)>(4096:Int))=false)∧decide ((↑nc:Int)>(4096:Int))=false)∧decide ((↑nc:Int)>(4096:Int))=false)∧decide ((↑nc:Int)>(4096:Int))=false)∧decide ((↑(Zr data):Int)>(16384:Int))=false)∧decide ((↑(Zr data):Int)>(16384:Int))=false)∧decide ((↑(Zr data):Int)>(16384:Int))=false)∧decide ((↑(Zr data):Int)>(16384:Int))=false)∧decide ((↑(Zr data):Int)>(16384:Int))=false)∧decide ((↑nr:Int)>(256:Int))=false)∧decide ((↑nr:Int)>(256:Int))=false)∧decide ((↑nr:Int)>(256:Int))=false)∧decide ((↑nr:Int)>(256:Int))=false)∧decide ((↑nr:Int)>(256:Int))=false)∧decide ((↑ns:Int)>(4:Int))=false)∧decide (Ze<(16:Int))=false)∧decide (Ze<(16:Int))=false)∧decide (Ze<(16:Int))=false)∧decide (Ze<(16:Int))=false)∧decide (Ze>(1024:Int))=true)∧decide (Ze>(1024:Int))=true)∧decide (Ze>(1024:Int))=true)∧decide (Ze>(1024:Int))=true)∧tt)∧tt)∧tt)∧tt)∧tt)∧tt)∧tt)∧tt)∧tt)∧tt)∧tt)∧tt)∧tt)∧tt)∧tt)∧tt)∧tt)∧tt)∧tt)∧tt)∧tt)∧tt)∧tt)∧tt)∧tt)∧tt)∧tt)∧tt):=by kernel_rfl
theorem Zqa (Ze Zc types:Int) (data:List UInt8) (a1 a2 a3:Option Addr) (nc nr ns c1 c2 c3:Nat):obs (evF Tryz.prog ZD Zf 100 10 55 [Yj Ze Zc types data a1 a2 a3 nc nr ns c1 c2 c3] ⟨67,[],[],0,(tb 52 4503599610593280),0,True⟩)=some (Value.int .i64 2,(((((((((((((((((((((((((((((((((((((((((((((((((((True∧decide ((↑nc:Int)>(4096:Int))=false)∧decide ((↑nc:Int)>(4096:Int))=false)∧decide ((↑nc:Int)>(4096:Int))=false)∧decide ((↑nc:Int)>(4096:Int))=false)∧decide ((↑nc:Int)>(4096:Int))=false)∧decide ((↑(Zr data):Int)>(16384:Int))=false)∧decide ((↑(Zr data):Int)>(16384:Int))=false)∧decide ((↑(Zr data):Int)>(16384:Int))=false)∧decide ((↑(Zr data):Int)>(16384:Int))=false)∧decide ((↑(Zr data):Int)>(16384:Int))=false)∧decide ((↑nr:Int)>(256:Int))=false)∧decide ((↑nr:Int)>(256:Int))=false)∧decide ((↑nr:Int)>(256:Int))=false)∧decide ((↑nr:Int)>(256:Int))=false)∧decide ((↑nr:Int)>(256:Int))=false)∧decide ((↑ns:Int)>(4:Int))=false)∧decide (Ze<(16:Int))=false)∧decide (Ze<(16:Int))=false)∧decide (Ze<(16:Int))=false)∧decide (Ze<(16:Int))=false)∧decide (Ze>(1024:Int))=false)∧decide (Ze>(1024:Int))=false)∧decide (Ze>(1024:Int))=false)∧decide (Ze>(1024:Int))=false)∧decide (Zc<(256:Int))=true)∧decide (Zc<(256:Int))=true)∧decide (Zc<(256:Int))=true)∧decide (Zc<(256:Int))=true)∧tt)∧tt)∧tt)∧tt)∧tt)∧tt)∧tt)∧tt)∧tt)∧tt)∧tt)∧tt)∧tt)∧tt)∧tt)∧tt)∧tt)∧tt)∧tt)∧tt)∧tt)∧tt)∧tt)∧tt):=by kernel_rfl
theorem Zqb (Ze Zc types:Int) (data:List UInt8) (a1 a2 a3:Option Addr) (nc nr ns c1 c2 c3:Nat):obs (evF Tryz.prog ZD Zf 100 10 55 [Yj Ze Zc types data a1 a2 a3 nc nr ns c1 c2 c3] ⟨67,[],[],0,(tb 52 4503599358935040),0,True⟩)=some (Value.int .i64 2,(((((((((((((((((((((((((((((((((((((((((((((((((((True∧decide ((↑nc:Int)>(4096:Int))=false)∧decide ((↑nc:Int)>(4096:Int))=false)∧decide ((↑nc:Int)>(4096:Int))=false)∧decide ((↑nc:Int)>(4096:Int))=false)∧decide ((↑nc:Int)>(4096:Int))=false)∧decide ((↑(Zr data):Int)>(16384:Int))=false)∧decide ((↑(Zr data):Int)>(16384:Int))=false)∧decide ((↑(Zr data):Int)>(16384:Int))=false)∧decide ((↑(Zr data):Int)>(16384:Int))=false)∧decide ((↑(Zr data):Int)>(16384:Int))=false)∧decide ((↑nr:Int)>(256:Int))=false)∧decide ((↑nr:Int)>(256:Int))=false)∧decide ((↑nr:Int)>(256:Int))=false)∧decide ((↑nr:Int)>(256:Int))=false)∧decide ((↑nr:Int)>(256:Int))=false)∧decide ((↑ns:Int)>(4:Int))=false)∧decide (Ze<(16:Int))=false)∧decide (Ze<(16:Int))=false)∧decide (Ze<(16:Int))=false)∧decide (Ze<(16:Int))=false)∧decide (Ze>(1024:Int))=false)∧decide (Ze>(1024:Int))=false)∧decide (Ze>(1024:Int))=false)∧decide (Ze>(1024:Int))=false)∧decide (Zc<(256:Int))=false)∧decide (Zc<(256:Int))=false)∧decide (Zc<(256:Int))=false)∧decide (Zc<(256:Int))=false)∧decide (Zc>(4096:Int))=true)∧decide (Zc>(4096:Int))=true)∧decide (Zc>(4096:Int))=true)∧decide (Zc>(4096:Int))=true)∧decide (Zc>(4096:Int))=true)∧tt)∧tt)∧tt)∧tt)∧tt)∧tt)∧tt)∧tt)∧tt)∧tt)∧tt)∧tt)∧tt)∧tt)∧tt)∧tt)∧tt)∧tt)∧tt):=by kernel_rfl
theorem Zqc (Ze Zc types:Int) (data:List UInt8) (a1 a2 a3:Option Addr) (nc nr ns c1 c2 c3:Nat):obs (evF Tryz.prog ZD Zf 100 10 55 [Yj Ze Zc types data a1 a2 a3 nc nr ns c1 c2 c3] ⟨67,[],[],0,(tb 52 4503591037435904),0,True⟩)=some (Value.int .i64 2,(((((((((((((((((((((((((((((((((((((((((((((((((((True∧decide ((↑nc:Int)>(4096:Int))=false)∧decide ((↑nc:Int)>(4096:Int))=false)∧decide ((↑nc:Int)>(4096:Int))=false)∧decide ((↑nc:Int)>(4096:Int))=false)∧decide ((↑nc:Int)>(4096:Int))=false)∧decide ((↑(Zr data):Int)>(16384:Int))=false)∧decide ((↑(Zr data):Int)>(16384:Int))=false)∧decide ((↑(Zr data):Int)>(16384:Int))=false)∧decide ((↑(Zr data):Int)>(16384:Int))=false)∧decide ((↑(Zr data):Int)>(16384:Int))=false)∧decide ((↑nr:Int)>(256:Int))=false)∧decide ((↑nr:Int)>(256:Int))=false)∧decide ((↑nr:Int)>(256:Int))=false)∧decide ((↑nr:Int)>(256:Int))=false)∧decide ((↑nr:Int)>(256:Int))=false)∧decide ((↑ns:Int)>(4:Int))=false)∧decide (Ze<(16:Int))=false)∧decide (Ze<(16:Int))=false)∧decide (Ze<(16:Int))=false)∧decide (Ze<(16:Int))=false)∧decide (Ze>(1024:Int))=false)∧decide (Ze>(1024:Int))=false)∧decide (Ze>(1024:Int))=false)∧decide (Ze>(1024:Int))=false)∧decide (Zc<(256:Int))=false)∧decide (Zc<(256:Int))=false)∧decide (Zc<(256:Int))=false)∧decide (Zc<(256:Int))=false)∧decide (Zc>(4096:Int))=false)∧decide (Zc>(4096:Int))=false)∧decide (Zc>(4096:Int))=false)∧decide (Zc>(4096:Int))=false)∧decide (Zc>(4096:Int))=false)∧(Zc.tmod (256:Int) !=(0:Int))=true)∧(Zc.tmod (256:Int) !=(0:Int))=true)∧(Zc.tmod (256:Int) !=(0:Int))=true)∧(Zc.tmod (256:Int) !=(0:Int))=true)∧tt)∧tt)∧tt)∧tt)∧tt)∧tt)∧tt)∧tt)∧tt)∧tt)∧tt)∧tt)∧tt)∧tt)∧tt):=by kernel_rfl
theorem Zqd (Ze Zc types:Int) (data:List UInt8) (a1 a2 a3:Option Addr) (nc nr ns c1 c2 c3:Nat):obs (evF Tryz.prog ZD Zf 100 10 55 [Yj Ze Zc types data a1 a2 a3 nc nr ns c1 c2 c3] ⟨67,[],[],0,(tb 52 4503462188417024),0,True⟩)=some (Value.int .i64 2,(((((((((((((((((((((((((((((((((((((((((((((((((((True∧decide ((↑nc:Int)>(4096:Int))=false)∧decide ((↑nc:Int)>(4096:Int))=false)∧decide ((↑nc:Int)>(4096:Int))=false)∧decide ((↑nc:Int)>(4096:Int))=false)∧decide ((↑nc:Int)>(4096:Int))=false)∧decide ((↑(Zr data):Int)>(16384:Int))=false)∧decide ((↑(Zr data):Int)>(16384:Int))=false)∧decide ((↑(Zr data):Int)>(16384:Int))=false)∧decide ((↑(Zr data):Int)>(16384:Int))=false)∧decide ((↑(Zr data):Int)>(16384:Int))=false)∧decide ((↑nr:Int)>(256:Int))=false)∧decide ((↑nr:Int)>(256:Int))=false)∧decide ((↑nr:Int)>(256:Int))=false)∧decide ((↑nr:Int)>(256:Int))=false)∧decide ((↑nr:Int)>(256:Int))=false)∧decide ((↑ns:Int)>(4:Int))=false)∧decide (Ze<(16:Int))=false)∧decide (Ze<(16:Int))=false)∧decide (Ze<(16:Int))=false)∧decide (Ze<(16:Int))=false)∧decide (Ze>(1024:Int))=false)∧decide (Ze>(1024:Int))=false)∧decide (Ze>(1024:Int))=false)∧decide (Ze>(1024:Int))=false)∧decide (Zc<(256:Int))=false)∧decide (Zc<(256:Int))=false)∧decide (Zc<(256:Int))=false)∧decide (Zc<(256:Int))=false)∧decide (Zc>(4096:Int))=false)∧decide (Zc>(4096:Int))=false)∧decide (Zc>(4096:Int))=false)∧decide (Zc>(4096:Int))=false)∧decide (Zc>(4096:Int))=false)∧(Zc.tmod (256:Int) !=(0:Int))=false)∧(Zc.tmod (256:Int) !=(0:Int))=false)∧(Zc.tmod (256:Int) !=(0:Int))=false)∧(Zc.tmod (256:Int) !=(0:Int))=false)∧decide (types<(0:Int))=true)∧decide (types<(0:Int))=true)∧decide (types<(0:Int))=true)∧decide (types<(0:Int))=true)∧tt)∧tt)∧tt)∧tt)∧tt)∧tt)∧tt)∧tt)∧tt)∧tt)∧tt):=by kernel_rfl
theorem Zqe (Ze Zc types:Int) (data:List UInt8) (a1 a2 a3:Option Addr) (nc nr ns c1 c2 c3:Nat):obs (evF Tryz.prog ZD Zf 100 10 55 [Yj Ze Zc types data a1 a2 a3 nc nr ns c1 c2 c3] ⟨67,[],[],0,(tb 52 4501400604114944),0,True⟩)=some (Value.int .i64 2,(((((((((((((((((((((((((((((((((((((((((((((((((((True∧decide ((↑nc:Int)>(4096:Int))=false)∧decide ((↑nc:Int)>(4096:Int))=false)∧decide ((↑nc:Int)>(4096:Int))=false)∧decide ((↑nc:Int)>(4096:Int))=false)∧decide ((↑nc:Int)>(4096:Int))=false)∧decide ((↑(Zr data):Int)>(16384:Int))=false)∧decide ((↑(Zr data):Int)>(16384:Int))=false)∧decide ((↑(Zr data):Int)>(16384:Int))=false)∧decide ((↑(Zr data):Int)>(16384:Int))=false)∧decide ((↑(Zr data):Int)>(16384:Int))=false)∧decide ((↑nr:Int)>(256:Int))=false)∧decide ((↑nr:Int)>(256:Int))=false)∧decide ((↑nr:Int)>(256:Int))=false)∧decide ((↑nr:Int)>(256:Int))=false)∧decide ((↑nr:Int)>(256:Int))=false)∧decide ((↑ns:Int)>(4:Int))=false)∧decide (Ze<(16:Int))=false)∧decide (Ze<(16:Int))=false)∧decide (Ze<(16:Int))=false)∧decide (Ze<(16:Int))=false)∧decide (Ze>(1024:Int))=false)∧decide (Ze>(1024:Int))=false)∧decide (Ze>(1024:Int))=false)∧decide (Ze>(1024:Int))=false)∧decide (Zc<(256:Int))=false)∧decide (Zc<(256:Int))=false)∧decide (Zc<(256:Int))=false)∧decide (Zc<(256:Int))=false)∧decide (Zc>(4096:Int))=false)∧decide (Zc>(4096:Int))=false)∧decide (Zc>(4096:Int))=false)∧decide (Zc>(4096:Int))=false)∧decide (Zc>(4096:Int))=false)∧(Zc.tmod (256:Int) !=(0:Int))=false)∧(Zc.tmod (256:Int) !=(0:Int))=false)∧(Zc.tmod (256:Int) !=(0:Int))=false)∧(Zc.tmod (256:Int) !=(0:Int))=false)∧decide (types<(0:Int))=false)∧decide (types<(0:Int))=false)∧decide (types<(0:Int))=false)∧decide (types<(0:Int))=false)∧decide (types>(2048:Int))=true)∧decide (types>(2048:Int))=true)∧decide (types>(2048:Int))=true)∧decide (types>(2048:Int))=true)∧decide (types>(2048:Int))=true)∧tt)∧tt)∧tt)∧tt)∧tt)∧tt):=by kernel_rfl
theorem Zqf (Ze Zc types:Int) (data:List UInt8) (a1 a2 a3:Option Addr) (nc nr ns c1 c2 c3:Nat):obs (evF Tryz.prog ZD Zf 100 10 55 [Yj Ze Zc types data a1 a2 a3 nc nr ns c1 c2 c3] ⟨67,[],[],0,(tb 52 4433230883192832),0,True⟩)=some (Value.int .i64 2,(((((((((((((((((((((((((((((((((((((((((((((((((((True∧decide ((↑nc:Int)>(4096:Int))=false)∧decide ((↑nc:Int)>(4096:Int))=false)∧decide ((↑nc:Int)>(4096:Int))=false)∧decide ((↑nc:Int)>(4096:Int))=false)∧decide ((↑nc:Int)>(4096:Int))=false)∧decide ((↑(Zr data):Int)>(16384:Int))=false)∧decide ((↑(Zr data):Int)>(16384:Int))=false)∧decide ((↑(Zr data):Int)>(16384:Int))=false)∧decide ((↑(Zr data):Int)>(16384:Int))=false)∧decide ((↑(Zr data):Int)>(16384:Int))=false)∧decide ((↑nr:Int)>(256:Int))=false)∧decide ((↑nr:Int)>(256:Int))=false)∧decide ((↑nr:Int)>(256:Int))=false)∧decide ((↑nr:Int)>(256:Int))=false)∧decide ((↑nr:Int)>(256:Int))=false)∧decide ((↑ns:Int)>(4:Int))=false)∧decide (Ze<(16:Int))=false)∧decide (Ze<(16:Int))=false)∧decide (Ze<(16:Int))=false)∧decide (Ze<(16:Int))=false)∧decide (Ze>(1024:Int))=false)∧decide (Ze>(1024:Int))=false)∧decide (Ze>(1024:Int))=false)∧decide (Ze>(1024:Int))=false)∧decide (Zc<(256:Int))=false)∧decide (Zc<(256:Int))=false)∧decide (Zc<(256:Int))=false)∧decide (Zc<(256:Int))=false)∧decide (Zc>(4096:Int))=false)∧decide (Zc>(4096:Int))=false)∧decide (Zc>(4096:Int))=false)∧decide (Zc>(4096:Int))=false)∧decide (Zc>(4096:Int))=false)∧(Zc.tmod (256:Int) !=(0:Int))=false)∧(Zc.tmod (256:Int) !=(0:Int))=false)∧(Zc.tmod (256:Int) !=(0:Int))=false)∧(Zc.tmod (256:Int) !=(0:Int))=false)∧decide (types<(0:Int))=false)∧decide (types<(0:Int))=false)∧decide (types<(0:Int))=false)∧decide (types<(0:Int))=false)∧decide (types>(2048:Int))=false)∧decide (types>(2048:Int))=false)∧decide (types>(2048:Int))=false)∧decide (types>(2048:Int))=false)∧decide (types>(2048:Int))=false)∧((↑nc:Int)==(0:Int))=true)∧((↑nc:Int)==(0:Int))=true)∧((↑nc:Int)==(0:Int))=true)∧((↑nc:Int)==(0:Int))=true)∧((↑nc:Int)==(0:Int))=true)∧tt):=by kernel_rfl
theorem Zqg (Ze Zc types:Int) (data:List UInt8) (a1 a2 a3:Option Addr) (nc nr ns c1 c2 c3:Nat):obs (evF Tryz.prog ZD Zf 100 10 55 [Yj Ze Zc types data a1 a2 a3 nc nr ns c1 c2 c3] ⟨67,[],[],0,(tb 52 2251799813685248),0,True⟩)=some (Value.int .i64 2,(((((((((((((((((((((((((((((((((((((((((((((((((((True∧decide ((↑nc:Int)>(4096:Int))=false)∧decide ((↑nc:Int)>(4096:Int))=false)∧decide ((↑nc:Int)>(4096:Int))=false)∧decide ((↑nc:Int)>(4096:Int))=false)∧decide ((↑nc:Int)>(4096:Int))=false)∧decide ((↑(Zr data):Int)>(16384:Int))=false)∧decide ((↑(Zr data):Int)>(16384:Int))=false)∧decide ((↑(Zr data):Int)>(16384:Int))=false)∧decide ((↑(Zr data):Int)>(16384:Int))=false)∧decide ((↑(Zr data):Int)>(16384:Int))=false)∧decide ((↑nr:Int)>(256:Int))=false)∧decide ((↑nr:Int)>(256:Int))=false)∧decide ((↑nr:Int)>(256:Int))=false)∧decide ((↑nr:Int)>(256:Int))=false)∧decide ((↑nr:Int)>(256:Int))=false)∧decide ((↑ns:Int)>(4:Int))=false)∧decide (Ze<(16:Int))=false)∧decide (Ze<(16:Int))=false)∧decide (Ze<(16:Int))=false)∧decide (Ze<(16:Int))=false)∧decide (Ze>(1024:Int))=false)∧decide (Ze>(1024:Int))=false)∧decide (Ze>(1024:Int))=false)∧decide (Ze>(1024:Int))=false)∧decide (Zc<(256:Int))=false)∧decide (Zc<(256:Int))=false)∧decide (Zc<(256:Int))=false)∧decide (Zc<(256:Int))=false)∧decide (Zc>(4096:Int))=false)∧decide (Zc>(4096:Int))=false)∧decide (Zc>(4096:Int))=false)∧decide (Zc>(4096:Int))=false)∧decide (Zc>(4096:Int))=false)∧(Zc.tmod (256:Int) !=(0:Int))=false)∧(Zc.tmod (256:Int) !=(0:Int))=false)∧(Zc.tmod (256:Int) !=(0:Int))=false)∧(Zc.tmod (256:Int) !=(0:Int))=false)∧decide (types<(0:Int))=false)∧decide (types<(0:Int))=false)∧decide (types<(0:Int))=false)∧decide (types<(0:Int))=false)∧decide (types>(2048:Int))=false)∧decide (types>(2048:Int))=false)∧decide (types>(2048:Int))=false)∧decide (types>(2048:Int))=false)∧decide (types>(2048:Int))=false)∧((↑nc:Int)==(0:Int))=false)∧((↑nc:Int)==(0:Int))=false)∧((↑nc:Int)==(0:Int))=false)∧((↑nc:Int)==(0:Int))=false)∧((↑nc:Int)==(0:Int))=false)∧((↑ns:Int)==(0:Int))=true):=by kernel_rfl
def Ur (v:Value) (e:Int):Con:=⟨[v],67,[],[],.int .i64 e,67,[],[]⟩
theorem Yk (Ze Zc types:Int) (data:List UInt8) (a1 a2 a3:Option Addr) (nc nr ns c1 c2 c3:Nat) (hv:okV (fun l=>Nat.blt l 67) 3 (Yj Ze Zc types data a1 a2 a3 nc nr ns c1 c2 c3)=true) {e:Int} {T:List (Nat×Bool)} {q:Prop} (h:obs (evF Tryz.prog ZD Zf 100 10 55 [Yj Ze Zc types data a1 a2 a3 nc nr ns c1 c2 c3] ⟨67,[],[],0,T,0,True⟩)=some (.int .i64 e,q)) (hq:q):ConOk Tryz.prog 55 3 (Ur (Yj Ze Zc types data a1 a2 a3 nc nr ns c1 c2 c3) e):=by
 unfold obs at h
 obtain⟨⟨v,s'⟩,h1,h2⟩:=oM h
 cases h2
 exact ZF (Zu (L:=100) ZK (Zx _) (Zj _) 10) ⟨by show NG≤67; decide,Nat.le_refl _,trivial,rfl,rfl,rfl,by simp only[rr, tt, Ur,List.all_cons,List.all_nil,hv,Bool.and_true],rfl,fun x hx=>by cases hx⟩ h1 hq (p:=fun l=>Nat.blt l 67) (σ:=id) ⟨fun _ _=>rfl,trivial,rfl,trivial,⟨rfl,rfl⟩,rfl,trivial,rfl,Zz _ rfl,fun x hx=>by cases hx⟩
theorem Zeu (Ze Zc types:Int) (data:List UInt8) (a1 a2 a3:Option Addr) (nc nr ns c1 c2 c3:Nat) (hv:okV (fun l=>Nat.blt l 67) 3 (Yj Ze Zc types data a1 a2 a3 nc nr ns c1 c2 c3)=true) (h:ZO nc data.length nr ns=true∨QF Ze Zc types nc ns=true):ConOk Tryz.prog 55 3 (Ur (Yj Ze Zc types data a1 a2 a3 nc nr ns c1 c2 c3) (bif ZO nc data.length nr ns then 3 else 2)):=by
 by_cases h_a:(decide ((nc:Int)>4096))=true
 ·have he:(bif ZO nc data.length nr ns then(3:Int) else 2)=3:=by
   unfold ZO
   simp only[rr, tt, h_a,Bool.true_or,Bool.or_true,Bool.false_or,Bool.or_false,cond_true,cond_false]
  have hh:=Zp4 Ze Zc types data a1 a2 a3 nc nr ns c1 c2 c3
  try rw[Zq] at hh
  rw[he]
  refine Yk Ze Zc types data a1 a2 a3 nc nr ns c1 c2 c3 hv hh ?_
  simp only[rr, tt, Bool.not_false,Bool.not_true,h_a]
  repeat' (with_reducible apply And.intro)
  all_goals first|with_reducible trivial|with_reducible rfl
 replace h_a:=eq_false_of_ne_true h_a
 by_cases h_b:(decide ((data.length:Int)>16384))=true
 ·have he:(bif ZO nc data.length nr ns then(3:Int) else 2)=3:=by
   unfold ZO
   simp only[rr, tt, h_a,h_b,Bool.true_or,Bool.or_true,Bool.false_or,Bool.or_false,cond_true,cond_false]
  have hh:=Zp5 Ze Zc types data a1 a2 a3 nc nr ns c1 c2 c3
  try rw[Zq] at hh
  rw[he]
  refine Yk Ze Zc types data a1 a2 a3 nc nr ns c1 c2 c3 hv hh ?_
  simp only[rr, tt, Bool.not_false,Bool.not_true,h_a,h_b]
  repeat' (with_reducible apply And.intro)
  all_goals first|with_reducible trivial|with_reducible rfl
 replace h_b:=eq_false_of_ne_true h_b
 by_cases h_c:(decide ((nr:Int)>256))=true
 ·have he:(bif ZO nc data.length nr ns then(3:Int) else 2)=3:=by
   unfold ZO
   simp only[rr, tt, h_a,h_b,h_c,Bool.true_or,Bool.or_true,Bool.false_or,Bool.or_false,cond_true,cond_false]
  have hh:=Zp6 Ze Zc types data a1 a2 a3 nc nr ns c1 c2 c3
  try rw[Zq] at hh
  rw[he]
  refine Yk Ze Zc types data a1 a2 a3 nc nr ns c1 c2 c3 hv hh ?_
  simp only[rr, tt, Bool.not_false,Bool.not_true,h_a,h_b,h_c]
  repeat' (with_reducible apply And.intro)
  all_goals first|with_reducible trivial|with_reducible rfl
 replace h_c:=eq_false_of_ne_true h_c
 by_cases h_d:(decide ((ns:Int)>4))=true
 ·have he:(bif ZO nc data.length nr ns then(3:Int) else 2)=3:=by
   unfold ZO
   simp only[rr, tt, h_a,h_b,h_c,h_d,Bool.true_or,Bool.or_true,Bool.false_or,Bool.or_false,cond_true,cond_false]
  have hh:=Zp7 Ze Zc types data a1 a2 a3 nc nr ns c1 c2 c3
  try rw[Zq] at hh
  rw[he]
  refine Yk Ze Zc types data a1 a2 a3 nc nr ns c1 c2 c3 hv hh ?_
  simp only[rr, tt, Bool.not_false,Bool.not_true,h_a,h_b,h_c,h_d]
  repeat' (with_reducible apply And.intro)
  all_goals first|with_reducible trivial|with_reducible rfl
 replace h_d:=eq_false_of_ne_true h_d
 by_cases h_e:(decide (Ze<16))=true
 ·have he:(bif ZO nc data.length nr ns then(3:Int) else 2)=2:=by
   unfold ZO
   simp only[rr, tt, h_a,h_b,h_c,h_d,h_e,Bool.true_or,Bool.or_true,Bool.false_or,Bool.or_false,cond_true,cond_false]
  have hh:=Zp8 Ze Zc types data a1 a2 a3 nc nr ns c1 c2 c3
  try rw[Zq] at hh
  rw[he]
  refine Yk Ze Zc types data a1 a2 a3 nc nr ns c1 c2 c3 hv hh ?_
  simp only[rr, tt, Bool.not_false,Bool.not_true,h_a,h_b,h_c,h_d,h_e]
  repeat' (with_reducible apply And.intro)
  all_goals first|with_reducible trivial|with_reducible rfl
 replace h_e:=eq_false_of_ne_true h_e
 by_cases h_f:(decide (Ze>1024))=true
 ·have he:(bif ZO nc data.length nr ns then(3:Int) else 2)=2:=by
   unfold ZO
   simp only[rr, tt, h_a,h_b,h_c,h_d,h_e,h_f,Bool.true_or,Bool.or_true,Bool.false_or,Bool.or_false,cond_true,cond_false]
  have hh:=Zp9 Ze Zc types data a1 a2 a3 nc nr ns c1 c2 c3
  try rw[Zq] at hh
  rw[he]
  refine Yk Ze Zc types data a1 a2 a3 nc nr ns c1 c2 c3 hv hh ?_
  simp only[rr, tt, Bool.not_false,Bool.not_true,h_a,h_b,h_c,h_d,h_e,h_f]
  repeat' (with_reducible apply And.intro)
  all_goals first|with_reducible trivial|with_reducible rfl
 replace h_f:=eq_false_of_ne_true h_f
 by_cases h_g:(decide (Zc<256))=true
 ·have he:(bif ZO nc data.length nr ns then(3:Int) else 2)=2:=by
   unfold ZO
   simp only[rr, tt, h_a,h_b,h_c,h_d,h_e,h_f,h_g,Bool.true_or,Bool.or_true,Bool.false_or,Bool.or_false,cond_true,cond_false]
  have hh:=Zqa Ze Zc types data a1 a2 a3 nc nr ns c1 c2 c3
  try rw[Zq] at hh
  rw[he]
  refine Yk Ze Zc types data a1 a2 a3 nc nr ns c1 c2 c3 hv hh ?_
  simp only[rr, tt, Bool.not_false,Bool.not_true,h_a,h_b,h_c,h_d,h_e,h_f,h_g]
  repeat' (with_reducible apply And.intro)
  all_goals first|with_reducible trivial|with_reducible rfl
 replace h_g:=eq_false_of_ne_true h_g
 by_cases h_h:(decide (Zc>4096))=true
 ·have he:(bif ZO nc data.length nr ns then(3:Int) else 2)=2:=by
   unfold ZO
   simp only[rr, tt, h_a,h_b,h_c,h_d,h_e,h_f,h_g,h_h,Bool.true_or,Bool.or_true,Bool.false_or,Bool.or_false,cond_true,cond_false]
  have hh:=Zqb Ze Zc types data a1 a2 a3 nc nr ns c1 c2 c3
  try rw[Zq] at hh
  rw[he]
  refine Yk Ze Zc types data a1 a2 a3 nc nr ns c1 c2 c3 hv hh ?_
  simp only[rr, tt, Bool.not_false,Bool.not_true,h_a,h_b,h_c,h_d,h_e,h_f,h_g,h_h]
  repeat' (with_reducible apply And.intro)
  all_goals first|with_reducible trivial|with_reducible rfl
 replace h_h:=eq_false_of_ne_true h_h
 by_cases h_i:((Zc.tmod 256 !=0))=true
 ·have he:(bif ZO nc data.length nr ns then(3:Int) else 2)=2:=by
   unfold ZO
   simp only[rr, tt, h_a,h_b,h_c,h_d,h_e,h_f,h_g,h_h,h_i,Bool.true_or,Bool.or_true,Bool.false_or,Bool.or_false,cond_true,cond_false]
  have hh:=Zqc Ze Zc types data a1 a2 a3 nc nr ns c1 c2 c3
  try rw[Zq] at hh
  rw[he]
  refine Yk Ze Zc types data a1 a2 a3 nc nr ns c1 c2 c3 hv hh ?_
  simp only[rr, tt, Bool.not_false,Bool.not_true,h_a,h_b,h_c,h_d,h_e,h_f,h_g,h_h,h_i]
  repeat' (with_reducible apply And.intro)
  all_goals first|with_reducible trivial|with_reducible rfl
 replace h_i:=eq_false_of_ne_true h_i
 by_cases h_j:(decide (types<0))=true
 ·have he:(bif ZO nc data.length nr ns then(3:Int) else 2)=2:=by
   unfold ZO
   simp only[rr, tt, h_a,h_b,h_c,h_d,h_e,h_f,h_g,h_h,h_i,h_j,Bool.true_or,Bool.or_true,Bool.false_or,Bool.or_false,cond_true,cond_false]
  have hh:=Zqd Ze Zc types data a1 a2 a3 nc nr ns c1 c2 c3
  try rw[Zq] at hh
  rw[he]
  refine Yk Ze Zc types data a1 a2 a3 nc nr ns c1 c2 c3 hv hh ?_
  simp only[rr, tt, Bool.not_false,Bool.not_true,h_a,h_b,h_c,h_d,h_e,h_f,h_g,h_h,h_i,h_j]
  repeat' (with_reducible apply And.intro)
  all_goals first|with_reducible trivial|with_reducible rfl
 replace h_j:=eq_false_of_ne_true h_j
 by_cases h_k:(decide (types>2048))=true
 ·have he:(bif ZO nc data.length nr ns then(3:Int) else 2)=2:=by
   unfold ZO
   simp only[rr, tt, h_a,h_b,h_c,h_d,h_e,h_f,h_g,h_h,h_i,h_j,h_k,Bool.true_or,Bool.or_true,Bool.false_or,Bool.or_false,cond_true,cond_false]
  have hh:=Zqe Ze Zc types data a1 a2 a3 nc nr ns c1 c2 c3
  try rw[Zq] at hh
  rw[he]
  refine Yk Ze Zc types data a1 a2 a3 nc nr ns c1 c2 c3 hv hh ?_
  simp only[rr, tt, Bool.not_false,Bool.not_true,h_a,h_b,h_c,h_d,h_e,h_f,h_g,h_h,h_i,h_j,h_k]
  repeat' (with_reducible apply And.intro)
  all_goals first|with_reducible trivial|with_reducible rfl
 replace h_k:=eq_false_of_ne_true h_k
 by_cases h_l:(((nc:Int)==0))=true
 ·have he:(bif ZO nc data.length nr ns then(3:Int) else 2)=2:=by
   unfold ZO
   simp only[rr, tt, h_a,h_b,h_c,h_d,h_e,h_f,h_g,h_h,h_i,h_j,h_k,h_l,Bool.true_or,Bool.or_true,Bool.false_or,Bool.or_false,cond_true,cond_false]
  have hh:=Zqf Ze Zc types data a1 a2 a3 nc nr ns c1 c2 c3
  try rw[Zq] at hh
  rw[he]
  refine Yk Ze Zc types data a1 a2 a3 nc nr ns c1 c2 c3 hv hh ?_
  simp only[rr, tt, Bool.not_false,Bool.not_true,h_a,h_b,h_c,h_d,h_e,h_f,h_g,h_h,h_i,h_j,h_k,h_l]
  repeat' (with_reducible apply And.intro)
  all_goals first|with_reducible trivial|with_reducible rfl
 replace h_l:=eq_false_of_ne_true h_l
 by_cases h_m:(((ns:Int)==0))=true
 ·have he:(bif ZO nc data.length nr ns then(3:Int) else 2)=2:=by
   unfold ZO
   simp only[rr, tt, h_a,h_b,h_c,h_d,h_e,h_f,h_g,h_h,h_i,h_j,h_k,h_l,h_m,Bool.true_or,Bool.or_true,Bool.false_or,Bool.or_false,cond_true,cond_false]
  have hh:=Zqg Ze Zc types data a1 a2 a3 nc nr ns c1 c2 c3
  try rw[Zq] at hh
  rw[he]
  refine Yk Ze Zc types data a1 a2 a3 nc nr ns c1 c2 c3 hv hh ?_
  simp only[rr, tt, Bool.not_false,Bool.not_true,h_a,h_b,h_c,h_d,h_e,h_f,h_g,h_h,h_i,h_j,h_k,h_l,h_m]
  repeat' (with_reducible apply And.intro)
  all_goals first|with_reducible trivial|with_reducible rfl
 replace h_m:=eq_false_of_ne_true h_m
 have hl:ZO nc data.length nr ns=false:=by unfold ZO; simp only[rr, tt, h_a,h_b,h_c,h_d,Bool.or_false]
 have ha:QF Ze Zc types nc ns=false:=by unfold QF; simp only[rr, tt, h_e,h_f,h_g,h_h,h_i,h_j,h_k,h_l,h_m,Bool.or_false]
 rw[hl,ha] at h
 rcases h with h|h<;>cases h
def Zdl (g:FuncId) (c:Con) (ρ:List Nat):ZmJ:=fun f _ _=>bif Nat.beq f g then some (c,ρ,0,True) else none
theorem Zfk {P:Program} {d:Nat} {g:FuncId} {c:Con} {ρ:List Nat} (h:ConOk P g d c) (h2:InId d c):Zf3 P d (Zdl g c ρ):=by
 intro f args s c' ρ' m q hs _
 unfold Zdl at hs
 obtain⟨h3,h4⟩:=ZL hs
 have h3:=eB h3
 subst h3
 cases h4
 exact⟨h,h2⟩
theorem Zqh (p s t e:Int) (d:List UInt8) (a1 a2 a3:Option Addr) (n1 n2 n3 c1 c2 c3:Nat) (hh:Heap):obs (evF Tryz.prog (Zf4 3 (Zdl 55 { args:=(Ur (Yj p s t d a1 a2 a3 n1 n2 n3 c1 c2 c3) e).args,n:=(Ur (Yj p s t d a1 a2 a3 n1 n2 n3 c1 c2 c3) e).n,h:=hh,lo:=(Ur (Yj p s t d a1 a2 a3 n1 n2 n3 c1 c2 c3) e).lo,res:=(Ur (Yj p s t d a1 a2 a3 n1 n2 n3 c1 c2 c3) e).res,n':=(Ur (Yj p s t d a1 a2 a3 n1 n2 n3 c1 c2 c3) e).n',h':=(Ur (Yj p s t d a1 a2 a3 n1 n2 n3 c1 c2 c3) e).h',lo':=(Ur (Yj p s t d a1 a2 a3 n1 n2 n3 c1 c2 c3) e).lo':Con } [64,65,66]) ZD) Zf 100 20 16 [Yj p s t d a1 a2 a3 n1 n2 n3 c1 c2 c3] ⟨67,hh,[],0,[(0,true)],0,True⟩)=some (Value.tuple { toList:=[Value.agg ⟨[.int .u32 0,.int .u32 0,.int .u32 0,.int .u32 0,.int .u32 0,.int .u32 0,.int .u32 0,.int .u32 0]⟩,.int .i64 e] },(True∧True∧rr [Value.agg ⟨[.int .i64 p,.int .i64 s,.int .i64 t,.slice a1 n1 c1,.string ⟨⟨d⟩⟩,.slice a2 n2 c2,.slice a3 n3 c3]⟩]∧hh=[]∧True)∧(e !=(0:Int))=true):=by kernel_rfl
def sl (k:Nat) (g n:Nat):Value:=match k with|0 => .slice none 0 0|1 => .slice (some ⟨g,0,some g⟩) 0 (big+g)|_ => .slice (some ⟨g,0,none⟩) n (big+g)
def slH (k:Nat) (g:Nat) (cells:List Value):Sy.Heap:=match k with|0=>[]|1=>[]|_=>[(g,⟨false,some (0,0),cells,none⟩)]
def Zof (k n:Nat):Prop:=k≤2∧(k<2→n=0)
def inV (i j k:Nat) (Ze Zc types:Int) (data:List UInt8) (cs:List Nat) (rs:List Rl) (Za:List Nat):Value :=
 .agg ⟨[.int .i64 Ze,.int .i64 Zc,.int .i64 types,sl i 64 cs.length,.string ⟨⟨data⟩⟩,sl j 65 rs.length,sl k 66 Za.length]⟩
def inH (i j k:Nat) (cs:List Nat) (rs:List Rl) (Za:List Nat):Sy.Heap:=slH i 64 (Zk cs)++slH j 65 (rels rs)++slH k 66 (Zk Za)
def Zmi (cs:List Nat) (rs:List Rl) (Za:List Nat):List (Nat×Nat):=[(64,cs.length),(65,rs.length),(66,Za.length)]
end Go.Proofs.YtliidiceljdgmaaGreat
namespace Go.Proofs.YtliidiceljdgmaaGreat
open Go.IntKind (u8 u16 u32 u64 i64)
open Go.ChangeShapes Go.WideShapes Go.ChangeAt Go.RowKit
open Go.ChangeMaps (open_string shut_string)
theorem own:ownKnob Tryz.prog.godebug=none:=by kernel_rfl
theorem Zmj:laidOutB Tryz.prog=true:=by kernel_rfl
section
variable {H:Type} {enc:TypeId×Value→H} {P:Program}
theorem Zbh {f:Func} {s:ChangeSpec} {apart fresh handsOn again:Bool} {W W':World} {args:Array Value} {v:Value} {ds gs:List (DataW H)} {before pa pv:List MemPlace}
  (hW:DataW.Whole enc P f.params.toList s.vars apart W args.toList ds gs before)
  (hres:∀ (b:Nat) (sp:Nat→Bool) (hd:Bool),DataW.TrodAll enc P W' b sp hd f.resultTypes.toList (v.resultList f.resultTypes.size) (s.fn H (ds++gs)).results [])
  (hargs:∀ sp:Nat→Bool,(∀ p∈before,sp p.block=true)→DataW.TrodAll enc P W' 0 sp true f.params.toList args.toList (s.fn H (ds++gs)).args pa)
  (hvars:∀ sp:Nat→Bool,(∀ p∈before,sp p.block=true)→DataW.TrodVars enc P W' sp s.vars (s.fn H (ds++gs)).vars pv)
  (hps:before=pa++pv) (hb:Below W.heap.size W W')
  (hok:∀ (j:Nat) (t:TypeId) (r:Value),f.resultTypes[j]? = some t→(v.resultList f.resultTypes.size)[j]? = some r→Value.okWide P W' .any 0 t r) :
  s.post enc P f apart fresh handsOn again W args v W':=by
 have hlt:∀ p∈before,p.block<W.heap.size:=fun p hp=>hW.lt p hp
 have hold:∀ p∈before,(fun b=>decide (b<W.heap.size)) p.block=true:=fun p hp=>by simpa using hlt p hp
 refine⟨ds,gs,before,[],pa,pv,hW,hres _ _ _,hargs _ hold,hvars _ hold,World.keptBut_mono (fun p hp=>⟨hp,?_⟩) (hb.frame (· ∈ before)),fun _ => ?_⟩
 ·rw[hps,List.mem_append] at hp
  exact Or.inr hp
 ·obtain⟨_,_,_,_,_,hz,hn⟩:=hW
  refine⟨hok,_,_,([]++pa)++pv,⟨[]++pa,pv,trodAll_append (hargs _ (fun _ _=>rfl)) (hres _ _ _),hvars _ (fun _ _=>rfl),rfl,?_,?_⟩,?_⟩
  ·intro b off hp
   have hin:MemPlace.cell b off∈before:=by rw[hps]; simpa using hp
   rw[hb.frozen (hlt _ hin)]
   exact hz b off hin
  ·intro ha
   have:=hn ha
   rw[hps] at this
   simpa using this
  ·intro p hp _
   rw[hps]
   simpa using hp
theorem Kz (hl:laidOutB P=true) {W W':World} (hb:Below W.heap.size W W') {sp:Nat→Bool}:∀ (ts:List TypeId) (vs:List Value) (ds:List (DataW H)) (ps:List MemPlace),
  (∀ t∈ts,P.readableRec t=true∧t<P.types.size)→DataW.TrodAll enc P W 0 (fun _=>true) true ts vs ds ps→(∀ x∈ps,x.block<W.heap.size)→(∀ x∈ps,sp x.block=true) →
  DataW.TrodAll enc P W' 0 sp true ts vs ds ps
 | [],[],[],_,_,h,_,_=>h
 | t::ts,v::vs,d::ds,ps,ht,h,hlt,hs=>by
  obtain⟨p,q,h1,h2,rfl⟩:=h
  refine⟨p,q,?_,Kz hl hb ts vs ds q (fun u hu=>ht u (List.mem_cons_of_mem _ hu)) h2 (fun x hx=>hlt x (List.mem_append_right _ hx)) (fun x hx=>hs x (List.mem_append_right _ hx)),rfl⟩
  exact WideElems.Trod_stays hl (ht t (List.mem_cons_self ..)).1 (ht t (List.mem_cons_self ..)).2 h1 (fun x hx=>hb.same (hlt x (List.mem_append_left _ hx))) (fun x hx=>hs x (List.mem_append_left _ hx))
 | [],[],_::_,_,_,h,_,_=>h.elim
 | [],_::_,_,_,_,h,_,_=>h.elim
 | _::_,[],_,_,_,h,_,_=>h.elim
 | _::_,_::_,[],_,_,h,_,_=>h.elim
theorem Vv {W:World} {base:Nat} {sp:Nat→Bool} {hd:Bool}:∀ (ts:List TypeId) (vs:List Value) (ds:List (DataW H)) (ps:List MemPlace),DataW.TrodAll enc P W base sp hd ts vs ds ps→ds.length=ts.length
 | [],[],[],_,_=>rfl
 | _::ts,_::vs,_::ds,_,h=>by
  obtain⟨_,_,_,h2,_⟩:=h
  simp[Vv ts vs ds _ h2]
 | [],[],_::_,_,h=>h.elim
 | [],_::_,_,_,h=>h.elim
 | _::_,[],_,_,h=>h.elim
 | _::_,_::_,[],_,h=>h.elim
end
theorem Zcq {n:Int} (h:(Lit.int .u32 n).wf=true):0≤n∧n<4294967296:=by
 have:=bounds_u32 h; omega
theorem Zkl {n:Int} (h:(Lit.int .u16 n).wf=true):0≤n∧n<65536:=by
 have:=bounds_u16 h; omega
def ZhG (f:FuncId) (fn:Func):Prop :=
 ∀ (H:Type) (enc:TypeId×Value→H) (W:World) (base:Nat) (args:Array Value) (ds:List (DataW H)) (p:List MemPlace),
  (∀ (j:Nat) t v,fn.params[j]? = some t→args[j]? = some v→Value.okWide Tryz.prog W .any base t v) →
  DataW.TrodAll enc Tryz.prog W 0 (fun _=>true) true fn.params.toList args.toList ds p →
  Calls Tryz.prog f args W fun e W'=>e = .returned (.bool true)∧Below W.heap.size W W'
set_option maxRecDepth 100000 in
theorem Zfl (f:FuncId) (fn:Func) (s:ChangeSpec) (conds:List PathCond) (hfn:Tryz.prog.funcs[f]? = some fn) (noInit:Tryz.prog.inits.idxOf? f=none)
  (hres:fn.resultTypes = #[4])
  (hvars:s.vars=[]) (hspec:∀ (H:Type) (ds:List (DataW H)),ds.length=fn.params.toList.length→(s.fn H (ds++[])).results=[.lit (.bool true)]∧(s.fn H (ds++[])).args=ds∧(s.fn H (ds++[])).vars=[])
  (hts:∀ t∈fn.params.toList,Tryz.prog.readableRec t=true∧t<Tryz.prog.types.size)
  (walk:ZhG f fn) (os:Os) (started:os.Started) (H:Type) (enc:TypeId×Value→H)
  (witness:∃ (w:World) (tape:Tape) (i:Input),w.os=os∧(w.forCall tape i).Shaped Tryz.checked.prog∧i.vars=[]∧Input.okWide Tryz.checked.prog (w.forCall tape i) .any w.heap.size f i ∧
   s.pre6 enc Tryz.checked.prog fn conds false (w.forCall tape i).memory i.args∧({}:Assume).holds Tryz.checked.prog (lone (Frame.enter Tryz.checked.prog f i.args .normal) [] (w.forCall tape i))) :
  ReturnsInHanded {} Tryz.checked os f .any (s.pre6 enc Tryz.prog fn conds false) (s.post enc Tryz.prog fn false true false false):=by
 refine returnsInHanded_of_change (C:=Tryz.checked) own started noInit hfn witness ?_
 intro W base args ds gs before hval0 hW _ _
 have hW':=hW
 obtain⟨p,q,hA,hV,rfl,_,_⟩:=hW
 rw[hvars] at hV
 obtain⟨rfl,rfl⟩:=trodVars_none hV
 obtain⟨e1,e2,e3⟩:=hspec H ds (Vv _ _ _ _ hA)
 refine(walk H enc W base args ds p hval0 hA).mono fun e W' ⟨he,hg⟩ => ?_
 subst he
 refine⟨_,rfl,Zbh (pa:=p) (pv:=[]) hW' (fun b sp hd => ?_) (fun sp hsp => ?_) (fun sp _ => ?_) rfl hg ?_⟩
 ·rw[e1,hres]
  exact trodAll_mk1 (shut_bool Tryz.underlying4 _)
 ·rw[e2]
  exact Kz Zmj hg _ _ _ _ hts hA (fun x hx=>hW'.lt x (List.mem_append_left _ hx)) (fun x hx=>hsp x (List.mem_append_left _ hx))
 ·rw[e3,hvars]; rfl
 ·exact ok_one hres rfl (okWide_bool_mk Tryz.underlying4 _)
end Go.Proofs.YtliidiceljdgmaaGreat
namespace Go.Proofs.YtliidiceljdgmaaGreat
open Go.IntKind (u8 u16 u32 u64 i64)
open Go.ChangeShapes Go.WideShapes Go.Deep
section
variable {H:Type} {enc:TypeId×Value→H} {P:Program} {w:World} {base:Nat} {spare:Nat→Bool} {held:Bool}
theorem Ws {t e:TypeId} {fs:Array Field} {fuel:Nat} {cs:List Value} {x:DataW H×List MemPlace} (ht:P.underlying t=some (.slice e)) (he:P.underlying e=some (.struct fs))
  (hone:oneCellFields P fs=true) (hC:P.cellsOf e=fs.size) (h:DataW.trod enc P w base spare held fuel t cs=some x) :
  (cs=[.slice none 0 0]∧x=(.nil,[])) ∨
  ∃ (a:Addr) (len cap m:Nat) (D:Nat→DataW H) (Pl:Nat→List MemPlace),cs=[.slice (some a) len cap]∧base≤a.block∧len≤cap∧cap≤maxLen∧m=(if spare a.block then cap else len) ∧
   x=(.slice ((List.range len).map D) ((List.range (m-len)).map fun j=>D (len+j)),MemPlace.row a (m*fs.size)++(List.range m).flatMap Pl) ∧
   ∀ i,i<m→∃ (ys:List (DataW H×List MemPlace)) (n:Nat),D i = .agg (ys.map (·.1))∧Pl i=ys.flatMap (·.2)∧ys.length=fs.size ∧
    ∀ (j:Nat) (f:Field),fs[j]? = some f→∃ (v:Value) (y:DataW H×List MemPlace),w.cell? (a.add (i*fs.size+j))=some v∧ys[j]? = some y∧DataW.trod enc P w base spare held n f.type [v]=some y:=by
 rcases open_slice ht h with h0|⟨a,len,cap,m,n,D,Pl,hcs,hb,hl,hm,hmm,hx,hi⟩
 ·exact .inl h0
 ·refine .inr ⟨a,len,cap,m,D,Pl,hcs,hb,hl,hm,hmm,by rw[hC] at hx; exact hx,fun i him => ?_⟩
  obtain⟨cs',hc,ht'⟩:=hi i him
  rw[hC] at hc
  obtain⟨ys,n',hn',hy,hlen,hyl,hf⟩:=DataW.trod_struct he ht'
  obtain⟨_,hcl,hat⟩:=World.cells?_some hc
  simp only[rr, tt, Prod.mk.injEq] at hy
  refine⟨ys,n',hy.1,hy.2,hyl,fun j f hj => ?_⟩
  obtain⟨ho,hk⟩:=hone_of hone j f hj
  have hjl:j<fs.size:=(Array.getElem?_eq_some_iff.1 hj).1
  have hcell:=hat j hjl
  have hv:cs'[j]? = some (cs'[j]'(by omega)):=List.getElem?_eq_getElem (by omega)
  have h1:=hf j f hj
  rw[ho,hk] at h1
  have hone':(cs'.drop j).take 1=[cs'[j]'(by omega)]:=by
   rw[List.drop_eq_getElem_cons (by omega)]
   rfl
  rw[hone'] at h1
  have hys:ys[j]? = some (ys[j]'(by omega)):=List.getElem?_eq_getElem (by omega)
  refine⟨_,_,?_,hys,h1.trans hys⟩
  rw[← Go.Deep.add_add,hcell,hv]
end
end Go.Proofs.YtliidiceljdgmaaGreat
namespace Go.Proofs.YtliidiceljdgmaaGreat
open Go.IntKind (u8 u16 u32 u64 i64)
open Go.ChangeShapes Go.WideShapes Go.Deep Go.RowKit
section
variable {H:Type} {enc:TypeId×Value→H} {P:Program} {w:World} {base:Nat} {spare:Nat→Bool} {held:Bool}
theorem Zcr {r:Reach} {b0:Nat} {t:TypeId} {fs:Array Field} {v:Value} {d:DataW H} {p:List MemPlace} (hs:P.underlying t=some (.struct fs)) (hone:oneCellFields P fs=true) (hC:P.cellsOf t=fs.size)
  (hv:Value.okWide P w r b0 t v) (h:DataW.Trod enc P w base spare held t v d p) :
  ∃ cs:List Value,v = .agg cs.toArray∧cs.length=fs.size∧∀ (j:Nat) (f:Field),fs[j]? = some f→∃ (u:Value) (y:DataW H×List MemPlace) (n:Nat),cs[j]? = some u∧DataW.trod enc P w base spare held n f.type [u]=some y:=by
 obtain⟨cs,rfl,hsz⟩:=okWide_struct hs hv
 obtain⟨l⟩:=cs
 refine⟨l,rfl,hsz.trans hC,fun j f hj => ?_⟩
 obtain⟨fuel,hf⟩:=h
 obtain⟨xs,n,_,hx,_,hlen,hg⟩:=DataW.trod_struct hs hf
 obtain⟨o,k⟩:=hone_of hone j f hj
 have hjl:j<fs.size:=(Array.getElem?_eq_some_iff.1 hj).1
 have hl:l.length=fs.size:=hsz.trans hC
 have h1:=hg j f hj
 rw[o,k] at h1
 simp only[rr, tt, Value.cells] at h1
 have hone':(l.drop j).take 1=[l[j]'(by omega)]:=by
  rw[List.drop_eq_getElem_cons (by omega)]
  rfl
 rw[hone'] at h1
 exact⟨l[j]'(by omega),xs[j]'(by omega),n,List.getElem?_eq_getElem (by omega),h1.trans (List.getElem?_eq_getElem (by omega))⟩
end
end Go.Proofs.YtliidiceljdgmaaGreat
namespace Go.Proofs.YtliidiceljdgmaaGreat
open Go.IntKind (u8 u16 u32 u64 i64)
open Go.ChangeShapes Go.WideShapes Go.Deep Go.RowKit
open Sy
structure SlIs (W:World) (v:Value) (k:Nat) (cells:List Value) (n B O C:Nat) (S:Option Nat):Prop where
 is:v=(match k with|0 => .slice none 0 0|1 => .slice (some ⟨B,O,S⟩) 0 C|_ => .slice (some ⟨B,O,none⟩) n C)
 ok:Zof k n
 le:n≤C
 at_:2≤k→∃ arr ty fr,W.heap[B]? = some (.cells arr ty fr)∧O+cells.length≤arr.size∧∀ j v,cells[j]? = some v→arr[O+j]? = some v
section
variable {H:Type} {enc:TypeId×Value→H} {P:Program} {W:World} {base:Nat} {spare:Nat→Bool} {held:Bool}
theorem ZhH {a:Addr} {v:Value} (h:W.cell? a=some v):∃ arr ty fr,W.heap[a.block]? = some (.cells arr ty fr)∧arr[a.off]? = some v∧a.spot=none:=by
 have hs:=World.cell?_spot h
 unfold World.cell? at h
 split at h
 ·rename_i c t f hb
  rw[hs] at h
  exact⟨c,t,f,hb,by simpa using h,hs⟩
 ·cases h
theorem Zmk {a:Addr} (h:a.spot=none) (i:Nat):(a.add i).block=a.block∧(a.add i).off=a.off+i:=by
 obtain⟨b,o,s⟩:=a
 subst h
 unfold Addr.add
 split<;>simp_all
theorem Zkm {a:Addr} {cells:List Value} (h0:0<cells.length) (h:∀ i v,cells[i]? = some v→W.cell? (a.add i)=some v):a.spot=none∧∃ arr ty fr,W.heap[a.block]? = some (.cells arr ty fr)∧a.off+cells.length≤arr.size∧∀ j v,cells[j]? = some v→arr[a.off+j]? = some v:=by
 have h1:=h 0 _ (List.getElem?_eq_getElem h0)
 rw[show a.add 0=a by unfold Addr.add; simp] at h1
 obtain⟨arr,ty,fr,q1,q2,q3⟩:=ZhH h1
 have hat:∀ j v,cells[j]? = some v→arr[a.off+j]? = some v:=fun j v hj=>by
  obtain⟨arr',ty',fr',p1,p2,_⟩:=ZhH (h j v hj)
  obtain⟨e1,e2⟩:=Zmk q3 j
  rw[e1,q1] at p1
  cases p1
  rw[e2] at p2
  exact p2
 refine⟨q3,arr,ty,fr,q1,?_,hat⟩
 have:=hat (cells.length-1) _ (List.getElem?_eq_getElem (by omega))
 have:=(Array.getElem?_eq_some_iff.1 this).1
 omega
theorem Zcs {t e:TypeId} {fuel:Nat} {u:Value} {x:DataW H×List MemPlace} (ht:P.underlying t=some (.slice e)) (he:P.underlying e=some (.int .u32)) (hc:P.cellsOf e=1)
  (h:DataW.trod enc P W base spare held fuel t [u]=some x):∃ (k:Nat) (xs:List Nat) (B O C:Nat) (S:Option Nat),SlIs W u k (Zk xs) xs.length B O C S∧∀ y∈xs,y<4294967296:=by
 rcases open_ints ht he hc h with⟨h1,_⟩|⟨a,len,cap,zs,h1,_,hl,_,hz,_,hcell,hw⟩
 ·simp only[rr, tt, List.cons.injEq,and_true] at h1
  exact⟨0,[],0,0,0,none,⟨h1,⟨by omega,fun _=>rfl⟩,Nat.le_refl _,fun h=>by omega⟩,fun y hy=>by cases hy⟩
 ·simp only[rr, tt, List.cons.injEq,and_true] at h1
  subst h1
  have hlz:len≤zs.length:=by rw[hz]; split<;>omega
  by_cases h0:len=0
  ·subst h0
   obtain⟨b,o,s⟩:=a
   exact⟨1,[],b,o,cap,s,⟨rfl,⟨by omega,fun _=>rfl⟩,Nat.zero_le _,fun h=>by omega⟩,fun y hy=>by cases hy⟩
  ·have hlen:((zs.take len).map Int.toNat).length=len:=by simp; omega
   have hget:∀ i v,(Zk ((zs.take len).map Int.toNat))[i]? = some v→W.cell? (a.add i)=some v:=by
    intro i v hv
    unfold Zk at hv
    rw[List.getElem?_map,List.getElem?_map,List.getElem?_take] at hv
    split at hv
    ·rename_i hi
     rw[List.getElem?_eq_getElem (by omega)] at hv
     simp only[rr, tt, Option.map_some,Option.some.injEq] at hv
     have h2:=hcell i (by omega)
     have h3:zs.getD i 0=zs[i]'(by omega):=by rw[List.getD_eq_getElem?_getD,List.getElem?_eq_getElem (by omega)]; rfl
     rw[h3] at h2
     have h4:=Zcq (hw _ (List.getElem_mem (by omega:i<zs.length)))
     rw[h2,← hv]
     congr 2
     exact(Int.toNat_of_nonneg h4.1).symm
    ·cases hv
   have hul:(Zk ((zs.take len).map Int.toNat)).length=len:=by unfold Zk; rw[List.length_map]; exact hlen
   obtain⟨hs,hrow⟩:=Zkm (a:=a) (cells:=Zk ((zs.take len).map Int.toNat)) (by omega) hget
   obtain⟨b,o,s⟩:=a
   simp only at hs
   subst hs
   refine⟨2,(zs.take len).map Int.toNat,b,o,cap,none,⟨by rw[hlen]; rfl,⟨by omega,fun h=>by omega⟩,by rw[hlen]; exact hl,fun _=>hrow⟩,fun y hy => ?_⟩
   obtain⟨z,hz',rfl⟩:=List.mem_map.1 hy
   have h4:=Zcq (hw z (List.mem_of_mem_take hz'))
   omega
end
instance:Inhabited Rl:=⟨⟨0,false,0,0,0,0⟩⟩
theorem ZhI:∀ (rs:List Rl) (i j:Nat),i<rs.length→j<6→(rels rs)[i*6+j]? = (Zd3 (rl0 rs i))[j]?
 | [],i,j,h,_=>by simp at h
 | x::rs,0,j,_,hj=>by
  rw[Xb,List.getElem?_append_left (by simp only[rr, tt, Zd3,List.length_cons,List.length_nil]; omega)]
  simp[rl0]
 | x::rs,i+1,j,h,hj=>by
  have hl:(Zd3 x).length=6:=rfl
  rw[Xb,List.getElem?_append_right (by rw[hl]; omega),hl,show(i+1)*6+j-6=i*6+j by omega,ZhI rs i j (by simpa using h) hj]
  rfl
section
variable {H:Type} {enc:TypeId×Value→H} {W:World} {base:Nat} {spare:Nat→Bool} {held:Bool}
theorem ZhJ {fuel:Nat} {u:Value} {x:DataW H×List MemPlace} (h:DataW.trod enc Tryz.prog W base spare held fuel 23 [u]=some x) :
  ∃ (k:Nat) (rs:List Rl) (B O C:Nat) (S:Option Nat),SlIs W u k (rels rs) rs.length B O C S∧∀ y∈rs,RlOk y:=by
 rcases Ws Tryz.underlying23 Tryz.underlying62 (by kernel_rfl) (by kernel_rfl) h with⟨h1,_⟩|⟨a,len,cap,m,D,Pl,h1,_,hl,_,hm,_,hi⟩
 ·simp only[rr, tt, List.cons.injEq,and_true] at h1
  exact⟨0,[],0,0,0,none,⟨h1,⟨by omega,fun _=>rfl⟩,Nat.le_refl _,fun h=>by omega⟩,fun y hy=>by cases hy⟩
 ·simp only[rr, tt, List.cons.injEq,and_true] at h1
  subst h1
  have hlm:len≤m:=by rw[hm]; split<;>omega
  by_cases h0:len=0
  ·subst h0
   obtain⟨b,o,s⟩:=a
   exact⟨1,[],b,o,cap,s,⟨rfl,⟨by omega,fun _=>rfl⟩,Nat.zero_le _,fun h=>by omega⟩,fun y hy=>by cases hy⟩
  ·obtain⟨R,hR⟩:=choose_lt (n:=len) (α:=Rl) (p:=fun i r=>RlOk r∧∀ j v,(Zd3 r)[j]? = some v→W.cell? (a.add (i*6+j))=some v) (fun i hil=>by
    obtain⟨ys,n,_,_,_,hf⟩:=hi i (by omega)
    obtain⟨v0,y0,c0,_,t0⟩:=hf 0 _ rfl
    obtain⟨v1,y1,c1,_,t1⟩:=hf 1 _ rfl
    obtain⟨v2,y2,c2,_,t2⟩:=hf 2 _ rfl
    obtain⟨v3,y3,c3,_,t3⟩:=hf 3 _ rfl
    obtain⟨v4,y4,c4,_,t4⟩:=hf 4 _ rfl
    obtain⟨v5,y5,c5,_,t5⟩:=hf 5 _ rfl
    obtain⟨n0,e0,_,w0⟩:=DataW.trod_int Tryz.underlying35 t0
    obtain⟨n1,e1,_⟩:=DataW.trod_bool Tryz.underlying4 t1
    obtain⟨n2,e2,_,w2⟩:=DataW.trod_int Tryz.underlying35 t2
    obtain⟨n3,e3,_,w3⟩:=DataW.trod_int Tryz.underlying35 t3
    obtain⟨n4,e4,_,w4⟩:=DataW.trod_int Tryz.underlying36 t4
    obtain⟨n5,e5,_,w5⟩:=DataW.trod_int Tryz.underlying36 t5
    simp only[rr, tt, List.cons.injEq,and_true] at e0 e1 e2 e3 e4 e5
    subst e0 e1 e2 e3 e4 e5
    have b0:=Zcq w0
    have b2:=Zcq w2
    have b3:=Zcq w3
    have b4:=Zkl w4
    have b5:=Zkl w5
    refine⟨⟨n0.toNat,n1,n2.toNat,n3.toNat,n4.toNat,n5.toNat⟩,⟨by show n0.toNat<_; omega,by show n2.toNat<_; omega,by show n3.toNat<_; omega,by show n4.toNat<_; omega,by show n5.toNat<_; omega⟩,fun j v hj => ?_⟩
    have hj6:j<6:=(List.getElem?_eq_some_iff.1 hj).1
    have cc:∀ z:Int,0≤z→((z.toNat:Nat):Int)=z:=fun z hz=>Int.toNat_of_nonneg hz
    unfold Zd3 at hj
    simp only[rr, tt, cc n0 b0.1,cc n2 b2.1,cc n3 b3.1,cc n4 b4.1,cc n5 b5.1] at hj
    obtain rfl|rfl|rfl|rfl|rfl|rfl:j=0∨j=1∨j=2∨j=3∨j=4∨j=5:=by omega
    all_goals
     simp at hj
     subst hj
     assumption)
   have hlen:((List.range len).map R).length=len:=by simp
   have h0r:∀ i,i<len→rl0 ((List.range len).map R) i=R i:=fun i hil=>by
    unfold rl0; rw[List.getD_eq_getElem?_getD,List.getElem?_map,List.getElem?_range hil]; rfl
   have hget:∀ q v,(rels ((List.range len).map R))[q]? = some v→W.cell? (a.add q)=some v:=by
    intro q v hv
    have hq:q<len*6:=by
     have:=(List.getElem?_eq_some_iff.1 hv).1
     rw[Kk,hlen] at this; exact this
    have e:q=q/6*6+q%6:=by omega
    rw[e,ZhI _ _ _ (by rw[hlen]; omega) (Nat.mod_lt _ (by omega)),h0r _ (by omega)] at hv
    rw[e]
    exact(hR (q/6) (by omega)).2 _ _ hv
   obtain⟨hs,hrow⟩:=Zkm (a:=a) (cells:=rels ((List.range len).map R)) (by rw[Kk,hlen]; omega) hget
   obtain⟨b,o,s⟩:=a
   simp only at hs
   subst hs
   refine⟨2,(List.range len).map R,b,o,cap,none,⟨by rw[hlen]; rfl,⟨by omega,fun h=>by omega⟩,by rw[hlen]; exact hl,fun _=>hrow⟩,fun y hy => ?_⟩
   obtain⟨i,hi',rfl⟩:=List.mem_map.1 hy
   exact(hR i (by simpa using hi')).1
end
def Uv (B1 O1 C1:Nat) (S1:Option Nat) (B2 O2 C2:Nat) (S2:Option Nat) (B3 O3 C3:Nat) (S3:Option Nat):Ren :=
 ⟨fun l=>if l<NG then l else if l=64 then B1 else if l=65 then B2 else B3,fun l=>if l<NG then 0 else if l=64 then O1 else if l=65 then O2 else O3,
  fun l=>if l=64 then(O1,S1) else if l=65 then(O2,S2) else(O3,S3),fun l=>if l=64 then C1 else if l=65 then C2 else C3,fun l=>Nat.blt l 67,
  fun _ h=>if_pos h,fun _ h=>if_pos h,fun l h=>Zt (Nat.lt_trans h (by decide))⟩
theorem ZhK (r:Ren) (g:Nat):r.cap (big+g)=r.c g:=YG r g
section
variable {r:Ren} {W:World} {v:Value} {k n B O C g:Nat} {S:Option Nat} {cells:List Value}
theorem U7 (h:SlIs W v k cells n B O C S) (hb:r.b g=B) (hw:r.w g=O) (ho:r.o g=(O,S)) (hc:r.c g=C):v=r.val (sl k g n):=by
 rw[h.is]
 rcases k with _|_|k
 ·show Value.slice none 0 0=r.val (.slice none 0 0)
  rw[ZJ]; simp only[rr, tt, Option.map_none,Ren.cap]; rfl
 ·show Value.slice (some ⟨B,O,S⟩) 0 C=r.val (.slice (some ⟨g,0,some g⟩) 0 (big+g))
  rw[ZJ,ZhK,hc]; simp[Ren.addr,hb,ho]
 ·show Value.slice (some ⟨B,O,none⟩) n C=r.val (.slice (some ⟨g,0,none⟩) n (big+g))
  rw[ZJ,ZhK,hc]; simp[Ren.addr,hb,hw]
theorem U8 {d:Nat→Bool} (hd:d g=true):bnd d (sl k g n)=true:=by
 unfold sl
 split
 ·exact Zz _ rfl
 ·rw[Z9]; simp[QP,hd]
 ·rw[Z9]; simp[QP,hd]
theorem Zbi (h:SlIs W v k cells n B O C S) (hb:r.b g=B) (hw:r.w g=O) (hf:∀ u∈cells,ZP u=true):∀ x∈slH k g cells,x.1=g∧x.2.rw=false∧x.2.op=some (0,0)∧x.2.cells=cells∧Sy.Is r x.2 x.1 W:=by
 intro x hx
 unfold slH at hx
 split at hx
 ·cases hx
 ·cases hx
 ·rename_i k0 k1
  obtain rfl:=List.mem_singleton.1 hx
  refine⟨rfl,rfl,rfl,rfl,.inl ⟨rfl,?_⟩⟩
  have hk2:2≤k:=by
   rcases Nat.lt_or_ge k 2 with h|h
   ·have:k=0∨k=1:=by omega
    rcases this with h|h
    ·exact absurd h k0
    ·exact absurd h k1
   ·exact h
  obtain⟨arr,ty,fr,p1,p2,p3⟩:=h.at_ hk2
  refine⟨arr,ty,fr,by rw[hb]; exact p1,⟨.inl rfl,by rw[hw]; exact p2⟩,fun j u hj => ?_,fun h=>by cases h⟩
  rw[hw,Z6 r (hf u (List.mem_of_getElem? hj))]
  exact p3 j u hj
end
theorem ZhL {W:World} {v1 v2 v3:Value} {i j k:Nat} {cs:List Nat} {rs:List Rl} {Za:List Nat} {B1 O1 C1 B2 O2 C2 B3 O3 C3:Nat} {S1 S2 S3:Option Nat}
  (h1:SlIs W v1 i (Zk cs) cs.length B1 O1 C1 S1) (h2:SlIs W v2 j (rels rs) rs.length B2 O2 C2 S2) (h3:SlIs W v3 k (Zk Za) Za.length B3 O3 C3 S3) (T:List (Nat×Bool)) :
  Sy.Good (Uv B1 O1 C1 S1 B2 O2 C2 S2 B3 O3 C3 S3) ⟨67,inH i j k cs rs Za,Zmi cs rs Za,0,T,0,True⟩ W:=by
 have key:∀ x∈inH i j k cs rs Za,(x.1=64∨x.1=65∨x.1=66)∧x.2.rw=false∧x.2.op=some (0,0)∧(∀ u∈x.2.cells,ZP u=true)∧Sy.Is (Uv B1 O1 C1 S1 B2 O2 C2 S2 B3 O3 C3 S3) x.2 x.1 W:=by
  intro x hx
  unfold inH at hx
  rw[List.mem_append,List.mem_append] at hx
  rcases hx with(hx|hx)|hx
  ·obtain⟨e1,e2,e3,e4,e5⟩:=Zbi (r:=Uv B1 O1 C1 S1 B2 O2 C2 S2 B3 O3 C3 S3) (g:=64) h1 rfl rfl (Zg cs) x hx
   exact⟨.inl e1,e2,e3,by rw[e4]; exact Zg cs,e5⟩
  ·obtain⟨e1,e2,e3,e4,e5⟩:=Zbi (r:=Uv B1 O1 C1 S1 B2 O2 C2 S2 B3 O3 C3 S3) (g:=65) h2 rfl rfl (ZC rs) x hx
   exact⟨.inr (.inl e1),e2,e3,by rw[e4]; exact ZC rs,e5⟩
  ·obtain⟨e1,e2,e3,e4,e5⟩:=Zbi (r:=Uv B1 O1 C1 S1 B2 O2 C2 S2 B3 O3 C3 S3) (g:=66) h3 rfl rfl (Zg Za) x hx
   exact⟨.inr (.inr e1),e2,e3,by rw[e4]; exact Zg Za,e5⟩
 refine⟨fun g k hk=>(key _ (ZV hk)).2.2.2.2,fun g g' k k' e1 e2 hrw _ => ?_,fun g k hk => ?_,fun x hx => ?_⟩
 ·have:=(key _ (ZV e1)).2.1
  simp only[] at this
  rw[this] at hrw; cases hrw
 ·obtain⟨q1,_,q3,q4,_⟩:=key _ (ZV hk)
  refine⟨Zt (by simp only[] at q1; omega),fun p hp => ?_,fun u hu=>⟨Zz _ (q4 u hu),QY (q4 u hu)⟩⟩
  simp only[] at q3
  rw[q3] at hp
  cases hp
  rfl
 ·simp only[rr, tt, Zmi,List.mem_cons,List.not_mem_nil,or_false] at hx
  rcases hx with rfl|rfl|rfl
  ·exact⟨h1.le,rfl⟩
  ·exact⟨h2.le,rfl⟩
  ·exact⟨h3.le,rfl⟩
theorem eq7 {l:List Value} {a b c d e f g:Value} (hl:l.length=7) (h0:l[0]? = some a) (h1:l[1]? = some b) (h2:l[2]? = some c) (h3:l[3]? = some d) (h4:l[4]? = some e) (h5:l[5]? = some f) (h6:l[6]? = some g):l=[a,b,c,d,e,f,g]:=by
 match l,hl with
 | [x0,x1,x2,x3,x4,x5,x6],_ =>
  simp only[rr, tt, List.getElem?_cons_zero,List.getElem?_cons_succ,Option.some.injEq] at h0 h1 h2 h3 h4 h5 h6
  subst h0 h1 h2 h3 h4 h5 h6
  rfl
set_option maxRecDepth 100000 in
theorem Zjo {H:Type} {enc:TypeId×Value→H} {W:World} {base b0:Nat} {rc:Reach} {sp:Nat→Bool} {hd:Bool} {v:Value} {d:DataW H} {p:List MemPlace}
  (hv:Value.okWide Tryz.prog W rc b0 25 v) (h:DataW.Trod enc Tryz.prog W base sp hd 25 v d p) :
  ∃ (Ze Zc types:Int) (data:List UInt8) (cs:List Nat) (rs:List Rl) (Za:List Nat) (v1 v2 v3:Value) (i j k B1 O1 C1 B2 O2 C2 B3 O3 C3:Nat) (S1 S2 S3:Option Nat),
   v = .agg ⟨[.int .i64 Ze,.int .i64 Zc,.int .i64 types,v1,.string ⟨⟨data⟩⟩,v2,v3]⟩∧SlIs W v1 i (Zk cs) cs.length B1 O1 C1 S1∧SlIs W v2 j (rels rs) rs.length B2 O2 C2 S2∧SlIs W v3 k (Zk Za) Za.length B3 O3 C3 S3 ∧
   (∀ x∈cs,x<4294967296)∧(∀ x∈rs,RlOk x)∧(∀ x∈Za,x<4294967296):=by
 obtain⟨l,rfl,hl,hf⟩:=Zcr Tryz.underlying25 (by kernel_rfl) (by kernel_rfl) hv h
 obtain⟨u0,y0,m0,g0,t0⟩:=hf 0 _ rfl
 obtain⟨u1,y1,m1,g1,t1⟩:=hf 1 _ rfl
 obtain⟨u2,y2,m2,g2,t2⟩:=hf 2 _ rfl
 obtain⟨u3,y3,m3,g3,t3⟩:=hf 3 _ rfl
 obtain⟨u4,y4,m4,g4,t4⟩:=hf 4 _ rfl
 obtain⟨u5,y5,m5,g5,t5⟩:=hf 5 _ rfl
 obtain⟨u6,y6,m6,g6,t6⟩:=hf 6 _ rfl
 obtain⟨Ze,e0,_⟩:=DataW.trod_int Tryz.underlying3 t0
 obtain⟨Zc,e1,_⟩:=DataW.trod_int Tryz.underlying3 t1
 obtain⟨types,e2,_⟩:=DataW.trod_int Tryz.underlying3 t2
 obtain⟨str,e4,_⟩:=DataW.trod_string Tryz.underlying9 t4
 obtain⟨i,cs,B1,O1,C1,S1,s1,n1⟩:=Zcs Tryz.underlying22 Tryz.underlying35 (by kernel_rfl) t3
 obtain⟨j,rs,B2,O2,C2,S2,s2,n2⟩:=ZhJ t5
 obtain⟨k,Za,B3,O3,C3,S3,s3,n3⟩:=Zcs Tryz.underlying22 Tryz.underlying35 (by kernel_rfl) t6
 simp only[rr, tt, List.cons.injEq,and_true] at e0 e1 e2 e4
 subst e0 e1 e2 e4
 obtain rfl:=eq7 hl g0 g1 g2 g3 g4 g5 g6
 obtain⟨⟨data⟩⟩:=str
 exact⟨Ze,Zc,types,data,cs,rs,Za,u3,u5,u6,i,j,k,B1,O1,C1,B2,O2,C2,B3,O3,C3,S1,S2,S3,rfl,s1,s2,s3,n1,n2,n3⟩
theorem Zdm {k g n:Nat} (h:Zof k n):∃ (a:Option Addr) (c:Nat),sl k g n = .slice a n c:=by
 obtain⟨_,h2⟩:=h
 rcases k with _|_|k
 ·obtain rfl:=h2 (by omega); exact⟨none,0,rfl⟩
 ·obtain rfl:=h2 (by omega); exact⟨some ⟨g,0,some g⟩,big+g,rfl⟩
 ·exact⟨some ⟨g,0,none⟩,big+g,rfl⟩
theorem Zbj {i j k:Nat} {cs:List Nat} {rs:List Rl} {Za:List Nat}:∀ x∈inH i j k cs rs Za,(x.1=64∨x.1=65∨x.1=66)∧x.2.rw=false∧x.2.op=some (0,0)∧∀ u∈x.2.cells,ZP u=true:=by
 have one:∀ (k g:Nat) (cells:List Value),(∀ u∈cells,ZP u=true)→∀ x∈slH k g cells,x.1=g∧x.2.rw=false∧x.2.op=some (0,0)∧∀ u∈x.2.cells,ZP u=true:=by
  intro k g cells hf x hx
  unfold slH at hx
  split at hx
  ·cases hx
  ·cases hx
  ·obtain rfl:=List.mem_singleton.1 hx
   exact⟨rfl,rfl,rfl,hf⟩
 intro x hx
 unfold inH at hx
 rw[List.mem_append,List.mem_append] at hx
 rcases hx with(hx|hx)|hx
 ·obtain⟨e1,e⟩:=one _ _ _ (Zg cs) x hx; exact⟨.inl e1,e⟩
 ·obtain⟨e1,e⟩:=one _ _ _ (ZC rs) x hx; exact⟨.inr (.inl e1),e⟩
 ·obtain⟨e1,e⟩:=one _ _ _ (Zg Za) x hx; exact⟨.inr (.inr e1),e⟩
end Go.Proofs.YtliidiceljdgmaaGreat
namespace Go.Proofs.YtliidiceljdgmaaGreat
open Go.IntKind (u8 u16 u32 u64 i64)
open Go.ChangeShapes Go.WideShapes Go.ChangeAt Go.RowKit
open Sy
set_option maxRecDepth 100000
theorem Zct (x y:Nat) (hx:x<65536) (hy:y<65536) (h:bits .andNot .u16 (x:Int) (y:Int)=0):x≤y:=by
 have h1:u16.wrap ((BitVec.ofInt 16 (x:Int) &&& ~~~ BitVec.ofInt 16 (y:Int)).toNat:Int)=0:=h
 have hlt:=(BitVec.ofInt 16 (x:Int) &&& ~~~ BitVec.ofInt 16 (y:Int)).isLt
 rw[IntKind.wrap_u16] at h1
 have h2:(BitVec.ofInt 16 (x:Int) &&& ~~~ BitVec.ofInt 16 (y:Int)).toNat=0:=by omega
 have h3:BitVec.ofInt 16 (x:Int) &&& ~~~ BitVec.ofInt 16 (y:Int)=0#16:=BitVec.eq_of_toNat_eq h2
 have h4:(BitVec.ofInt 16 (x:Int)&&&BitVec.ofInt 16 (y:Int))=BitVec.ofInt 16 (x:Int):=by
  apply BitVec.eq_of_getLsbD_eq
  intro i hi
  have:=congrArg (fun v=>BitVec.getLsbD v i) h3
  simp only[rr, tt, BitVec.getLsbD_and,BitVec.getLsbD_not,BitVec.getLsbD_zero] at this
  rw[BitVec.getLsbD_and]
  revert this
  cases BitVec.getLsbD (BitVec.ofInt 16 (x:Int)) i<;>cases BitVec.getLsbD (BitVec.ofInt 16 (y:Int)) i<;>simp[hi]
 have h5:=congrArg BitVec.toNat h4
 rw[BitVec.toNat_and,BitVec.ofInt_natCast,BitVec.ofInt_natCast,BitVec.toNat_ofNat,BitVec.toNat_ofNat,Nat.mod_eq_of_lt (by omega),Nat.mod_eq_of_lt (by omega)] at h5
 rw[← h5]
 exact Nat.and_le_right
theorem ZhM {a s p:Nat} (h:Yz a s p=true):mE a s p<22∧mB a s p<4096∧mT a s p<4096∧mP a s p=p:=by
 unfold mE mB mT mP
 rw[if_pos h,if_pos h,if_pos h,if_pos h]
 have h1:=VJ a (a+s)
 refine⟨?_,?_,?_,rfl⟩
 ·unfold KP; split<;>omega
 ·unfold KY; split<;>omega
 ·unfold KZ; split<;>omega
theorem Zog {types:Int} {nc len:Nat} {c N:Nat} {r:Rl} {behind:Nat} (hr:RlOk r) (ht:types≤2048) (hn:nc≤4096) (hl:len≤16384) (hc:c%256=0) (hc2:c<500000) (hN:c+len≤N) (h:Zy types nc len 0 c r behind=true):RlFit c N r∧c+r.at_+16≤c+len:=by
 unfold Zy at h
 rw[Bool.and_eq_true,Bool.not_eq_true'] at h
 obtain⟨h1,h2⟩:=h
 unfold Vs at h1
 simp only[rr, tt, Bool.or_eq_false_iff,decide_eq_false_iff_not] at h1
 obtain⟨g1,g2,g3,g4,g5,g6⟩:=h1
 have hp:r.perms≤155:=by
  simp only[rr, tt, bne_eq_false_iff_eq] at g5
  unfold Zc5 at g5
  cases hcode:r.code<;>rw[hcode] at g5
  ·exact Zct r.perms 155 hr.perms (by omega) g5
  ·have:=Zct r.perms 133 hr.perms (by omega) g5; omega
 have hw:Zca nc len r.code≤16384:=by
  unfold Zca; cases r.code<;>simp only[rr, tt, cond_true,cond_false]<;>omega
 have hmk:Yz (bif r.code then r.off else(c+r.off)%4294967296) r.size r.perms=true:=by
  have e:(bif r.code then r.off else(c+r.off)%4294967296)=(bif r.code then 0 else c)+r.off:=by
   cases r.code<;>simp only[rr, tt, cond_true,cond_false]<;>omega
  rw[e]
  unfold Yz
  rw[h2,decide_eq_true (by omega:r.perms≤255)]
  have:(bif r.code then 0 else c)≤500000:=by cases r.code<;>simp only[rr, tt, cond_true,cond_false]<;>omega
  rw[decide_eq_true (by omega)]
  rfl
 obtain⟨q1,q2,q3,q4⟩:=ZhM hmk
 refine⟨⟨hr,by omega,by omega,?_,?_⟩,by omega⟩
 ·show mV _ _ _=true
  unfold mV; exact hmk
 ·show Xa (mE _ _ _) (mB _ _ _) (mT _ _ _) (mP _ _ _) r.typ 0=true
  unfold Xa
  rw[decide_eq_true q1,decide_eq_true q2,decide_eq_true q3,q4,decide_eq_true (by omega:r.perms<256),decide_eq_true (by omega:r.typ<4096)]
  rfl
theorem ZhN {call:Qb} (hcall:ZA Tryz.prog call) {f:FuncId} {W:World} {v1 v2 v3:Value} {i j k:Nat} {Ze Zc types:Int} {data:List UInt8} {cs:List Nat} {rs:List Rl} {Za:List Nat} {B1 O1 C1 B2 O2 C2 B3 O3 C3:Nat} {S1 S2 S3:Option Nat}
  (h1:SlIs W v1 i (Zk cs) cs.length B1 O1 C1 S1) (h2:SlIs W v2 j (rels rs) rs.length B2 O2 C2 S2) (h3:SlIs W v3 k (Zk Za) Za.length B3 O3 C3 S3) {hs:Sy.Heap} (hsub:∀ g b,Sy.look hs g=some b→Sy.look (inH i j k cs rs Za) g=some b) (hro:hs.all (fun y => !y.2.rw)=true)
  (run:∃ (T:List (Nat×Bool)) (q:Prop),obs (call f [inV i j k Ze Zc types data cs rs Za] ⟨67,hs,[],0,T,0,True⟩)=some (.bool true,q)∧q) :
  Calls Tryz.prog f #[.agg ⟨[.int .i64 Ze,.int .i64 Zc,.int .i64 types,v1,.string ⟨⟨data⟩⟩,v2,v3]⟩] W fun e W'=>e = .returned (.bool true)∧Below W.heap.size W W':=by
 obtain⟨T,q,hr,hq⟩:=run
 have hb:∀ u∈[inV i j k Ze Zc types data cs rs Za],bnd (Uv B1 O1 C1 S1 B2 O2 C2 S2 B3 O3 C3 S3).d u=true:=fun u hu=>by
  obtain rfl:=List.mem_singleton.1 hu
  unfold inV
  rw[Ym]
  have e1:bnd (Uv B1 O1 C1 S1 B2 O2 C2 S2 B3 O3 C3 S3).d (sl i 64 cs.length)=true:=U8 rfl
  have e2:bnd (Uv B1 O1 C1 S1 B2 O2 C2 S2 B3 O3 C3 S3).d (sl j 65 rs.length)=true:=U8 rfl
  have e3:bnd (Uv B1 O1 C1 S1 B2 O2 C2 S2 B3 O3 C3 S3).d (sl k 66 Za.length)=true:=U8 rfl
  rw[Array.all_eq_true_iff_forall_mem]
  intro u hu
  simp only[rr, tt, List.mem_toArray,List.mem_cons,List.not_mem_nil,or_false] at hu
  rcases hu with rfl|rfl|rfl|rfl|rfl|rfl|rfl
  ·exact Zz _ rfl
  ·exact Zz _ rfl
  ·exact Zz _ rfl
  ·exact e1
  ·exact Zz _ rfl
  ·exact e2
  ·exact e3
 have hw:WFn ⟨67,hs,[],0,T,0,True⟩:=⟨fun g kb hk=>by
  have:=(Zbj _ (ZV (hsub g kb hk))).1
  show g<67
  simp only[] at this
  omega,fun x hx=>by cases hx⟩
 have hg:Sy.Good (Uv B1 O1 C1 S1 B2 O2 C2 S2 B3 O3 C3 S3) ⟨67,hs,[],0,T,0,True⟩ W :=
  (ZhL h1 h2 h3 T).sub' (fun g b hk=>⟨b,hsub g b hk,.inl rfl,rfl,rfl,id⟩) (fun x hx=>by cases hx)
 have h:=ZjD hcall hr hq hw hro hg (fun l hl=>ZN hl) hb
 have hv:(Value.agg ⟨[.int .i64 Ze,.int .i64 Zc,.int .i64 types,v1,.string ⟨⟨data⟩⟩,v2,v3]⟩)=(Uv B1 O1 C1 S1 B2 O2 C2 S2 B3 O3 C3 S3).val (inV i j k Ze Zc types data cs rs Za):=by
  have e1:=U7 (r:=Uv B1 O1 C1 S1 B2 O2 C2 S2 B3 O3 C3 S3) (g:=64) h1 rfl rfl rfl rfl
  have e2:=U7 (r:=Uv B1 O1 C1 S1 B2 O2 C2 S2 B3 O3 C3 S3) (g:=65) h2 rfl rfl rfl rfl
  have e3:=U7 (r:=Uv B1 O1 C1 S1 B2 O2 C2 S2 B3 O3 C3 S3) (g:=66) h3 rfl rfl rfl rfl
  unfold inV
  rw[Yl]
  simp only[rr, tt, List.map_toArray,List.map_cons,List.map_nil,Qf,Qp,← e1,← e2,← e3]
 rw[hv]
 exact h
theorem ZhO (n:Nat):n≤ZG n∧ZG n%256=0∧ZG n≤n+255:=by unfold ZG; omega
theorem Zev {q:Nat→Bool} {d k g n:Nat} (h:q g=true):okV q d (sl k g n)=true:=by
 unfold sl
 split<;>cases d<;>simp[okV,QP,h,ZP,big]
theorem Zew {p s t:Int} {nc:Nat} {d:List UInt8} {rs:List Rl} {so:List Nat} (he:ZZ p s t nc d rs so=0):QF p s t nc so.length=false∧UC nc so=false∧Zo p s nc so.length d.length=false∧UD t nc d.length rs=false:=by
 unfold ZZ at he
 cases hl:ZO nc d.length rs.length so.length<;>rw[hl] at he<;>try (simp at he; done)
 cases ha:QF p s t nc so.length<;>rw[ha] at he<;>try (simp at he; done)
 cases hf:UC nc so<;>rw[hf] at he<;>try (simp at he; done)
 cases hg:Zo p s nc so.length d.length<;>rw[hg] at he<;>try (simp at he; done)
 cases hb:UD t nc d.length rs<;>rw[hb] at he<;>try (simp at he; done)
 exact⟨rfl,rfl,rfl,rfl⟩
theorem ZhP (da:Nat) (rs:List Rl) (g:Nat):∀ k,rlT da rs k g=true→∃ i,i<k∧(da+(rl0 rs i).at_)/16=g
 | 0,h=>by cases h
 | k+1,h=>by
  have h':XH (rlT da rs k) ((da+(rl0 rs k).at_)/16) true g=true:=h
  unfold XH at h'
  split at h'
  ·rename_i he; exact⟨k,by omega,he.symm⟩
  ·obtain⟨i,h1,h2⟩:=ZhP da rs g k h'
   exact⟨i,by omega,h2⟩
theorem U9:ConOk Tryz.prog 6 3 XF∧FlatC XF:=Zmh Zfj
theorem Zcu (p s t e:Int) (d:List UInt8) (a1 a2 a3:Option Addr) (n1 n2 n3 c1 c2 c3:Nat) (hv:okV (fun l=>Nat.blt l 67) 3 (Yj p s t d a1 a2 a3 n1 n2 n3 c1 c2 c3)=true) (he:(e !=0)=true)
  (h:ConOk Tryz.prog 55 3 (Ur (Yj p s t d a1 a2 a3 n1 n2 n3 c1 c2 c3) e)):ConOk Tryz.prog 16 3 (Zdd (Yj p s t d a1 a2 a3 n1 n2 n3 c1 c2 c3) e):=by
 have hr:=Zqh p s t e d a1 a2 a3 n1 n2 n3 c1 c2 c3 []
 unfold obs at hr
 obtain⟨⟨v',s'⟩,h1,h2⟩:=oM hr
 simp only[rr, tt, Prod.mk.injEq] at h2
 obtain⟨rfl,h3⟩:=h2
 refine ZF (Zu (L:=100) Zn (ZaE (Zfk h ⟨fun x hx=>(by cases hx),fun x hx=>(by cases hx)⟩) (Zx _)) (Zj _) 20) ⟨by show NG≤67; decide,Nat.le_refl _,trivial,rfl,rfl,rfl,by show(okV _ 3 _&&true)=true; rw[Bool.and_true]; exact hv,rfl,fun x hx=>by cases hx⟩ h1 ?_ (p:=fun l=>Nat.blt l 67) (σ:=id) ⟨fun _ _=>rfl,trivial,rfl,trivial,⟨rfl,rfl⟩,rfl,trivial,rfl,ZM 3 _ rfl,fun x hx=>by cases hx⟩
 show s'.O
 rw[show s'.O=_ from h3]
 simp only[rr, tt, he,and_true,true_and,and_self]
theorem Zex {rs:List Rl} (h:∀ k,k<rs.length→ZY rs k≤(rl0 rs k).at_):∀ k i,i<k→k<rs.length→(rl0 rs i).at_+16≤(rl0 rs k).at_
 | 0,i,hi,_=>by omega
 | k+1,i,hi,hk=>by
  have h1:(rl0 rs k).at_+16≤(rl0 rs (k+1)).at_:=h (k+1) hk
  by_cases hik:i=k
  ·subst hik; exact h1
  ·have:=Zex h k i (by omega) (by omega)
   omega
theorem Zml {da N:Nat} {rs:List Rl} (hf:∀ r∈rs,RlFit da N r) (h:∀ k,k<rs.length→ZY rs k≤(rl0 rs k).at_):∀ k,k<rs.length→rlT da rs k ((da+(rl0 rs k).at_)/16)=false:=fun k hk=>by
 cases hb:rlT da rs k ((da+(rl0 rs k).at_)/16)
 ·rfl
 ·obtain⟨i,h1,h2⟩:=ZhP _ _ _ _ hb
  have:=Zex h k i h1 hk
  omega
theorem Zey {p s t:Int} {cs:List Nat} {d:List UInt8} {rs:List Rl} {so:List Nat} (he:ZZ p s t cs.length d rs so=0) (l1:cs.length≤4096) (l2:d.length≤16384) (l4:so.length≤4) (n1:∀ x∈cs,x<4294967296) (n2:∀ x∈rs,RlOk x) :
  ∃ P S T:Nat,p=P∧s=S∧t=T∧LqOk P S T cs d so (ZG (4*cs.length)) (ZG (4*cs.length)) (ZG d.length) (ZG (4*cs.length)+ZG d.length) (S*so.length) (ZX S cs.length so.length d.length) (P*256-ZX S cs.length so.length d.length) ∧
   (∀ r∈rs,RlFit (ZG (4*cs.length)) (P*256) r)∧(∀ k,k<rs.length→ZY rs k≤(rl0 rs k).at_)∧1≤so.length:=by
 obtain⟨e2,e3,e4,e5⟩:=Zew he
 obtain⟨r1,r2,r3⟩:=ZhO (4*cs.length)
 obtain⟨r4,r5,r6⟩:=ZhO d.length
 have e20:so.length≠0:=fun h=>by
  have:=e2
  unfold QF at this
  simp[h] at this
 simp[QF] at e2
 obtain⟨P,rfl⟩:=Int.eq_ofNat_of_zero_le (show 0≤p by omega)
 obtain⟨S,rfl⟩:=Int.eq_ofNat_of_zero_le (show 0≤s by omega)
 obtain⟨T,rfl⟩:=Int.eq_ofNat_of_zero_le (show 0≤t by omega)
 have hfar:∀ x∈so,x<cs.length:=fun x hx=>by
  obtain⟨n,hn,rfl⟩:=List.getElem_of_mem hx
  unfold UC at e3
  have:=List.any_eq_false.1 e3 n (List.mem_range.2 hn)
  simp[List.getD_eq_getElem?_getD,List.getElem?_eq_getElem hn] at this
  exact this
 have hbig:ZX S cs.length so.length d.length+256≤P*256:=by
  simp[Zo] at e4
  exact e4
 have hfrom:ZG (4*cs.length)+ZG d.length≤ZX S cs.length so.length d.length:=by unfold ZX; exact Nat.le_add_right _ _
 have hg2:∀ n,n<rs.length→Zy (T:Int) cs.length d.length 0 (ZG (4*cs.length)) (rl0 rs n) (ZY rs n)=true:=fun n hn=>by
  unfold UD at e5
  have hg:=List.any_eq_false.1 e5 n (List.mem_range.2 hn)
  simpa [W4] using hg
 have hrl:∀ r∈rs,RlFit (ZG (4*cs.length)) (P*256) r:=fun r hr=>by
  obtain⟨n,hn,rfl⟩:=List.getElem_of_mem hr
  have hrr:rl0 rs n=rs[n]:=by unfold rl0; rw[List.getD_eq_getElem?_getD,List.getElem?_eq_getElem hn]; rfl
  have h2:=hg2 n hn
  rw[hrr] at h2
  exact(Zog (n2 _ hr) (by omega) l1 l2 r2 (by omega) (by omega) h2).1
 refine⟨P,S,T,rfl,rfl,rfl,⟨by omega,by omega,by omega,by omega,l1,fun x hx=>by have:=hfar x hx; omega,n1,r1,rfl,r4,rfl,by omega⟩,hrl,fun n hn => ?_,by omega⟩
 have h2:=hg2 n hn
 unfold Zy at h2
 rw[Bool.and_eq_true,Bool.not_eq_true'] at h2
 have h1:=h2.1
 unfold Vs at h1
 simp only[rr, tt, Bool.or_eq_false_iff,decide_eq_false_iff_not] at h1
 omega
end Go.Proofs.YtliidiceljdgmaaGreat
namespace Go.Proofs.YtliidiceljdgmaaGreat
open Go.IntKind (u8 u16 u32 u64 i64)
open Go.ChangeShapes Go.WideShapes Go.ChangeAt Go.RowKit
open Sy
set_option maxRecDepth 100000
theorem Zez (p:Nat):ZE p=p*16:=by unfold ZE; omega
theorem Zoh (p s t:Nat) (cs:List Nat) (d:List UInt8) (rs:List Rl) (so:List Nat) (c da ds sa ss ha hs:Nat) (h:LqOk p s t cs d so c da ds sa ss ha hs) (h6:∀ r∈rs,RlFit da (p*256) r) (hT:∀ k,k<rs.length→rlT da rs k ((da+(rl0 rs k).at_)/16)=false) (h7:rs.length≤256) (j1:1≤so.length) (j4:so.length≤4)
  (hlay:ConOk Tryz.prog 9 3 (Jd (Yg p s t d (some ⟨65,0,none⟩) cs.length rs.length so.length (big+65)) (btH rs so) c da ds sa ss ha hs)) (hrl:ConOk Tryz.prog 16 3 (Jd (Yg p s t d (some ⟨65,0,none⟩) cs.length rs.length so.length (big+65)) (btH rs so) c da ds sa ss ha hs)) :
  ∃ (call:Qb) (T:List (Nat×Bool)) (q:Prop),ZA Tryz.prog call∧obs (call 3 [Yg p s t d (some ⟨65,0,none⟩) cs.length rs.length so.length (big+65)] ⟨67,lqH cs rs so,[],0,T,0,True⟩)=some (.bool true,q)∧q:=by
 have hz:=WJ h
 have hzl:=Jt da rs (zsB p cs da d) (p*256) hz.len h6 rs.length (Nat.le_refl _)
 have har:ArOk (X9 da rs (zsB p cs da d) rs.length) (p*256) (ZE p) (Zl p):=⟨hzl,hz.tags,hz.words,hz.few,hz.big⟩
 have hload:=Zjc p s t cs d rs so c da ds sa ss ha hs h h6 h7 so.length rfl j1 j4 hlay
 have hrload:=Zl5 p s t cs d rs so c da ds sa ss ha hs h h6 hT h7 so.length rfl j1 j4 hrl
 have hsame:=Zkh (X9 da rs (zsB p cs da d) rs.length) (rlT da rs rs.length) _ _ _ p har rfl (Zez p) h.p2 (by have:=h.p1; omega)
 have hfl:=Ju c da ds sa s t so so.length
 have f1:∀ (zs:List UInt8) (p:Nat→Bool),(u8s zs).all (okV p 3)=true:=fun zs p=>Zh (Zp _)
 have f2:∀ (zs:List UInt8) (σ:Nat→Nat),(u8s zs).map (rnV σ 3)=u8s zs:=fun zs σ=>Zi (Zp _)
 have f3:∀ (xs:List Nat) (p:Nat→Bool),(Zk xs).all (okV p 3)=true:=fun xs p=>Zh (Zg _)
 have f4:∀ (xs:List Nat) (σ:Nat→Nat),(Zk xs).map (rnV σ 3)=Zk xs:=fun xs σ=>Zi (Zg _)
 have f7:∀ (f:Nat→Bool) (m:Nat) (p:Nat→Bool),(bls f m).all (okV p 3)=true:=fun f m p=>Zh (Z8 f m)
 have f8:∀ (f:Nat→Bool) (m:Nat) (σ:Nat→Nat),(bls f m).map (rnV σ 3)=bls f m:=fun f m σ=>Zi (Z8 f m)
 have v1:∀ (f:Nat→Bool) (n:Nat) (σ:Nat→Nat),(v64 (Zm f n)).map (rnV σ 3)=v64 (Zm f n):=fun f n σ=>Zi (Z4 _)
 have v2:∀ (f:Nat→Bool) (n:Nat) (p:Nat→Bool),(v64 (Zm f n)).all (okV p 3)=true:=fun f n p=>Zh (Z4 _)
 have f5:∀ (p:Nat→Bool),(rels rs).all (okV p 3)=true:=fun p=>Zh (ZC rs)
 have f6:∀ (σ:Nat→Nat),(rels rs).map (rnV σ 3)=rels rs:=fun σ=>Zi (ZC rs)
 refine⟨_,_,_,Zu (L:=100) Zn (Qe (ZW fun x hx => ?_) (Zx _)) (Z5 _) 20,ZpY p s t cs d rs so (X9 da rs (zsB p cs da d) rs.length) (rlT da rs rs.length) _ hfl j4,?_⟩
 ·simp only[rr, tt, loL,List.mem_cons,List.not_mem_nil,or_false] at hx
  rcases hx with rfl|rfl|rfl|rfl
  ·exact⟨hload,U3 _ _ _ _ _ _ _⟩
  ·exact⟨hrload,Up _ _ _ _ _ _ _⟩
  ·exact U9
  ·exact hsame
 ·simp only[rr, tt, f1,f2,f3,f4,f5,f6,f7,f8,v1,v2,XX,XW,bne_self_eq_false,beq_self_eq_true,and_true,true_and,and_self,Nat.le_refl]
theorem Zoi (p s t:Nat) (cs:List Nat) (d:List UInt8) (a2:Option Addr) (c2:Nat) (em:X5 a2 c2) (so:List Nat) (c da ds sa ss ha hs:Nat) (h:LqOk p s t cs d so c da ds sa ss ha hs) (j1:1≤so.length) (j4:so.length≤4)
  (hlay:ConOk Tryz.prog 9 3 (Jd (Yg p s t d a2 cs.length 0 so.length c2) (WM so) c da ds sa ss ha hs)) (hrl:ConOk Tryz.prog 16 3 (Jd (Yg p s t d a2 cs.length 0 so.length c2) (WM so) c da ds sa ss ha hs)) :
  ∃ (call:Qb) (T:List (Nat×Bool)) (q:Prop),ZA Tryz.prog call∧obs (call 3 [Yg p s t d a2 cs.length 0 so.length c2] ⟨67,Zcf cs so,[],0,T,0,True⟩)=some (.bool true,q)∧q:=by
 have har:=WJ h
 have hload:=Zjd p s t cs d a2 c2 em so c da ds sa ss ha hs h so.length rfl j1 j4 hlay
 have hrload:=Zl6 p s t cs d a2 c2 em so c da ds sa ss ha hs h so.length rfl j1 j4 hrl
 have hsame:=Zkh (zsB p cs da d) (fun _=>false) _ _ _ p har rfl (Zez p) h.p2 (by have:=h.p1; omega)
 have hfl:=Ju c da ds sa s t so so.length
 have f1:∀ (zs:List UInt8) (p:Nat→Bool),(u8s zs).all (okV p 3)=true:=fun zs p=>Zh (Zp _)
 have f2:∀ (zs:List UInt8) (σ:Nat→Nat),(u8s zs).map (rnV σ 3)=u8s zs:=fun zs σ=>Zi (Zp _)
 have f3:∀ (xs:List Nat) (p:Nat→Bool),(Zk xs).all (okV p 3)=true:=fun xs p=>Zh (Zg _)
 have f4:∀ (xs:List Nat) (σ:Nat→Nat),(Zk xs).map (rnV σ 3)=Zk xs:=fun xs σ=>Zi (Zg _)
 have f7:∀ (f:Nat→Bool) (m:Nat) (p:Nat→Bool),(bls f m).all (okV p 3)=true:=fun f m p=>Zh (Z8 f m)
 have f8:∀ (f:Nat→Bool) (m:Nat) (σ:Nat→Nat),(bls f m).map (rnV σ 3)=bls f m:=fun f m σ=>Zi (Z8 f m)
 have v1:∀ (f:Nat→Bool) (n:Nat) (σ:Nat→Nat),(v64 (Zm f n)).map (rnV σ 3)=v64 (Zm f n):=fun f n σ=>Zi (Z4 _)
 have v2:∀ (f:Nat→Bool) (n:Nat) (p:Nat→Bool),(v64 (Zm f n)).all (okV p 3)=true:=fun f n p=>Zh (Z4 _)
 refine⟨_,_,_,Zu (L:=100) Zn (Qe (ZW fun x hx => ?_) (Zx _)) (Z5 _) 20,ZpZ p s t cs d a2 c2 so (zsB p cs da d) (fun _=>false) _ hfl j4,?_⟩
 ·simp only[rr, tt, loL,List.mem_cons,List.not_mem_nil,or_false] at hx
  rcases hx with rfl|rfl|rfl|rfl
  ·exact⟨hload,U3 _ _ _ _ _ _ _⟩
  ·exact⟨hrload,Up _ _ _ _ _ _ _⟩
  ·exact U9
  ·exact hsame
 ·simp only[rr, tt, Xh em,f1,f2,f3,f4,f7,f8,v1,v2,XX,XW,bne_self_eq_false,beq_self_eq_true,and_true,true_and,and_self,Nat.le_refl]
theorem ZhQ (i j k:Nat) (p s t:Int) (d:List UInt8) (cs:List Nat) (rs:List Rl) (so:List Nat) (h1:Zof i cs.length) (h2:Zof j rs.length) (h3:Zof k so.length) (n1:∀ x∈cs,x<4294967296) (n2:∀ x∈rs,RlOk x) (n3:∀ x∈so,x<4294967296) :
  ∃ (call:Qb) (hs:Sy.Heap),ZA Tryz.prog call∧(∀ g b,Sy.look hs g=some b→Sy.look (inH i j k cs rs so) g=some b)∧hs.all (fun y => !y.2.rw)=true∧∃ (T:List (Nat×Bool)) (q:Prop),obs (call 3 [inV i j k p s t d cs rs so] ⟨67,hs,[],0,T,0,True⟩)=some (.bool true,q)∧q:=by
 obtain⟨a1,c1,q1⟩:=Zdm (g:=64) h1
 obtain⟨a2,c2,q2⟩:=Zdm (g:=65) h2
 obtain⟨a3,c3,q3⟩:=Zdm (g:=66) h3
 have hne:∀ e:Int,(e !=e)=false:=fun e=>by simp
 have f3:∀ (xs:List Nat) (p:Nat→Bool),(Zk xs).all (okV p 3)=true:=fun xs p=>Zh (Zg _)
 have f4:∀ (xs:List Nat) (σ:Nat→Nat),(Zk xs).map (rnV σ 3)=Zk xs:=fun xs σ=>Zi (Zg _)
 have f1:∀ (p:Nat→Bool),(rels rs).all (okV p 3)=true:=fun p=>Zh (ZC rs)
 have f2:∀ (σ:Nat→Nat),(rels rs).map (rnV σ 3)=rels rs:=fun σ=>Zi (ZC rs)
 by_cases h0:ZO cs.length d.length rs.length so.length=true∨cs.length=0∨so.length=0
 ·have hv:inV i j k p s t d cs rs so=Yj p s t d a1 a2 a3 cs.length rs.length so.length c1 c2 c3:=by unfold inV Yj; rw[q1,q2,q3]
  rw[hv]
  have hok:okV (fun l=>Nat.blt l 67) 3 (Yj p s t d a1 a2 a3 cs.length rs.length so.length c1 c2 c3)=true:=by
   have b1:okV (fun l=>Nat.blt l 67) 2 (.slice a1 cs.length c1)=true:=by rw[← q1]; exact Zev rfl
   have b2:okV (fun l=>Nat.blt l 67) 2 (.slice a2 rs.length c2)=true:=by rw[← q2]; exact Zev rfl
   have b3:okV (fun l=>Nat.blt l 67) 2 (.slice a3 so.length c3)=true:=by rw[← q3]; exact Zev rfl
   show List.all [Value.int .i64 p,.int .i64 s,.int .i64 t,.slice a1 cs.length c1,.string ⟨⟨d⟩⟩,.slice a2 rs.length c2,.slice a3 so.length c3] (okV (fun l=>Nat.blt l 67) 2)=true
   simp only[rr, tt, List.all_cons,List.all_nil,b1,b2,b3,Bool.and_true,Bool.true_and]
   rfl
  have hl:=ZiY p s t d a1 a2 a3 cs.length rs.length so.length c1 c2 c3 h0 hok
  have hc:=Zeu p s t d a1 a2 a3 cs.length rs.length so.length c1 c2 c3 hok (by
   rcases h0 with h|h|h
   ·exact .inl h
   ·right; unfold QF; simp[h]
   ·right; unfold QF; simp[h])
  obtain⟨e,he⟩:∃ e:Int,(bif ZO cs.length d.length rs.length so.length then(3:Int) else 2)=e:=⟨_,rfl⟩
  have h0':(e !=0)=true:=by rw[← he]; cases ZO cs.length d.length rs.length so.length<;>rfl
  rw[he] at hl hc
  have hrl:=Zcu p s t e d a1 a2 a3 cs.length rs.length so.length c1 c2 c3 hok h0' hc
  have hr:=Zp3 p s t e d a1 a2 a3 cs.length rs.length so.length c1 c2 c3 []
  refine⟨_,[],Zu (L:=100) Zn (ZaE (K4 fun x hx => ?_) (Z1 fun f args s c ρ q h hq => ?_)) (Zj _) 20,fun g b hb=>(by cases hb),rfl,_,_,hr,?_⟩
  ·simp only[rr, tt, loM,List.mem_cons,List.not_mem_nil,or_false] at hx
   rcases hx with rfl|rfl|rfl|rfl
   ·exact⟨hl,⟨fun x hx=>(by cases hx),fun x hx=>(by cases hx)⟩⟩
   ·exact⟨hrl,⟨fun x hx=>(by cases hx),fun x hx=>(by cases hx)⟩⟩
   ·exact⟨hrl,⟨fun x hx=>(by cases hx),fun x hx=>(by cases hx)⟩⟩
   ·exact⟨hrl,⟨fun x hx=>(by cases hx),fun x hx=>(by cases hx)⟩⟩
  ·unfold Zkk at h
   obtain⟨h3,h4⟩:=ZL h
   have h3:=eB h3
   subst h3
   cases h4
   exact U9.1
  ·simp only[rr, tt, h0',hne,beq_self_eq_true,Bool.not_true,and_true,true_and,and_self]
 ·have hi:i=2:=by have:=h1.1; have:=h1.2; omega
  have hk:k=2:=by have:=h3.1; have:=h3.2; omega
  subst hi hk
  have hlf:ZO cs.length d.length rs.length so.length=false:=by
   cases hb:ZO cs.length d.length rs.length so.length
   ·rfl
   ·exact absurd (.inl hb) h0
  have hs4:cs.length≤4096∧d.length≤16384∧rs.length≤256∧so.length≤4:=by
   simp[ZO] at hlf
   omega
  have hi:ImOk rs so:=⟨n2,n3,by omega⟩
  by_cases hrs:rs=[]
  ·subst hrs
   have em:X5 a2 c2:=fun q d hq=>by
    have:sl j 65 0 = .slice a2 0 c2:=q2
    rw[← this]; exact Zev (hq 65 (by omega))
   have hv:inV 2 j 2 p s t d cs [] so=Yj p s t d (some ⟨64,0,none⟩) a2 (some ⟨66,0,none⟩) cs.length 0 so.length (big+64) c2 (big+66):=by
    unfold inV Yj; rw[q2]; rfl
   rw[hv]
   have look6:∀ g b,Sy.look (WM so) g=some b→Sy.look (inH 2 j 2 cs [] so) g=some b:=fun g b hb=>by
    unfold WM at hb
    rw[Z0] at hb
    split at hb
    ·rename_i hg; subst hg; rw[← hb]; unfold inH slH; rcases j with _|_|j<;>rfl
    ·cases hb
   have look7:∀ g b,Sy.look (Zcf cs so) g=some b→Sy.look (inH 2 j 2 cs [] so) g=some b:=fun g b hb=>by
    unfold Zcf at hb
    rw[Z0] at hb
    split at hb
    ·rename_i hg; subst hg; rw[← hb]; unfold inH slH; rcases j with _|_|j<;>rfl
    ·exact look6 g b hb
   have hlay:=(Zi6 a2 c2 em p s t cs.length d so hi).drop
   by_cases he:ZZ p s t cs.length d [] so=0
   ·obtain⟨P,S,T,rfl,rfl,rfl,g1,_,_,g5⟩:=Zey he hs4.1 hs4.2.1 hs4.2.2.2 n1 n2
    have hrl:=Zcj a2 c2 em P S T cs.length d so hi hlf (Zew he).1
    have hL:ConOk Tryz.prog 9 3 (Jd (Yg P S T d a2 cs.length 0 so.length c2) (WM so) (ZG (4*cs.length)) (ZG (4*cs.length)) (ZG d.length) (ZG (4*cs.length)+ZG d.length) (S*so.length) (ZX S cs.length so.length d.length) (P*256-ZX S cs.length so.length d.length)):=by
     have:=hlay
     unfold Qo Kn at this
     rw[he] at this
     exact this
    have hR:ConOk Tryz.prog 16 3 (Jd (Yg P S T d a2 cs.length 0 so.length c2) (WM so) (ZG (4*cs.length)) (ZG (4*cs.length)) (ZG d.length) (ZG (4*cs.length)+ZG d.length) (S*so.length) (ZX S cs.length so.length d.length) (P*256-ZX S cs.length so.length d.length)):=by
     have:=hrl
     unfold Qo Kn at this
     rw[he] at this
     exact this
    obtain⟨call,T',q,hc,hr,hq⟩:=Zoi P S T cs d a2 c2 em so _ _ _ _ _ _ _ g1 g5 hs4.2.2.2 hL hR
    exact⟨call,Zcf cs so,hc,look7,rfl,T',q,hr,hq⟩
   ·obtain⟨e,hE⟩:∃ e:Nat,ZZ p s t cs.length d [] so=e:=⟨_,rfl⟩
    rw[hE] at he
    have hb0:Nat.beq e 0=false:=by
     cases hb:Nat.beq e 0
     ·rfl
     ·exact absurd (eB hb) he
    have h0':((e:Int) !=0)=true:=by simp; omega
    have hL:ConOk Tryz.prog 9 3 (W5 (Yj p s t d (some ⟨64,0,none⟩) a2 (some ⟨66,0,none⟩) cs.length 0 so.length (big+64) c2 (big+66)) (WM so) (e:Nat)):=by
     have:=hlay
     unfold Qo Kn at this
     rw[hE] at this
     simp only[rr, tt, pe,hb0,cond_false] at this
     exact this
    by_cases ha:QF p s t cs.length so.length=false
    ·have hR:ConOk Tryz.prog 16 3 (W5 (Yj p s t d (some ⟨64,0,none⟩) a2 (some ⟨66,0,none⟩) cs.length 0 so.length (big+64) c2 (big+66)) (WM so) (e:Nat)):=by
      have:=Zcj a2 c2 em p s t cs.length d so hi hlf ha
      unfold Qo Kn at this
      rw[hE] at this
      simp only[rr, tt, pe,hb0,cond_false] at this
      exact this
     have hr:=Zp1 p s t (e:Nat) d a2 c2 cs.length so
     refine⟨_,WM so,Zu (L:=100) Zn (Qe (ZW fun x hx => ?_) (Zx _)) (Zj _) 20,look6,rfl,_,_,hr,?_⟩
     ·simp only[rr, tt, loE,List.mem_cons,List.not_mem_nil,or_false] at hx
      rcases hx with rfl|rfl|rfl|rfl|rfl|rfl|rfl|rfl|rfl|rfl
      ·exact⟨hL,⟨fun x hx=>(by cases hx)⟩⟩
      ·exact⟨hR,⟨fun x hx=>(by cases hx)⟩⟩
      ·exact⟨hR,⟨fun x hx=>(by cases hx)⟩⟩
      ·exact⟨hR,⟨fun x hx=>(by cases hx)⟩⟩
      all_goals exact U9
     ·simp only[rr, tt, h0',hne,Xh em,f3,f4,beq_self_eq_true,Bool.not_true,and_true,true_and,and_self]
    ·have ha':QF p s t cs.length so.length=true:=by
      cases hb:QF p s t cs.length so.length
      ·exact absurd hb ha
      ·rfl
     have h2e:(e:Int)=2:=by
      rw[← hE]
      unfold ZZ
      rw[show ZO cs.length d.length ([]:List Rl).length so.length=false from hlf,ha']
      rfl
     have hok:okV (fun l=>Nat.blt l 67) 3 (Yj p s t d (some ⟨64,0,none⟩) a2 (some ⟨66,0,none⟩) cs.length 0 so.length (big+64) c2 (big+66))=true:=YU rfl rfl _ _ _ _ (em _ 2 fun l hl=>Zt hl) _ _
     have hc:=Zeu p s t d (some ⟨64,0,none⟩) a2 (some ⟨66,0,none⟩) cs.length 0 so.length (big+64) c2 (big+66) hok (.inr ha')
     rw[show ZO cs.length d.length 0 so.length=false from hlf,cond_false,← h2e] at hc
     have hR:=Zcu p s t (e:Nat) d (some ⟨64,0,none⟩) a2 (some ⟨66,0,none⟩) cs.length 0 so.length (big+64) c2 (big+66) hok h0' hc
     have hr:=Zp2 p s t (e:Nat) d a2 c2 cs.length so
     refine⟨_,WM so,Zu (L:=100) Zn (Qe (ZW fun x hx => ?_) (Zx _)) (Zj _) 20,look6,rfl,_,_,hr,?_⟩
     ·simp only[rr, tt, loE,List.mem_cons,List.not_mem_nil,or_false] at hx
      rcases hx with rfl|rfl|rfl|rfl|rfl|rfl|rfl|rfl|rfl|rfl
      ·exact⟨hL,⟨fun x hx=>(by cases hx)⟩⟩
      ·exact⟨hR,⟨fun x hx=>(by cases hx)⟩⟩
      ·exact⟨hR,⟨fun x hx=>(by cases hx)⟩⟩
      ·exact⟨hR,⟨fun x hx=>(by cases hx)⟩⟩
      all_goals exact U9
     ·simp only[rr, tt, h0',hne,Xh em,f3,f4,beq_self_eq_true,Bool.not_true,and_true,true_and,and_self]
  ·have hj:j=2:=by
    have hne0:rs.length≠0:=fun h=>hrs (List.length_eq_zero_iff.1 h)
    have:=h2.1; have:=h2.2; omega
   subst hj
   have look6:∀ g b,Sy.look (btH rs so) g=some b→Sy.look (inH 2 2 2 cs rs so) g=some b:=fun g b hb=>by
    unfold btH at hb
    rw[Z0] at hb
    split at hb
    ·rename_i hg; subst hg; rw[← hb]; rfl
    ·rw[Z0] at hb
     split at hb
     ·rename_i hg; subst hg; rw[← hb]; rfl
     ·cases hb
   have look7:∀ g b,Sy.look (lqH cs rs so) g=some b→Sy.look (inH 2 2 2 cs rs so) g=some b:=fun g b hb=>by
    unfold lqH at hb
    rw[Z0] at hb
    split at hb
    ·rename_i hg; subst hg; rw[← hb]; rfl
    ·exact look6 g b hb
   have hlay:=(Zha p s t cs.length d rs so hi).drop
   have hrl:=ZiX p s t cs.length d rs so hi
   by_cases he:ZZ p s t cs.length d rs so=0
   ·obtain⟨P,S,T,rfl,rfl,rfl,g1,g2,g3,g5⟩:=Zey he hs4.1 hs4.2.1 hs4.2.2.2 n1 n2
    have hL:ConOk Tryz.prog 9 3 (Jd (Yg P S T d (some ⟨65,0,none⟩) cs.length rs.length so.length (big+65)) (btH rs so) (ZG (4*cs.length)) (ZG (4*cs.length)) (ZG d.length) (ZG (4*cs.length)+ZG d.length) (S*so.length) (ZX S cs.length so.length d.length) (P*256-ZX S cs.length so.length d.length)):=by
     have:=hlay
     unfold Qo Kn at this
     rw[he] at this
     exact this
    have hR:ConOk Tryz.prog 16 3 (Jd (Yg P S T d (some ⟨65,0,none⟩) cs.length rs.length so.length (big+65)) (btH rs so) (ZG (4*cs.length)) (ZG (4*cs.length)) (ZG d.length) (ZG (4*cs.length)+ZG d.length) (S*so.length) (ZX S cs.length so.length d.length) (P*256-ZX S cs.length so.length d.length)):=by
     have:=hrl
     unfold Qo Kn at this
     rw[he] at this
     exact this
    obtain⟨call,T',q,hc,hr,hq⟩:=Zoh P S T cs d rs so _ _ _ _ _ _ _ g1 g2 (Zml g2 g3) hs4.2.2.1 g5 hs4.2.2.2 hL hR
    exact⟨call,lqH cs rs so,hc,look7,rfl,T',q,hr,hq⟩
   ·obtain⟨e,hE⟩:∃ e:Nat,ZZ p s t cs.length d rs so=e:=⟨_,rfl⟩
    rw[hE] at he
    have hb0:Nat.beq e 0=false:=by
     cases hb:Nat.beq e 0
     ·rfl
     ·exact absurd (eB hb) he
    have h0':((e:Int) !=0)=true:=by simp; omega
    have hL:ConOk Tryz.prog 9 3 (W5 (Yj p s t d (some ⟨64,0,none⟩) (some ⟨65,0,none⟩) (some ⟨66,0,none⟩) cs.length rs.length so.length (big+64) (big+65) (big+66)) (btH rs so) (e:Nat)):=by
     have:=hlay
     unfold Qo Kn at this
     rw[hE] at this
     simp only[rr, tt, pe,hb0,cond_false] at this
     exact this
    have hR:ConOk Tryz.prog 16 3 (W5 (Yj p s t d (some ⟨64,0,none⟩) (some ⟨65,0,none⟩) (some ⟨66,0,none⟩) cs.length rs.length so.length (big+64) (big+65) (big+66)) (btH rs so) (e:Nat)):=by
     have:=hrl
     unfold Qo Kn at this
     rw[hE] at this
     simp only[rr, tt, pe,hb0,cond_false] at this
     exact this
    have hr:=Zp0 p s t (e:Nat) d cs.length rs so
    refine⟨_,btH rs so,Zu (L:=100) Zn (Qe (ZW fun x hx => ?_) (Zx _)) (Zj _) 20,look6,rfl,_,_,hr,?_⟩
    ·simp only[rr, tt, loE,List.mem_cons,List.not_mem_nil,or_false] at hx
     rcases hx with rfl|rfl|rfl|rfl|rfl|rfl|rfl|rfl|rfl|rfl
     ·exact⟨hL,⟨fun x hx=>(by cases hx)⟩⟩
     ·exact⟨hR,⟨fun x hx=>(by cases hx)⟩⟩
     ·exact⟨hR,⟨fun x hx=>(by cases hx)⟩⟩
     ·exact⟨hR,⟨fun x hx=>(by cases hx)⟩⟩
     all_goals exact U9
    ·simp only[rr, tt, h0',hne,f1,f2,f3,f4,beq_self_eq_true,Bool.not_true,and_true,true_and,and_self]
theorem Us:ZhG 3 Tryz.f3:=by
 intro H enc W base args ds p hval hA
 rw[Tryz.params3] at hA hval
 obtain⟨v0,vs0,d0,ds0,p0,q0,hargs,rfl,rfl,h0,r0⟩:=trodAll_cons hA
 obtain⟨rfl,rfl,rfl⟩:=trodAll_nil r0
 obtain rfl:args = #[v0]:=by cases args; simp_all
 obtain⟨Ze,Zc,types,data,cs,rs,Za,v1,v2,v3,i,j,k,B1,O1,C1,B2,O2,C2,B3,O3,C3,S1,S2,S3,rfl,s1,s2,s3,n1,n2,n3⟩:=Zjo (hval 0 _ v0 rfl rfl) h0
 obtain⟨call,hs,hc,hsub,hro,hr⟩:=ZhQ i j k Ze Zc types data cs rs Za s1.ok s2.ok s3.ok n1 n2 n3
 exact ZhN hc s1 s2 s3 hsub hro hr
set_option maxRecDepth 100000 in
theorem loaderLoads_proved:Rows.LoaderLoadsSaid :=
 OpenClaim.holds_of_wide 3 Tryz.f3 rfl rfl rfl rfl rfl rfl rfl ⟨rfl,rfl,rfl,rfl,rfl⟩ rfl rfl rfl rfl rfl (by kernel_rfl) Tryz.func3 (by kernel_rfl)
  (of_decide_eq_true (by kernel_rfl)) (by unfold Func.isWrapper; first|(rw[if_pos (by decide +kernel)]; kernel_rfl)|(rw[if_neg (by decide +kernel)]; exact⟨rfl,rfl⟩))
  (fun os started H enc _=>Zfl 3 Tryz.f3 Rows.loaderLoadsSpec Rows.loaderLoadsRow.domain Tryz.func3 (by kernel_rfl) rfl rfl
   (fun H ds hd=>by match ds,hd with|[d0],_=>exact⟨rfl,rfl,rfl⟩) (by decide +kernel) Us os started H enc
   (ChangeSpec.witness6 (enc:=enc) (C:=Tryz.checked) false ⟨#[],#[.agg #[.int .i64 0,.int .i64 0,.int .i64 0,.slice none 0 0,.string ByteArray.empty,.slice none 0 0,.slice none 0 0]],[]⟩ 8 (by kernel_rfl) (by kernel_rfl) (by kernel_rfl) (by kernel_rfl)))
end Go.Proofs.YtliidiceljdgmaaGreat
#print axioms Go.Proofs.YtliidiceljdgmaaGreat.loaderLoads_proved
