/-
  CoreDataCard: part 3 of the proof.
-/
import Derived.Below
import Derived.BigQuiet
import Derived.Calls
import Derived.Deep.AppendLies
import Derived.Deep.DrawnRows
import Derived.Deep.Draws
import Derived.Deep.QuietTactic
import Derived.Deep.RegionHeld3
import Derived.IntWalk
import Derived.KernelRfl
import Derived.Laws.Bits64
import Derived.Laws.BitsAllLaws
import Derived.Laws.BytesArg
import Derived.Laws.Concat
import Derived.Laws.EntriesVeiled
import Derived.Laws.IdiomStrings
import Derived.Laws.OwnMore
import Derived.Laws.Rows
import Derived.Laws.Strings
import Derived.Laws.Strings2
import Derived.Laws.StructEq
import Derived.Lib.Hide
import Derived.Outline
import Derived.OwnWalk
import Derived.Test.YtagacmljbgkmoaaGreatDoorChecked
import Derived.Test.YtagacmljbgkmoaaGreatDoorProg
import Derived.Test.YtagacmljbgkmoaaGreatDoorQCoreDataCardB
import Derived.WalkKit
import Derived.WalkLawsBesides
import Derived.WalkSpells
set_option linter.unusedSimpArgs false
set_option linter.unusedVariables false
set_option linter.unusedSectionVars false
namespace Go.Proofs.YtagacmljbgkmoaaGreatDoor
open Go.IntKind (u8 u16 u32 u64 i64)
open Go.RowKit
structure Box (p:Prop):Prop where
 out:p
theorem ZL {p:Prop} (h:p):Hid p:=h
theorem KF (a:Addr) (n:Nat):(a.add n).block=a.block:=by unfold Addr.add; split<;>rfl
theorem Zdo (a:Addr) (i j:Nat):(a.add i).add j=a.add (i+j):=by
 unfold Addr.add
 by_cases hi:i=0<;>by_cases hj:j=0<;>simp[hi,hj,Nat.add_assoc]
def YD (w:World) (B size:Nat) (A:Option Addr) (n:Nat) (xs:List Value):Prop :=
 xs.length=n*size∧(0<n→∃ ad,A=some ad∧ad.block<B∧∀ j u,xs[j]? = some u→w.cell? (ad.add j)=some u)
section
variable {w w':World} {B B' size n:Nat} {A:Option Addr} {xs:List Value}
theorem YD.at_ {k:Nat} (h:YD w B 1 A n xs) (hk:k<n):∃ ad u,A=some ad∧ad.block<B∧xs[k]? = some u∧w.cell? (ad.add k)=some u:=by
 obtain⟨ad,e,hb,hc⟩:=h.2 (by omega)
 have hl:k<xs.length:=by have:=h.1; omega
 exact⟨ad,xs[k],e,hb,List.getElem?_eq_getElem hl,hc k _ (List.getElem?_eq_getElem hl)⟩
theorem YD.keep (h:YD w B size A n xs) (hk:∀ p:Addr,p.block<B→w'.cell? p=w.cell? p):YD w' B size A n xs :=
 ⟨h.1,fun hn=>by
  obtain⟨ad,e,hb,hc⟩:=h.2 hn
  exact⟨ad,e,hb,fun j u hu=>(hk _ (by rw[KF]; exact hb)).trans (hc j u hu)⟩⟩
theorem YD.more (h:YD w B size A n xs) (hB:B≤B'):YD w B' size A n xs :=
 ⟨h.1,fun hn=>by
  obtain⟨ad,e,hb,hc⟩:=h.2 hn
  exact⟨ad,e,by omega,hc⟩⟩
theorem YD.below (h:YD w B size A n xs) (hb:Below B w w'):YD w' B size A n xs:=h.keep fun _ hp=>hb.cell hp
theorem YD.drew (h:YD w B size A n xs):YD w.drew B size A n xs:=h
theorem YD.drewN (h:YD w B size A n xs) (k:Nat):YD (w.drewN k) B size A n xs:=h
theorem YD.alloc (h:YD w B size A n xs) (hB:B≤w.heap.size) (o:Obj):YD (w.alloc o) B size A n xs:=h.keep fun p hp=>World.cell?_alloc_lt w o p (by omega)
theorem YD.setCell (h:YD w B size A n xs) {p:Addr} (hB:B≤p.block) (u:Value):YD (w.setCell p u) B size A n xs :=
 h.keep fun q hq=>World.cell?_setCell_other w p q u (fun e=>by subst e; omega)
theorem YD.cut (h:YD w B size A n xs) {k cap:Nat} (hk:k≤n) (hc:n≤cap) :
  YD w B size (if cap=k then A else A.map (·.add (k*size))) (n-k) (xs.drop (k*size)):=by
 refine⟨by rw[List.length_drop,h.1,Nat.sub_mul],fun hn => ?_⟩
 obtain⟨ad,rfl,hb,hcell⟩:=h.2 (by omega)
 rw[if_neg (by omega)]
 refine⟨ad.add (k*size),rfl,by rw[KF]; exact hb,fun j u hu => ?_⟩
 rw[Zdo]
 exact hcell _ u (by rw[← hu,List.getElem?_drop])
end
def Blk (w:World) (g:Nat) (t:TypeId) (cs:Array Value):Prop:=w.heap[g]? = some (.cells cs t (0,0))
section
variable {w w':World} {g:Nat} {t:TypeId} {cs:Array Value}
theorem Blk.lt (h:Blk w g t cs):g<w.heap.size:=by
 rcases Nat.lt_or_ge g w.heap.size with hlt|hge
 ·exact hlt
 ·unfold Blk at h; rw[Array.getElem?_eq_none hge] at h; cases h
theorem Blk.cell (h:Blk w g t cs) (i:Nat):w.cell? ⟨g,i,none⟩=cs[i]?:=cell_of_row w g i cs t (0,0) h
theorem Blk.frozen (h:Blk w g t cs) (i:Nat):w.frozen? ⟨g,i,none⟩=false:=by
 unfold Blk at h
 simp[World.frozen?,h]
theorem Blk.new (w:World) (t:TypeId) (cs:Array Value):Blk (w.alloc (.cells cs t)) w.heap.size t cs:=heap_alloc_new w _
theorem Blk.drew (h:Blk w g t cs):Blk w.drew g t cs:=h
theorem Blk.drewN (h:Blk w g t cs) (n:Nat):Blk (w.drewN n) g t cs:=h
theorem Blk.alloc (h:Blk w g t cs) (o:Obj):Blk (w.alloc o) g t cs:=(Below.heap_alloc w o g h.lt).trans h
theorem Blk.set_ (h:Blk w g t cs) (i:Nat) (u:Value):Blk (w.setCell ⟨g,i,none⟩ u) g t (cs.setIfInBounds i u):=by
 unfold Blk at h ⊢
 simp[World.setCell,Array.getElem?_modify,h]
theorem Blk.far (h:Blk w g t cs) {p:Addr} (hp:g≠p.block) (u:Value):Blk (w.setCell p u) g t cs:=(Below.heap_setCell w p u g hp).trans h
theorem Blk.below {B:Nat} (h:Blk w g t cs) (hb:Below B w w') (hg:g<B):Blk w' g t cs:=(hb.block g hg).trans h
end
def Row (w:World) (B:Nat) (A:Option Addr) (xs:List Value):Prop :=
 xs=[]∨∃ g off,A=some ⟨g,off,none⟩∧g<B∧∀ j u,xs[j]? = some u→w.cell? ⟨g,off+j,none⟩=some u
section
variable {w w':World} {B B':Nat} {A:Option Addr} {xs:List Value}
theorem Row.keep (h:Row w B A xs) (hk:∀ p:Addr,p.block<B→w'.cell? p=w.cell? p):Row w' B A xs:=by
 rcases h with h|⟨g,off,e,hb,hc⟩
 ·exact .inl h
 ·exact .inr ⟨g,off,e,hb,fun j u hu=>(hk _ hb).trans (hc j u hu)⟩
theorem Row.more (h:Row w B A xs) (hB:B≤B'):Row w B' A xs:=by
 rcases h with h|⟨g,off,e,hb,hc⟩
 ·exact .inl h
 ·exact .inr ⟨g,off,e,by omega,hc⟩
theorem Row.below (h:Row w B A xs) (hb:Below B w w'):Row w' B A xs:=h.keep fun _ hp=>hb.cell hp
theorem Row.drew (h:Row w B A xs):Row w.drew B A xs:=h
theorem Row.drewN (h:Row w B A xs) (k:Nat):Row (w.drewN k) B A xs:=h
theorem Row.alloc (h:Row w B A xs) (hB:B≤w.heap.size) (o:Obj):Row (w.alloc o) B A xs:=h.keep fun p hp=>World.cell?_alloc_lt w o p (by omega)
theorem Row.setCell (h:Row w B A xs) {p:Addr} (hB:B≤p.block) (u:Value):Row (w.setCell p u) B A xs :=
 h.keep fun q hq=>World.cell?_setCell_other w p q u (fun e=>by subst e; omega)
theorem Row.cut (h:Row w B A xs) {k cap:Nat} (hk:k≤xs.length) (hc:xs.length≤cap) :
  Row w B (if cap=k then A else A.map (·.add (k*1))) (xs.drop k):=by
 rcases Nat.lt_or_ge k xs.length with hlt|hge
 ·rcases h with h|⟨g,off,rfl,hb,hcell⟩
  ·subst h; simp at hlt
  ·rw[if_neg (by omega)]
   refine .inr ⟨g,off+k,?_,hb,fun j u hu => ?_⟩
   ·simp only[rr, tt, Option.map_some,Nat.mul_one,Addr.add]; split
    ·rename_i h0; subst h0; rfl
    ·rfl
   ·rw[List.getElem?_drop] at hu
    rw[Nat.add_assoc]; exact hcell _ u hu
 ·left; exact List.drop_eq_nil_of_le hge
theorem Row.take (h:Row w B A xs) (k:Nat):Row w B A (xs.take k):=by
 rcases h with h|⟨g,off,e,hb,hc⟩
 ·exact .inl (by simp[h])
 ·exact .inr ⟨g,off,e,hb,fun j u hu=>hc j u (by
   rw[List.getElem?_take] at hu; split at hu
   ·exact hu
   ·cases hu)⟩
theorem Row.place (h:Row w B A xs) (hx:0<xs.length):∃ g off,A=some ⟨g,off,none⟩∧g<B∧∀ j u,xs[j]? = some u→w.cell? ⟨g,off+j,none⟩=some u:=by
 rcases h with h|h
 ·subst h; simp at hx
 ·exact h
end
def bs (l:List UInt8):ByteArray:=⟨l.toArray⟩
@[go_sem] theorem bs_size (l:List UInt8):(bs l).size=l.length:=by simp[bs,ByteArray.size]
@[go_sem] theorem bs_toList (l:List UInt8):(bs l).toList=l:=ByteArray.toList_mk l
@[go_sem] theorem bs_append (a b:List UInt8):bs a++bs b=bs (a++b):=ByteArray.mk_append_mk a b
@[go_sem] theorem bs_extract (l:List UInt8) (a b:Nat):(bs l).extract a b=bs ((l.drop a).take (b-a)):=ByteArray.extract_mk l a b
@[go_sem] theorem bs_get (l:List UInt8) (i:Nat) (h:i<(bs l).size):(bs l)[i]'h=l[i]'(by simpa [bs_size] using h):=by
 simp[bs,ByteArray.getElem_eq_getElem_data]
theorem UY {k:IntKind} {a b:Int} (h:a=b):Ending.returned (.int k a) = .returned (.int k b):=by rw[h]
theorem QU {a b:Bool} (h:a=b):Ending.returned (.bool a) = .returned (.bool b):=by rw[h]
theorem Y3 {B:Nat} {w w':World} (h:Below B w.drew w'):Below B w w':=⟨h.os,h.tape,h.output,h.size,h.block⟩
theorem Zy {B:Nat} {a w:World} (h:Below B a w) (n:Nat):Below B a (w.drewN n):=⟨h.os,h.tape,h.output,h.size,h.block⟩
theorem Y4 {W w1:World} (hb:Below W.heap.size W w1):(∀ b o,b<W.heap.size→w1.cell? ⟨b,o,none⟩=W.cell? ⟨b,o,none⟩)∧(∀ b o,b<W.heap.size→w1.frozen? ⟨b,o,none⟩=W.frozen? ⟨b,o,none⟩) :=
 ⟨fun b o h=>hb.cell (p:=⟨b,o,none⟩) h,fun b o h=>hb.frozen (p:=⟨b,o,none⟩) h⟩
theorem Zdp {P:Program} {f:FuncId} {args:Array Value} {w:World} {n:Nat} {v:Value}
  (h:Calls P f args (w.drewN n) fun e w'=>e = .returned v∧w.drewN n=w'):Calls P f args (w.drewN n) fun e w''=>e = .returned v∧∃ m,w''=w.drewN m :=
 h.mono fun _ _ ⟨he,hm⟩=>⟨he,n,hm.symm⟩
def Xp (x edge:Nat):Nat:=if x<edge then 1 else 0
theorem WE (x edge:Nat):Xp x edge≤1:=by unfold Xp; split<;>omega
def WQ (b:Nat):Nat:=(b+3072)%4096
def KS (e b c:Nat):Int:=((c/2^e/4096:Nat):Int)-(Xp (c/2^e%4096) (WQ b):Nat)
def ofN (e b c x:Nat):Int:=((KS e b c+(Xp x (WQ b):Nat))*4096+x)*2^e
def Za4 (e b t:Nat):Bool:=decide (e≤21)&&decide (b<4096)&&decide (t<4096)
def Yv (e b t c:Nat):Int:=if Za4 e b t then ofN e b c b else 0
def YB (e b t c:Nat):Int:=if Za4 e b t then ofN e b c t else 0
def Q4 (e b t c:Nat):Bool:=Za4 e b t&&decide (0≤Yv e b t c)&&decide (Yv e b t c≤YB e b t c)&&decide (YB e b t c≤4294967296)
theorem Za5 {e b t:Nat} (h:Za4 e b t=true):e≤21∧b<4096∧t<4096:=by
 simp only[rr, tt, Za4,Bool.and_eq_true,decide_eq_true_eq] at h; exact⟨h.1.1,h.1.2,h.2⟩
theorem UZ {e b t:Nat} (h1:e≤21) (h2:b<4096) (h3:t<4096):Za4 e b t=true:=by simp[Za4,h1,h2,h3]
theorem YL {e:Nat} (h:e≤21):2^e≤2097152:=by
 have:=Nat.pow_le_pow_right (n:=2) (by omega) h
 simpa using this
theorem QF (e:Nat):0<2^e:=Nat.pow_pos (by omega)
theorem Zey {e b c:Nat} (hc:c<4294967296) : -1≤KS e b c∧KS e b c≤1048575:=by
 unfold KS
 have h1:=WE (c/2^e%4096) (WQ b)
 have h2:c/2^e≤c:=Nat.div_le_self _ _
 generalize c/2^e=q at h1 h2 ⊢
 have h3:q/4096≤1048575:=by omega
 omega
theorem Zdq {e:Nat} (he:e≤21) (y:Int) (h1 : -8589934592≤y) (h2:y≤8589934592) : -9223372036854775808≤y*2^e∧y*2^e≤9223372036854775807:=by
 have hp:=YL he
 have h0:=QF e
 have e1:((2:Int)^e)=((2^e:Nat):Int):=by simp
 rw[e1]
 generalize 2^e=u at hp h0
 have a1:y*(u:Int)≤8589934592*(u:Int):=Int.mul_le_mul_of_nonneg_right h2 (by omega)
 have a2 : -8589934592*(u:Int)≤y*(u:Int):=Int.mul_le_mul_of_nonneg_right h1 (by omega)
 omega
theorem Zmh {e b c x:Nat} (hc:c<4294967296) (hx:x<65536) : -8589934592≤(KS e b c+(Xp x (WQ b):Nat))*4096+x∧(KS e b c+(Xp x (WQ b):Nat))*4096+x≤8589934592:=by
 have h1:=WE x (WQ b)
 have h2:=Zey (e:=e) (b:=b) hc
 omega
def dnN (x e:Nat):Nat:=x/2^e*2^e
def upN (x e:Nat):Nat:=(x+(2^e-1))/2^e*2^e
def Xm (b t e:Nat):Bool:=decide (upN t e-dnN b e≤2048*2^e)
def QG (b t:Nat):Nat→Nat→Nat
 | 0,e=>e
 | n+1,e=>if Xm b t e then e else QG b t n (e+1)
def ZM (b t:Nat):Nat:=QG b t 21 0
theorem Za6 (x e:Nat):dnN x e≤x:=Nat.div_mul_le_self _ _
theorem ZbN (x e:Nat):x≤upN x e:=by
 unfold upN
 have h0:=QF e
 have h1:=Nat.div_add_mod (x+(2^e-1)) (2^e)
 have h2:=Nat.mod_lt (x+(2^e-1)) h0
 rw[Nat.mul_comm] at h1
 omega
theorem Zez (x e:Nat):upN x e<x+2^e:=by
 unfold upN
 have h0:=QF e
 have h1:=Nat.div_mul_le_self (x+(2^e-1)) (2^e)
 omega
theorem ZbO (b t:Nat):∀ n e,QG b t n e≤e+n:=by
 intro n
 induction n with
 | zero=>intro e; exact Nat.le_refl _
 | succ n ih =>
  intro e
  unfold QG
  split
  ·omega
  ·have:=ih (e+1); omega
theorem VF (b t:Nat):ZM b t≤21:=by
 have:=ZbO b t 21 0
 unfold ZM; omega
theorem Zgp (a e:Nat) (ha:a<18446744073709551616) (he:e≤64):a&&&(18446744073709551615-(2^e-1))=a/2^e*2^e:=by
 have h0:=QF e
 have h1:18446744073709551615-(2^e-1)=2^64-((2^e-1)+1):=by
  have:2^e≤2^64:=Nat.pow_le_pow_right (by omega) he
  omega
 rw[h1]
 apply Nat.eq_of_testBit_eq
 intro i
 have h2:2^e≤2^64:=Nat.pow_le_pow_right (by omega) he
 rw[Nat.testBit_and,Nat.testBit_two_pow_sub_succ (by omega),Nat.testBit_two_pow_sub_one,Nat.testBit_mul_two_pow,Nat.testBit_div_two_pow]
 by_cases hi:e≤i
 ·rw[Nat.sub_add_cancel hi]
  have e1:decide (i<e)=false:=by simp; omega
  have e2:decide (e≤i)=true:=by simpa using hi
  rw[e1,e2]
  by_cases h64:i<64
  ·have e3:decide (i<64)=true:=by simpa using h64
   rw[e3]; simp
  ·have:a.testBit i=false:=Nat.testBit_lt_two_pow (Nat.lt_of_lt_of_le ha (Nat.pow_le_pow_right (n:=2) (by omega) (show 64≤i by omega)))
   rw[this]; simp
 ·have e1:decide (i<e)=true:=by simp; omega
  have e2:decide (e≤i)=false:=by simpa using hi
  rw[e1,e2]; simp
theorem ZeA (b:Nat) (_hb:b<4096):bits .and .u16 (u16.wrap ((b:Int)-1024)) 4095=((WQ b:Nat):Int):=by
 have e:u16.wrap ((b:Int)-1024)=(((b+64512)%65536:Nat):Int):=by rw[IntKind.wrap_u16]; omega
 rw[e]
 have:=u16_and_nat ((b+64512)%65536) 4095 (by omega) (by omega)
 rw[nat_mask12] at this
 rw[show((4095:Int))=((4095:Nat):Int) from rfl,this]
 unfold WQ; omega
theorem Zgq (q:Nat) (hq:q<4294967296):bits .and .i64 (q:Int) 4095=((q%4096:Nat):Int):=by
 have h1:(BitVec.ofInt 64 (q:Int)).toNat=q:=by
  rw[BitVec.ofInt_natCast,BitVec.toNat_ofNat]; exact Nat.mod_eq_of_lt (by omega)
 show i64.wrap ((BitVec.ofInt 64 (q:Int)&&&BitVec.ofInt 64 (4095:Int)).toNat:Int)=_
 rw[BitVec.toNat_and,h1,show(BitVec.ofInt 64 (4095:Int)).toNat=4095 from rfl,nat_mask12,IntKind.wrap_i64]
 omega
theorem Zgr {e:Nat} (he:e≤21):u64.wrap (u64.wrap ((2:Int)^e)-1)=((2^e-1:Nat):Int):=by
 have hp:=YL he
 have h0:=QF e
 have e1:((2:Int)^e)=((2^e:Nat):Int):=by simp
 rw[e1,IntKind.wrap_u64,IntKind.wrap_u64]
 generalize 2^e=u at hp h0
 omega
theorem Za7 (x e:Nat) (hx:x<18446744073709551616) (he:e≤21):bits .andNot .u64 (x:Int) ((2^e-1:Nat):Int)=((x/2^e*2^e:Nat):Int):=by
 have hp:=YL he
 rw[u64_andNot_nat x (2^e-1) hx (by omega),Zgp x e hx (by omega)]
theorem Ui (x:Nat) (hx:x<18446744073709551616):bits .and .u64 (x:Int) 4095=((x%4096:Nat):Int):=by
 have:=u64_and_nat x 4095 hx (by omega)
 rw[nat_mask12] at this
 exact this
theorem Zhy (b e:Nat):dnN b e/2^e=b/2^e:=by
 unfold dnN; exact Nat.mul_div_cancel _ (QF e)
def Z3 (b t:Nat):Bool:=decide (b≤t)&&decide (t≤4294967296)
theorem ZeB {k k':IntKind} {a b c d:Int} (h:a=b) (h':c=d):Ending.returned (.tuple #[.int k a,.int k' c]) = .returned (.tuple #[.int k b,.int k' d]):=by rw[h,h']
theorem ZcG (x edge:Nat) (a:Addr) (w:World) (hc:w.cell? a=some (.int .u16 edge)) :
  Calls Tryz.prog 185 #[.int .u16 x,.pointer (some a)] w fun e w'=>e = .returned (.int .i64 (Xp x edge:Nat))∧w=w':=by
 by_cases h:(x:Int)<edge
 ·have e:Xp x edge=1:=by unfold Xp; rw[if_pos (by omega)]
  rw[e]
  go_enter Tryz.func185,Tryz.ntmps185
  go_wp2
  go_ret
  exact⟨rfl,rfl⟩
 ·have e:Xp x edge=0:=by unfold Xp; rw[if_neg (by omega)]
  rw[e]
  go_enter Tryz.func185,Tryz.ntmps185
  go_wp2
  go_ret
  exact⟨rfl,rfl⟩
theorem Zhz (x b e c:Nat) (high r:Int) (edge:Nat) (hr:ofN e b c x=r) (hi:KS e b c=high) (hed:WQ b=edge) (ah at_ ae ed:Addr) (w:World) (hx:x<65536) (he:e≤21) (hc:c<4294967296)
  (h1:w.cell? ah=some (.int .i64 high)) (h2:w.cell? at_=some (.func (.func 185) #[] #[.pointer (some ed)])) (h3:w.cell? ae=some (.int .u8 e)) (h4:w.cell? ed=some (.int .u16 edge)) :
  Calls Tryz.prog 186 #[.int .u16 x,.pointer (some ah),.pointer (some at_),.pointer (some ae)] w fun e' w'=>e' = .returned (.int .i64 r)∧∃ m,w'=w.drewN m:=by
 have hh:=Zey (e:=e) (b:=b) hc
 have ho:=Zmh (e:=e) (b:=b) (x:=x) hc hx
 have ht:=WE x (WQ b)
 have hw:=Zdq he _ ho.1 ho.2
 have HO:Hid (wrap64 (((KS e b c+(Xp x (WQ b):Nat))*4096+x)*2^e)=r):=by
  show _=_
  rw[IntWalk.wrap64_in _ hw]; exact hr
 rw[hed] at ho ht HO
 rw[hi] at hh ho HO
 clear hw hed hi hr
 have ht2:(0:Int)≤(Xp x edge:Nat)∧((Xp x edge:Nat):Int)≤1:=by omega
 go_enter Tryz.func186,Tryz.ntmps186
 go_wp2_with fail
 go_quiet ((go_at_call 185; refine Zdp (ZcG x edge _ _ ?_); exact h4))
 go_wp2
 go_ret
 exact⟨UY HO.out,_,rfl⟩
theorem Zim (e b t c:Nat) (w:World) (h:Za4 e b t=false) (hb:b<65536) (ht:t<65536) (he:e<256) :
  Calls Tryz.prog 173 #[.int .u8 e,.int .u16 b,.int .u16 t,.int .u32 c] w fun e' w'=>e' = .returned (.tuple #[.agg #[.int .i64 0,.int .i64 0],.bool false])∧Below w.heap.size w w':=by
 have hcase:(21:Int)<e∨((e:Int)≤21∧(4095:Int)<b)∨((e:Int)≤21∧(b:Int)≤4095∧(4095:Int)<t):=by
  by_cases h1:e≤21
  ·by_cases h2:b<4096
   ·by_cases h3:t<4096
    ·rw[UZ h1 h2 h3] at h; cases h
    ·omega
   ·omega
  ·omega
 have H:=ZL h; clear h
 rcases hcase with h1|⟨h1,h2⟩|⟨h1,h2,h3⟩
 ·go_enter Tryz.func173,Tryz.ntmps173
  go_wp2
  refine bodyPost_ret (v:=.tuple #[.agg #[.int .i64 0,.int .i64 0],.bool false]) (by simp[results,Tryz.results173,go_sem]<;>rfl) rfl ⟨rfl,?_⟩
  (repeat (first|exact Below.refl _ _|refine Below.drew ?_|refine Zy ?_ _|refine Below.alloc ?_ (by simp<;>omega) _|refine Below.setCell ?_ (by simp<;>omega) _))
 ·have d1:decide ((21:Int)<e)=false:=by simp; omega
  go_enter Tryz.func173,Tryz.ntmps173
  go_wp2
  refine bodyPost_ret (v:=.tuple #[.agg #[.int .i64 0,.int .i64 0],.bool false]) (by simp[results,Tryz.results173,go_sem]<;>rfl) rfl ⟨rfl,?_⟩
  (repeat (first|exact Below.refl _ _|refine Below.drew ?_|refine Zy ?_ _|refine Below.alloc ?_ (by simp<;>omega) _|refine Below.setCell ?_ (by simp<;>omega) _))
 ·have d1:decide ((21:Int)<e)=false:=by simp; omega
  have d2:decide ((4095:Int)<b)=false:=by simp; omega
  go_enter Tryz.func173,Tryz.ntmps173
  go_wp2
  refine bodyPost_ret (v:=.tuple #[.agg #[.int .i64 0,.int .i64 0],.bool false]) (by simp[results,Tryz.results173,go_sem]<;>rfl) rfl ⟨rfl,?_⟩
  (repeat (first|exact Below.refl _ _|refine Below.drew ?_|refine Zy ?_ _|refine Below.alloc ?_ (by simp<;>omega) _|refine Below.setCell ?_ (by simp<;>omega) _))
set_option maxHeartbeats 1000000 in
theorem Zgs (e b t c:Nat) (w:World) (he:e≤21) (hb:b<4096) (ht0:t<4096) (hc:c<4294967296) :
  Calls Tryz.prog 173 #[.int .u8 e,.int .u16 b,.int .u16 t,.int .u32 c] w fun e' w'=>e' = .returned (.tuple #[.agg #[.int .i64 (Yv e b t c),.int .i64 (YB e b t c)],.bool (Q4 e b t c)])∧Below w.heap.size w w':=by
 obtain⟨B,hB⟩:∃ B,ofN e b c b=B:=⟨_,rfl⟩
 obtain⟨T,hT⟩:∃ T,ofN e b c t=T:=⟨_,rfl⟩
 have hmay:=UZ he hb ht0
 have hok:Q4 e b t c=(decide (0≤B)&&decide (B≤T)&&decide (T≤4294967296)):=by
  unfold Q4 Yv YB
  rw[hmay,if_pos rfl,if_pos rfl,hB,hT]; rfl
 have hB2:Yv e b t c=B:=by unfold Yv; rw[if_pos hmay,hB]
 have hT2:YB e b t c=T:=by unfold YB; rw[if_pos hmay,hT]
 rw[hok,hB2,hT2]
 clear hmay hok hB2 hT2
 have HB:=ZL hB; clear hB
 have HT:=ZL hT; clear hT
 have d1:decide ((21:Int)<e)=false:=by simp; omega
 have d2:decide ((4095:Int)<b)=false:=by simp; omega
 have d3:decide ((4095:Int)<t)=false:=by simp; omega
 obtain⟨q,hq⟩:∃ q,c/2^e=q:=⟨_,rfl⟩
 have hql:q<4294967296:=by rw[← hq]; exact Nat.lt_of_le_of_lt (Nat.div_le_self _ _) hc
 have hqi:(c:Int)/2^e=(q:Int):=by rw[← hq]; simp
 have hmb:=Zgq q hql
 obtain⟨m,hm⟩:∃ m,q%4096=m:=⟨_,rfl⟩
 have hml:m<4096:=by omega
 have heb:=ZeA b hb
 obtain⟨edge,hed⟩:∃ k,WQ b=k:=⟨_,rfl⟩
 have hel:edge<4096:=by rw[← hed]; unfold WQ; omega
 have ht:=WE m edge
 have HH:Hid (KS e b c=(q:Int)/4096-(Xp m edge:Nat)):=by
  show _=_
  unfold KS; rw[hq,hm,hed]; omega
 rw[hm] at hmb
 rw[hed] at heb
 have HQ:=ZL hq; clear hq
 have HM:=ZL hm; clear hm
 have HE:=ZL hed; clear hed
 have ht2:(0:Int)≤(Xp m edge:Nat)∧((Xp m edge:Nat):Int)≤1:=by omega
 go_enter Tryz.func173,Tryz.ntmps173
 go_wp2_with fail
 refine(ZcG m edge _ _ (by simp[go_sem])).mono ?_
 rintro e' w' ⟨rfl,rfl⟩
 go_wp2_with fail
 refine(Zhz b b e c _ B edge HB.out HH.out HE.out _ _ _ ⟨w.heap.size+1+1,0,none⟩ _ (by omega) he hc ?_ ?_ ?_ ?_).mono ?_
 ·simp[go_sem]
 ·simp[go_sem]
 ·simp[go_sem]
 ·simp[go_sem]
 rintro e' w' ⟨rfl,m1,rfl⟩
 go_wp2_with fail
 refine(Zhz t b e c _ T edge HT.out HH.out HE.out _ _ _ ⟨w.heap.size+1+1,0,none⟩ _ (by omega) he hc ?_ ?_ ?_ ?_).mono ?_
 ·simp[go_sem]
 ·simp[go_sem]
 ·simp[go_sem]
 ·simp[go_sem]
 rintro e' w' ⟨rfl,m2,rfl⟩
 go_wp2_with fail
 by_cases c1:0≤B
 ·by_cases c2:B≤T
  ·go_region
   go_wp2
   refine bodyPost_ret (v:=.tuple #[.agg #[.int .i64 B,.int .i64 T],.bool (decide (T≤4294967296))]) (by simp[results,Tryz.results173,go_sem]<;>rfl) rfl ⟨?_,?_⟩
   ·simp[c1,c2]
   ·(repeat (first|exact Below.refl _ _|refine Below.drew ?_|refine Zy ?_ _|refine Below.alloc ?_ (by simp<;>omega) _|refine Below.setCell ?_ (by simp<;>omega) _))
  ·have d4:decide (B≤T)=false:=by simpa using c2
   go_region
   go_wp2
   refine bodyPost_ret (v:=.tuple #[.agg #[.int .i64 B,.int .i64 T],.bool false]) (by simp[results,Tryz.results173,go_sem]<;>rfl) rfl ⟨?_,?_⟩
   ·simp
   ·(repeat (first|exact Below.refl _ _|refine Below.drew ?_|refine Zy ?_ _|refine Below.alloc ?_ (by simp<;>omega) _|refine Below.setCell ?_ (by simp<;>omega) _))
 ·have d4:decide (0≤B)=false:=by simpa using c1
  go_region
  go_wp2
  refine bodyPost_ret (v:=.tuple #[.agg #[.int .i64 B,.int .i64 T],.bool false]) (by simp[results,Tryz.results173,go_sem]<;>rfl) rfl ⟨?_,?_⟩
  ·simp
  ·(repeat (first|exact Below.refl _ _|refine Below.drew ?_|refine Zy ?_ _|refine Below.alloc ?_ (by simp<;>omega) _|refine Below.setCell ?_ (by simp<;>omega) _))
theorem U0 (e b t c:Nat) (w:World) (he:e<256) (hb:b<65536) (ht:t<65536) (hc:c<4294967296) :
  Calls Tryz.prog 173 #[.int .u8 e,.int .u16 b,.int .u16 t,.int .u32 c] w fun e' w'=>e' = .returned (.tuple #[.agg #[.int .i64 (Yv e b t c),.int .i64 (YB e b t c)],.bool (Q4 e b t c)])∧Below w.heap.size w w':=by
 by_cases h:Za4 e b t=true
 ·obtain⟨h1,h2,h3⟩:=Za5 h
  exact Zgs e b t c w h1 h2 h3 hc
 ·have h':Za4 e b t=false:=by simpa using h
  have e1:Yv e b t c=0:=by unfold Yv; rw[if_neg h]
  have e2:YB e b t c=0:=by unfold YB; rw[if_neg h]
  have e3:Q4 e b t c=false:=by unfold Q4; rw[h']; rfl
  rw[e1,e2,e3]
  exact Zim e b t c w h' hb ht he
theorem Za8 {a b c d:Value} {x y:Bool} (h:x=y):Ending.returned (.tuple #[a,b,c,.bool x,d]) = .returned (.tuple #[a,b,c,.bool y,d]):=by rw[h]
theorem ZcH (u t:Nat):((u:Int)==(t:Int))=decide (u=t):=by
 rw[Bool.eq_iff_iff]; simp; omega
theorem Yw {fn:Func} {t u v x y:Tmp} (h:fn.results = #[.tmp t,.tmp u,.tmp v,.tmp x,.tmp y]) (tmps:Array Value) (P:Program) (w:World) :
  (results fn tmps).run P w = .ok (.tuple #[tmps.getD t undef,tmps.getD u undef,tmps.getD v undef,tmps.getD x undef,tmps.getD y undef]) w:=by simp[results,h]
theorem VG (b t e:Nat) (w:World) (hb:b<4294967296) (ht:t≤4294967296) (he:e≤21) :
  Calls Tryz.prog 128 #[.int .u32 b,.int .u64 t,.int .i64 e] w fun e' w'=>e' = .returned (.tuple #[.int .u64 (dnN b e),.int .u64 (upN t e)])∧w=w':=by
 have hp:=YL he
 have h0:=QF e
 have hlw:=Zgr he
 have a1:=Za7 b e (by omega) he
 have a2:=Za7 (t+(2^e-1)) e (by omega) he
 obtain⟨lo,hlo⟩:∃ lo,2^e-1=lo:=⟨_,rfl⟩
 have hlb:lo≤2097151:=by omega
 unfold dnN upN
 rw[hlo] at hlw a1 a2 ⊢
 have A1:=ZL a1
 have A2:=ZL a2
 clear a1 a2 hlo hp h0
 go_enter Tryz.func128,Tryz.ntmps128
 go_wp2
 go_ret2
 exact⟨ZeB A1.out A2.out,rfl⟩
theorem ZcI (b t:Nat) (w:World) (hb:b<4294967296) (ht:t<18446744073709551616) (h:Z3 b t=false) :
  Calls Tryz.prog 126 #[.int .u32 b,.int .u64 t] w fun e' w'=>e' = .returned (.bool false)∧w=w':=by
 have hcase:(t:Int)<b∨((b:Int)≤t∧(4294967296:Int)<t):=by
  simp only[rr, tt, Z3,Bool.and_eq_false_iff,decide_eq_false_iff_not] at h; omega
 rcases hcase with h1|⟨h1,h2⟩
 ·have d1:decide ((b:Int)≤t)=false:=by simp; omega
  go_enter Tryz.func126,Tryz.ntmps126
  go_wp2
  go_ret
  exact⟨rfl,rfl⟩
 ·have d1:decide ((t:Int)≤4294967296)=false:=by simp; omega
  go_enter Tryz.func126,Tryz.ntmps126
  go_wp2
  go_ret
  exact⟨rfl,rfl⟩
theorem JF (b t:Nat) (w:World) (h1:b≤t) (h2:t≤4294967296) :
  Calls Tryz.prog 126 #[.int .u32 b,.int .u64 t] w fun e' w'=>e' = .returned (.bool true)∧w=w':=by
 have d1:(b:Int)≤t:=by omega
 have d2:(t:Int)≤4294967296:=by omega
 have d3:decide ((t:Int)≤4294967296)=true:=by simpa using d2
 go_enter Tryz.func126,Tryz.ntmps126
 go_wp2
 go_ret
 exact⟨by first|rfl|simp[d2],rfl⟩
theorem KG (b t:Nat) (w:World) (hb:b<4294967296) (hbt:b≤t) (ht:t≤4294967296) :
  Calls Tryz.prog 127 #[.int .u32 b,.int .u64 t] w fun e' w'=>e' = .returned (.int .i64 (ZM b t))∧w=w':=by
 go_enter Tryz.func127,Tryz.ntmps127
 go_wp2
 go_loop [8] (fun i=>∃ k:Nat,k≤21∧i = .int .i64 k∧Hid (ZM b t=QG b t (21-k) k)) (fun i=>(21-intOf i).toNat)
 case atStart=>exact⟨0,by omega,rfl,rfl⟩
 case round =>
  obtain⟨k,hk,rfl,HE⟩:=hrel
  by_cases h0:k<21
  ·have hd1:=Za6 b k
   have hd2:=ZbN t k
   have hd3:=Zez t k
   have hp:=YL hk
   have hle:dnN b k≤upN t k:=by omega
   have hul:upN t k≤4294967296+2097152:=by omega
   have hpw:u64.wrap ((2048:Int)*2^k)=((2048*2^k:Nat):Int):=by
    rw[IntKind.wrap_u64,show((2:Int)^k)=((2^k:Nat):Int) by simp]; omega
   obtain⟨p,hpp⟩:∃ p,2048*2^k=p:=⟨_,rfl⟩
   obtain⟨d,hd⟩:∃ d,dnN b k=d:=⟨_,rfl⟩
   obtain⟨u,hu⟩:∃ u,upN t k=u:=⟨_,rfl⟩
   have hra:=fun W=>VG b t k W hb ht hk
   have HF:Hid (Xm b t k=decide (u-d≤p)):=by show _=_; unfold Xm; rw[hpp,hd,hu]
   rw[hd,hu] at hra hle
   rw[hu] at hul
   rw[hpp] at hpw
   have HRA:=ZL hra
   clear hra hpp hd hu hd1 hd2 hd3 hp
   by_cases hf:(u:Int)-d≤p
   ·go_wp2_with (go_at_call 128; refine(HRA.out _).mono ?_; rintro e' w' ⟨rfl,rfl⟩)
    go_ret
    refine⟨UY ?_,rfl⟩
    have hft:Xm b t k=true:=by rw[HF.out]; simp; omega
    rw[HE.out,show 21-k=(20-k)+1 by omega,QG,if_pos hft]
   ·go_wp2_with (go_at_call 128; refine(HRA.out _).mono ?_; rintro e' w' ⟨rfl,rfl⟩)
    have hft:Xm b t k=false:=by rw[HF.out]; simp; omega
    have HT:Hid (ZM b t=QG b t (21-(k+1)) (k+1)):=by
     show _=_
     rw[HE.out,show 21-k=(21-(k+1))+1 by omega,QG,hft]; rfl
    go_round
    case rel=>exact⟨k+1,by omega,by go_num,HT⟩
    case measure=>simp[intOf]; omega
  ·go_wp2
   go_ret
   obtain rfl:k=21:=by omega
   exact⟨UY (by rw[HE.out]; rfl),rfl⟩
def Kv (b t:Nat):Nat:=if Z3 b t then ZM b t else 0
def KH (b t:Nat):Nat:=if Z3 b t then b/2^ZM b t%4096 else 0
def KI (b t:Nat):Nat:=if Z3 b t then upN t (ZM b t)/2^ZM b t%4096 else 0
def Za9 (b t:Nat):Bool:=Z3 b t&&decide (dnN b (ZM b t)=b)&&decide (upN t (ZM b t)=t)
theorem XJ {b t:Nat} (h:Z3 b t=true):b≤t∧t≤4294967296:=by
 simpa [Z3] using h
theorem Kw (b t:Nat) (w:World) (hb:b<4294967296) (ht:t<18446744073709551616) :
  Calls Tryz.prog 69 #[.int .u32 b,.int .u64 t] w fun e' w'=>e' = .returned (.tuple #[.int .u8 (Kv b t),.int .u16 (KH b t),.int .u16 (KI b t),.bool (Za9 b t),.bool (Z3 b t)])∧∃ m,w'=w.drewN m:=by
 by_cases hr:Z3 b t=true
 ·obtain⟨h1,h2⟩:=XJ hr
  unfold Kv KH KI Za9
  rw[hr,if_pos rfl,if_pos rfl,if_pos rfl]
  have hex:=fun W=>KG b t W hb h1 h2
  have hk:=VF b t
  have hra:=fun W=>VG b t (ZM b t) W hb h2 hk
  obtain⟨k,hkk⟩:∃ k,ZM b t=k:=⟨_,rfl⟩
  rw[hkk] at hk hex hra ⊢
  have hd1:=Za6 b k
  have hd3:=Zez t k
  have hp:=YL hk
  obtain⟨x,hx⟩:∃ x,b/2^k=x:=⟨_,rfl⟩
  have hdx:=Zhy b k
  rw[hx] at hdx ⊢
  obtain⟨d,hd⟩:∃ d,dnN b k=d:=⟨_,rfl⟩
  obtain⟨u,hu⟩:∃ u,upN t k=u:=⟨_,rfl⟩
  rw[hd] at hdx hd1 hra ⊢
  rw[hu] at hd3 hra ⊢
  obtain⟨y,hy⟩:∃ y,u/2^k=y:=⟨_,rfl⟩
  rw[hy]
  have hxl:x<4294967296:=by rw[← hx]; exact Nat.lt_of_le_of_lt (Nat.div_le_self _ _) hb
  have hyl:y≤4297064448:=by rw[← hy]; exact Nat.le_trans (Nat.div_le_self _ _) (by omega)
  have i1:(d:Int)/2^k=(x:Int):=by rw[← hdx]; simp
  have i2:(u:Int)/2^k=(y:Int):=by rw[← hy]; simp
  have i3:=Ui x (by omega)
  have i4:=Ui y (by omega)
  obtain⟨xm,hxm⟩:∃ m,x%4096=m:=⟨_,rfl⟩
  obtain⟨ym,hym⟩:∃ m,y%4096=m:=⟨_,rfl⟩
  have hxml:xm<4096:=by omega
  have hyml:ym<4096:=by omega
  rw[hxm] at i3 ⊢
  rw[hym] at i4 ⊢
  have HX:=ZL hex
  have HRA:=ZL hra
  clear hkk hx hdx hd hu hy hxl hyl hxm hym hp hd1 hd3 hex hra hr
  by_cases c1:d=b
  ·have d1:((d:Int)==b)=true:=by rw[c1]; simp
   have C1:=ZL c1
   clear c1
   go_enter Tryz.func69,Tryz.ntmps69
   go_wp2_with (first
    | (go_at_call 126; refine(JF b t _ h1 h2).mono ?_; rintro e' w' ⟨rfl,rfl⟩)
    | (go_at_call 127; refine(HX.out _).mono ?_; rintro e' w' ⟨rfl,rfl⟩)
    | (go_at_call 128; refine(HRA.out _).mono ?_; rintro e' w' ⟨rfl,rfl⟩))
   go_quiet (fail)
   go_wp2
   refine bodyPost_ret (Yw rfl _ _ _) rfl ⟨?_,_,rfl⟩
   have c:=C1.out
   simp only[rr, tt, c,decide_true,Bool.true_and]
   exact Za8 (ZcH u t)
  ·have d1:((d:Int)==b)=false:=by simp; omega
   have C1:=ZL c1
   clear c1
   go_enter Tryz.func69,Tryz.ntmps69
   go_wp2_with (first
    | (go_at_call 126; refine(JF b t _ h1 h2).mono ?_; rintro e' w' ⟨rfl,rfl⟩)
    | (go_at_call 127; refine(HX.out _).mono ?_; rintro e' w' ⟨rfl,rfl⟩)
    | (go_at_call 128; refine(HRA.out _).mono ?_; rintro e' w' ⟨rfl,rfl⟩))
   go_quiet (fail)
   go_wp2
   refine bodyPost_ret (Yw rfl _ _ _) rfl ⟨?_,_,rfl⟩
   have c:=C1.out
   simp only[rr, tt, c,decide_false,Bool.and_false,Bool.false_and]
   rfl
 ·have hr':Z3 b t=false:=by simpa using hr
  unfold Kv KH KI Za9
  rw[hr',if_neg (by simp),if_neg (by simp),if_neg (by simp)]
  have HR:=ZL hr'
  clear hr hr'
  go_enter Tryz.func69,Tryz.ntmps69
  go_wp2_with (go_at_call 126; refine(ZcI b t _ hb ht HR.out).mono ?_; rintro e' w' ⟨rfl,rfl⟩)
  refine bodyPost_ret (Yw rfl _ _ _) rfl ⟨rfl,0,rfl⟩
theorem ZeC (b t:Nat) (w:World) (hb:b<4294967296) (ht:t<18446744073709551616) :
  Calls Tryz.prog 176 #[.int .u32 b,.int .u64 t] w fun e' w'=>e' = .returned (.tuple #[.int .u32 (if Z3 b t then dnN b (ZM b t) else 0:Nat),.int .u64 (if Z3 b t then upN t (ZM b t) else 0:Nat),.bool (Z3 b t)])∧w=w':=by
 by_cases hr:Z3 b t=true
 ·obtain⟨h1,h2⟩:=XJ hr
  rw[hr,if_pos rfl,if_pos rfl]
  have hex:=fun W=>KG b t W hb h1 h2
  have hk:=VF b t
  have hra:=fun W=>VG b t (ZM b t) W hb h2 hk
  obtain⟨k,hkk⟩:∃ k,ZM b t=k:=⟨_,rfl⟩
  rw[hkk] at hk hex hra ⊢
  have hd1:=Za6 b k
  obtain⟨d,hd⟩:∃ d,dnN b k=d:=⟨_,rfl⟩
  obtain⟨u,hu⟩:∃ u,upN t k=u:=⟨_,rfl⟩
  rw[hd] at hd1 hra ⊢
  rw[hu] at hra ⊢
  have HX:=ZL hex
  have HRA:=ZL hra
  clear hkk hd hu hex hra hr
  go_enter Tryz.func176,Tryz.ntmps176
  go_wp2_with (first
    | (go_at_call 126; refine(JF b t _ h1 h2).mono ?_; rintro e' w' ⟨rfl,rfl⟩)
    | (go_at_call 127; refine(HX.out _).mono ?_; rintro e' w' ⟨rfl,rfl⟩)
    | (go_at_call 128; refine(HRA.out _).mono ?_; rintro e' w' ⟨rfl,rfl⟩))
  go_ret3
  exact⟨rfl,rfl⟩
 ·have hr':Z3 b t=false:=by simpa using hr
  rw[hr',if_neg (by simp),if_neg (by simp)]
  have HR:=ZL hr'
  clear hr hr'
  go_enter Tryz.func176,Tryz.ntmps176
  go_wp2_with (go_at_call 126; refine(ZcI b t _ hb ht HR.out).mono ?_; rintro e' w' ⟨rfl,rfl⟩)
  go_ret3
  exact⟨rfl,rfl⟩
theorem KT {P:Program} (d:Nat) (t e:TypeId) (i:TypeInfo) (k k':IntKind) (ht:P.underlying t=some (.array 2 e)) (he:P.underlying e=some (.int k')) (hi:P.info? e=some i) (hsz:i.size=1) (a b c f:Int) (w:World) :
  (Op.equalIn (d+2) t (.agg #[.int k a,.int k b]) (.agg #[.int k c,.int k f])).run P w = .ok (a==c&&b==f) w:=by
 have hp1:∀ (x y:Value) W,(part e #[x,y] 0).run P W = .ok x W:=fun x y W=>by simp[part,isAgg,run_underlying he]
 have hp2:∀ (x y:Value) W,(part e #[x,y] 1).run P W = .ok y W:=fun x y W=>by simp[part,isAgg,run_underlying he]
 have he2:∀ (x y:Int) W,(Op.equalIn (d+1) e (.int k x) (.int k y)).run P W = .ok (x==y) W:=fun x y W=>run_equalIn_int W d e k k' x y he
 unfold Op.equalIn
 simp only[rr, tt, Sem.run_bind,run_underlying ht,Result.andThen_ok,sizeOf,typeInfo,Std.Legacy.Range.forIn_eq_forIn_range',Std.Legacy.Range.size]
 simp[hi,hsz,List.range',hp1,hp2,he2]
 by_cases h1:a=c<;>by_cases h2:b=f<;>simp[h1,h2]
theorem Zgt:(Tryz.prog.info? 2).map (fun i=>(i.zero,i.size,i.bytes))=some (some (.int .i64 0),1,8):=by kernel_rfl
def Yl (e b t c:Nat):Nat×Nat:=if Q4 e b t c=true∧Yv e b t c≠4294967296 then((Yv e b t c).toNat,(YB e b t c).toNat) else(0,0)
def W5 (e b t c n:Nat):Bool:=Q4 e b t c&&decide (Yv e b t c=Yv e b t n)&&decide (YB e b t c=YB e b t n)
theorem VH {e b t c:Nat} (h:Q4 e b t c=true):0≤Yv e b t c∧Yv e b t c≤YB e b t c∧YB e b t c≤4294967296:=by
 simp only[rr, tt, Q4,Bool.and_eq_true,decide_eq_true_eq] at h
 exact⟨h.1.1.2,h.1.2,h.2⟩
theorem Zdr (e b t c:Nat) (w:World) (he:e<256) (hb:b<65536) (ht:t<65536) (hc:c<4294967296) :
  Calls Tryz.prog 152 #[.int .u8 e,.int .u16 b,.int .u16 t,.int .u32 c] w fun e' w'=>e' = .returned (.tuple #[.int .u32 (Yl e b t c).1,.int .u64 (Yl e b t c).2])∧Below w.heap.size w w':=by
 have hta:=fun W=>U0 e b t c W he hb ht hc
 by_cases h1:Q4 e b t c=true
 ·obtain⟨k0,k1,k2⟩:=VH h1
  obtain⟨B,hB⟩:∃ B:Nat,Yv e b t c=B:=⟨(Yv e b t c).toNat,by omega⟩
  obtain⟨T,hT⟩:∃ T:Nat,YB e b t c=T:=⟨(YB e b t c).toNat,by omega⟩
  simp only[rr, tt, h1,hB,hT] at hta
  rw[hB,hT] at k1
  rw[hT] at k2
  by_cases h2:(B:Int)=4294967296
  ·have hd:Yl e b t c=(0,0):=by unfold Yl; rw[if_neg (by rw[hB]; exact fun h=>h.2 h2)]
   rw[hd]
   have h3:((B:Int)==4294967296)=true:=by simpa using h2
   have HTA:=ZL hta
   clear hta h2 k0 k1 k2 h1 hB hT hd
   go_enter Tryz.func152,Tryz.ntmps152
   go_wp2_with (go_at_call 173; refine(HTA.out _).mono ?_; rintro e' w1 ⟨rfl,hb1⟩; have HB1:=ZL hb1; clear hb1)
   go_ret2
   exact⟨rfl,HB1.out.alloc HB1.out.size _⟩
  ·have hd:Yl e b t c=(B,T):=by unfold Yl; rw[if_pos ⟨h1,by rw[hB]; exact h2⟩,hB,hT]; rfl
   rw[hd]
   have h3:((B:Int)==4294967296)=false:=by simpa using h2
   have HTA:=ZL hta
   have k3:(B:Int)<4294967296:=by omega
   clear hta h2 h1 hB hT hd
   go_enter Tryz.func152,Tryz.ntmps152
   go_wp2_with (go_at_call 173; refine(HTA.out _).mono ?_; rintro e' w1 ⟨rfl,hb1⟩; have HB1:=ZL hb1; clear hb1)
   go_quiet (fail)
   go_wp2
   go_ret2
   exact⟨rfl,Zy (HB1.out.alloc HB1.out.size _) _⟩
 ·have h1':Q4 e b t c=false:=by simpa using h1
  have hd:Yl e b t c=(0,0):=by unfold Yl; rw[if_neg (fun h=>h1 h.1)]
  rw[hd]
  simp only[rr, tt, h1'] at hta
  have HTA:=ZL hta
  clear hta h1 h1' hd
  go_enter Tryz.func152,Tryz.ntmps152
  go_wp2_with (go_at_call 173; refine(HTA.out _).mono ?_; rintro e' w1 ⟨rfl,hb1⟩; have HB1:=ZL hb1; clear hb1)
  go_ret2
  exact⟨rfl,HB1.out.alloc HB1.out.size _⟩
theorem ZeD (e b t c n:Nat) (w:World) (he:e<256) (hb:b<65536) (ht:t<65536) (hc:c<4294967296) (hn:n<4294967296) :
  Calls Tryz.prog 135 #[.int .u8 e,.int .u16 b,.int .u16 t,.int .u32 c,.int .u32 n] w fun e' w'=>e' = .returned (.bool (W5 e b t c n))∧Below w.heap.size w w':=by
 have hta:=fun W=>U0 e b t c W he hb ht hc
 have htb:=fun W=>U0 e b t n W he hb ht hn
 unfold W5
 obtain⟨B,hB⟩:∃ B,Yv e b t c=B:=⟨_,rfl⟩
 obtain⟨T,hT⟩:∃ T,YB e b t c=T:=⟨_,rfl⟩
 obtain⟨B',hB'⟩:∃ B,Yv e b t n=B:=⟨_,rfl⟩
 obtain⟨T',hT'⟩:∃ T,YB e b t n=T:=⟨_,rfl⟩
 obtain⟨k,hk⟩:∃ k,Q4 e b t c=k:=⟨_,rfl⟩
 obtain⟨k',hk'⟩:∃ k,Q4 e b t n=k:=⟨_,rfl⟩
 rw[hB,hT,hk] at hta
 rw[hB',hT',hk'] at htb
 rw[hB,hT,hB',hT',hk]
 have HTA:=ZL hta
 have HTB:=ZL htb
 obtain⟨i0,hi,hz0,hz1,hz2⟩:=info_parts Zgt
 have heq:=fun(x y:Int) W=>KT (P:=Tryz.prog) 9998 189 2 i0 .i64 .i64 Tryz.underlying189 Tryz.underlying2 hi hz1 B T x y W
 clear hz0 hz1 hz2 hi
 clear hta htb hB hT hB' hT' hk hk'
 rcases k with _|_
 ·go_enter Tryz.func135,Tryz.ntmps135
  go_wp2_with fail
  refine(HTA.out _).mono ?_
  rintro e' w1 ⟨rfl,hb1⟩
  have HB1:=ZL hb1; clear hb1
  go_wp2_with fail
  refine(HTB.out _).mono ?_
  rintro e' w2 ⟨rfl,hb2⟩
  have HB2:=ZL hb2; clear hb2
  go_wp2
  go_ret
  exact⟨rfl,(((HB1.out.alloc HB1.out.size _).trans (HB2.out.mono (by have:=HB1.out.size; simp; omega))).alloc (by have:=HB1.out.size; have:=HB2.out.size; simp at this; omega) _)⟩
 ·go_enter Tryz.func135,Tryz.ntmps135
  go_wp2_with fail
  refine(HTA.out _).mono ?_
  rintro e' w1 ⟨rfl,hb1⟩
  have HB1:=ZL hb1; clear hb1
  go_wp2_with fail
  refine(HTB.out _).mono ?_
  rintro e' w2 ⟨rfl,hb2⟩
  have f0:w2.cell? ⟨w1.heap.size,0,none⟩=some (.int .i64 B):=(hb2.cell (p:=⟨w1.heap.size,0,none⟩) (by simp)).trans (cell_of_row _ _ 0 _ _ _ (heap_alloc_new w1 _))
  have f1:w2.cell? ⟨w1.heap.size,1,none⟩=some (.int .i64 T):=(hb2.cell (p:=⟨w1.heap.size,1,none⟩) (by simp)).trans (cell_of_row _ _ 1 _ _ _ (heap_alloc_new w1 _))
  have hs:w1.heap.size<w2.heap.size:=by have:=hb2.size; simp at this; omega
  have HB2:=ZL hb2; clear hb2
  go_wp2
  go_ret
  refine⟨QU ?_,(((HB1.out.alloc HB1.out.size _).trans (HB2.out.mono (by have:=HB1.out.size; simp; omega))).alloc (by have:=HB1.out.size; have:=HB2.out.size; simp at this; omega) _)⟩
  simp[Bool.beq_eq_decide_eq]
theorem Blk.new2 (w:World) (o:Obj) (t:TypeId) (cs:Array Value):Blk ((w.alloc o).alloc (.cells cs t)) (w.heap.size+1) t cs:=by
 have:=Blk.new (w.alloc o) t cs
 rwa [show(w.alloc o).heap.size=w.heap.size+1 by simp] at this
theorem Blk.new1 (w:World) (o:Obj) (t:TypeId) (cs:Array Value):Blk ((w.alloc (.cells cs t)).alloc o) w.heap.size t cs:=(Blk.new w t cs).alloc o
def WO (b t a s:Nat):Bool:=decide (b≤a)&&decide (a+s≤t)
def ZhA (p q:Nat):Bool:=decide (p&&&q=p)
def inN (b t l h:Nat):Bool:=decide (t≤b)||(decide (l≤b)&&decide (t≤h))
theorem Zds {p q:Nat} (hp:p<65536) (hq:q<65536):(p&&&(65535-q)=0)↔p&&&q=p:=by
 have h1:65535-q=q ^^^ 65535:=by
  refine Nat.eq_of_testBit_eq fun i => ?_
  rw[Nat.testBit_xor,show 65535-q=2^16-(q+1) by omega,Nat.testBit_two_pow_sub_succ (by omega),show 65535=2^16-1 by rfl,Nat.testBit_two_pow_sub_one]
  by_cases hi:i<16
  ·simp[hi]
  ·have:q.testBit i=false:=Nat.testBit_lt_two_pow (Nat.lt_of_lt_of_le hq (Nat.pow_le_pow_right (n:=2) (i:=16) (by omega) (by omega)))
   simp[hi,this]
 have hb:∀ i,16≤i→p.testBit i=false:=fun i hi=>Nat.testBit_lt_two_pow (Nat.lt_of_lt_of_le hp (Nat.pow_le_pow_right (n:=2) (i:=16) (by omega) hi))
 constructor
 ·intro h
  refine Nat.eq_of_testBit_eq fun i => ?_
  have hi:=congrArg (fun n=>n.testBit i) h
  simp only[rr, tt, h1,Nat.testBit_and,Nat.testBit_xor,show 65535=2^16-1 by rfl,Nat.testBit_two_pow_sub_one,Nat.zero_testBit] at hi
  rw[Nat.testBit_and]
  by_cases h16:i<16
  ·simp only[rr, tt, h16,decide_true] at hi
   cases hpb:p.testBit i<;>cases hqb:q.testBit i<;>simp_all
  ·rw[hb i (by omega)]; rfl
 ·intro h
  refine Nat.eq_of_testBit_eq fun i => ?_
  have hi:=congrArg (fun n=>n.testBit i) h
  simp only[rr, tt, Nat.testBit_and] at hi
  simp only[rr, tt, h1,Nat.testBit_and,Nat.testBit_xor,show 65535=2^16-1 by rfl,Nat.testBit_two_pow_sub_one,Nat.zero_testBit]
  by_cases h16:i<16
  ·cases hpb:p.testBit i<;>cases hqb:q.testBit i<;>simp_all
  ·rw[hb i (by omega)]; rfl
theorem Zin {p q:Nat} (hp:p<65536) (hq:q<65536):(bits .andNot .u16 (p:Int) (q:Int)==0)=ZhA p q:=by
 rw[u16_andNot_nat p q hp hq,Bool.eq_iff_iff]
 unfold ZhA
 rw[decide_eq_true_eq,← Zds hp hq]
 simp<;>omega
def U1 (aC aE aB aT aP aY aR:Nat) (aV:Bool) (bC bE bB bT bP bY bR:Nat) (bV:Bool):Bool:=decide (aC=bC)&&(decide (aE=bE)&&(decide (aB=bB)&&(decide (aT=bT)&&(decide (aP=bP)&&(decide (aY=bY)&&(decide (aR=bR)&&(aV==bV)))))))
def WF (aC aE aB aT aP aY aR:Nat):Prop:=aC<4294967296∧aE<256∧aB<65536∧aT<65536∧aP<65536∧aY<65536∧aR<4294967296
theorem Zba (e b t c:Nat):(Yl e b t c).1<4294967296∧(Yl e b t c).2≤4294967296∧(Yl e b t c).1≤(Yl e b t c).2:=by
 unfold Yl
 split
 ·rename_i h
  have h1:=VH h.1
  have h2:=h.2
  simp only
  omega
 ·simp
theorem capU:Tryz.prog.underlying 30=some (.struct (Tryz.prog.fieldsOf 30)):=by kernel_rfl
theorem ZfZ:Tryz.prog.stoodInHeld 30=false:=by kernel_rfl
attribute [local go_sem ↓] Go.wp_at_zero Go.wp_at_succ
theorem ZeE (aC aE aB aT aP aY aR:Nat) (aV:Bool) (bC bE bB bT bP bY bR:Nat) (bV:Bool) (W:World):(binOp .eql 30 (.agg #[.int .u32 aC,.int .u8 aE,.int .u16 aB,.int .u16 aT,.int .u16 aP,.int .u16 aY,.int .u32 aR,.bool aV]) (.agg #[.int .u32 bC,.int .u8 bE,.int .u16 bB,.int .u16 bT,.int .u16 bP,.int .u16 bY,.int .u32 bR,.bool bV])).run Tryz.prog W = .ok (.bool (U1 aC aE aB aT aP aY aR aV bC bE bB bT bP bY bR bV)) W:=by
 rw[run_eql_struct,run_equalIn_agg W 9999 _ _ _ capU ZfZ]
 simp[go_sem,Program.fieldsOf,Tryz.underlying30,Op.eqFields,Int.natCast_inj]
 repeat' split
 all_goals simp_all [U1]
theorem Zbb (cC cE cB cT cP cY cR:Nat) (cV:Bool) (w:World) (cl:WF cC cE cB cT cP cY cR) :
  Calls Tryz.prog 76 #[.agg #[.int .u32 cC,.int .u8 cE,.int .u16 cB,.int .u16 cT,.int .u16 cP,.int .u16 cY,.int .u32 cR,.bool cV]] w fun e' w'=>e' = .returned (.tuple #[.int .u32 (Yl cE cB cT cC).1,.int .u64 (Yl cE cB cT cC).2])∧Below w.heap.size w w':=by
 have HD:Hid (∀ W,Calls Tryz.prog 152 #[.int .u8 cE,.int .u16 cB,.int .u16 cT,.int .u32 cC] W fun e' w'=>e' = .returned (.tuple #[.int .u32 (Yl cE cB cT cC).1,.int .u64 (Yl cE cB cT cC).2])∧Below W.heap.size W w'):=fun W=>Zdr cE cB cT cC W cl.2.1 cl.2.2.1 cl.2.2.2.1 cl.1
 obtain⟨x,hx⟩:∃ x,(Yl cE cB cT cC).1=x:=⟨_,rfl⟩
 obtain⟨y,hy⟩:∃ y,(Yl cE cB cT cC).2=y:=⟨_,rfl⟩
 rw[hx,hy] at HD ⊢
 clear hx hy
 go_enter Tryz.func76,Tryz.ntmps76
 go_wp2_with fail
 refine(HD.out _).mono ?_
 rintro e' w1 ⟨rfl,hb1⟩
 have HB1:=ZL hb1; clear hb1
 go_wp2
 go_ret2
 exact⟨rfl,((Below.refl _ _).alloc (Nat.le_refl _) _).trans (HB1.out.mono (by simp))⟩
theorem Kx (a s:Nat) (w:World) (ha:a<4294967296) (hs:s<4294967296) :
  Calls Tryz.prog 68 #[.agg #[.int .u32 a,.int .u32 s]] w fun e' w'=>e' = .returned (.int .u64 ((a:Int)+s))∧Below w.heap.size w w':=by
 go_enter Tryz.func68,Tryz.ntmps68
 go_wp2
 go_ret
 exact⟨rfl,by(repeat (first|exact Below.refl _ _|refine Below.drew ?_|refine Zy ?_ _|refine Below.alloc ?_ (by simp<;>omega) _|refine Below.setCell ?_ (by simp<;>omega) _))⟩
theorem Kb (cC cE cB cT cP cY cR:Nat) (cV:Bool) (x y:Nat) (w:World) (cl:WF cC cE cB cT cP cY cR) (hx:(Yl cE cB cT cC).1=x) (hy:(Yl cE cB cT cC).2=y) :
  Calls Tryz.prog 76 #[.agg #[.int .u32 cC,.int .u8 cE,.int .u16 cB,.int .u16 cT,.int .u16 cP,.int .u16 cY,.int .u32 cR,.bool cV]] w fun e' w'=>e' = .returned (.tuple #[.int .u32 x,.int .u64 y])∧Below w.heap.size w w':=by
 rw[← hx,← hy]; exact Zbb cC cE cB cT cP cY cR cV w cl
theorem ZeF (cC cE cB cT cP cY cR:Nat) (cV:Bool) (a s x y:Nat) (w:World) (cl:WF cC cE cB cT cP cY cR) (ha:a<4294967296) (hs:s<4294967296) (hx:(Yl cE cB cT cC).1=x) (hy:(Yl cE cB cT cC).2=y) :
  Calls Tryz.prog 100 #[.agg #[.int .u32 cC,.int .u8 cE,.int .u16 cB,.int .u16 cT,.int .u16 cP,.int .u16 cY,.int .u32 cR,.bool cV],.agg #[.int .u32 a,.int .u32 s]] w fun e' w'=>e' = .returned (.bool (WO x y a s))∧Below w.heap.size w w':=by
 have HR:Hid (∀ W,Calls Tryz.prog 76 #[.agg #[.int .u32 cC,.int .u8 cE,.int .u16 cB,.int .u16 cT,.int .u16 cP,.int .u16 cY,.int .u32 cR,.bool cV]] W fun e' w'=>e' = .returned (.tuple #[.int .u32 x,.int .u64 y])∧Below W.heap.size W w'):=fun W=>Kb cC cE cB cT cP cY cR cV x y W cl hx hy
 have hh:WO x y a s=(decide ((x:Int)≤a)&&decide ((a:Int)+s≤y)):=by
  unfold WO
  rw[show decide (x≤a)=decide ((x:Int)≤a) by rw[decide_eq_decide]; omega,show decide (a+s≤y)=decide ((a:Int)+s≤y) by rw[decide_eq_decide]; omega]
 rw[hh]
 clear hh hx hy
 by_cases h1:(x:Int)≤a
 ·rw[decide_eq_true h1,Bool.true_and]
  go_enter Tryz.func100,Tryz.ntmps100
  go_wp2_with fail
  refine(HR.out _).mono ?_
  rintro e' w1 ⟨rfl,hb1⟩
  obtain⟨hc1,hf1⟩:=Y4 hb1
  have hz1:=hb1.size
  simp at hz1
  have HB1:=ZL hb1; clear hb1
  go_wp2_with fail
  refine(Kx a s _ ha hs).mono ?_
  rintro e' w2 ⟨rfl,hb2⟩
  have HB2:=ZL hb2; clear hb2
  go_wp2
  go_ret
  exact⟨rfl,((((Below.refl _ _).alloc (Nat.le_refl _) _).alloc (by simp) _).trans (HB1.out.mono (by simp; omega))).trans (HB2.out.mono (by omega))⟩
 ·have d1:decide ((x:Int)≤a)=false:=by simpa using h1
  rw[d1,Bool.false_and]
  go_enter Tryz.func100,Tryz.ntmps100
  go_wp2_with fail
  refine(HR.out _).mono ?_
  rintro e' w1 ⟨rfl,hb1⟩
  obtain⟨hc1,hf1⟩:=Y4 hb1
  have hz1:=hb1.size
  simp at hz1
  have HB1:=ZL hb1; clear hb1
  go_wp2
  go_ret
  exact⟨rfl,(((Below.refl _ _).alloc (Nat.le_refl _) _).alloc (by simp) _).trans (HB1.out.mono (by simp; omega))⟩
attribute [local go_sem ↓] Go.wp_at_zero Go.wp_at_succ
theorem Uj (v:Nat) (w:World) (_hv:v<4294967296) :
  Calls Tryz.prog 12 #[.int .u32 v] w fun e' w'=>e' = .returned (.agg #[.int .u32 v,.int .u8 0,.int .u16 0,.int .u16 0,.int .u16 0,.int .u16 0,.int .u32 0,.bool false])∧Below w.heap.size w w':=by
 go_enter Tryz.func12,Tryz.ntmps12
 go_wp2
 refine bodyPost_ret (v:=.agg #[.int .u32 v,.int .u8 0,.int .u16 0,.int .u16 0,.int .u16 0,.int .u16 0,.int .u32 0,.bool false]) (by simp[results,Tryz.results12,go_sem]<;>rfl) rfl ⟨rfl,?_⟩
 (repeat (first|exact Below.refl _ _|refine Below.drew ?_|refine Zy ?_ _|refine Below.alloc ?_ (by simp<;>omega) _|refine Below.setCell ?_ (by simp<;>omega) _))
theorem Zbc (cC cE cB cT cP cY cR:Nat) (cV:Bool) (w:World) (hc:cC<4294967296) :
  Calls Tryz.prog 85 #[.agg #[.int .u32 cC,.int .u8 cE,.int .u16 cB,.int .u16 cT,.int .u16 cP,.int .u16 cY,.int .u32 cR,.bool cV]] w fun e' w'=>e' = .returned (.bool (U1 cC cE cB cT cP cY cR cV cC 0 0 0 0 0 0 false))∧Below w.heap.size w w':=by
 have he:=fun W=>ZeE cC cE cB cT cP cY cR cV cC 0 0 0 0 0 0 false W
 generalize U1 cC cE cB cT cP cY cR cV cC 0 0 0 0 0 0 false=k at *
 simp only[rr, tt, Int.cast_ofNat_Int] at he
 go_enter Tryz.func85,Tryz.ntmps85
 go_wp2_with fail
 go_region_with (go_at_call 12; refine(Uj cC _ hc).mono ?_; rintro e' w1 ⟨rfl,hb1⟩; obtain⟨hc1,hf1⟩:=Y4 hb1)
 all_goals
  have HB1:=ZL hb1; clear hb1
  go_wp2
  go_ret
  exact⟨rfl,((Below.refl _ _).alloc (Nat.le_refl _) _).trans ((Y3 HB1.out).mono (by show w.heap.size≤_; simp))⟩
def Ky (p q b t l h:Nat):Bool:=ZhA p q&&inN b t l h
theorem Zbd (p q b t l h:Nat):Ky p q b t l h=(ZhA p q&&(decide (t≤b)||(decide (l≤b)&&decide (t≤h)))):=rfl
theorem Uk (aC aE aB aT aP aY aR:Nat) (aV:Bool) (bC bE bB bT bP bY bR:Nat) (bV:Bool) (x y u v:Nat) (w:World) (al:WF aC aE aB aT aP aY aR) (bl:WF bC bE bB bT bP bY bR) (hx:(Yl aE aB aT aC).1=x) (hy:(Yl aE aB aT aC).2=y) (hu:(Yl bE bB bT bC).1=u) (hv:(Yl bE bB bT bC).2=v) :
  Calls Tryz.prog 49 #[.agg #[.int .u32 aC,.int .u8 aE,.int .u16 aB,.int .u16 aT,.int .u16 aP,.int .u16 aY,.int .u32 aR,.bool aV],.agg #[.int .u32 bC,.int .u8 bE,.int .u16 bB,.int .u16 bT,.int .u16 bP,.int .u16 bY,.int .u32 bR,.bool bV]] w fun e' w'=>e' = .returned (.bool (Ky aP bP x y u v))∧Below w.heap.size w w':=by
 have HA:Hid (∀ W,Calls Tryz.prog 76 #[.agg #[.int .u32 aC,.int .u8 aE,.int .u16 aB,.int .u16 aT,.int .u16 aP,.int .u16 aY,.int .u32 aR,.bool aV]] W fun e' w'=>e' = .returned (.tuple #[.int .u32 x,.int .u64 y])∧Below W.heap.size W w'):=fun W=>Kb aC aE aB aT aP aY aR aV x y W al hx hy
 have HB:Hid (∀ W,Calls Tryz.prog 76 #[.agg #[.int .u32 bC,.int .u8 bE,.int .u16 bB,.int .u16 bT,.int .u16 bP,.int .u16 bY,.int .u32 bR,.bool bV]] W fun e' w'=>e' = .returned (.tuple #[.int .u32 u,.int .u64 v])∧Below W.heap.size W w'):=fun W=>Kb bC bE bB bT bP bY bR bV u v W bl hu hv
 have hs:=Zin al.2.2.2.2.1 bl.2.2.2.2.1
 have hxl:x<4294967296:=by rw[← hx]; exact(Zba _ _ _ _).1
 have hul:u<4294967296:=by rw[← hu]; exact(Zba _ _ _ _).1
 rw[Zbd]
 clear hx hy hu hv
 obtain⟨k,hk⟩:∃ k,ZhA aP bP=k:=⟨_,rfl⟩
 rw[hk] at hs ⊢
 clear hk
 cases k with
 | false =>
  rw[Bool.false_and]
  go_enter Tryz.func49,Tryz.ntmps49
  go_wp2_with fail
  refine(HA.out _).mono ?_
  rintro e' w1 ⟨rfl,hb1⟩
  obtain⟨hc1,hf1⟩:=Y4 hb1
  have hz1:=hb1.size
  simp at hz1
  have HB1:=ZL hb1
  go_wp2_with fail
  refine(HB.out _).mono ?_
  rintro e' w2 ⟨rfl,hb2⟩
  have f0:w2.cell? ⟨w.heap.size,4,none⟩=some (.int .u16 aP):=(((Blk.new1 w _ _ _).below hb1 (by simp; omega)).below hb2 (by omega)).cell 4
  have f1:w2.cell? ⟨w.heap.size+1,4,none⟩=some (.int .u16 bP):=(((Blk.new2 w _ _ _).below hb1 (by simp)).below hb2 (by omega)).cell 4
  have HB2:=ZL hb2; clear hb2 hc1 hf1 hb1
  go_wp2
  go_ret
  exact⟨rfl,((((Below.refl _ _).alloc (Nat.le_refl _) _).alloc (by simp) _).trans (HB1.out.mono (by simp; omega))).trans (HB2.out.mono (by omega))⟩
 | true =>
  rw[Bool.true_and]
  by_cases c1:y≤x
  ·rw[decide_eq_true c1,Bool.true_or]
   go_enter Tryz.func49,Tryz.ntmps49
   go_wp2_with fail
   refine(HA.out _).mono ?_
   rintro e' w1 ⟨rfl,hb1⟩
   obtain⟨hc1,hf1⟩:=Y4 hb1
   have hz1:=hb1.size
   simp at hz1
   have HB1:=ZL hb1
   go_wp2_with fail
   refine(HB.out _).mono ?_
   rintro e' w2 ⟨rfl,hb2⟩
   have f0:w2.cell? ⟨w.heap.size,4,none⟩=some (.int .u16 aP):=(((Blk.new1 w _ _ _).below hb1 (by simp; omega)).below hb2 (by omega)).cell 4
   have f1:w2.cell? ⟨w.heap.size+1,4,none⟩=some (.int .u16 bP):=(((Blk.new2 w _ _ _).below hb1 (by simp)).below hb2 (by omega)).cell 4
   have HB2:=ZL hb2; clear hb2 hc1 hf1 hb1
   go_wp2
   go_ret
   exact⟨rfl,((((Below.refl _ _).alloc (Nat.le_refl _) _).alloc (by simp) _).trans (HB1.out.mono (by simp; omega))).trans (HB2.out.mono (by omega))⟩
  ·have d1:decide (y≤x)=false:=by simpa using c1
   rw[d1,Bool.false_or]
   by_cases c2:u≤x
   ·rw[decide_eq_true c2,Bool.true_and]
    go_enter Tryz.func49,Tryz.ntmps49
    go_wp2_with fail
    refine(HA.out _).mono ?_
    rintro e' w1 ⟨rfl,hb1⟩
    obtain⟨hc1,hf1⟩:=Y4 hb1
    have hz1:=hb1.size
    simp at hz1
    have HB1:=ZL hb1
    go_wp2_with fail
    refine(HB.out _).mono ?_
    rintro e' w2 ⟨rfl,hb2⟩
    have f0:w2.cell? ⟨w.heap.size,4,none⟩=some (.int .u16 aP):=(((Blk.new1 w _ _ _).below hb1 (by simp; omega)).below hb2 (by omega)).cell 4
    have f1:w2.cell? ⟨w.heap.size+1,4,none⟩=some (.int .u16 bP):=(((Blk.new2 w _ _ _).below hb1 (by simp)).below hb2 (by omega)).cell 4
    have HB2:=ZL hb2; clear hb2 hc1 hf1 hb1
    go_wp2
    go_ret
    exact⟨rfl,((((Below.refl _ _).alloc (Nat.le_refl _) _).alloc (by simp) _).trans (HB1.out.mono (by simp; omega))).trans (HB2.out.mono (by omega))⟩
   ·have d2:decide (u≤x)=false:=by simpa using c2
    rw[d2,Bool.false_and]
    go_enter Tryz.func49,Tryz.ntmps49
    go_wp2_with fail
    refine(HA.out _).mono ?_
    rintro e' w1 ⟨rfl,hb1⟩
    obtain⟨hc1,hf1⟩:=Y4 hb1
    have hz1:=hb1.size
    simp at hz1
    have HB1:=ZL hb1
    go_wp2_with fail
    refine(HB.out _).mono ?_
    rintro e' w2 ⟨rfl,hb2⟩
    have f0:w2.cell? ⟨w.heap.size,4,none⟩=some (.int .u16 aP):=(((Blk.new1 w _ _ _).below hb1 (by simp; omega)).below hb2 (by omega)).cell 4
    have f1:w2.cell? ⟨w.heap.size+1,4,none⟩=some (.int .u16 bP):=(((Blk.new2 w _ _ _).below hb1 (by simp)).below hb2 (by omega)).cell 4
    have HB2:=ZL hb2; clear hb2 hc1 hf1 hb1
    go_wp2
    go_ret
    exact⟨rfl,((((Below.refl _ _).alloc (Nat.le_refl _) _).alloc (by simp) _).trans (HB1.out.mono (by simp; omega))).trans (HB2.out.mono (by omega))⟩
attribute [local go_sem ↓] Go.wp_at_zero Go.wp_at_succ
def Yd (e b t p y r:Nat):Bool:=decide (e<22)&&decide (b<4096)&&decide (t<4096)&&decide (p<256)&&decide (y<4096)&&decide (r<16777216)
def JG (f:Nat→Nat) (n:Nat):Bool:=decide (∀ k,k<n→f (2*k)<f (2*k+1))
def BelA (w wr:World) (f:Nat→Nat) (i:Value):Prop:=∃ k:Nat,k≤6∧i = .int .i64 (2*(k:Int))∧(∀ j,j<k→f (2*j)<f (2*j+1))∧∃ m,wr=w.drewN m
theorem ZeG (g:Nat) (f:Nat→Nat) (w:World) (hc:∀ j,j<12→w.cell? ⟨g,j,none⟩=some (.int .u32 (f j))) :
  Calls Tryz.prog 97 #[.slice (some ⟨g,0,none⟩) 12 12] w fun e w'=>e = .returned (.bool (JG f 6))∧∃ m,w'=w.drewN m:=by
 have HC:=ZL hc; clear hc
 go_enter Tryz.func97,Tryz.ntmps97
 go_wp2
 go_loopw [3] (fun i wr=>BelA w wr f i) (fun i _=>12-(intOf i).toNat)
 case atStart=>exact⟨0,by omega,rfl,fun j hj=>absurd hj (by omega),0,rfl⟩
 case round =>
  obtain⟨k,hk,rfl,hall,m,rfl⟩:=hrel
  have HA:=ZL hall; clear hall
  by_cases hlt:k<6
  ·have i1:2*(k:Int)+1<12:=by omega
   have i0:0≤2*(k:Int):=by omega
   have c0:=HC.out (2*k) (by omega)
   have c1:=HC.out (2*k+1) (by omega)
   obtain⟨x,hx⟩:∃ x,f (2*k)=x:=⟨_,rfl⟩
   obtain⟨y,hy⟩:∃ y,f (2*k+1)=y:=⟨_,rfl⟩
   rw[hx] at c0
   rw[hy] at c1
   have e0:(2*(k:Int)).toNat=2*k:=by omega
   have e1:(2*(k:Int)+1).toNat=2*k+1:=by omega
   have e2:i64.wrap (2*(k:Int)+1)=2*(k:Int)+1:=IntWalk.i64_in _ (by omega)
   have e3:0≤2*(k:Int)+1:=by omega
   have HX:=ZL hx
   have HY:=ZL hy
   clear hx hy
   by_cases hxy:x<y
   ·have d1:decide (y≤x)=false:=by simp; omega
    go_wp2_with fail
    go_quiet (fail)
    go_wp2
    go_roundw
    case rel=>exact⟨k+1,by omega,by first|rfl|(congr 1; omega),fun j hj=>by
      by_cases h:j<k
      ·exact HA.out j h
      ·obtain rfl:j=k:=by omega
       rw[HX.out,HY.out]; exact hxy,_,rfl⟩
    case measure=>simp[intOf]; omega
   ·have d1:decide (y≤x)=true:=by simp; omega
    go_wp2_with fail
    go_quiet (fail)
    go_wp2
    go_ret
    refine⟨QU ?_,_,World.drewN_drewN _ _ _⟩
    unfold JG
    symm
    rw[decide_eq_false_iff_not]
    intro h
    have:=h k hlt
    rw[HX.out,HY.out] at this
    exact hxy this
  ·obtain rfl:k=6:=by omega
   go_wp2
   go_ret
   refine⟨QU ?_,_,rfl⟩
   unfold JG
   symm
   rw[decide_eq_true_eq]
   exact HA.out
theorem ZbP (e b t p y r:Nat) (f:Nat→Nat) (h0:f 0=e) (h1:f 1=22) (h2:f 2=b) (h3:f 3=4096) (h4:f 4=t) (h5:f 5=4096) (h6:f 6=p) (h7:f 7=256) (h8:f 8=y) (h9:f 9=4096) (h10:f 10=r) (h11:f 11=16777216) :
  JG f 6=Yd e b t p y r:=by
 rw[Bool.eq_iff_iff]
 unfold JG Yd
 simp only[rr, tt, decide_eq_true_eq,Bool.and_eq_true]
 constructor
 ·intro h
  have a0:=h 0 (by omega)
  have a1:=h 1 (by omega)
  have a2:=h 2 (by omega)
  have a3:=h 3 (by omega)
  have a4:=h 4 (by omega)
  have a5:=h 5 (by omega)
  simp only[rr, tt, Nat.mul_zero,Nat.zero_add,Nat.mul_one,Nat.reduceMul,Nat.reduceAdd] at a0 a1 a2 a3 a4 a5
  omega
 ·intro h k hk
  have hk':k=0∨k=1∨k=2∨k=3∨k=4∨k=5:=by omega
  rcases hk' with rfl|rfl|rfl|rfl|rfl|rfl<;>simp only[rr, tt, Nat.mul_zero,Nat.zero_add,Nat.mul_one,Nat.reduceMul,Nat.reduceAdd]<;>omega
theorem JH (cC cE cB cT cP cY cR:Nat) (cV:Bool) (w:World) (cl:WF cC cE cB cT cP cY cR) :
  Calls Tryz.prog 46 #[.agg #[.int .u32 cC,.int .u8 cE,.int .u16 cB,.int .u16 cT,.int .u16 cP,.int .u16 cY,.int .u32 cR,.bool cV]] w fun e' w'=>e' = .returned (.bool (Yd cE cB cT cP cY cR))∧Below w.heap.size w w':=by
 obtain⟨cCl,cEl,cBl,cTl,cPl,cYl,cRl⟩:=cl
 obtain⟨f,hf⟩:∃ f:Nat→Nat,f=fun j=>[cE,22,cB,4096,cT,4096,cP,256,cY,4096,cR,16777216].getD j 0:=⟨_,rfl⟩
 have hps:=ZbP cE cB cT cP cY cR f (by rw[hf]; rfl) (by rw[hf]; rfl) (by rw[hf]; rfl) (by rw[hf]; rfl) (by rw[hf]; rfl) (by rw[hf]; rfl) (by rw[hf]; rfl) (by rw[hf]; rfl) (by rw[hf]; rfl) (by rw[hf]; rfl) (by rw[hf]; rfl) (by rw[hf]; rfl)
 have HPS:=ZL hps
 have HF:Hid (∀ W g,Blk W g 22 #[.int .u32 cE,.int .u32 22,.int .u32 cB,.int .u32 4096,.int .u32 cT,.int .u32 4096,.int .u32 cP,.int .u32 256,.int .u32 cY,.int .u32 4096,.int .u32 cR,.int .u32 16777216]→∀ j,j<12→W.cell? ⟨g,j,none⟩=some (.int .u32 (f j))):=fun W g hb j hj=>by
  have hj':j=0∨j=1∨j=2∨j=3∨j=4∨j=5∨j=6∨j=7∨j=8∨j=9∨j=10∨j=11:=by omega
  rcases hj' with rfl|rfl|rfl|rfl|rfl|rfl|rfl|rfl|rfl|rfl|rfl|rfl<;>(rw[hf]; exact hb.cell _)
 clear hps hf
 go_enter Tryz.func46,Tryz.ntmps46
 go_wp2_with fail
 refine(ZeG _ f _ (HF.out _ _ (Blk.new2 w _ _ _))).mono ?_
 rintro e' w1 ⟨rfl,m,rfl⟩
 go_wp2
 go_ret
 exact⟨QU HPS.out,by(repeat (first|(with_reducible exact Below.refl _ _)|(with_reducible refine Below.drew ?_)|(with_reducible refine Zy ?_ _)|(with_reducible refine Below.alloc ?_ (by simp<;>omega) _)|(with_reducible refine Below.setCell ?_ (by simp<;>omega) _)))⟩
theorem Ul (cC cE cB cT cP cY cR:Nat) (cV:Bool) (w:World) (cl:WF cC cE cB cT cP cY cR) :
  Calls Tryz.prog 96 #[.agg #[.int .u32 cC,.int .u8 cE,.int .u16 cB,.int .u16 cT,.int .u16 cP,.int .u16 cY,.int .u32 cR,.bool cV]] w fun e' w'=>e' = .returned (.bool (Yd cE cB cT cP cY cR))∧Below w.heap.size w w':=by
 obtain⟨cCl,cEl,cBl,cTl,cPl,cYl,cRl⟩:=cl
 have hs:Yd cE cB cT cP cY cR=(decide ((cE:Int)≤21)&&(decide ((cB:Int)<4096)&&(decide ((cT:Int)<4096)&&(decide ((cP:Int)≤255)&&(decide ((cY:Int)<4096)&&decide ((cR:Int)<16777216)))))):=by
  unfold Yd
  rw[Bool.eq_iff_iff]
  simp only[rr, tt, Bool.and_eq_true,decide_eq_true_eq]
  omega
 rw[hs]
 clear hs
 by_cases c1:(cE:Int)≤21
 ·by_cases c2:(cB:Int)<4096
  ·by_cases c3:(cT:Int)<4096
   ·by_cases c4:(cP:Int)≤255
    ·by_cases c5:(cY:Int)<4096
     ·rw[decide_eq_true c1,decide_eq_true c2,decide_eq_true c3,decide_eq_true c4,decide_eq_true c5]
      simp only[rr, tt, Bool.true_and]
      go_enter Tryz.func96,Tryz.ntmps96
      go_wp2
      go_ret
      exact⟨rfl,by(repeat (first|(with_reducible exact Below.refl _ _)|(with_reducible refine Below.drew ?_)|(with_reducible refine Zy ?_ _)|(with_reducible refine Below.alloc ?_ (by simp<;>omega) _)|(with_reducible refine Below.setCell ?_ (by simp<;>omega) _)))⟩
     ·have d:decide ((cY:Int)<4096)=false:=by simpa using c5
      rw[d,decide_eq_true c1,decide_eq_true c2,decide_eq_true c3,decide_eq_true c4]
      simp only[rr, tt, Bool.true_and,Bool.false_and]
      go_enter Tryz.func96,Tryz.ntmps96
      go_wp2
      go_ret
      exact⟨rfl,by(repeat (first|(with_reducible exact Below.refl _ _)|(with_reducible refine Below.drew ?_)|(with_reducible refine Zy ?_ _)|(with_reducible refine Below.alloc ?_ (by simp<;>omega) _)|(with_reducible refine Below.setCell ?_ (by simp<;>omega) _)))⟩
    ·have d:decide ((cP:Int)≤255)=false:=by simpa using c4
     rw[d,decide_eq_true c1,decide_eq_true c2,decide_eq_true c3]
     simp only[rr, tt, Bool.true_and,Bool.false_and]
     go_enter Tryz.func96,Tryz.ntmps96
     go_wp2
     go_ret
     exact⟨rfl,by(repeat (first|(with_reducible exact Below.refl _ _)|(with_reducible refine Below.drew ?_)|(with_reducible refine Zy ?_ _)|(with_reducible refine Below.alloc ?_ (by simp<;>omega) _)|(with_reducible refine Below.setCell ?_ (by simp<;>omega) _)))⟩
   ·have d:decide ((cT:Int)<4096)=false:=by simpa using c3
    rw[d,decide_eq_true c1,decide_eq_true c2]
    simp only[rr, tt, Bool.true_and,Bool.false_and]
    go_enter Tryz.func96,Tryz.ntmps96
    go_wp2
    go_ret
    exact⟨rfl,by(repeat (first|(with_reducible exact Below.refl _ _)|(with_reducible refine Below.drew ?_)|(with_reducible refine Zy ?_ _)|(with_reducible refine Below.alloc ?_ (by simp<;>omega) _)|(with_reducible refine Below.setCell ?_ (by simp<;>omega) _)))⟩
  ·have d:decide ((cB:Int)<4096)=false:=by simpa using c2
   rw[d,decide_eq_true c1]
   simp only[rr, tt, Bool.true_and,Bool.false_and]
   go_enter Tryz.func96,Tryz.ntmps96
   go_wp2
   go_ret
   exact⟨rfl,by(repeat (first|(with_reducible exact Below.refl _ _)|(with_reducible refine Below.drew ?_)|(with_reducible refine Zy ?_ _)|(with_reducible refine Below.alloc ?_ (by simp<;>omega) _)|(with_reducible refine Below.setCell ?_ (by simp<;>omega) _)))⟩
 ·have d:decide ((cE:Int)≤21)=false:=by simpa using c1
  rw[d]
  simp only[rr, tt, Bool.false_and]
  go_enter Tryz.func96,Tryz.ntmps96
  go_wp2
  go_ret
  exact⟨rfl,by(repeat (first|(with_reducible exact Below.refl _ _)|(with_reducible refine Below.drew ?_)|(with_reducible refine Zy ?_ _)|(with_reducible refine Below.alloc ?_ (by simp<;>omega) _)|(with_reducible refine Below.setCell ?_ (by simp<;>omega) _)))⟩
attribute [local go_sem ↓] Go.wp_at_zero Go.wp_at_succ
def ZhB (b:Nat→Bool):Nat→Bool
 | 0=>true
 | k+1=>ZhB b k&&b k
structure Asked (w:World) (g n:Nat) (F:Nat→FuncId) (fi ca:Nat→Array Value) (b:Nat→Bool):Prop where
 cell:∀ j,j<n→w.cell? ⟨g,j,none⟩=some (.func (.func (F j)) (fi j) (ca j))
 calls:∀ j,j<n→∀ W,Below w.heap.size w W→Calls Tryz.prog (F j) (fi j++ca j) W fun e W'=>e = .returned (.bool (b j))∧Below W.heap.size W W'
 runs:∀ j,j<n→∀ W,(callFunc (F j) (fi j++ca j)).run Tryz.prog W = .ok (.enter (F j) (fi j++ca j)) W
 lt:g<w.heap.size
def Zmi (w wr:World) (cC cE cB cT cP cY cR:Nat) (n:Nat) (b:Nat→Bool) (i:Value):Prop :=
 ∃ k:Nat,k≤n∧i = .int .i64 k∧Blk wr w.heap.size 30 #[.int .u32 cC,.int .u8 cE,.int .u16 cB,.int .u16 cT,.int .u16 cP,.int .u16 cY,.int .u32 cR,.bool (ZhB b k)] ∧
  Blk wr (w.heap.size+1) 30 #[.int .u32 0,.int .u8 0,.int .u16 0,.int .u16 0,.int .u16 0,.int .u16 0,.int .u32 0,.bool false]∧Below w.heap.size w wr
set_option maxHeartbeats 1000000 in
theorem K6 (cC cE cB cT cP cY cR:Nat) (cV:Bool) (g n:Nat) (F:Nat→FuncId) (fi ca:Nat→Array Value) (b:Nat→Bool) (w:World) (hn:n≤1000) (h:Asked w g n F fi ca b) :
  Calls Tryz.prog 132 #[.agg #[.int .u32 cC,.int .u8 cE,.int .u16 cB,.int .u16 cT,.int .u16 cP,.int .u16 cY,.int .u32 cR,.bool cV],.slice (some ⟨g,0,none⟩) n n] w fun e w'=>e = .returned (.agg #[.int .u32 cC,.int .u8 cE,.int .u16 cB,.int .u16 cT,.int .u16 cP,.int .u16 cY,.int .u32 cR,.bool (ZhB b n)])∧Below w.heap.size w w':=by
 have H:=ZL h; clear h
 go_enter Tryz.func132,Tryz.ntmps132
 go_wp2
 go_loopw [10] (fun i wr=>Zmi w wr cC cE cB cT cP cY cR n b i) (fun i _=>n-(intOf i).toNat)
 case atStart=>exact⟨0,by omega,rfl,Blk.new1 w _ _ _,Blk.new2 w _ _ _,((Below.refl _ _).alloc (Nat.le_refl _) _).alloc (by simp) _⟩
 case round =>
  obtain⟨k,hk,rfl,hq1,hq2,hb⟩:=hrel
  have f7:=hq1.cell 7
  have z7:=hq1.frozen 7
  have HQ1:=ZL hq1
  have HQ2:=ZL hq2
  have HB:=ZL hb
  simp at f7
  by_cases hlt:k<n
  ·have cg:=(hb.cell (p:=⟨g,k,none⟩) H.out.lt).trans (H.out.cell k hlt)
   have hrun:=H.out.runs k hlt
   have HC:=ZL (H.out.calls k hlt wr hb)
   clear hq1 hq2 hb
   obtain⟨acc,hacc⟩:∃ a,ZhB b k=a:=⟨_,rfl⟩
   have HA:Hid (ZhB b (k+1)=(acc&&b k)):=by show _=_; rw[ZhB,hacc]
   rw[hacc] at f7 HQ1
   clear hacc
   have i1:(k:Int)<n:=by omega
   cases acc with
   | true =>
    go_wp2_with fail
    refine HC.out.mono ?_
    rintro e w2 ⟨rfl,hb2⟩
    have q1:=HQ1.out.below hb2 HQ1.out.lt
    have q2:=HQ2.out.below hb2 HQ2.out.lt
    have k2:=HB.out.trans (hb2.mono HB.out.size)
    have g7:=q1.cell 7
    have y7:=q1.frozen 7
    simp at g7
    rw[Bool.true_and] at HA
    obtain⟨r,hr⟩:∃ r,b k=r:=⟨_,rfl⟩
    rw[hr] at HA ⊢
    have R1:Hid (Blk (w2.setCell ⟨w.heap.size,7,none⟩ (.bool r)) w.heap.size 30 #[.int .u32 cC,.int .u8 cE,.int .u16 cB,.int .u16 cT,.int .u16 cP,.int .u16 cY,.int .u32 cR,.bool r]):=q1.set_ 7 _
    have R2:Hid (Blk (w2.setCell ⟨w.heap.size,7,none⟩ (.bool r)) (w.heap.size+1) 30 #[.int .u32 0,.int .u8 0,.int .u16 0,.int .u16 0,.int .u16 0,.int .u16 0,.int .u32 0,.bool false]):=q2.far (p:=⟨w.heap.size,7,none⟩) (show w.heap.size+1≠w.heap.size by omega) _
    have R3:Hid (Below w.heap.size w (w2.setCell ⟨w.heap.size,7,none⟩ (.bool r))):=k2.setCell (p:=⟨w.heap.size,7,none⟩) (Nat.le_refl _) _
    clear hb2 q1 q2 k2 hr hrun
    go_wp2
    go_roundw
    case rel=>exact⟨k+1,by omega,by go_num,by rw[HA.out]; exact R1.out,R2.out,R3.out⟩
    case measure=>simp[intOf]; omega
   | false =>
    rw[Bool.false_and] at HA
    have R1:Hid (Blk (wr.setCell ⟨w.heap.size,7,none⟩ (.bool false)) w.heap.size 30 #[.int .u32 cC,.int .u8 cE,.int .u16 cB,.int .u16 cT,.int .u16 cP,.int .u16 cY,.int .u32 cR,.bool false]):=HQ1.out.set_ 7 _
    have R2:Hid (Blk (wr.setCell ⟨w.heap.size,7,none⟩ (.bool false)) (w.heap.size+1) 30 #[.int .u32 0,.int .u8 0,.int .u16 0,.int .u16 0,.int .u16 0,.int .u16 0,.int .u32 0,.bool false]):=HQ2.out.far (p:=⟨w.heap.size,7,none⟩) (show w.heap.size+1≠w.heap.size by omega) _
    have R3:Hid (Below w.heap.size w (wr.setCell ⟨w.heap.size,7,none⟩ (.bool false))):=HB.out.setCell (p:=⟨w.heap.size,7,none⟩) (Nat.le_refl _) _
    clear hrun
    go_wp2
    go_roundw
    case rel=>exact⟨k+1,by omega,by go_num,by rw[HA.out]; exact R1.out,R2.out,R3.out⟩
    case measure=>simp[intOf]; omega
  ·obtain rfl:k=n:=by omega
   obtain⟨acc,hacc⟩:∃ a,ZhB b k=a:=⟨_,rfl⟩
   rw[hacc] at HQ1 f7
   have HACC:=ZL hacc
   have q1:=HQ1.out
   have q2:=HQ2.out
   clear hq1 hq2 hb hacc
   have c0:=q1.cell 0
   have d0:=q2.cell 0
   have z0:=q2.frozen 0
   have c1:=q1.cell 1
   have d1:=q2.cell 1
   have z1:=q2.frozen 1
   have c2:=q1.cell 2
   have d2:=q2.cell 2
   have z2:=q2.frozen 2
   have c3:=q1.cell 3
   have d3:=q2.cell 3
   have z3:=q2.frozen 3
   have c4:=q1.cell 4
   have d4:=q2.cell 4
   have z4:=q2.frozen 4
   have c5:=q1.cell 5
   have d5:=q2.cell 5
   have z5:=q2.frozen 5
   have c6:=q1.cell 6
   have d6:=q2.cell 6
   have z6:=q2.frozen 6
   have c7:=q1.cell 7
   have d7:=q2.cell 7
   have z7:=q2.frozen 7
   simp at c0 c1 c2 c3 c4 c5 c6 c7 d0 d1 d2 d3 d4 d5 d6 d7
   clear q1 q2
   go_wp2
   refine bodyPost_ret (v:=.agg #[.int .u32 cC,.int .u8 cE,.int .u16 cB,.int .u16 cT,.int .u16 cP,.int .u16 cY,.int .u32 cR,.bool acc]) (by simp[results,Tryz.results132,go_sem,d0,d1,d2,d3,d4,d5,d6,d7]) rfl ⟨by rw[HACC.out],?_⟩
   repeat (refine Below.setCell ?_ (by simp<;>omega) _)
   exact HB.out
attribute [local go_sem ↓] Go.wp_at_zero Go.wp_at_succ
def YR (cY:Nat) (cV:Bool):Bool:=cV&&decide (cY=0)
theorem XZ (cC cE cB cT cP cY cR:Nat) (cV:Bool) (w:World) :
  Calls Tryz.prog 131 #[.agg #[.int .u32 cC,.int .u8 cE,.int .u16 cB,.int .u16 cT,.int .u16 cP,.int .u16 cY,.int .u32 cR,.bool cV]] w fun e w'=>e = .returned (.bool (YR cY cV))∧Below w.heap.size w w':=by
 have hf:YR cY cV=(cV&&((cY:Int)==0)):=by
  unfold YR
  rw[show decide (cY=0)=((cY:Int)==0) by rw[Bool.eq_iff_iff]; simp]
 rw[hf]
 clear hf
 cases cV with
 | false =>
  rw[Bool.false_and]
  go_enter Tryz.func131,Tryz.ntmps131
  go_wp2
  go_ret
  exact⟨rfl,by(repeat (first|(with_reducible exact Below.refl _ _)|(with_reducible refine Below.drew ?_)|(with_reducible refine Zy ?_ _)|(with_reducible refine Below.alloc ?_ (by simp<;>omega) _)|(with_reducible refine Below.setCell ?_ (by simp<;>omega) _)))⟩
 | true =>
  rw[Bool.true_and]
  go_enter Tryz.func131,Tryz.ntmps131
  go_wp2
  go_ret
  exact⟨rfl,by(repeat (first|(with_reducible exact Below.refl _ _)|(with_reducible refine Below.drew ?_)|(with_reducible refine Zy ?_ _)|(with_reducible refine Below.alloc ?_ (by simp<;>omega) _)|(with_reducible refine Below.setCell ?_ (by simp<;>omega) _)))⟩
theorem Zio (w:World):Calls Tryz.prog 153 #[] w fun e w'=>e = .returned (.bool false)∧Below w.heap.size w w':=by
 go_enter Tryz.func153,Tryz.ntmps153
 go_wp2
 go_ret
 exact⟨rfl,Below.refl _ _⟩
theorem ZeH (w:World) (g:Nat) (h:Blk w g 27 #[.func (.func 153) #[] #[]]):Asked w g 1 (fun _=>153) (fun _ => #[]) (fun _ => #[]) (fun _=>false) :=
 ⟨fun j hj=>(by omega:0=j)▸h.cell 0,
   fun _ _ W _=>Zio W,fun _ _ W=>by kernel_rfl,h.lt⟩
theorem Zdt (cC cE cB cT cP cY cR:Nat) (cV:Bool) (w:World) (g:Nat) (h:Blk w g 27 #[.func (.func 131) #[.agg #[.int .u32 cC,.int .u8 cE,.int .u16 cB,.int .u16 cT,.int .u16 cP,.int .u16 cY,.int .u32 cR,.bool cV]] #[]]):Asked w g 1 (fun _=>131) (fun _ => #[.agg #[.int .u32 cC,.int .u8 cE,.int .u16 cB,.int .u16 cT,.int .u16 cP,.int .u16 cY,.int .u32 cR,.bool cV]]) (fun _ => #[]) (fun _=>YR cY cV) :=
 ⟨fun j hj=>(by omega:0=j)▸h.cell 0,
   fun _ _ W _=>XZ cC cE cB cT cP cY cR cV W,fun _ _ W=>by kernel_rfl,h.lt⟩
theorem Blk.newAt {W:World} {g:Nat} (h:W.heap.size=g) (t:TypeId) (cs:Array Value):Blk (W.alloc (.cells cs t)) g t cs:=by subst h; exact Blk.new W t cs
theorem X0 (cC cE cB cT cP cY cR:Nat) (cV:Bool) (w:World) (g:Nat) (h:Blk w g 27 #[.func (.func 153) #[] #[]]) :
  Calls Tryz.prog 132 #[.agg #[.int .u32 cC,.int .u8 cE,.int .u16 cB,.int .u16 cT,.int .u16 cP,.int .u16 cY,.int .u32 cR,.bool cV],.slice (some ⟨g,0,none⟩) 1 1] w fun e w'=>e = .returned (.agg #[.int .u32 cC,.int .u8 cE,.int .u16 cB,.int .u16 cT,.int .u16 cP,.int .u16 cY,.int .u32 cR,.bool false])∧Below w.heap.size w w' :=
 K6 cC cE cB cT cP cY cR cV g 1 _ _ _ _ w (by omega) (ZeH w g h)
theorem ZeI (p:Nat) (cC cE cB cT cY cR:Nat) (cV:Bool) (dC dE dB dT dP dY dR:Nat) (dV:Bool) (w:World) (g:Nat) (h:Blk w g 27 #[.func (.func 131) #[.agg #[.int .u32 dC,.int .u8 dE,.int .u16 dB,.int .u16 dT,.int .u16 dP,.int .u16 dY,.int .u32 dR,.bool dV]] #[]]) :
  Calls Tryz.prog 132 #[.agg #[.int .u32 cC,.int .u8 cE,.int .u16 cB,.int .u16 cT,.int .u16 p,.int .u16 cY,.int .u32 cR,.bool cV],.slice (some ⟨g,0,none⟩) 1 1] w fun e w'=>e = .returned (.agg #[.int .u32 cC,.int .u8 cE,.int .u16 cB,.int .u16 cT,.int .u16 p,.int .u16 cY,.int .u32 cR,.bool (YR dY dV)])∧Below w.heap.size w w':=by
 have:=K6 cC cE cB cT p cY cR cV g 1 _ _ _ _ w (by omega) (Zdt dC dE dB dT dP dY dR dV w g h)
 rwa [show ZhB (fun _=>YR dY dV) 1=YR dY dV from Bool.true_and _] at this
theorem ZeJ (cC cE cB cT cP cY cR:Nat) (cV:Bool) (w:World) :
  Calls Tryz.prog 77 #[.agg #[.int .u32 cC,.int .u8 cE,.int .u16 cB,.int .u16 cT,.int .u16 cP,.int .u16 cY,.int .u32 cR,.bool cV]] w fun e w'=>e = .returned (.agg #[.int .u32 cC,.int .u8 cE,.int .u16 cB,.int .u16 cT,.int .u16 cP,.int .u16 cY,.int .u32 cR,.bool false])∧Below w.heap.size w w':=by
 go_enter Tryz.func77,Tryz.ntmps77
 go_wp2_with fail
 refine(X0 cC cE cB cT cP cY cR cV _ _ (Blk.newAt (by simp) _ _)).mono ?_
 rintro e w2 ⟨rfl,hb2⟩
 obtain⟨hc2,hf2⟩:=Y4 hb2
 have hz2:=hb2.size
 simp at hz2
 have HB2:=ZL hb2; clear hb2
 go_wp2
 refine bodyPost_ret (v:=.agg #[.int .u32 cC,.int .u8 cE,.int .u16 cB,.int .u16 cT,.int .u16 cP,.int .u16 cY,.int .u32 cR,.bool false]) (by simp[results,Tryz.results77,go_sem,hc2]) rfl ⟨rfl,?_⟩
 repeat (refine Below.setCell ?_ (by simp<;>omega) _)
 exact((((Below.refl _ _).alloc (Nat.le_refl _) _).alloc (by simp) _).alloc (by simp; omega) _).trans (HB2.out.mono (by simp; omega))
theorem Zip (cC cE cB cT cP cY cR:Nat) (cV:Bool) (p:Nat) (w:World) (cl:WF cC cE cB cT cP cY cR) (_hp:p<4294967296) :
  Calls Tryz.prog 80 #[.agg #[.int .u32 cC,.int .u8 cE,.int .u16 cB,.int .u16 cT,.int .u16 cP,.int .u16 cY,.int .u32 cR,.bool cV],.int .u32 p] w fun e w'=>e = .returned (.agg #[.int .u32 cC,.int .u8 cE,.int .u16 cB,.int .u16 cT,.int .u16 (cP&&&(p%65536):Nat),.int .u16 cY,.int .u32 cR,.bool (YR cY cV)])∧Below w.heap.size w w':=by
 have hx:=u16_and_nat cP (p%65536) cl.2.2.2.2.1 (by omega)
 obtain⟨x,hxe⟩:∃ x,p%65536=x:=⟨_,rfl⟩
 have hx2:u16.wrap (p:Int)=x:=by rw[IntKind.wrap_u16]; omega
 rw[hxe] at hx ⊢
 obtain⟨y,hy⟩:∃ y,cP&&&x=y:=⟨_,rfl⟩
 rw[hy] at hx ⊢
 clear hxe hy
 go_enter Tryz.func80,Tryz.ntmps80
 go_wp2_with fail
 refine(ZeI y cC cE cB cT cY cR cV cC cE cB cT cP cY cR cV _ _ (Blk.newAt (by simp) _ _)).mono ?_
 rintro e w2 ⟨rfl,hb2⟩
 obtain⟨hc2,hf2⟩:=Y4 hb2
 have hz2:=hb2.size
 simp at hz2
 have HB2:=ZL hb2; clear hb2
 go_wp2
 refine bodyPost_ret (v:=.agg #[.int .u32 cC,.int .u8 cE,.int .u16 cB,.int .u16 cT,.int .u16 y,.int .u16 cY,.int .u32 cR,.bool (YR cY cV)]) (by simp[results,Tryz.results80,go_sem,hc2]) rfl ⟨rfl,?_⟩
 repeat (refine Below.setCell ?_ (by simp<;>omega) _)
 exact(((((Below.refl _ _).alloc (Nat.le_refl _) _).alloc (by simp) _).alloc (by simp; omega) _).alloc (by simp; omega) _).trans (HB2.out.mono (by simp; omega))
attribute [local go_sem ↓] Go.wp_at_zero Go.wp_at_succ
theorem Zj3 (cC cE cB cT cP cY cR:Nat) (cV:Bool) (w:World) (g:Nat) (f1 f2:FuncId) (i1 a1 i2 a2:Array Value) (b1 b2:Bool) (h:Blk w g 27 #[.func (.func f1) i1 a1,.func (.func f2) i2 a2])
  (r1:∀ W,(callFunc f1 (i1++a1)).run Tryz.prog W = .ok (.enter f1 (i1++a1)) W) (r2:∀ W,(callFunc f2 (i2++a2)).run Tryz.prog W = .ok (.enter f2 (i2++a2)) W)
  (c1:∀ W,Below w.heap.size w W→Calls Tryz.prog f1 (i1++a1) W fun e W'=>e = .returned (.bool b1)∧Below W.heap.size W W')
  (c2:∀ W,Below w.heap.size w W→Calls Tryz.prog f2 (i2++a2) W fun e W'=>e = .returned (.bool b2)∧Below W.heap.size W W') :
  Calls Tryz.prog 132 #[.agg #[.int .u32 cC,.int .u8 cE,.int .u16 cB,.int .u16 cT,.int .u16 cP,.int .u16 cY,.int .u32 cR,.bool cV],.slice (some ⟨g,0,none⟩) 2 2] w fun e w'=>e = .returned (.agg #[.int .u32 cC,.int .u8 cE,.int .u16 cB,.int .u16 cT,.int .u16 cP,.int .u16 cY,.int .u32 cR,.bool (b1&&b2)])∧Below w.heap.size w w':=by
 have:=K6 cC cE cB cT cP cY cR cV g 2 (fun j=>if j=0 then f1 else f2) (fun j=>if j=0 then i1 else i2) (fun j=>if j=0 then a1 else a2) (fun j=>if j=0 then b1 else b2) w (by omega)
  ⟨fun j hj=>by
   have hj':j=0∨j=1:=by omega
   rcases hj' with rfl|rfl
   ·exact h.cell 0
   ·exact h.cell 1,
     fun j hj W hW=>by
   have hj':j=0∨j=1:=by omega
   rcases hj' with rfl|rfl
   ·exact c1 W hW
   ·exact c2 W hW,
     fun j hj W=>by
   have hj':j=0∨j=1:=by omega
   rcases hj' with rfl|rfl
   ·exact r1 W
   ·exact r2 W,h.lt⟩
 exact this
theorem Zmj (cC cE cB cT cP cY cR:Nat) (cV:Bool) (w:World) (g:Nat) (f1 f2 f3:FuncId) (i1 a1 i2 a2 i3 a3:Array Value) (b1 b2 b3:Bool) (h:Blk w g 27 #[.func (.func f1) i1 a1,.func (.func f2) i2 a2,.func (.func f3) i3 a3])
  (r1:∀ W,(callFunc f1 (i1++a1)).run Tryz.prog W = .ok (.enter f1 (i1++a1)) W) (r2:∀ W,(callFunc f2 (i2++a2)).run Tryz.prog W = .ok (.enter f2 (i2++a2)) W) (r3:∀ W,(callFunc f3 (i3++a3)).run Tryz.prog W = .ok (.enter f3 (i3++a3)) W)
  (c1:∀ W,Below w.heap.size w W→Calls Tryz.prog f1 (i1++a1) W fun e W'=>e = .returned (.bool b1)∧Below W.heap.size W W')
  (c2:∀ W,Below w.heap.size w W→Calls Tryz.prog f2 (i2++a2) W fun e W'=>e = .returned (.bool b2)∧Below W.heap.size W W')
  (c3:∀ W,Below w.heap.size w W→Calls Tryz.prog f3 (i3++a3) W fun e W'=>e = .returned (.bool b3)∧Below W.heap.size W W') :
  Calls Tryz.prog 132 #[.agg #[.int .u32 cC,.int .u8 cE,.int .u16 cB,.int .u16 cT,.int .u16 cP,.int .u16 cY,.int .u32 cR,.bool cV],.slice (some ⟨g,0,none⟩) 3 3] w fun e w'=>e = .returned (.agg #[.int .u32 cC,.int .u8 cE,.int .u16 cB,.int .u16 cT,.int .u16 cP,.int .u16 cY,.int .u32 cR,.bool (b1&&b2&&b3)])∧Below w.heap.size w w':=by
 have:=K6 cC cE cB cT cP cY cR cV g 3 (fun j=>if j=0 then f1 else if j=1 then f2 else f3) (fun j=>if j=0 then i1 else if j=1 then i2 else i3) (fun j=>if j=0 then a1 else if j=1 then a2 else a3) (fun j=>if j=0 then b1 else if j=1 then b2 else b3) w (by omega)
  ⟨fun j hj=>by
   have hj':j=0∨j=1∨j=2:=by omega
   rcases hj' with rfl|rfl|rfl
   ·exact h.cell 0
   ·exact h.cell 1
   ·exact h.cell 2,
     fun j hj W hW=>by
   have hj':j=0∨j=1∨j=2:=by omega
   rcases hj' with rfl|rfl|rfl
   ·exact c1 W hW
   ·exact c2 W hW
   ·exact c3 W hW,
     fun j hj W=>by
   have hj':j=0∨j=1∨j=2:=by omega
   rcases hj' with rfl|rfl|rfl
   ·exact r1 W
   ·exact r2 W
   ·exact r3 W,h.lt⟩
 exact this
theorem ZeK (cC cE cB cT cP cY cR:Nat) (cV:Bool) (gf gc:Nat) (w:World) (hf:Blk w gf 164 #[.func (.func 131) #[] #[]]) (hc:Blk w gc 30 #[.int .u32 cC,.int .u8 cE,.int .u16 cB,.int .u16 cT,.int .u16 cP,.int .u16 cY,.int .u32 cR,.bool cV]) :
  Calls Tryz.prog 133 #[.pointer (some ⟨gf,0,none⟩),.pointer (some ⟨gc,0,none⟩)] w fun e w'=>e = .returned (.bool (YR cY cV))∧Below w.heap.size w w':=by
 have c0:=hf.cell 0
 simp at c0
 have d0:=hc.cell 0
 have d1:=hc.cell 1
 have d2:=hc.cell 2
 have d3:=hc.cell 3
 have d4:=hc.cell 4
 have d5:=hc.cell 5
 have d6:=hc.cell 6
 have d7:=hc.cell 7
 simp at d0 d1 d2 d3 d4 d5 d6 d7
 clear hf hc
 go_enter Tryz.func133,Tryz.ntmps133
 go_wp2_with fail
 refine(XZ cC cE cB cT cP cY cR cV _).mono ?_
 rintro e w1 ⟨rfl,hb1⟩
 have HB1:=ZL hb1; clear hb1
 go_wp2
 go_ret
 exact⟨rfl,HB1.out⟩
theorem ZeL (cC cE cB cT cP cY cR:Nat) (cV:Bool) (to gc gt:Nat) (w:World) (cl:WF cC cE cB cT cP cY cR) (hto:to<4294967296) (hc:Blk w gc 30 #[.int .u32 cC,.int .u8 cE,.int .u16 cB,.int .u16 cT,.int .u16 cP,.int .u16 cY,.int .u32 cR,.bool cV]) (ht:Blk w gt 22 #[.int .u32 to]) :
  Calls Tryz.prog 134 #[.pointer (some ⟨gc,0,none⟩),.pointer (some ⟨gt,0,none⟩)] w fun e w'=>e = .returned (.bool (W5 cE cB cT cC to))∧Below w.heap.size w w':=by
 have hk:=fun W=>ZeD cE cB cT cC to W cl.2.1 cl.2.2.1 cl.2.2.2.1 cl.1 hto
 generalize W5 cE cB cT cC to=k at *
 have HK:=ZL hk
 have c0:=ht.cell 0
 simp at c0
 have d0:=hc.cell 0
 have d1:=hc.cell 1
 have d2:=hc.cell 2
 have d3:=hc.cell 3
 simp at d0 d1 d2 d3
 clear hk ht hc
 go_enter Tryz.func134,Tryz.ntmps134
 go_wp2_with fail
 refine(HK.out _).mono ?_
 rintro e w1 ⟨rfl,hb1⟩
 have HB1:=ZL hb1; clear hb1
 go_wp2
 go_ret
 exact⟨rfl,HB1.out⟩
theorem ZcJ (cC cE cB cT cP cY cR:Nat) (cV:Bool) (to:Nat) (w:World) (cl:WF cC cE cB cT cP cY cR) (hto:to<4294967296) :
  Calls Tryz.prog 71 #[.agg #[.int .u32 cC,.int .u8 cE,.int .u16 cB,.int .u16 cT,.int .u16 cP,.int .u16 cY,.int .u32 cR,.bool cV],.int .u32 to] w fun e w'=>e = .returned (.agg #[.int .u32 to,.int .u8 cE,.int .u16 cB,.int .u16 cT,.int .u16 cP,.int .u16 cY,.int .u32 cR,.bool (YR cY cV&&W5 cE cB cT cC to)])∧Below w.heap.size w w':=by
 go_enter Tryz.func71,Tryz.ntmps71
 go_wp2_with fail
 refine(Zj3 to cE cB cT cP cY cR cV _ _ 133 134 #[] #[.pointer (some ⟨w.heap.size+1+1+1+1,0,none⟩),.pointer (some ⟨w.heap.size,0,none⟩)] #[] #[.pointer (some ⟨w.heap.size,0,none⟩),.pointer (some ⟨w.heap.size+1,0,none⟩)] (YR cY cV) (W5 cE cB cT cC to) (Blk.newAt (by simp) _ _) (fun W=>by kernel_rfl) (fun W=>by kernel_rfl)
  (fun W hW=>ZeK cC cE cB cT cP cY cR cV (w.heap.size+1+1+1+1) w.heap.size W (Blk.below (by(repeat (first|(with_reducible exact Blk.new _ _ _)|(with_reducible refine Blk.drewN ?_ _)|(with_reducible refine Blk.drew ?_)|exact Blk.newAt (by simp) _ _|(with_reducible refine Blk.alloc ?_ _)))) hW (by first|(simp; done)|(simp; omega))) (Blk.below (by(repeat (first|(with_reducible exact Blk.new _ _ _)|(with_reducible refine Blk.drewN ?_ _)|(with_reducible refine Blk.drew ?_)|exact Blk.newAt (by simp) _ _|(with_reducible refine Blk.alloc ?_ _)))) hW (by first|(simp; done)|(simp; omega))))
  (fun W hW=>ZeL cC cE cB cT cP cY cR cV to w.heap.size (w.heap.size+1) W cl hto (Blk.below (by(repeat (first|(with_reducible exact Blk.new _ _ _)|(with_reducible refine Blk.drewN ?_ _)|(with_reducible refine Blk.drew ?_)|exact Blk.newAt (by simp) _ _|(with_reducible refine Blk.alloc ?_ _)))) hW (by first|(simp; done)|(simp; omega))) (Blk.below (by(repeat (first|(with_reducible exact Blk.new _ _ _)|(with_reducible refine Blk.drewN ?_ _)|(with_reducible refine Blk.drew ?_)|exact Blk.newAt (by simp) _ _|(with_reducible refine Blk.alloc ?_ _)))) hW (by first|(simp; done)|(simp; omega))))).mono ?_
 rintro e w2 ⟨rfl,hb2⟩
 obtain⟨hc2,hf2⟩:=Y4 hb2
 have hz2:=hb2.size
 simp at hz2
 have HB2:=ZL hb2; clear hb2
 go_wp2
 refine bodyPost_ret (v:=.agg #[.int .u32 to,.int .u8 cE,.int .u16 cB,.int .u16 cT,.int .u16 cP,.int .u16 cY,.int .u32 cR,.bool (YR cY cV&&W5 cE cB cT cC to)]) (by simp[results,Tryz.results71,go_sem,hc2]) rfl ⟨rfl,?_⟩
 repeat (refine Below.setCell ?_ (by simp<;>omega) _)
 exact(Below.trans (by(repeat (first|(with_reducible exact Below.refl _ _)|(with_reducible refine Below.drew ?_)|(with_reducible refine Zy ?_ _)|(with_reducible refine Below.alloc ?_ (by simp<;>omega) _)|(with_reducible refine Below.setCell ?_ (by simp<;>omega) _)))) (HB2.out.mono (by simp; omega)))
attribute [local go_sem ↓] Go.wp_at_zero Go.wp_at_succ
def Kc (cC cP cY:Nat) (cV:Bool) (q x y:Nat):Bool:=YR cY cV&&(decide (cP&&&q≠0)&&(decide (1≤cC)&&(decide (cC≤4095)&&(decide (x≤cC)&&decide (cC<y)))))
theorem Ziq {p q:Nat} (hp:p<65536) (hq:q<65536):(bits .and .u16 (p:Int) (q:Int) !=0)=decide (p&&&q≠0):=by
 rw[u16_and_nat p q hp hq,Bool.eq_iff_iff]
 simp<;>omega
theorem Kd (cC cE cB cT cP cY cR:Nat) (cV:Bool) (q x y:Nat) (w:World) (cl:WF cC cE cB cT cP cY cR) (hq:q<65536) (hx:(Yl cE cB cT cC).1=x) (hy:(Yl cE cB cT cC).2=y) :
  Calls Tryz.prog 155 #[.agg #[.int .u32 cC,.int .u8 cE,.int .u16 cB,.int .u16 cT,.int .u16 cP,.int .u16 cY,.int .u32 cR,.bool cV],.int .u16 q] w fun e w'=>e = .returned (.bool (Kc cC cP cY cV q x y))∧Below w.heap.size w w':=by
 have HR:Hid (∀ W,Calls Tryz.prog 76 #[.agg #[.int .u32 cC,.int .u8 cE,.int .u16 cB,.int .u16 cT,.int .u16 cP,.int .u16 cY,.int .u32 cR,.bool cV]] W fun e' w'=>e' = .returned (.tuple #[.int .u32 x,.int .u64 y])∧Below W.heap.size W w'):=fun W=>Kb cC cE cB cT cP cY cR cV x y W cl hx hy
 have hxl:x<4294967296:=by rw[← hx]; exact(Zba _ _ _ _).1
 have hcl:cC<4294967296:=cl.1
 have hn:=Ziq cl.2.2.2.2.1 hq
 have hfr:=fun W=>XZ cC cE cB cT cP cY cR cV W
 clear hx hy
 obtain⟨kf,hkf⟩:∃ k,YR cY cV=k:=⟨_,rfl⟩
 obtain⟨kp,hkp⟩:∃ k,decide (cP&&&q≠0)=k:=⟨_,rfl⟩
 rw[hkp] at hn
 rw[hkf] at hfr
 have HF:=ZL hfr
 clear hfr
 have hov:Kc cC cP cY cV q x y=(kf&&(kp&&(decide (1≤cC)&&(decide (cC≤4095)&&(decide (x≤cC)&&decide (cC<y)))))):=by
  unfold Kc; rw[hkf,hkp]
 rw[hov]
 clear hov hkf hkp
 cases kf with
 | false =>
  have HV:Hid ((false&&(kp&&(decide (1≤cC)&&(decide (cC≤4095)&&(decide (x≤cC)&&decide (cC<y))))))=false):=rfl
  go_enter Tryz.func155,Tryz.ntmps155
  go_wp2_with fail
  refine(HR.out _).mono ?_
  rintro e w1 ⟨rfl,hb1⟩
  obtain⟨hc1,hf1⟩:=Y4 hb1
  have hz1:=hb1.size
  simp at hz1
  have l1:w.heap.size<w1.heap.size:=by omega
  have HB1:=ZL hb1; clear hb1
  go_wp2_with fail
  refine(HF.out _).mono ?_
  rintro e w2 ⟨rfl,hb2⟩
  obtain⟨hc2,hf2⟩:=Y4 hb2
  have HB2:=ZL hb2; clear hb2
  go_wp2
  go_ret
  exact⟨QU HV.out.symm,(((Below.refl _ _).alloc (Nat.le_refl _) _).trans (HB1.out.mono (by simp))).trans (HB2.out.mono (by omega))⟩
 | true =>
  cases kp with
  | false =>
   have HV:Hid ((true&&(false&&(decide (1≤cC)&&(decide (cC≤4095)&&(decide (x≤cC)&&decide (cC<y))))))=false):=rfl
   go_enter Tryz.func155,Tryz.ntmps155
   go_wp2_with fail
   refine(HR.out _).mono ?_
   rintro e w1 ⟨rfl,hb1⟩
   obtain⟨hc1,hf1⟩:=Y4 hb1
   have hz1:=hb1.size
   simp at hz1
   have l1:w.heap.size<w1.heap.size:=by omega
   have HB1:=ZL hb1; clear hb1
   go_wp2_with fail
   refine(HF.out _).mono ?_
   rintro e w2 ⟨rfl,hb2⟩
   obtain⟨hc2,hf2⟩:=Y4 hb2
   have HB2:=ZL hb2; clear hb2
   go_wp2
   go_ret
   exact⟨QU HV.out.symm,(((Below.refl _ _).alloc (Nat.le_refl _) _).trans (HB1.out.mono (by simp))).trans (HB2.out.mono (by omega))⟩
  | true =>
   by_cases c1:(1:Int)≤cC
   ·by_cases c2:(cC:Int)≤4095
    ·by_cases c3:x≤cC
     ·have HV:Hid ((true&&(true&&(decide (1≤cC)&&(decide (cC≤4095)&&(decide (x≤cC)&&decide (cC<y))))))=decide (cC<y)):=by
       show _=_
       rw[decide_eq_true (show 1≤cC by omega),decide_eq_true (show cC≤4095 by omega),decide_eq_true c3]; rfl
      go_enter Tryz.func155,Tryz.ntmps155
      go_wp2_with fail
      refine(HR.out _).mono ?_
      rintro e w1 ⟨rfl,hb1⟩
      obtain⟨hc1,hf1⟩:=Y4 hb1
      have hz1:=hb1.size
      simp at hz1
      have l1:w.heap.size<w1.heap.size:=by omega
      have HB1:=ZL hb1; clear hb1
      go_wp2_with fail
      refine(HF.out _).mono ?_
      rintro e w2 ⟨rfl,hb2⟩
      obtain⟨hc2,hf2⟩:=Y4 hb2
      have HB2:=ZL hb2; clear hb2
      go_wp2
      go_ret
      exact⟨QU HV.out.symm,(((Below.refl _ _).alloc (Nat.le_refl _) _).trans (HB1.out.mono (by simp))).trans (HB2.out.mono (by omega))⟩
     ·have d3:decide (x≤cC)=false:=by simpa using c3
      have HV:Hid ((true&&(true&&(decide (1≤cC)&&(decide (cC≤4095)&&(decide (x≤cC)&&decide (cC<y))))))=false):=by
       show _=_
       rw[d3]; simp
      go_enter Tryz.func155,Tryz.ntmps155
      go_wp2_with fail
      refine(HR.out _).mono ?_
      rintro e w1 ⟨rfl,hb1⟩
      obtain⟨hc1,hf1⟩:=Y4 hb1
      have hz1:=hb1.size
      simp at hz1
      have l1:w.heap.size<w1.heap.size:=by omega
      have HB1:=ZL hb1; clear hb1
      go_wp2_with fail
      refine(HF.out _).mono ?_
      rintro e w2 ⟨rfl,hb2⟩
      obtain⟨hc2,hf2⟩:=Y4 hb2
      have HB2:=ZL hb2; clear hb2
      go_wp2
      go_ret
      exact⟨QU HV.out.symm,(((Below.refl _ _).alloc (Nat.le_refl _) _).trans (HB1.out.mono (by simp))).trans (HB2.out.mono (by omega))⟩
    ·have d2:decide ((cC:Int)≤4095)=false:=by simpa using c2
     have HV:Hid ((true&&(true&&(decide (1≤cC)&&(decide (cC≤4095)&&(decide (x≤cC)&&decide (cC<y))))))=false):=by
      show _=_
      rw[decide_eq_false (show ¬ cC≤4095 by omega)]; simp
     go_enter Tryz.func155,Tryz.ntmps155
     go_wp2_with fail
     refine(HR.out _).mono ?_
     rintro e w1 ⟨rfl,hb1⟩
     obtain⟨hc1,hf1⟩:=Y4 hb1
     have hz1:=hb1.size
     simp at hz1
     have l1:w.heap.size<w1.heap.size:=by omega
     have HB1:=ZL hb1; clear hb1
     go_wp2_with fail
     refine(HF.out _).mono ?_
     rintro e w2 ⟨rfl,hb2⟩
     obtain⟨hc2,hf2⟩:=Y4 hb2
     have HB2:=ZL hb2; clear hb2
     go_wp2
     go_ret
     exact⟨QU HV.out.symm,(((Below.refl _ _).alloc (Nat.le_refl _) _).trans (HB1.out.mono (by simp))).trans (HB2.out.mono (by omega))⟩
   ·have d1:decide ((1:Int)≤cC)=false:=by simpa using c1
    have HV:Hid ((true&&(true&&(decide (1≤cC)&&(decide (cC≤4095)&&(decide (x≤cC)&&decide (cC<y))))))=false):=by
     show _=_
     rw[decide_eq_false (show ¬ 1≤cC by omega)]; simp
    go_enter Tryz.func155,Tryz.ntmps155
    go_wp2_with fail
    refine(HR.out _).mono ?_
    rintro e w1 ⟨rfl,hb1⟩
    obtain⟨hc1,hf1⟩:=Y4 hb1
    have hz1:=hb1.size
    simp at hz1
    have l1:w.heap.size<w1.heap.size:=by omega
    have HB1:=ZL hb1; clear hb1
    go_wp2_with fail
    refine(HF.out _).mono ?_
    rintro e w2 ⟨rfl,hb2⟩
    obtain⟨hc2,hf2⟩:=Y4 hb2
    have HB2:=ZL hb2; clear hb2
    go_wp2
    go_ret
    exact⟨QU HV.out.symm,(((Below.refl _ _).alloc (Nat.le_refl _) _).trans (HB1.out.mono (by simp))).trans (HB2.out.mono (by omega))⟩
attribute [local go_sem ↓] Go.wp_at_zero Go.wp_at_succ
theorem Zgu {cC cP cY:Nat} {cV:Bool} {q x y:Nat} (h:Kc cC cP cY cV q x y=true):(cC:Int)≤4095∧1≤cC:=by
 simp only[rr, tt, Kc,Bool.and_eq_true,decide_eq_true_eq] at h; omega
theorem Zj4 (cC cE cB cT cP cY cR:Nat) (cV:Bool) (bC bE bB bT bP bY bR:Nat) (bV:Bool) (w:World) (h:YR cY cV=false) :
  Calls Tryz.prog 81 #[.agg #[.int .u32 cC,.int .u8 cE,.int .u16 cB,.int .u16 cT,.int .u16 cP,.int .u16 cY,.int .u32 cR,.bool cV],.agg #[.int .u32 bC,.int .u8 bE,.int .u16 bB,.int .u16 bT,.int .u16 bP,.int .u16 bY,.int .u32 bR,.bool bV]] w fun e w'=>e = .returned (.agg #[.int .u32 cC,.int .u8 cE,.int .u16 cB,.int .u16 cT,.int .u16 cP,.int .u16 cY,.int .u32 cR,.bool false])∧Below w.heap.size w w':=by
 have hfr:=fun W=>XZ cC cE cB cT cP cY cR cV W
 rw[h] at hfr
 have HF:=ZL hfr
 clear hfr h
 have hq0:Blk (((w.alloc (.cells #[.int .u32 cC,.int .u8 cE,.int .u16 cB,.int .u16 cT,.int .u16 cP,.int .u16 cY,.int .u32 cR,.bool cV] 30)).alloc (.cells #[.int .u32 bC,.int .u8 bE,.int .u16 bB,.int .u16 bT,.int .u16 bP,.int .u16 bY,.int .u32 bR,.bool bV] 30)).alloc (.cells #[.int .u32 0,.int .u8 0,.int .u16 0,.int .u16 0,.int .u16 0,.int .u16 0,.int .u32 0,.bool false] 30)) w.heap.size 30 #[.int .u32 cC,.int .u8 cE,.int .u16 cB,.int .u16 cT,.int .u16 cP,.int .u16 cY,.int .u32 cR,.bool cV]:=by(repeat (first|(with_reducible exact Blk.new _ _ _)|(with_reducible refine Blk.drewN ?_ _)|(with_reducible refine Blk.drew ?_)|exact Blk.newAt (by simp) _ _|(with_reducible refine Blk.alloc ?_ _)))
 have hq1:Blk (((w.alloc (.cells #[.int .u32 cC,.int .u8 cE,.int .u16 cB,.int .u16 cT,.int .u16 cP,.int .u16 cY,.int .u32 cR,.bool cV] 30)).alloc (.cells #[.int .u32 bC,.int .u8 bE,.int .u16 bB,.int .u16 bT,.int .u16 bP,.int .u16 bY,.int .u32 bR,.bool bV] 30)).alloc (.cells #[.int .u32 0,.int .u8 0,.int .u16 0,.int .u16 0,.int .u16 0,.int .u16 0,.int .u32 0,.bool false] 30)) (w.heap.size+1) 30 #[.int .u32 bC,.int .u8 bE,.int .u16 bB,.int .u16 bT,.int .u16 bP,.int .u16 bY,.int .u32 bR,.bool bV]:=by(repeat (first|(with_reducible exact Blk.new _ _ _)|(with_reducible refine Blk.drewN ?_ _)|(with_reducible refine Blk.drew ?_)|exact Blk.newAt (by simp) _ _|(with_reducible refine Blk.alloc ?_ _)))
 have hq2:Blk (((w.alloc (.cells #[.int .u32 cC,.int .u8 cE,.int .u16 cB,.int .u16 cT,.int .u16 cP,.int .u16 cY,.int .u32 cR,.bool cV] 30)).alloc (.cells #[.int .u32 bC,.int .u8 bE,.int .u16 bB,.int .u16 bT,.int .u16 bP,.int .u16 bY,.int .u32 bR,.bool bV] 30)).alloc (.cells #[.int .u32 0,.int .u8 0,.int .u16 0,.int .u16 0,.int .u16 0,.int .u16 0,.int .u32 0,.bool false] 30)) (w.heap.size+1+1) 30 #[.int .u32 0,.int .u8 0,.int .u16 0,.int .u16 0,.int .u16 0,.int .u16 0,.int .u32 0,.bool false]:=by(repeat (first|(with_reducible exact Blk.new _ _ _)|(with_reducible refine Blk.drewN ?_ _)|(with_reducible refine Blk.drew ?_)|exact Blk.newAt (by simp) _ _|(with_reducible refine Blk.alloc ?_ _)))
 have kb:Below w.heap.size w (((w.alloc (.cells #[.int .u32 cC,.int .u8 cE,.int .u16 cB,.int .u16 cT,.int .u16 cP,.int .u16 cY,.int .u32 cR,.bool cV] 30)).alloc (.cells #[.int .u32 bC,.int .u8 bE,.int .u16 bB,.int .u16 bT,.int .u16 bP,.int .u16 bY,.int .u32 bR,.bool bV] 30)).alloc (.cells #[.int .u32 0,.int .u8 0,.int .u16 0,.int .u16 0,.int .u16 0,.int .u16 0,.int .u32 0,.bool false] 30)):=by(repeat (first|(with_reducible exact Below.refl _ _)|(with_reducible refine Below.drew ?_)|(with_reducible refine Zy ?_ _)|(with_reducible refine Below.alloc ?_ (by simp<;>omega) _)|(with_reducible refine Below.setCell ?_ (by simp<;>omega) _)))
 have hsz:(((w.alloc (.cells #[.int .u32 cC,.int .u8 cE,.int .u16 cB,.int .u16 cT,.int .u16 cP,.int .u16 cY,.int .u32 cR,.bool cV] 30)).alloc (.cells #[.int .u32 bC,.int .u8 bE,.int .u16 bB,.int .u16 bT,.int .u16 bP,.int .u16 bY,.int .u32 bR,.bool bV] 30)).alloc (.cells #[.int .u32 0,.int .u8 0,.int .u16 0,.int .u16 0,.int .u16 0,.int .u16 0,.int .u32 0,.bool false] 30)).heap.size=w.heap.size+1+1+1:=by simp
 go_enter Tryz.func81,Tryz.ntmps81
 go_wp2_with fail
 refine(HF.out _).mono ?_
 rintro e w1 ⟨rfl,hb1⟩
 have hq0:=(hq0).below hb1 (by first|omega|(simp; omega))
 have hq1:=(hq1).below hb1 (by first|omega|(simp; omega))
 have hq2:=(hq2).below hb1 (by first|omega|(simp; omega))
 have kb:=(kb).trans (hb1.mono kb.size)
 have hsz1:w.heap.size+1+1+1≤w1.heap.size:=by have:=hb1.size; omega
 clear hb1
 have p0:=hq0.cell 0
 have pz0:=hq0.frozen 0
 have p1:=hq0.cell 1
 have pz1:=hq0.frozen 1
 have p2:=hq0.cell 2
 have pz2:=hq0.frozen 2
 have p3:=hq0.cell 3
 have pz3:=hq0.frozen 3
 have p4:=hq0.cell 4
 have pz4:=hq0.frozen 4
 have p5:=hq0.cell 5
 have pz5:=hq0.frozen 5
 have p6:=hq0.cell 6
 have pz6:=hq0.frozen 6
 have p7:=hq0.cell 7
 have pz7:=hq0.frozen 7
 simp at p0 p1 p2 p3 p4 p5 p6 p7
 have s0:=hq1.cell 0
 have s1:=hq1.cell 1
 have s2:=hq1.cell 2
 have s3:=hq1.cell 3
 have s4:=hq1.cell 4
 have s5:=hq1.cell 5
 have s6:=hq1.cell 6
 have s7:=hq1.cell 7
 simp at s0 s1 s2 s3 s4 s5 s6 s7
 have r0:=hq2.cell 0
 have rz0:=hq2.frozen 0
 have r1:=hq2.cell 1
 have rz1:=hq2.frozen 1
 have r2:=hq2.cell 2
 have rz2:=hq2.frozen 2
 have r3:=hq2.cell 3
 have rz3:=hq2.frozen 3
 have r4:=hq2.cell 4
 have rz4:=hq2.frozen 4
 have r5:=hq2.cell 5
 have rz5:=hq2.frozen 5
 have r6:=hq2.cell 6
 have rz6:=hq2.frozen 6
 have r7:=hq2.cell 7
 have rz7:=hq2.frozen 7
 simp at r0 r1 r2 r3 r4 r5 r6 r7
 have HK:=ZL kb
 have H0:=ZL hq0
 have H1:=ZL hq1
 have H2:=ZL hq2
 clear kb hq0 hq1 hq2
 go_wp2_with fail
 have kb:=HK.out
 have hq0:=H0.out
 have hq1:=H1.out
 have hq2:=H2.out
 clear HK H0 H1 H2
 refine(X0 cC cE cB cT cP cY cR cV _ _ (Blk.new _ _ _)).mono ?_
 rintro e w2 ⟨rfl,hb2⟩
 have hq0:=(hq0.alloc _).below hb2 (by first|omega|(simp; omega))
 have hq1:=(hq1.alloc _).below hb2 (by first|omega|(simp; omega))
 have hq2:=(hq2.alloc _).below hb2 (by first|omega|(simp; omega))
 have kb:=(kb.alloc kb.size _).trans (hb2.mono (by simp; have:=kb.size; omega))
 have hsz2:w.heap.size+1+1+1≤w2.heap.size:=by have:=hb2.size; simp at this; omega
 clear hb2
 clear p0 p1 p2 p3 p4 p5 p6 p7 s0 s1 s2 s3 s4 s5 s6 s7 r0 r1 r2 r3 r4 r5 r6 r7 pz0 rz0 pz1 rz1 pz2 rz2 pz3 rz3 pz4 rz4 pz5 rz5 pz6 rz6 pz7 rz7
 have r0:=hq2.cell 0
 have rz0:=hq2.frozen 0
 have r1:=hq2.cell 1
 have rz1:=hq2.frozen 1
 have r2:=hq2.cell 2
 have rz2:=hq2.frozen 2
 have r3:=hq2.cell 3
 have rz3:=hq2.frozen 3
 have r4:=hq2.cell 4
 have rz4:=hq2.frozen 4
 have r5:=hq2.cell 5
 have rz5:=hq2.frozen 5
 have r6:=hq2.cell 6
 have rz6:=hq2.frozen 6
 have r7:=hq2.cell 7
 have rz7:=hq2.frozen 7
 simp at r0 r1 r2 r3 r4 r5 r6 r7
 have HK:=ZL kb
 clear kb hq0 hq1 hq2
 go_wp2
 refine bodyPost_ret (v:=.agg #[.int .u32 cC,.int .u8 cE,.int .u16 cB,.int .u16 cT,.int .u16 cP,.int .u16 cY,.int .u32 cR,.bool false]) (by simp[results,Tryz.results81,go_sem,r0,r1,r2,r3,r4,r5,r6,r7]) rfl ⟨rfl,?_⟩
 repeat (first|(with_reducible refine Below.setCell ?_ (by simp<;>omega) _))
 exact HK.out
theorem Zj5 (cC cE cB cT cP cY cR:Nat) (cV:Bool) (bC bE bB bT bP bY bR:Nat) (bV:Bool) (x y:Nat) (w:World) (bl:WF bC bE bB bT bP bY bR) (hx:(Yl bE bB bT bC).1=x) (hy:(Yl bE bB bT bC).2=y) (h:YR cY cV=true) (ho:Kc bC bP bY bV 32 x y=false) :
  Calls Tryz.prog 81 #[.agg #[.int .u32 cC,.int .u8 cE,.int .u16 cB,.int .u16 cT,.int .u16 cP,.int .u16 cY,.int .u32 cR,.bool cV],.agg #[.int .u32 bC,.int .u8 bE,.int .u16 bB,.int .u16 bT,.int .u16 bP,.int .u16 bY,.int .u32 bR,.bool bV]] w fun e w'=>e = .returned (.agg #[.int .u32 cC,.int .u8 cE,.int .u16 cB,.int .u16 cT,.int .u16 cP,.int .u16 cY,.int .u32 cR,.bool false])∧Below w.heap.size w w':=by
 have hfr:=fun W=>XZ cC cE cB cT cP cY cR cV W
 rw[h] at hfr
 have HF:=ZL hfr
 have hov:=fun W=>Kd bC bE bB bT bP bY bR bV 32 x y W bl (by omega) hx hy
 rw[ho] at hov
 have HO:=ZL hov
 clear hfr h hov ho hx hy
 have hq0:Blk (((w.alloc (.cells #[.int .u32 cC,.int .u8 cE,.int .u16 cB,.int .u16 cT,.int .u16 cP,.int .u16 cY,.int .u32 cR,.bool cV] 30)).alloc (.cells #[.int .u32 bC,.int .u8 bE,.int .u16 bB,.int .u16 bT,.int .u16 bP,.int .u16 bY,.int .u32 bR,.bool bV] 30)).alloc (.cells #[.int .u32 0,.int .u8 0,.int .u16 0,.int .u16 0,.int .u16 0,.int .u16 0,.int .u32 0,.bool false] 30)) w.heap.size 30 #[.int .u32 cC,.int .u8 cE,.int .u16 cB,.int .u16 cT,.int .u16 cP,.int .u16 cY,.int .u32 cR,.bool cV]:=by(repeat (first|(with_reducible exact Blk.new _ _ _)|(with_reducible refine Blk.drewN ?_ _)|(with_reducible refine Blk.drew ?_)|exact Blk.newAt (by simp) _ _|(with_reducible refine Blk.alloc ?_ _)))
 have hq1:Blk (((w.alloc (.cells #[.int .u32 cC,.int .u8 cE,.int .u16 cB,.int .u16 cT,.int .u16 cP,.int .u16 cY,.int .u32 cR,.bool cV] 30)).alloc (.cells #[.int .u32 bC,.int .u8 bE,.int .u16 bB,.int .u16 bT,.int .u16 bP,.int .u16 bY,.int .u32 bR,.bool bV] 30)).alloc (.cells #[.int .u32 0,.int .u8 0,.int .u16 0,.int .u16 0,.int .u16 0,.int .u16 0,.int .u32 0,.bool false] 30)) (w.heap.size+1) 30 #[.int .u32 bC,.int .u8 bE,.int .u16 bB,.int .u16 bT,.int .u16 bP,.int .u16 bY,.int .u32 bR,.bool bV]:=by(repeat (first|(with_reducible exact Blk.new _ _ _)|(with_reducible refine Blk.drewN ?_ _)|(with_reducible refine Blk.drew ?_)|exact Blk.newAt (by simp) _ _|(with_reducible refine Blk.alloc ?_ _)))
 have hq2:Blk (((w.alloc (.cells #[.int .u32 cC,.int .u8 cE,.int .u16 cB,.int .u16 cT,.int .u16 cP,.int .u16 cY,.int .u32 cR,.bool cV] 30)).alloc (.cells #[.int .u32 bC,.int .u8 bE,.int .u16 bB,.int .u16 bT,.int .u16 bP,.int .u16 bY,.int .u32 bR,.bool bV] 30)).alloc (.cells #[.int .u32 0,.int .u8 0,.int .u16 0,.int .u16 0,.int .u16 0,.int .u16 0,.int .u32 0,.bool false] 30)) (w.heap.size+1+1) 30 #[.int .u32 0,.int .u8 0,.int .u16 0,.int .u16 0,.int .u16 0,.int .u16 0,.int .u32 0,.bool false]:=by(repeat (first|(with_reducible exact Blk.new _ _ _)|(with_reducible refine Blk.drewN ?_ _)|(with_reducible refine Blk.drew ?_)|exact Blk.newAt (by simp) _ _|(with_reducible refine Blk.alloc ?_ _)))
 have kb:Below w.heap.size w (((w.alloc (.cells #[.int .u32 cC,.int .u8 cE,.int .u16 cB,.int .u16 cT,.int .u16 cP,.int .u16 cY,.int .u32 cR,.bool cV] 30)).alloc (.cells #[.int .u32 bC,.int .u8 bE,.int .u16 bB,.int .u16 bT,.int .u16 bP,.int .u16 bY,.int .u32 bR,.bool bV] 30)).alloc (.cells #[.int .u32 0,.int .u8 0,.int .u16 0,.int .u16 0,.int .u16 0,.int .u16 0,.int .u32 0,.bool false] 30)):=by(repeat (first|(with_reducible exact Below.refl _ _)|(with_reducible refine Below.drew ?_)|(with_reducible refine Zy ?_ _)|(with_reducible refine Below.alloc ?_ (by simp<;>omega) _)|(with_reducible refine Below.setCell ?_ (by simp<;>omega) _)))
 have hsz:(((w.alloc (.cells #[.int .u32 cC,.int .u8 cE,.int .u16 cB,.int .u16 cT,.int .u16 cP,.int .u16 cY,.int .u32 cR,.bool cV] 30)).alloc (.cells #[.int .u32 bC,.int .u8 bE,.int .u16 bB,.int .u16 bT,.int .u16 bP,.int .u16 bY,.int .u32 bR,.bool bV] 30)).alloc (.cells #[.int .u32 0,.int .u8 0,.int .u16 0,.int .u16 0,.int .u16 0,.int .u16 0,.int .u32 0,.bool false] 30)).heap.size=w.heap.size+1+1+1:=by simp
 go_enter Tryz.func81,Tryz.ntmps81
 go_wp2_with fail
 refine(HF.out _).mono ?_
 rintro e w1 ⟨rfl,hb1⟩
 have hq0:=(hq0).below hb1 (by first|omega|(simp; omega))
 have hq1:=(hq1).below hb1 (by first|omega|(simp; omega))
 have hq2:=(hq2).below hb1 (by first|omega|(simp; omega))
 have kb:=(kb).trans (hb1.mono kb.size)
 have hsz1:w.heap.size+1+1+1≤w1.heap.size:=by have:=hb1.size; omega
 clear hb1
 have p0:=hq0.cell 0
 have pz0:=hq0.frozen 0
 have p1:=hq0.cell 1
 have pz1:=hq0.frozen 1
 have p2:=hq0.cell 2
 have pz2:=hq0.frozen 2
 have p3:=hq0.cell 3
 have pz3:=hq0.frozen 3
 have p4:=hq0.cell 4
 have pz4:=hq0.frozen 4
 have p5:=hq0.cell 5
 have pz5:=hq0.frozen 5
 have p6:=hq0.cell 6
 have pz6:=hq0.frozen 6
 have p7:=hq0.cell 7
 have pz7:=hq0.frozen 7
 simp at p0 p1 p2 p3 p4 p5 p6 p7
 have s0:=hq1.cell 0
 have s1:=hq1.cell 1
 have s2:=hq1.cell 2
 have s3:=hq1.cell 3
 have s4:=hq1.cell 4
 have s5:=hq1.cell 5
 have s6:=hq1.cell 6
 have s7:=hq1.cell 7
 simp at s0 s1 s2 s3 s4 s5 s6 s7
 have r0:=hq2.cell 0
 have rz0:=hq2.frozen 0
 have r1:=hq2.cell 1
 have rz1:=hq2.frozen 1
 have r2:=hq2.cell 2
 have rz2:=hq2.frozen 2
 have r3:=hq2.cell 3
 have rz3:=hq2.frozen 3
 have r4:=hq2.cell 4
 have rz4:=hq2.frozen 4
 have r5:=hq2.cell 5
 have rz5:=hq2.frozen 5
 have r6:=hq2.cell 6
 have rz6:=hq2.frozen 6
 have r7:=hq2.cell 7
 have rz7:=hq2.frozen 7
 simp at r0 r1 r2 r3 r4 r5 r6 r7
 have HK:=ZL kb
 have H0:=ZL hq0
 have H1:=ZL hq1
 have H2:=ZL hq2
 clear kb hq0 hq1 hq2
 go_wp2_with fail
 have kb:=HK.out
 have hq0:=H0.out
 have hq1:=H1.out
 have hq2:=H2.out
 clear HK H0 H1 H2
 refine(HO.out _).mono ?_
 rintro e w2 ⟨rfl,hb2⟩
 have hq0:=(hq0).below hb2 (by first|omega|(simp; omega))
 have hq1:=(hq1).below hb2 (by first|omega|(simp; omega))
 have hq2:=(hq2).below hb2 (by first|omega|(simp; omega))
 have kb:=(kb).trans (hb2.mono kb.size)
 have hsz2:w.heap.size+1+1+1≤w2.heap.size:=by have:=hb2.size; omega
 clear hb2
 clear p0 p1 p2 p3 p4 p5 p6 p7 s0 s1 s2 s3 s4 s5 s6 s7 r0 r1 r2 r3 r4 r5 r6 r7 pz0 rz0 pz1 rz1 pz2 rz2 pz3 rz3 pz4 rz4 pz5 rz5 pz6 rz6 pz7 rz7
 have p0:=hq0.cell 0
 have pz0:=hq0.frozen 0
 have p1:=hq0.cell 1
 have pz1:=hq0.frozen 1
 have p2:=hq0.cell 2
 have pz2:=hq0.frozen 2
 have p3:=hq0.cell 3
 have pz3:=hq0.frozen 3
 have p4:=hq0.cell 4
 have pz4:=hq0.frozen 4
 have p5:=hq0.cell 5
 have pz5:=hq0.frozen 5
 have p6:=hq0.cell 6
 have pz6:=hq0.frozen 6
 have p7:=hq0.cell 7
 have pz7:=hq0.frozen 7
 simp at p0 p1 p2 p3 p4 p5 p6 p7
 have s0:=hq1.cell 0
 have s1:=hq1.cell 1
 have s2:=hq1.cell 2
 have s3:=hq1.cell 3
 have s4:=hq1.cell 4
 have s5:=hq1.cell 5
 have s6:=hq1.cell 6
 have s7:=hq1.cell 7
 simp at s0 s1 s2 s3 s4 s5 s6 s7
 have r0:=hq2.cell 0
 have rz0:=hq2.frozen 0
 have r1:=hq2.cell 1
 have rz1:=hq2.frozen 1
 have r2:=hq2.cell 2
 have rz2:=hq2.frozen 2
 have r3:=hq2.cell 3
 have rz3:=hq2.frozen 3
 have r4:=hq2.cell 4
 have rz4:=hq2.frozen 4
 have r5:=hq2.cell 5
 have rz5:=hq2.frozen 5
 have r6:=hq2.cell 6
 have rz6:=hq2.frozen 6
 have r7:=hq2.cell 7
 have rz7:=hq2.frozen 7
 simp at r0 r1 r2 r3 r4 r5 r6 r7
 have HK:=ZL kb
 have H0:=ZL hq0
 have H1:=ZL hq1
 have H2:=ZL hq2
 clear kb hq0 hq1 hq2
 go_wp2_with fail
 have kb:=HK.out
 have hq0:=H0.out
 have hq1:=H1.out
 have hq2:=H2.out
 clear HK H0 H1 H2
 refine(X0 cC cE cB cT cP cY cR cV _ _ (Blk.new _ _ _)).mono ?_
 rintro e w3 ⟨rfl,hb3⟩
 have hq0:=(hq0.alloc _).below hb3 (by first|omega|(simp; omega))
 have hq1:=(hq1.alloc _).below hb3 (by first|omega|(simp; omega))
 have hq2:=(hq2.alloc _).below hb3 (by first|omega|(simp; omega))
 have kb:=(kb.alloc kb.size _).trans (hb3.mono (by simp; have:=kb.size; omega))
 have hsz3:w.heap.size+1+1+1≤w3.heap.size:=by have:=hb3.size; simp at this; omega
 clear hb3
 clear p0 p1 p2 p3 p4 p5 p6 p7 s0 s1 s2 s3 s4 s5 s6 s7 r0 r1 r2 r3 r4 r5 r6 r7 pz0 rz0 pz1 rz1 pz2 rz2 pz3 rz3 pz4 rz4 pz5 rz5 pz6 rz6 pz7 rz7
 have r0:=hq2.cell 0
 have rz0:=hq2.frozen 0
 have r1:=hq2.cell 1
 have rz1:=hq2.frozen 1
 have r2:=hq2.cell 2
 have rz2:=hq2.frozen 2
 have r3:=hq2.cell 3
 have rz3:=hq2.frozen 3
 have r4:=hq2.cell 4
 have rz4:=hq2.frozen 4
 have r5:=hq2.cell 5
 have rz5:=hq2.frozen 5
 have r6:=hq2.cell 6
 have rz6:=hq2.frozen 6
 have r7:=hq2.cell 7
 have rz7:=hq2.frozen 7
 simp at r0 r1 r2 r3 r4 r5 r6 r7
 have HK:=ZL kb
 clear kb hq0 hq1 hq2
 go_wp2
 refine bodyPost_ret (v:=.agg #[.int .u32 cC,.int .u8 cE,.int .u16 cB,.int .u16 cT,.int .u16 cP,.int .u16 cY,.int .u32 cR,.bool false]) (by simp[results,Tryz.results81,go_sem,r0,r1,r2,r3,r4,r5,r6,r7]) rfl ⟨rfl,?_⟩
 repeat (first|(with_reducible refine Below.setCell ?_ (by simp<;>omega) _))
 exact HK.out
theorem Zj6 (cC cE cB cT cP cY cR:Nat) (cV:Bool) (bC bE bB bT bP bY bR:Nat) (bV:Bool) (x y:Nat) (w:World) (bl:WF bC bE bB bT bP bY bR) (hx:(Yl bE bB bT bC).1=x) (hy:(Yl bE bB bT bC).2=y) (h:YR cY cV=true) (ho:Kc bC bP bY bV 32 x y=true) :
  Calls Tryz.prog 81 #[.agg #[.int .u32 cC,.int .u8 cE,.int .u16 cB,.int .u16 cT,.int .u16 cP,.int .u16 cY,.int .u32 cR,.bool cV],.agg #[.int .u32 bC,.int .u8 bE,.int .u16 bB,.int .u16 bT,.int .u16 bP,.int .u16 bY,.int .u32 bR,.bool bV]] w fun e w'=>e = .returned (.agg #[.int .u32 cC,.int .u8 cE,.int .u16 cB,.int .u16 cT,.int .u16 cP,.int .u16 bC,.int .u32 cR,.bool cV])∧Below w.heap.size w w':=by
 have hfr:=fun W=>XZ cC cE cB cT cP cY cR cV W
 rw[h] at hfr
 have HF:=ZL hfr
 have hov:=fun W=>Kd bC bE bB bT bP bY bR bV 32 x y W bl (by omega) hx hy
 rw[ho] at hov
 have HO:=ZL hov
 have hb4:=Zgu ho
 clear hfr h hov ho hx hy
 have hq0:Blk (((w.alloc (.cells #[.int .u32 cC,.int .u8 cE,.int .u16 cB,.int .u16 cT,.int .u16 cP,.int .u16 cY,.int .u32 cR,.bool cV] 30)).alloc (.cells #[.int .u32 bC,.int .u8 bE,.int .u16 bB,.int .u16 bT,.int .u16 bP,.int .u16 bY,.int .u32 bR,.bool bV] 30)).alloc (.cells #[.int .u32 0,.int .u8 0,.int .u16 0,.int .u16 0,.int .u16 0,.int .u16 0,.int .u32 0,.bool false] 30)) w.heap.size 30 #[.int .u32 cC,.int .u8 cE,.int .u16 cB,.int .u16 cT,.int .u16 cP,.int .u16 cY,.int .u32 cR,.bool cV]:=by(repeat (first|(with_reducible exact Blk.new _ _ _)|(with_reducible refine Blk.drewN ?_ _)|(with_reducible refine Blk.drew ?_)|exact Blk.newAt (by simp) _ _|(with_reducible refine Blk.alloc ?_ _)))
 have hq1:Blk (((w.alloc (.cells #[.int .u32 cC,.int .u8 cE,.int .u16 cB,.int .u16 cT,.int .u16 cP,.int .u16 cY,.int .u32 cR,.bool cV] 30)).alloc (.cells #[.int .u32 bC,.int .u8 bE,.int .u16 bB,.int .u16 bT,.int .u16 bP,.int .u16 bY,.int .u32 bR,.bool bV] 30)).alloc (.cells #[.int .u32 0,.int .u8 0,.int .u16 0,.int .u16 0,.int .u16 0,.int .u16 0,.int .u32 0,.bool false] 30)) (w.heap.size+1) 30 #[.int .u32 bC,.int .u8 bE,.int .u16 bB,.int .u16 bT,.int .u16 bP,.int .u16 bY,.int .u32 bR,.bool bV]:=by(repeat (first|(with_reducible exact Blk.new _ _ _)|(with_reducible refine Blk.drewN ?_ _)|(with_reducible refine Blk.drew ?_)|exact Blk.newAt (by simp) _ _|(with_reducible refine Blk.alloc ?_ _)))
 have hq2:Blk (((w.alloc (.cells #[.int .u32 cC,.int .u8 cE,.int .u16 cB,.int .u16 cT,.int .u16 cP,.int .u16 cY,.int .u32 cR,.bool cV] 30)).alloc (.cells #[.int .u32 bC,.int .u8 bE,.int .u16 bB,.int .u16 bT,.int .u16 bP,.int .u16 bY,.int .u32 bR,.bool bV] 30)).alloc (.cells #[.int .u32 0,.int .u8 0,.int .u16 0,.int .u16 0,.int .u16 0,.int .u16 0,.int .u32 0,.bool false] 30)) (w.heap.size+1+1) 30 #[.int .u32 0,.int .u8 0,.int .u16 0,.int .u16 0,.int .u16 0,.int .u16 0,.int .u32 0,.bool false]:=by(repeat (first|(with_reducible exact Blk.new _ _ _)|(with_reducible refine Blk.drewN ?_ _)|(with_reducible refine Blk.drew ?_)|exact Blk.newAt (by simp) _ _|(with_reducible refine Blk.alloc ?_ _)))
 have kb:Below w.heap.size w (((w.alloc (.cells #[.int .u32 cC,.int .u8 cE,.int .u16 cB,.int .u16 cT,.int .u16 cP,.int .u16 cY,.int .u32 cR,.bool cV] 30)).alloc (.cells #[.int .u32 bC,.int .u8 bE,.int .u16 bB,.int .u16 bT,.int .u16 bP,.int .u16 bY,.int .u32 bR,.bool bV] 30)).alloc (.cells #[.int .u32 0,.int .u8 0,.int .u16 0,.int .u16 0,.int .u16 0,.int .u16 0,.int .u32 0,.bool false] 30)):=by(repeat (first|(with_reducible exact Below.refl _ _)|(with_reducible refine Below.drew ?_)|(with_reducible refine Zy ?_ _)|(with_reducible refine Below.alloc ?_ (by simp<;>omega) _)|(with_reducible refine Below.setCell ?_ (by simp<;>omega) _)))
 have hsz:(((w.alloc (.cells #[.int .u32 cC,.int .u8 cE,.int .u16 cB,.int .u16 cT,.int .u16 cP,.int .u16 cY,.int .u32 cR,.bool cV] 30)).alloc (.cells #[.int .u32 bC,.int .u8 bE,.int .u16 bB,.int .u16 bT,.int .u16 bP,.int .u16 bY,.int .u32 bR,.bool bV] 30)).alloc (.cells #[.int .u32 0,.int .u8 0,.int .u16 0,.int .u16 0,.int .u16 0,.int .u16 0,.int .u32 0,.bool false] 30)).heap.size=w.heap.size+1+1+1:=by simp
 go_enter Tryz.func81,Tryz.ntmps81
 go_wp2_with fail
 refine(HF.out _).mono ?_
 rintro e w1 ⟨rfl,hb1⟩
 have hq0:=(hq0).below hb1 (by first|omega|(simp; omega))
 have hq1:=(hq1).below hb1 (by first|omega|(simp; omega))
 have hq2:=(hq2).below hb1 (by first|omega|(simp; omega))
 have kb:=(kb).trans (hb1.mono kb.size)
 have hsz1:w.heap.size+1+1+1≤w1.heap.size:=by have:=hb1.size; omega
 clear hb1
 have p0:=hq0.cell 0
 have pz0:=hq0.frozen 0
 have p1:=hq0.cell 1
 have pz1:=hq0.frozen 1
 have p2:=hq0.cell 2
 have pz2:=hq0.frozen 2
 have p3:=hq0.cell 3
 have pz3:=hq0.frozen 3
 have p4:=hq0.cell 4
 have pz4:=hq0.frozen 4
 have p5:=hq0.cell 5
 have pz5:=hq0.frozen 5
 have p6:=hq0.cell 6
 have pz6:=hq0.frozen 6
 have p7:=hq0.cell 7
 have pz7:=hq0.frozen 7
 simp at p0 p1 p2 p3 p4 p5 p6 p7
 have s0:=hq1.cell 0
 have s1:=hq1.cell 1
 have s2:=hq1.cell 2
 have s3:=hq1.cell 3
 have s4:=hq1.cell 4
 have s5:=hq1.cell 5
 have s6:=hq1.cell 6
 have s7:=hq1.cell 7
 simp at s0 s1 s2 s3 s4 s5 s6 s7
 have r0:=hq2.cell 0
 have rz0:=hq2.frozen 0
 have r1:=hq2.cell 1
 have rz1:=hq2.frozen 1
 have r2:=hq2.cell 2
 have rz2:=hq2.frozen 2
 have r3:=hq2.cell 3
 have rz3:=hq2.frozen 3
 have r4:=hq2.cell 4
 have rz4:=hq2.frozen 4
 have r5:=hq2.cell 5
 have rz5:=hq2.frozen 5
 have r6:=hq2.cell 6
 have rz6:=hq2.frozen 6
 have r7:=hq2.cell 7
 have rz7:=hq2.frozen 7
 simp at r0 r1 r2 r3 r4 r5 r6 r7
 have HK:=ZL kb
 have H0:=ZL hq0
 have H1:=ZL hq1
 have H2:=ZL hq2
 clear kb hq0 hq1 hq2
 go_wp2_with fail
 have kb:=HK.out
 have hq0:=H0.out
 have hq1:=H1.out
 have hq2:=H2.out
 clear HK H0 H1 H2
 refine(HO.out _).mono ?_
 rintro e w2 ⟨rfl,hb2⟩
 have hq0:=(hq0).below hb2 (by first|omega|(simp; omega))
 have hq1:=(hq1).below hb2 (by first|omega|(simp; omega))
 have hq2:=(hq2).below hb2 (by first|omega|(simp; omega))
 have kb:=(kb).trans (hb2.mono kb.size)
 have hsz2:w.heap.size+1+1+1≤w2.heap.size:=by have:=hb2.size; omega
 clear hb2
 clear p0 p1 p2 p3 p4 p5 p6 p7 s0 s1 s2 s3 s4 s5 s6 s7 r0 r1 r2 r3 r4 r5 r6 r7 pz0 rz0 pz1 rz1 pz2 rz2 pz3 rz3 pz4 rz4 pz5 rz5 pz6 rz6 pz7 rz7
 have p0:=hq0.cell 0
 have pz0:=hq0.frozen 0
 have p1:=hq0.cell 1
 have pz1:=hq0.frozen 1
 have p2:=hq0.cell 2
 have pz2:=hq0.frozen 2
 have p3:=hq0.cell 3
 have pz3:=hq0.frozen 3
 have p4:=hq0.cell 4
 have pz4:=hq0.frozen 4
 have p5:=hq0.cell 5
 have pz5:=hq0.frozen 5
 have p6:=hq0.cell 6
 have pz6:=hq0.frozen 6
 have p7:=hq0.cell 7
 have pz7:=hq0.frozen 7
 simp at p0 p1 p2 p3 p4 p5 p6 p7
 have s0:=hq1.cell 0
 have s1:=hq1.cell 1
 have s2:=hq1.cell 2
 have s3:=hq1.cell 3
 have s4:=hq1.cell 4
 have s5:=hq1.cell 5
 have s6:=hq1.cell 6
 have s7:=hq1.cell 7
 simp at s0 s1 s2 s3 s4 s5 s6 s7
 have r0:=hq2.cell 0
 have rz0:=hq2.frozen 0
 have r1:=hq2.cell 1
 have rz1:=hq2.frozen 1
 have r2:=hq2.cell 2
 have rz2:=hq2.frozen 2
 have r3:=hq2.cell 3
 have rz3:=hq2.frozen 3
 have r4:=hq2.cell 4
 have rz4:=hq2.frozen 4
 have r5:=hq2.cell 5
 have rz5:=hq2.frozen 5
 have r6:=hq2.cell 6
 have rz6:=hq2.frozen 6
 have r7:=hq2.cell 7
 have rz7:=hq2.frozen 7
 simp at r0 r1 r2 r3 r4 r5 r6 r7
 have HK:=ZL kb
 have H0:=ZL hq0
 have H1:=ZL hq1
 have H2:=ZL hq2
 clear kb hq0 hq1 hq2
 go_wp2
 refine bodyPost_ret (v:=.agg #[.int .u32 cC,.int .u8 cE,.int .u16 cB,.int .u16 cT,.int .u16 cP,.int .u16 bC,.int .u32 cR,.bool cV]) (by simp[results,Tryz.results81,go_sem,r0,r1,r2,r3,r4,r5,r6,r7]) rfl ⟨rfl,?_⟩
 repeat (first|(with_reducible refine Below.setCell ?_ (by simp<;>omega) _))
 exact HK.out
attribute [local go_sem ↓] Go.wp_at_zero Go.wp_at_succ
theorem Zj7 (cC cE cB cT cP cY cR:Nat) (bC bE bB bT bP bY bR:Nat) (bV:Bool) (w:World)  :
  Calls Tryz.prog 82 #[.agg #[.int .u32 cC,.int .u8 cE,.int .u16 cB,.int .u16 cT,.int .u16 cP,.int .u16 cY,.int .u32 cR,.bool false],.agg #[.int .u32 bC,.int .u8 bE,.int .u16 bB,.int .u16 bT,.int .u16 bP,.int .u16 bY,.int .u32 bR,.bool bV]] w fun e w'=>e = .returned (.agg #[.int .u32 cC,.int .u8 cE,.int .u16 cB,.int .u16 cT,.int .u16 cP,.int .u16 cY,.int .u32 cR,.bool false])∧Below w.heap.size w w':=by
 have hq0:Blk (((w.alloc (.cells #[.int .u32 cC,.int .u8 cE,.int .u16 cB,.int .u16 cT,.int .u16 cP,.int .u16 cY,.int .u32 cR,.bool false] 30)).alloc (.cells #[.int .u32 bC,.int .u8 bE,.int .u16 bB,.int .u16 bT,.int .u16 bP,.int .u16 bY,.int .u32 bR,.bool bV] 30)).alloc (.cells #[.int .u32 0,.int .u8 0,.int .u16 0,.int .u16 0,.int .u16 0,.int .u16 0,.int .u32 0,.bool false] 30)) w.heap.size 30 #[.int .u32 cC,.int .u8 cE,.int .u16 cB,.int .u16 cT,.int .u16 cP,.int .u16 cY,.int .u32 cR,.bool false]:=by(repeat (first|(with_reducible exact Blk.new _ _ _)|(with_reducible refine Blk.drewN ?_ _)|(with_reducible refine Blk.drew ?_)|exact Blk.newAt (by simp) _ _|(with_reducible refine Blk.alloc ?_ _)))
 have hq1:Blk (((w.alloc (.cells #[.int .u32 cC,.int .u8 cE,.int .u16 cB,.int .u16 cT,.int .u16 cP,.int .u16 cY,.int .u32 cR,.bool false] 30)).alloc (.cells #[.int .u32 bC,.int .u8 bE,.int .u16 bB,.int .u16 bT,.int .u16 bP,.int .u16 bY,.int .u32 bR,.bool bV] 30)).alloc (.cells #[.int .u32 0,.int .u8 0,.int .u16 0,.int .u16 0,.int .u16 0,.int .u16 0,.int .u32 0,.bool false] 30)) (w.heap.size+1) 30 #[.int .u32 bC,.int .u8 bE,.int .u16 bB,.int .u16 bT,.int .u16 bP,.int .u16 bY,.int .u32 bR,.bool bV]:=by(repeat (first|(with_reducible exact Blk.new _ _ _)|(with_reducible refine Blk.drewN ?_ _)|(with_reducible refine Blk.drew ?_)|exact Blk.newAt (by simp) _ _|(with_reducible refine Blk.alloc ?_ _)))
 have hq2:Blk (((w.alloc (.cells #[.int .u32 cC,.int .u8 cE,.int .u16 cB,.int .u16 cT,.int .u16 cP,.int .u16 cY,.int .u32 cR,.bool false] 30)).alloc (.cells #[.int .u32 bC,.int .u8 bE,.int .u16 bB,.int .u16 bT,.int .u16 bP,.int .u16 bY,.int .u32 bR,.bool bV] 30)).alloc (.cells #[.int .u32 0,.int .u8 0,.int .u16 0,.int .u16 0,.int .u16 0,.int .u16 0,.int .u32 0,.bool false] 30)) (w.heap.size+1+1) 30 #[.int .u32 0,.int .u8 0,.int .u16 0,.int .u16 0,.int .u16 0,.int .u16 0,.int .u32 0,.bool false]:=by(repeat (first|(with_reducible exact Blk.new _ _ _)|(with_reducible refine Blk.drewN ?_ _)|(with_reducible refine Blk.drew ?_)|exact Blk.newAt (by simp) _ _|(with_reducible refine Blk.alloc ?_ _)))
 have kb:Below w.heap.size w (((w.alloc (.cells #[.int .u32 cC,.int .u8 cE,.int .u16 cB,.int .u16 cT,.int .u16 cP,.int .u16 cY,.int .u32 cR,.bool false] 30)).alloc (.cells #[.int .u32 bC,.int .u8 bE,.int .u16 bB,.int .u16 bT,.int .u16 bP,.int .u16 bY,.int .u32 bR,.bool bV] 30)).alloc (.cells #[.int .u32 0,.int .u8 0,.int .u16 0,.int .u16 0,.int .u16 0,.int .u16 0,.int .u32 0,.bool false] 30)):=by(repeat (first|(with_reducible exact Below.refl _ _)|(with_reducible refine Below.drew ?_)|(with_reducible refine Zy ?_ _)|(with_reducible refine Below.alloc ?_ (by simp<;>omega) _)|(with_reducible refine Below.setCell ?_ (by simp<;>omega) _)))
 have hsz:(((w.alloc (.cells #[.int .u32 cC,.int .u8 cE,.int .u16 cB,.int .u16 cT,.int .u16 cP,.int .u16 cY,.int .u32 cR,.bool false] 30)).alloc (.cells #[.int .u32 bC,.int .u8 bE,.int .u16 bB,.int .u16 bT,.int .u16 bP,.int .u16 bY,.int .u32 bR,.bool bV] 30)).alloc (.cells #[.int .u32 0,.int .u8 0,.int .u16 0,.int .u16 0,.int .u16 0,.int .u16 0,.int .u32 0,.bool false] 30)).heap.size=w.heap.size+1+1+1:=by simp
 go_enter Tryz.func82,Tryz.ntmps82
 go_wp2_with fail
 refine(X0 cC cE cB cT cP cY cR false _ _ (Blk.newAt (by simp) _ _)).mono ?_
 rintro e w1 ⟨rfl,hb1⟩
 have hq2:=(hq2.alloc _).below hb1 (by first|(simp; done)|(simp; omega))
 have kb:=(kb.alloc kb.size _).trans (hb1.mono (by simp; have:=kb.size; omega))
 clear hb1 hq0 hq1
 have r0:=hq2.cell 0
 have rz0:=hq2.frozen 0
 have r1:=hq2.cell 1
 have rz1:=hq2.frozen 1
 have r2:=hq2.cell 2
 have rz2:=hq2.frozen 2
 have r3:=hq2.cell 3
 have rz3:=hq2.frozen 3
 have r4:=hq2.cell 4
 have rz4:=hq2.frozen 4
 have r5:=hq2.cell 5
 have rz5:=hq2.frozen 5
 have r6:=hq2.cell 6
 have rz6:=hq2.frozen 6
 have r7:=hq2.cell 7
 have rz7:=hq2.frozen 7
 simp at r0 r1 r2 r3 r4 r5 r6 r7
 have HK:=ZL kb
 clear kb hq2
 go_wp2
 refine bodyPost_ret (v:=.agg #[.int .u32 cC,.int .u8 cE,.int .u16 cB,.int .u16 cT,.int .u16 cP,.int .u16 cY,.int .u32 cR,.bool false]) (by simp[results,Tryz.results82,go_sem,r0,r1,r2,r3,r4,r5,r6,r7]) rfl ⟨rfl,?_⟩
 repeat (first|(with_reducible refine Below.setCell ?_ (by simp<;>omega) _))
 exact HK.out
theorem Zj8 (cC cE cB cT cP cY cR:Nat) (bC bE bB bT bP bY bR:Nat) (bV:Bool) (w:World) (hy0:((cY:Int)==0)=true) :
  Calls Tryz.prog 82 #[.agg #[.int .u32 cC,.int .u8 cE,.int .u16 cB,.int .u16 cT,.int .u16 cP,.int .u16 cY,.int .u32 cR,.bool true],.agg #[.int .u32 bC,.int .u8 bE,.int .u16 bB,.int .u16 bT,.int .u16 bP,.int .u16 bY,.int .u32 bR,.bool bV]] w fun e w'=>e = .returned (.agg #[.int .u32 cC,.int .u8 cE,.int .u16 cB,.int .u16 cT,.int .u16 cP,.int .u16 cY,.int .u32 cR,.bool false])∧Below w.heap.size w w':=by
 have hq0:Blk (((w.alloc (.cells #[.int .u32 cC,.int .u8 cE,.int .u16 cB,.int .u16 cT,.int .u16 cP,.int .u16 cY,.int .u32 cR,.bool true] 30)).alloc (.cells #[.int .u32 bC,.int .u8 bE,.int .u16 bB,.int .u16 bT,.int .u16 bP,.int .u16 bY,.int .u32 bR,.bool bV] 30)).alloc (.cells #[.int .u32 0,.int .u8 0,.int .u16 0,.int .u16 0,.int .u16 0,.int .u16 0,.int .u32 0,.bool false] 30)) w.heap.size 30 #[.int .u32 cC,.int .u8 cE,.int .u16 cB,.int .u16 cT,.int .u16 cP,.int .u16 cY,.int .u32 cR,.bool true]:=by(repeat (first|(with_reducible exact Blk.new _ _ _)|(with_reducible refine Blk.drewN ?_ _)|(with_reducible refine Blk.drew ?_)|exact Blk.newAt (by simp) _ _|(with_reducible refine Blk.alloc ?_ _)))
 have hq1:Blk (((w.alloc (.cells #[.int .u32 cC,.int .u8 cE,.int .u16 cB,.int .u16 cT,.int .u16 cP,.int .u16 cY,.int .u32 cR,.bool true] 30)).alloc (.cells #[.int .u32 bC,.int .u8 bE,.int .u16 bB,.int .u16 bT,.int .u16 bP,.int .u16 bY,.int .u32 bR,.bool bV] 30)).alloc (.cells #[.int .u32 0,.int .u8 0,.int .u16 0,.int .u16 0,.int .u16 0,.int .u16 0,.int .u32 0,.bool false] 30)) (w.heap.size+1) 30 #[.int .u32 bC,.int .u8 bE,.int .u16 bB,.int .u16 bT,.int .u16 bP,.int .u16 bY,.int .u32 bR,.bool bV]:=by(repeat (first|(with_reducible exact Blk.new _ _ _)|(with_reducible refine Blk.drewN ?_ _)|(with_reducible refine Blk.drew ?_)|exact Blk.newAt (by simp) _ _|(with_reducible refine Blk.alloc ?_ _)))
 have hq2:Blk (((w.alloc (.cells #[.int .u32 cC,.int .u8 cE,.int .u16 cB,.int .u16 cT,.int .u16 cP,.int .u16 cY,.int .u32 cR,.bool true] 30)).alloc (.cells #[.int .u32 bC,.int .u8 bE,.int .u16 bB,.int .u16 bT,.int .u16 bP,.int .u16 bY,.int .u32 bR,.bool bV] 30)).alloc (.cells #[.int .u32 0,.int .u8 0,.int .u16 0,.int .u16 0,.int .u16 0,.int .u16 0,.int .u32 0,.bool false] 30)) (w.heap.size+1+1) 30 #[.int .u32 0,.int .u8 0,.int .u16 0,.int .u16 0,.int .u16 0,.int .u16 0,.int .u32 0,.bool false]:=by(repeat (first|(with_reducible exact Blk.new _ _ _)|(with_reducible refine Blk.drewN ?_ _)|(with_reducible refine Blk.drew ?_)|exact Blk.newAt (by simp) _ _|(with_reducible refine Blk.alloc ?_ _)))
 have kb:Below w.heap.size w (((w.alloc (.cells #[.int .u32 cC,.int .u8 cE,.int .u16 cB,.int .u16 cT,.int .u16 cP,.int .u16 cY,.int .u32 cR,.bool true] 30)).alloc (.cells #[.int .u32 bC,.int .u8 bE,.int .u16 bB,.int .u16 bT,.int .u16 bP,.int .u16 bY,.int .u32 bR,.bool bV] 30)).alloc (.cells #[.int .u32 0,.int .u8 0,.int .u16 0,.int .u16 0,.int .u16 0,.int .u16 0,.int .u32 0,.bool false] 30)):=by(repeat (first|(with_reducible exact Below.refl _ _)|(with_reducible refine Below.drew ?_)|(with_reducible refine Zy ?_ _)|(with_reducible refine Below.alloc ?_ (by simp<;>omega) _)|(with_reducible refine Below.setCell ?_ (by simp<;>omega) _)))
 have hsz:(((w.alloc (.cells #[.int .u32 cC,.int .u8 cE,.int .u16 cB,.int .u16 cT,.int .u16 cP,.int .u16 cY,.int .u32 cR,.bool true] 30)).alloc (.cells #[.int .u32 bC,.int .u8 bE,.int .u16 bB,.int .u16 bT,.int .u16 bP,.int .u16 bY,.int .u32 bR,.bool bV] 30)).alloc (.cells #[.int .u32 0,.int .u8 0,.int .u16 0,.int .u16 0,.int .u16 0,.int .u16 0,.int .u32 0,.bool false] 30)).heap.size=w.heap.size+1+1+1:=by simp
 go_enter Tryz.func82,Tryz.ntmps82
 go_wp2_with fail
 refine(X0 cC cE cB cT cP cY cR true _ _ (Blk.newAt (by simp) _ _)).mono ?_
 rintro e w1 ⟨rfl,hb1⟩
 have hq2:=(hq2.alloc _).below hb1 (by first|(simp; done)|(simp; omega))
 have kb:=(kb.alloc kb.size _).trans (hb1.mono (by simp; have:=kb.size; omega))
 clear hb1 hq0 hq1
 have r0:=hq2.cell 0
 have rz0:=hq2.frozen 0
 have r1:=hq2.cell 1
 have rz1:=hq2.frozen 1
 have r2:=hq2.cell 2
 have rz2:=hq2.frozen 2
 have r3:=hq2.cell 3
 have rz3:=hq2.frozen 3
 have r4:=hq2.cell 4
 have rz4:=hq2.frozen 4
 have r5:=hq2.cell 5
 have rz5:=hq2.frozen 5
 have r6:=hq2.cell 6
 have rz6:=hq2.frozen 6
 have r7:=hq2.cell 7
 have rz7:=hq2.frozen 7
 simp at r0 r1 r2 r3 r4 r5 r6 r7
 have HK:=ZL kb
 clear kb hq2
 go_wp2
 refine bodyPost_ret (v:=.agg #[.int .u32 cC,.int .u8 cE,.int .u16 cB,.int .u16 cT,.int .u16 cP,.int .u16 cY,.int .u32 cR,.bool false]) (by simp[results,Tryz.results82,go_sem,r0,r1,r2,r3,r4,r5,r6,r7]) rfl ⟨rfl,?_⟩
 repeat (first|(with_reducible refine Below.setCell ?_ (by simp<;>omega) _))
 exact HK.out
theorem Zj9 (cC cE cB cT cP cY cR:Nat) (bC bE bB bT bP bY bR:Nat) (bV:Bool) (x y:Nat) (w:World) (bl:WF bC bE bB bT bP bY bR) (hx:(Yl bE bB bT bC).1=x) (hy:(Yl bE bB bT bC).2=y) (hy0:((cY:Int)==0)=false) (ho:Kc bC bP bY bV 64 x y=false) :
  Calls Tryz.prog 82 #[.agg #[.int .u32 cC,.int .u8 cE,.int .u16 cB,.int .u16 cT,.int .u16 cP,.int .u16 cY,.int .u32 cR,.bool true],.agg #[.int .u32 bC,.int .u8 bE,.int .u16 bB,.int .u16 bT,.int .u16 bP,.int .u16 bY,.int .u32 bR,.bool bV]] w fun e w'=>e = .returned (.agg #[.int .u32 cC,.int .u8 cE,.int .u16 cB,.int .u16 cT,.int .u16 cP,.int .u16 cY,.int .u32 cR,.bool false])∧Below w.heap.size w w':=by
 have hov:=fun W=>Kd bC bE bB bT bP bY bR bV 64 x y W bl (by omega) hx hy
 rw[ho] at hov
 have HO:=ZL hov
 clear hov ho hx hy
 have hq0:Blk (((w.alloc (.cells #[.int .u32 cC,.int .u8 cE,.int .u16 cB,.int .u16 cT,.int .u16 cP,.int .u16 cY,.int .u32 cR,.bool true] 30)).alloc (.cells #[.int .u32 bC,.int .u8 bE,.int .u16 bB,.int .u16 bT,.int .u16 bP,.int .u16 bY,.int .u32 bR,.bool bV] 30)).alloc (.cells #[.int .u32 0,.int .u8 0,.int .u16 0,.int .u16 0,.int .u16 0,.int .u16 0,.int .u32 0,.bool false] 30)) w.heap.size 30 #[.int .u32 cC,.int .u8 cE,.int .u16 cB,.int .u16 cT,.int .u16 cP,.int .u16 cY,.int .u32 cR,.bool true]:=by(repeat (first|(with_reducible exact Blk.new _ _ _)|(with_reducible refine Blk.drewN ?_ _)|(with_reducible refine Blk.drew ?_)|exact Blk.newAt (by simp) _ _|(with_reducible refine Blk.alloc ?_ _)))
 have hq1:Blk (((w.alloc (.cells #[.int .u32 cC,.int .u8 cE,.int .u16 cB,.int .u16 cT,.int .u16 cP,.int .u16 cY,.int .u32 cR,.bool true] 30)).alloc (.cells #[.int .u32 bC,.int .u8 bE,.int .u16 bB,.int .u16 bT,.int .u16 bP,.int .u16 bY,.int .u32 bR,.bool bV] 30)).alloc (.cells #[.int .u32 0,.int .u8 0,.int .u16 0,.int .u16 0,.int .u16 0,.int .u16 0,.int .u32 0,.bool false] 30)) (w.heap.size+1) 30 #[.int .u32 bC,.int .u8 bE,.int .u16 bB,.int .u16 bT,.int .u16 bP,.int .u16 bY,.int .u32 bR,.bool bV]:=by(repeat (first|(with_reducible exact Blk.new _ _ _)|(with_reducible refine Blk.drewN ?_ _)|(with_reducible refine Blk.drew ?_)|exact Blk.newAt (by simp) _ _|(with_reducible refine Blk.alloc ?_ _)))
 have hq2:Blk (((w.alloc (.cells #[.int .u32 cC,.int .u8 cE,.int .u16 cB,.int .u16 cT,.int .u16 cP,.int .u16 cY,.int .u32 cR,.bool true] 30)).alloc (.cells #[.int .u32 bC,.int .u8 bE,.int .u16 bB,.int .u16 bT,.int .u16 bP,.int .u16 bY,.int .u32 bR,.bool bV] 30)).alloc (.cells #[.int .u32 0,.int .u8 0,.int .u16 0,.int .u16 0,.int .u16 0,.int .u16 0,.int .u32 0,.bool false] 30)) (w.heap.size+1+1) 30 #[.int .u32 0,.int .u8 0,.int .u16 0,.int .u16 0,.int .u16 0,.int .u16 0,.int .u32 0,.bool false]:=by(repeat (first|(with_reducible exact Blk.new _ _ _)|(with_reducible refine Blk.drewN ?_ _)|(with_reducible refine Blk.drew ?_)|exact Blk.newAt (by simp) _ _|(with_reducible refine Blk.alloc ?_ _)))
 have kb:Below w.heap.size w (((w.alloc (.cells #[.int .u32 cC,.int .u8 cE,.int .u16 cB,.int .u16 cT,.int .u16 cP,.int .u16 cY,.int .u32 cR,.bool true] 30)).alloc (.cells #[.int .u32 bC,.int .u8 bE,.int .u16 bB,.int .u16 bT,.int .u16 bP,.int .u16 bY,.int .u32 bR,.bool bV] 30)).alloc (.cells #[.int .u32 0,.int .u8 0,.int .u16 0,.int .u16 0,.int .u16 0,.int .u16 0,.int .u32 0,.bool false] 30)):=by(repeat (first|(with_reducible exact Below.refl _ _)|(with_reducible refine Below.drew ?_)|(with_reducible refine Zy ?_ _)|(with_reducible refine Below.alloc ?_ (by simp<;>omega) _)|(with_reducible refine Below.setCell ?_ (by simp<;>omega) _)))
 have hsz:(((w.alloc (.cells #[.int .u32 cC,.int .u8 cE,.int .u16 cB,.int .u16 cT,.int .u16 cP,.int .u16 cY,.int .u32 cR,.bool true] 30)).alloc (.cells #[.int .u32 bC,.int .u8 bE,.int .u16 bB,.int .u16 bT,.int .u16 bP,.int .u16 bY,.int .u32 bR,.bool bV] 30)).alloc (.cells #[.int .u32 0,.int .u8 0,.int .u16 0,.int .u16 0,.int .u16 0,.int .u16 0,.int .u32 0,.bool false] 30)).heap.size=w.heap.size+1+1+1:=by simp
 go_enter Tryz.func82,Tryz.ntmps82
 go_wp2_with fail
 refine(HO.out _).mono ?_
 rintro e w1 ⟨rfl,hb1⟩
 have hq0:=(hq0).below hb1 (by first|omega|(simp; omega))
 have hq1:=(hq1).below hb1 (by first|omega|(simp; omega))
 have hq2:=(hq2).below hb1 (by first|omega|(simp; omega))
 have kb:=(kb).trans (hb1.mono kb.size)
 have hsz1:w.heap.size+1+1+1≤w1.heap.size:=by have:=hb1.size; omega
 clear hb1
 have p0:=hq0.cell 0
 have pz0:=hq0.frozen 0
 have p1:=hq0.cell 1
 have pz1:=hq0.frozen 1
 have p2:=hq0.cell 2
 have pz2:=hq0.frozen 2
 have p3:=hq0.cell 3
 have pz3:=hq0.frozen 3
 have p4:=hq0.cell 4
 have pz4:=hq0.frozen 4
 have p5:=hq0.cell 5
 have pz5:=hq0.frozen 5
 have p6:=hq0.cell 6
 have pz6:=hq0.frozen 6
 have p7:=hq0.cell 7
 have pz7:=hq0.frozen 7
 simp at p0 p1 p2 p3 p4 p5 p6 p7
 have s0:=hq1.cell 0
 have s1:=hq1.cell 1
 have s2:=hq1.cell 2
 have s3:=hq1.cell 3
 have s4:=hq1.cell 4
 have s5:=hq1.cell 5
 have s6:=hq1.cell 6
 have s7:=hq1.cell 7
 simp at s0 s1 s2 s3 s4 s5 s6 s7
 have r0:=hq2.cell 0
 have rz0:=hq2.frozen 0
 have r1:=hq2.cell 1
 have rz1:=hq2.frozen 1
 have r2:=hq2.cell 2
 have rz2:=hq2.frozen 2
 have r3:=hq2.cell 3
 have rz3:=hq2.frozen 3
 have r4:=hq2.cell 4
 have rz4:=hq2.frozen 4
 have r5:=hq2.cell 5
 have rz5:=hq2.frozen 5
 have r6:=hq2.cell 6
 have rz6:=hq2.frozen 6
 have r7:=hq2.cell 7
 have rz7:=hq2.frozen 7
 simp at r0 r1 r2 r3 r4 r5 r6 r7
 have HK:=ZL kb
 have H0:=ZL hq0
 have H1:=ZL hq1
 have H2:=ZL hq2
 clear kb hq0 hq1 hq2
 go_wp2_with fail
 have kb:=HK.out
 have hq0:=H0.out
 have hq1:=H1.out
 have hq2:=H2.out
 clear HK H0 H1 H2
 refine(X0 cC cE cB cT cP cY cR true _ _ (Blk.new _ _ _)).mono ?_
 rintro e w2 ⟨rfl,hb2⟩
 have hq0:=(hq0.alloc _).below hb2 (by first|omega|(simp; omega))
 have hq1:=(hq1.alloc _).below hb2 (by first|omega|(simp; omega))
 have hq2:=(hq2.alloc _).below hb2 (by first|omega|(simp; omega))
 have kb:=(kb.alloc kb.size _).trans (hb2.mono (by simp; have:=kb.size; omega))
 have hsz2:w.heap.size+1+1+1≤w2.heap.size:=by have:=hb2.size; simp at this; omega
 clear hb2
 clear p0 p1 p2 p3 p4 p5 p6 p7 s0 s1 s2 s3 s4 s5 s6 s7 r0 r1 r2 r3 r4 r5 r6 r7 pz0 rz0 pz1 rz1 pz2 rz2 pz3 rz3 pz4 rz4 pz5 rz5 pz6 rz6 pz7 rz7
 have r0:=hq2.cell 0
 have rz0:=hq2.frozen 0
 have r1:=hq2.cell 1
 have rz1:=hq2.frozen 1
 have r2:=hq2.cell 2
 have rz2:=hq2.frozen 2
 have r3:=hq2.cell 3
 have rz3:=hq2.frozen 3
 have r4:=hq2.cell 4
 have rz4:=hq2.frozen 4
 have r5:=hq2.cell 5
 have rz5:=hq2.frozen 5
 have r6:=hq2.cell 6
 have rz6:=hq2.frozen 6
 have r7:=hq2.cell 7
 have rz7:=hq2.frozen 7
 simp at r0 r1 r2 r3 r4 r5 r6 r7
 have HK:=ZL kb
 clear kb hq0 hq1 hq2
 go_wp2
 refine bodyPost_ret (v:=.agg #[.int .u32 cC,.int .u8 cE,.int .u16 cB,.int .u16 cT,.int .u16 cP,.int .u16 cY,.int .u32 cR,.bool false]) (by simp[results,Tryz.results82,go_sem,r0,r1,r2,r3,r4,r5,r6,r7]) rfl ⟨rfl,?_⟩
 repeat (first|(with_reducible refine Below.setCell ?_ (by simp<;>omega) _))
 exact HK.out
theorem Zka (cC cE cB cT cP cY cR:Nat) (bC bE bB bT bP bY bR:Nat) (bV:Bool) (x y:Nat) (w:World) (bl:WF bC bE bB bT bP bY bR) (hx:(Yl bE bB bT bC).1=x) (hy:(Yl bE bB bT bC).2=y) (hy0:((cY:Int)==0)=false) (ho:Kc bC bP bY bV 64 x y=true) (hn:((bC:Int) !=(cY:Int))=true) (_hn2:((bC:Int)==(cY:Int))=false) (_hyl:cY<65536) :
  Calls Tryz.prog 82 #[.agg #[.int .u32 cC,.int .u8 cE,.int .u16 cB,.int .u16 cT,.int .u16 cP,.int .u16 cY,.int .u32 cR,.bool true],.agg #[.int .u32 bC,.int .u8 bE,.int .u16 bB,.int .u16 bT,.int .u16 bP,.int .u16 bY,.int .u32 bR,.bool bV]] w fun e w'=>e = .returned (.agg #[.int .u32 cC,.int .u8 cE,.int .u16 cB,.int .u16 cT,.int .u16 cP,.int .u16 cY,.int .u32 cR,.bool false])∧Below w.heap.size w w':=by
 have hov:=fun W=>Kd bC bE bB bT bP bY bR bV 64 x y W bl (by omega) hx hy
 rw[ho] at hov
 have HO:=ZL hov
 clear hov ho hx hy
 have hq0:Blk (((w.alloc (.cells #[.int .u32 cC,.int .u8 cE,.int .u16 cB,.int .u16 cT,.int .u16 cP,.int .u16 cY,.int .u32 cR,.bool true] 30)).alloc (.cells #[.int .u32 bC,.int .u8 bE,.int .u16 bB,.int .u16 bT,.int .u16 bP,.int .u16 bY,.int .u32 bR,.bool bV] 30)).alloc (.cells #[.int .u32 0,.int .u8 0,.int .u16 0,.int .u16 0,.int .u16 0,.int .u16 0,.int .u32 0,.bool false] 30)) w.heap.size 30 #[.int .u32 cC,.int .u8 cE,.int .u16 cB,.int .u16 cT,.int .u16 cP,.int .u16 cY,.int .u32 cR,.bool true]:=by(repeat (first|(with_reducible exact Blk.new _ _ _)|(with_reducible refine Blk.drewN ?_ _)|(with_reducible refine Blk.drew ?_)|exact Blk.newAt (by simp) _ _|(with_reducible refine Blk.alloc ?_ _)))
 have hq1:Blk (((w.alloc (.cells #[.int .u32 cC,.int .u8 cE,.int .u16 cB,.int .u16 cT,.int .u16 cP,.int .u16 cY,.int .u32 cR,.bool true] 30)).alloc (.cells #[.int .u32 bC,.int .u8 bE,.int .u16 bB,.int .u16 bT,.int .u16 bP,.int .u16 bY,.int .u32 bR,.bool bV] 30)).alloc (.cells #[.int .u32 0,.int .u8 0,.int .u16 0,.int .u16 0,.int .u16 0,.int .u16 0,.int .u32 0,.bool false] 30)) (w.heap.size+1) 30 #[.int .u32 bC,.int .u8 bE,.int .u16 bB,.int .u16 bT,.int .u16 bP,.int .u16 bY,.int .u32 bR,.bool bV]:=by(repeat (first|(with_reducible exact Blk.new _ _ _)|(with_reducible refine Blk.drewN ?_ _)|(with_reducible refine Blk.drew ?_)|exact Blk.newAt (by simp) _ _|(with_reducible refine Blk.alloc ?_ _)))
 have hq2:Blk (((w.alloc (.cells #[.int .u32 cC,.int .u8 cE,.int .u16 cB,.int .u16 cT,.int .u16 cP,.int .u16 cY,.int .u32 cR,.bool true] 30)).alloc (.cells #[.int .u32 bC,.int .u8 bE,.int .u16 bB,.int .u16 bT,.int .u16 bP,.int .u16 bY,.int .u32 bR,.bool bV] 30)).alloc (.cells #[.int .u32 0,.int .u8 0,.int .u16 0,.int .u16 0,.int .u16 0,.int .u16 0,.int .u32 0,.bool false] 30)) (w.heap.size+1+1) 30 #[.int .u32 0,.int .u8 0,.int .u16 0,.int .u16 0,.int .u16 0,.int .u16 0,.int .u32 0,.bool false]:=by(repeat (first|(with_reducible exact Blk.new _ _ _)|(with_reducible refine Blk.drewN ?_ _)|(with_reducible refine Blk.drew ?_)|exact Blk.newAt (by simp) _ _|(with_reducible refine Blk.alloc ?_ _)))
 have kb:Below w.heap.size w (((w.alloc (.cells #[.int .u32 cC,.int .u8 cE,.int .u16 cB,.int .u16 cT,.int .u16 cP,.int .u16 cY,.int .u32 cR,.bool true] 30)).alloc (.cells #[.int .u32 bC,.int .u8 bE,.int .u16 bB,.int .u16 bT,.int .u16 bP,.int .u16 bY,.int .u32 bR,.bool bV] 30)).alloc (.cells #[.int .u32 0,.int .u8 0,.int .u16 0,.int .u16 0,.int .u16 0,.int .u16 0,.int .u32 0,.bool false] 30)):=by(repeat (first|(with_reducible exact Below.refl _ _)|(with_reducible refine Below.drew ?_)|(with_reducible refine Zy ?_ _)|(with_reducible refine Below.alloc ?_ (by simp<;>omega) _)|(with_reducible refine Below.setCell ?_ (by simp<;>omega) _)))
 have hsz:(((w.alloc (.cells #[.int .u32 cC,.int .u8 cE,.int .u16 cB,.int .u16 cT,.int .u16 cP,.int .u16 cY,.int .u32 cR,.bool true] 30)).alloc (.cells #[.int .u32 bC,.int .u8 bE,.int .u16 bB,.int .u16 bT,.int .u16 bP,.int .u16 bY,.int .u32 bR,.bool bV] 30)).alloc (.cells #[.int .u32 0,.int .u8 0,.int .u16 0,.int .u16 0,.int .u16 0,.int .u16 0,.int .u32 0,.bool false] 30)).heap.size=w.heap.size+1+1+1:=by simp
 go_enter Tryz.func82,Tryz.ntmps82
 go_wp2_with fail
 refine(HO.out _).mono ?_
 rintro e w1 ⟨rfl,hb1⟩
 have hq0:=(hq0).below hb1 (by first|omega|(simp; omega))
 have hq1:=(hq1).below hb1 (by first|omega|(simp; omega))
 have hq2:=(hq2).below hb1 (by first|omega|(simp; omega))
 have kb:=(kb).trans (hb1.mono kb.size)
 have hsz1:w.heap.size+1+1+1≤w1.heap.size:=by have:=hb1.size; omega
 clear hb1
 have p0:=hq0.cell 0
 have pz0:=hq0.frozen 0
 have p1:=hq0.cell 1
 have pz1:=hq0.frozen 1
 have p2:=hq0.cell 2
 have pz2:=hq0.frozen 2
 have p3:=hq0.cell 3
 have pz3:=hq0.frozen 3
 have p4:=hq0.cell 4
 have pz4:=hq0.frozen 4
 have p5:=hq0.cell 5
 have pz5:=hq0.frozen 5
 have p6:=hq0.cell 6
 have pz6:=hq0.frozen 6
 have p7:=hq0.cell 7
 have pz7:=hq0.frozen 7
 simp at p0 p1 p2 p3 p4 p5 p6 p7
 have s0:=hq1.cell 0
 have s1:=hq1.cell 1
 have s2:=hq1.cell 2
 have s3:=hq1.cell 3
 have s4:=hq1.cell 4
 have s5:=hq1.cell 5
 have s6:=hq1.cell 6
 have s7:=hq1.cell 7
 simp at s0 s1 s2 s3 s4 s5 s6 s7
 have r0:=hq2.cell 0
 have rz0:=hq2.frozen 0
 have r1:=hq2.cell 1
 have rz1:=hq2.frozen 1
 have r2:=hq2.cell 2
 have rz2:=hq2.frozen 2
 have r3:=hq2.cell 3
 have rz3:=hq2.frozen 3
 have r4:=hq2.cell 4
 have rz4:=hq2.frozen 4
 have r5:=hq2.cell 5
 have rz5:=hq2.frozen 5
 have r6:=hq2.cell 6
 have rz6:=hq2.frozen 6
 have r7:=hq2.cell 7
 have rz7:=hq2.frozen 7
 simp at r0 r1 r2 r3 r4 r5 r6 r7
 have HK:=ZL kb
 have H0:=ZL hq0
 have H1:=ZL hq1
 have H2:=ZL hq2
 clear kb hq0 hq1 hq2
 go_wp2_with fail
 have kb:=HK.out
 have hq0:=H0.out
 have hq1:=H1.out
 have hq2:=H2.out
 clear HK H0 H1 H2
 refine(X0 cC cE cB cT cP cY cR true _ _ (Blk.new _ _ _)).mono ?_
 rintro e w2 ⟨rfl,hb2⟩
 have hq0:=(hq0.alloc _).below hb2 (by first|omega|(simp; omega))
 have hq1:=(hq1.alloc _).below hb2 (by first|omega|(simp; omega))
 have hq2:=(hq2.alloc _).below hb2 (by first|omega|(simp; omega))
 have kb:=(kb.alloc kb.size _).trans (hb2.mono (by simp; have:=kb.size; omega))
 have hsz2:w.heap.size+1+1+1≤w2.heap.size:=by have:=hb2.size; simp at this; omega
 clear hb2
 clear p0 p1 p2 p3 p4 p5 p6 p7 s0 s1 s2 s3 s4 s5 s6 s7 r0 r1 r2 r3 r4 r5 r6 r7 pz0 rz0 pz1 rz1 pz2 rz2 pz3 rz3 pz4 rz4 pz5 rz5 pz6 rz6 pz7 rz7
 have r0:=hq2.cell 0
 have rz0:=hq2.frozen 0
 have r1:=hq2.cell 1
 have rz1:=hq2.frozen 1
 have r2:=hq2.cell 2
 have rz2:=hq2.frozen 2
 have r3:=hq2.cell 3
 have rz3:=hq2.frozen 3
 have r4:=hq2.cell 4
 have rz4:=hq2.frozen 4
 have r5:=hq2.cell 5
 have rz5:=hq2.frozen 5
 have r6:=hq2.cell 6
 have rz6:=hq2.frozen 6
 have r7:=hq2.cell 7
 have rz7:=hq2.frozen 7
 simp at r0 r1 r2 r3 r4 r5 r6 r7
 have HK:=ZL kb
 clear kb hq0 hq1 hq2
 go_wp2
 refine bodyPost_ret (v:=.agg #[.int .u32 cC,.int .u8 cE,.int .u16 cB,.int .u16 cT,.int .u16 cP,.int .u16 cY,.int .u32 cR,.bool false]) (by simp[results,Tryz.results82,go_sem,r0,r1,r2,r3,r4,r5,r6,r7]) rfl ⟨rfl,?_⟩
 repeat (first|(with_reducible refine Below.setCell ?_ (by simp<;>omega) _))
 exact HK.out
theorem Zkb (cC cE cB cT cP cY cR:Nat) (bC bE bB bT bP bY bR:Nat) (bV:Bool) (x y:Nat) (w:World) (bl:WF bC bE bB bT bP bY bR) (hx:(Yl bE bB bT bC).1=x) (hy:(Yl bE bB bT bC).2=y) (hy0:((cY:Int)==0)=false) (ho:Kc bC bP bY bV 64 x y=true) (hn:((bC:Int) !=(cY:Int))=false) (_hn2:((bC:Int)==(cY:Int))=true) (_hyl:cY<65536) :
  Calls Tryz.prog 82 #[.agg #[.int .u32 cC,.int .u8 cE,.int .u16 cB,.int .u16 cT,.int .u16 cP,.int .u16 cY,.int .u32 cR,.bool true],.agg #[.int .u32 bC,.int .u8 bE,.int .u16 bB,.int .u16 bT,.int .u16 bP,.int .u16 bY,.int .u32 bR,.bool bV]] w fun e w'=>e = .returned (.agg #[.int .u32 cC,.int .u8 cE,.int .u16 cB,.int .u16 cT,.int .u16 cP,.int .u16 0,.int .u32 cR,.bool true])∧Below w.heap.size w w':=by
 have hov:=fun W=>Kd bC bE bB bT bP bY bR bV 64 x y W bl (by omega) hx hy
 rw[ho] at hov
 have HO:=ZL hov
 clear hov ho hx hy
 have hq0:Blk (((w.alloc (.cells #[.int .u32 cC,.int .u8 cE,.int .u16 cB,.int .u16 cT,.int .u16 cP,.int .u16 cY,.int .u32 cR,.bool true] 30)).alloc (.cells #[.int .u32 bC,.int .u8 bE,.int .u16 bB,.int .u16 bT,.int .u16 bP,.int .u16 bY,.int .u32 bR,.bool bV] 30)).alloc (.cells #[.int .u32 0,.int .u8 0,.int .u16 0,.int .u16 0,.int .u16 0,.int .u16 0,.int .u32 0,.bool false] 30)) w.heap.size 30 #[.int .u32 cC,.int .u8 cE,.int .u16 cB,.int .u16 cT,.int .u16 cP,.int .u16 cY,.int .u32 cR,.bool true]:=by(repeat (first|(with_reducible exact Blk.new _ _ _)|(with_reducible refine Blk.drewN ?_ _)|(with_reducible refine Blk.drew ?_)|exact Blk.newAt (by simp) _ _|(with_reducible refine Blk.alloc ?_ _)))
 have hq1:Blk (((w.alloc (.cells #[.int .u32 cC,.int .u8 cE,.int .u16 cB,.int .u16 cT,.int .u16 cP,.int .u16 cY,.int .u32 cR,.bool true] 30)).alloc (.cells #[.int .u32 bC,.int .u8 bE,.int .u16 bB,.int .u16 bT,.int .u16 bP,.int .u16 bY,.int .u32 bR,.bool bV] 30)).alloc (.cells #[.int .u32 0,.int .u8 0,.int .u16 0,.int .u16 0,.int .u16 0,.int .u16 0,.int .u32 0,.bool false] 30)) (w.heap.size+1) 30 #[.int .u32 bC,.int .u8 bE,.int .u16 bB,.int .u16 bT,.int .u16 bP,.int .u16 bY,.int .u32 bR,.bool bV]:=by(repeat (first|(with_reducible exact Blk.new _ _ _)|(with_reducible refine Blk.drewN ?_ _)|(with_reducible refine Blk.drew ?_)|exact Blk.newAt (by simp) _ _|(with_reducible refine Blk.alloc ?_ _)))
 have hq2:Blk (((w.alloc (.cells #[.int .u32 cC,.int .u8 cE,.int .u16 cB,.int .u16 cT,.int .u16 cP,.int .u16 cY,.int .u32 cR,.bool true] 30)).alloc (.cells #[.int .u32 bC,.int .u8 bE,.int .u16 bB,.int .u16 bT,.int .u16 bP,.int .u16 bY,.int .u32 bR,.bool bV] 30)).alloc (.cells #[.int .u32 0,.int .u8 0,.int .u16 0,.int .u16 0,.int .u16 0,.int .u16 0,.int .u32 0,.bool false] 30)) (w.heap.size+1+1) 30 #[.int .u32 0,.int .u8 0,.int .u16 0,.int .u16 0,.int .u16 0,.int .u16 0,.int .u32 0,.bool false]:=by(repeat (first|(with_reducible exact Blk.new _ _ _)|(with_reducible refine Blk.drewN ?_ _)|(with_reducible refine Blk.drew ?_)|exact Blk.newAt (by simp) _ _|(with_reducible refine Blk.alloc ?_ _)))
 have kb:Below w.heap.size w (((w.alloc (.cells #[.int .u32 cC,.int .u8 cE,.int .u16 cB,.int .u16 cT,.int .u16 cP,.int .u16 cY,.int .u32 cR,.bool true] 30)).alloc (.cells #[.int .u32 bC,.int .u8 bE,.int .u16 bB,.int .u16 bT,.int .u16 bP,.int .u16 bY,.int .u32 bR,.bool bV] 30)).alloc (.cells #[.int .u32 0,.int .u8 0,.int .u16 0,.int .u16 0,.int .u16 0,.int .u16 0,.int .u32 0,.bool false] 30)):=by(repeat (first|(with_reducible exact Below.refl _ _)|(with_reducible refine Below.drew ?_)|(with_reducible refine Zy ?_ _)|(with_reducible refine Below.alloc ?_ (by simp<;>omega) _)|(with_reducible refine Below.setCell ?_ (by simp<;>omega) _)))
 have hsz:(((w.alloc (.cells #[.int .u32 cC,.int .u8 cE,.int .u16 cB,.int .u16 cT,.int .u16 cP,.int .u16 cY,.int .u32 cR,.bool true] 30)).alloc (.cells #[.int .u32 bC,.int .u8 bE,.int .u16 bB,.int .u16 bT,.int .u16 bP,.int .u16 bY,.int .u32 bR,.bool bV] 30)).alloc (.cells #[.int .u32 0,.int .u8 0,.int .u16 0,.int .u16 0,.int .u16 0,.int .u16 0,.int .u32 0,.bool false] 30)).heap.size=w.heap.size+1+1+1:=by simp
 go_enter Tryz.func82,Tryz.ntmps82
 go_wp2_with fail
 refine(HO.out _).mono ?_
 rintro e w1 ⟨rfl,hb1⟩
 have hq0:=(hq0).below hb1 (by first|omega|(simp; omega))
 have hq1:=(hq1).below hb1 (by first|omega|(simp; omega))
 have hq2:=(hq2).below hb1 (by first|omega|(simp; omega))
 have kb:=(kb).trans (hb1.mono kb.size)
 have hsz1:w.heap.size+1+1+1≤w1.heap.size:=by have:=hb1.size; omega
 clear hb1
 have p0:=hq0.cell 0
 have pz0:=hq0.frozen 0
 have p1:=hq0.cell 1
 have pz1:=hq0.frozen 1
 have p2:=hq0.cell 2
 have pz2:=hq0.frozen 2
 have p3:=hq0.cell 3
 have pz3:=hq0.frozen 3
 have p4:=hq0.cell 4
 have pz4:=hq0.frozen 4
 have p5:=hq0.cell 5
 have pz5:=hq0.frozen 5
 have p6:=hq0.cell 6
 have pz6:=hq0.frozen 6
 have p7:=hq0.cell 7
 have pz7:=hq0.frozen 7
 simp at p0 p1 p2 p3 p4 p5 p6 p7
 have s0:=hq1.cell 0
 have s1:=hq1.cell 1
 have s2:=hq1.cell 2
 have s3:=hq1.cell 3
 have s4:=hq1.cell 4
 have s5:=hq1.cell 5
 have s6:=hq1.cell 6
 have s7:=hq1.cell 7
 simp at s0 s1 s2 s3 s4 s5 s6 s7
 have r0:=hq2.cell 0
 have rz0:=hq2.frozen 0
 have r1:=hq2.cell 1
 have rz1:=hq2.frozen 1
 have r2:=hq2.cell 2
 have rz2:=hq2.frozen 2
 have r3:=hq2.cell 3
 have rz3:=hq2.frozen 3
 have r4:=hq2.cell 4
 have rz4:=hq2.frozen 4
 have r5:=hq2.cell 5
 have rz5:=hq2.frozen 5
 have r6:=hq2.cell 6
 have rz6:=hq2.frozen 6
 have r7:=hq2.cell 7
 have rz7:=hq2.frozen 7
 simp at r0 r1 r2 r3 r4 r5 r6 r7
 have HK:=ZL kb
 have H0:=ZL hq0
 have H1:=ZL hq1
 have H2:=ZL hq2
 clear kb hq0 hq1 hq2
 go_wp2
 refine bodyPost_ret (v:=.agg #[.int .u32 cC,.int .u8 cE,.int .u16 cB,.int .u16 cT,.int .u16 cP,.int .u16 0,.int .u32 cR,.bool true]) (by simp[results,Tryz.results82,go_sem,r0,r1,r2,r3,r4,r5,r6,r7]) rfl ⟨rfl,?_⟩
 repeat (first|(with_reducible refine Below.setCell ?_ (by simp<;>omega) _))
 exact HK.out
def ZjI (cE cB cT cP cY cR bP x y u v:Nat):Bool:=decide (cY=0)&&(Yd cE cB cT cP cY cR&&Ky cP bP x y u v)
theorem Zdu (cC cE cB cT cP cY cR:Nat) (cV:Bool) (bC bE bB bT bP bY bR:Nat) (bV:Bool) (gc gb x y u v:Nat) (w:World) (cl:WF cC cE cB cT cP cY cR) (bl:WF bC bE bB bT bP bY bR) (hx:(Yl cE cB cT cC).1=x) (hy:(Yl cE cB cT cC).2=y) (hu:(Yl bE bB bT bC).1=u) (hv:(Yl bE bB bT bC).2=v)
  (hc:Blk w gc 30 #[.int .u32 cC,.int .u8 cE,.int .u16 cB,.int .u16 cT,.int .u16 cP,.int .u16 cY,.int .u32 cR,.bool cV]) (hb:Blk w gb 30 #[.int .u32 bC,.int .u8 bE,.int .u16 bB,.int .u16 bT,.int .u16 bP,.int .u16 bY,.int .u32 bR,.bool bV]) :
  Calls Tryz.prog 156 #[.pointer (some ⟨gc,0,none⟩),.pointer (some ⟨gb,0,none⟩)] w fun e w'=>e = .returned (.bool (ZjI cE cB cT cP cY cR bP x y u v))∧Below w.heap.size w w':=by
 have hs:=fun W=>JH cC cE cB cT cP cY cR cV W cl
 have hw:=fun W=>Uk cC cE cB cT cP cY cR cV bC bE bB bT bP bY bR bV x y u v W cl bl hx hy hu hv
 unfold ZjI
 obtain⟨k1,h1⟩:∃ k,Yd cE cB cT cP cY cR=k:=⟨_,rfl⟩
 obtain⟨k2,h2⟩:∃ k,Ky cP bP x y u v=k:=⟨_,rfl⟩
 rw[h1] at hs ⊢
 rw[h2] at hw ⊢
 have HS:=ZL hs
 have HW:=ZL hw
 have lc:=hc.lt
 have lb:=hb.lt
 clear hs hw h1 h2 hx hy hu hv
 have p0:=hc.cell 0
 have p1:=hc.cell 1
 have p2:=hc.cell 2
 have p3:=hc.cell 3
 have p4:=hc.cell 4
 have p5:=hc.cell 5
 have p6:=hc.cell 6
 have p7:=hc.cell 7
 simp at p0 p1 p2 p3 p4 p5 p6 p7
 have HC:=ZL hc
 have HB:=ZL hb
 clear hc hb
 by_cases hy0:cY=0
 ·rw[decide_eq_true hy0,Bool.true_and]
  have d0:((cY:Int)==0)=true:=by rw[hy0]; rfl
  clear hy0
  go_enter Tryz.func156,Tryz.ntmps156
  go_wp2_with fail
  refine(HS.out _).mono ?_
  rintro e w1 ⟨rfl,hb1⟩
  have hc1:=HC.out.below hb1 lc
  have hd1:=HB.out.below hb1 lb
  have q0:=hc1.cell 0
  have q1:=hc1.cell 1
  have q2:=hc1.cell 2
  have q3:=hc1.cell 3
  have q4:=hc1.cell 4
  have q5:=hc1.cell 5
  have q6:=hc1.cell 6
  have q7:=hc1.cell 7
  simp at q0 q1 q2 q3 q4 q5 q6 q7
  have s0:=hd1.cell 0
  have s1:=hd1.cell 1
  have s2:=hd1.cell 2
  have s3:=hd1.cell 3
  have s4:=hd1.cell 4
  have s5:=hd1.cell 5
  have s6:=hd1.cell 6
  have s7:=hd1.cell 7
  simp at s0 s1 s2 s3 s4 s5 s6 s7
  have HB1:=ZL hb1
  clear hb1 hc1 hd1
  cases k1 with
  | false =>
   go_wp2
   go_ret
   exact⟨rfl,HB1.out⟩
  | true =>
   go_wp2_with fail
   refine(HW.out _).mono ?_
   rintro e w2 ⟨rfl,hb2⟩
   have HB2:=ZL hb2; clear hb2
   go_wp2
   go_ret
   exact⟨QU (by simp),HB1.out.trans (HB2.out.mono HB1.out.size)⟩
 ·rw[decide_eq_false hy0,Bool.false_and]
  have d0:((cY:Int)==0)=false:=by simp; omega
  clear hy0
  go_enter Tryz.func156,Tryz.ntmps156
  go_wp2
  go_ret
  exact⟨rfl,Below.refl _ _⟩
theorem ZeM (cC cE cB cT cP cY cR:Nat) (cV:Bool) (bC bE bB bT bP bY bR:Nat) (bV:Bool) (x y u v:Nat) (w:World) (cl:WF cC cE cB cT cP cY cR) (bl:WF bC bE bB bT bP bY bR) (hx:(Yl cE cB cT cC).1=x) (hy:(Yl cE cB cT cC).2=y) (hu:(Yl bE bB bT bC).1=u) (hv:(Yl bE bB bT bC).2=v) :
  Calls Tryz.prog 83 #[.agg #[.int .u32 cC,.int .u8 cE,.int .u16 cB,.int .u16 cT,.int .u16 cP,.int .u16 cY,.int .u32 cR,.bool cV],.agg #[.int .u32 bC,.int .u8 bE,.int .u16 bB,.int .u16 bT,.int .u16 bP,.int .u16 bY,.int .u32 bR,.bool bV]] w fun e w'=>e = .returned (.agg #[.int .u32 cC,.int .u8 cE,.int .u16 cB,.int .u16 cT,.int .u16 cP,.int .u16 cY,.int .u32 cR,.bool (YR bY bV&&ZjI cE cB cT cP cY cR bP x y u v)])∧Below w.heap.size w w':=by
 obtain⟨k,hkb⟩:∃ k,(YR bY bV&&ZjI cE cB cT cP cY cR bP x y u v)=k:=⟨_,rfl⟩
 rw[hkb]
 have HKB:=ZL hkb
 clear hkb
 have hq0:Blk (((w.alloc (.cells #[.int .u32 cC,.int .u8 cE,.int .u16 cB,.int .u16 cT,.int .u16 cP,.int .u16 cY,.int .u32 cR,.bool cV] 30)).alloc (.cells #[.int .u32 bC,.int .u8 bE,.int .u16 bB,.int .u16 bT,.int .u16 bP,.int .u16 bY,.int .u32 bR,.bool bV] 30)).alloc (.cells #[.int .u32 0,.int .u8 0,.int .u16 0,.int .u16 0,.int .u16 0,.int .u16 0,.int .u32 0,.bool false] 30)) w.heap.size 30 #[.int .u32 cC,.int .u8 cE,.int .u16 cB,.int .u16 cT,.int .u16 cP,.int .u16 cY,.int .u32 cR,.bool cV]:=by(repeat (first|(with_reducible exact Blk.new _ _ _)|(with_reducible refine Blk.drewN ?_ _)|(with_reducible refine Blk.drew ?_)|exact Blk.newAt (by simp) _ _|(with_reducible refine Blk.alloc ?_ _)))
 have hq1:Blk (((w.alloc (.cells #[.int .u32 cC,.int .u8 cE,.int .u16 cB,.int .u16 cT,.int .u16 cP,.int .u16 cY,.int .u32 cR,.bool cV] 30)).alloc (.cells #[.int .u32 bC,.int .u8 bE,.int .u16 bB,.int .u16 bT,.int .u16 bP,.int .u16 bY,.int .u32 bR,.bool bV] 30)).alloc (.cells #[.int .u32 0,.int .u8 0,.int .u16 0,.int .u16 0,.int .u16 0,.int .u16 0,.int .u32 0,.bool false] 30)) (w.heap.size+1) 30 #[.int .u32 bC,.int .u8 bE,.int .u16 bB,.int .u16 bT,.int .u16 bP,.int .u16 bY,.int .u32 bR,.bool bV]:=by(repeat (first|(with_reducible exact Blk.new _ _ _)|(with_reducible refine Blk.drewN ?_ _)|(with_reducible refine Blk.drew ?_)|exact Blk.newAt (by simp) _ _|(with_reducible refine Blk.alloc ?_ _)))
 have hq2:Blk (((w.alloc (.cells #[.int .u32 cC,.int .u8 cE,.int .u16 cB,.int .u16 cT,.int .u16 cP,.int .u16 cY,.int .u32 cR,.bool cV] 30)).alloc (.cells #[.int .u32 bC,.int .u8 bE,.int .u16 bB,.int .u16 bT,.int .u16 bP,.int .u16 bY,.int .u32 bR,.bool bV] 30)).alloc (.cells #[.int .u32 0,.int .u8 0,.int .u16 0,.int .u16 0,.int .u16 0,.int .u16 0,.int .u32 0,.bool false] 30)) (w.heap.size+1+1) 30 #[.int .u32 0,.int .u8 0,.int .u16 0,.int .u16 0,.int .u16 0,.int .u16 0,.int .u32 0,.bool false]:=by(repeat (first|(with_reducible exact Blk.new _ _ _)|(with_reducible refine Blk.drewN ?_ _)|(with_reducible refine Blk.drew ?_)|exact Blk.newAt (by simp) _ _|(with_reducible refine Blk.alloc ?_ _)))
 have kb:Below w.heap.size w (((w.alloc (.cells #[.int .u32 cC,.int .u8 cE,.int .u16 cB,.int .u16 cT,.int .u16 cP,.int .u16 cY,.int .u32 cR,.bool cV] 30)).alloc (.cells #[.int .u32 bC,.int .u8 bE,.int .u16 bB,.int .u16 bT,.int .u16 bP,.int .u16 bY,.int .u32 bR,.bool bV] 30)).alloc (.cells #[.int .u32 0,.int .u8 0,.int .u16 0,.int .u16 0,.int .u16 0,.int .u16 0,.int .u32 0,.bool false] 30)):=by(repeat (first|(with_reducible exact Below.refl _ _)|(with_reducible refine Below.drew ?_)|(with_reducible refine Zy ?_ _)|(with_reducible refine Below.alloc ?_ (by simp<;>omega) _)|(with_reducible refine Below.setCell ?_ (by simp<;>omega) _)))
 have hsz:(((w.alloc (.cells #[.int .u32 cC,.int .u8 cE,.int .u16 cB,.int .u16 cT,.int .u16 cP,.int .u16 cY,.int .u32 cR,.bool cV] 30)).alloc (.cells #[.int .u32 bC,.int .u8 bE,.int .u16 bB,.int .u16 bT,.int .u16 bP,.int .u16 bY,.int .u32 bR,.bool bV] 30)).alloc (.cells #[.int .u32 0,.int .u8 0,.int .u16 0,.int .u16 0,.int .u16 0,.int .u16 0,.int .u32 0,.bool false] 30)).heap.size=w.heap.size+1+1+1:=by simp
 go_enter Tryz.func83,Tryz.ntmps83
 go_wp2_with fail
 refine(Zj3 cC cE cB cT cP cY cR cV _ _ 131 156 #[.agg #[.int .u32 bC,.int .u8 bE,.int .u16 bB,.int .u16 bT,.int .u16 bP,.int .u16 bY,.int .u32 bR,.bool bV]] #[] #[] #[.pointer (some ⟨w.heap.size,0,none⟩),.pointer (some ⟨w.heap.size+1,0,none⟩)] (YR bY bV) (ZjI cE cB cT cP cY cR bP x y u v) (Blk.newAt (by simp) _ _) (fun W=>by kernel_rfl) (fun W=>by kernel_rfl)
  (fun W hW=>XZ bC bE bB bT bP bY bR bV W)
  (fun W hW=>Zdu cC cE cB cT cP cY cR cV bC bE bB bT bP bY bR bV w.heap.size (w.heap.size+1) x y u v W cl bl hx hy hu hv (Blk.below (hq0.alloc _) hW (by first|(simp; done)|(simp; omega))) (Blk.below (hq1.alloc _) hW (by first|(simp; done)|(simp; omega))))).mono ?_
 rintro e w1 ⟨he,hb1⟩
 rw[HKB.out] at he
 subst he
 have hq2:=(hq2.alloc _).below hb1 (by first|(simp; done)|(simp; omega))
 have kb:=(kb.alloc kb.size _).trans (hb1.mono (by simp; have:=kb.size; omega))
 clear hb1 hq0 hq1
 have r0:=hq2.cell 0
 have rz0:=hq2.frozen 0
 have r1:=hq2.cell 1
 have rz1:=hq2.frozen 1
 have r2:=hq2.cell 2
 have rz2:=hq2.frozen 2
 have r3:=hq2.cell 3
 have rz3:=hq2.frozen 3
 have r4:=hq2.cell 4
 have rz4:=hq2.frozen 4
 have r5:=hq2.cell 5
 have rz5:=hq2.frozen 5
 have r6:=hq2.cell 6
 have rz6:=hq2.frozen 6
 have r7:=hq2.cell 7
 have rz7:=hq2.frozen 7
 simp at r0 r1 r2 r3 r4 r5 r6 r7
 have HK:=ZL kb
 clear kb hq2
 go_wp2
 refine bodyPost_ret (v:=.agg #[.int .u32 cC,.int .u8 cE,.int .u16 cB,.int .u16 cT,.int .u16 cP,.int .u16 cY,.int .u32 cR,.bool k]) (by simp[results,Tryz.results83,go_sem,r0,r1,r2,r3,r4,r5,r6,r7]) rfl ⟨rfl,?_⟩
 repeat (first|(with_reducible refine Below.setCell ?_ (by simp<;>omega) _))
 exact HK.out
attribute [local go_sem ↓] Go.wp_at_zero Go.wp_at_succ
def inR (lo hi x y:Nat):Bool:=decide (x≤lo)&&decide (hi≤y)
theorem Zgv (X ex:Bool) (g h:Nat) (w:World) (hg:Blk w g 4 #[.bool X]) (hh:Blk w h 4 #[.bool ex]) :
  Calls Tryz.prog 174 #[.pointer (some ⟨g,0,none⟩),.pointer (some ⟨h,0,none⟩)] w fun e w'=>e = .returned (.bool (X || !ex))∧Below w.heap.size w w':=by
 have p0:=hg.cell 0
 have q0:=hh.cell 0
 simp at p0 q0
 clear hg hh
 cases X with
 | true =>
  go_enter Tryz.func174,Tryz.ntmps174
  go_wp2
  go_ret
  exact⟨rfl,Below.refl _ _⟩
 | false =>
  go_enter Tryz.func174,Tryz.ntmps174
  go_wp2
  go_ret
  exact⟨QU (by simp),Below.refl _ _⟩
theorem Zgw (cC cE cB cT cP cY cR:Nat) (cV:Bool) (z:Int) (lo hi x y g h:Nat) (w:World) (cl:WF cC cE cB cT cP cY cR) (hx:(Yl cE cB cT cC).1=x) (hy:(Yl cE cB cT cC).2=y)
  (HR:Hid (∀ W,Calls Tryz.prog 176 #[.int .u32 cC,.int .u64 z] W fun e' w'=>e' = .returned (.tuple #[.int .u32 lo,.int .u64 hi,.bool true])∧W=w'))
  (hg:Blk w g 30 #[.int .u32 cC,.int .u8 cE,.int .u16 cB,.int .u16 cT,.int .u16 cP,.int .u16 cY,.int .u32 cR,.bool cV]) (hh:Blk w h 116 #[.int .u64 z]) :
  Calls Tryz.prog 175 #[.pointer (some ⟨g,0,none⟩),.pointer (some ⟨h,0,none⟩)] w fun e w'=>e = .returned (.bool (inR lo hi x y))∧Below w.heap.size w w':=by
 have hr:=fun W=>Kb cC cE cB cT cP cY cR cV x y W cl hx hy
 have HG:=ZL hr
 have q0:=hh.cell 0
 simp at q0
 have p0:=hg.cell 0
 have p1:=hg.cell 1
 have p2:=hg.cell 2
 have p3:=hg.cell 3
 have p4:=hg.cell 4
 have p5:=hg.cell 5
 have p6:=hg.cell 6
 have p7:=hg.cell 7
 simp at p0 p1 p2 p3 p4 p5 p6 p7
 clear hg hh hr hx hy
 unfold inR
 by_cases c1:x≤lo
 ·rw[decide_eq_true c1,Bool.true_and]
  go_enter Tryz.func175,Tryz.ntmps175
  go_wp2_with fail
  refine(HR.out _).mono ?_
  rintro e w1 ⟨rfl,rfl⟩
  go_wp2_with fail
  refine(HG.out _).mono ?_
  rintro e w2 ⟨rfl,hb2⟩
  have HB2:=ZL hb2; clear hb2
  go_wp2
  go_ret
  exact⟨rfl,HB2.out⟩
 ·have d1:decide (x≤lo)=false:=by simpa using c1
  rw[d1,Bool.false_and]
  go_enter Tryz.func175,Tryz.ntmps175
  go_wp2_with fail
  refine(HR.out _).mono ?_
  rintro e w1 ⟨rfl,rfl⟩
  go_wp2_with fail
  refine(HG.out _).mono ?_
  rintro e w2 ⟨rfl,hb2⟩
  have HB2:=ZL hb2; clear hb2
  go_wp2
  go_ret
  exact⟨rfl,HB2.out⟩
set_option maxHeartbeats 1000000 in
theorem Zir (cC cE cB cT cP cY cR:Nat) (cV:Bool) (s:Nat) (ex X:Bool) (e b t lo hi x y:Nat) (w:World) (cl:WF cC cE cB cT cP cY cR) (hs:s<4294967296) (hx:(Yl cE cB cT cC).1=x) (hy:(Yl cE cB cT cC).2=y)
  (HR:Hid (∀ W,Calls Tryz.prog 176 #[.int .u32 cC,.int .u64 ((cC:Int)+s)] W fun e' w'=>e' = .returned (.tuple #[.int .u32 lo,.int .u64 hi,.bool true])∧W=w'))
  (HE:Hid (∀ W,Calls Tryz.prog 69 #[.int .u32 cC,.int .u64 ((cC:Int)+s)] W fun e' w'=>e' = .returned (.tuple #[.int .u8 e,.int .u16 b,.int .u16 t,.bool X,.bool true])∧∃ m,w'=W.drewN m)) :
  Calls Tryz.prog 154 #[.agg #[.int .u32 cC,.int .u8 cE,.int .u16 cB,.int .u16 cT,.int .u16 cP,.int .u16 cY,.int .u32 cR,.bool cV],.int .u32 s,.bool ex] w fun e' w'=>e' = .returned (.agg #[.int .u32 cC,.int .u8 e,.int .u16 b,.int .u16 t,.int .u16 cP,.int .u16 cY,.int .u32 cR,.bool (YR cY cV&&(X || !ex)&&inR lo hi x y)])∧Below w.heap.size w w':=by
 have hcl:cC<4294967296:=cl.1
 obtain⟨k,hkb⟩:∃ k,(YR cY cV&&(X || !ex)&&inR lo hi x y)=k:=⟨_,rfl⟩
 rw[hkb]
 have HKB:=ZL hkb
 clear hkb
 go_enter Tryz.func154,Tryz.ntmps154
 go_wp2_with fail
 refine(HE.out _).mono ?_
 rintro e' w1 ⟨rfl,m,rfl⟩
 go_wp2_with fail
 refine(Zmj cC e b t cP cY cR cV _ _ 131 174 175 #[.agg #[.int .u32 cC,.int .u8 cE,.int .u16 cB,.int .u16 cT,.int .u16 cP,.int .u16 cY,.int .u32 cR,.bool cV]] #[] #[] #[.pointer (some ⟨w.heap.size+1+1+1+1+1,0,none⟩),.pointer (some ⟨w.heap.size+1,0,none⟩)] #[] #[.pointer (some ⟨w.heap.size,0,none⟩),.pointer (some ⟨w.heap.size+1+1+1,0,none⟩)] (YR cY cV) (X || !ex) (inR lo hi x y) (Blk.newAt (by simp) _ _) (fun W=>by kernel_rfl) (fun W=>by kernel_rfl) (fun W=>by kernel_rfl)
  (fun W hW=>XZ cC cE cB cT cP cY cR cV W)
  (fun W hW=>Zgv X ex (w.heap.size+1+1+1+1+1) (w.heap.size+1) W (Blk.below (by(repeat (first|(with_reducible exact Blk.new _ _ _)|(with_reducible refine Blk.drewN ?_ _)|(with_reducible refine Blk.drew ?_)|((with_reducible refine Blk.newAt ?_ _ _); (simp; done))|(with_reducible refine Blk.far ?_ (by first|(simp; done)|(simp; omega)) _)|(with_reducible refine Blk.alloc ?_ _)))) hW (by first|(simp; done)|(simp; omega))) (Blk.below (by(repeat (first|(with_reducible exact Blk.new _ _ _)|(with_reducible refine Blk.drewN ?_ _)|(with_reducible refine Blk.drew ?_)|((with_reducible refine Blk.newAt ?_ _ _); (simp; done))|(with_reducible refine Blk.far ?_ (by first|(simp; done)|(simp; omega)) _)|(with_reducible refine Blk.alloc ?_ _)))) hW (by first|(simp; done)|(simp; omega))))
  (fun W hW=>Zgw cC cE cB cT cP cY cR cV ((cC:Int)+s) lo hi x y w.heap.size (w.heap.size+1+1+1) W cl hx hy HR (Blk.below (by(repeat (first|(with_reducible exact Blk.new _ _ _)|(with_reducible refine Blk.drewN ?_ _)|(with_reducible refine Blk.drew ?_)|((with_reducible refine Blk.newAt ?_ _ _); (simp; done))|(with_reducible refine Blk.far ?_ (by first|(simp; done)|(simp; omega)) _)|(with_reducible refine Blk.alloc ?_ _)))) hW (by first|(simp; done)|(simp; omega))) (Blk.below (by(repeat (first|(with_reducible exact Blk.new _ _ _)|(with_reducible refine Blk.drewN ?_ _)|(with_reducible refine Blk.drew ?_)|((with_reducible refine Blk.newAt ?_ _ _); (simp; done))|(with_reducible refine Blk.far ?_ (by first|(simp; done)|(simp; omega)) _)|(with_reducible refine Blk.alloc ?_ _)))) hW (by first|(simp; done)|(simp; omega))))).mono ?_
 rintro e' w2 ⟨he,hb2⟩
 rw[HKB.out] at he
 subst he
 have hq2:Blk w2 (w.heap.size+1+1) 30 #[.int .u32 0,.int .u8 0,.int .u16 0,.int .u16 0,.int .u16 0,.int .u16 0,.int .u32 0,.bool false]:=Blk.below (by(repeat (first|(with_reducible exact Blk.new _ _ _)|(with_reducible refine Blk.drewN ?_ _)|(with_reducible refine Blk.drew ?_)|((with_reducible refine Blk.newAt ?_ _ _); (simp; done))|(with_reducible refine Blk.far ?_ (by first|(simp; done)|(simp; omega)) _)|(with_reducible refine Blk.alloc ?_ _)))) hb2 (by first|(simp; done)|(simp; omega))
 have kb:Below w.heap.size w w2:=Below.trans (by(repeat (first|(with_reducible exact Below.refl _ _)|(with_reducible refine Below.drew ?_)|(with_reducible refine Zy ?_ _)|(with_reducible refine Below.alloc ?_ (by simp<;>omega) _)|(with_reducible refine Below.setCell ?_ (by simp<;>omega) _)))) (hb2.mono (by first|(simp; done)|(simp; omega)))
 clear hb2
 have r0:=hq2.cell 0
 have rz0:=hq2.frozen 0
 have r1:=hq2.cell 1
 have rz1:=hq2.frozen 1
 have r2:=hq2.cell 2
 have rz2:=hq2.frozen 2
 have r3:=hq2.cell 3
 have rz3:=hq2.frozen 3
 have r4:=hq2.cell 4
 have rz4:=hq2.frozen 4
 have r5:=hq2.cell 5
 have rz5:=hq2.frozen 5
 have r6:=hq2.cell 6
 have rz6:=hq2.frozen 6
 have r7:=hq2.cell 7
 have rz7:=hq2.frozen 7
 simp at r0 r1 r2 r3 r4 r5 r6 r7
 have HK:=ZL kb
 clear kb hq2
 go_wp2
 refine bodyPost_ret (v:=.agg #[.int .u32 cC,.int .u8 e,.int .u16 b,.int .u16 t,.int .u16 cP,.int .u16 cY,.int .u32 cR,.bool k]) (by simp[results,Tryz.results154,go_sem,r0,r1,r2,r3,r4,r5,r6,r7]) rfl ⟨rfl,?_⟩
 repeat (first|(with_reducible refine Below.setCell ?_ (by simp<;>omega) _))
 exact HK.out
theorem Zis (cC cE cB cT cP cY cR:Nat) (cV:Bool) (s:Nat) (ex:Bool) (e b t:Nat) (X:Bool) (w:World) (cl:WF cC cE cB cT cP cY cR) (hs:s<4294967296)
  (HE:Hid (∀ W,Calls Tryz.prog 69 #[.int .u32 cC,.int .u64 ((cC:Int)+s)] W fun e' w'=>e' = .returned (.tuple #[.int .u8 e,.int .u16 b,.int .u16 t,.bool X,.bool false])∧∃ m,w'=W.drewN m)) :
  Calls Tryz.prog 154 #[.agg #[.int .u32 cC,.int .u8 cE,.int .u16 cB,.int .u16 cT,.int .u16 cP,.int .u16 cY,.int .u32 cR,.bool cV],.int .u32 s,.bool ex] w fun e' w'=>e' = .returned (.agg #[.int .u32 cC,.int .u8 cE,.int .u16 cB,.int .u16 cT,.int .u16 cP,.int .u16 cY,.int .u32 cR,.bool false])∧Below w.heap.size w w':=by
 have hcl:cC<4294967296:=cl.1
 go_enter Tryz.func154,Tryz.ntmps154
 go_wp2_with fail
 refine(HE.out _).mono ?_
 rintro e' w1 ⟨rfl,m,rfl⟩
 go_wp2_with fail
 refine(X0 cC cE cB cT cP cY cR cV _ _ (Blk.newAt (by simp) _ _)).mono ?_
 rintro e' w2 ⟨rfl,hb2⟩
 have hq2:Blk w2 (w.heap.size+1+1) 30 #[.int .u32 0,.int .u8 0,.int .u16 0,.int .u16 0,.int .u16 0,.int .u16 0,.int .u32 0,.bool false]:=Blk.below (by(repeat (first|(with_reducible exact Blk.new _ _ _)|(with_reducible refine Blk.drewN ?_ _)|(with_reducible refine Blk.drew ?_)|((with_reducible refine Blk.newAt ?_ _ _); (simp; done))|(with_reducible refine Blk.far ?_ (by first|(simp; done)|(simp; omega)) _)|(with_reducible refine Blk.alloc ?_ _)))) hb2 (by first|(simp; done)|(simp; omega))
 have kb:Below w.heap.size w w2:=Below.trans (by(repeat (first|(with_reducible exact Below.refl _ _)|(with_reducible refine Below.drew ?_)|(with_reducible refine Zy ?_ _)|(with_reducible refine Below.alloc ?_ (by simp<;>omega) _)|(with_reducible refine Below.setCell ?_ (by simp<;>omega) _)))) (hb2.mono (by first|(simp; done)|(simp; omega)))
 clear hb2
 have r0:=hq2.cell 0
 have rz0:=hq2.frozen 0
 have r1:=hq2.cell 1
 have rz1:=hq2.frozen 1
 have r2:=hq2.cell 2
 have rz2:=hq2.frozen 2
 have r3:=hq2.cell 3
 have rz3:=hq2.frozen 3
 have r4:=hq2.cell 4
 have rz4:=hq2.frozen 4
 have r5:=hq2.cell 5
 have rz5:=hq2.frozen 5
 have r6:=hq2.cell 6
 have rz6:=hq2.frozen 6
 have r7:=hq2.cell 7
 have rz7:=hq2.frozen 7
 simp at r0 r1 r2 r3 r4 r5 r6 r7
 have HK:=ZL kb
 clear kb hq2
 go_wp2
 refine bodyPost_ret (v:=.agg #[.int .u32 cC,.int .u8 cE,.int .u16 cB,.int .u16 cT,.int .u16 cP,.int .u16 cY,.int .u32 cR,.bool false]) (by simp[results,Tryz.results154,go_sem,r0,r1,r2,r3,r4,r5,r6,r7]) rfl ⟨rfl,?_⟩
 repeat (first|(with_reducible refine Below.setCell ?_ (by simp<;>omega) _))
 exact HK.out
def Zl3 (cC cY:Nat) (cV:Bool) (s:Nat) (ex:Bool) (x y:Nat):Bool:=YR cY cV&&(Za9 cC (cC+s) || !ex)&&inR (dnN cC (ZM cC (cC+s))) (upN (cC+s) (ZM cC (cC+s))) x y
theorem ZeN (cC cE cB cT cP cY cR:Nat) (cV:Bool) (s:Nat) (ex:Bool) (x y:Nat) (w:World) (cl:WF cC cE cB cT cP cY cR) (hs:s<4294967296) (hx:(Yl cE cB cT cC).1=x) (hy:(Yl cE cB cT cC).2=y) (hr:Z3 cC (cC+s)=true) :
  Calls Tryz.prog 154 #[.agg #[.int .u32 cC,.int .u8 cE,.int .u16 cB,.int .u16 cT,.int .u16 cP,.int .u16 cY,.int .u32 cR,.bool cV],.int .u32 s,.bool ex] w fun e' w'=>e' = .returned (.agg #[.int .u32 cC,.int .u8 (Kv cC (cC+s)),.int .u16 (KH cC (cC+s)),.int .u16 (KI cC (cC+s)),.int .u16 cP,.int .u16 cY,.int .u32 cR,.bool (Zl3 cC cY cV s ex x y)])∧Below w.heap.size w w':=by
 have hr2:=(XJ hr).2
 refine Zir cC cE cB cT cP cY cR cV s ex (Za9 cC (cC+s)) _ _ _ _ _ x y w cl hs hx hy (fun W => ?_) (fun W => ?_)
 ·have:=ZeC cC (cC+s) W cl.1 (by omega)
  rw[hr,if_pos rfl,if_pos rfl,show((cC+s:Nat):Int)=(cC:Int)+s by omega] at this
  exact this
 ·have:=Kw cC (cC+s) W cl.1 (by omega)
  rw[hr,show((cC+s:Nat):Int)=(cC:Int)+s by omega] at this
  exact this
theorem ZeO (cC cE cB cT cP cY cR:Nat) (cV:Bool) (s:Nat) (ex:Bool) (w:World) (cl:WF cC cE cB cT cP cY cR) (hs:s<4294967296) (hr:Z3 cC (cC+s)=false) :
  Calls Tryz.prog 154 #[.agg #[.int .u32 cC,.int .u8 cE,.int .u16 cB,.int .u16 cT,.int .u16 cP,.int .u16 cY,.int .u32 cR,.bool cV],.int .u32 s,.bool ex] w fun e' w'=>e' = .returned (.agg #[.int .u32 cC,.int .u8 cE,.int .u16 cB,.int .u16 cT,.int .u16 cP,.int .u16 cY,.int .u32 cR,.bool false])∧Below w.heap.size w w':=by
 refine Zis cC cE cB cT cP cY cR cV s ex (Kv cC (cC+s)) (KH cC (cC+s)) (KI cC (cC+s)) (Za9 cC (cC+s)) w cl hs (fun W => ?_)
 have:=Kw cC (cC+s) W cl.1 (by have:=cl.1; omega)
 rw[hr,show((cC+s:Nat):Int)=(cC:Int)+s by omega] at this
 exact this
theorem Zkc (cC cE cB cT cP cY cR:Nat) (cV:Bool) (s:Nat) (e b t cP' cY' cR' z:Nat) (k:Bool) (w:World)
  (HS:Hid (∀ W,Calls Tryz.prog 154 #[.agg #[.int .u32 cC,.int .u8 cE,.int .u16 cB,.int .u16 cT,.int .u16 cP,.int .u16 cY,.int .u32 cR,.bool cV],.int .u32 s,.bool false] W fun e' w'=>e' = .returned (.agg #[.int .u32 z,.int .u8 e,.int .u16 b,.int .u16 t,.int .u16 cP',.int .u16 cY',.int .u32 cR',.bool k])∧Below W.heap.size W w')) :
  Calls Tryz.prog 78 #[.agg #[.int .u32 cC,.int .u8 cE,.int .u16 cB,.int .u16 cT,.int .u16 cP,.int .u16 cY,.int .u32 cR,.bool cV],.int .u32 s] w fun e' w'=>e' = .returned (.agg #[.int .u32 z,.int .u8 e,.int .u16 b,.int .u16 t,.int .u16 cP',.int .u16 cY',.int .u32 cR',.bool k])∧Below w.heap.size w w':=by
 go_enter Tryz.func78,Tryz.ntmps78
 go_wp2_with fail
 refine(HS.out _).mono ?_
 rintro e' w2 ⟨rfl,hb2⟩
 have hq2:Blk w2 (w.heap.size+1) 30 #[.int .u32 0,.int .u8 0,.int .u16 0,.int .u16 0,.int .u16 0,.int .u16 0,.int .u32 0,.bool false]:=Blk.below (by(repeat (first|(with_reducible exact Blk.new _ _ _)|(with_reducible refine Blk.drewN ?_ _)|(with_reducible refine Blk.drew ?_)|((with_reducible refine Blk.newAt ?_ _ _); (simp; done))|(with_reducible refine Blk.far ?_ (by first|(simp; done)|(simp; omega)) _)|(with_reducible refine Blk.alloc ?_ _)))) hb2 (by first|(simp; done)|(simp; omega))
 have kb:Below w.heap.size w w2:=Below.trans (by(repeat (first|(with_reducible exact Below.refl _ _)|(with_reducible refine Below.drew ?_)|(with_reducible refine Zy ?_ _)|(with_reducible refine Below.alloc ?_ (by simp<;>omega) _)|(with_reducible refine Below.setCell ?_ (by simp<;>omega) _)))) (hb2.mono (by first|(simp; done)|(simp; omega)))
 clear hb2
 have r0:=hq2.cell 0
 have rz0:=hq2.frozen 0
 have r1:=hq2.cell 1
 have rz1:=hq2.frozen 1
 have r2:=hq2.cell 2
 have rz2:=hq2.frozen 2
 have r3:=hq2.cell 3
 have rz3:=hq2.frozen 3
 have r4:=hq2.cell 4
 have rz4:=hq2.frozen 4
 have r5:=hq2.cell 5
 have rz5:=hq2.frozen 5
 have r6:=hq2.cell 6
 have rz6:=hq2.frozen 6
 have r7:=hq2.cell 7
 have rz7:=hq2.frozen 7
 simp at r0 r1 r2 r3 r4 r5 r6 r7
 have HK:=ZL kb
 clear kb hq2
 go_wp2
 refine bodyPost_ret (v:=.agg #[.int .u32 z,.int .u8 e,.int .u16 b,.int .u16 t,.int .u16 cP',.int .u16 cY',.int .u32 cR',.bool k]) (by simp[results,Tryz.results78,go_sem,r0,r1,r2,r3,r4,r5,r6,r7]) rfl ⟨rfl,?_⟩
 repeat (first|(with_reducible refine Below.setCell ?_ (by simp<;>omega) _))
 exact HK.out
theorem Zmk (cC cE cB cT cP cY cR:Nat) (cV:Bool) (s x y:Nat) (w:World) (cl:WF cC cE cB cT cP cY cR) (hs:s<4294967296) (hx:(Yl cE cB cT cC).1=x) (hy:(Yl cE cB cT cC).2=y) (hr:Z3 cC (cC+s)=true) :
  Calls Tryz.prog 78 #[.agg #[.int .u32 cC,.int .u8 cE,.int .u16 cB,.int .u16 cT,.int .u16 cP,.int .u16 cY,.int .u32 cR,.bool cV],.int .u32 s] w fun e' w'=>e' = .returned (.agg #[.int .u32 cC,.int .u8 (Kv cC (cC+s)),.int .u16 (KH cC (cC+s)),.int .u16 (KI cC (cC+s)),.int .u16 cP,.int .u16 cY,.int .u32 cR,.bool (Zl3 cC cY cV s false x y)])∧Below w.heap.size w w' :=
 Zkc cC cE cB cT cP cY cR cV s _ _ _ _ _ _ _ _ w (fun W=>ZeN cC cE cB cT cP cY cR cV s false x y W cl hs hx hy hr)
theorem Zml (cC cE cB cT cP cY cR:Nat) (cV:Bool) (s:Nat) (w:World) (cl:WF cC cE cB cT cP cY cR) (hs:s<4294967296) (hr:Z3 cC (cC+s)=false) :
  Calls Tryz.prog 78 #[.agg #[.int .u32 cC,.int .u8 cE,.int .u16 cB,.int .u16 cT,.int .u16 cP,.int .u16 cY,.int .u32 cR,.bool cV],.int .u32 s] w fun e' w'=>e' = .returned (.agg #[.int .u32 cC,.int .u8 cE,.int .u16 cB,.int .u16 cT,.int .u16 cP,.int .u16 cY,.int .u32 cR,.bool false])∧Below w.heap.size w w' :=
 Zkc cC cE cB cT cP cY cR cV s _ _ _ _ _ _ _ _ w (fun W=>ZeO cC cE cB cT cP cY cR cV s false W cl hs hr)
theorem ZeP (cC cE cB cT cP cY cR:Nat) (cV:Bool) (s:Nat) (e b t cP' cY' cR' z:Nat) (k:Bool) (w:World)
  (HS:Hid (∀ W,Calls Tryz.prog 154 #[.agg #[.int .u32 cC,.int .u8 cE,.int .u16 cB,.int .u16 cT,.int .u16 cP,.int .u16 cY,.int .u32 cR,.bool cV],.int .u32 s,.bool true] W fun e' w'=>e' = .returned (.agg #[.int .u32 z,.int .u8 e,.int .u16 b,.int .u16 t,.int .u16 cP',.int .u16 cY',.int .u32 cR',.bool k])∧Below W.heap.size W w')) :
  Calls Tryz.prog 79 #[.agg #[.int .u32 cC,.int .u8 cE,.int .u16 cB,.int .u16 cT,.int .u16 cP,.int .u16 cY,.int .u32 cR,.bool cV],.int .u32 s] w fun e' w'=>e' = .returned (.agg #[.int .u32 z,.int .u8 e,.int .u16 b,.int .u16 t,.int .u16 cP',.int .u16 cY',.int .u32 cR',.bool k])∧Below w.heap.size w w':=by
 go_enter Tryz.func79,Tryz.ntmps79
 go_wp2_with fail
 refine(HS.out _).mono ?_
 rintro e' w2 ⟨rfl,hb2⟩
 have hq2:Blk w2 (w.heap.size+1) 30 #[.int .u32 0,.int .u8 0,.int .u16 0,.int .u16 0,.int .u16 0,.int .u16 0,.int .u32 0,.bool false]:=Blk.below (by(repeat (first|(with_reducible exact Blk.new _ _ _)|(with_reducible refine Blk.drewN ?_ _)|(with_reducible refine Blk.drew ?_)|((with_reducible refine Blk.newAt ?_ _ _); (simp; done))|(with_reducible refine Blk.far ?_ (by first|(simp; done)|(simp; omega)) _)|(with_reducible refine Blk.alloc ?_ _)))) hb2 (by first|(simp; done)|(simp; omega))
 have kb:Below w.heap.size w w2:=Below.trans (by(repeat (first|(with_reducible exact Below.refl _ _)|(with_reducible refine Below.drew ?_)|(with_reducible refine Zy ?_ _)|(with_reducible refine Below.alloc ?_ (by simp<;>omega) _)|(with_reducible refine Below.setCell ?_ (by simp<;>omega) _)))) (hb2.mono (by first|(simp; done)|(simp; omega)))
 clear hb2
 have r0:=hq2.cell 0
 have rz0:=hq2.frozen 0
 have r1:=hq2.cell 1
 have rz1:=hq2.frozen 1
 have r2:=hq2.cell 2
 have rz2:=hq2.frozen 2
 have r3:=hq2.cell 3
 have rz3:=hq2.frozen 3
 have r4:=hq2.cell 4
 have rz4:=hq2.frozen 4
 have r5:=hq2.cell 5
 have rz5:=hq2.frozen 5
 have r6:=hq2.cell 6
 have rz6:=hq2.frozen 6
 have r7:=hq2.cell 7
 have rz7:=hq2.frozen 7
 simp at r0 r1 r2 r3 r4 r5 r6 r7
 have HK:=ZL kb
 clear kb hq2
 go_wp2
 refine bodyPost_ret (v:=.agg #[.int .u32 z,.int .u8 e,.int .u16 b,.int .u16 t,.int .u16 cP',.int .u16 cY',.int .u32 cR',.bool k]) (by simp[results,Tryz.results79,go_sem,r0,r1,r2,r3,r4,r5,r6,r7]) rfl ⟨rfl,?_⟩
 repeat (first|(with_reducible refine Below.setCell ?_ (by simp<;>omega) _))
 exact HK.out
theorem Zit (cC cE cB cT cP cY cR:Nat) (cV:Bool) (s x y:Nat) (w:World) (cl:WF cC cE cB cT cP cY cR) (hs:s<4294967296) (hx:(Yl cE cB cT cC).1=x) (hy:(Yl cE cB cT cC).2=y) (hr:Z3 cC (cC+s)=true) :
  Calls Tryz.prog 79 #[.agg #[.int .u32 cC,.int .u8 cE,.int .u16 cB,.int .u16 cT,.int .u16 cP,.int .u16 cY,.int .u32 cR,.bool cV],.int .u32 s] w fun e' w'=>e' = .returned (.agg #[.int .u32 cC,.int .u8 (Kv cC (cC+s)),.int .u16 (KH cC (cC+s)),.int .u16 (KI cC (cC+s)),.int .u16 cP,.int .u16 cY,.int .u32 cR,.bool (Zl3 cC cY cV s true x y)])∧Below w.heap.size w w' :=
 ZeP cC cE cB cT cP cY cR cV s _ _ _ _ _ _ _ _ w (fun W=>ZeN cC cE cB cT cP cY cR cV s true x y W cl hs hx hy hr)
theorem Ziu (cC cE cB cT cP cY cR:Nat) (cV:Bool) (s:Nat) (w:World) (cl:WF cC cE cB cT cP cY cR) (hs:s<4294967296) (hr:Z3 cC (cC+s)=false) :
  Calls Tryz.prog 79 #[.agg #[.int .u32 cC,.int .u8 cE,.int .u16 cB,.int .u16 cT,.int .u16 cP,.int .u16 cY,.int .u32 cR,.bool cV],.int .u32 s] w fun e' w'=>e' = .returned (.agg #[.int .u32 cC,.int .u8 cE,.int .u16 cB,.int .u16 cT,.int .u16 cP,.int .u16 cY,.int .u32 cR,.bool false])∧Below w.heap.size w w' :=
 ZeP cC cE cB cT cP cY cR cV s _ _ _ _ _ _ _ _ w (fun W=>ZeO cC cE cB cT cP cY cR cV s true W cl hs hr)
open Sy
set_option maxRecDepth 100000
theorem Zg:VD Tryz.prog=true:=by kernel_rfl
def z64 (n:Nat):List Value:=List.replicate n (.int .u64 0)
theorem Zkd (p:Int):evF Tryz.prog Zk Zh 100 40 9 [Value.int .i64 p] ⟨64,[],[],0,(tb 6 0),0,True⟩=some (Value.tuple { toList:=[Value.pointer (some ⟨67,0,none⟩),.int .i64 0] },{ n:=68,h:=[(67,⟨true,none,[Value.pointer (some ⟨66,0,none⟩),.slice (some ⟨64,0,none⟩) (i64.wrap (p*(256:Int))).toNat 9223372036854775872],none⟩),(66,⟨true,none,[Value.int .i64 (i64.wrap ((i64.wrap (p*(256:Int))).tdiv (16:Int))),.slice (some ⟨65,0,none⟩) (i64.wrap ((i64.wrap (i64.wrap (i64.wrap ((i64.wrap (p*(256:Int))).tdiv (16:Int))+(64:Int))-(1:Int))).tdiv (64:Int))).toNat 9223372036854775873],none⟩),(65,⟨true,some (65,1),KP (i64.wrap ((i64.wrap (i64.wrap (i64.wrap ((i64.wrap (p*(256:Int))).tdiv (16:Int))+(64:Int))-(1:Int))).tdiv (64:Int))).toNat [Value.int .u64 0],none⟩),(64,⟨true,some (64,1),KP (i64.wrap (p*(256:Int))).toNat [Value.int .u8 0],none⟩)],lo:=[(65,(i64.wrap ((i64.wrap (i64.wrap (i64.wrap ((i64.wrap (p*(256:Int))).tdiv (16:Int))+(64:Int))-(1:Int))).tdiv (64:Int))).toNat),(64,(i64.wrap (p*(256:Int))).toNat)],esc:=0,T:=[],k:=6,O:=bif decide ((0:Int)≤i64.wrap ((i64.wrap (i64.wrap (i64.wrap ((i64.wrap (p*(256:Int))).tdiv (16:Int))+(64:Int))-(1:Int))).tdiv (64:Int)))&&decide (i64.wrap ((i64.wrap (i64.wrap (i64.wrap ((i64.wrap (p*(256:Int))).tdiv (16:Int))+(64:Int))-(1:Int))).tdiv (64:Int))≤i64.wrap ((i64.wrap (i64.wrap (i64.wrap ((i64.wrap (p*(256:Int))).tdiv (16:Int))+(64:Int))-(1:Int))).tdiv (64:Int)))&&decide ((8:Int)*i64.wrap ((i64.wrap (i64.wrap (i64.wrap ((i64.wrap (p*(256:Int))).tdiv (16:Int))+(64:Int))-(1:Int))).tdiv (64:Int))≤(140737488355328:Int))&&decide (i64.wrap ((i64.wrap (i64.wrap (i64.wrap ((i64.wrap (p*(256:Int))).tdiv (16:Int))+(64:Int))-(1:Int))).tdiv (64:Int))<(9223372036854775808:Int)) then((((bif decide ((0:Int)≤i64.wrap (p*(256:Int)))&&decide (i64.wrap (p*(256:Int))≤i64.wrap (p*(256:Int)))&&decide ((1:Int)*i64.wrap (p*(256:Int))≤(140737488355328:Int))&&decide (i64.wrap (p*(256:Int))<(9223372036854775808:Int)) then(True∧decide (p<(16:Int))=false)∧decide (p>(1024:Int))=false else False)∧decide (i64.wrap ((i64.wrap (p*(256:Int))).tdiv (16:Int))<(0:Int))=false)∧decide (i64.wrap ((i64.wrap (p*(256:Int))).tdiv (16:Int))<(0:Int))=false)∧decide (i64.wrap ((i64.wrap (p*(256:Int))).tdiv (16:Int))<(0:Int))=false)∧decide (i64.wrap ((i64.wrap (p*(256:Int))).tdiv (16:Int))>(1048576:Int))=false else False:St }):=by kernel_rfl
theorem QV (n:Nat):∀ v∈z64 n,ZP v=true:=fun v hv=>by rw[(List.mem_replicate.1 hv).2]; rfl
theorem ZeQ {q:Nat→Bool} (h:∀ l,l<68→q l=true) (m n:Nat):∀ v∈([.int .i64 (m:Nat),.slice (some ⟨65,0,none⟩) n (big+65)]:List Value),okV q 3 v=true:=by
 intro v hv
 have h5:=h 65 (by omega)
 simp only[rr, tt, List.mem_cons,List.not_mem_nil,or_false] at hv
 rcases hv with rfl|rfl<;>simp[okV,Xv,h5,ZP]
theorem KU:∀ l,l<68→(fun l=>Nat.blt l 68) l=true:=fun l hl=>QY hl
theorem U2 (l:Nat) (h:l<68):Yo 68 68 id (fun l=>Nat.blt l 68) l=true:=by
 unfold Yo
 simp only[rr, tt, QY h,cond_true,id,Nat.beq_refl,Bool.and_self,Bool.or_true]
def leW:Nat→Nat→List UInt8
 | 0,_=>[]
 | w+1,n=>UInt8.ofNat (n%256)::leW w (n/256)
def Zl4 (w v:Int):Con:=Con.pure [.string ⟨⟨[]⟩⟩,.int .i64 w,.int .u32 v] (.string ⟨⟨leW w.toNat v.toNat⟩⟩)
def ZhC (w v:Int):Prop:=w=4∧0≤v∧v<4294967296
def arL (rw:Bool) (zs:List UInt8) (N m n:Nat):Sy.Heap:=[(67,⟨rw,none,[.pointer (some ⟨66,0,none⟩),.slice (some ⟨64,0,none⟩) N (big+64)],none⟩),(66,⟨rw,none,[.int .i64 (m:Nat),.slice (some ⟨65,0,none⟩) n (big+65)],none⟩),(65,⟨rw,some (65,1),z64 n,none⟩),(64,⟨rw,some (64,1),u8s zs,none⟩)]
def arO (N n:Nat):List (Nat×Nat):=[(65,n),(64,N)]
theorem Zm (xs:List UInt8):∀ v∈u8s xs,ZP v=true:=fun v hv=>by
 obtain⟨b,_,rfl⟩:=List.mem_map.1 hv; rfl
theorem Yk (zs:List UInt8):(u8s zs).length=zs.length:=by simp[u8s]
theorem QH (a:List UInt8) (n:Nat):ZI n (u8s a)=decide (n≤a.length):=by
 rw[Bool.eq_iff_iff,Yz]; simp[u8s]
theorem Ke (bs:List UInt8) (i:Nat) (b:Int):Zi [.int .u8 b] (u8s bs) i=decide (i<bs.length):=by
 simp only[rr, tt, Zi,Bool.and_true]
 unfold u8s
 rw[Xg _ _ (0:UInt8)]
 by_cases h:i<bs.length
 ·rw[if_pos h]; simp[h,Zaw]
 ·rw[if_neg h]; simp[h]; rfl
theorem Ziv (bs:List UInt8) (i:Nat):Zb (Zc undef (u8s bs) i)=((bs.getD i 0).toNat:Int):=by
 unfold u8s
 rw[Xg _ _ (0:UInt8)]
 by_cases h:i<bs.length
 ·rw[if_pos h]; rfl
 ·rw[if_neg h]; simp[List.getD,List.getElem?_eq_none (Nat.le_of_not_lt h)]; rfl
def QW (i:Nat) (bs zs:List UInt8):List UInt8:=zs.take i++bs++zs.drop (i+bs.length)
theorem Vj (i:Nat) (bs zs:List UInt8) (h:i+bs.length≤zs.length):(QW i bs zs).length=zs.length:=by
 simp[QW]; omega
theorem K7 (i:Nat) (bs zs:List UInt8) (h:i+bs.length≤zs.length) (j:Nat):(QW i bs zs)[j]? = if i≤j∧j<i+bs.length then bs[j-i]? else zs[j]?:=by
 unfold QW
 by_cases h1:j<i
 ·rw[if_neg (by omega),List.append_assoc,List.getElem?_append_left (by simp; omega),List.getElem?_take_of_lt h1]
 ·by_cases h2:j<i+bs.length
  ·rw[if_pos ⟨by omega,h2⟩,List.append_assoc,List.getElem?_append_right (by simp; omega),List.getElem?_append_left (by simp; omega)]
   congr 1; simp; omega
  ·rw[if_neg (by omega),List.getElem?_append_right (by simp; omega),List.getElem?_drop]
   congr 1; simp; omega
theorem XK (i:Nat) (bs zs:List UInt8) (vs:List Value) (hv:vs=u8s bs) (h:i+bs.length≤zs.length):ZC i vs (u8s zs)=u8s (QW i bs zs):=by
 subst hv
 apply List.ext_getElem?
 intro j
 rw[YI _ _ _ _ (by simpa [u8s] using h)]
 simp only[rr, tt, u8s,List.getElem?_map,List.length_map]
 rw[K7 i bs zs h]
 split<;>rfl
theorem YS:∀ (w n:Nat),(leW w n).length=w
 | 0,_=>rfl
 | w+1,n=>by simp[leW,YS w]
theorem fdA (n k:Nat):(n:Int).fdiv (k:Int)=((n/k:Nat):Int):=by
 rw[Int.fdiv_eq_ediv_of_nonneg _ (by omega)]; rfl
theorem w8A (n:Nat):(u8.wrap (n:Int)).toNat=n%256:=by rw[IntKind.wrap_u8]; omega
theorem XQ (n:Nat) (h:n<4294967296):u32.wrap (n:Int)=(n:Int):=by simp only[rr, tt, IntKind.wrap_u32]; omega
theorem Ye (n:Nat) (h:n<9000000000000000000):i64.wrap (n:Int)=(n:Int):=wrap_i64 (by omega) (by omega)
theorem put4 (s:List UInt8) (v:Int):obs (evF Tryz.prog Zk Zh 100 10 86 [Value.string ⟨⟨s⟩⟩,.int .i64 4,.int .u32 v] (stT []))=some (Value.string ⟨⟨s++[UInt8.ofNat (u8.wrap (v.fdiv (1:Int))).toNat,UInt8.ofNat (u8.wrap (v.fdiv (256:Int))).toNat,UInt8.ofNat (u8.wrap (v.fdiv (65536:Int))).toNat,UInt8.ofNat (u8.wrap (v.fdiv (16777216:Int))).toNat]⟩⟩,bif (ZA s+4).blt 9223372036854775808 then True else False):=by kernel_rfl
theorem ZcK (w v:Int) (h:ZhC w v):ConOk Tryz.prog 86 3 (Zl4 w v):=by
 obtain⟨rfl,h1,h2⟩:=h
 obtain⟨n,rfl⟩:=Int.eq_ofNat_of_zero_le h1
 have hn:n<4294967296:=by omega
 have m1:=XQ (n/256) (by omega)
 have m2:=XQ (n/256/256) (by omega)
 have m3:=XQ (n/256/256/256) (by omega)
 have fd0:(n:Int).fdiv (1:Int)=((n/1:Nat):Int):=fdA n 1
 have fd1:∀ n:Nat,(n:Int).fdiv (256:Int)=((n/256:Nat):Int):=fun n=>fdA n 256
 have fd2:(n:Int).fdiv (65536:Int)=((n/65536:Nat):Int):=fdA n 65536
 have fd3:(n:Int).fdiv (16777216:Int)=((n/16777216:Nat):Int):=fdA n 16777216
 have td1:∀ n:Nat,(n:Int).tdiv (256:Int)=((n/256:Nat):Int):=fun n=>(Int.ofNat_tdiv n 256).symm
 have tm1:∀ n:Nat,(n:Int).tmod (256:Int)=((n%256:Nat):Int):=fun n=>(Int.ofNat_tmod n 256).symm
 have dd2:n/65536=n/256/256:=by omega
 have dd3:n/16777216=n/256/256/256:=by omega
 have hr:=put4 [] (n:Int)
 simp only[rr, tt, fd0,fd1,fd2,fd3,td1,tm1,m1,m2,m3,w8A,dd2,dd3,Nat.div_one,Nat.mod_mod,List.append_assoc,List.cons_append,List.nil_append] at hr
 exact ZK (Zt Zg (Zf _) (Ze _) 10) (v:=.string ⟨⟨leW 4 n⟩⟩) hr (by
  simp only[rr, tt, ZR,List.length_append,List.length_cons,List.length_nil]
  repeat (first|exact trivial|refine UX (QY (by omega)) ?_)) rfl rfl
structure ArOk (zs:List UInt8) (N m n:Nat):Prop where
 len:zs.length=N
 tags:N≤16*m
 words:m≤64*n
 few:n≤100000
 big:N≤1000000
theorem Yq {q:Nat→Bool} (h:∀ l,l<68→q l=true) (N m n:Nat):(∀ v∈([.pointer (some ⟨66,0,none⟩),.slice (some ⟨64,0,none⟩) N (big+64)]:List Value),okV q 3 v=true)∧∀ v∈([.int .i64 (m:Nat),.slice (some ⟨65,0,none⟩) n (big+65)]:List Value),okV q 3 v=true:=by
 have h4:=h 64 (by omega)
 have h5:=h 65 (by omega)
 have h6:=h 66 (by omega)
 constructor<;>intro v hv<;>simp only[rr, tt, List.mem_cons,List.not_mem_nil,or_false] at hv<;>rcases hv with rfl|rfl<;>simp[okV,Xv,h4,h5,h6,ZP]
theorem U3 {q:Nat→Bool} (h:∀ l,l<68→q l=true) (rw:Bool) (zs:List UInt8) (N m n:Nat):OkH q (arL rw zs N m n) :=
 ⟨⟨h 67 (by omega),rfl,fun v hv=>Qa 3 v ((Yq h N m n).1 v hv)⟩,⟨h 66 (by omega),rfl,fun v hv=>Qa 3 v ((Yq h N m n).2 v hv)⟩,⟨h 65 (by omega),h 65 (by omega),Qf (QV n)⟩,⟨h 64 (by omega),h 64 (by omega),Qf (Zm zs)⟩,trivial⟩
theorem ZeR (rw:Bool) (zs:List UInt8) (N m n:Nat):∀ x∈arL rw zs N m n,∀ v∈x.2.cells,okV (fun l=>Nat.blt l 68) 3 v=true:=fun x hx v hv=>by
 simp only[rr, tt, arL,List.mem_cons,List.not_mem_nil,or_false] at hx
 rcases hx with rfl|rfl|rfl|rfl
 ·exact(Yq KU N m n).1 v hv
 ·exact(Yq KU N m n).2 v hv
 ·exact Qd (QV n v hv) 3
 ·exact Qd (Zm zs v hv) 3
theorem K8 (rw:Bool) (zs:List UInt8) (N m n:Nat):∀ x∈arL rw zs N m n,x.2.op≠none→∀ v∈x.2.cells,ZP v=true:=fun x hx hne=>by
 simp only[rr, tt, arL,List.mem_cons,List.not_mem_nil,or_false] at hx
 rcases hx with rfl|rfl|rfl|rfl
 ·exact absurd rfl hne
 ·exact absurd rfl hne
 ·exact QV n
 ·exact Zm zs
theorem Q7 (σ:Nat→Nat) (hs:σ=id) (l:List Value):l.map (rnV σ 3)=l:=by
 subst hs; rw[List.map_congr_left (fun v _=>XY 3 v)]; simp
theorem K9 {s':Sy.St} (zs:List UInt8) (N m n:Nat) (cs ws:List Value) (h67:Sy.look s'.h 67=some ⟨true,none,[.pointer (some ⟨66,0,none⟩),.slice (some ⟨64,0,none⟩) N (big+64)],none⟩) (h66:Sy.look s'.h 66=some ⟨true,none,[.int .i64 (m:Nat),.slice (some ⟨65,0,none⟩) n (big+65)],none⟩)
  (h65:Sy.look s'.h 65=some ⟨true,some (65,1),ws,none⟩) (h64:Sy.look s'.h 64=some ⟨true,some (64,1),cs,none⟩) (hw:ws=z64 n) (hc:cs=u8s zs):YQ 3 (fun l=>Nat.blt l 68) id s'.h (arL true zs N m n):=by
 refine⟨⟨rfl,List.all_eq_true.2 (Yq KU N m n).1,rfl,?_⟩,⟨rfl,List.all_eq_true.2 (Yq KU N m n).2,rfl,?_⟩,⟨rfl,Zn (QV n),rfl,?_⟩,⟨rfl,Zn (Zm zs),rfl,?_⟩,trivial⟩
 ·simp only[rr, tt, id,h67]; exact⟨rfl,rfl,trivial,(Q7 _ rfl _).symm⟩
 ·simp only[rr, tt, id,h66]; exact⟨rfl,rfl,trivial,(Q7 _ rfl _).symm⟩
 ·simp only[rr, tt, id,h65]; exact⟨rfl,rfl,trivial,by rw[Q7 _ rfl,hw]⟩
 ·simp only[rr, tt, id,h64]; exact⟨rfl,rfl,trivial,by rw[Q7 _ rfl,hc]⟩
theorem Yr (n:Nat):(n:Int).tdiv (16:Int)=((n/16:Nat):Int):=(Int.ofNat_tdiv n 16).symm
theorem VI (n k:Nat):(n:Int)+(k:Int)=((n+k:Nat):Int):=by omega
theorem X1 (n:Nat):(n:Int)+(1:Int)=((n+1:Nat):Int):=by omega
theorem Kf (n:Nat) (h:1≤n):(n:Int)-(1:Int)=((n-1:Nat):Int):=by omega
theorem KV (n k:Nat) (h:k≤n):(n:Int)-(k:Int)=((n-k:Nat):Int):=by omega
theorem U4 (k n:Nat) (h:k≤n):Nat.min k n=k:=Nat.min_eq_left h
theorem U5 {a b:Nat} (h:a=b):Nat.beq a b=true:=by rw[h,Nat.beq_refl]
theorem Vo {a b:Nat} (h:a<b):Nat.blt a b=true:=QY h
theorem X2 (d:List UInt8):List.map (fun c=>Value.int .u8 (c.toNat:Int)) d=u8s d:=rfl
theorem X3 (d:List UInt8):KD (u8s d)=true:=List.all_eq_true.2 fun v hv=>Yg (Zm d v hv)
theorem X4 (d:List UInt8):(u8s d).all ZP=true:=List.all_eq_true.2 (Zm d)
def byA (zs:List UInt8) (i:Nat):Nat:=(zs.getD i 0).toNat
theorem Wo (zs:List UInt8) (i:Nat):byA zs i<256:=(zs.getD i 0).toNat_lt
theorem ZcL (bs:List UInt8) (i:Nat):Zb (Zc undef (u8s bs) i)=(byA bs i:Int):=Ziv bs i
theorem ZhD (x y k:Nat) (hx:x%2^k=0) (hy:y<2^k):x|||y=x+y:=by
 have h:=Nat.two_pow_add_eq_or_of_lt hy (x/2^k)
 have h1:2^k*(x/2^k)=x:=Nat.mul_div_cancel' (Nat.dvd_of_mod_eq_zero hx)
 rw[h1] at h
 exact h.symm
theorem orA (x y k:Nat) (hx:x%2^k=0) (hy:y<2^k) (h:x+y<4294967296):bits .or .u32 (x:Int) (y:Int)=((x+y:Nat):Int):=by
 show u32.wrap ((BitVec.ofInt 32 (x:Int)|||BitVec.ofInt 32 (y:Int)).toNat:Int)=_
 rw[BitVec.toNat_or,BitVec.ofInt_natCast,BitVec.ofInt_natCast,BitVec.toNat_ofNat,BitVec.toNat_ofNat,Nat.mod_eq_of_lt (by omega),Nat.mod_eq_of_lt (by omega),ZhD x y k hx hy,XQ _ h]
def Zke (zs:List UInt8) (i:Nat):Nat:=byA zs (i+3)*16777216+byA zs (i+2)*65536+byA zs (i+1)*256+byA zs i
theorem U6 (l:List UInt8):(u8s l).map ZjD=l:=by
 unfold u8s
 rw[List.map_map]
 conv=>rhs; rw[← List.map_id l]
 apply List.map_congr_left
 intro x _
 show UInt8.ofNat ((x.toNat:Int)).toNat=x
 simp
theorem ZbQ (zs:List UInt8) (a k:Nat):List.take k (List.drop a (u8s zs))=u8s ((zs.drop a).take k):=by
 unfold u8s; rw[List.map_take,List.map_drop]
theorem JI (zs:List UInt8):(u8s zs).all Zhm=true:=List.all_eq_true.2 fun v hv=>by
 obtain⟨b,_,rfl⟩:=List.mem_map.1 hv; rfl
theorem U7 (v:Value):∀ n:Nat,KP n [v]=List.replicate n v
 | 0=>rfl
 | n+1=>by
  have:=U7 v n
  simp only[rr, tt, KP,List.replicate_succ,List.cons_append,List.nil_append,this]
theorem ZeS (n:Nat):List.replicate n (Value.int .u8 0)=u8s (List.replicate n 0):=by
 unfold u8s; rw[List.map_replicate]; rfl
def WG (p:Nat):Nat:=p*256/16
def J1 (p:Nat):Nat:=(WG p+63)/64
def Zkf (p:Nat):Con:=⟨[.int .i64 (p:Nat)],64,[],[],.tuple ⟨[.pointer (some ⟨67,0,none⟩),.int .i64 0]⟩,68,arL true (List.replicate (p*256) 0) (p*256) (WG p) (J1 p),arO (p*256) (J1 p)⟩
theorem Zgx (p:Nat) (h1:16≤p) (h2:p≤1024):ConOk Tryz.prog 9 3 (Zkf p)∧FlatC (Zkf p):=by
 have hr:=Zkd (p:Int)
 have e1:(p:Int)*(256:Int)=((p*256:Nat):Int):=by omega
 have e2:∀ n:Nat,(n:Int)+(64:Int)=((n+64:Nat):Int):=fun n=>by omega
 have e3:∀ n:Nat,(n:Int).tdiv (64:Int)=((n/64:Nat):Int):=fun n=>(Int.ofNat_tdiv n 64).symm
 simp(disch:=omega) only[rr, tt, e1,Ye,Yr,e2,Kf,e3,Int.toNat_natCast,U7,ZeS] at hr
 have e4:(p*256/16+64-1)/64=J1 p:=by unfold J1 WG; omega
 have e5:p*256/16=WG p:=rfl
 have e6:p*256/16+64-1=WG p+63:=by unfold WG; omega
 have e7:(WG p+63)/64=J1 p:=rfl
 simp only[rr, tt, e4] at hr
 simp only[rr, tt, e5,e6,e7] at hr
 have hc:okV (fun l=>Nat.blt l 68) 3 (Zkf p).res=true:=rfl
 refine⟨ZZ (Zt (L:=100) Zg (Zf _) (Ze _) 40) ⟨Nat.le_refl _,by show 64≤68; omega,trivial,rfl,rfl,rfl,rfl,rfl,ZeR true _ _ _ _⟩ hr ?_ (p:=fun l=>Nat.blt l 68) (σ:=id) ?_,⟨K8 _ _ _ _ _⟩⟩
 ·have b1:J1 p≤100000:=by unfold J1 WG; omega
  have b2:WG p≤100000:=by unfold WG; omega
  simp(disch:=omega) only[rr, tt, decide_eq_true,decide_eq_false,Bool.and_self,Bool.true_and,Bool.and_true,Bool.not_true,Bool.not_false,cond_true,and_true,true_and,and_self]
 ·have hk:∀ l,l<68→Yo 64 68 id (fun l=>Nat.blt l 68) l=true:=fun l hl=>by
   show(Nat.blt l NG||(bif Nat.blt l 64 then(Nat.beq l l&&Nat.blt l 68) else Nat.blt l 68))=true
   rw[QY hl,Nat.beq_refl]
   cases Nat.blt l NG<;>cases Nat.blt l 64<;>rfl
  exact⟨fun _ _=>rfl,K9 _ _ _ _ _ _ rfl rfl rfl rfl rfl rfl,rfl,⟨⟨rfl,Nat.le_refl _⟩,⟨rfl,Nat.le_refl _⟩,trivial⟩,⟨hc,by rw[XY]; rfl⟩,rfl,U3 hk true _ _ _ _,rfl,Qa 3 _ rfl,fun x _ _ => .inl rfl⟩
structure Cp where
 C:Nat
 E:Nat
 B:Nat
 T:Nat
 P:Nat
 Y:Nat
 R:Nat
 V:Bool
def Cp.cs (c:Cp):List Value:=[.int .u32 c.C,.int .u8 c.E,.int .u16 c.B,.int .u16 c.T,.int .u16 c.P,.int .u16 c.Y,.int .u32 c.R,.bool c.V]
def Cp.val (c:Cp):Value:=.agg ⟨c.cs⟩
def Cp.Ok (c:Cp):Prop:=WF c.C c.E c.B c.T c.P c.Y c.R
def KJ (v:Nat):Cp:=⟨v,0,0,0,0,0,0,false⟩
def Cp.lo (c:Cp):Nat:=(Yl c.E c.B c.T c.C).1
def Cp.hi (c:Cp):Nat:=(Yl c.E c.B c.T c.C).2
def KL (c:Cp):Cp:={ c with V:=false }
def KW (c:Cp) (to:Nat):Cp:={ c with C:=to,V:=YR c.Y c.V&&W5 c.E c.B c.T c.C to }
def Zkg (c:Cp) (p:Nat):Cp:={ c with P:=c.P&&&(p%65536),V:=YR c.Y c.V }
def ZfW (c:Cp) (s:Nat) (ex:Bool):Cp :=
 if Z3 c.C (c.C+s)=true then { c with E:=Kv c.C (c.C+s),B:=KH c.C (c.C+s),T:=KI c.C (c.C+s),V:=Zl3 c.C c.Y c.V s ex c.lo c.hi } else KL c
def ZeT (c b:Cp):Cp:=if(YR c.Y c.V&&Kc b.C b.P b.Y b.V 32 b.lo b.hi)=true then { c with Y:=b.C } else KL c
def ZeU (c b:Cp):Cp:=if(c.V&&decide (c.Y≠0)&&Kc b.C b.P b.Y b.V 64 b.lo b.hi&&decide (b.C=c.Y))=true then { c with Y:=0 } else KL c
def ZcM (c b:Cp):Cp:={ c with V:=YR b.Y b.V&&ZjI c.E c.B c.T c.P c.Y c.R b.P c.lo c.hi b.lo b.hi }
def Zbe (c:Cp):Bool:=U1 c.C c.E c.B c.T c.P c.Y c.R c.V c.C 0 0 0 0 0 0 false
theorem Zdv {v:Value} (h:Ym v=true):∀ u∈[v],Ym u=true:=fun u hu=>by obtain rfl:=List.mem_singleton.1 hu; exact h
theorem U8 {v x:Value} (h:Ym v=true) (hx:Ym x=true):∀ u∈[v,x],Ym u=true:=fun u hu=>by
 simp only[rr, tt, List.mem_cons,List.not_mem_nil,or_false] at hu
 rcases hu with rfl|rfl<;>assumption
theorem Zdw (c:Cp):ConOk Tryz.prog 77 3 (Con.pure [c.val] (KL c).val) :=
 ZV (d:=1) (Qt Zg (by kernel_rfl)) (Zdv rfl) rfl fun w=>ZeJ c.C c.E c.B c.T c.P c.Y c.R c.V w
theorem Kg (c:Cp) (to:Nat) (h:c.Ok) (ht:to<4294967296):ConOk Tryz.prog 71 3 (Con.pure [c.val,.int .u32 to] (KW c to).val) :=
 ZV (d:=1) (Qt Zg (by kernel_rfl)) (U8 rfl rfl) rfl fun w=>ZcJ c.C c.E c.B c.T c.P c.Y c.R c.V to w h ht
theorem Zgy (c:Cp) (p:Nat) (h:c.Ok) (hp:p<4294967296):ConOk Tryz.prog 80 3 (Con.pure [c.val,.int .u32 p] (Zkg c p).val) :=
 ZV (d:=1) (Qt Zg (by kernel_rfl)) (U8 rfl rfl) rfl fun w=>Zip c.C c.E c.B c.T c.P c.Y c.R c.V p w h hp
theorem Zgz (c:Cp) (s:Nat) (h:c.Ok) (hs:s<4294967296):ConOk Tryz.prog 78 3 (Con.pure [c.val,.int .u32 s] (ZfW c s false).val):=by
 refine ZV (d:=1) (Qt Zg (by kernel_rfl)) (U8 rfl rfl) rfl fun w => ?_
 unfold ZfW
 split
 ·rename_i hr; exact Zmk c.C c.E c.B c.T c.P c.Y c.R c.V s c.lo c.hi w h hs rfl rfl hr
 ·rename_i hr; exact Zml c.C c.E c.B c.T c.P c.Y c.R c.V s w h hs (by simpa using hr)
theorem Zdx (c:Cp) (s:Nat) (h:c.Ok) (hs:s<4294967296):ConOk Tryz.prog 79 3 (Con.pure [c.val,.int .u32 s] (ZfW c s true).val):=by
 refine ZV (d:=1) (Qt Zg (by kernel_rfl)) (U8 rfl rfl) rfl fun w => ?_
 unfold ZfW
 split
 ·rename_i hr; exact Zit c.C c.E c.B c.T c.P c.Y c.R c.V s c.lo c.hi w h hs rfl rfl hr
 ·rename_i hr; exact Ziu c.C c.E c.B c.T c.P c.Y c.R c.V s w h hs (by simpa using hr)
theorem ZeV (c b:Cp) (hb:b.Ok):ConOk Tryz.prog 81 3 (Con.pure [c.val,b.val] (ZeT c b).val):=by
 refine ZV (d:=1) (Qt Zg (by kernel_rfl)) (U8 rfl rfl) rfl fun w => ?_
 unfold ZeT
 cases hf:YR c.Y c.V
 ·simp only[rr, tt, Bool.false_and,Bool.false_eq_true,if_false]
  exact Zj4 c.C c.E c.B c.T c.P c.Y c.R c.V b.C b.E b.B b.T b.P b.Y b.R b.V w hf
 ·cases ho:Kc b.C b.P b.Y b.V 32 b.lo b.hi
  ·simp only[rr, tt, Bool.and_false,Bool.false_eq_true,if_false]
   exact Zj5 c.C c.E c.B c.T c.P c.Y c.R c.V b.C b.E b.B b.T b.P b.Y b.R b.V b.lo b.hi w hb rfl rfl hf ho
  ·simp only[rr, tt, Bool.and_self,if_true]
   exact Zj6 c.C c.E c.B c.T c.P c.Y c.R c.V b.C b.E b.B b.T b.P b.Y b.R b.V b.lo b.hi w hb rfl rfl hf ho
theorem ZeW (c b:Cp) (hc:c.Ok) (hb:b.Ok):ConOk Tryz.prog 82 3 (Con.pure [c.val,b.val] (ZeU c b).val):=by
 obtain⟨cC,cE,cB,cT,cP,cY,cR,cV⟩:=c
 refine ZV (d:=1) (Qt Zg (by kernel_rfl)) (U8 rfl rfl) rfl fun w => ?_
 unfold ZeU
 cases cV
 ·simp only[rr, tt, Bool.false_and,Bool.false_eq_true,if_false]
  exact Zj7 cC cE cB cT cP cY cR b.C b.E b.B b.T b.P b.Y b.R b.V w
 ·by_cases hy:cY=0
  ·subst hy
   simp only[rr, tt, ne_eq,not_true_eq_false,decide_false,Bool.and_false,Bool.false_and,Bool.false_eq_true,if_false]
   exact Zj8 cC cE cB cT cP 0 cR b.C b.E b.B b.T b.P b.Y b.R b.V w rfl
  ·have hy0:((cY:Int)==0)=false:=by simpa using hy
   simp only[rr, tt, ne_eq,hy,not_false_eq_true,decide_true,Bool.and_self,Bool.true_and]
   cases ho:Kc b.C b.P b.Y b.V 64 b.lo b.hi
   ·simp only[rr, tt, Bool.false_and,Bool.false_eq_true,if_false]
    exact Zj9 cC cE cB cT cP cY cR b.C b.E b.B b.T b.P b.Y b.R b.V b.lo b.hi w hb rfl rfl hy0 ho
   ·by_cases hn:b.C=cY
    ·simp only[rr, tt, hn,decide_true,Bool.and_self,if_true]
     exact Zkb cC cE cB cT cP cY cR b.C b.E b.B b.T b.P b.Y b.R b.V b.lo b.hi w hb rfl rfl hy0 ho (by simp[hn]) (by simp[hn]) hc.2.2.2.2.2.1
    ·simp only[rr, tt, hn,decide_false,Bool.and_false,Bool.false_eq_true,if_false]
     have hz:¬ (b.C:Int)=(cY:Int):=fun h=>hn (by omega)
     exact Zka cC cE cB cT cP cY cR b.C b.E b.B b.T b.P b.Y b.R b.V b.lo b.hi w hb rfl rfl hy0 ho (bne_iff_ne.2 hz) (beq_eq_false_iff_ne.2 hz) hc.2.2.2.2.2.1
theorem Zdy (c b:Cp) (hc:c.Ok) (hb:b.Ok):ConOk Tryz.prog 83 3 (Con.pure [c.val,b.val] (ZcM c b).val) :=
 ZV (d:=1) (Qt Zg (by kernel_rfl)) (U8 rfl rfl) rfl fun w=>ZeM c.C c.E c.B c.T c.P c.Y c.R c.V b.C b.E b.B b.T b.P b.Y b.R b.V c.lo c.hi b.lo b.hi w hc hb rfl rfl rfl rfl
theorem Zdz (c:Cp) (hc:c.Ok) (lo hi:Nat) (hl:lo=c.lo) (hh:hi=c.hi):ConOk Tryz.prog 76 3 (Con.pure [c.val] (.tuple ⟨[.int .u32 lo,.int .u64 hi]⟩)):=by
 subst hl; subst hh
 exact ZV (d:=1) (Qt Zg (by kernel_rfl)) (Zdv rfl) rfl fun w=>Zbb c.C c.E c.B c.T c.P c.Y c.R c.V w hc
theorem ZdA (c:Cp) (hc:c.Ok):ConOk Tryz.prog 85 3 (Con.pure [c.val] (.bool (Zbe c))) :=
 ZV (d:=1) (Qt Zg (by kernel_rfl)) (Zdv rfl) rfl fun w=>Zbc c.C c.E c.B c.T c.P c.Y c.R c.V w hc.1
theorem Um (c:Cp) (hc:c.Ok):ConOk Tryz.prog 46 3 (Con.pure [c.val] (.bool (Yd c.E c.B c.T c.P c.Y c.R))) :=
 ZV (d:=1) (Qt Zg (by kernel_rfl)) (Zdv rfl) rfl fun w=>JH c.C c.E c.B c.T c.P c.Y c.R c.V w hc
theorem ZdB (c:Cp) (a s:Nat) (hc:c.Ok) (ha:a<4294967296) (hs:s<4294967296):ConOk Tryz.prog 100 3 (Con.pure [c.val,.agg ⟨[.int .u32 a,.int .u32 s]⟩] (.bool (WO c.lo c.hi a s))) :=
 ZV (d:=1) (Qt Zg (by kernel_rfl)) (U8 rfl rfl) rfl fun w=>ZeF c.C c.E c.B c.T c.P c.Y c.R c.V a s c.lo c.hi w hc ha hs rfl rfl
def J2:Cp:=⟨0,0,0,0,0,0,0,false⟩
def frN:Nat→Cp:=fun _=>J2
def frK (fr:Nat→Cp):Nat→Nat→List Value
 | _,0=>[]
 | k,n+1=>(fr k).cs++frK fr (k+1) n
def frL (fr:Nat→Cp):List Value:=(fr 0).cs++((fr 1).cs++((fr 2).cs++((fr 3).cs++((fr 4).cs++((fr 5).cs++((fr 6).cs++((fr 7).cs++((fr 8).cs++((fr 9).cs++((fr 10).cs++((fr 11).cs++((fr 12).cs++((fr 13).cs++((fr 14).cs++((fr 15).cs++((fr 16).cs))))))))))))))))
theorem JJ (fr:Nat→Cp):frL fr=frK fr 0 17:=rfl
def frS (fr:Nat→Cp) (k:Nat) (c:Cp):Nat→Cp:=fun j=>if j=k then c else fr j
def frQ (fr:Nat→Cp) (l:List Value):List Value:=(fr 0).cs++((fr 1).cs++((fr 2).cs++((fr 3).cs++((fr 4).cs++((fr 5).cs++((fr 6).cs++((fr 7).cs++((fr 8).cs++((fr 9).cs++((fr 10).cs++((fr 11).cs++((fr 12).cs++((fr 13).cs++((fr 14).cs++((fr 15).cs++l)))))))))))))))
def frZ:List Value:=frL frN
def Q8 (fr:Nat→Cp):Value:=.agg ⟨frL fr⟩
def Wp (fr:Nat→Cp):Prop:=∀ k,(fr k).Ok
theorem Zbf (c:Cp):c.cs.length=8:=rfl
theorem U9 (fr:Nat→Cp):∀ k n,(frK fr k n).length=8*n
 | _,0=>rfl
 | k,n+1=>by
  show((fr k).cs++frK fr (k+1) n).length=_
  rw[List.length_append,U9 fr (k+1) n,Zbf]; omega
theorem Y5 {α:Type} (d:α):∀ (l:List α) (n:Nat),Zc d l n=l.getD n d
 | [],n=>by cases n<;>rfl
 | _::_,0=>rfl
 | _::l,n+1=>by
  show Zc d l n=_
  rw[Y5 d l n]; simp
theorem Zbg {α:Type} (d:α) (l m:List α) (n:Nat) (h:n<l.length):(l++m).getD n d=l.getD n d:=by
 simp only[rr, tt, List.getD]; rw[List.getElem?_append_left h]
theorem Un {α:Type} (d:α) (l m:List α) (n:Nat) (h:l.length≤n):(l++m).getD n d=m.getD (n-l.length) d:=by
 simp only[rr, tt, List.getD]; rw[List.getElem?_append_right h]
theorem ZeX (fr:Nat→Cp) (j:Nat) (hj:j<8):∀ (n k b:Nat),b<n→Zc undef (frK fr k n) (8*b+j)=Zc undef (fr (k+b)).cs j
 | 0,_,_,h=>absurd h (Nat.not_lt_zero _)
 | n+1,k,0,_=>by
  show Zc undef ((fr k).cs++frK fr (k+1) n) (8*0+j)=Zc undef (fr k).cs j
  rw[Y5,Y5,Nat.mul_zero,Nat.zero_add,Zbg _ _ _ _ (by rw[Zbf]; exact hj)]
 | n+1,k,b+1,h=>by
  show Zc undef ((fr k).cs++frK fr (k+1) n) (8*(b+1)+j)=_
  rw[Y5,Un _ _ _ _ (by rw[Zbf]; omega),Zbf,show 8*(b+1)+j-8=8*b+j by omega,← Y5,ZeX fr j hj n (k+1) b (by omega),show k+1+b=k+(b+1) by omega]
theorem Ziw (fr:Nat→Cp) (b j:Nat) (hb:b<17) (hj:j<8):Zc undef (frL fr) (8*b+j)=Zc undef (fr b).cs j:=by
 rw[JJ,ZeX fr j hj 17 0 b hb,Nat.zero_add]
theorem Uo:∀ (xs ys vs:List Value) (n:Nat),ZC (xs.length+n) vs (xs++ys)=xs++ZC n vs ys
 | [],ys,vs,n=>by rw[List.length_nil,Nat.zero_add]; rfl
 | x::xs,ys,vs,n=>by
  rw[List.length_cons,show xs.length+1+n=(xs.length+n)+1 by omega]
  show x::ZC (xs.length+n) vs (xs++ys)=x::(xs++ZC n vs ys)
  rw[Uo xs ys vs n]
theorem ZeY (fr:Nat→Cp) (a:Nat) (c:Cp):∀ n k,a<k→frK (frS fr a c) k n=frK fr k n
 | 0,_,_=>rfl
 | n+1,k,h=>by
  show(frS fr a c k).cs++frK (frS fr a c) (k+1) n=(fr k).cs++frK fr (k+1) n
  rw[ZeY fr a c n (k+1) (by omega)]
  unfold frS
  rw[if_neg (by omega)]
theorem ZeZ (fr:Nat→Cp) (c:Cp):∀ (n k a:Nat),a<n→ZC (8*a) c.cs (frK fr k n)=frK (frS fr (k+a) c) k n
 | 0,_,_,h=>absurd h (Nat.not_lt_zero _)
 | n+1,k,0,_=>by
  show ZC 0 c.cs ((fr k).cs++frK fr (k+1) n)=(frS fr k c k).cs++frK (frS fr k c) (k+1) n
  rw[ZeY fr k c n (k+1) (by omega)]
  unfold frS
  rw[if_pos rfl]
  cases frK fr (k+1) n<;>rfl
 | n+1,k,a+1,h=>by
  show ZC (8*(a+1)) c.cs ((fr k).cs++frK fr (k+1) n)=(frS fr (k+(a+1)) c k).cs++frK (frS fr (k+(a+1)) c) (k+1) n
  have h1:frS fr (k+(a+1)) c k=fr k:=by unfold frS; rw[if_neg (by omega)]
  rw[h1,show 8*(a+1)=(fr k).cs.length+8*a by rw[Zbf]; omega,Uo,ZeZ fr c n (k+1) a (by omega),show k+1+a=k+(a+1) by omega]
theorem Ze0 (fr:Nat→Cp) (c:Cp) (a:Nat) (ha:a<17):ZC (8*a) c.cs (frL fr)=frL (frS fr a c):=by
 rw[JJ,JJ,ZeZ fr c 17 0 a ha,Nat.zero_add]
theorem Kh:∀ (n:Nat) (l:List Value),n≤l.length→ZI n l=true
 | 0,_,_=>rfl
 | n+1,[],h=>absurd h (by simp)
 | n+1,_::l,h=>Kh n l (by simpa using h)
theorem oc_x (x:Int):obs (evF Tryz.prog Zk Zh 100 5 179 [Value.int .u64 x] (stT []))=some (Value.int .i64 (bits BinOp.and i64 (i64.wrap (u64.wrap (u64.wrap (u64.wrap (bits BinOp.and u64 (u64.wrap ((u64.wrap (bits BinOp.and u64 ((u64.wrap (bits BinOp.and u64 (x.fdiv (2:Int)) (6148914691236517205:Int)+bits BinOp.and u64 x (6148914691236517205:Int))).fdiv (4:Int)) (3689348814741910323:Int)+bits BinOp.and u64 (u64.wrap (bits BinOp.and u64 (x.fdiv (2:Int)) (6148914691236517205:Int)+bits BinOp.and u64 x (6148914691236517205:Int))) (3689348814741910323:Int))).fdiv (16:Int)+u64.wrap (bits BinOp.and u64 ((u64.wrap (bits BinOp.and u64 (x.fdiv (2:Int)) (6148914691236517205:Int)+bits BinOp.and u64 x (6148914691236517205:Int))).fdiv (4:Int)) (3689348814741910323:Int)+bits BinOp.and u64 (u64.wrap (bits BinOp.and u64 (x.fdiv (2:Int)) (6148914691236517205:Int)+bits BinOp.and u64 x (6148914691236517205:Int))) (3689348814741910323:Int)))) (1085102592571150095:Int)+(bits BinOp.and u64 (u64.wrap ((u64.wrap (bits BinOp.and u64 ((u64.wrap (bits BinOp.and u64 (x.fdiv (2:Int)) (6148914691236517205:Int)+bits BinOp.and u64 x (6148914691236517205:Int))).fdiv (4:Int)) (3689348814741910323:Int)+bits BinOp.and u64 (u64.wrap (bits BinOp.and u64 (x.fdiv (2:Int)) (6148914691236517205:Int)+bits BinOp.and u64 x (6148914691236517205:Int))) (3689348814741910323:Int))).fdiv (16:Int)+u64.wrap (bits BinOp.and u64 ((u64.wrap (bits BinOp.and u64 (x.fdiv (2:Int)) (6148914691236517205:Int)+bits BinOp.and u64 x (6148914691236517205:Int))).fdiv (4:Int)) (3689348814741910323:Int)+bits BinOp.and u64 (u64.wrap (bits BinOp.and u64 (x.fdiv (2:Int)) (6148914691236517205:Int)+bits BinOp.and u64 x (6148914691236517205:Int))) (3689348814741910323:Int)))) (1085102592571150095:Int)).fdiv (256:Int))+(u64.wrap (bits BinOp.and u64 (u64.wrap ((u64.wrap (bits BinOp.and u64 ((u64.wrap (bits BinOp.and u64 (x.fdiv (2:Int)) (6148914691236517205:Int)+bits BinOp.and u64 x (6148914691236517205:Int))).fdiv (4:Int)) (3689348814741910323:Int)+bits BinOp.and u64 (u64.wrap (bits BinOp.and u64 (x.fdiv (2:Int)) (6148914691236517205:Int)+bits BinOp.and u64 x (6148914691236517205:Int))) (3689348814741910323:Int))).fdiv (16:Int)+u64.wrap (bits BinOp.and u64 ((u64.wrap (bits BinOp.and u64 (x.fdiv (2:Int)) (6148914691236517205:Int)+bits BinOp.and u64 x (6148914691236517205:Int))).fdiv (4:Int)) (3689348814741910323:Int)+bits BinOp.and u64 (u64.wrap (bits BinOp.and u64 (x.fdiv (2:Int)) (6148914691236517205:Int)+bits BinOp.and u64 x (6148914691236517205:Int))) (3689348814741910323:Int)))) (1085102592571150095:Int)+(bits BinOp.and u64 (u64.wrap ((u64.wrap (bits BinOp.and u64 ((u64.wrap (bits BinOp.and u64 (x.fdiv (2:Int)) (6148914691236517205:Int)+bits BinOp.and u64 x (6148914691236517205:Int))).fdiv (4:Int)) (3689348814741910323:Int)+bits BinOp.and u64 (u64.wrap (bits BinOp.and u64 (x.fdiv (2:Int)) (6148914691236517205:Int)+bits BinOp.and u64 x (6148914691236517205:Int))) (3689348814741910323:Int))).fdiv (16:Int)+u64.wrap (bits BinOp.and u64 ((u64.wrap (bits BinOp.and u64 (x.fdiv (2:Int)) (6148914691236517205:Int)+bits BinOp.and u64 x (6148914691236517205:Int))).fdiv (4:Int)) (3689348814741910323:Int)+bits BinOp.and u64 (u64.wrap (bits BinOp.and u64 (x.fdiv (2:Int)) (6148914691236517205:Int)+bits BinOp.and u64 x (6148914691236517205:Int))) (3689348814741910323:Int)))) (1085102592571150095:Int)).fdiv (256:Int))).fdiv (65536:Int))+(u64.wrap (u64.wrap (bits BinOp.and u64 (u64.wrap ((u64.wrap (bits BinOp.and u64 ((u64.wrap (bits BinOp.and u64 (x.fdiv (2:Int)) (6148914691236517205:Int)+bits BinOp.and u64 x (6148914691236517205:Int))).fdiv (4:Int)) (3689348814741910323:Int)+bits BinOp.and u64 (u64.wrap (bits BinOp.and u64 (x.fdiv (2:Int)) (6148914691236517205:Int)+bits BinOp.and u64 x (6148914691236517205:Int))) (3689348814741910323:Int))).fdiv (16:Int)+u64.wrap (bits BinOp.and u64 ((u64.wrap (bits BinOp.and u64 (x.fdiv (2:Int)) (6148914691236517205:Int)+bits BinOp.and u64 x (6148914691236517205:Int))).fdiv (4:Int)) (3689348814741910323:Int)+bits BinOp.and u64 (u64.wrap (bits BinOp.and u64 (x.fdiv (2:Int)) (6148914691236517205:Int)+bits BinOp.and u64 x (6148914691236517205:Int))) (3689348814741910323:Int)))) (1085102592571150095:Int)+(bits BinOp.and u64 (u64.wrap ((u64.wrap (bits BinOp.and u64 ((u64.wrap (bits BinOp.and u64 (x.fdiv (2:Int)) (6148914691236517205:Int)+bits BinOp.and u64 x (6148914691236517205:Int))).fdiv (4:Int)) (3689348814741910323:Int)+bits BinOp.and u64 (u64.wrap (bits BinOp.and u64 (x.fdiv (2:Int)) (6148914691236517205:Int)+bits BinOp.and u64 x (6148914691236517205:Int))) (3689348814741910323:Int))).fdiv (16:Int)+u64.wrap (bits BinOp.and u64 ((u64.wrap (bits BinOp.and u64 (x.fdiv (2:Int)) (6148914691236517205:Int)+bits BinOp.and u64 x (6148914691236517205:Int))).fdiv (4:Int)) (3689348814741910323:Int)+bits BinOp.and u64 (u64.wrap (bits BinOp.and u64 (x.fdiv (2:Int)) (6148914691236517205:Int)+bits BinOp.and u64 x (6148914691236517205:Int))) (3689348814741910323:Int)))) (1085102592571150095:Int)).fdiv (256:Int))+(u64.wrap (bits BinOp.and u64 (u64.wrap ((u64.wrap (bits BinOp.and u64 ((u64.wrap (bits BinOp.and u64 (x.fdiv (2:Int)) (6148914691236517205:Int)+bits BinOp.and u64 x (6148914691236517205:Int))).fdiv (4:Int)) (3689348814741910323:Int)+bits BinOp.and u64 (u64.wrap (bits BinOp.and u64 (x.fdiv (2:Int)) (6148914691236517205:Int)+bits BinOp.and u64 x (6148914691236517205:Int))) (3689348814741910323:Int))).fdiv (16:Int)+u64.wrap (bits BinOp.and u64 ((u64.wrap (bits BinOp.and u64 (x.fdiv (2:Int)) (6148914691236517205:Int)+bits BinOp.and u64 x (6148914691236517205:Int))).fdiv (4:Int)) (3689348814741910323:Int)+bits BinOp.and u64 (u64.wrap (bits BinOp.and u64 (x.fdiv (2:Int)) (6148914691236517205:Int)+bits BinOp.and u64 x (6148914691236517205:Int))) (3689348814741910323:Int)))) (1085102592571150095:Int)+(bits BinOp.and u64 (u64.wrap ((u64.wrap (bits BinOp.and u64 ((u64.wrap (bits BinOp.and u64 (x.fdiv (2:Int)) (6148914691236517205:Int)+bits BinOp.and u64 x (6148914691236517205:Int))).fdiv (4:Int)) (3689348814741910323:Int)+bits BinOp.and u64 (u64.wrap (bits BinOp.and u64 (x.fdiv (2:Int)) (6148914691236517205:Int)+bits BinOp.and u64 x (6148914691236517205:Int))) (3689348814741910323:Int))).fdiv (16:Int)+u64.wrap (bits BinOp.and u64 ((u64.wrap (bits BinOp.and u64 (x.fdiv (2:Int)) (6148914691236517205:Int)+bits BinOp.and u64 x (6148914691236517205:Int))).fdiv (4:Int)) (3689348814741910323:Int)+bits BinOp.and u64 (u64.wrap (bits BinOp.and u64 (x.fdiv (2:Int)) (6148914691236517205:Int)+bits BinOp.and u64 x (6148914691236517205:Int))) (3689348814741910323:Int)))) (1085102592571150095:Int)).fdiv (256:Int))).fdiv (65536:Int))).fdiv (4294967296:Int)))) (127:Int)),True):=by kernel_rfl
def ZjJ (x:Int):Int:=(bits BinOp.and i64 (i64.wrap (u64.wrap (u64.wrap (u64.wrap (bits BinOp.and u64 (u64.wrap ((u64.wrap (bits BinOp.and u64 ((u64.wrap (bits BinOp.and u64 (x.fdiv (2:Int)) (6148914691236517205:Int)+bits BinOp.and u64 x (6148914691236517205:Int))).fdiv (4:Int)) (3689348814741910323:Int)+bits BinOp.and u64 (u64.wrap (bits BinOp.and u64 (x.fdiv (2:Int)) (6148914691236517205:Int)+bits BinOp.and u64 x (6148914691236517205:Int))) (3689348814741910323:Int))).fdiv (16:Int)+u64.wrap (bits BinOp.and u64 ((u64.wrap (bits BinOp.and u64 (x.fdiv (2:Int)) (6148914691236517205:Int)+bits BinOp.and u64 x (6148914691236517205:Int))).fdiv (4:Int)) (3689348814741910323:Int)+bits BinOp.and u64 (u64.wrap (bits BinOp.and u64 (x.fdiv (2:Int)) (6148914691236517205:Int)+bits BinOp.and u64 x (6148914691236517205:Int))) (3689348814741910323:Int)))) (1085102592571150095:Int)+(bits BinOp.and u64 (u64.wrap ((u64.wrap (bits BinOp.and u64 ((u64.wrap (bits BinOp.and u64 (x.fdiv (2:Int)) (6148914691236517205:Int)+bits BinOp.and u64 x (6148914691236517205:Int))).fdiv (4:Int)) (3689348814741910323:Int)+bits BinOp.and u64 (u64.wrap (bits BinOp.and u64 (x.fdiv (2:Int)) (6148914691236517205:Int)+bits BinOp.and u64 x (6148914691236517205:Int))) (3689348814741910323:Int))).fdiv (16:Int)+u64.wrap (bits BinOp.and u64 ((u64.wrap (bits BinOp.and u64 (x.fdiv (2:Int)) (6148914691236517205:Int)+bits BinOp.and u64 x (6148914691236517205:Int))).fdiv (4:Int)) (3689348814741910323:Int)+bits BinOp.and u64 (u64.wrap (bits BinOp.and u64 (x.fdiv (2:Int)) (6148914691236517205:Int)+bits BinOp.and u64 x (6148914691236517205:Int))) (3689348814741910323:Int)))) (1085102592571150095:Int)).fdiv (256:Int))+(u64.wrap (bits BinOp.and u64 (u64.wrap ((u64.wrap (bits BinOp.and u64 ((u64.wrap (bits BinOp.and u64 (x.fdiv (2:Int)) (6148914691236517205:Int)+bits BinOp.and u64 x (6148914691236517205:Int))).fdiv (4:Int)) (3689348814741910323:Int)+bits BinOp.and u64 (u64.wrap (bits BinOp.and u64 (x.fdiv (2:Int)) (6148914691236517205:Int)+bits BinOp.and u64 x (6148914691236517205:Int))) (3689348814741910323:Int))).fdiv (16:Int)+u64.wrap (bits BinOp.and u64 ((u64.wrap (bits BinOp.and u64 (x.fdiv (2:Int)) (6148914691236517205:Int)+bits BinOp.and u64 x (6148914691236517205:Int))).fdiv (4:Int)) (3689348814741910323:Int)+bits BinOp.and u64 (u64.wrap (bits BinOp.and u64 (x.fdiv (2:Int)) (6148914691236517205:Int)+bits BinOp.and u64 x (6148914691236517205:Int))) (3689348814741910323:Int)))) (1085102592571150095:Int)+(bits BinOp.and u64 (u64.wrap ((u64.wrap (bits BinOp.and u64 ((u64.wrap (bits BinOp.and u64 (x.fdiv (2:Int)) (6148914691236517205:Int)+bits BinOp.and u64 x (6148914691236517205:Int))).fdiv (4:Int)) (3689348814741910323:Int)+bits BinOp.and u64 (u64.wrap (bits BinOp.and u64 (x.fdiv (2:Int)) (6148914691236517205:Int)+bits BinOp.and u64 x (6148914691236517205:Int))) (3689348814741910323:Int))).fdiv (16:Int)+u64.wrap (bits BinOp.and u64 ((u64.wrap (bits BinOp.and u64 (x.fdiv (2:Int)) (6148914691236517205:Int)+bits BinOp.and u64 x (6148914691236517205:Int))).fdiv (4:Int)) (3689348814741910323:Int)+bits BinOp.and u64 (u64.wrap (bits BinOp.and u64 (x.fdiv (2:Int)) (6148914691236517205:Int)+bits BinOp.and u64 x (6148914691236517205:Int))) (3689348814741910323:Int)))) (1085102592571150095:Int)).fdiv (256:Int))).fdiv (65536:Int))+(u64.wrap (u64.wrap (bits BinOp.and u64 (u64.wrap ((u64.wrap (bits BinOp.and u64 ((u64.wrap (bits BinOp.and u64 (x.fdiv (2:Int)) (6148914691236517205:Int)+bits BinOp.and u64 x (6148914691236517205:Int))).fdiv (4:Int)) (3689348814741910323:Int)+bits BinOp.and u64 (u64.wrap (bits BinOp.and u64 (x.fdiv (2:Int)) (6148914691236517205:Int)+bits BinOp.and u64 x (6148914691236517205:Int))) (3689348814741910323:Int))).fdiv (16:Int)+u64.wrap (bits BinOp.and u64 ((u64.wrap (bits BinOp.and u64 (x.fdiv (2:Int)) (6148914691236517205:Int)+bits BinOp.and u64 x (6148914691236517205:Int))).fdiv (4:Int)) (3689348814741910323:Int)+bits BinOp.and u64 (u64.wrap (bits BinOp.and u64 (x.fdiv (2:Int)) (6148914691236517205:Int)+bits BinOp.and u64 x (6148914691236517205:Int))) (3689348814741910323:Int)))) (1085102592571150095:Int)+(bits BinOp.and u64 (u64.wrap ((u64.wrap (bits BinOp.and u64 ((u64.wrap (bits BinOp.and u64 (x.fdiv (2:Int)) (6148914691236517205:Int)+bits BinOp.and u64 x (6148914691236517205:Int))).fdiv (4:Int)) (3689348814741910323:Int)+bits BinOp.and u64 (u64.wrap (bits BinOp.and u64 (x.fdiv (2:Int)) (6148914691236517205:Int)+bits BinOp.and u64 x (6148914691236517205:Int))) (3689348814741910323:Int))).fdiv (16:Int)+u64.wrap (bits BinOp.and u64 ((u64.wrap (bits BinOp.and u64 (x.fdiv (2:Int)) (6148914691236517205:Int)+bits BinOp.and u64 x (6148914691236517205:Int))).fdiv (4:Int)) (3689348814741910323:Int)+bits BinOp.and u64 (u64.wrap (bits BinOp.and u64 (x.fdiv (2:Int)) (6148914691236517205:Int)+bits BinOp.and u64 x (6148914691236517205:Int))) (3689348814741910323:Int)))) (1085102592571150095:Int)).fdiv (256:Int))+(u64.wrap (bits BinOp.and u64 (u64.wrap ((u64.wrap (bits BinOp.and u64 ((u64.wrap (bits BinOp.and u64 (x.fdiv (2:Int)) (6148914691236517205:Int)+bits BinOp.and u64 x (6148914691236517205:Int))).fdiv (4:Int)) (3689348814741910323:Int)+bits BinOp.and u64 (u64.wrap (bits BinOp.and u64 (x.fdiv (2:Int)) (6148914691236517205:Int)+bits BinOp.and u64 x (6148914691236517205:Int))) (3689348814741910323:Int))).fdiv (16:Int)+u64.wrap (bits BinOp.and u64 ((u64.wrap (bits BinOp.and u64 (x.fdiv (2:Int)) (6148914691236517205:Int)+bits BinOp.and u64 x (6148914691236517205:Int))).fdiv (4:Int)) (3689348814741910323:Int)+bits BinOp.and u64 (u64.wrap (bits BinOp.and u64 (x.fdiv (2:Int)) (6148914691236517205:Int)+bits BinOp.and u64 x (6148914691236517205:Int))) (3689348814741910323:Int)))) (1085102592571150095:Int)+(bits BinOp.and u64 (u64.wrap ((u64.wrap (bits BinOp.and u64 ((u64.wrap (bits BinOp.and u64 (x.fdiv (2:Int)) (6148914691236517205:Int)+bits BinOp.and u64 x (6148914691236517205:Int))).fdiv (4:Int)) (3689348814741910323:Int)+bits BinOp.and u64 (u64.wrap (bits BinOp.and u64 (x.fdiv (2:Int)) (6148914691236517205:Int)+bits BinOp.and u64 x (6148914691236517205:Int))) (3689348814741910323:Int))).fdiv (16:Int)+u64.wrap (bits BinOp.and u64 ((u64.wrap (bits BinOp.and u64 (x.fdiv (2:Int)) (6148914691236517205:Int)+bits BinOp.and u64 x (6148914691236517205:Int))).fdiv (4:Int)) (3689348814741910323:Int)+bits BinOp.and u64 (u64.wrap (bits BinOp.and u64 (x.fdiv (2:Int)) (6148914691236517205:Int)+bits BinOp.and u64 x (6148914691236517205:Int))) (3689348814741910323:Int)))) (1085102592571150095:Int)).fdiv (256:Int))).fdiv (65536:Int))).fdiv (4294967296:Int)))) (127:Int))
def ZfX (x:Int):Nat:=(ZjJ x).toNat
theorem Zix (x:Int):ZjJ x=(ZfX x:Int):=by
 unfold ZfX
 have h:0≤ZjJ x:=by
  unfold ZjJ
  generalize i64.wrap _=a
  show 0≤i64.wrap ((BitVec.ofInt 64 a&&&BitVec.ofInt 64 127).toNat:Int)
  have hb:(BitVec.ofInt 64 a&&&BitVec.ofInt 64 127).toNat≤127:=by
   rw[BitVec.toNat_and]
   exact Nat.and_le_right
  rw[wrap_i64 (by omega) (by omega)]
  omega
 omega
theorem Ziy (x:Int):ConOk Tryz.prog 179 3 (Con.pure [.int .u64 x] (.int .i64 (ZfX x:Nat))):=by
 have hr:=oc_x x
 rw[show(Value.int .i64 (ZfX x:Nat)) = .int .i64 (ZjJ x) by rw[Zix]]
 exact ZK (d:=1) (Zt (L:=100) Zg (Zf _) (Ze _) 5) (T:=[]) (v:=.int .i64 (ZjJ x)) hr trivial rfl rfl
def v64 (ws:List Nat):List Value:=ws.map fun w => .int .u64 (w:Nat)
def mpW (rw:Bool) (m:Nat) (ws:List Nat):Sy.Heap:=[(66,⟨false,none,[.int .i64 (m:Nat),.slice (some ⟨65,0,none⟩) ws.length (big+65)],none⟩),(65,⟨rw,some (65,1),v64 ws,none⟩)]
def JK (r:Int→Nat):ZaV:=fun f args _=>bif Nat.beq f 179 then(match args with|[.int .u64 x]=>some (Con.pure [.int .u64 x] (.int .i64 (r x:Nat)),[],True)|_=>none) else none
theorem cw_a (r:Int→Nat) (x y:Int) (m:Nat) (ws:List Nat):evF Tryz.prog (Wb 3 (JK r)) Zh 100 40 158 [Value.pointer (some ⟨66,0,none⟩),.int .i64 x,.int .i64 y] ⟨68,mpW true m ws,[(65,ws.length)],0,(tb 5 4),0,True⟩=some (Value.int .i64 (i64.wrap ((0:Int)+(↑(r (bits BinOp.and u64 (Zb (Zc undef (v64 ws) (0+(i64.wrap ((if(0:Int)>x then(0:Int) else x).tdiv (64:Int))).toNat*1))) (u64.wrap (Int.fdiv (18446744073709551615:Int) ((2:Int)^min (i64.wrap ((64:Int)-i64.wrap ((if(64:Int)<i64.wrap ((if(↑m:Int)<y then(↑m:Int) else y)-i64.wrap (i64.wrap ((if(0:Int)>x then(0:Int) else x).tdiv (64:Int))*(64:Int))) then(64:Int) else i64.wrap ((if(↑m:Int)<y then(↑m:Int) else y)-i64.wrap (i64.wrap ((if(0:Int)>x then(0:Int) else x).tdiv (64:Int))*(64:Int))))-if(0:Int)>i64.wrap ((if(0:Int)>x then(0:Int) else x)-i64.wrap (i64.wrap ((if(0:Int)>x then(0:Int) else x).tdiv (64:Int))*(64:Int))) then(0:Int) else i64.wrap ((if(0:Int)>x then(0:Int) else x)-i64.wrap (i64.wrap ((if(0:Int)>x then(0:Int) else x).tdiv (64:Int))*(64:Int)))))).toNat 64)*(2:Int)^min (if(0:Int)>i64.wrap ((if(0:Int)>x then(0:Int) else x)-i64.wrap (i64.wrap ((if(0:Int)>x then(0:Int) else x).tdiv (64:Int))*(64:Int))) then(0:Int) else i64.wrap ((if(0:Int)>x then(0:Int) else x)-i64.wrap (i64.wrap ((if(0:Int)>x then(0:Int) else x).tdiv (64:Int))*(64:Int)))).toNat 64)))):Int))),{ n:=68,h:=[(66,⟨false,none,[Value.int .i64 (↑m),.slice (some ⟨65,0,none⟩) ws.length 9223372036854775873],none⟩),(65,⟨true,some (65,1),ZC (0+(i64.wrap ((if(0:Int)>x then(0:Int) else x).tdiv (64:Int))).toNat*1) [Value.int .u64 (bits BinOp.andNot u64 (Zb (Zc undef (v64 ws) (0+(i64.wrap ((if(0:Int)>x then(0:Int) else x).tdiv (64:Int))).toNat*1))) (u64.wrap (Int.fdiv (18446744073709551615:Int) ((2:Int)^min (i64.wrap ((64:Int)-i64.wrap ((if(64:Int)<i64.wrap ((if(↑m:Int)<y then(↑m:Int) else y)-i64.wrap (i64.wrap ((if(0:Int)>x then(0:Int) else x).tdiv (64:Int))*(64:Int))) then(64:Int) else i64.wrap ((if(↑m:Int)<y then(↑m:Int) else y)-i64.wrap (i64.wrap ((if(0:Int)>x then(0:Int) else x).tdiv (64:Int))*(64:Int))))-if(0:Int)>i64.wrap ((if(0:Int)>x then(0:Int) else x)-i64.wrap (i64.wrap ((if(0:Int)>x then(0:Int) else x).tdiv (64:Int))*(64:Int))) then(0:Int) else i64.wrap ((if(0:Int)>x then(0:Int) else x)-i64.wrap (i64.wrap ((if(0:Int)>x then(0:Int) else x).tdiv (64:Int))*(64:Int)))))).toNat 64)*(2:Int)^min (if(0:Int)>i64.wrap ((if(0:Int)>x then(0:Int) else x)-i64.wrap (i64.wrap ((if(0:Int)>x then(0:Int) else x).tdiv (64:Int))*(64:Int))) then(0:Int) else i64.wrap ((if(0:Int)>x then(0:Int) else x)-i64.wrap (i64.wrap ((if(0:Int)>x then(0:Int) else x).tdiv (64:Int))*(64:Int)))).toNat 64)))] (v64 ws),none⟩)],lo:=[(65,ws.length)],esc:=0,T:=[],k:=5,O:=(bif ZI (0+(i64.wrap ((if(0:Int)>x then(0:Int) else x).tdiv (64:Int))).toNat*1+1) (v64 ws)&&true&&true then bif decide ((0:Int)≤i64.wrap ((if(0:Int)>x then(0:Int) else x).tdiv (64:Int)))&&decide (i64.wrap ((if(0:Int)>x then(0:Int) else x).tdiv (64:Int))<(↑ws.length:Int)) then bif ZI (0+(i64.wrap ((if(0:Int)>x then(0:Int) else x).tdiv (64:Int))).toNat*1+1) (v64 ws)&&Zi [Value.int .u64 0] (v64 ws) (0+(i64.wrap ((if(0:Int)>x then(0:Int) else x).tdiv (64:Int))).toNat*1) then bif decide ((0:Int)≤i64.wrap ((if(0:Int)>x then(0:Int) else x).tdiv (64:Int)))&&decide (i64.wrap ((if(0:Int)>x then(0:Int) else x).tdiv (64:Int))<(↑ws.length:Int)) then(bif ZI (0+(i64.wrap ((if(0:Int)>x then(0:Int) else x).tdiv (64:Int))).toNat*1+1) (v64 ws)&&Zi [Value.int .u64 0] (v64 ws) (0+(i64.wrap ((if(0:Int)>x then(0:Int) else x).tdiv (64:Int))).toNat*1) then bif decide ((0:Int)≤i64.wrap ((if(0:Int)>x then(0:Int) else x).tdiv (64:Int)))&&decide (i64.wrap ((if(0:Int)>x then(0:Int) else x).tdiv (64:Int))<(↑ws.length:Int)) then bif decide ((0:Int)≤if(0:Int)>i64.wrap ((if(0:Int)>x then(0:Int) else x)-i64.wrap (i64.wrap ((if(0:Int)>x then(0:Int) else x).tdiv (64:Int))*(64:Int))) then(0:Int) else i64.wrap ((if(0:Int)>x then(0:Int) else x)-i64.wrap (i64.wrap ((if(0:Int)>x then(0:Int) else x).tdiv (64:Int))*(64:Int)))) then bif decide ((0:Int)≤i64.wrap ((64:Int)-i64.wrap ((if(64:Int)<i64.wrap ((if(↑m:Int)<y then(↑m:Int) else y)-i64.wrap (i64.wrap ((if(0:Int)>x then(0:Int) else x).tdiv (64:Int))*(64:Int))) then(64:Int) else i64.wrap ((if(↑m:Int)<y then(↑m:Int) else y)-i64.wrap (i64.wrap ((if(0:Int)>x then(0:Int) else x).tdiv (64:Int))*(64:Int))))-if(0:Int)>i64.wrap ((if(0:Int)>x then(0:Int) else x)-i64.wrap (i64.wrap ((if(0:Int)>x then(0:Int) else x).tdiv (64:Int))*(64:Int))) then(0:Int) else i64.wrap ((if(0:Int)>x then(0:Int) else x)-i64.wrap (i64.wrap ((if(0:Int)>x then(0:Int) else x).tdiv (64:Int))*(64:Int)))))) then(((True∧rr false)∧decide ((if(0:Int)>x then(0:Int) else x)≥if(↑m:Int)<y then(↑m:Int) else y)=false)∧decide (i64.wrap (i64.wrap ((if(0:Int)>x then(0:Int) else x).tdiv (64:Int))*(64:Int))<if(↑m:Int)<y then(↑m:Int) else y)=true)∧decide ((if(0:Int)>i64.wrap ((if(0:Int)>x then(0:Int) else x)-i64.wrap (i64.wrap ((if(0:Int)>x then(0:Int) else x).tdiv (64:Int))*(64:Int))) then(0:Int) else i64.wrap ((if(0:Int)>x then(0:Int) else x)-i64.wrap (i64.wrap ((if(0:Int)>x then(0:Int) else x).tdiv (64:Int))*(64:Int))))≥if(64:Int)<i64.wrap ((if(↑m:Int)<y then(↑m:Int) else y)-i64.wrap (i64.wrap ((if(0:Int)>x then(0:Int) else x).tdiv (64:Int))*(64:Int))) then(64:Int) else i64.wrap ((if(↑m:Int)<y then(↑m:Int) else y)-i64.wrap (i64.wrap ((if(0:Int)>x then(0:Int) else x).tdiv (64:Int))*(64:Int))))=false else False else False else False else False)∧True∧(rr (Value.int .u64 (bits BinOp.and u64 (Zb (Zc undef (v64 ws) (0+(i64.wrap ((if(0:Int)>x then(0:Int) else x).tdiv (64:Int))).toNat*1))) (u64.wrap (Int.fdiv (18446744073709551615:Int) ((2:Int)^min (i64.wrap ((64:Int)-i64.wrap ((if(64:Int)<i64.wrap ((if(↑m:Int)<y then(↑m:Int) else y)-i64.wrap (i64.wrap ((if(0:Int)>x then(0:Int) else x).tdiv (64:Int))*(64:Int))) then(64:Int) else i64.wrap ((if(↑m:Int)<y then(↑m:Int) else y)-i64.wrap (i64.wrap ((if(0:Int)>x then(0:Int) else x).tdiv (64:Int))*(64:Int))))-if(0:Int)>i64.wrap ((if(0:Int)>x then(0:Int) else x)-i64.wrap (i64.wrap ((if(0:Int)>x then(0:Int) else x).tdiv (64:Int))*(64:Int))) then(0:Int) else i64.wrap ((if(0:Int)>x then(0:Int) else x)-i64.wrap (i64.wrap ((if(0:Int)>x then(0:Int) else x).tdiv (64:Int))*(64:Int)))))).toNat 64)*(2:Int)^min (if(0:Int)>i64.wrap ((if(0:Int)>x then(0:Int) else x)-i64.wrap (i64.wrap ((if(0:Int)>x then(0:Int) else x).tdiv (64:Int))*(64:Int))) then(0:Int) else i64.wrap ((if(0:Int)>x then(0:Int) else x)-i64.wrap (i64.wrap ((if(0:Int)>x then(0:Int) else x).tdiv (64:Int))*(64:Int)))).toNat 64))))∧True)∧True∧True else False else False else False else False)∧decide (i64.wrap (i64.wrap (i64.wrap ((if(0:Int)>x then(0:Int) else x).tdiv (64:Int))+(1:Int))*(64:Int))<if(↑m:Int)<y then(↑m:Int) else y)=false:St }):=by kernel_rfl
theorem pw_t (r:Int→Nat) (x:Int) (m:Nat) (ws:List Nat):evF Tryz.prog (Wb 3 (JK r)) Zh 100 40 93 [Value.pointer (some ⟨66,0,none⟩),.int .i64 x,.bool true] ⟨68,mpW true m ws,[(65,ws.length)],0,(tb 12 3071),0,True⟩=some (Value.bool true,{ n:=68,h:=[(66,⟨false,none,[Value.int .i64 (↑m),.slice (some ⟨65,0,none⟩) ws.length 9223372036854775873],none⟩),(65,⟨true,some (65,1),ZC (0+(i64.wrap (x.tdiv (64:Int))).toNat*1) [Value.int .u64 (bits BinOp.or u64 (Zb (Zc undef (v64 ws) (0+(i64.wrap (x.tdiv (64:Int))).toNat*1))) (u64.wrap ((1:Int)*(2:Int)^min (x.tmod (64:Int)).toNat 64)))] (v64 ws),none⟩)],lo:=[(65,ws.length)],esc:=0,T:=[],k:=12,O:=bif ZI (0+(i64.wrap (x.tdiv (64:Int))).toNat*1+1) (v64 ws)&&true&&true then bif decide ((0:Int)≤i64.wrap (x.tdiv (64:Int)))&&decide (i64.wrap (x.tdiv (64:Int))<(↑ws.length:Int)) then bif ZI (0+(i64.wrap (x.tdiv (64:Int))).toNat*1+1) (v64 ws)&&Zi [Value.int .u64 0] (v64 ws) (0+(i64.wrap (x.tdiv (64:Int))).toNat*1) then bif decide ((0:Int)≤i64.wrap (x.tdiv (64:Int)))&&decide (i64.wrap (x.tdiv (64:Int))<(↑ws.length:Int)) then(bif decide ((0:Int)≤x.tmod (64:Int)) then((((((((((True∧tt)∧tt)∧tt)∧decide (x≥(0:Int))=true)∧decide (x≥(0:Int))=true)∧decide (x≥(0:Int))=true)∧decide (x≥(0:Int))=true)∧decide (x≥(0:Int))=true)∧decide (x≥(0:Int))=true)∧decide (x≥(0:Int))=true)∧(!decide (x<(↑m:Int)))=false else False)∧true=true else False else False else False else False:St }):=by kernel_rfl
theorem pw_f (r:Int→Nat) (x:Int) (m:Nat) (ws:List Nat):evF Tryz.prog (Wb 3 (JK r)) Zh 100 40 93 [Value.pointer (some ⟨66,0,none⟩),.int .i64 x,.bool false] ⟨68,mpW true m ws,[(65,ws.length)],0,(tb 12 1023),0,True⟩=some (Value.bool true,{ n:=68,h:=[(66,⟨false,none,[Value.int .i64 (↑m),.slice (some ⟨65,0,none⟩) ws.length 9223372036854775873],none⟩),(65,⟨true,some (65,1),ZC (0+(i64.wrap (x.tdiv (64:Int))).toNat*1) [Value.int .u64 (bits BinOp.andNot u64 (Zb (Zc undef (v64 ws) (0+(i64.wrap (x.tdiv (64:Int))).toNat*1))) (u64.wrap ((1:Int)*(2:Int)^min (x.tmod (64:Int)).toNat 64)))] (v64 ws),none⟩)],lo:=[(65,ws.length)],esc:=0,T:=[],k:=12,O:=bif ZI (0+(i64.wrap (x.tdiv (64:Int))).toNat*1+1) (v64 ws)&&true&&true then bif decide ((0:Int)≤i64.wrap (x.tdiv (64:Int)))&&decide (i64.wrap (x.tdiv (64:Int))<(↑ws.length:Int)) then bif ZI (0+(i64.wrap (x.tdiv (64:Int))).toNat*1+1) (v64 ws)&&Zi [Value.int .u64 0] (v64 ws) (0+(i64.wrap (x.tdiv (64:Int))).toNat*1) then bif decide ((0:Int)≤i64.wrap (x.tdiv (64:Int)))&&decide (i64.wrap (x.tdiv (64:Int))<(↑ws.length:Int)) then(bif decide ((0:Int)≤x.tmod (64:Int)) then((((((((((True∧tt)∧tt)∧tt)∧decide (x≥(0:Int))=true)∧decide (x≥(0:Int))=true)∧decide (x≥(0:Int))=true)∧decide (x≥(0:Int))=true)∧decide (x≥(0:Int))=true)∧decide (x≥(0:Int))=true)∧decide (x≥(0:Int))=true)∧(!decide (x<(↑m:Int)))=false else False)∧false=false else False else False else False else False:St }):=by kernel_rfl
theorem gw_a (r:Int→Nat) (x:Int) (m:Nat) (ws:List Nat):obs (evF Tryz.prog (Wb 3 (JK r)) Zh 100 40 98 [Value.pointer (some ⟨66,0,none⟩),.int .i64 x] ⟨68,mpW false m ws,[(65,ws.length)],0,(tb 24 16777215),0,True⟩)=some (Value.bool (bits BinOp.and u64 ((Zb (Zc undef (v64 ws) (0+(i64.wrap (x.tdiv (64:Int))).toNat*1))).fdiv ((2:Int)^min (x.tmod (64:Int)).toNat 64)) (1:Int)==(1:Int)),(((bif decide ((0:Int)≤x.tmod (64:Int)) then(((bif ZI (0+(i64.wrap (x.tdiv (64:Int))).toNat*1+1) (v64 ws)&&Zi [Value.int .u64 0] (v64 ws) (0+(i64.wrap (x.tdiv (64:Int))).toNat*1) then(bif decide ((0:Int)≤i64.wrap (x.tdiv (64:Int)))&&decide (i64.wrap (x.tdiv (64:Int))<(↑ws.length:Int)) then((((((((((((((((True∧tt)∧tt)∧tt)∧decide (x≥(0:Int))=true)∧decide (x≥(0:Int))=true)∧decide (x≥(0:Int))=true)∧decide (x≥(0:Int))=true)∧decide (x≥(0:Int))=true)∧decide (x≥(0:Int))=true)∧decide (x≥(0:Int))=true)∧decide (x<(↑m:Int))=true)∧decide (x<(↑m:Int))=true)∧decide (x<(↑m:Int))=true)∧decide (x<(↑m:Int))=true)∧decide (x<(↑m:Int))=true)∧decide (x<(↑m:Int))=true)∧decide (x<(↑m:Int))=true else False)∧decide (x<(↑m:Int))=true else False)∧decide (x<(↑m:Int))=true)∧decide (x<(↑m:Int))=true)∧decide (x<(↑m:Int))=true else False)∧decide (x<(↑m:Int))=true)∧decide (x<(↑m:Int))=true)∧decide (x<(↑m:Int))=true):=by kernel_rfl
def bn (f:Nat→Bool):Nat→Nat
 | 0=>0
 | n+1=>(f 0).toNat+2*bn (fun i=>f (i+1)) n
theorem KM:∀ (n:Nat) (f:Nat→Bool) (i:Nat),(bn f n).testBit i=(decide (i<n)&&f i)
 | 0,f,i=>by simp[bn]
 | n+1,f,0=>by
  simp only[rr, tt, bn,Nat.testBit_zero]
  cases f 0<;>simp<;>omega
 | n+1,f,i+1=>by
  rw[Nat.testBit_succ]
  have:bn f (n+1)/2=bn (fun i=>f (i+1)) n:=by
   simp only[rr, tt, bn]; cases f 0<;>simp<;>omega
  rw[this,KM n (fun i=>f (i+1)) i]
  simp
theorem Ze1:∀ (n:Nat) (f:Nat→Bool),bn f n<2^n
 | 0,f=>by simp[bn]
 | n+1,f=>by
  have:=Ze1 n (fun i=>f (i+1))
  simp only[rr, tt, bn,Nat.pow_succ]
  cases f 0<;>simp<;>omega
theorem ZhE (f g:Nat→Bool) (n:Nat) (h:∀ i,i<n→f i=g i):bn f n=bn g n:=by
 apply Nat.eq_of_testBit_eq
 intro i
 rw[KM,KM]
 by_cases hi:i<n
 ·simp[hi,h i hi]
 ·simp[hi]
def Qr (f:Nat→Bool) (g:Nat) (b:Bool):Nat→Bool:=fun i=>if i=g then b else f i
theorem Zaa (n:Nat) (h:n<18446744073709551616):u64.wrap (n:Int)=(n:Int):=by
 show(n:Int)%18446744073709551616=n
 omega
theorem Zkh (f:Nat→Bool) (j:Nat) (hj:j<64):bits .or .u64 ((bn f 64:Nat):Int) ((2^j:Nat):Int)=((bn (Qr f j true) 64:Nat):Int):=by
 have h1:=Ze1 64 f
 show u64.wrap ((BitVec.ofInt 64 ((bn f 64:Nat):Int)|||BitVec.ofInt 64 ((2^j:Nat):Int)).toNat:Int)=_
 have he:(BitVec.ofInt 64 ((bn f 64:Nat):Int)|||BitVec.ofInt 64 ((2^j:Nat):Int)).toNat=bn (Qr f j true) 64:=by
  apply Nat.eq_of_testBit_eq
  intro i
  rw[BitVec.testBit_toNat,BitVec.getLsbD_or,BitVec.ofInt_natCast,BitVec.ofInt_natCast,BitVec.getLsbD_ofNat,BitVec.getLsbD_ofNat,KM,KM,Nat.testBit_two_pow]
  by_cases hi:i<64
  ·by_cases h:i=j
   ·subst h; simp[hi,Qr]
   ·have:¬ j=i:=fun e=>h e.symm
    simp[hi,Qr,h,this]
  ·simp[hi]
 rw[he,Zaa _ (by have:=Ze1 64 (Qr f j true); simpa using this)]
theorem Up (f:Nat→Bool) (j:Nat) (hj:j<64):bits .andNot .u64 ((bn f 64:Nat):Int) ((2^j:Nat):Int)=((bn (Qr f j false) 64:Nat):Int):=by
 show u64.wrap ((BitVec.ofInt 64 ((bn f 64:Nat):Int) &&& ~~~ BitVec.ofInt 64 ((2^j:Nat):Int)).toNat:Int)=_
 have he:(BitVec.ofInt 64 ((bn f 64:Nat):Int) &&& ~~~ BitVec.ofInt 64 ((2^j:Nat):Int)).toNat=bn (Qr f j false) 64:=by
  apply Nat.eq_of_testBit_eq
  intro i
  rw[BitVec.testBit_toNat,BitVec.getLsbD_and,BitVec.getLsbD_not,BitVec.ofInt_natCast,BitVec.ofInt_natCast,BitVec.getLsbD_ofNat,BitVec.getLsbD_ofNat,KM,KM,Nat.testBit_two_pow]
  by_cases hi:i<64
  ·by_cases h:i=j
   ·subst h; simp[hi,Qr]
   ·have:¬ j=i:=fun e=>h e.symm
    simp[hi,Qr,h,this]
  ·simp[hi]
 rw[he,Zaa _ (by have:=Ze1 64 (Qr f j false); simpa using this)]
theorem Ziz (f:Nat→Bool) (j:Nat) (hj:j<64):(bits .and .u64 (((bn f 64:Nat):Int).fdiv ((2:Int)^j)) (1:Int)==(1:Int))=f j:=by
 have e2:(2:Int)^j=((2^j:Nat):Int):=by rw[Int.natCast_pow]; rfl
 rw[e2,fdA]
 have h1:=Ze1 64 f
 have hlt:bn f 64/2^j<2^64:=Nat.lt_of_le_of_lt (Nat.div_le_self _ _) h1
 have hb:bits .and .u64 ((bn f 64/2^j:Nat):Int) (1:Int)=((bn f 64/2^j%2:Nat):Int):=by
  show u64.wrap ((BitVec.ofInt 64 ((bn f 64/2^j:Nat):Int)&&&BitVec.ofInt 64 ((1:Nat):Int)).toNat:Int)=_
  rw[BitVec.ofInt_natCast,BitVec.ofInt_natCast,BitVec.toNat_and,BitVec.toNat_ofNat,BitVec.toNat_ofNat,Nat.mod_eq_of_lt hlt,Nat.mod_eq_of_lt (by omega:1<2^64),Nat.and_one_is_mod,Zaa _ (by omega)]
 rw[hb]
 have ht:(bn f 64).testBit j=f j:=by rw[KM]; simp[hj]
 rw[Nat.testBit_eq_decide_div_mod_eq] at ht
 rw[← ht]
 have:bn f 64/2^j%2=0∨bn f 64/2^j%2=1:=by omega
 rcases this with h|h<;>rw[h]<;>rfl
def Za (f:Nat→Bool) (n:Nat):List Nat:=(List.range n).map fun k=>bn (fun i=>f (64*k+i)) 64
theorem ZW (f:Nat→Bool) (n:Nat):(Za f n).length=n:=by simp[Za]
theorem ZcN (f:Nat→Bool) (n k:Nat) (h:k<n):Zb (Zc undef (v64 (Za f n)) k)=((bn (fun i=>f (64*k+i)) 64:Nat):Int):=by
 unfold v64
 rw[Xg _ _ (0:Nat),if_pos (by rw[ZW]; exact h)]
 show(((Za f n).getD k 0:Nat):Int)=_
 rw[List.getD_eq_getElem?_getD]
 simp[Za,h]
theorem Ja (f:Nat→Bool) (n k:Nat) (h:k<n):Zi [.int .u64 0] (v64 (Za f n)) k=true:=by
 simp only[rr, tt, Zi,Bool.and_true]
 unfold v64
 rw[Xg _ _ (0:Nat),if_pos (by rw[ZW]; exact h)]
 rfl
theorem Zab (ws:List Nat) (k:Nat):ZI k (v64 ws)=decide (k≤ws.length):=by
 rw[Bool.eq_iff_iff,Yz]; simp[v64]
theorem Zr (ws:List Nat):∀ v∈v64 ws,ZP v=true:=fun v hv=>by
 obtain⟨b,_,rfl⟩:=List.mem_map.1 hv; rfl
theorem ZbR (f g:Nat→Bool) (n k:Nat) (h:k<n) (he:∀ i,i/64≠k→f i=g i) (v:Nat) (hv:v=bn (fun i=>g (64*k+i)) 64):ZC k [.int .u64 (v:Nat)] (v64 (Za f n))=v64 (Za g n):=by
 apply List.ext_getElem?
 intro j
 rw[YI _ _ _ _ (by simp[v64,ZW]; omega)]
 simp only[rr, tt, v64,List.getElem?_map,List.length_singleton]
 by_cases hj:k≤j∧j<k+1
 ·have:j=k:=by omega
  subst this
  rw[if_pos hj]
  simp[Za,h,hv]
 ·rw[if_neg hj]
  by_cases hn:j<n
  ·simp only[rr, tt, Za,List.getElem?_map,List.getElem?_range hn,Option.map_some]
   rw[ZhE (fun i=>f (64*j+i)) (fun i=>g (64*j+i)) 64 (fun i hi=>he _ (by omega))]
  ·simp only[rr, tt, Za,List.getElem?_map]
   have hnone:(List.range n)[j]? = none:=List.getElem?_eq_none (by simp; omega)
   simp only[rr, tt, hnone,Option.map_none]
theorem Zbh:JB Tryz.prog 3 (JK ZfX):=by
 intro f args s c ρ q h hq
 unfold JK at h
 obtain⟨h2,h3⟩:=ZQ h
 have h2:=eB h2
 subst h2
 split at h3
 ·cases h3; exact Ziy _
 ·cases h3
theorem Ze2 {q:Nat→Bool} (h:∀ l,l<68→q l=true) (rw:Bool) (m:Nat) (ws:List Nat):OkH q (mpW rw m ws) :=
 ⟨⟨h 66 (by omega),rfl,fun v hv=>Qa 3 v (ZeQ h m ws.length v hv)⟩,⟨h 65 (by omega),h 65 (by omega),Qf (Zr ws)⟩,trivial⟩
def Zmm (args:List Value) (v:Value) (m n:Nat) (f g:Nat→Bool):Con:=⟨args,68,mpW true m (Za f n),[(65,n)],v,68,[(65,⟨true,some (65,1),v64 (Za g n),none⟩)],[]⟩
theorem ZbS {fn:FuncId} {args:List Value} {v:Value} {m n:Nat} {f g:Nat→Bool} {T:List (Nat×Bool)} {s':Sy.St} (ha:args.all (okV (fun l=>Nat.blt l 68) 3)=true) (hv:Ym v=true) (hu:isU v=false)
  (hr:evF Tryz.prog (Wb 3 (JK ZfX)) Zh 100 40 fn args ⟨68,mpW true m (Za f n),[(65,n)],0,T,0,True⟩=some (v,s')) (hO:s'.O) (h65:Sy.look s'.h 65=some ⟨true,some (65,1),v64 (Za g n),none⟩):ConOk Tryz.prog fn 3 (Zmm args v m n f g):=by
 refine ZZ (Zt (L:=100) Zg (Xf Zbh) (Ze _) 40) ⟨by show 64≤68; omega,Nat.le_refl _,Ze2 KU true m _,rfl,rfl,rfl,ha,QB hv 1,fun x hx v hv => ?_⟩ hr hO (p:=fun l=>Nat.blt l 68) (σ:=id) ?_
 ·obtain rfl:=List.mem_singleton.1 hx
  exact Qd (Zr _ v hv) 3
 ·refine⟨fun _ _=>rfl,⟨⟨rfl,Zn (Zr _),rfl,?_⟩,trivial⟩,rfl,trivial,⟨QB hv 1,by rw[XY]; rfl⟩,hu,⟨⟨rfl,rfl,Qf (Zr _)⟩,trivial⟩,rfl,Q6 _ hv,fun x _ _ => .inl rfl⟩
  simp only[rr, tt, id,h65]
  exact⟨rfl,rfl,trivial,(Q7 _ rfl _).symm⟩
def Zki (g m n:Nat) (f:Nat→Bool) (v:Int):Con:=Zmm [.pointer (some ⟨66,0,none⟩),.int .i64 (g:Nat),.int .i64 ((g:Nat)+1:Nat)] (.int .i64 v) m n f (Qr f g false)
def Zl5 (g m n:Nat) (f:Nat→Bool) (b:Bool):Con:=Zmm [.pointer (some ⟨66,0,none⟩),.int .i64 (g:Nat),.bool b] (.bool true) m n f (Qr f g b)
theorem Zac (f:Nat→Bool) (g:Nat) (b:Bool):∀ i,i/64≠g/64→f i=Qr f g b i:=fun i hi=>by
 unfold Qr
 rw[if_neg (fun e=>hi (by rw[e]))]
theorem JL (f:Nat→Bool) (g:Nat) (b:Bool):bn (Qr (fun i=>f (64*(g/64)+i)) (g%64) b) 64=bn (fun i=>Qr f g b (64*(g/64)+i)) 64:=by
 refine ZhE _ _ 64 fun i hi => ?_
 unfold Qr
 by_cases h:i=g%64
 ·rw[if_pos h,if_pos (by omega)]
 ·rw[if_neg h,if_neg (by omega)]
theorem ZbT (g m n:Nat) (f:Nat→Bool) (b:Bool) (hg:g<m) (hm:m≤64*n) (hn:n≤100000):ConOk Tryz.prog 93 3 (Zl5 g m n f b):=by
 have hk:g/64<n:=by omega
 have e1:i64.wrap ((g:Int).tdiv (64:Int))=((g/64:Nat):Int):=by rw[show(g:Int).tdiv (64:Int)=((g/64:Nat):Int) from(Int.ofNat_tdiv g 64).symm,Ye _ (by omega)]
 have e2:(g:Int).tmod (64:Int)=((g%64:Nat):Int):=(Int.ofNat_tmod g 64).symm
 have e3:min (g%64) 64=g%64:=Nat.min_eq_left (by omega)
 have hp:2^(g%64)≤2^63:=Nat.pow_le_pow_right (by omega) (by omega)
 have e4:u64.wrap ((1:Int)*(2:Int)^(g%64))=((2^(g%64):Nat):Int):=by
  rw[Int.one_mul,show(2:Int)^(g%64)=((2^(g%64):Nat):Int) by rw[Int.natCast_pow]; rfl,Zaa _ (by omega)]
 cases b
 ·have hr:=pw_f ZfX (g:Int) m (Za f n)
  simp only[rr, tt, ZW] at hr
  simp(disch:=omega) only[rr, tt, e1,e2,e3,e4,Int.toNat_natCast,Nat.zero_add,Nat.mul_one,ZcN,Up] at hr
  rw[ZbR f (Qr f g false) n (g/64) hk (Zac f g false) _ (JL f g false)] at hr
  refine ZbS rfl rfl rfl hr ?_ rfl
  simp(disch:=omega) only[rr, tt, Zab,Ja,ZW,decide_eq_true,decide_eq_false,Bool.and_self,Bool.not_true,Bool.not_false,cond_true,and_true,true_and,and_self,ge_iff_le]
 ·have hr:=pw_t ZfX (g:Int) m (Za f n)
  simp only[rr, tt, ZW] at hr
  simp(disch:=omega) only[rr, tt, e1,e2,e3,e4,Int.toNat_natCast,Nat.zero_add,Nat.mul_one,ZcN,Zkh] at hr
  rw[ZbR f (Qr f g true) n (g/64) hk (Zac f g true) _ (JL f g true)] at hr
  refine ZbS rfl rfl rfl hr ?_ rfl
  simp(disch:=omega) only[rr, tt, Zab,Ja,ZW,decide_eq_true,decide_eq_false,Bool.and_self,Bool.not_true,Bool.not_false,cond_true,and_true,true_and,and_self,ge_iff_le]
theorem Kz (g m n:Nat) (f:Nat→Bool) (hg:g<m) (hm:m≤64*n) (hn:n≤100000):∃ v:Int,ConOk Tryz.prog 158 3 (Zki g m n f v):=by
 have hk:g/64<n:=by omega
 have hr:=cw_a ZfX (g:Int) ((g+1:Nat):Int) m (Za f n)
 have x1:(if(0:Int)>(g:Int) then(0:Int) else(g:Int))=(g:Int):=if_neg (by omega)
 have x2:(if(m:Int)<((g+1:Nat):Int) then(m:Int) else((g+1:Nat):Int))=((g+1:Nat):Int):=if_neg (by omega)
 have e1:i64.wrap ((g:Int).tdiv (64:Int))=((g/64:Nat):Int):=by rw[show(g:Int).tdiv (64:Int)=((g/64:Nat):Int) from(Int.ofNat_tdiv g 64).symm,Ye _ (by omega)]
 have x3:i64.wrap (((g/64:Nat):Int)*(64:Int))=((g/64*64:Nat):Int):=by rw[show((g/64:Nat):Int)*(64:Int)=((g/64*64:Nat):Int) by omega,Ye _ (by omega)]
 have x4:i64.wrap (((g/64:Nat):Int)+(1:Int))=((g/64+1:Nat):Int):=Yj _ (by omega)
 have x5:i64.wrap (((g/64+1:Nat):Int)*(64:Int))=(((g/64+1)*64:Nat):Int):=by rw[show((g/64+1:Nat):Int)*(64:Int)=(((g/64+1)*64:Nat):Int) by omega,Ye _ (by omega)]
 have x6:i64.wrap ((g:Int)-((g/64*64:Nat):Int))=((g%64:Nat):Int):=by rw[show(g:Int)-((g/64*64:Nat):Int)=((g%64:Nat):Int) by omega,Ye _ (by omega)]
 have x7:i64.wrap (((g+1:Nat):Int)-((g/64*64:Nat):Int))=((g%64+1:Nat):Int):=by rw[show((g+1:Nat):Int)-((g/64*64:Nat):Int)=((g%64+1:Nat):Int) by omega,Ye _ (by omega)]
 have x8:(if(64:Int)<((g%64+1:Nat):Int) then(64:Int) else((g%64+1:Nat):Int))=((g%64+1:Nat):Int):=if_neg (by omega)
 have x9:(if(0:Int)>((g%64:Nat):Int) then(0:Int) else((g%64:Nat):Int))=((g%64:Nat):Int):=if_neg (by omega)
 have y1:i64.wrap (((g%64+1:Nat):Int)-((g%64:Nat):Int))=(1:Int):=by rw[show((g%64+1:Nat):Int)-((g%64:Nat):Int)=((1:Nat):Int) by omega,Ye _ (by omega)]; rfl
 have y2:i64.wrap ((64:Int)-(1:Int))=(63:Int):=by kernel_rfl
 have y3:Int.fdiv (18446744073709551615:Int) ((2:Int)^min (63:Int).toNat 64)=1:=by kernel_rfl
 have e3:min (g%64) 64=g%64:=Nat.min_eq_left (by omega)
 have hp:2^(g%64)≤2^63:=Nat.pow_le_pow_right (by omega) (by omega)
 have e4:u64.wrap ((1:Int)*(2:Int)^(g%64))=((2^(g%64):Nat):Int):=by
  rw[Int.one_mul,show(2:Int)^(g%64)=((2^(g%64):Nat):Int) by rw[Int.natCast_pow]; rfl,Zaa _ (by omega)]
 simp only[rr, tt, ZW] at hr
 simp(disch:=omega) only[rr, tt, x1,x2,e1,x3,x4,x5,x6,x7,x8,x9,y1,y2,y3,e3,e4,Int.toNat_natCast,Nat.zero_add,Nat.mul_one,ZcN,Up] at hr
 rw[ZbR f (Qr f g false) n (g/64) hk (Zac f g false) _ (JL f g false)] at hr
 refine⟨_,ZbS rfl rfl rfl hr ?_ rfl⟩
 simp(disch:=omega) only[rr, tt, Zab,Ja,ZW,decide_eq_true,decide_eq_false,Bool.and_self,Bool.not_true,Bool.not_false,cond_true,and_true,true_and,and_self,ge_iff_le]
def Zmn (g m n:Nat) (f:Nat→Bool):Con:=⟨[.pointer (some ⟨66,0,none⟩),.int .i64 (g:Nat)],68,mpW false m (Za f n),[(65,n)],.bool (f g),68,[],[]⟩
theorem ZbU (g m n:Nat) (f:Nat→Bool) (hg:g<m) (hm:m≤64*n) (hn:n≤100000):ConOk Tryz.prog 98 3 (Zmn g m n f):=by
 have hk:g/64<n:=by omega
 have e1:i64.wrap ((g:Int).tdiv (64:Int))=((g/64:Nat):Int):=by rw[show(g:Int).tdiv (64:Int)=((g/64:Nat):Int) from(Int.ofNat_tdiv g 64).symm,Ye _ (by omega)]
 have e2:(g:Int).tmod (64:Int)=((g%64:Nat):Int):=(Int.ofNat_tmod g 64).symm
 have e3:min (g%64) 64=g%64:=Nat.min_eq_left (by omega)
 have hr:=gw_a ZfX (g:Int) m (Za f n)
 simp only[rr, tt, ZW] at hr
 simp(disch:=omega) only[rr, tt, e1,e2,e3,Int.toNat_natCast,Nat.zero_add,Nat.mul_one,ZcN,Ziz] at hr
 have hfg:f (64*(g/64)+g%64)=f g:=by rw[show 64*(g/64)+g%64=g by omega]
 rw[hfg] at hr
 unfold obs at hr
 obtain⟨⟨v',s'⟩,h1,h2⟩:=oM hr
 simp only[rr, tt, Prod.mk.injEq] at h2
 obtain⟨rfl,hq⟩:=h2
 refine ZZ (Zt (L:=100) Zg (Xf Zbh) (Ze _) 40) ⟨by show 64≤68; omega,Nat.le_refl _,Ze2 KU false m _,rfl,rfl,rfl,rfl,rfl,fun x hx=>by cases hx⟩ h1 ?_ (p:=fun l=>Nat.blt l 68) (σ:=id) ?_
 ·rw[hq]
  simp(disch:=omega) only[rr, tt, Zab,Ja,ZW,decide_eq_true,decide_eq_false,Bool.and_self,Bool.not_true,Bool.not_false,cond_true,and_true,true_and,and_self,ge_iff_le]
 ·exact⟨fun _ _=>rfl,trivial,rfl,trivial,⟨rfl,by rw[XY]; rfl⟩,rfl,trivial,rfl,Zu _ rfl,fun x hx=>by cases hx⟩
def cpV (c e b t p y r:Nat) (v:Bool):Value:=.agg ⟨[.int .u32 (c:Nat),.int .u8 (e:Nat),.int .u16 (b:Nat),.int .u16 (t:Nat),.int .u16 (p:Nat),.int .u16 (y:Nat),.int .u32 (r:Nat),.bool v]⟩
theorem Zmo (c e b t p y r:Int) (v:Bool):obs (evF Tryz.prog Zk Zh 100 20 92 [Value.agg ⟨[.int .u32 c,.int .u8 e,.int .u16 b,.int .u16 t,.int .u16 p,.int .u16 y,.int .u32 r,.bool v]⟩] (stT []))=some (Value.string ⟨⟨[UInt8.ofNat (u8.wrap (c.fdiv (1:Int))).toNat,UInt8.ofNat (u8.wrap (c.fdiv (256:Int))).toNat,UInt8.ofNat (u8.wrap (c.fdiv (65536:Int))).toNat,UInt8.ofNat (u8.wrap (c.fdiv (16777216:Int))).toNat,UInt8.ofNat (u8.wrap ((u32.wrap e).fdiv (1:Int))).toNat,UInt8.ofNat (u8.wrap ((u32.wrap b).fdiv (1:Int))).toNat,UInt8.ofNat (u8.wrap ((u32.wrap b).fdiv (256:Int))).toNat,UInt8.ofNat (u8.wrap ((u32.wrap t).fdiv (1:Int))).toNat,UInt8.ofNat (u8.wrap ((u32.wrap t).fdiv (256:Int))).toNat,UInt8.ofNat (u8.wrap ((u32.wrap p).fdiv (1:Int))).toNat,UInt8.ofNat (u8.wrap ((u32.wrap p).fdiv (256:Int))).toNat,UInt8.ofNat (u8.wrap ((u32.wrap y).fdiv (1:Int))).toNat,UInt8.ofNat (u8.wrap ((u32.wrap y).fdiv (256:Int))).toNat,UInt8.ofNat (u8.wrap ((bits BinOp.and u32 r (65535:Int)).fdiv (1:Int))).toNat,UInt8.ofNat (u8.wrap ((bits BinOp.and u32 r (65535:Int)).fdiv (256:Int))).toNat,UInt8.ofNat (u8.wrap ((bits BinOp.and u32 (r.fdiv (65536:Int)) (255:Int)).fdiv (1:Int))).toNat]⟩⟩,True):=by kernel_rfl
def cbL (c e b t p y r:Nat):List UInt8:=leW 4 c++(leW 1 e++(leW 2 b++(leW 2 t++(leW 2 p++(leW 2 y++(leW 2 r++leW 1 (r/65536)))))))
theorem WH (c e b t p y r:Nat):(cbL c e b t p y r).length=16:=by simp[cbL,YS]
structure CpB (c e b t p y r:Nat):Prop where
 c:c<4294967296
 e:e<256
 b:b<65536
 t:t<65536
 p:p<65536
 y:y<65536
 r:r<4294967296
theorem andA (n k:Nat) (h:n<4294967296) (hk:k≤32):bits .and .u32 (n:Int) ((2^k-1:Nat):Int)=((n%2^k:Nat):Int):=by
 show u32.wrap ((BitVec.ofInt 32 (n:Int)&&&BitVec.ofInt 32 ((2^k-1:Nat):Int)).toNat:Int)=_
 have h1:2^k≤2^32:=Nat.pow_le_pow_right (by omega) hk
 have h0:0<2^k:=Nat.two_pow_pos k
 rw[BitVec.toNat_and,BitVec.ofInt_natCast,BitVec.ofInt_natCast,BitVec.toNat_ofNat,BitVec.toNat_ofNat,Nat.mod_eq_of_lt (by omega),Nat.mod_eq_of_lt (by omega),Nat.and_two_pow_sub_one_eq_mod]
 have:=Nat.mod_le n (2^k)
 exact XQ _ (by omega)
def Zl6 (c e b t p y r:Nat) (v:Bool):Con:=Con.pure [cpV c e b t p y r v] (.string ⟨⟨cbL c e b t p y r⟩⟩)
theorem ZbV (c e b t p y r:Nat) (v:Bool) (h:CpB c e b t p y r):ConOk Tryz.prog 92 3 (Zl6 c e b t p y r v):=by
 obtain⟨h1,h2,h3,h4,h5,h6,h7⟩:=h
 have hr:=Zmo (c:Int) (e:Int) (b:Int) (t:Int) (p:Int) (y:Int) (r:Int) v
 have fd0:∀ n:Nat,(n:Int).fdiv (1:Int)=((n:Nat):Int):=fun n=>by rw[show(1:Int)=((1:Nat):Int) from rfl,fdA,Nat.div_one]
 have fd1:∀ n:Nat,(n:Int).fdiv (256:Int)=((n/256:Nat):Int):=fun n=>fdA n 256
 have fd2:∀ n:Nat,(n:Int).fdiv (65536:Int)=((n/65536:Nat):Int):=fun n=>fdA n 65536
 have fd3:∀ n:Nat,(n:Int).fdiv (16777216:Int)=((n/16777216:Nat):Int):=fun n=>fdA n 16777216
 have a1:∀ n:Nat,n<4294967296→bits .and .u32 (n:Int) (65535:Int)=((n%65536:Nat):Int):=fun n hn=>andA n 16 hn (by omega)
 have a2:∀ n:Nat,n<4294967296→bits .and .u32 (n:Int) (255:Int)=((n%256:Nat):Int):=fun n hn=>andA n 8 hn (by omega)
 simp(disch:=omega) only[rr, tt, fd0,fd1,fd2,fd3,a1,a2,XQ,w8A] at hr
 have d2:∀ n:Nat,n/65536=n/256/256:=fun n=>by omega
 have d3:∀ n:Nat,n/16777216=n/256/256/256:=fun n=>by omega
 have m1:r%65536%256=r%256:=by omega
 have m2:r%65536/256%256=r/256%256:=by omega
 simp only[rr, tt, m1,m2,d2,d3,Nat.mod_mod] at hr
 have hl:cbL c e b t p y r=[UInt8.ofNat (c%256),UInt8.ofNat (c/256%256),UInt8.ofNat (c/256/256%256),UInt8.ofNat (c/256/256/256%256),UInt8.ofNat (e%256),UInt8.ofNat (b%256),UInt8.ofNat (b/256%256),UInt8.ofNat (t%256),UInt8.ofNat (t/256%256),UInt8.ofNat (p%256),UInt8.ofNat (p/256%256),UInt8.ofNat (y%256),UInt8.ofNat (y/256%256),UInt8.ofNat (r%256),UInt8.ofNat (r/256%256),UInt8.ofNat (r/256/256%256)]:=by
  simp only[rr, tt, cbL,leW,List.cons_append,List.nil_append,d2]
 unfold Zl6
 rw[hl]
 exact ZK (d:=1) (Zt (L:=100) Zg (Zf _) (Ze _) 20) hr trivial rfl rfl
def sndC (c e b t p y r:Nat) (v:Bool):Con:=Con.pure [cpV c e b t p y r v] (.bool (Yd e b t p y r))
theorem Ze3 (c e b t p y r:Nat) (v:Bool) (h:CpB c e b t p y r):ConOk Tryz.prog 46 3 (sndC c e b t p y r v):=by
 obtain⟨h1,h2,h3,h4,h5,h6,h7⟩:=h
 refine ZV (d:=1) (Qt Zg (by kernel_rfl)) (fun u hu => ?_) rfl fun w => ?_
 ·obtain rfl:=List.mem_singleton.1 hu; rfl
 ·exact JH c e b t p y r v w (by unfold WF; omega)
def arW (rw:Bool) (zs:List UInt8) (f:Nat→Bool) (N m n:Nat):Sy.Heap:=[(67,⟨rw,none,[.pointer (some ⟨66,0,none⟩),.slice (some ⟨64,0,none⟩) N (big+64)],none⟩),(66,⟨rw,none,[.int .i64 (m:Nat),.slice (some ⟨65,0,none⟩) n (big+65)],none⟩),(65,⟨rw,some (65,1),v64 (Za f n),none⟩),(64,⟨rw,some (64,1),u8s zs,none⟩)]
def scL (g m n:Nat) (f:Nat→Bool) (cv:Int) (c e b t p y r:Nat) (k:Bool):Sy.Steps :=
 [(69,92,Zl6 c e b t p y r true,[]),(71,158,Zki g m n f cv,[64,65,66,67]),(71,46,sndC c e b t p y r true,[]),(71,93,Zl5 g m n (Qr f g false) k,[64,65,66,67])]
def gtD (x:Int) (m n:Nat) (f:Nat→Bool):Con:=⟨[.pointer (some ⟨66,0,none⟩),.int .i64 x],68,mpW false m (Za f n),[(65,n)],.bool (f x.toNat),68,[],[]⟩
def Zad (m n:Nat) (f:Nat→Bool):ZaV:=fun fn args _=>bif Nat.beq fn 98 then
 match args with
 | [_,.int .i64 x]=>some (gtD x m n f,[64,65,66,67],0≤x∧x<m)
 | _=>none
 else none
theorem sc_t (a g c e b t p y r:Nat) (zs:List UInt8) (f:Nat→Bool) (cv:Int) (N m n:Nat):evF Tryz.prog (Zz 3 (Zd (scL g m n f cv c e b t p y r (Yd e b t p y r))) Zk) Zh 100 40 44 [Value.pointer (some ⟨67,0,none⟩),.int .u32 (↑a),cpV c e b t p y r true] ⟨68,arW true zs f N m n,arO N n,0,(tb 67 145268109035001871879),0,True⟩=some (Value.bool true,{ n:=71,h:=[(65,⟨true,some (65,1),v64 (Za (Qr (Qr f g false) g (Yd e b t p y r)) n),none⟩),(66,⟨true,none,[Value.int .i64 (↑m),.slice (some ⟨65,0,none⟩) n 9223372036854775873],none⟩),(64,⟨true,some (64,1),ZC (0+(↑a:Int).toNat*1) (List.take ((ZA (cbL c e b t p y r)).min (N-(↑a:Int).toNat)*1) (List.drop 0 (List.map (fun c=>Value.int .u8 (↑c.toNat)) (cbL c e b t p y r)))) (u8s zs),none⟩),(67,⟨true,none,[Value.pointer (some ⟨66,0,none⟩),.slice (some ⟨64,0,none⟩) N 9223372036854775872],none⟩)],lo:=[(70,N-(↑a:Int).toNat),(69,ZA (cbL c e b t p y r)),(65,n),(64,N)],esc:=0,T:=[],k:=67,O:=(((((((bif ZI (0+(↑a:Int).toNat*1+ZA (List.take ((ZA (cbL c e b t p y r)).min (N-(↑a:Int).toNat)*1) (List.drop 0 (List.map (fun c=>Value.int .u8 (↑c.toNat)) (cbL c e b t p y r))))) (u8s zs)&&KD (List.take ((ZA (cbL c e b t p y r)).min (N-(↑a:Int).toNat)*1) (List.drop 0 (List.map (fun c=>Value.int .u8 (↑c.toNat)) (cbL c e b t p y r))))&&(List.take ((ZA (cbL c e b t p y r)).min (N-(↑a:Int).toNat)*1) (List.drop 0 (List.map (fun c=>Value.int .u8 (↑c.toNat)) (cbL c e b t p y r)))).all ZP then bif (ZA (List.take ((ZA (cbL c e b t p y r)).min (N-(↑a:Int).toNat)*1) (List.drop 0 (List.map (fun c=>Value.int .u8 (↑c.toNat)) (cbL c e b t p y r))))).beq ((ZA (cbL c e b t p y r)).min (N-(↑a:Int).toNat)*1) then bif ZI (0+(ZA (cbL c e b t p y r)).min (N-(↑a:Int).toNat)*1) (List.map (fun c=>Value.int .u8 (↑c.toNat)) (cbL c e b t p y r)) then(bif decide ((0:Int)≤(↑a:Int))&&decide ((↑a:Int)≤(↑N:Int)) then((((((((((((((((((((((((((((((((((((((((((((((((((((((((((((((True∧((↑a:Int).tmod (16:Int)==(0:Int))=true)∧((↑a:Int).tmod (16:Int)==(0:Int))=true)∧((↑a:Int).tmod (16:Int)==(0:Int))=true)∧rr false)∧rr false)∧rr false)∧rr false)∧rr false)∧rr false)∧tt)∧tt)∧tt)∧tt)∧tt)∧tt)∧tt)∧tt)∧tt)∧tt)∧tt)∧decide ((16:Int)≤(↑N:Int))=true)∧decide ((16:Int)≤(↑N:Int))=true)∧decide ((16:Int)≤(↑N:Int))=true)∧decide ((16:Int)≤(↑N:Int))=true)∧decide ((16:Int)≤(↑N:Int))=true)∧decide ((16:Int)≤(↑N:Int))=true)∧decide ((16:Int)≤(↑N:Int))=true)∧decide ((16:Int)≤(↑N:Int))=true)∧decide ((16:Int)≤(↑N:Int))=true)∧decide ((16:Int)≤(↑N:Int))=true)∧decide ((16:Int)≤(↑N:Int))=true)∧((↑a:Int).tmod (16:Int)==(0:Int))=true)∧(!decide (i64.wrap (↑a)≤i64.wrap ((↑N:Int)-(16:Int))))=false)∧True∧(rr (Value.agg ⟨[.int .u32 (↑c),.int .u8 (↑e),.int .u16 (↑b),.int .u16 (↑t),.int .u16 (↑p),.int .u16 (↑y),.int .u32 (↑r),.bool true]⟩)∧True)∧True∧True)∧rr false)∧rr false)∧rr false)∧rr false)∧rr false)∧rr false)∧tt)∧tt)∧tt)∧decide ((↑(ZA (cbL c e b t p y r)):Int)≥(0:Int))=true)∧decide ((↑(ZA (cbL c e b t p y r)):Int)≥(0:Int))=true)∧decide ((↑(ZA (cbL c e b t p y r)):Int)≥(0:Int))=true)∧decide ((↑(ZA (cbL c e b t p y r)):Int)≥(0:Int))=true)∧decide ((↑(ZA (cbL c e b t p y r)):Int)≥(0:Int))=true)∧decide ((↑(ZA (cbL c e b t p y r)):Int)≥(0:Int))=true)∧decide ((↑(ZA (cbL c e b t p y r)):Int)≥(0:Int))=true)∧decide ((↑(ZA (cbL c e b t p y r)):Int)≥(0:Int))=true)∧decide ((↑(ZA (cbL c e b t p y r)):Int)≤(↑N:Int))=true)∧decide ((↑(ZA (cbL c e b t p y r)):Int)≤(↑N:Int))=true)∧decide ((↑(ZA (cbL c e b t p y r)):Int)≤(↑N:Int))=true)∧decide ((↑(ZA (cbL c e b t p y r)):Int)≤(↑N:Int))=true)∧decide ((↑(ZA (cbL c e b t p y r)):Int)≤(↑N:Int))=true)∧decide ((↑(ZA (cbL c e b t p y r)):Int)≤(↑N:Int))=true)∧decide ((↑(ZA (cbL c e b t p y r)):Int)≤(↑N:Int))=true)∧decide ((↑(ZA (cbL c e b t p y r)):Int)≤(↑N:Int))=true)∧decide ((↑(ZA (cbL c e b t p y r)):Int)≤(↑N:Int))=true)∧decide ((↑(ZA (cbL c e b t p y r)):Int)≤(↑N:Int))=true)∧decide ((↑(ZA (cbL c e b t p y r)):Int)≤(↑N:Int))=true)∧(!decide (i64.wrap (↑a)≤i64.wrap ((↑N:Int)-(↑(ZA (cbL c e b t p y r)):Int))))=false else False)∧(↑a:Int).toNat.blt N=true else False else False else False)∧decide ((↑(ZA (cbL c e b t p y r)):Int)>(0:Int))=true)∧True∧(rr (Value.pointer (some ⟨66,0,none⟩))∧Value.int .i64 (i64.wrap ((i64.wrap (↑a)).tdiv (16:Int)))=Value.int .i64 (↑g)∧Value.int .i64 (i64.wrap (i64.wrap ((i64.wrap (i64.wrap (i64.wrap (↑a)+(↑(ZA (cbL c e b t p y r)):Int))-(1:Int))).tdiv (16:Int))+(1:Int)))=Value.int .i64 (↑(g+1))∧True)∧((tt∧tt∧tt∧tt∧tt∧True∧[Value.int .i64 (↑m),.slice (some ⟨65,0,none⟩) n 9223372036854775873]=[Value.int .i64 (↑m),.slice (some ⟨65,0,none⟩) (Za f n).length 9223372036854775873])∧(tt∧(v64 (Za f n)).all (okV (fun l=>l.blt 68) 3)=true∧tt∧tt∧tt∧True∧v64 (Za f n)=List.map (rnV (lift 68 71 [64,65,66,67]) 3) (v64 (Za f n)))∧True)∧(tt∧n≤n)∧True)∧tt)∧tt)∧True∧(rr (Value.agg ⟨[.int .u32 (↑c),.int .u8 (↑e),.int .u16 (↑b),.int .u16 (↑t),.int .u16 (↑p),.int .u16 (↑y),.int .u32 (↑r),.bool true]⟩)∧True)∧True∧True)∧tt)∧True∧(rr (Value.pointer (some ⟨66,0,none⟩))∧Value.int .i64 (i64.wrap ((i64.wrap (↑a)).tdiv (16:Int)))=Value.int .i64 (↑g)∧rr (Value.bool (Yd e b t p y r))∧True)∧((tt∧tt∧tt∧tt∧tt∧True∧[Value.int .i64 (↑m),.slice (some ⟨65,0,none⟩) n 9223372036854775873]=[Value.int .i64 (↑m),.slice (some ⟨65,0,none⟩) (Za (Qr f g false) n).length 9223372036854775873])∧(tt∧(v64 (Za (Qr f g false) n)).all (okV (fun l=>l.blt 68) 3)=true∧tt∧tt∧tt∧True∧v64 (Za (Qr f g false) n)=List.map (rnV (lift 68 71 [64,65,66,67]) 3) (v64 (Za (Qr f g false) n)))∧True)∧(tt∧n≤n)∧True:St }):=by kernel_rfl
theorem rw_d (at_ k:Int) (zs:List UInt8) (f:Nat→Bool) (N m n:Nat):obs (evF Tryz.prog Zk Zh 100 40 19 [Value.pointer (some ⟨67,0,none⟩),.int .u32 at_,.int .i64 k] ⟨68,arW false zs f N m n,arO N n,0,(tb 30 805306304),0,True⟩)=some (Value.tuple { toList:=[Value.string ⟨⟨List.map ZjD (List.take ((i64.wrap (i64.wrap at_+k)).toNat-(i64.wrap at_).toNat) (List.drop (0+(i64.wrap at_).toNat*1) (u8s zs)))⟩⟩,.bool true] },bif (List.take ((i64.wrap (i64.wrap at_+k)).toNat-(i64.wrap at_).toNat) (List.drop (0+(i64.wrap at_).toNat*1) (u8s zs))).all Zhm then bif ZI (0+(i64.wrap at_).toNat*1+((i64.wrap (i64.wrap at_+k)).toNat-(i64.wrap at_).toNat)) (u8s zs) then(bif decide ((0:Int)≤i64.wrap at_)&&decide (i64.wrap at_≤(↑(i64.wrap (i64.wrap at_+k)).toNat:Int)) then bif decide ((0:Int)≤i64.wrap (i64.wrap at_+k))&&decide (i64.wrap (i64.wrap at_+k)≤(↑N:Int)) then((((((((((((((((((((((((((((True∧rr false)∧rr false)∧rr false)∧rr false)∧rr false)∧rr false)∧tt)∧tt)∧tt)∧decide (k≥(0:Int))=true)∧decide (k≥(0:Int))=true)∧decide (k≥(0:Int))=true)∧decide (k≥(0:Int))=true)∧decide (k≥(0:Int))=true)∧decide (k≥(0:Int))=true)∧decide (k≥(0:Int))=true)∧decide (k≥(0:Int))=true)∧decide (k≤(↑N:Int))=true)∧decide (k≤(↑N:Int))=true)∧decide (k≤(↑N:Int))=true)∧decide (k≤(↑N:Int))=true)∧decide (k≤(↑N:Int))=true)∧decide (k≤(↑N:Int))=true)∧decide (k≤(↑N:Int))=true)∧decide (k≤(↑N:Int))=true)∧decide (k≤(↑N:Int))=true)∧decide (k≤(↑N:Int))=true)∧decide (k≤(↑N:Int))=true)∧(!decide (i64.wrap at_≤i64.wrap ((↑N:Int)-k)))=false else False else False)∧(i64.wrap at_).toNat.blt N=true else False else False):=by kernel_rfl
theorem tg_0 (g:Nat) (zs:List UInt8) (f:Nat→Bool) (N m n:Nat):obs (evF Tryz.prog (Wb 3 (Zad m n f)) Zh 100 40 47 [Value.pointer (some ⟨67,0,none⟩),.int .i64 (↑g)] ⟨68,arW false zs f N m n,arO N n,0,(tb 47 23456248053760),0,True⟩)=some (Value.slice none 0 0,((((((((((((((((((((((((((((((((((((((((((((((((((((((((((((((True∧decide ((↑g:Int)<(0:Int))=false)∧decide ((↑g:Int)<(0:Int))=false)∧decide ((↑g:Int)<(0:Int))=false)∧rr false)∧rr false)∧rr false)∧rr false)∧rr false)∧rr false)∧rr false)∧decide ((↑g:Int)<(0:Int))=false)∧decide ((↑g:Int)<(0:Int))=false)∧decide ((↑g:Int)<(0:Int))=false)∧decide ((↑g:Int)≥i64.wrap ((↑N:Int).tdiv (256:Int)))=false)∧tt)∧((0:Int)≤i64.wrap (i64.wrap ((i64.wrap ((↑g:Int)*(256:Int))).tdiv (16:Int))+(0:Int))∧i64.wrap (i64.wrap ((i64.wrap ((↑g:Int)*(256:Int))).tdiv (16:Int))+(0:Int))<(↑m:Int))∧(rr (Value.pointer (some ⟨66,0,none⟩))∧rr (Value.int .i64 (i64.wrap (i64.wrap ((i64.wrap ((↑g:Int)*(256:Int))).tdiv (16:Int))+(0:Int))))∧True)∧((tt∧tt∧tt∧tt∧tt∧True∧[Value.int .i64 (↑m),.slice (some ⟨65,0,none⟩) n 9223372036854775873]=[Value.int .i64 (↑m),.slice (some ⟨65,0,none⟩) (Za f n).length 9223372036854775873])∧(tt∧(v64 (Za f n)).all (okV (fun l=>l.blt 68) 3)=true∧tt∧tt∧tt∧True∧v64 (Za f n)=List.map (rnV (lift 68 68 [64,65,66,67]) 3) (v64 (Za f n)))∧True)∧(tt∧n≤n)∧True)∧f (i64.wrap (i64.wrap ((i64.wrap ((↑g:Int)*(256:Int))).tdiv (16:Int))+(0:Int))).toNat=false)∧tt)∧((0:Int)≤i64.wrap (i64.wrap ((i64.wrap ((↑g:Int)*(256:Int))).tdiv (16:Int))+(1:Int))∧i64.wrap (i64.wrap ((i64.wrap ((↑g:Int)*(256:Int))).tdiv (16:Int))+(1:Int))<(↑m:Int))∧(rr (Value.pointer (some ⟨66,0,none⟩))∧rr (Value.int .i64 (i64.wrap (i64.wrap ((i64.wrap ((↑g:Int)*(256:Int))).tdiv (16:Int))+(1:Int))))∧True)∧((tt∧tt∧tt∧tt∧tt∧True∧[Value.int .i64 (↑m),.slice (some ⟨65,0,none⟩) n 9223372036854775873]=[Value.int .i64 (↑m),.slice (some ⟨65,0,none⟩) (Za f n).length 9223372036854775873])∧(tt∧(v64 (Za f n)).all (okV (fun l=>l.blt 68) 3)=true∧tt∧tt∧tt∧True∧v64 (Za f n)=List.map (rnV (lift 68 68 [64,65,66,67]) 3) (v64 (Za f n)))∧True)∧(tt∧n≤n)∧True)∧f (i64.wrap (i64.wrap ((i64.wrap ((↑g:Int)*(256:Int))).tdiv (16:Int))+(1:Int))).toNat=false)∧tt)∧((0:Int)≤i64.wrap (i64.wrap ((i64.wrap ((↑g:Int)*(256:Int))).tdiv (16:Int))+(2:Int))∧i64.wrap (i64.wrap ((i64.wrap ((↑g:Int)*(256:Int))).tdiv (16:Int))+(2:Int))<(↑m:Int))∧(rr (Value.pointer (some ⟨66,0,none⟩))∧rr (Value.int .i64 (i64.wrap (i64.wrap ((i64.wrap ((↑g:Int)*(256:Int))).tdiv (16:Int))+(2:Int))))∧True)∧((tt∧tt∧tt∧tt∧tt∧True∧[Value.int .i64 (↑m),.slice (some ⟨65,0,none⟩) n 9223372036854775873]=[Value.int .i64 (↑m),.slice (some ⟨65,0,none⟩) (Za f n).length 9223372036854775873])∧(tt∧(v64 (Za f n)).all (okV (fun l=>l.blt 68) 3)=true∧tt∧tt∧tt∧True∧v64 (Za f n)=List.map (rnV (lift 68 68 [64,65,66,67]) 3) (v64 (Za f n)))∧True)∧(tt∧n≤n)∧True)∧f (i64.wrap (i64.wrap ((i64.wrap ((↑g:Int)*(256:Int))).tdiv (16:Int))+(2:Int))).toNat=false)∧tt)∧((0:Int)≤i64.wrap (i64.wrap ((i64.wrap ((↑g:Int)*(256:Int))).tdiv (16:Int))+(3:Int))∧i64.wrap (i64.wrap ((i64.wrap ((↑g:Int)*(256:Int))).tdiv (16:Int))+(3:Int))<(↑m:Int))∧(rr (Value.pointer (some ⟨66,0,none⟩))∧rr (Value.int .i64 (i64.wrap (i64.wrap ((i64.wrap ((↑g:Int)*(256:Int))).tdiv (16:Int))+(3:Int))))∧True)∧((tt∧tt∧tt∧tt∧tt∧True∧[Value.int .i64 (↑m),.slice (some ⟨65,0,none⟩) n 9223372036854775873]=[Value.int .i64 (↑m),.slice (some ⟨65,0,none⟩) (Za f n).length 9223372036854775873])∧(tt∧(v64 (Za f n)).all (okV (fun l=>l.blt 68) 3)=true∧tt∧tt∧tt∧True∧v64 (Za f n)=List.map (rnV (lift 68 68 [64,65,66,67]) 3) (v64 (Za f n)))∧True)∧(tt∧n≤n)∧True)∧f (i64.wrap (i64.wrap ((i64.wrap ((↑g:Int)*(256:Int))).tdiv (16:Int))+(3:Int))).toNat=false)∧tt)∧((0:Int)≤i64.wrap (i64.wrap ((i64.wrap ((↑g:Int)*(256:Int))).tdiv (16:Int))+(4:Int))∧i64.wrap (i64.wrap ((i64.wrap ((↑g:Int)*(256:Int))).tdiv (16:Int))+(4:Int))<(↑m:Int))∧(rr (Value.pointer (some ⟨66,0,none⟩))∧rr (Value.int .i64 (i64.wrap (i64.wrap ((i64.wrap ((↑g:Int)*(256:Int))).tdiv (16:Int))+(4:Int))))∧True)∧((tt∧tt∧tt∧tt∧tt∧True∧[Value.int .i64 (↑m),.slice (some ⟨65,0,none⟩) n 9223372036854775873]=[Value.int .i64 (↑m),.slice (some ⟨65,0,none⟩) (Za f n).length 9223372036854775873])∧(tt∧(v64 (Za f n)).all (okV (fun l=>l.blt 68) 3)=true∧tt∧tt∧tt∧True∧v64 (Za f n)=List.map (rnV (lift 68 68 [64,65,66,67]) 3) (v64 (Za f n)))∧True)∧(tt∧n≤n)∧True)∧f (i64.wrap (i64.wrap ((i64.wrap ((↑g:Int)*(256:Int))).tdiv (16:Int))+(4:Int))).toNat=false)∧tt)∧((0:Int)≤i64.wrap (i64.wrap ((i64.wrap ((↑g:Int)*(256:Int))).tdiv (16:Int))+(5:Int))∧i64.wrap (i64.wrap ((i64.wrap ((↑g:Int)*(256:Int))).tdiv (16:Int))+(5:Int))<(↑m:Int))∧(rr (Value.pointer (some ⟨66,0,none⟩))∧rr (Value.int .i64 (i64.wrap (i64.wrap ((i64.wrap ((↑g:Int)*(256:Int))).tdiv (16:Int))+(5:Int))))∧True)∧((tt∧tt∧tt∧tt∧tt∧True∧[Value.int .i64 (↑m),.slice (some ⟨65,0,none⟩) n 9223372036854775873]=[Value.int .i64 (↑m),.slice (some ⟨65,0,none⟩) (Za f n).length 9223372036854775873])∧(tt∧(v64 (Za f n)).all (okV (fun l=>l.blt 68) 3)=true∧tt∧tt∧tt∧True∧v64 (Za f n)=List.map (rnV (lift 68 68 [64,65,66,67]) 3) (v64 (Za f n)))∧True)∧(tt∧n≤n)∧True)∧f (i64.wrap (i64.wrap ((i64.wrap ((↑g:Int)*(256:Int))).tdiv (16:Int))+(5:Int))).toNat=false)∧tt)∧((0:Int)≤i64.wrap (i64.wrap ((i64.wrap ((↑g:Int)*(256:Int))).tdiv (16:Int))+(6:Int))∧i64.wrap (i64.wrap ((i64.wrap ((↑g:Int)*(256:Int))).tdiv (16:Int))+(6:Int))<(↑m:Int))∧(rr (Value.pointer (some ⟨66,0,none⟩))∧rr (Value.int .i64 (i64.wrap (i64.wrap ((i64.wrap ((↑g:Int)*(256:Int))).tdiv (16:Int))+(6:Int))))∧True)∧((tt∧tt∧tt∧tt∧tt∧True∧[Value.int .i64 (↑m),.slice (some ⟨65,0,none⟩) n 9223372036854775873]=[Value.int .i64 (↑m),.slice (some ⟨65,0,none⟩) (Za f n).length 9223372036854775873])∧(tt∧(v64 (Za f n)).all (okV (fun l=>l.blt 68) 3)=true∧tt∧tt∧tt∧True∧v64 (Za f n)=List.map (rnV (lift 68 68 [64,65,66,67]) 3) (v64 (Za f n)))∧True)∧(tt∧n≤n)∧True)∧f (i64.wrap (i64.wrap ((i64.wrap ((↑g:Int)*(256:Int))).tdiv (16:Int))+(6:Int))).toNat=false)∧tt)∧((0:Int)≤i64.wrap (i64.wrap ((i64.wrap ((↑g:Int)*(256:Int))).tdiv (16:Int))+(7:Int))∧i64.wrap (i64.wrap ((i64.wrap ((↑g:Int)*(256:Int))).tdiv (16:Int))+(7:Int))<(↑m:Int))∧(rr (Value.pointer (some ⟨66,0,none⟩))∧rr (Value.int .i64 (i64.wrap (i64.wrap ((i64.wrap ((↑g:Int)*(256:Int))).tdiv (16:Int))+(7:Int))))∧True)∧((tt∧tt∧tt∧tt∧tt∧True∧[Value.int .i64 (↑m),.slice (some ⟨65,0,none⟩) n 9223372036854775873]=[Value.int .i64 (↑m),.slice (some ⟨65,0,none⟩) (Za f n).length 9223372036854775873])∧(tt∧(v64 (Za f n)).all (okV (fun l=>l.blt 68) 3)=true∧tt∧tt∧tt∧True∧v64 (Za f n)=List.map (rnV (lift 68 68 [64,65,66,67]) 3) (v64 (Za f n)))∧True)∧(tt∧n≤n)∧True)∧f (i64.wrap (i64.wrap ((i64.wrap ((↑g:Int)*(256:Int))).tdiv (16:Int))+(7:Int))).toNat=false)∧tt)∧((0:Int)≤i64.wrap (i64.wrap ((i64.wrap ((↑g:Int)*(256:Int))).tdiv (16:Int))+(8:Int))∧i64.wrap (i64.wrap ((i64.wrap ((↑g:Int)*(256:Int))).tdiv (16:Int))+(8:Int))<(↑m:Int))∧(rr (Value.pointer (some ⟨66,0,none⟩))∧rr (Value.int .i64 (i64.wrap (i64.wrap ((i64.wrap ((↑g:Int)*(256:Int))).tdiv (16:Int))+(8:Int))))∧True)∧((tt∧tt∧tt∧tt∧tt∧True∧[Value.int .i64 (↑m),.slice (some ⟨65,0,none⟩) n 9223372036854775873]=[Value.int .i64 (↑m),.slice (some ⟨65,0,none⟩) (Za f n).length 9223372036854775873])∧(tt∧(v64 (Za f n)).all (okV (fun l=>l.blt 68) 3)=true∧tt∧tt∧tt∧True∧v64 (Za f n)=List.map (rnV (lift 68 68 [64,65,66,67]) 3) (v64 (Za f n)))∧True)∧(tt∧n≤n)∧True)∧f (i64.wrap (i64.wrap ((i64.wrap ((↑g:Int)*(256:Int))).tdiv (16:Int))+(8:Int))).toNat=false)∧tt)∧((0:Int)≤i64.wrap (i64.wrap ((i64.wrap ((↑g:Int)*(256:Int))).tdiv (16:Int))+(9:Int))∧i64.wrap (i64.wrap ((i64.wrap ((↑g:Int)*(256:Int))).tdiv (16:Int))+(9:Int))<(↑m:Int))∧(rr (Value.pointer (some ⟨66,0,none⟩))∧rr (Value.int .i64 (i64.wrap (i64.wrap ((i64.wrap ((↑g:Int)*(256:Int))).tdiv (16:Int))+(9:Int))))∧True)∧((tt∧tt∧tt∧tt∧tt∧True∧[Value.int .i64 (↑m),.slice (some ⟨65,0,none⟩) n 9223372036854775873]=[Value.int .i64 (↑m),.slice (some ⟨65,0,none⟩) (Za f n).length 9223372036854775873])∧(tt∧(v64 (Za f n)).all (okV (fun l=>l.blt 68) 3)=true∧tt∧tt∧tt∧True∧v64 (Za f n)=List.map (rnV (lift 68 68 [64,65,66,67]) 3) (v64 (Za f n)))∧True)∧(tt∧n≤n)∧True)∧f (i64.wrap (i64.wrap ((i64.wrap ((↑g:Int)*(256:Int))).tdiv (16:Int))+(9:Int))).toNat=false)∧tt)∧((0:Int)≤i64.wrap (i64.wrap ((i64.wrap ((↑g:Int)*(256:Int))).tdiv (16:Int))+(10:Int))∧i64.wrap (i64.wrap ((i64.wrap ((↑g:Int)*(256:Int))).tdiv (16:Int))+(10:Int))<(↑m:Int))∧(rr (Value.pointer (some ⟨66,0,none⟩))∧rr (Value.int .i64 (i64.wrap (i64.wrap ((i64.wrap ((↑g:Int)*(256:Int))).tdiv (16:Int))+(10:Int))))∧True)∧((tt∧tt∧tt∧tt∧tt∧True∧[Value.int .i64 (↑m),.slice (some ⟨65,0,none⟩) n 9223372036854775873]=[Value.int .i64 (↑m),.slice (some ⟨65,0,none⟩) (Za f n).length 9223372036854775873])∧(tt∧(v64 (Za f n)).all (okV (fun l=>l.blt 68) 3)=true∧tt∧tt∧tt∧True∧v64 (Za f n)=List.map (rnV (lift 68 68 [64,65,66,67]) 3) (v64 (Za f n)))∧True)∧(tt∧n≤n)∧True)∧f (i64.wrap (i64.wrap ((i64.wrap ((↑g:Int)*(256:Int))).tdiv (16:Int))+(10:Int))).toNat=false)∧tt)∧((0:Int)≤i64.wrap (i64.wrap ((i64.wrap ((↑g:Int)*(256:Int))).tdiv (16:Int))+(11:Int))∧i64.wrap (i64.wrap ((i64.wrap ((↑g:Int)*(256:Int))).tdiv (16:Int))+(11:Int))<(↑m:Int))∧(rr (Value.pointer (some ⟨66,0,none⟩))∧rr (Value.int .i64 (i64.wrap (i64.wrap ((i64.wrap ((↑g:Int)*(256:Int))).tdiv (16:Int))+(11:Int))))∧True)∧((tt∧tt∧tt∧tt∧tt∧True∧[Value.int .i64 (↑m),.slice (some ⟨65,0,none⟩) n 9223372036854775873]=[Value.int .i64 (↑m),.slice (some ⟨65,0,none⟩) (Za f n).length 9223372036854775873])∧(tt∧(v64 (Za f n)).all (okV (fun l=>l.blt 68) 3)=true∧tt∧tt∧tt∧True∧v64 (Za f n)=List.map (rnV (lift 68 68 [64,65,66,67]) 3) (v64 (Za f n)))∧True)∧(tt∧n≤n)∧True)∧f (i64.wrap (i64.wrap ((i64.wrap ((↑g:Int)*(256:Int))).tdiv (16:Int))+(11:Int))).toNat=false)∧tt)∧((0:Int)≤i64.wrap (i64.wrap ((i64.wrap ((↑g:Int)*(256:Int))).tdiv (16:Int))+(12:Int))∧i64.wrap (i64.wrap ((i64.wrap ((↑g:Int)*(256:Int))).tdiv (16:Int))+(12:Int))<(↑m:Int))∧(rr (Value.pointer (some ⟨66,0,none⟩))∧rr (Value.int .i64 (i64.wrap (i64.wrap ((i64.wrap ((↑g:Int)*(256:Int))).tdiv (16:Int))+(12:Int))))∧True)∧((tt∧tt∧tt∧tt∧tt∧True∧[Value.int .i64 (↑m),.slice (some ⟨65,0,none⟩) n 9223372036854775873]=[Value.int .i64 (↑m),.slice (some ⟨65,0,none⟩) (Za f n).length 9223372036854775873])∧(tt∧(v64 (Za f n)).all (okV (fun l=>l.blt 68) 3)=true∧tt∧tt∧tt∧True∧v64 (Za f n)=List.map (rnV (lift 68 68 [64,65,66,67]) 3) (v64 (Za f n)))∧True)∧(tt∧n≤n)∧True)∧f (i64.wrap (i64.wrap ((i64.wrap ((↑g:Int)*(256:Int))).tdiv (16:Int))+(12:Int))).toNat=false)∧tt)∧((0:Int)≤i64.wrap (i64.wrap ((i64.wrap ((↑g:Int)*(256:Int))).tdiv (16:Int))+(13:Int))∧i64.wrap (i64.wrap ((i64.wrap ((↑g:Int)*(256:Int))).tdiv (16:Int))+(13:Int))<(↑m:Int))∧(rr (Value.pointer (some ⟨66,0,none⟩))∧rr (Value.int .i64 (i64.wrap (i64.wrap ((i64.wrap ((↑g:Int)*(256:Int))).tdiv (16:Int))+(13:Int))))∧True)∧((tt∧tt∧tt∧tt∧tt∧True∧[Value.int .i64 (↑m),.slice (some ⟨65,0,none⟩) n 9223372036854775873]=[Value.int .i64 (↑m),.slice (some ⟨65,0,none⟩) (Za f n).length 9223372036854775873])∧(tt∧(v64 (Za f n)).all (okV (fun l=>l.blt 68) 3)=true∧tt∧tt∧tt∧True∧v64 (Za f n)=List.map (rnV (lift 68 68 [64,65,66,67]) 3) (v64 (Za f n)))∧True)∧(tt∧n≤n)∧True)∧f (i64.wrap (i64.wrap ((i64.wrap ((↑g:Int)*(256:Int))).tdiv (16:Int))+(13:Int))).toNat=false)∧tt)∧((0:Int)≤i64.wrap (i64.wrap ((i64.wrap ((↑g:Int)*(256:Int))).tdiv (16:Int))+(14:Int))∧i64.wrap (i64.wrap ((i64.wrap ((↑g:Int)*(256:Int))).tdiv (16:Int))+(14:Int))<(↑m:Int))∧(rr (Value.pointer (some ⟨66,0,none⟩))∧rr (Value.int .i64 (i64.wrap (i64.wrap ((i64.wrap ((↑g:Int)*(256:Int))).tdiv (16:Int))+(14:Int))))∧True)∧((tt∧tt∧tt∧tt∧tt∧True∧[Value.int .i64 (↑m),.slice (some ⟨65,0,none⟩) n 9223372036854775873]=[Value.int .i64 (↑m),.slice (some ⟨65,0,none⟩) (Za f n).length 9223372036854775873])∧(tt∧(v64 (Za f n)).all (okV (fun l=>l.blt 68) 3)=true∧tt∧tt∧tt∧True∧v64 (Za f n)=List.map (rnV (lift 68 68 [64,65,66,67]) 3) (v64 (Za f n)))∧True)∧(tt∧n≤n)∧True)∧f (i64.wrap (i64.wrap ((i64.wrap ((↑g:Int)*(256:Int))).tdiv (16:Int))+(14:Int))).toNat=false)∧tt)∧((0:Int)≤i64.wrap (i64.wrap ((i64.wrap ((↑g:Int)*(256:Int))).tdiv (16:Int))+(15:Int))∧i64.wrap (i64.wrap ((i64.wrap ((↑g:Int)*(256:Int))).tdiv (16:Int))+(15:Int))<(↑m:Int))∧(rr (Value.pointer (some ⟨66,0,none⟩))∧rr (Value.int .i64 (i64.wrap (i64.wrap ((i64.wrap ((↑g:Int)*(256:Int))).tdiv (16:Int))+(15:Int))))∧True)∧((tt∧tt∧tt∧tt∧tt∧True∧[Value.int .i64 (↑m),.slice (some ⟨65,0,none⟩) n 9223372036854775873]=[Value.int .i64 (↑m),.slice (some ⟨65,0,none⟩) (Za f n).length 9223372036854775873])∧(tt∧(v64 (Za f n)).all (okV (fun l=>l.blt 68) 3)=true∧tt∧tt∧tt∧True∧v64 (Za f n)=List.map (rnV (lift 68 68 [64,65,66,67]) 3) (v64 (Za f n)))∧True)∧(tt∧n≤n)∧True)∧f (i64.wrap (i64.wrap ((i64.wrap ((↑g:Int)*(256:Int))).tdiv (16:Int))+(15:Int))).toNat=false)∧rr false):=by kernel_rfl
theorem XL {q:Nat→Bool} (h:∀ l,l<68→q l=true) (rw:Bool) (zs:List UInt8) (f:Nat→Bool) (N m n:Nat):OkH q (arW rw zs f N m n) :=
 ⟨⟨h 67 (by omega),rfl,fun v hv=>Qa 3 v ((Yq h N m n).1 v hv)⟩,⟨h 66 (by omega),rfl,fun v hv=>Qa 3 v ((Yq h N m n).2 v hv)⟩,⟨h 65 (by omega),h 65 (by omega),Qf (Zr _)⟩,⟨h 64 (by omega),h 64 (by omega),Qf (Zm zs)⟩,trivial⟩
theorem ZbW (rw:Bool) (zs:List UInt8) (f:Nat→Bool) (N m n:Nat):∀ x∈arW rw zs f N m n,∀ v∈x.2.cells,okV (fun l=>Nat.blt l 68) 3 v=true:=fun x hx v hv=>by
 simp only[rr, tt, arW,List.mem_cons,List.not_mem_nil,or_false] at hx
 rcases hx with rfl|rfl|rfl|rfl
 ·exact(Yq KU N m n).1 v hv
 ·exact(Yq KU N m n).2 v hv
 ·exact Qd (Zr _ v hv) 3
 ·exact Qd (Zm zs v hv) 3
theorem X5 (rw:Bool) (zs:List UInt8) (f:Nat→Bool) (N m n:Nat):∀ x∈arW rw zs f N m n,x.2.op≠none→∀ v∈x.2.cells,ZP v=true:=fun x hx hne=>by
 simp only[rr, tt, arW,List.mem_cons,List.not_mem_nil,or_false] at hx
 rcases hx with rfl|rfl|rfl|rfl
 ·exact absurd rfl hne
 ·exact absurd rfl hne
 ·exact Zr _
 ·exact Zm zs
theorem YN {s':Sy.St} (zs:List UInt8) (f:Nat→Bool) (N m n:Nat) (cs ws:List Value) (h67:Sy.look s'.h 67=some ⟨true,none,[.pointer (some ⟨66,0,none⟩),.slice (some ⟨64,0,none⟩) N (big+64)],none⟩) (h66:Sy.look s'.h 66=some ⟨true,none,[.int .i64 (m:Nat),.slice (some ⟨65,0,none⟩) n (big+65)],none⟩)
  (h65:Sy.look s'.h 65=some ⟨true,some (65,1),ws,none⟩) (h64:Sy.look s'.h 64=some ⟨true,some (64,1),cs,none⟩) (hw:ws=v64 (Za f n)) (hc:cs=u8s zs):YQ 3 (fun l=>Nat.blt l 68) id s'.h (arW true zs f N m n):=by
 refine⟨⟨rfl,List.all_eq_true.2 (Yq KU N m n).1,rfl,?_⟩,⟨rfl,List.all_eq_true.2 (Yq KU N m n).2,rfl,?_⟩,⟨rfl,Zn (Zr _),rfl,?_⟩,⟨rfl,Zn (Zm zs),rfl,?_⟩,trivial⟩
 ·simp only[rr, tt, id,h67]; exact⟨rfl,rfl,trivial,(Q7 _ rfl _).symm⟩
 ·simp only[rr, tt, id,h66]; exact⟨rfl,rfl,trivial,(Q7 _ rfl _).symm⟩
 ·simp only[rr, tt, id,h65]; exact⟨rfl,rfl,trivial,by rw[Q7 _ rfl,hw]⟩
 ·simp only[rr, tt, id,h64]; exact⟨rfl,rfl,trivial,by rw[Q7 _ rfl,hc]⟩
def KX (args:List Value) (zs zs':List UInt8) (f f':Nat→Bool) (N m n:Nat):Con:=⟨args,68,arW true zs f N m n,arO N n,.bool true,68,arW true zs' f' N m n,arO N n⟩
theorem KA {args:List Value} (ha:args.all (okV (fun l=>Nat.blt l 68) 3)=true) (zs zs':List UInt8) (f f':Nat→Bool) (N m n:Nat):(KX args zs zs' f f' N m n).Wf 3 :=
 ⟨by show 64≤68; omega,Nat.le_refl _,XL KU true zs f N m n,rfl,rfl,rfl,ha,rfl,ZbW true _ _ N m n⟩
theorem Wq {args:List Value} {zs zs':List UInt8} {f f':Nat→Bool} {N m n:Nat} {s':Sy.St} (h1:YQ 3 (fun l=>Nat.blt l 68) id s'.h (arW true zs' f' N m n)) (h2:Wn (fun l=>Nat.blt l 68) id s'.lo (arO N n)):(KX args zs zs' f f' N m n).Ends 3 (fun l=>Nat.blt l 68) id (.bool true) s' :=
 ⟨fun _ _=>rfl,h1,rfl,h2,⟨rfl,rfl⟩,rfl,XL U2 true _ _ N m n,rfl,Zu _ rfl,fun x _ _ => .inl rfl⟩
theorem JM (f:Nat→Bool) (g:Nat) (a b:Bool):Qr (Qr f g a) g b=Qr f g b:=by
 funext i; unfold Qr; split<;>rfl
theorem Vk (g m n:Nat) (f:Nat→Bool) (v:Int):FlatC (Zki g m n f v):=⟨fun x hx _=>by
 obtain rfl:=List.mem_singleton.1 hx
 exact Zr _⟩
theorem Zae (g m n:Nat) (f:Nat→Bool) (b:Bool):FlatC (Zl5 g m n f b):=⟨fun x hx _=>by
 obtain rfl:=List.mem_singleton.1 hx
 exact Zr _⟩
def ZdC (args:List Value) (v:Value) (zs:List UInt8) (f:Nat→Bool) (N m n:Nat):Con:=⟨args,68,arW false zs f N m n,arO N n,v,68,[],[]⟩
theorem Yx {call:Z1} (hc:Zx Tryz.prog call) {fn:FuncId} {args:List Value} {v:Value} {zs:List UInt8} {f:Nat→Bool} {N m n:Nat} {T:List (Nat×Bool)} {q:Prop} (ha:args.all (okV (fun l=>Nat.blt l 68) 3)=true) (hv:Ym v=true) (hu:isU v=false) (h:obs (call fn args ⟨68,arW false zs f N m n,arO N n,0,T,0,True⟩)=some (v,q)) (hq:q) :
  ConOk Tryz.prog fn 3 (ZdC args v zs f N m n)∧FlatC (ZdC args v zs f N m n):=by
 unfold obs at h
 obtain⟨⟨v',s'⟩,h1,h2⟩:=oM h
 simp only[rr, tt, Prod.mk.injEq] at h2
 obtain⟨rfl,rfl⟩:=h2
 refine⟨ZZ hc ⟨by show 64≤68; omega,Nat.le_refl _,XL KU false zs f N m n,rfl,rfl,rfl,ha,QB hv 1,fun x hx=>by cases hx⟩ h1 hq (p:=fun l=>Nat.blt l 68) (σ:=id) ?_,⟨fun x hx=>by cases hx⟩⟩
 exact⟨fun _ _=>rfl,trivial,rfl,trivial,⟨QB hv 1,by rw[XY]; rfl⟩,hu,trivial,rfl,Q6 _ hv,fun x hx=>by cases hx⟩
def rwC (a k:Nat) (zs:List UInt8) (f:Nat→Bool) (N m n:Nat):Con:=ZdC [.pointer (some ⟨67,0,none⟩),.int .u32 (a:Nat),.int .i64 (k:Nat)] (.tuple ⟨[.string ⟨⟨(zs.drop a).take k⟩⟩,.bool true]⟩) zs f N m n
theorem Zkj (a k:Nat) (zs:List UInt8) (f:Nat→Bool) (N m n:Nat) (h:ArOk zs N m n) (ha:a+k≤N) (hlt:a<N):ConOk Tryz.prog 19 3 (rwC a k zs f N m n)∧FlatC (rwC a k zs f N m n):=by
 obtain⟨hl,h1,h2,h3,h4⟩:=h
 have hr:=rw_d (a:Int) (k:Int) zs f N m n
 have e1:a+k-a=k:=by omega
 simp(disch:=omega) only[rr, tt, Ye,VI,KV,Int.toNat_natCast,Nat.zero_add,Nat.mul_one,Nat.add_zero,e1,ZbQ,U6,JI] at hr
 refine Yx (Zt (L:=100) Zg (Zf _) (Ze _) 40) rfl rfl rfl hr ?_
 simp(disch:=omega) only[rr, tt, QH,hl,Vo,decide_eq_true,decide_eq_false,Bool.and_self,Bool.true_and,Bool.and_true,Bool.not_true,Bool.not_false,cond_true,and_true,true_and,and_self]
theorem ZcO (m n:Nat) (f:Nat→Bool) (h2:m≤64*n) (h3:n≤100000):JB Tryz.prog 3 (Zad m n f):=by
 intro fn args s c ρ q h hq
 unfold Zad at h
 obtain⟨h4,h5⟩:=ZQ h
 have h4:=eB h4
 subst h4
 split at h5
 ·rename_i x
  cases h5
  obtain⟨g,rfl⟩:=Int.eq_ofNat_of_zero_le hq.1
  exact ZbU g m n f (by omega) h2 h3
 ·cases h5
def Zmp (g:Nat) (zs:List UInt8) (f:Nat→Bool) (N m n:Nat):Con:=ZdC [.pointer (some ⟨67,0,none⟩),.int .i64 (g:Nat)] (.slice none 0 0) zs f N m n
theorem ZiA (g:Nat) (zs:List UInt8) (f:Nat→Bool) (N m n:Nat) (h:ArOk zs N m n) (hg:(g+1)*256≤N) (hf:∀ i,i<16→f (16*g+i)=false):ConOk Tryz.prog 47 3 (Zmp g zs f N m n)∧FlatC (Zmp g zs f N m n):=by
 obtain⟨hl,h1,h2,h3,h4⟩:=h
 have hr:=tg_0 g zs f N m n
 have e1:∀ k:Nat,k<16→i64.wrap (i64.wrap ((i64.wrap ((g:Int)*(256:Int))).tdiv (16:Int))+(k:Int))=((16*g+k:Nat):Int):=fun k hk=>by
  rw[show(g:Int)*(256:Int)=((g*256:Nat):Int) by omega,Ye _ (by omega),Yr,Ye _ (by omega),VI,Ye _ (by omega)]
  omega
 have e2:i64.wrap ((N:Int).tdiv (256:Int))=((N/256:Nat):Int):=by rw[show(N:Int).tdiv (256:Int)=((N/256:Nat):Int) from(Int.ofNat_tdiv N 256).symm,Ye _ (by omega)]
 have hv1:∀ (σ:Nat→Nat),(v64 (Za f n)).map (rnV σ 3)=v64 (Za f n):=fun σ=>Zp (Zr _)
 have hv2:∀ (p:Nat→Bool),(v64 (Za f n)).all (okV p 3)=true:=fun p=>Zn (Zr _)
 refine Yx (Zt (L:=100) Zg (Xf (ZcO m n f h2 h3)) (Ze _) 40) rfl rfl rfl hr ?_
 have t0:i64.wrap (i64.wrap ((i64.wrap ((g:Int)*(256:Int))).tdiv (16:Int))+(0:Int))=((16*g+0:Nat):Int):=e1 0 (by omega)
 have t1:i64.wrap (i64.wrap ((i64.wrap ((g:Int)*(256:Int))).tdiv (16:Int))+(1:Int))=((16*g+1:Nat):Int):=e1 1 (by omega)
 have t2:i64.wrap (i64.wrap ((i64.wrap ((g:Int)*(256:Int))).tdiv (16:Int))+(2:Int))=((16*g+2:Nat):Int):=e1 2 (by omega)
 have t3:i64.wrap (i64.wrap ((i64.wrap ((g:Int)*(256:Int))).tdiv (16:Int))+(3:Int))=((16*g+3:Nat):Int):=e1 3 (by omega)
 have t4:i64.wrap (i64.wrap ((i64.wrap ((g:Int)*(256:Int))).tdiv (16:Int))+(4:Int))=((16*g+4:Nat):Int):=e1 4 (by omega)
 have t5:i64.wrap (i64.wrap ((i64.wrap ((g:Int)*(256:Int))).tdiv (16:Int))+(5:Int))=((16*g+5:Nat):Int):=e1 5 (by omega)
 have t6:i64.wrap (i64.wrap ((i64.wrap ((g:Int)*(256:Int))).tdiv (16:Int))+(6:Int))=((16*g+6:Nat):Int):=e1 6 (by omega)
 have t7:i64.wrap (i64.wrap ((i64.wrap ((g:Int)*(256:Int))).tdiv (16:Int))+(7:Int))=((16*g+7:Nat):Int):=e1 7 (by omega)
 have t8:i64.wrap (i64.wrap ((i64.wrap ((g:Int)*(256:Int))).tdiv (16:Int))+(8:Int))=((16*g+8:Nat):Int):=e1 8 (by omega)
 have t9:i64.wrap (i64.wrap ((i64.wrap ((g:Int)*(256:Int))).tdiv (16:Int))+(9:Int))=((16*g+9:Nat):Int):=e1 9 (by omega)
 have t10:i64.wrap (i64.wrap ((i64.wrap ((g:Int)*(256:Int))).tdiv (16:Int))+(10:Int))=((16*g+10:Nat):Int):=e1 10 (by omega)
 have t11:i64.wrap (i64.wrap ((i64.wrap ((g:Int)*(256:Int))).tdiv (16:Int))+(11:Int))=((16*g+11:Nat):Int):=e1 11 (by omega)
 have t12:i64.wrap (i64.wrap ((i64.wrap ((g:Int)*(256:Int))).tdiv (16:Int))+(12:Int))=((16*g+12:Nat):Int):=e1 12 (by omega)
 have t13:i64.wrap (i64.wrap ((i64.wrap ((g:Int)*(256:Int))).tdiv (16:Int))+(13:Int))=((16*g+13:Nat):Int):=e1 13 (by omega)
 have t14:i64.wrap (i64.wrap ((i64.wrap ((g:Int)*(256:Int))).tdiv (16:Int))+(14:Int))=((16*g+14:Nat):Int):=e1 14 (by omega)
 have t15:i64.wrap (i64.wrap ((i64.wrap ((g:Int)*(256:Int))).tdiv (16:Int))+(15:Int))=((16*g+15:Nat):Int):=e1 15 (by omega)
 simp only[rr, tt, t0,t1,t2,t3,t4,t5,t6,t7,t8,t9,t10,t11,t12,t13,t14,t15,e2,hv1,hv2,ZW,Int.toNat_natCast,and_true,true_and,and_self,Nat.le_refl]
 have b1:∀ k:Nat,k<16→(0:Int)≤((16*g+k:Nat):Int)∧((16*g+k:Nat):Int)<(m:Int):=fun k hk=>by omega
 simp only[rr, tt, hf,b1,Nat.lt_irrefl,Nat.reduceLT,and_true,true_and,and_self]
 exact⟨decide_eq_false (by omega),decide_eq_false (by omega)⟩
end Go.Proofs.YtagacmljbgkmoaaGreatDoor
