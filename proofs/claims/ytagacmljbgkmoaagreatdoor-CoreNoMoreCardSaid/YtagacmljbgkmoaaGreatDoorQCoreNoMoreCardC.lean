/-
  CoreNoMoreCard: part 3 of the proof.
-/
import Derived.Below
import Derived.BigQuiet
import Derived.Calls
import Derived.Deep.AppendLies
import Derived.Deep.DrawnRows
import Derived.Deep.Draws
import Derived.Deep.QuietTactic
import Derived.Deep.RegionHeld3
import Derived.IntWalk
import Derived.KernelRfl
import Derived.Laws.Bits64
import Derived.Laws.BitsAllLaws
import Derived.Laws.BytesArg
import Derived.Laws.Concat
import Derived.Laws.EntriesVeiled
import Derived.Laws.IdiomStrings
import Derived.Laws.OwnMore
import Derived.Laws.Rows
import Derived.Laws.Strings
import Derived.Laws.Strings2
import Derived.Laws.StructEq
import Derived.Lib.Hide
import Derived.Outline
import Derived.OwnWalk
import Derived.Test.YtagacmljbgkmoaaGreatDoorChecked
import Derived.Test.YtagacmljbgkmoaaGreatDoorProg
import Derived.Test.YtagacmljbgkmoaaGreatDoorQCoreNoMoreCardB
import Derived.WalkKit
import Derived.WalkLawsBesides
import Derived.WalkSpells
set_option linter.unusedSimpArgs false
set_option linter.unusedVariables false
set_option linter.unusedSectionVars false
namespace Go.Proofs.YtagacmljbgkmoaaGreatDoor
open Go.IntKind (u8 u16 u32 u64 i64)
open Go.RowKit
structure Box (p:Prop):Prop where
 out:p
theorem Z0 {p:Prop} (h:p):Hid p:=h
theorem ZfG (a:Addr) (n:Nat):(a.add n).block=a.block:=by unfold Addr.add; split<;>rfl
theorem Zo2 (a:Addr) (i j:Nat):(a.add i).add j=a.add (i+j):=by
 unfold Addr.add
 by_cases hi:i=0<;>by_cases hj:j=0<;>simp[hi,hj,Nat.add_assoc]
def Vl (w:World) (B size:Nat) (A:Option Addr) (n:Nat) (xs:List Value):Prop :=
 xs.length=n*size∧(0<n→∃ ad,A=some ad∧ad.block<B∧∀ j u,xs[j]? = some u→w.cell? (ad.add j)=some u)
section
variable {w w':World} {B B' size n:Nat} {A:Option Addr} {xs:List Value}
theorem Vl.at_ {k:Nat} (h:Vl w B 1 A n xs) (hk:k<n):∃ ad u,A=some ad∧ad.block<B∧xs[k]? = some u∧w.cell? (ad.add k)=some u:=by
 obtain⟨ad,e,hb,hc⟩:=h.2 (by omega)
 have hl:k<xs.length:=by have:=h.1; omega
 exact⟨ad,xs[k],e,hb,List.getElem?_eq_getElem hl,hc k _ (List.getElem?_eq_getElem hl)⟩
theorem Vl.keep (h:Vl w B size A n xs) (hk:∀ p:Addr,p.block<B→w'.cell? p=w.cell? p):Vl w' B size A n xs :=
 ⟨h.1,fun hn=>by
  obtain⟨ad,e,hb,hc⟩:=h.2 hn
  exact⟨ad,e,hb,fun j u hu=>(hk _ (by rw[ZfG]; exact hb)).trans (hc j u hu)⟩⟩
theorem Vl.more (h:Vl w B size A n xs) (hB:B≤B'):Vl w B' size A n xs :=
 ⟨h.1,fun hn=>by
  obtain⟨ad,e,hb,hc⟩:=h.2 hn
  exact⟨ad,e,by omega,hc⟩⟩
theorem Vl.below (h:Vl w B size A n xs) (hb:Below B w w'):Vl w' B size A n xs:=h.keep fun _ hp=>hb.cell hp
theorem Vl.drew (h:Vl w B size A n xs):Vl w.drew B size A n xs:=h
theorem Vl.drewN (h:Vl w B size A n xs) (k:Nat):Vl (w.drewN k) B size A n xs:=h
theorem Vl.alloc (h:Vl w B size A n xs) (hB:B≤w.heap.size) (o:Obj):Vl (w.alloc o) B size A n xs:=h.keep fun p hp=>World.cell?_alloc_lt w o p (by omega)
theorem Vl.setCell (h:Vl w B size A n xs) {p:Addr} (hB:B≤p.block) (u:Value):Vl (w.setCell p u) B size A n xs :=
 h.keep fun q hq=>World.cell?_setCell_other w p q u (fun e=>by subst e; omega)
theorem Vl.cut (h:Vl w B size A n xs) {k cap:Nat} (hk:k≤n) (hc:n≤cap) :
  Vl w B size (if cap=k then A else A.map (·.add (k*size))) (n-k) (xs.drop (k*size)):=by
 refine⟨by rw[List.length_drop,h.1,Nat.sub_mul],fun hn => ?_⟩
 obtain⟨ad,rfl,hb,hcell⟩:=h.2 (by omega)
 rw[if_neg (by omega)]
 refine⟨ad.add (k*size),rfl,by rw[ZfG]; exact hb,fun j u hu => ?_⟩
 rw[Zo2]
 exact hcell _ u (by rw[← hu,List.getElem?_drop])
end
def Blk (w:World) (g:Nat) (t:TypeId) (cs:Array Value):Prop:=w.heap[g]? = some (.cells cs t (0,0))
section
variable {w w':World} {g:Nat} {t:TypeId} {cs:Array Value}
theorem Blk.lt (h:Blk w g t cs):g<w.heap.size:=by
 rcases Nat.lt_or_ge g w.heap.size with hlt|hge
 ·exact hlt
 ·unfold Blk at h; rw[Array.getElem?_eq_none hge] at h; cases h
theorem Blk.cell (h:Blk w g t cs) (i:Nat):w.cell? ⟨g,i,none⟩=cs[i]?:=cell_of_row w g i cs t (0,0) h
theorem Blk.frozen (h:Blk w g t cs) (i:Nat):w.frozen? ⟨g,i,none⟩=false:=by
 unfold Blk at h
 simp[World.frozen?,h]
theorem Blk.new (w:World) (t:TypeId) (cs:Array Value):Blk (w.alloc (.cells cs t)) w.heap.size t cs:=heap_alloc_new w _
theorem Blk.drew (h:Blk w g t cs):Blk w.drew g t cs:=h
theorem Blk.drewN (h:Blk w g t cs) (n:Nat):Blk (w.drewN n) g t cs:=h
theorem Blk.alloc (h:Blk w g t cs) (o:Obj):Blk (w.alloc o) g t cs:=(Below.heap_alloc w o g h.lt).trans h
theorem Blk.set_ (h:Blk w g t cs) (i:Nat) (u:Value):Blk (w.setCell ⟨g,i,none⟩ u) g t (cs.setIfInBounds i u):=by
 unfold Blk at h ⊢
 simp[World.setCell,Array.getElem?_modify,h]
theorem Blk.far (h:Blk w g t cs) {p:Addr} (hp:g≠p.block) (u:Value):Blk (w.setCell p u) g t cs:=(Below.heap_setCell w p u g hp).trans h
theorem Blk.below {B:Nat} (h:Blk w g t cs) (hb:Below B w w') (hg:g<B):Blk w' g t cs:=(hb.block g hg).trans h
end
def Row (w:World) (B:Nat) (A:Option Addr) (xs:List Value):Prop :=
 xs=[]∨∃ g off,A=some ⟨g,off,none⟩∧g<B∧∀ j u,xs[j]? = some u→w.cell? ⟨g,off+j,none⟩=some u
section
variable {w w':World} {B B':Nat} {A:Option Addr} {xs:List Value}
theorem Row.keep (h:Row w B A xs) (hk:∀ p:Addr,p.block<B→w'.cell? p=w.cell? p):Row w' B A xs:=by
 rcases h with h|⟨g,off,e,hb,hc⟩
 ·exact .inl h
 ·exact .inr ⟨g,off,e,hb,fun j u hu=>(hk _ hb).trans (hc j u hu)⟩
theorem Row.more (h:Row w B A xs) (hB:B≤B'):Row w B' A xs:=by
 rcases h with h|⟨g,off,e,hb,hc⟩
 ·exact .inl h
 ·exact .inr ⟨g,off,e,by omega,hc⟩
theorem Row.below (h:Row w B A xs) (hb:Below B w w'):Row w' B A xs:=h.keep fun _ hp=>hb.cell hp
theorem Row.drew (h:Row w B A xs):Row w.drew B A xs:=h
theorem Row.drewN (h:Row w B A xs) (k:Nat):Row (w.drewN k) B A xs:=h
theorem Row.alloc (h:Row w B A xs) (hB:B≤w.heap.size) (o:Obj):Row (w.alloc o) B A xs:=h.keep fun p hp=>World.cell?_alloc_lt w o p (by omega)
theorem Row.setCell (h:Row w B A xs) {p:Addr} (hB:B≤p.block) (u:Value):Row (w.setCell p u) B A xs :=
 h.keep fun q hq=>World.cell?_setCell_other w p q u (fun e=>by subst e; omega)
theorem Row.cut (h:Row w B A xs) {k cap:Nat} (hk:k≤xs.length) (hc:xs.length≤cap) :
  Row w B (if cap=k then A else A.map (·.add (k*1))) (xs.drop k):=by
 rcases Nat.lt_or_ge k xs.length with hlt|hge
 ·rcases h with h|⟨g,off,rfl,hb,hcell⟩
  ·subst h; simp at hlt
  ·rw[if_neg (by omega)]
   refine .inr ⟨g,off+k,?_,hb,fun j u hu => ?_⟩
   ·simp only[Option.map_some,Nat.mul_one,Addr.add]; split
    ·rename_i h0; subst h0; rfl
    ·rfl
   ·rw[List.getElem?_drop] at hu
    rw[Nat.add_assoc]; exact hcell _ u hu
 ·left; exact List.drop_eq_nil_of_le hge
theorem Row.take (h:Row w B A xs) (k:Nat):Row w B A (xs.take k):=by
 rcases h with h|⟨g,off,e,hb,hc⟩
 ·exact .inl (by simp[h])
 ·exact .inr ⟨g,off,e,hb,fun j u hu=>hc j u (by
   rw[List.getElem?_take] at hu; split at hu
   ·exact hu
   ·cases hu)⟩
theorem Row.place (h:Row w B A xs) (hx:0<xs.length):∃ g off,A=some ⟨g,off,none⟩∧g<B∧∀ j u,xs[j]? = some u→w.cell? ⟨g,off+j,none⟩=some u:=by
 rcases h with h|h
 ·subst h; simp at hx
 ·exact h
end
def bs (l:List UInt8):ByteArray:=⟨l.toArray⟩
@[go_sem] theorem bs_size (l:List UInt8):(bs l).size=l.length:=by simp[bs,ByteArray.size]
@[go_sem] theorem bs_toList (l:List UInt8):(bs l).toList=l:=ByteArray.toList_mk l
@[go_sem] theorem bs_append (a b:List UInt8):bs a++bs b=bs (a++b):=ByteArray.mk_append_mk a b
@[go_sem] theorem bs_extract (l:List UInt8) (a b:Nat):(bs l).extract a b=bs ((l.drop a).take (b-a)):=ByteArray.extract_mk l a b
@[go_sem] theorem bs_get (l:List UInt8) (i:Nat) (h:i<(bs l).size):(bs l)[i]'h=l[i]'(by simpa [bs_size] using h):=by
 simp[bs,ByteArray.getElem_eq_getElem_data]
theorem Zjs {k:IntKind} {a b:Int} (h:a=b):Ending.returned (.int k a) = .returned (.int k b):=by rw[h]
theorem XC {a b:Bool} (h:a=b):Ending.returned (.bool a) = .returned (.bool b):=by rw[h]
theorem Kj {B:Nat} {w w':World} (h:Below B w.drew w'):Below B w w':=⟨h.os,h.tape,h.output,h.size,h.block⟩
theorem ZA {B:Nat} {a w:World} (h:Below B a w) (n:Nat):Below B a (w.drewN n):=⟨h.os,h.tape,h.output,h.size,h.block⟩
theorem Kk {W w1:World} (hb:Below W.heap.size W w1):(∀ b o,b<W.heap.size→w1.cell? ⟨b,o,none⟩=W.cell? ⟨b,o,none⟩)∧(∀ b o,b<W.heap.size→w1.frozen? ⟨b,o,none⟩=W.frozen? ⟨b,o,none⟩) :=
 ⟨fun b o h=>hb.cell (p:=⟨b,o,none⟩) h,fun b o h=>hb.frozen (p:=⟨b,o,none⟩) h⟩
theorem Zo3 {P:Program} {f:FuncId} {args:Array Value} {w:World} {n:Nat} {v:Value}
  (h:Calls P f args (w.drewN n) fun e w'=>e = .returned v∧w.drewN n=w'):Calls P f args (w.drewN n) fun e w''=>e = .returned v∧∃ m,w''=w.drewN m :=
 h.mono fun _ _ ⟨he,hm⟩=>⟨he,n,hm.symm⟩
def JD (x edge:Nat):Nat:=if x<edge then 1 else 0
theorem Zba (x edge:Nat):JD x edge≤1:=by unfold JD; split<;>omega
def ZbP (b:Nat):Nat:=(b+3072)%4096
def Zf7 (e b c:Nat):Int:=((c/2^e/4096:Nat):Int)-(JD (c/2^e%4096) (ZbP b):Nat)
def ofN (e b c x:Nat):Int:=((Zf7 e b c+(JD x (ZbP b):Nat))*4096+x)*2^e
def ZkO (e b t:Nat):Bool:=decide (e≤21)&&decide (b<4096)&&decide (t<4096)
def WT (e b t c:Nat):Int:=if ZkO e b t then ofN e b c b else 0
def Va (e b t c:Nat):Int:=if ZkO e b t then ofN e b c t else 0
def Xn (e b t c:Nat):Bool:=ZkO e b t&&decide (0≤WT e b t c)&&decide (WT e b t c≤Va e b t c)&&decide (Va e b t c≤4294967296)
theorem ZkP {e b t:Nat} (h:ZkO e b t=true):e≤21∧b<4096∧t<4096:=by
 simp only[ZkO,Bool.and_eq_true,decide_eq_true_eq] at h; exact⟨h.1.1,h.1.2,h.2⟩
theorem Zjt {e b t:Nat} (h1:e≤21) (h2:b<4096) (h3:t<4096):ZkO e b t=true:=by simp[ZkO,h1,h2,h3]
theorem Vy {e:Nat} (h:e≤21):2^e≤2097152:=by
 have:=Nat.pow_le_pow_right (n:=2) (by omega) h
 simpa using this
theorem Xh (e:Nat):0<2^e:=Nat.pow_pos (by omega)
theorem ZqW {e b c:Nat} (hc:c<4294967296) : -1≤Zf7 e b c∧Zf7 e b c≤1048575:=by
 unfold Zf7
 have h1:=Zba (c/2^e%4096) (ZbP b)
 have h2:c/2^e≤c:=Nat.div_le_self _ _
 generalize c/2^e=q at h1 h2 ⊢
 have h3:q/4096≤1048575:=by omega
 omega
theorem Zo4 {e:Nat} (he:e≤21) (y:Int) (h1 : -8589934592≤y) (h2:y≤8589934592) : -9223372036854775808≤y*2^e∧y*2^e≤9223372036854775807:=by
 have hp:=Vy he
 have h0:=Xh e
 have e1:((2:Int)^e)=((2^e:Nat):Int):=by simp
 rw[e1]
 generalize 2^e=u at hp h0
 have a1:y*(u:Int)≤8589934592*(u:Int):=Int.mul_le_mul_of_nonneg_right h2 (by omega)
 have a2 : -8589934592*(u:Int)≤y*(u:Int):=Int.mul_le_mul_of_nonneg_right h1 (by omega)
 omega
theorem ZEs {e b c x:Nat} (hc:c<4294967296) (hx:x<65536) : -8589934592≤(Zf7 e b c+(JD x (ZbP b):Nat))*4096+x∧(Zf7 e b c+(JD x (ZbP b):Nat))*4096+x≤8589934592:=by
 have h1:=Zba x (ZbP b)
 have h2:=ZqW (e:=e) (b:=b) hc
 omega
def dnN (x e:Nat):Nat:=x/2^e*2^e
def upN (x e:Nat):Nat:=(x+(2^e-1))/2^e*2^e
def Jo (b t e:Nat):Bool:=decide (upN t e-dnN b e≤2048*2^e)
def Xi (b t:Nat):Nat→Nat→Nat
 | 0,e=>e
 | n+1,e=>if Jo b t e then e else Xi b t n (e+1)
def Z2 (b t:Nat):Nat:=Xi b t 21 0
theorem ZkQ (x e:Nat):dnN x e≤x:=Nat.div_mul_le_self _ _
theorem Zmk (x e:Nat):x≤upN x e:=by
 unfold upN
 have h0:=Xh e
 have h1:=Nat.div_add_mod (x+(2^e-1)) (2^e)
 have h2:=Nat.mod_lt (x+(2^e-1)) h0
 rw[Nat.mul_comm] at h1
 omega
theorem ZqX (x e:Nat):upN x e<x+2^e:=by
 unfold upN
 have h0:=Xh e
 have h1:=Nat.div_mul_le_self (x+(2^e-1)) (2^e)
 omega
theorem Zju {x e k:Nat} (h:x≤k*2^e):upN x e≤k*2^e:=by
 unfold upN
 have h0:=Xh e
 have:(x+(2^e-1))/2^e≤k:=by
  have h1:(x+(2^e-1))/2^e<k+1:=(Nat.div_lt_iff_lt_mul h0).2 (by rw[Nat.add_mul,Nat.one_mul]; omega)
  omega
 exact Nat.mul_le_mul_right _ this
theorem Zjv {t e:Nat} (he:e≤21) (ht:t≤4294967296):upN t e≤4294967296:=by
 have hd:2^e*2^(32-e)=4294967296:=by rw[← Nat.pow_add,show e+(32-e)=32 by omega]
 have:=Zju (x:=t) (e:=e) (k:=2^(32-e)) (by rw[Nat.mul_comm,hd]; exact ht)
 rw[Nat.mul_comm,hd] at this
 exact this
theorem ZqY {b t:Nat} (ht:t≤4294967296):Jo b t 21=true:=by
 unfold Jo
 have:=Zjv (e:=21) (by omega) ht
 simp only[decide_eq_true_eq]
 omega
theorem Zml (b t:Nat):∀ n e,Xi b t n e≤e+n:=by
 intro n
 induction n with
 | zero=>intro e; exact Nat.le_refl _
 | succ n ih =>
  intro e
  unfold Xi
  split
  ·omega
  ·have:=ih (e+1); omega
theorem Zb9 (b t:Nat):Z2 b t≤21:=by
 have:=Zml b t 21 0
 unfold Z2; omega
theorem Zep (b t:Nat):∀ n e,(Xi b t n e=e+n∨Jo b t (Xi b t n e)=true)∧∀ j,e≤j→j<Xi b t n e→Jo b t j=false:=by
 intro n
 induction n with
 | zero=>intro e; exact⟨.inl rfl,fun j h1 h2=>by simp[Xi] at h2; omega⟩
 | succ n ih =>
  intro e
  unfold Xi
  split
  ·rename_i h; exact⟨.inr h,fun j h1 h2=>by omega⟩
  ·rename_i h
   obtain⟨h1,h2⟩:=ih (e+1)
   refine⟨?_,fun j hj1 hj2 => ?_⟩
   ·rcases h1 with h1|h1
    ·left; omega
    ·exact .inr h1
   ·rcases Nat.lt_or_ge j (e+1) with hj|hj
    ·obtain rfl:j=e:=by omega
     simpa using h
    ·exact h2 j hj hj2
theorem Zeq {b t:Nat} (ht:t≤4294967296):Jo b t (Z2 b t)=true:=by
 have:=(Zep b t 21 0).1
 unfold Z2
 rcases this with h|h
 ·rw[h]; exact ZqY ht
 ·exact h
theorem Zua (a e:Nat) (ha:a<18446744073709551616) (he:e≤64):a&&&(18446744073709551615-(2^e-1))=a/2^e*2^e:=by
 have h0:=Xh e
 have h1:18446744073709551615-(2^e-1)=2^64-((2^e-1)+1):=by
  have:2^e≤2^64:=Nat.pow_le_pow_right (by omega) he
  omega
 rw[h1]
 apply Nat.eq_of_testBit_eq
 intro i
 have h2:2^e≤2^64:=Nat.pow_le_pow_right (by omega) he
 rw[Nat.testBit_and,Nat.testBit_two_pow_sub_succ (by omega),Nat.testBit_two_pow_sub_one,Nat.testBit_mul_two_pow,Nat.testBit_div_two_pow]
 by_cases hi:e≤i
 ·rw[Nat.sub_add_cancel hi]
  have e1:decide (i<e)=false:=by simp; omega
  have e2:decide (e≤i)=true:=by simpa using hi
  rw[e1,e2]
  by_cases h64:i<64
  ·have e3:decide (i<64)=true:=by simpa using h64
   rw[e3]; simp
  ·have:a.testBit i=false:=Nat.testBit_lt_two_pow (Nat.lt_of_lt_of_le ha (Nat.pow_le_pow_right (n:=2) (by omega) (show 64≤i by omega)))
   rw[this]; simp
 ·have e1:decide (i<e)=true:=by simp; omega
  have e2:decide (e≤i)=false:=by simpa using hi
  rw[e1,e2]; simp
theorem ZqZ (b:Nat) (_hb:b<4096):bits .and .u16 (u16.wrap ((b:Int)-1024)) 4095=((ZbP b:Nat):Int):=by
 have e:u16.wrap ((b:Int)-1024)=(((b+64512)%65536:Nat):Int):=by rw[IntKind.wrap_u16]; omega
 rw[e]
 have:=u16_and_nat ((b+64512)%65536) 4095 (by omega) (by omega)
 rw[nat_mask12] at this
 rw[show((4095:Int))=((4095:Nat):Int) from rfl,this]
 unfold ZbP; omega
theorem Zub (q:Nat) (hq:q<4294967296):bits .and .i64 (q:Int) 4095=((q%4096:Nat):Int):=by
 have h1:(BitVec.ofInt 64 (q:Int)).toNat=q:=by
  rw[BitVec.ofInt_natCast,BitVec.toNat_ofNat]; exact Nat.mod_eq_of_lt (by omega)
 show i64.wrap ((BitVec.ofInt 64 (q:Int)&&&BitVec.ofInt 64 (4095:Int)).toNat:Int)=_
 rw[BitVec.toNat_and,h1,show(BitVec.ofInt 64 (4095:Int)).toNat=4095 from rfl,nat_mask12,IntKind.wrap_i64]
 omega
theorem Zuc {e:Nat} (he:e≤21):u64.wrap (u64.wrap ((2:Int)^e)-1)=((2^e-1:Nat):Int):=by
 have hp:=Vy he
 have h0:=Xh e
 have e1:((2:Int)^e)=((2^e:Nat):Int):=by simp
 rw[e1,IntKind.wrap_u64,IntKind.wrap_u64]
 generalize 2^e=u at hp h0
 omega
theorem ZkR (x e:Nat) (hx:x<18446744073709551616) (he:e≤21):bits .andNot .u64 (x:Int) ((2^e-1:Nat):Int)=((x/2^e*2^e:Nat):Int):=by
 have hp:=Vy he
 rw[u64_andNot_nat x (2^e-1) hx (by omega),Zua x e hx (by omega)]
theorem Ziq (x:Nat) (hx:x<18446744073709551616):bits .and .u64 (x:Int) 4095=((x%4096:Nat):Int):=by
 have:=u64_and_nat x 4095 hx (by omega)
 rw[nat_mask12] at this
 exact this
theorem ZwC (b e:Nat):dnN b e/2^e=b/2^e:=by
 unfold dnN; exact Nat.mul_div_cancel _ (Xh e)
def QF (b t:Nat):Bool:=decide (b≤t)&&decide (t≤4294967296)
theorem Zq0 {k k':IntKind} {a b c d:Int} (h:a=b) (h':c=d):Ending.returned (.tuple #[.int k a,.int k' c]) = .returned (.tuple #[.int k b,.int k' d]):=by rw[h,h']
theorem Zny (x edge:Nat) (a:Addr) (w:World) (hc:w.cell? a=some (.int .u16 edge)) :
  Calls Tryz.prog 185 #[.int .u16 x,.pointer (some a)] w fun e w'=>e = .returned (.int .i64 (JD x edge:Nat))∧w=w':=by
 by_cases h:(x:Int)<edge
 ·have e:JD x edge=1:=by unfold JD; rw[if_pos (by omega)]
  rw[e]
  go_enter Tryz.func185,Tryz.ntmps185
  go_wp2
  go_ret
  exact⟨rfl,rfl⟩
 ·have e:JD x edge=0:=by unfold JD; rw[if_neg (by omega)]
  rw[e]
  go_enter Tryz.func185,Tryz.ntmps185
  go_wp2
  go_ret
  exact⟨rfl,rfl⟩
theorem ZwD (x b e c:Nat) (high r:Int) (edge:Nat) (hr:ofN e b c x=r) (hi:Zf7 e b c=high) (hed:ZbP b=edge) (ah at_ ae ed:Addr) (w:World) (hx:x<65536) (he:e≤21) (hc:c<4294967296)
  (h1:w.cell? ah=some (.int .i64 high)) (h2:w.cell? at_=some (.func (.func 185) #[] #[.pointer (some ed)])) (h3:w.cell? ae=some (.int .u8 e)) (h4:w.cell? ed=some (.int .u16 edge)) :
  Calls Tryz.prog 186 #[.int .u16 x,.pointer (some ah),.pointer (some at_),.pointer (some ae)] w fun e' w'=>e' = .returned (.int .i64 r)∧∃ m,w'=w.drewN m:=by
 have hh:=ZqW (e:=e) (b:=b) hc
 have ho:=ZEs (e:=e) (b:=b) (x:=x) hc hx
 have ht:=Zba x (ZbP b)
 have hw:=Zo4 he _ ho.1 ho.2
 have HO:Hid (wrap64 (((Zf7 e b c+(JD x (ZbP b):Nat))*4096+x)*2^e)=r):=by
  show _=_
  rw[IntWalk.wrap64_in _ hw]; exact hr
 rw[hed] at ho ht HO
 rw[hi] at hh ho HO
 clear hw hed hi hr
 have ht2:(0:Int)≤(JD x edge:Nat)∧((JD x edge:Nat):Int)≤1:=by omega
 go_enter Tryz.func186,Tryz.ntmps186
 go_wp2_with fail
 go_quiet ((go_at_call 185; refine Zo3 (Zny x edge _ _ ?_); exact h4))
 go_wp2
 go_ret
 exact⟨Zjs HO.out,_,rfl⟩
theorem ZxK (e b t c:Nat) (w:World) (h:ZkO e b t=false) (hb:b<65536) (ht:t<65536) (he:e<256) :
  Calls Tryz.prog 173 #[.int .u8 e,.int .u16 b,.int .u16 t,.int .u32 c] w fun e' w'=>e' = .returned (.tuple #[.agg #[.int .i64 0,.int .i64 0],.bool false])∧Below w.heap.size w w':=by
 have hcase:(21:Int)<e∨((e:Int)≤21∧(4095:Int)<b)∨((e:Int)≤21∧(b:Int)≤4095∧(4095:Int)<t):=by
  by_cases h1:e≤21
  ·by_cases h2:b<4096
   ·by_cases h3:t<4096
    ·rw[Zjt h1 h2 h3] at h; cases h
    ·omega
   ·omega
  ·omega
 have H:=Z0 h; clear h
 rcases hcase with h1|⟨h1,h2⟩|⟨h1,h2,h3⟩
 ·go_enter Tryz.func173,Tryz.ntmps173
  go_wp2
  refine bodyPost_ret (v:=.tuple #[.agg #[.int .i64 0,.int .i64 0],.bool false]) (by simp[results,Tryz.results173,go_sem]<;>rfl) rfl ⟨rfl,?_⟩
  (repeat (first|exact Below.refl _ _|refine Below.drew ?_|refine ZA ?_ _|refine Below.alloc ?_ (by simp<;>omega) _|refine Below.setCell ?_ (by simp<;>omega) _))
 ·have d1:decide ((21:Int)<e)=false:=by simp; omega
  go_enter Tryz.func173,Tryz.ntmps173
  go_wp2
  refine bodyPost_ret (v:=.tuple #[.agg #[.int .i64 0,.int .i64 0],.bool false]) (by simp[results,Tryz.results173,go_sem]<;>rfl) rfl ⟨rfl,?_⟩
  (repeat (first|exact Below.refl _ _|refine Below.drew ?_|refine ZA ?_ _|refine Below.alloc ?_ (by simp<;>omega) _|refine Below.setCell ?_ (by simp<;>omega) _))
 ·have d1:decide ((21:Int)<e)=false:=by simp; omega
  have d2:decide ((4095:Int)<b)=false:=by simp; omega
  go_enter Tryz.func173,Tryz.ntmps173
  go_wp2
  refine bodyPost_ret (v:=.tuple #[.agg #[.int .i64 0,.int .i64 0],.bool false]) (by simp[results,Tryz.results173,go_sem]<;>rfl) rfl ⟨rfl,?_⟩
  (repeat (first|exact Below.refl _ _|refine Below.drew ?_|refine ZA ?_ _|refine Below.alloc ?_ (by simp<;>omega) _|refine Below.setCell ?_ (by simp<;>omega) _))
set_option maxHeartbeats 1000000 in
theorem Zud (e b t c:Nat) (w:World) (he:e≤21) (hb:b<4096) (ht0:t<4096) (hc:c<4294967296) :
  Calls Tryz.prog 173 #[.int .u8 e,.int .u16 b,.int .u16 t,.int .u32 c] w fun e' w'=>e' = .returned (.tuple #[.agg #[.int .i64 (WT e b t c),.int .i64 (Va e b t c)],.bool (Xn e b t c)])∧Below w.heap.size w w':=by
 obtain⟨B,hB⟩:∃ B,ofN e b c b=B:=⟨_,rfl⟩
 obtain⟨T,hT⟩:∃ T,ofN e b c t=T:=⟨_,rfl⟩
 have hmay:=Zjt he hb ht0
 have hok:Xn e b t c=(decide (0≤B)&&decide (B≤T)&&decide (T≤4294967296)):=by
  unfold Xn WT Va
  rw[hmay,if_pos rfl,if_pos rfl,hB,hT]; rfl
 have hB2:WT e b t c=B:=by unfold WT; rw[if_pos hmay,hB]
 have hT2:Va e b t c=T:=by unfold Va; rw[if_pos hmay,hT]
 rw[hok,hB2,hT2]
 clear hmay hok hB2 hT2
 have HB:=Z0 hB; clear hB
 have HT:=Z0 hT; clear hT
 have d1:decide ((21:Int)<e)=false:=by simp; omega
 have d2:decide ((4095:Int)<b)=false:=by simp; omega
 have d3:decide ((4095:Int)<t)=false:=by simp; omega
 obtain⟨q,hq⟩:∃ q,c/2^e=q:=⟨_,rfl⟩
 have hql:q<4294967296:=by rw[← hq]; exact Nat.lt_of_le_of_lt (Nat.div_le_self _ _) hc
 have hqi:(c:Int)/2^e=(q:Int):=by rw[← hq]; simp
 have hmb:=Zub q hql
 obtain⟨m,hm⟩:∃ m,q%4096=m:=⟨_,rfl⟩
 have hml:m<4096:=by omega
 have heb:=ZqZ b hb
 obtain⟨edge,hed⟩:∃ k,ZbP b=k:=⟨_,rfl⟩
 have hel:edge<4096:=by rw[← hed]; unfold ZbP; omega
 have ht:=Zba m edge
 have HH:Hid (Zf7 e b c=(q:Int)/4096-(JD m edge:Nat)):=by
  show _=_
  unfold Zf7; rw[hq,hm,hed]; omega
 rw[hm] at hmb
 rw[hed] at heb
 have HQ:=Z0 hq; clear hq
 have HM:=Z0 hm; clear hm
 have HE:=Z0 hed; clear hed
 have ht2:(0:Int)≤(JD m edge:Nat)∧((JD m edge:Nat):Int)≤1:=by omega
 go_enter Tryz.func173,Tryz.ntmps173
 go_wp2_with fail
 refine(Zny m edge _ _ (by simp[go_sem])).mono ?_
 rintro e' w' ⟨rfl,rfl⟩
 go_wp2_with fail
 refine(ZwD b b e c _ B edge HB.out HH.out HE.out _ _ _ ⟨w.heap.size+1+1,0,none⟩ _ (by omega) he hc ?_ ?_ ?_ ?_).mono ?_
 ·simp[go_sem]
 ·simp[go_sem]
 ·simp[go_sem]
 ·simp[go_sem]
 rintro e' w' ⟨rfl,m1,rfl⟩
 go_wp2_with fail
 refine(ZwD t b e c _ T edge HT.out HH.out HE.out _ _ _ ⟨w.heap.size+1+1,0,none⟩ _ (by omega) he hc ?_ ?_ ?_ ?_).mono ?_
 ·simp[go_sem]
 ·simp[go_sem]
 ·simp[go_sem]
 ·simp[go_sem]
 rintro e' w' ⟨rfl,m2,rfl⟩
 go_wp2_with fail
 by_cases c1:0≤B
 ·by_cases c2:B≤T
  ·go_region
   go_wp2
   refine bodyPost_ret (v:=.tuple #[.agg #[.int .i64 B,.int .i64 T],.bool (decide (T≤4294967296))]) (by simp[results,Tryz.results173,go_sem]<;>rfl) rfl ⟨?_,?_⟩
   ·simp[c1,c2]
   ·(repeat (first|exact Below.refl _ _|refine Below.drew ?_|refine ZA ?_ _|refine Below.alloc ?_ (by simp<;>omega) _|refine Below.setCell ?_ (by simp<;>omega) _))
  ·have d4:decide (B≤T)=false:=by simpa using c2
   go_region
   go_wp2
   refine bodyPost_ret (v:=.tuple #[.agg #[.int .i64 B,.int .i64 T],.bool false]) (by simp[results,Tryz.results173,go_sem]<;>rfl) rfl ⟨?_,?_⟩
   ·simp
   ·(repeat (first|exact Below.refl _ _|refine Below.drew ?_|refine ZA ?_ _|refine Below.alloc ?_ (by simp<;>omega) _|refine Below.setCell ?_ (by simp<;>omega) _))
 ·have d4:decide (0≤B)=false:=by simpa using c1
  go_region
  go_wp2
  refine bodyPost_ret (v:=.tuple #[.agg #[.int .i64 B,.int .i64 T],.bool false]) (by simp[results,Tryz.results173,go_sem]<;>rfl) rfl ⟨?_,?_⟩
  ·simp
  ·(repeat (first|exact Below.refl _ _|refine Below.drew ?_|refine ZA ?_ _|refine Below.alloc ?_ (by simp<;>omega) _|refine Below.setCell ?_ (by simp<;>omega) _))
theorem Zjw (e b t c:Nat) (w:World) (he:e<256) (hb:b<65536) (ht:t<65536) (hc:c<4294967296) :
  Calls Tryz.prog 173 #[.int .u8 e,.int .u16 b,.int .u16 t,.int .u32 c] w fun e' w'=>e' = .returned (.tuple #[.agg #[.int .i64 (WT e b t c),.int .i64 (Va e b t c)],.bool (Xn e b t c)])∧Below w.heap.size w w':=by
 by_cases h:ZkO e b t=true
 ·obtain⟨h1,h2,h3⟩:=ZkP h
  exact Zud e b t c w h1 h2 h3 hc
 ·have h':ZkO e b t=false:=by simpa using h
  have e1:WT e b t c=0:=by unfold WT; rw[if_neg h]
  have e2:Va e b t c=0:=by unfold Va; rw[if_neg h]
  have e3:Xn e b t c=false:=by unfold Xn; rw[h']; rfl
  rw[e1,e2,e3]
  exact ZxK e b t c w h' hb ht he
theorem ZkS {a b c d:Value} {x y:Bool} (h:x=y):Ending.returned (.tuple #[a,b,c,.bool x,d]) = .returned (.tuple #[a,b,c,.bool y,d]):=by rw[h]
theorem Znz (u t:Nat):((u:Int)==(t:Int))=decide (u=t):=by
 rw[Bool.eq_iff_iff]; simp; omega
theorem WU {fn:Func} {t u v x y:Tmp} (h:fn.results = #[.tmp t,.tmp u,.tmp v,.tmp x,.tmp y]) (tmps:Array Value) (P:Program) (w:World) :
  (results fn tmps).run P w = .ok (.tuple #[tmps.getD t undef,tmps.getD u undef,tmps.getD v undef,tmps.getD x undef,tmps.getD y undef]) w:=by simp[results,h]
theorem ZdH (b t e:Nat) (w:World) (hb:b<4294967296) (ht:t≤4294967296) (he:e≤21) :
  Calls Tryz.prog 128 #[.int .u32 b,.int .u64 t,.int .i64 e] w fun e' w'=>e' = .returned (.tuple #[.int .u64 (dnN b e),.int .u64 (upN t e)])∧w=w':=by
 have hp:=Vy he
 have h0:=Xh e
 have hlw:=Zuc he
 have a1:=ZkR b e (by omega) he
 have a2:=ZkR (t+(2^e-1)) e (by omega) he
 obtain⟨lo,hlo⟩:∃ lo,2^e-1=lo:=⟨_,rfl⟩
 have hlb:lo≤2097151:=by omega
 unfold dnN upN
 rw[hlo] at hlw a1 a2 ⊢
 have A1:=Z0 a1
 have A2:=Z0 a2
 clear a1 a2 hlo hp h0
 go_enter Tryz.func128,Tryz.ntmps128
 go_wp2
 go_ret2
 exact⟨Zq0 A1.out A2.out,rfl⟩
theorem ZnA (b t:Nat) (w:World) (hb:b<4294967296) (ht:t<18446744073709551616) (h:QF b t=false) :
  Calls Tryz.prog 126 #[.int .u32 b,.int .u64 t] w fun e' w'=>e' = .returned (.bool false)∧w=w':=by
 have hcase:(t:Int)<b∨((b:Int)≤t∧(4294967296:Int)<t):=by
  simp only[QF,Bool.and_eq_false_iff,decide_eq_false_iff_not] at h; omega
 rcases hcase with h1|⟨h1,h2⟩
 ·have d1:decide ((b:Int)≤t)=false:=by simp; omega
  go_enter Tryz.func126,Tryz.ntmps126
  go_wp2
  go_ret
  exact⟨rfl,rfl⟩
 ·have d1:decide ((t:Int)≤4294967296)=false:=by simp; omega
  go_enter Tryz.func126,Tryz.ntmps126
  go_wp2
  go_ret
  exact⟨rfl,rfl⟩
theorem Zg0 (b t:Nat) (w:World) (h1:b≤t) (h2:t≤4294967296) :
  Calls Tryz.prog 126 #[.int .u32 b,.int .u64 t] w fun e' w'=>e' = .returned (.bool true)∧w=w':=by
 have d1:(b:Int)≤t:=by omega
 have d2:(t:Int)≤4294967296:=by omega
 have d3:decide ((t:Int)≤4294967296)=true:=by simpa using d2
 go_enter Tryz.func126,Tryz.ntmps126
 go_wp2
 go_ret
 exact⟨by first|rfl|simp[d2],rfl⟩
theorem ZfH (b t:Nat) (w:World) (hb:b<4294967296) (hbt:b≤t) (ht:t≤4294967296) :
  Calls Tryz.prog 127 #[.int .u32 b,.int .u64 t] w fun e' w'=>e' = .returned (.int .i64 (Z2 b t))∧w=w':=by
 go_enter Tryz.func127,Tryz.ntmps127
 go_wp2
 go_loop [8] (fun i=>∃ k:Nat,k≤21∧i = .int .i64 k∧Hid (Z2 b t=Xi b t (21-k) k)) (fun i=>(21-intOf i).toNat)
 case atStart=>exact⟨0,by omega,rfl,rfl⟩
 case round =>
  obtain⟨k,hk,rfl,HE⟩:=hrel
  by_cases h0:k<21
  ·have hd1:=ZkQ b k
   have hd2:=Zmk t k
   have hd3:=ZqX t k
   have hp:=Vy hk
   have hle:dnN b k≤upN t k:=by omega
   have hul:upN t k≤4294967296+2097152:=by omega
   have hpw:u64.wrap ((2048:Int)*2^k)=((2048*2^k:Nat):Int):=by
    rw[IntKind.wrap_u64,show((2:Int)^k)=((2^k:Nat):Int) by simp]; omega
   obtain⟨p,hpp⟩:∃ p,2048*2^k=p:=⟨_,rfl⟩
   obtain⟨d,hd⟩:∃ d,dnN b k=d:=⟨_,rfl⟩
   obtain⟨u,hu⟩:∃ u,upN t k=u:=⟨_,rfl⟩
   have hra:=fun W=>ZdH b t k W hb ht hk
   have HF:Hid (Jo b t k=decide (u-d≤p)):=by show _=_; unfold Jo; rw[hpp,hd,hu]
   rw[hd,hu] at hra hle
   rw[hu] at hul
   rw[hpp] at hpw
   have HRA:=Z0 hra
   clear hra hpp hd hu hd1 hd2 hd3 hp
   by_cases hf:(u:Int)-d≤p
   ·go_wp2_with (go_at_call 128; refine(HRA.out _).mono ?_; rintro e' w' ⟨rfl,rfl⟩)
    go_ret
    refine⟨Zjs ?_,rfl⟩
    have hft:Jo b t k=true:=by rw[HF.out]; simp; omega
    rw[HE.out,show 21-k=(20-k)+1 by omega,Xi,if_pos hft]
   ·go_wp2_with (go_at_call 128; refine(HRA.out _).mono ?_; rintro e' w' ⟨rfl,rfl⟩)
    have hft:Jo b t k=false:=by rw[HF.out]; simp; omega
    have HT:Hid (Z2 b t=Xi b t (21-(k+1)) (k+1)):=by
     show _=_
     rw[HE.out,show 21-k=(21-(k+1))+1 by omega,Xi,hft]; rfl
    go_round
    case rel=>exact⟨k+1,by omega,by go_num,HT⟩
    case measure=>simp[intOf]; omega
  ·go_wp2
   go_ret
   obtain rfl:k=21:=by omega
   exact⟨Zjs (by rw[HE.out]; rfl),rfl⟩
def Zc6 (b t:Nat):Nat:=if QF b t then Z2 b t else 0
def ZdI (b t:Nat):Nat:=if QF b t then b/2^Z2 b t%4096 else 0
def ZdJ (b t:Nat):Nat:=if QF b t then upN t (Z2 b t)/2^Z2 b t%4096 else 0
def ZkT (b t:Nat):Bool:=QF b t&&decide (dnN b (Z2 b t)=b)&&decide (upN t (Z2 b t)=t)
theorem K2 {b t:Nat} (h:QF b t=true):b≤t∧t≤4294967296:=by
 simpa [QF] using h
theorem Zfr (b t:Nat) (w:World) (hb:b<4294967296) (ht:t<18446744073709551616) :
  Calls Tryz.prog 69 #[.int .u32 b,.int .u64 t] w fun e' w'=>e' = .returned (.tuple #[.int .u8 (Zc6 b t),.int .u16 (ZdI b t),.int .u16 (ZdJ b t),.bool (ZkT b t),.bool (QF b t)])∧∃ m,w'=w.drewN m:=by
 by_cases hr:QF b t=true
 ·obtain⟨h1,h2⟩:=K2 hr
  unfold Zc6 ZdI ZdJ ZkT
  rw[hr,if_pos rfl,if_pos rfl,if_pos rfl]
  have hex:=fun W=>ZfH b t W hb h1 h2
  have hk:=Zb9 b t
  have hra:=fun W=>ZdH b t (Z2 b t) W hb h2 hk
  obtain⟨k,hkk⟩:∃ k,Z2 b t=k:=⟨_,rfl⟩
  rw[hkk] at hk hex hra ⊢
  have hd1:=ZkQ b k
  have hd3:=ZqX t k
  have hp:=Vy hk
  obtain⟨x,hx⟩:∃ x,b/2^k=x:=⟨_,rfl⟩
  have hdx:=ZwC b k
  rw[hx] at hdx ⊢
  obtain⟨d,hd⟩:∃ d,dnN b k=d:=⟨_,rfl⟩
  obtain⟨u,hu⟩:∃ u,upN t k=u:=⟨_,rfl⟩
  rw[hd] at hdx hd1 hra ⊢
  rw[hu] at hd3 hra ⊢
  obtain⟨y,hy⟩:∃ y,u/2^k=y:=⟨_,rfl⟩
  rw[hy]
  have hxl:x<4294967296:=by rw[← hx]; exact Nat.lt_of_le_of_lt (Nat.div_le_self _ _) hb
  have hyl:y≤4297064448:=by rw[← hy]; exact Nat.le_trans (Nat.div_le_self _ _) (by omega)
  have i1:(d:Int)/2^k=(x:Int):=by rw[← hdx]; simp
  have i2:(u:Int)/2^k=(y:Int):=by rw[← hy]; simp
  have i3:=Ziq x (by omega)
  have i4:=Ziq y (by omega)
  obtain⟨xm,hxm⟩:∃ m,x%4096=m:=⟨_,rfl⟩
  obtain⟨ym,hym⟩:∃ m,y%4096=m:=⟨_,rfl⟩
  have hxml:xm<4096:=by omega
  have hyml:ym<4096:=by omega
  rw[hxm] at i3 ⊢
  rw[hym] at i4 ⊢
  have HX:=Z0 hex
  have HRA:=Z0 hra
  clear hkk hx hdx hd hu hy hxl hyl hxm hym hp hd1 hd3 hex hra hr
  by_cases c1:d=b
  ·have d1:((d:Int)==b)=true:=by rw[c1]; simp
   have C1:=Z0 c1
   clear c1
   go_enter Tryz.func69,Tryz.ntmps69
   go_wp2_with (first
    | (go_at_call 126; refine(Zg0 b t _ h1 h2).mono ?_; rintro e' w' ⟨rfl,rfl⟩)
    | (go_at_call 127; refine(HX.out _).mono ?_; rintro e' w' ⟨rfl,rfl⟩)
    | (go_at_call 128; refine(HRA.out _).mono ?_; rintro e' w' ⟨rfl,rfl⟩))
   go_quiet (fail)
   go_wp2
   refine bodyPost_ret (WU rfl _ _ _) rfl ⟨?_,_,rfl⟩
   have c:=C1.out
   simp only[c,decide_true,Bool.true_and]
   exact ZkS (Znz u t)
  ·have d1:((d:Int)==b)=false:=by simp; omega
   have C1:=Z0 c1
   clear c1
   go_enter Tryz.func69,Tryz.ntmps69
   go_wp2_with (first
    | (go_at_call 126; refine(Zg0 b t _ h1 h2).mono ?_; rintro e' w' ⟨rfl,rfl⟩)
    | (go_at_call 127; refine(HX.out _).mono ?_; rintro e' w' ⟨rfl,rfl⟩)
    | (go_at_call 128; refine(HRA.out _).mono ?_; rintro e' w' ⟨rfl,rfl⟩))
   go_quiet (fail)
   go_wp2
   refine bodyPost_ret (WU rfl _ _ _) rfl ⟨?_,_,rfl⟩
   have c:=C1.out
   simp only[c,decide_false,Bool.and_false,Bool.false_and]
   rfl
 ·have hr':QF b t=false:=by simpa using hr
  unfold Zc6 ZdI ZdJ ZkT
  rw[hr',if_neg (by simp),if_neg (by simp),if_neg (by simp)]
  have HR:=Z0 hr'
  clear hr hr'
  go_enter Tryz.func69,Tryz.ntmps69
  go_wp2_with (go_at_call 126; refine(ZnA b t _ hb ht HR.out).mono ?_; rintro e' w' ⟨rfl,rfl⟩)
  refine bodyPost_ret (WU rfl _ _ _) rfl ⟨rfl,0,rfl⟩
theorem Zq1 (b t:Nat) (w:World) (hb:b<4294967296) (ht:t<18446744073709551616) :
  Calls Tryz.prog 176 #[.int .u32 b,.int .u64 t] w fun e' w'=>e' = .returned (.tuple #[.int .u32 (if QF b t then dnN b (Z2 b t) else 0:Nat),.int .u64 (if QF b t then upN t (Z2 b t) else 0:Nat),.bool (QF b t)])∧w=w':=by
 by_cases hr:QF b t=true
 ·obtain⟨h1,h2⟩:=K2 hr
  rw[hr,if_pos rfl,if_pos rfl]
  have hex:=fun W=>ZfH b t W hb h1 h2
  have hk:=Zb9 b t
  have hra:=fun W=>ZdH b t (Z2 b t) W hb h2 hk
  obtain⟨k,hkk⟩:∃ k,Z2 b t=k:=⟨_,rfl⟩
  rw[hkk] at hk hex hra ⊢
  have hd1:=ZkQ b k
  obtain⟨d,hd⟩:∃ d,dnN b k=d:=⟨_,rfl⟩
  obtain⟨u,hu⟩:∃ u,upN t k=u:=⟨_,rfl⟩
  rw[hd] at hd1 hra ⊢
  rw[hu] at hra ⊢
  have HX:=Z0 hex
  have HRA:=Z0 hra
  clear hkk hd hu hex hra hr
  go_enter Tryz.func176,Tryz.ntmps176
  go_wp2_with (first
    | (go_at_call 126; refine(Zg0 b t _ h1 h2).mono ?_; rintro e' w' ⟨rfl,rfl⟩)
    | (go_at_call 127; refine(HX.out _).mono ?_; rintro e' w' ⟨rfl,rfl⟩)
    | (go_at_call 128; refine(HRA.out _).mono ?_; rintro e' w' ⟨rfl,rfl⟩))
  go_ret3
  exact⟨rfl,rfl⟩
 ·have hr':QF b t=false:=by simpa using hr
  rw[hr',if_neg (by simp),if_neg (by simp)]
  have HR:=Z0 hr'
  clear hr hr'
  go_enter Tryz.func176,Tryz.ntmps176
  go_wp2_with (go_at_call 126; refine(ZnA b t _ hb ht HR.out).mono ?_; rintro e' w' ⟨rfl,rfl⟩)
  go_ret3
  exact⟨rfl,rfl⟩
theorem Zf8 {P:Program} (d:Nat) (t e:TypeId) (i:TypeInfo) (k k':IntKind) (ht:P.underlying t=some (.array 2 e)) (he:P.underlying e=some (.int k')) (hi:P.info? e=some i) (hsz:i.size=1) (a b c f:Int) (w:World) :
  (Op.equalIn (d+2) t (.agg #[.int k a,.int k b]) (.agg #[.int k c,.int k f])).run P w = .ok (a==c&&b==f) w:=by
 have hp1:∀ (x y:Value) W,(part e #[x,y] 0).run P W = .ok x W:=fun x y W=>by simp[part,isAgg,run_underlying he]
 have hp2:∀ (x y:Value) W,(part e #[x,y] 1).run P W = .ok y W:=fun x y W=>by simp[part,isAgg,run_underlying he]
 have he2:∀ (x y:Int) W,(Op.equalIn (d+1) e (.int k x) (.int k y)).run P W = .ok (x==y) W:=fun x y W=>run_equalIn_int W d e k k' x y he
 unfold Op.equalIn
 simp only[Sem.run_bind,run_underlying ht,Result.andThen_ok,sizeOf,typeInfo,Std.Legacy.Range.forIn_eq_forIn_range',Std.Legacy.Range.size]
 simp[hi,hsz,List.range',hp1,hp2,he2]
 by_cases h1:a=c<;>by_cases h2:b=f<;>simp[h1,h2]
theorem Zue:(Tryz.prog.info? 2).map (fun i=>(i.zero,i.size,i.bytes))=some (some (.int .i64 0),1,8):=by kernel_rfl
def XL (e b t c:Nat):Nat×Nat:=if Xn e b t c=true∧WT e b t c≠4294967296 then((WT e b t c).toNat,(Va e b t c).toNat) else(0,0)
def Ui (e b t c n:Nat):Bool:=Xn e b t c&&decide (WT e b t c=WT e b t n)&&decide (Va e b t c=Va e b t n)
theorem ZdK {e b t c:Nat} (h:Xn e b t c=true):0≤WT e b t c∧WT e b t c≤Va e b t c∧Va e b t c≤4294967296:=by
 simp only[Xn,Bool.and_eq_true,decide_eq_true_eq] at h
 exact⟨h.1.1.2,h.1.2,h.2⟩
theorem Zo5 (e b t c:Nat) (w:World) (he:e<256) (hb:b<65536) (ht:t<65536) (hc:c<4294967296) :
  Calls Tryz.prog 152 #[.int .u8 e,.int .u16 b,.int .u16 t,.int .u32 c] w fun e' w'=>e' = .returned (.tuple #[.int .u32 (XL e b t c).1,.int .u64 (XL e b t c).2])∧Below w.heap.size w w':=by
 have hta:=fun W=>Zjw e b t c W he hb ht hc
 by_cases h1:Xn e b t c=true
 ·obtain⟨k0,k1,k2⟩:=ZdK h1
  obtain⟨B,hB⟩:∃ B:Nat,WT e b t c=B:=⟨(WT e b t c).toNat,by omega⟩
  obtain⟨T,hT⟩:∃ T:Nat,Va e b t c=T:=⟨(Va e b t c).toNat,by omega⟩
  simp only[h1,hB,hT] at hta
  rw[hB,hT] at k1
  rw[hT] at k2
  by_cases h2:(B:Int)=4294967296
  ·have hd:XL e b t c=(0,0):=by unfold XL; rw[if_neg (by rw[hB]; exact fun h=>h.2 h2)]
   rw[hd]
   have h3:((B:Int)==4294967296)=true:=by simpa using h2
   have HTA:=Z0 hta
   clear hta h2 k0 k1 k2 h1 hB hT hd
   go_enter Tryz.func152,Tryz.ntmps152
   go_wp2_with (go_at_call 173; refine(HTA.out _).mono ?_; rintro e' w1 ⟨rfl,hb1⟩; have HB1:=Z0 hb1; clear hb1)
   go_ret2
   exact⟨rfl,HB1.out.alloc HB1.out.size _⟩
  ·have hd:XL e b t c=(B,T):=by unfold XL; rw[if_pos ⟨h1,by rw[hB]; exact h2⟩,hB,hT]; rfl
   rw[hd]
   have h3:((B:Int)==4294967296)=false:=by simpa using h2
   have HTA:=Z0 hta
   have k3:(B:Int)<4294967296:=by omega
   clear hta h2 h1 hB hT hd
   go_enter Tryz.func152,Tryz.ntmps152
   go_wp2_with (go_at_call 173; refine(HTA.out _).mono ?_; rintro e' w1 ⟨rfl,hb1⟩; have HB1:=Z0 hb1; clear hb1)
   go_quiet (fail)
   go_wp2
   go_ret2
   exact⟨rfl,ZA (HB1.out.alloc HB1.out.size _) _⟩
 ·have h1':Xn e b t c=false:=by simpa using h1
  have hd:XL e b t c=(0,0):=by unfold XL; rw[if_neg (fun h=>h1 h.1)]
  rw[hd]
  simp only[h1'] at hta
  have HTA:=Z0 hta
  clear hta h1 h1' hd
  go_enter Tryz.func152,Tryz.ntmps152
  go_wp2_with (go_at_call 173; refine(HTA.out _).mono ?_; rintro e' w1 ⟨rfl,hb1⟩; have HB1:=Z0 hb1; clear hb1)
  go_ret2
  exact⟨rfl,HB1.out.alloc HB1.out.size _⟩
theorem Zq2 (e b t c n:Nat) (w:World) (he:e<256) (hb:b<65536) (ht:t<65536) (hc:c<4294967296) (hn:n<4294967296) :
  Calls Tryz.prog 135 #[.int .u8 e,.int .u16 b,.int .u16 t,.int .u32 c,.int .u32 n] w fun e' w'=>e' = .returned (.bool (Ui e b t c n))∧Below w.heap.size w w':=by
 have hta:=fun W=>Zjw e b t c W he hb ht hc
 have htb:=fun W=>Zjw e b t n W he hb ht hn
 unfold Ui
 obtain⟨B,hB⟩:∃ B,WT e b t c=B:=⟨_,rfl⟩
 obtain⟨T,hT⟩:∃ T,Va e b t c=T:=⟨_,rfl⟩
 obtain⟨B',hB'⟩:∃ B,WT e b t n=B:=⟨_,rfl⟩
 obtain⟨T',hT'⟩:∃ T,Va e b t n=T:=⟨_,rfl⟩
 obtain⟨k,hk⟩:∃ k,Xn e b t c=k:=⟨_,rfl⟩
 obtain⟨k',hk'⟩:∃ k,Xn e b t n=k:=⟨_,rfl⟩
 rw[hB,hT,hk] at hta
 rw[hB',hT',hk'] at htb
 rw[hB,hT,hB',hT',hk]
 have HTA:=Z0 hta
 have HTB:=Z0 htb
 obtain⟨i0,hi,hz0,hz1,hz2⟩:=info_parts Zue
 have heq:=fun(x y:Int) W=>Zf8 (P:=Tryz.prog) 9998 189 2 i0 .i64 .i64 Tryz.underlying189 Tryz.underlying2 hi hz1 B T x y W
 clear hz0 hz1 hz2 hi
 clear hta htb hB hT hB' hT' hk hk'
 rcases k with _|_
 ·go_enter Tryz.func135,Tryz.ntmps135
  go_wp2_with fail
  refine(HTA.out _).mono ?_
  rintro e' w1 ⟨rfl,hb1⟩
  have HB1:=Z0 hb1; clear hb1
  go_wp2_with fail
  refine(HTB.out _).mono ?_
  rintro e' w2 ⟨rfl,hb2⟩
  have HB2:=Z0 hb2; clear hb2
  go_wp2
  go_ret
  exact⟨rfl,(((HB1.out.alloc HB1.out.size _).trans (HB2.out.mono (by have:=HB1.out.size; simp; omega))).alloc (by have:=HB1.out.size; have:=HB2.out.size; simp at this; omega) _)⟩
 ·go_enter Tryz.func135,Tryz.ntmps135
  go_wp2_with fail
  refine(HTA.out _).mono ?_
  rintro e' w1 ⟨rfl,hb1⟩
  have HB1:=Z0 hb1; clear hb1
  go_wp2_with fail
  refine(HTB.out _).mono ?_
  rintro e' w2 ⟨rfl,hb2⟩
  have f0:w2.cell? ⟨w1.heap.size,0,none⟩=some (.int .i64 B):=(hb2.cell (p:=⟨w1.heap.size,0,none⟩) (by simp)).trans (cell_of_row _ _ 0 _ _ _ (heap_alloc_new w1 _))
  have f1:w2.cell? ⟨w1.heap.size,1,none⟩=some (.int .i64 T):=(hb2.cell (p:=⟨w1.heap.size,1,none⟩) (by simp)).trans (cell_of_row _ _ 1 _ _ _ (heap_alloc_new w1 _))
  have hs:w1.heap.size<w2.heap.size:=by have:=hb2.size; simp at this; omega
  have HB2:=Z0 hb2; clear hb2
  go_wp2
  go_ret
  refine⟨XC ?_,(((HB1.out.alloc HB1.out.size _).trans (HB2.out.mono (by have:=HB1.out.size; simp; omega))).alloc (by have:=HB1.out.size; have:=HB2.out.size; simp at this; omega) _)⟩
  simp[Bool.beq_eq_decide_eq]
theorem Blk.new2 (w:World) (o:Obj) (t:TypeId) (cs:Array Value):Blk ((w.alloc o).alloc (.cells cs t)) (w.heap.size+1) t cs:=by
 have:=Blk.new (w.alloc o) t cs
 rwa [show(w.alloc o).heap.size=w.heap.size+1 by simp] at this
theorem Blk.new1 (w:World) (o:Obj) (t:TypeId) (cs:Array Value):Blk ((w.alloc (.cells cs t)).alloc o) w.heap.size t cs:=(Blk.new w t cs).alloc o
def Zbq (b t a s:Nat):Bool:=decide (b≤a)&&decide (a+s≤t)
def Zqa (p q:Nat):Bool:=decide (p&&&q=p)
def inN (b t l h:Nat):Bool:=decide (t≤b)||(decide (l≤b)&&decide (t≤h))
theorem Zo6 {p q:Nat} (hp:p<65536) (hq:q<65536):(p&&&(65535-q)=0)↔p&&&q=p:=by
 have h1:65535-q=q ^^^ 65535:=by
  refine Nat.eq_of_testBit_eq fun i => ?_
  rw[Nat.testBit_xor,show 65535-q=2^16-(q+1) by omega,Nat.testBit_two_pow_sub_succ (by omega),show 65535=2^16-1 by rfl,Nat.testBit_two_pow_sub_one]
  by_cases hi:i<16
  ·simp[hi]
  ·have:q.testBit i=false:=Nat.testBit_lt_two_pow (Nat.lt_of_lt_of_le hq (Nat.pow_le_pow_right (n:=2) (i:=16) (by omega) (by omega)))
   simp[hi,this]
 have hb:∀ i,16≤i→p.testBit i=false:=fun i hi=>Nat.testBit_lt_two_pow (Nat.lt_of_lt_of_le hp (Nat.pow_le_pow_right (n:=2) (i:=16) (by omega) hi))
 constructor
 ·intro h
  refine Nat.eq_of_testBit_eq fun i => ?_
  have hi:=congrArg (fun n=>n.testBit i) h
  simp only[h1,Nat.testBit_and,Nat.testBit_xor,show 65535=2^16-1 by rfl,Nat.testBit_two_pow_sub_one,Nat.zero_testBit] at hi
  rw[Nat.testBit_and]
  by_cases h16:i<16
  ·simp only[h16,decide_true] at hi
   cases hpb:p.testBit i<;>cases hqb:q.testBit i<;>simp_all
  ·rw[hb i (by omega)]; rfl
 ·intro h
  refine Nat.eq_of_testBit_eq fun i => ?_
  have hi:=congrArg (fun n=>n.testBit i) h
  simp only[Nat.testBit_and] at hi
  simp only[h1,Nat.testBit_and,Nat.testBit_xor,show 65535=2^16-1 by rfl,Nat.testBit_two_pow_sub_one,Nat.zero_testBit]
  by_cases h16:i<16
  ·cases hpb:p.testBit i<;>cases hqb:q.testBit i<;>simp_all
  ·rw[hb i (by omega)]; rfl
theorem ZxL {p q:Nat} (hp:p<65536) (hq:q<65536):(bits .andNot .u16 (p:Int) (q:Int)==0)=Zqa p q:=by
 rw[u16_andNot_nat p q hp hq,Bool.eq_iff_iff]
 unfold Zqa
 rw[decide_eq_true_eq,← Zo6 hp hq]
 simp<;>omega
def Zjx (aC aE aB aT aP aY aR:Nat) (aV:Bool) (bC bE bB bT bP bY bR:Nat) (bV:Bool):Bool:=decide (aC=bC)&&(decide (aE=bE)&&(decide (aB=bB)&&(decide (aT=bT)&&(decide (aP=bP)&&(decide (aY=bY)&&(decide (aR=bR)&&(aV==bV)))))))
def Zbb (aC aE aB aT aP aY aR:Nat):Prop:=aC<4294967296∧aE<256∧aB<65536∧aT<65536∧aP<65536∧aY<65536∧aR<4294967296
theorem ZkU (e b t c:Nat):(XL e b t c).1<4294967296∧(XL e b t c).2≤4294967296∧(XL e b t c).1≤(XL e b t c).2:=by
 unfold XL
 split
 ·rename_i h
  have h1:=ZdK h.1
  have h2:=h.2
  simp only
  omega
 ·simp
theorem capU:Tryz.prog.underlying 30=some (.struct (Tryz.prog.fieldsOf 30)):=by kernel_rfl
theorem ZtK:Tryz.prog.stoodInHeld 30=false:=by kernel_rfl
attribute [local go_sem ↓] Go.wp_at_zero Go.wp_at_succ
theorem Zq3 (aC aE aB aT aP aY aR:Nat) (aV:Bool) (bC bE bB bT bP bY bR:Nat) (bV:Bool) (W:World):(binOp .eql 30 (.agg #[.int .u32 aC,.int .u8 aE,.int .u16 aB,.int .u16 aT,.int .u16 aP,.int .u16 aY,.int .u32 aR,.bool aV]) (.agg #[.int .u32 bC,.int .u8 bE,.int .u16 bB,.int .u16 bT,.int .u16 bP,.int .u16 bY,.int .u32 bR,.bool bV])).run Tryz.prog W = .ok (.bool (Zjx aC aE aB aT aP aY aR aV bC bE bB bT bP bY bR bV)) W:=by
 rw[run_eql_struct,run_equalIn_agg W 9999 _ _ _ capU ZtK]
 simp[go_sem,Program.fieldsOf,Tryz.underlying30,Op.eqFields,Int.natCast_inj]
 repeat' split
 all_goals simp_all [Zjx]
theorem ZkV (cC cE cB cT cP cY cR:Nat) (cV:Bool) (w:World) (cl:Zbb cC cE cB cT cP cY cR) :
  Calls Tryz.prog 76 #[.agg #[.int .u32 cC,.int .u8 cE,.int .u16 cB,.int .u16 cT,.int .u16 cP,.int .u16 cY,.int .u32 cR,.bool cV]] w fun e' w'=>e' = .returned (.tuple #[.int .u32 (XL cE cB cT cC).1,.int .u64 (XL cE cB cT cC).2])∧Below w.heap.size w w':=by
 have HD:Hid (∀ W,Calls Tryz.prog 152 #[.int .u8 cE,.int .u16 cB,.int .u16 cT,.int .u32 cC] W fun e' w'=>e' = .returned (.tuple #[.int .u32 (XL cE cB cT cC).1,.int .u64 (XL cE cB cT cC).2])∧Below W.heap.size W w'):=fun W=>Zo5 cE cB cT cC W cl.2.1 cl.2.2.1 cl.2.2.2.1 cl.1
 obtain⟨x,hx⟩:∃ x,(XL cE cB cT cC).1=x:=⟨_,rfl⟩
 obtain⟨y,hy⟩:∃ y,(XL cE cB cT cC).2=y:=⟨_,rfl⟩
 rw[hx,hy] at HD ⊢
 clear hx hy
 go_enter Tryz.func76,Tryz.ntmps76
 go_wp2_with fail
 refine(HD.out _).mono ?_
 rintro e' w1 ⟨rfl,hb1⟩
 have HB1:=Z0 hb1; clear hb1
 go_wp2
 go_ret2
 exact⟨rfl,((Below.refl _ _).alloc (Nat.le_refl _) _).trans (HB1.out.mono (by simp))⟩
theorem Zfs (a s:Nat) (w:World) (ha:a<4294967296) (hs:s<4294967296) :
  Calls Tryz.prog 68 #[.agg #[.int .u32 a,.int .u32 s]] w fun e' w'=>e' = .returned (.int .u64 ((a:Int)+s))∧Below w.heap.size w w':=by
 go_enter Tryz.func68,Tryz.ntmps68
 go_wp2
 go_ret
 exact⟨rfl,by(repeat (first|exact Below.refl _ _|refine Below.drew ?_|refine ZA ?_ _|refine Below.alloc ?_ (by simp<;>omega) _|refine Below.setCell ?_ (by simp<;>omega) _))⟩
theorem Zer (cC cE cB cT cP cY cR:Nat) (cV:Bool) (x y:Nat) (w:World) (cl:Zbb cC cE cB cT cP cY cR) (hx:(XL cE cB cT cC).1=x) (hy:(XL cE cB cT cC).2=y) :
  Calls Tryz.prog 76 #[.agg #[.int .u32 cC,.int .u8 cE,.int .u16 cB,.int .u16 cT,.int .u16 cP,.int .u16 cY,.int .u32 cR,.bool cV]] w fun e' w'=>e' = .returned (.tuple #[.int .u32 x,.int .u64 y])∧Below w.heap.size w w':=by
 rw[← hx,← hy]; exact ZkV cC cE cB cT cP cY cR cV w cl
theorem Zq4 (cC cE cB cT cP cY cR:Nat) (cV:Bool) (a s x y:Nat) (w:World) (cl:Zbb cC cE cB cT cP cY cR) (ha:a<4294967296) (hs:s<4294967296) (hx:(XL cE cB cT cC).1=x) (hy:(XL cE cB cT cC).2=y) :
  Calls Tryz.prog 100 #[.agg #[.int .u32 cC,.int .u8 cE,.int .u16 cB,.int .u16 cT,.int .u16 cP,.int .u16 cY,.int .u32 cR,.bool cV],.agg #[.int .u32 a,.int .u32 s]] w fun e' w'=>e' = .returned (.bool (Zbq x y a s))∧Below w.heap.size w w':=by
 have HR:Hid (∀ W,Calls Tryz.prog 76 #[.agg #[.int .u32 cC,.int .u8 cE,.int .u16 cB,.int .u16 cT,.int .u16 cP,.int .u16 cY,.int .u32 cR,.bool cV]] W fun e' w'=>e' = .returned (.tuple #[.int .u32 x,.int .u64 y])∧Below W.heap.size W w'):=fun W=>Zer cC cE cB cT cP cY cR cV x y W cl hx hy
 have hh:Zbq x y a s=(decide ((x:Int)≤a)&&decide ((a:Int)+s≤y)):=by
  unfold Zbq
  rw[show decide (x≤a)=decide ((x:Int)≤a) by rw[decide_eq_decide]; omega,show decide (a+s≤y)=decide ((a:Int)+s≤y) by rw[decide_eq_decide]; omega]
 rw[hh]
 clear hh hx hy
 by_cases h1:(x:Int)≤a
 ·rw[decide_eq_true h1,Bool.true_and]
  go_enter Tryz.func100,Tryz.ntmps100
  go_wp2_with fail
  refine(HR.out _).mono ?_
  rintro e' w1 ⟨rfl,hb1⟩
  obtain⟨hc1,hf1⟩:=Kk hb1
  have hz1:=hb1.size
  simp at hz1
  have HB1:=Z0 hb1; clear hb1
  go_wp2_with fail
  refine(Zfs a s _ ha hs).mono ?_
  rintro e' w2 ⟨rfl,hb2⟩
  have HB2:=Z0 hb2; clear hb2
  go_wp2
  go_ret
  exact⟨rfl,((((Below.refl _ _).alloc (Nat.le_refl _) _).alloc (by simp) _).trans (HB1.out.mono (by simp; omega))).trans (HB2.out.mono (by omega))⟩
 ·have d1:decide ((x:Int)≤a)=false:=by simpa using h1
  rw[d1,Bool.false_and]
  go_enter Tryz.func100,Tryz.ntmps100
  go_wp2_with fail
  refine(HR.out _).mono ?_
  rintro e' w1 ⟨rfl,hb1⟩
  obtain⟨hc1,hf1⟩:=Kk hb1
  have hz1:=hb1.size
  simp at hz1
  have HB1:=Z0 hb1; clear hb1
  go_wp2
  go_ret
  exact⟨rfl,(((Below.refl _ _).alloc (Nat.le_refl _) _).alloc (by simp) _).trans (HB1.out.mono (by simp; omega))⟩
attribute [local go_sem ↓] Go.wp_at_zero Go.wp_at_succ
theorem Zir (v:Nat) (w:World) (_hv:v<4294967296) :
  Calls Tryz.prog 12 #[.int .u32 v] w fun e' w'=>e' = .returned (.agg #[.int .u32 v,.int .u8 0,.int .u16 0,.int .u16 0,.int .u16 0,.int .u16 0,.int .u32 0,.bool false])∧Below w.heap.size w w':=by
 go_enter Tryz.func12,Tryz.ntmps12
 go_wp2
 refine bodyPost_ret (v:=.agg #[.int .u32 v,.int .u8 0,.int .u16 0,.int .u16 0,.int .u16 0,.int .u16 0,.int .u32 0,.bool false]) (by simp[results,Tryz.results12,go_sem]<;>rfl) rfl ⟨rfl,?_⟩
 (repeat (first|exact Below.refl _ _|refine Below.drew ?_|refine ZA ?_ _|refine Below.alloc ?_ (by simp<;>omega) _|refine Below.setCell ?_ (by simp<;>omega) _))
theorem ZkW (cC cE cB cT cP cY cR:Nat) (cV:Bool) (w:World) (hc:cC<4294967296) :
  Calls Tryz.prog 85 #[.agg #[.int .u32 cC,.int .u8 cE,.int .u16 cB,.int .u16 cT,.int .u16 cP,.int .u16 cY,.int .u32 cR,.bool cV]] w fun e' w'=>e' = .returned (.bool (Zjx cC cE cB cT cP cY cR cV cC 0 0 0 0 0 0 false))∧Below w.heap.size w w':=by
 have he:=fun W=>Zq3 cC cE cB cT cP cY cR cV cC 0 0 0 0 0 0 false W
 generalize Zjx cC cE cB cT cP cY cR cV cC 0 0 0 0 0 0 false=k at *
 simp only[Int.cast_ofNat_Int] at he
 go_enter Tryz.func85,Tryz.ntmps85
 go_wp2_with fail
 go_region_with (go_at_call 12; refine(Zir cC _ hc).mono ?_; rintro e' w1 ⟨rfl,hb1⟩; obtain⟨hc1,hf1⟩:=Kk hb1)
 all_goals
  have HB1:=Z0 hb1; clear hb1
  go_wp2
  go_ret
  exact⟨rfl,((Below.refl _ _).alloc (Nat.le_refl _) _).trans ((Kj HB1.out).mono (by show w.heap.size≤_; simp))⟩
def Kl (p q b t l h:Nat):Bool:=Zqa p q&&inN b t l h
theorem ZkX (p q b t l h:Nat):Kl p q b t l h=(Zqa p q&&(decide (t≤b)||(decide (l≤b)&&decide (t≤h)))):=rfl
theorem Zis (aC aE aB aT aP aY aR:Nat) (aV:Bool) (bC bE bB bT bP bY bR:Nat) (bV:Bool) (x y u v:Nat) (w:World) (al:Zbb aC aE aB aT aP aY aR) (bl:Zbb bC bE bB bT bP bY bR) (hx:(XL aE aB aT aC).1=x) (hy:(XL aE aB aT aC).2=y) (hu:(XL bE bB bT bC).1=u) (hv:(XL bE bB bT bC).2=v) :
  Calls Tryz.prog 49 #[.agg #[.int .u32 aC,.int .u8 aE,.int .u16 aB,.int .u16 aT,.int .u16 aP,.int .u16 aY,.int .u32 aR,.bool aV],.agg #[.int .u32 bC,.int .u8 bE,.int .u16 bB,.int .u16 bT,.int .u16 bP,.int .u16 bY,.int .u32 bR,.bool bV]] w fun e' w'=>e' = .returned (.bool (Kl aP bP x y u v))∧Below w.heap.size w w':=by
 have HA:Hid (∀ W,Calls Tryz.prog 76 #[.agg #[.int .u32 aC,.int .u8 aE,.int .u16 aB,.int .u16 aT,.int .u16 aP,.int .u16 aY,.int .u32 aR,.bool aV]] W fun e' w'=>e' = .returned (.tuple #[.int .u32 x,.int .u64 y])∧Below W.heap.size W w'):=fun W=>Zer aC aE aB aT aP aY aR aV x y W al hx hy
 have HB:Hid (∀ W,Calls Tryz.prog 76 #[.agg #[.int .u32 bC,.int .u8 bE,.int .u16 bB,.int .u16 bT,.int .u16 bP,.int .u16 bY,.int .u32 bR,.bool bV]] W fun e' w'=>e' = .returned (.tuple #[.int .u32 u,.int .u64 v])∧Below W.heap.size W w'):=fun W=>Zer bC bE bB bT bP bY bR bV u v W bl hu hv
 have hs:=ZxL al.2.2.2.2.1 bl.2.2.2.2.1
 have hxl:x<4294967296:=by rw[← hx]; exact(ZkU _ _ _ _).1
 have hul:u<4294967296:=by rw[← hu]; exact(ZkU _ _ _ _).1
 rw[ZkX]
 clear hx hy hu hv
 obtain⟨k,hk⟩:∃ k,Zqa aP bP=k:=⟨_,rfl⟩
 rw[hk] at hs ⊢
 clear hk
 cases k with
 | false =>
  rw[Bool.false_and]
  go_enter Tryz.func49,Tryz.ntmps49
  go_wp2_with fail
  refine(HA.out _).mono ?_
  rintro e' w1 ⟨rfl,hb1⟩
  obtain⟨hc1,hf1⟩:=Kk hb1
  have hz1:=hb1.size
  simp at hz1
  have HB1:=Z0 hb1
  go_wp2_with fail
  refine(HB.out _).mono ?_
  rintro e' w2 ⟨rfl,hb2⟩
  have f0:w2.cell? ⟨w.heap.size,4,none⟩=some (.int .u16 aP):=(((Blk.new1 w _ _ _).below hb1 (by simp; omega)).below hb2 (by omega)).cell 4
  have f1:w2.cell? ⟨w.heap.size+1,4,none⟩=some (.int .u16 bP):=(((Blk.new2 w _ _ _).below hb1 (by simp)).below hb2 (by omega)).cell 4
  have HB2:=Z0 hb2; clear hb2 hc1 hf1 hb1
  go_wp2
  go_ret
  exact⟨rfl,((((Below.refl _ _).alloc (Nat.le_refl _) _).alloc (by simp) _).trans (HB1.out.mono (by simp; omega))).trans (HB2.out.mono (by omega))⟩
 | true =>
  rw[Bool.true_and]
  by_cases c1:y≤x
  ·rw[decide_eq_true c1,Bool.true_or]
   go_enter Tryz.func49,Tryz.ntmps49
   go_wp2_with fail
   refine(HA.out _).mono ?_
   rintro e' w1 ⟨rfl,hb1⟩
   obtain⟨hc1,hf1⟩:=Kk hb1
   have hz1:=hb1.size
   simp at hz1
   have HB1:=Z0 hb1
   go_wp2_with fail
   refine(HB.out _).mono ?_
   rintro e' w2 ⟨rfl,hb2⟩
   have f0:w2.cell? ⟨w.heap.size,4,none⟩=some (.int .u16 aP):=(((Blk.new1 w _ _ _).below hb1 (by simp; omega)).below hb2 (by omega)).cell 4
   have f1:w2.cell? ⟨w.heap.size+1,4,none⟩=some (.int .u16 bP):=(((Blk.new2 w _ _ _).below hb1 (by simp)).below hb2 (by omega)).cell 4
   have HB2:=Z0 hb2; clear hb2 hc1 hf1 hb1
   go_wp2
   go_ret
   exact⟨rfl,((((Below.refl _ _).alloc (Nat.le_refl _) _).alloc (by simp) _).trans (HB1.out.mono (by simp; omega))).trans (HB2.out.mono (by omega))⟩
  ·have d1:decide (y≤x)=false:=by simpa using c1
   rw[d1,Bool.false_or]
   by_cases c2:u≤x
   ·rw[decide_eq_true c2,Bool.true_and]
    go_enter Tryz.func49,Tryz.ntmps49
    go_wp2_with fail
    refine(HA.out _).mono ?_
    rintro e' w1 ⟨rfl,hb1⟩
    obtain⟨hc1,hf1⟩:=Kk hb1
    have hz1:=hb1.size
    simp at hz1
    have HB1:=Z0 hb1
    go_wp2_with fail
    refine(HB.out _).mono ?_
    rintro e' w2 ⟨rfl,hb2⟩
    have f0:w2.cell? ⟨w.heap.size,4,none⟩=some (.int .u16 aP):=(((Blk.new1 w _ _ _).below hb1 (by simp; omega)).below hb2 (by omega)).cell 4
    have f1:w2.cell? ⟨w.heap.size+1,4,none⟩=some (.int .u16 bP):=(((Blk.new2 w _ _ _).below hb1 (by simp)).below hb2 (by omega)).cell 4
    have HB2:=Z0 hb2; clear hb2 hc1 hf1 hb1
    go_wp2
    go_ret
    exact⟨rfl,((((Below.refl _ _).alloc (Nat.le_refl _) _).alloc (by simp) _).trans (HB1.out.mono (by simp; omega))).trans (HB2.out.mono (by omega))⟩
   ·have d2:decide (u≤x)=false:=by simpa using c2
    rw[d2,Bool.false_and]
    go_enter Tryz.func49,Tryz.ntmps49
    go_wp2_with fail
    refine(HA.out _).mono ?_
    rintro e' w1 ⟨rfl,hb1⟩
    obtain⟨hc1,hf1⟩:=Kk hb1
    have hz1:=hb1.size
    simp at hz1
    have HB1:=Z0 hb1
    go_wp2_with fail
    refine(HB.out _).mono ?_
    rintro e' w2 ⟨rfl,hb2⟩
    have f0:w2.cell? ⟨w.heap.size,4,none⟩=some (.int .u16 aP):=(((Blk.new1 w _ _ _).below hb1 (by simp; omega)).below hb2 (by omega)).cell 4
    have f1:w2.cell? ⟨w.heap.size+1,4,none⟩=some (.int .u16 bP):=(((Blk.new2 w _ _ _).below hb1 (by simp)).below hb2 (by omega)).cell 4
    have HB2:=Z0 hb2; clear hb2 hc1 hf1 hb1
    go_wp2
    go_ret
    exact⟨rfl,((((Below.refl _ _).alloc (Nat.le_refl _) _).alloc (by simp) _).trans (HB1.out.mono (by simp; omega))).trans (HB2.out.mono (by omega))⟩
attribute [local go_sem ↓] Go.wp_at_zero Go.wp_at_succ
def XD (e b t p y r:Nat):Bool:=decide (e<22)&&decide (b<4096)&&decide (t<4096)&&decide (p<256)&&decide (y<4096)&&decide (r<16777216)
def Zg1 (f:Nat→Nat) (n:Nat):Bool:=decide (∀ k,k<n→f (2*k)<f (2*k+1))
def BelA (w wr:World) (f:Nat→Nat) (i:Value):Prop:=∃ k:Nat,k≤6∧i = .int .i64 (2*(k:Int))∧(∀ j,j<k→f (2*j)<f (2*j+1))∧∃ m,wr=w.drewN m
theorem Zq5 (g:Nat) (f:Nat→Nat) (w:World) (hc:∀ j,j<12→w.cell? ⟨g,j,none⟩=some (.int .u32 (f j))) :
  Calls Tryz.prog 97 #[.slice (some ⟨g,0,none⟩) 12 12] w fun e w'=>e = .returned (.bool (Zg1 f 6))∧∃ m,w'=w.drewN m:=by
 have HC:=Z0 hc; clear hc
 go_enter Tryz.func97,Tryz.ntmps97
 go_wp2
 go_loopw [3] (fun i wr=>BelA w wr f i) (fun i _=>12-(intOf i).toNat)
 case atStart=>exact⟨0,by omega,rfl,fun j hj=>absurd hj (by omega),0,rfl⟩
 case round =>
  obtain⟨k,hk,rfl,hall,m,rfl⟩:=hrel
  have HA:=Z0 hall; clear hall
  by_cases hlt:k<6
  ·have i1:2*(k:Int)+1<12:=by omega
   have i0:0≤2*(k:Int):=by omega
   have c0:=HC.out (2*k) (by omega)
   have c1:=HC.out (2*k+1) (by omega)
   obtain⟨x,hx⟩:∃ x,f (2*k)=x:=⟨_,rfl⟩
   obtain⟨y,hy⟩:∃ y,f (2*k+1)=y:=⟨_,rfl⟩
   rw[hx] at c0
   rw[hy] at c1
   have e0:(2*(k:Int)).toNat=2*k:=by omega
   have e1:(2*(k:Int)+1).toNat=2*k+1:=by omega
   have e2:i64.wrap (2*(k:Int)+1)=2*(k:Int)+1:=IntWalk.i64_in _ (by omega)
   have e3:0≤2*(k:Int)+1:=by omega
   have HX:=Z0 hx
   have HY:=Z0 hy
   clear hx hy
   by_cases hxy:x<y
   ·have d1:decide (y≤x)=false:=by simp; omega
    go_wp2_with fail
    go_quiet (fail)
    go_wp2
    go_roundw
    case rel=>exact⟨k+1,by omega,by first|rfl|(congr 1; omega),fun j hj=>by
      by_cases h:j<k
      ·exact HA.out j h
      ·obtain rfl:j=k:=by omega
       rw[HX.out,HY.out]; exact hxy,_,rfl⟩
    case measure=>simp[intOf]; omega
   ·have d1:decide (y≤x)=true:=by simp; omega
    go_wp2_with fail
    go_quiet (fail)
    go_wp2
    go_ret
    refine⟨XC ?_,_,World.drewN_drewN _ _ _⟩
    unfold Zg1
    symm
    rw[decide_eq_false_iff_not]
    intro h
    have:=h k hlt
    rw[HX.out,HY.out] at this
    exact hxy this
  ·obtain rfl:k=6:=by omega
   go_wp2
   go_ret
   refine⟨XC ?_,_,rfl⟩
   unfold Zg1
   symm
   rw[decide_eq_true_eq]
   exact HA.out
theorem Zmm (e b t p y r:Nat) (f:Nat→Nat) (h0:f 0=e) (h1:f 1=22) (h2:f 2=b) (h3:f 3=4096) (h4:f 4=t) (h5:f 5=4096) (h6:f 6=p) (h7:f 7=256) (h8:f 8=y) (h9:f 9=4096) (h10:f 10=r) (h11:f 11=16777216) :
  Zg1 f 6=XD e b t p y r:=by
 rw[Bool.eq_iff_iff]
 unfold Zg1 XD
 simp only[decide_eq_true_eq,Bool.and_eq_true]
 constructor
 ·intro h
  have a0:=h 0 (by omega)
  have a1:=h 1 (by omega)
  have a2:=h 2 (by omega)
  have a3:=h 3 (by omega)
  have a4:=h 4 (by omega)
  have a5:=h 5 (by omega)
  simp only[Nat.mul_zero,Nat.zero_add,Nat.mul_one,Nat.reduceMul,Nat.reduceAdd] at a0 a1 a2 a3 a4 a5
  omega
 ·intro h k hk
  have hk':k=0∨k=1∨k=2∨k=3∨k=4∨k=5:=by omega
  rcases hk' with rfl|rfl|rfl|rfl|rfl|rfl<;>simp only[Nat.mul_zero,Nat.zero_add,Nat.mul_one,Nat.reduceMul,Nat.reduceAdd]<;>omega
theorem Zg2 (cC cE cB cT cP cY cR:Nat) (cV:Bool) (w:World) (cl:Zbb cC cE cB cT cP cY cR) :
  Calls Tryz.prog 46 #[.agg #[.int .u32 cC,.int .u8 cE,.int .u16 cB,.int .u16 cT,.int .u16 cP,.int .u16 cY,.int .u32 cR,.bool cV]] w fun e' w'=>e' = .returned (.bool (XD cE cB cT cP cY cR))∧Below w.heap.size w w':=by
 obtain⟨cCl,cEl,cBl,cTl,cPl,cYl,cRl⟩:=cl
 obtain⟨f,hf⟩:∃ f:Nat→Nat,f=fun j=>[cE,22,cB,4096,cT,4096,cP,256,cY,4096,cR,16777216].getD j 0:=⟨_,rfl⟩
 have hps:=Zmm cE cB cT cP cY cR f (by rw[hf]; rfl) (by rw[hf]; rfl) (by rw[hf]; rfl) (by rw[hf]; rfl) (by rw[hf]; rfl) (by rw[hf]; rfl) (by rw[hf]; rfl) (by rw[hf]; rfl) (by rw[hf]; rfl) (by rw[hf]; rfl) (by rw[hf]; rfl) (by rw[hf]; rfl)
 have HPS:=Z0 hps
 have HF:Hid (∀ W g,Blk W g 22 #[.int .u32 cE,.int .u32 22,.int .u32 cB,.int .u32 4096,.int .u32 cT,.int .u32 4096,.int .u32 cP,.int .u32 256,.int .u32 cY,.int .u32 4096,.int .u32 cR,.int .u32 16777216]→∀ j,j<12→W.cell? ⟨g,j,none⟩=some (.int .u32 (f j))):=fun W g hb j hj=>by
  have hj':j=0∨j=1∨j=2∨j=3∨j=4∨j=5∨j=6∨j=7∨j=8∨j=9∨j=10∨j=11:=by omega
  rcases hj' with rfl|rfl|rfl|rfl|rfl|rfl|rfl|rfl|rfl|rfl|rfl|rfl<;>(rw[hf]; exact hb.cell _)
 clear hps hf
 go_enter Tryz.func46,Tryz.ntmps46
 go_wp2_with fail
 refine(Zq5 _ f _ (HF.out _ _ (Blk.new2 w _ _ _))).mono ?_
 rintro e' w1 ⟨rfl,m,rfl⟩
 go_wp2
 go_ret
 exact⟨XC HPS.out,by(repeat (first|(with_reducible exact Below.refl _ _)|(with_reducible refine Below.drew ?_)|(with_reducible refine ZA ?_ _)|(with_reducible refine Below.alloc ?_ (by simp<;>omega) _)|(with_reducible refine Below.setCell ?_ (by simp<;>omega) _)))⟩
theorem Zit (cC cE cB cT cP cY cR:Nat) (cV:Bool) (w:World) (cl:Zbb cC cE cB cT cP cY cR) :
  Calls Tryz.prog 96 #[.agg #[.int .u32 cC,.int .u8 cE,.int .u16 cB,.int .u16 cT,.int .u16 cP,.int .u16 cY,.int .u32 cR,.bool cV]] w fun e' w'=>e' = .returned (.bool (XD cE cB cT cP cY cR))∧Below w.heap.size w w':=by
 obtain⟨cCl,cEl,cBl,cTl,cPl,cYl,cRl⟩:=cl
 have hs:XD cE cB cT cP cY cR=(decide ((cE:Int)≤21)&&(decide ((cB:Int)<4096)&&(decide ((cT:Int)<4096)&&(decide ((cP:Int)≤255)&&(decide ((cY:Int)<4096)&&decide ((cR:Int)<16777216)))))):=by
  unfold XD
  rw[Bool.eq_iff_iff]
  simp only[Bool.and_eq_true,decide_eq_true_eq]
  omega
 rw[hs]
 clear hs
 by_cases c1:(cE:Int)≤21
 ·by_cases c2:(cB:Int)<4096
  ·by_cases c3:(cT:Int)<4096
   ·by_cases c4:(cP:Int)≤255
    ·by_cases c5:(cY:Int)<4096
     ·rw[decide_eq_true c1,decide_eq_true c2,decide_eq_true c3,decide_eq_true c4,decide_eq_true c5]
      simp only[Bool.true_and]
      go_enter Tryz.func96,Tryz.ntmps96
      go_wp2
      go_ret
      exact⟨rfl,by(repeat (first|(with_reducible exact Below.refl _ _)|(with_reducible refine Below.drew ?_)|(with_reducible refine ZA ?_ _)|(with_reducible refine Below.alloc ?_ (by simp<;>omega) _)|(with_reducible refine Below.setCell ?_ (by simp<;>omega) _)))⟩
     ·have d:decide ((cY:Int)<4096)=false:=by simpa using c5
      rw[d,decide_eq_true c1,decide_eq_true c2,decide_eq_true c3,decide_eq_true c4]
      simp only[Bool.true_and,Bool.false_and]
      go_enter Tryz.func96,Tryz.ntmps96
      go_wp2
      go_ret
      exact⟨rfl,by(repeat (first|(with_reducible exact Below.refl _ _)|(with_reducible refine Below.drew ?_)|(with_reducible refine ZA ?_ _)|(with_reducible refine Below.alloc ?_ (by simp<;>omega) _)|(with_reducible refine Below.setCell ?_ (by simp<;>omega) _)))⟩
    ·have d:decide ((cP:Int)≤255)=false:=by simpa using c4
     rw[d,decide_eq_true c1,decide_eq_true c2,decide_eq_true c3]
     simp only[Bool.true_and,Bool.false_and]
     go_enter Tryz.func96,Tryz.ntmps96
     go_wp2
     go_ret
     exact⟨rfl,by(repeat (first|(with_reducible exact Below.refl _ _)|(with_reducible refine Below.drew ?_)|(with_reducible refine ZA ?_ _)|(with_reducible refine Below.alloc ?_ (by simp<;>omega) _)|(with_reducible refine Below.setCell ?_ (by simp<;>omega) _)))⟩
   ·have d:decide ((cT:Int)<4096)=false:=by simpa using c3
    rw[d,decide_eq_true c1,decide_eq_true c2]
    simp only[Bool.true_and,Bool.false_and]
    go_enter Tryz.func96,Tryz.ntmps96
    go_wp2
    go_ret
    exact⟨rfl,by(repeat (first|(with_reducible exact Below.refl _ _)|(with_reducible refine Below.drew ?_)|(with_reducible refine ZA ?_ _)|(with_reducible refine Below.alloc ?_ (by simp<;>omega) _)|(with_reducible refine Below.setCell ?_ (by simp<;>omega) _)))⟩
  ·have d:decide ((cB:Int)<4096)=false:=by simpa using c2
   rw[d,decide_eq_true c1]
   simp only[Bool.true_and,Bool.false_and]
   go_enter Tryz.func96,Tryz.ntmps96
   go_wp2
   go_ret
   exact⟨rfl,by(repeat (first|(with_reducible exact Below.refl _ _)|(with_reducible refine Below.drew ?_)|(with_reducible refine ZA ?_ _)|(with_reducible refine Below.alloc ?_ (by simp<;>omega) _)|(with_reducible refine Below.setCell ?_ (by simp<;>omega) _)))⟩
 ·have d:decide ((cE:Int)≤21)=false:=by simpa using c1
  rw[d]
  simp only[Bool.false_and]
  go_enter Tryz.func96,Tryz.ntmps96
  go_wp2
  go_ret
  exact⟨rfl,by(repeat (first|(with_reducible exact Below.refl _ _)|(with_reducible refine Below.drew ?_)|(with_reducible refine ZA ?_ _)|(with_reducible refine Below.alloc ?_ (by simp<;>omega) _)|(with_reducible refine Below.setCell ?_ (by simp<;>omega) _)))⟩
attribute [local go_sem ↓] Go.wp_at_zero Go.wp_at_succ
def ZwE (b:Nat→Bool):Nat→Bool
 | 0=>true
 | k+1=>ZwE b k&&b k
structure Asked (w:World) (g n:Nat) (F:Nat→FuncId) (fi ca:Nat→Array Value) (b:Nat→Bool):Prop where
 cell:∀ j,j<n→w.cell? ⟨g,j,none⟩=some (.func (.func (F j)) (fi j) (ca j))
 calls:∀ j,j<n→∀ W,Below w.heap.size w W→Calls Tryz.prog (F j) (fi j++ca j) W fun e W'=>e = .returned (.bool (b j))∧Below W.heap.size W W'
 runs:∀ j,j<n→∀ W,(callFunc (F j) (fi j++ca j)).run Tryz.prog W = .ok (.enter (F j) (fi j++ca j)) W
 lt:g<w.heap.size
def ZEt (w wr:World) (cC cE cB cT cP cY cR:Nat) (n:Nat) (b:Nat→Bool) (i:Value):Prop :=
 ∃ k:Nat,k≤n∧i = .int .i64 k∧Blk wr w.heap.size 30 #[.int .u32 cC,.int .u8 cE,.int .u16 cB,.int .u16 cT,.int .u16 cP,.int .u16 cY,.int .u32 cR,.bool (ZwE b k)] ∧
  Blk wr (w.heap.size+1) 30 #[.int .u32 0,.int .u8 0,.int .u16 0,.int .u16 0,.int .u16 0,.int .u16 0,.int .u32 0,.bool false]∧Below w.heap.size w wr
set_option maxHeartbeats 1000000 in
theorem Zgp (cC cE cB cT cP cY cR:Nat) (cV:Bool) (g n:Nat) (F:Nat→FuncId) (fi ca:Nat→Array Value) (b:Nat→Bool) (w:World) (hn:n≤1000) (h:Asked w g n F fi ca b) :
  Calls Tryz.prog 132 #[.agg #[.int .u32 cC,.int .u8 cE,.int .u16 cB,.int .u16 cT,.int .u16 cP,.int .u16 cY,.int .u32 cR,.bool cV],.slice (some ⟨g,0,none⟩) n n] w fun e w'=>e = .returned (.agg #[.int .u32 cC,.int .u8 cE,.int .u16 cB,.int .u16 cT,.int .u16 cP,.int .u16 cY,.int .u32 cR,.bool (ZwE b n)])∧Below w.heap.size w w':=by
 have H:=Z0 h; clear h
 go_enter Tryz.func132,Tryz.ntmps132
 go_wp2
 go_loopw [10] (fun i wr=>ZEt w wr cC cE cB cT cP cY cR n b i) (fun i _=>n-(intOf i).toNat)
 case atStart=>exact⟨0,by omega,rfl,Blk.new1 w _ _ _,Blk.new2 w _ _ _,((Below.refl _ _).alloc (Nat.le_refl _) _).alloc (by simp) _⟩
 case round =>
  obtain⟨k,hk,rfl,hq1,hq2,hb⟩:=hrel
  have f7:=hq1.cell 7
  have z7:=hq1.frozen 7
  have HQ1:=Z0 hq1
  have HQ2:=Z0 hq2
  have HB:=Z0 hb
  simp at f7
  by_cases hlt:k<n
  ·have cg:=(hb.cell (p:=⟨g,k,none⟩) H.out.lt).trans (H.out.cell k hlt)
   have hrun:=H.out.runs k hlt
   have HC:=Z0 (H.out.calls k hlt wr hb)
   clear hq1 hq2 hb
   obtain⟨acc,hacc⟩:∃ a,ZwE b k=a:=⟨_,rfl⟩
   have HA:Hid (ZwE b (k+1)=(acc&&b k)):=by show _=_; rw[ZwE,hacc]
   rw[hacc] at f7 HQ1
   clear hacc
   have i1:(k:Int)<n:=by omega
   cases acc with
   | true =>
    go_wp2_with fail
    refine HC.out.mono ?_
    rintro e w2 ⟨rfl,hb2⟩
    have q1:=HQ1.out.below hb2 HQ1.out.lt
    have q2:=HQ2.out.below hb2 HQ2.out.lt
    have k2:=HB.out.trans (hb2.mono HB.out.size)
    have g7:=q1.cell 7
    have y7:=q1.frozen 7
    simp at g7
    rw[Bool.true_and] at HA
    obtain⟨r,hr⟩:∃ r,b k=r:=⟨_,rfl⟩
    rw[hr] at HA ⊢
    have R1:Hid (Blk (w2.setCell ⟨w.heap.size,7,none⟩ (.bool r)) w.heap.size 30 #[.int .u32 cC,.int .u8 cE,.int .u16 cB,.int .u16 cT,.int .u16 cP,.int .u16 cY,.int .u32 cR,.bool r]):=q1.set_ 7 _
    have R2:Hid (Blk (w2.setCell ⟨w.heap.size,7,none⟩ (.bool r)) (w.heap.size+1) 30 #[.int .u32 0,.int .u8 0,.int .u16 0,.int .u16 0,.int .u16 0,.int .u16 0,.int .u32 0,.bool false]):=q2.far (p:=⟨w.heap.size,7,none⟩) (show w.heap.size+1≠w.heap.size by omega) _
    have R3:Hid (Below w.heap.size w (w2.setCell ⟨w.heap.size,7,none⟩ (.bool r))):=k2.setCell (p:=⟨w.heap.size,7,none⟩) (Nat.le_refl _) _
    clear hb2 q1 q2 k2 hr hrun
    go_wp2
    go_roundw
    case rel=>exact⟨k+1,by omega,by go_num,by rw[HA.out]; exact R1.out,R2.out,R3.out⟩
    case measure=>simp[intOf]; omega
   | false =>
    rw[Bool.false_and] at HA
    have R1:Hid (Blk (wr.setCell ⟨w.heap.size,7,none⟩ (.bool false)) w.heap.size 30 #[.int .u32 cC,.int .u8 cE,.int .u16 cB,.int .u16 cT,.int .u16 cP,.int .u16 cY,.int .u32 cR,.bool false]):=HQ1.out.set_ 7 _
    have R2:Hid (Blk (wr.setCell ⟨w.heap.size,7,none⟩ (.bool false)) (w.heap.size+1) 30 #[.int .u32 0,.int .u8 0,.int .u16 0,.int .u16 0,.int .u16 0,.int .u16 0,.int .u32 0,.bool false]):=HQ2.out.far (p:=⟨w.heap.size,7,none⟩) (show w.heap.size+1≠w.heap.size by omega) _
    have R3:Hid (Below w.heap.size w (wr.setCell ⟨w.heap.size,7,none⟩ (.bool false))):=HB.out.setCell (p:=⟨w.heap.size,7,none⟩) (Nat.le_refl _) _
    clear hrun
    go_wp2
    go_roundw
    case rel=>exact⟨k+1,by omega,by go_num,by rw[HA.out]; exact R1.out,R2.out,R3.out⟩
    case measure=>simp[intOf]; omega
  ·obtain rfl:k=n:=by omega
   obtain⟨acc,hacc⟩:∃ a,ZwE b k=a:=⟨_,rfl⟩
   rw[hacc] at HQ1 f7
   have HACC:=Z0 hacc
   have q1:=HQ1.out
   have q2:=HQ2.out
   clear hq1 hq2 hb hacc
   have c0:=q1.cell 0
   have d0:=q2.cell 0
   have z0:=q2.frozen 0
   have c1:=q1.cell 1
   have d1:=q2.cell 1
   have z1:=q2.frozen 1
   have c2:=q1.cell 2
   have d2:=q2.cell 2
   have z2:=q2.frozen 2
   have c3:=q1.cell 3
   have d3:=q2.cell 3
   have z3:=q2.frozen 3
   have c4:=q1.cell 4
   have d4:=q2.cell 4
   have z4:=q2.frozen 4
   have c5:=q1.cell 5
   have d5:=q2.cell 5
   have z5:=q2.frozen 5
   have c6:=q1.cell 6
   have d6:=q2.cell 6
   have z6:=q2.frozen 6
   have c7:=q1.cell 7
   have d7:=q2.cell 7
   have z7:=q2.frozen 7
   simp at c0 c1 c2 c3 c4 c5 c6 c7 d0 d1 d2 d3 d4 d5 d6 d7
   clear q1 q2
   go_wp2
   refine bodyPost_ret (v:=.agg #[.int .u32 cC,.int .u8 cE,.int .u16 cB,.int .u16 cT,.int .u16 cP,.int .u16 cY,.int .u32 cR,.bool acc]) (by simp[results,Tryz.results132,go_sem,d0,d1,d2,d3,d4,d5,d6,d7]) rfl ⟨by rw[HACC.out],?_⟩
   repeat (refine Below.setCell ?_ (by simp<;>omega) _)
   exact HB.out
attribute [local go_sem ↓] Go.wp_at_zero Go.wp_at_succ
def WI (cY:Nat) (cV:Bool):Bool:=cV&&decide (cY=0)
theorem UR (cC cE cB cT cP cY cR:Nat) (cV:Bool) (w:World) :
  Calls Tryz.prog 131 #[.agg #[.int .u32 cC,.int .u8 cE,.int .u16 cB,.int .u16 cT,.int .u16 cP,.int .u16 cY,.int .u32 cR,.bool cV]] w fun e w'=>e = .returned (.bool (WI cY cV))∧Below w.heap.size w w':=by
 have hf:WI cY cV=(cV&&((cY:Int)==0)):=by
  unfold WI
  rw[show decide (cY=0)=((cY:Int)==0) by rw[Bool.eq_iff_iff]; simp]
 rw[hf]
 clear hf
 cases cV with
 | false =>
  rw[Bool.false_and]
  go_enter Tryz.func131,Tryz.ntmps131
  go_wp2
  go_ret
  exact⟨rfl,by(repeat (first|(with_reducible exact Below.refl _ _)|(with_reducible refine Below.drew ?_)|(with_reducible refine ZA ?_ _)|(with_reducible refine Below.alloc ?_ (by simp<;>omega) _)|(with_reducible refine Below.setCell ?_ (by simp<;>omega) _)))⟩
 | true =>
  rw[Bool.true_and]
  go_enter Tryz.func131,Tryz.ntmps131
  go_wp2
  go_ret
  exact⟨rfl,by(repeat (first|(with_reducible exact Below.refl _ _)|(with_reducible refine Below.drew ?_)|(with_reducible refine ZA ?_ _)|(with_reducible refine Below.alloc ?_ (by simp<;>omega) _)|(with_reducible refine Below.setCell ?_ (by simp<;>omega) _)))⟩
theorem ZxM (w:World):Calls Tryz.prog 153 #[] w fun e w'=>e = .returned (.bool false)∧Below w.heap.size w w':=by
 go_enter Tryz.func153,Tryz.ntmps153
 go_wp2
 go_ret
 exact⟨rfl,Below.refl _ _⟩
theorem Zq6 (w:World) (g:Nat) (h:Blk w g 27 #[.func (.func 153) #[] #[]]):Asked w g 1 (fun _=>153) (fun _ => #[]) (fun _ => #[]) (fun _=>false) :=
 ⟨fun j hj=>(by omega:0=j)▸h.cell 0,
   fun _ _ W _=>ZxM W,fun _ _ W=>by kernel_rfl,h.lt⟩
theorem Zo7 (cC cE cB cT cP cY cR:Nat) (cV:Bool) (w:World) (g:Nat) (h:Blk w g 27 #[.func (.func 131) #[.agg #[.int .u32 cC,.int .u8 cE,.int .u16 cB,.int .u16 cT,.int .u16 cP,.int .u16 cY,.int .u32 cR,.bool cV]] #[]]):Asked w g 1 (fun _=>131) (fun _ => #[.agg #[.int .u32 cC,.int .u8 cE,.int .u16 cB,.int .u16 cT,.int .u16 cP,.int .u16 cY,.int .u32 cR,.bool cV]]) (fun _ => #[]) (fun _=>WI cY cV) :=
 ⟨fun j hj=>(by omega:0=j)▸h.cell 0,
   fun _ _ W _=>UR cC cE cB cT cP cY cR cV W,fun _ _ W=>by kernel_rfl,h.lt⟩
theorem Blk.newAt {W:World} {g:Nat} (h:W.heap.size=g) (t:TypeId) (cs:Array Value):Blk (W.alloc (.cells cs t)) g t cs:=by subst h; exact Blk.new W t cs
theorem US (cC cE cB cT cP cY cR:Nat) (cV:Bool) (w:World) (g:Nat) (h:Blk w g 27 #[.func (.func 153) #[] #[]]) :
  Calls Tryz.prog 132 #[.agg #[.int .u32 cC,.int .u8 cE,.int .u16 cB,.int .u16 cT,.int .u16 cP,.int .u16 cY,.int .u32 cR,.bool cV],.slice (some ⟨g,0,none⟩) 1 1] w fun e w'=>e = .returned (.agg #[.int .u32 cC,.int .u8 cE,.int .u16 cB,.int .u16 cT,.int .u16 cP,.int .u16 cY,.int .u32 cR,.bool false])∧Below w.heap.size w w' :=
 Zgp cC cE cB cT cP cY cR cV g 1 _ _ _ _ w (by omega) (Zq6 w g h)
theorem Zq7 (p:Nat) (cC cE cB cT cY cR:Nat) (cV:Bool) (dC dE dB dT dP dY dR:Nat) (dV:Bool) (w:World) (g:Nat) (h:Blk w g 27 #[.func (.func 131) #[.agg #[.int .u32 dC,.int .u8 dE,.int .u16 dB,.int .u16 dT,.int .u16 dP,.int .u16 dY,.int .u32 dR,.bool dV]] #[]]) :
  Calls Tryz.prog 132 #[.agg #[.int .u32 cC,.int .u8 cE,.int .u16 cB,.int .u16 cT,.int .u16 p,.int .u16 cY,.int .u32 cR,.bool cV],.slice (some ⟨g,0,none⟩) 1 1] w fun e w'=>e = .returned (.agg #[.int .u32 cC,.int .u8 cE,.int .u16 cB,.int .u16 cT,.int .u16 p,.int .u16 cY,.int .u32 cR,.bool (WI dY dV)])∧Below w.heap.size w w':=by
 have:=Zgp cC cE cB cT p cY cR cV g 1 _ _ _ _ w (by omega) (Zo7 dC dE dB dT dP dY dR dV w g h)
 rwa [show ZwE (fun _=>WI dY dV) 1=WI dY dV from Bool.true_and _] at this
theorem Zq8 (cC cE cB cT cP cY cR:Nat) (cV:Bool) (w:World) :
  Calls Tryz.prog 77 #[.agg #[.int .u32 cC,.int .u8 cE,.int .u16 cB,.int .u16 cT,.int .u16 cP,.int .u16 cY,.int .u32 cR,.bool cV]] w fun e w'=>e = .returned (.agg #[.int .u32 cC,.int .u8 cE,.int .u16 cB,.int .u16 cT,.int .u16 cP,.int .u16 cY,.int .u32 cR,.bool false])∧Below w.heap.size w w':=by
 go_enter Tryz.func77,Tryz.ntmps77
 go_wp2_with fail
 refine(US cC cE cB cT cP cY cR cV _ _ (Blk.newAt (by simp) _ _)).mono ?_
 rintro e w2 ⟨rfl,hb2⟩
 obtain⟨hc2,hf2⟩:=Kk hb2
 have hz2:=hb2.size
 simp at hz2
 have HB2:=Z0 hb2; clear hb2
 go_wp2
 refine bodyPost_ret (v:=.agg #[.int .u32 cC,.int .u8 cE,.int .u16 cB,.int .u16 cT,.int .u16 cP,.int .u16 cY,.int .u32 cR,.bool false]) (by simp[results,Tryz.results77,go_sem,hc2]) rfl ⟨rfl,?_⟩
 repeat (refine Below.setCell ?_ (by simp<;>omega) _)
 exact((((Below.refl _ _).alloc (Nat.le_refl _) _).alloc (by simp) _).alloc (by simp; omega) _).trans (HB2.out.mono (by simp; omega))
theorem ZxN (cC cE cB cT cP cY cR:Nat) (cV:Bool) (p:Nat) (w:World) (cl:Zbb cC cE cB cT cP cY cR) (_hp:p<4294967296) :
  Calls Tryz.prog 80 #[.agg #[.int .u32 cC,.int .u8 cE,.int .u16 cB,.int .u16 cT,.int .u16 cP,.int .u16 cY,.int .u32 cR,.bool cV],.int .u32 p] w fun e w'=>e = .returned (.agg #[.int .u32 cC,.int .u8 cE,.int .u16 cB,.int .u16 cT,.int .u16 (cP&&&(p%65536):Nat),.int .u16 cY,.int .u32 cR,.bool (WI cY cV)])∧Below w.heap.size w w':=by
 have hx:=u16_and_nat cP (p%65536) cl.2.2.2.2.1 (by omega)
 obtain⟨x,hxe⟩:∃ x,p%65536=x:=⟨_,rfl⟩
 have hx2:u16.wrap (p:Int)=x:=by rw[IntKind.wrap_u16]; omega
 rw[hxe] at hx ⊢
 obtain⟨y,hy⟩:∃ y,cP&&&x=y:=⟨_,rfl⟩
 rw[hy] at hx ⊢
 clear hxe hy
 go_enter Tryz.func80,Tryz.ntmps80
 go_wp2_with fail
 refine(Zq7 y cC cE cB cT cY cR cV cC cE cB cT cP cY cR cV _ _ (Blk.newAt (by simp) _ _)).mono ?_
 rintro e w2 ⟨rfl,hb2⟩
 obtain⟨hc2,hf2⟩:=Kk hb2
 have hz2:=hb2.size
 simp at hz2
 have HB2:=Z0 hb2; clear hb2
 go_wp2
 refine bodyPost_ret (v:=.agg #[.int .u32 cC,.int .u8 cE,.int .u16 cB,.int .u16 cT,.int .u16 y,.int .u16 cY,.int .u32 cR,.bool (WI cY cV)]) (by simp[results,Tryz.results80,go_sem,hc2]) rfl ⟨rfl,?_⟩
 repeat (refine Below.setCell ?_ (by simp<;>omega) _)
 exact(((((Below.refl _ _).alloc (Nat.le_refl _) _).alloc (by simp) _).alloc (by simp; omega) _).alloc (by simp; omega) _).trans (HB2.out.mono (by simp; omega))
attribute [local go_sem ↓] Go.wp_at_zero Go.wp_at_succ
theorem ZBl (cC cE cB cT cP cY cR:Nat) (cV:Bool) (w:World) (g:Nat) (f1 f2:FuncId) (i1 a1 i2 a2:Array Value) (b1 b2:Bool) (h:Blk w g 27 #[.func (.func f1) i1 a1,.func (.func f2) i2 a2])
  (r1:∀ W,(callFunc f1 (i1++a1)).run Tryz.prog W = .ok (.enter f1 (i1++a1)) W) (r2:∀ W,(callFunc f2 (i2++a2)).run Tryz.prog W = .ok (.enter f2 (i2++a2)) W)
  (c1:∀ W,Below w.heap.size w W→Calls Tryz.prog f1 (i1++a1) W fun e W'=>e = .returned (.bool b1)∧Below W.heap.size W W')
  (c2:∀ W,Below w.heap.size w W→Calls Tryz.prog f2 (i2++a2) W fun e W'=>e = .returned (.bool b2)∧Below W.heap.size W W') :
  Calls Tryz.prog 132 #[.agg #[.int .u32 cC,.int .u8 cE,.int .u16 cB,.int .u16 cT,.int .u16 cP,.int .u16 cY,.int .u32 cR,.bool cV],.slice (some ⟨g,0,none⟩) 2 2] w fun e w'=>e = .returned (.agg #[.int .u32 cC,.int .u8 cE,.int .u16 cB,.int .u16 cT,.int .u16 cP,.int .u16 cY,.int .u32 cR,.bool (b1&&b2)])∧Below w.heap.size w w':=by
 have:=Zgp cC cE cB cT cP cY cR cV g 2 (fun j=>if j=0 then f1 else f2) (fun j=>if j=0 then i1 else i2) (fun j=>if j=0 then a1 else a2) (fun j=>if j=0 then b1 else b2) w (by omega)
  ⟨fun j hj=>by
   have hj':j=0∨j=1:=by omega
   rcases hj' with rfl|rfl
   ·exact h.cell 0
   ·exact h.cell 1,
     fun j hj W hW=>by
   have hj':j=0∨j=1:=by omega
   rcases hj' with rfl|rfl
   ·exact c1 W hW
   ·exact c2 W hW,
     fun j hj W=>by
   have hj':j=0∨j=1:=by omega
   rcases hj' with rfl|rfl
   ·exact r1 W
   ·exact r2 W,h.lt⟩
 exact this
theorem ZEu (cC cE cB cT cP cY cR:Nat) (cV:Bool) (w:World) (g:Nat) (f1 f2 f3:FuncId) (i1 a1 i2 a2 i3 a3:Array Value) (b1 b2 b3:Bool) (h:Blk w g 27 #[.func (.func f1) i1 a1,.func (.func f2) i2 a2,.func (.func f3) i3 a3])
  (r1:∀ W,(callFunc f1 (i1++a1)).run Tryz.prog W = .ok (.enter f1 (i1++a1)) W) (r2:∀ W,(callFunc f2 (i2++a2)).run Tryz.prog W = .ok (.enter f2 (i2++a2)) W) (r3:∀ W,(callFunc f3 (i3++a3)).run Tryz.prog W = .ok (.enter f3 (i3++a3)) W)
  (c1:∀ W,Below w.heap.size w W→Calls Tryz.prog f1 (i1++a1) W fun e W'=>e = .returned (.bool b1)∧Below W.heap.size W W')
  (c2:∀ W,Below w.heap.size w W→Calls Tryz.prog f2 (i2++a2) W fun e W'=>e = .returned (.bool b2)∧Below W.heap.size W W')
  (c3:∀ W,Below w.heap.size w W→Calls Tryz.prog f3 (i3++a3) W fun e W'=>e = .returned (.bool b3)∧Below W.heap.size W W') :
  Calls Tryz.prog 132 #[.agg #[.int .u32 cC,.int .u8 cE,.int .u16 cB,.int .u16 cT,.int .u16 cP,.int .u16 cY,.int .u32 cR,.bool cV],.slice (some ⟨g,0,none⟩) 3 3] w fun e w'=>e = .returned (.agg #[.int .u32 cC,.int .u8 cE,.int .u16 cB,.int .u16 cT,.int .u16 cP,.int .u16 cY,.int .u32 cR,.bool (b1&&b2&&b3)])∧Below w.heap.size w w':=by
 have:=Zgp cC cE cB cT cP cY cR cV g 3 (fun j=>if j=0 then f1 else if j=1 then f2 else f3) (fun j=>if j=0 then i1 else if j=1 then i2 else i3) (fun j=>if j=0 then a1 else if j=1 then a2 else a3) (fun j=>if j=0 then b1 else if j=1 then b2 else b3) w (by omega)
  ⟨fun j hj=>by
   have hj':j=0∨j=1∨j=2:=by omega
   rcases hj' with rfl|rfl|rfl
   ·exact h.cell 0
   ·exact h.cell 1
   ·exact h.cell 2,
     fun j hj W hW=>by
   have hj':j=0∨j=1∨j=2:=by omega
   rcases hj' with rfl|rfl|rfl
   ·exact c1 W hW
   ·exact c2 W hW
   ·exact c3 W hW,
     fun j hj W=>by
   have hj':j=0∨j=1∨j=2:=by omega
   rcases hj' with rfl|rfl|rfl
   ·exact r1 W
   ·exact r2 W
   ·exact r3 W,h.lt⟩
 exact this
theorem Zq9 (cC cE cB cT cP cY cR:Nat) (cV:Bool) (gf gc:Nat) (w:World) (hf:Blk w gf 164 #[.func (.func 131) #[] #[]]) (hc:Blk w gc 30 #[.int .u32 cC,.int .u8 cE,.int .u16 cB,.int .u16 cT,.int .u16 cP,.int .u16 cY,.int .u32 cR,.bool cV]) :
  Calls Tryz.prog 133 #[.pointer (some ⟨gf,0,none⟩),.pointer (some ⟨gc,0,none⟩)] w fun e w'=>e = .returned (.bool (WI cY cV))∧Below w.heap.size w w':=by
 have c0:=hf.cell 0
 simp at c0
 have d0:=hc.cell 0
 have d1:=hc.cell 1
 have d2:=hc.cell 2
 have d3:=hc.cell 3
 have d4:=hc.cell 4
 have d5:=hc.cell 5
 have d6:=hc.cell 6
 have d7:=hc.cell 7
 simp at d0 d1 d2 d3 d4 d5 d6 d7
 clear hf hc
 go_enter Tryz.func133,Tryz.ntmps133
 go_wp2_with fail
 refine(UR cC cE cB cT cP cY cR cV _).mono ?_
 rintro e w1 ⟨rfl,hb1⟩
 have HB1:=Z0 hb1; clear hb1
 go_wp2
 go_ret
 exact⟨rfl,HB1.out⟩
theorem Zra (cC cE cB cT cP cY cR:Nat) (cV:Bool) (to gc gt:Nat) (w:World) (cl:Zbb cC cE cB cT cP cY cR) (hto:to<4294967296) (hc:Blk w gc 30 #[.int .u32 cC,.int .u8 cE,.int .u16 cB,.int .u16 cT,.int .u16 cP,.int .u16 cY,.int .u32 cR,.bool cV]) (ht:Blk w gt 22 #[.int .u32 to]) :
  Calls Tryz.prog 134 #[.pointer (some ⟨gc,0,none⟩),.pointer (some ⟨gt,0,none⟩)] w fun e w'=>e = .returned (.bool (Ui cE cB cT cC to))∧Below w.heap.size w w':=by
 have hk:=fun W=>Zq2 cE cB cT cC to W cl.2.1 cl.2.2.1 cl.2.2.2.1 cl.1 hto
 generalize Ui cE cB cT cC to=k at *
 have HK:=Z0 hk
 have c0:=ht.cell 0
 simp at c0
 have d0:=hc.cell 0
 have d1:=hc.cell 1
 have d2:=hc.cell 2
 have d3:=hc.cell 3
 simp at d0 d1 d2 d3
 clear hk ht hc
 go_enter Tryz.func134,Tryz.ntmps134
 go_wp2_with fail
 refine(HK.out _).mono ?_
 rintro e w1 ⟨rfl,hb1⟩
 have HB1:=Z0 hb1; clear hb1
 go_wp2
 go_ret
 exact⟨rfl,HB1.out⟩
theorem ZnB (cC cE cB cT cP cY cR:Nat) (cV:Bool) (to:Nat) (w:World) (cl:Zbb cC cE cB cT cP cY cR) (hto:to<4294967296) :
  Calls Tryz.prog 71 #[.agg #[.int .u32 cC,.int .u8 cE,.int .u16 cB,.int .u16 cT,.int .u16 cP,.int .u16 cY,.int .u32 cR,.bool cV],.int .u32 to] w fun e w'=>e = .returned (.agg #[.int .u32 to,.int .u8 cE,.int .u16 cB,.int .u16 cT,.int .u16 cP,.int .u16 cY,.int .u32 cR,.bool (WI cY cV&&Ui cE cB cT cC to)])∧Below w.heap.size w w':=by
 go_enter Tryz.func71,Tryz.ntmps71
 go_wp2_with fail
 refine(ZBl to cE cB cT cP cY cR cV _ _ 133 134 #[] #[.pointer (some ⟨w.heap.size+1+1+1+1,0,none⟩),.pointer (some ⟨w.heap.size,0,none⟩)] #[] #[.pointer (some ⟨w.heap.size,0,none⟩),.pointer (some ⟨w.heap.size+1,0,none⟩)] (WI cY cV) (Ui cE cB cT cC to) (Blk.newAt (by simp) _ _) (fun W=>by kernel_rfl) (fun W=>by kernel_rfl)
  (fun W hW=>Zq9 cC cE cB cT cP cY cR cV (w.heap.size+1+1+1+1) w.heap.size W (Blk.below (by(repeat (first|(with_reducible exact Blk.new _ _ _)|(with_reducible refine Blk.drewN ?_ _)|(with_reducible refine Blk.drew ?_)|exact Blk.newAt (by simp) _ _|(with_reducible refine Blk.alloc ?_ _)))) hW (by first|(simp; done)|(simp; omega))) (Blk.below (by(repeat (first|(with_reducible exact Blk.new _ _ _)|(with_reducible refine Blk.drewN ?_ _)|(with_reducible refine Blk.drew ?_)|exact Blk.newAt (by simp) _ _|(with_reducible refine Blk.alloc ?_ _)))) hW (by first|(simp; done)|(simp; omega))))
  (fun W hW=>Zra cC cE cB cT cP cY cR cV to w.heap.size (w.heap.size+1) W cl hto (Blk.below (by(repeat (first|(with_reducible exact Blk.new _ _ _)|(with_reducible refine Blk.drewN ?_ _)|(with_reducible refine Blk.drew ?_)|exact Blk.newAt (by simp) _ _|(with_reducible refine Blk.alloc ?_ _)))) hW (by first|(simp; done)|(simp; omega))) (Blk.below (by(repeat (first|(with_reducible exact Blk.new _ _ _)|(with_reducible refine Blk.drewN ?_ _)|(with_reducible refine Blk.drew ?_)|exact Blk.newAt (by simp) _ _|(with_reducible refine Blk.alloc ?_ _)))) hW (by first|(simp; done)|(simp; omega))))).mono ?_
 rintro e w2 ⟨rfl,hb2⟩
 obtain⟨hc2,hf2⟩:=Kk hb2
 have hz2:=hb2.size
 simp at hz2
 have HB2:=Z0 hb2; clear hb2
 go_wp2
 refine bodyPost_ret (v:=.agg #[.int .u32 to,.int .u8 cE,.int .u16 cB,.int .u16 cT,.int .u16 cP,.int .u16 cY,.int .u32 cR,.bool (WI cY cV&&Ui cE cB cT cC to)]) (by simp[results,Tryz.results71,go_sem,hc2]) rfl ⟨rfl,?_⟩
 repeat (refine Below.setCell ?_ (by simp<;>omega) _)
 exact(Below.trans (by(repeat (first|(with_reducible exact Below.refl _ _)|(with_reducible refine Below.drew ?_)|(with_reducible refine ZA ?_ _)|(with_reducible refine Below.alloc ?_ (by simp<;>omega) _)|(with_reducible refine Below.setCell ?_ (by simp<;>omega) _)))) (HB2.out.mono (by simp; omega)))
attribute [local go_sem ↓] Go.wp_at_zero Go.wp_at_succ
def Zca (cC cP cY:Nat) (cV:Bool) (q x y:Nat):Bool:=WI cY cV&&(decide (cP&&&q≠0)&&(decide (1≤cC)&&(decide (cC≤4095)&&(decide (x≤cC)&&decide (cC<y)))))
theorem ZxO {p q:Nat} (hp:p<65536) (hq:q<65536):(bits .and .u16 (p:Int) (q:Int) !=0)=decide (p&&&q≠0):=by
 rw[u16_and_nat p q hp hq,Bool.eq_iff_iff]
 simp<;>omega
theorem Zes (cC cE cB cT cP cY cR:Nat) (cV:Bool) (q x y:Nat) (w:World) (cl:Zbb cC cE cB cT cP cY cR) (hq:q<65536) (hx:(XL cE cB cT cC).1=x) (hy:(XL cE cB cT cC).2=y) :
  Calls Tryz.prog 155 #[.agg #[.int .u32 cC,.int .u8 cE,.int .u16 cB,.int .u16 cT,.int .u16 cP,.int .u16 cY,.int .u32 cR,.bool cV],.int .u16 q] w fun e w'=>e = .returned (.bool (Zca cC cP cY cV q x y))∧Below w.heap.size w w':=by
 have HR:Hid (∀ W,Calls Tryz.prog 76 #[.agg #[.int .u32 cC,.int .u8 cE,.int .u16 cB,.int .u16 cT,.int .u16 cP,.int .u16 cY,.int .u32 cR,.bool cV]] W fun e' w'=>e' = .returned (.tuple #[.int .u32 x,.int .u64 y])∧Below W.heap.size W w'):=fun W=>Zer cC cE cB cT cP cY cR cV x y W cl hx hy
 have hxl:x<4294967296:=by rw[← hx]; exact(ZkU _ _ _ _).1
 have hcl:cC<4294967296:=cl.1
 have hn:=ZxO cl.2.2.2.2.1 hq
 have hfr:=fun W=>UR cC cE cB cT cP cY cR cV W
 clear hx hy
 obtain⟨kf,hkf⟩:∃ k,WI cY cV=k:=⟨_,rfl⟩
 obtain⟨kp,hkp⟩:∃ k,decide (cP&&&q≠0)=k:=⟨_,rfl⟩
 rw[hkp] at hn
 rw[hkf] at hfr
 have HF:=Z0 hfr
 clear hfr
 have hov:Zca cC cP cY cV q x y=(kf&&(kp&&(decide (1≤cC)&&(decide (cC≤4095)&&(decide (x≤cC)&&decide (cC<y)))))):=by
  unfold Zca; rw[hkf,hkp]
 rw[hov]
 clear hov hkf hkp
 cases kf with
 | false =>
  have HV:Hid ((false&&(kp&&(decide (1≤cC)&&(decide (cC≤4095)&&(decide (x≤cC)&&decide (cC<y))))))=false):=rfl
  go_enter Tryz.func155,Tryz.ntmps155
  go_wp2_with fail
  refine(HR.out _).mono ?_
  rintro e w1 ⟨rfl,hb1⟩
  obtain⟨hc1,hf1⟩:=Kk hb1
  have hz1:=hb1.size
  simp at hz1
  have l1:w.heap.size<w1.heap.size:=by omega
  have HB1:=Z0 hb1; clear hb1
  go_wp2_with fail
  refine(HF.out _).mono ?_
  rintro e w2 ⟨rfl,hb2⟩
  obtain⟨hc2,hf2⟩:=Kk hb2
  have HB2:=Z0 hb2; clear hb2
  go_wp2
  go_ret
  exact⟨XC HV.out.symm,(((Below.refl _ _).alloc (Nat.le_refl _) _).trans (HB1.out.mono (by simp))).trans (HB2.out.mono (by omega))⟩
 | true =>
  cases kp with
  | false =>
   have HV:Hid ((true&&(false&&(decide (1≤cC)&&(decide (cC≤4095)&&(decide (x≤cC)&&decide (cC<y))))))=false):=rfl
   go_enter Tryz.func155,Tryz.ntmps155
   go_wp2_with fail
   refine(HR.out _).mono ?_
   rintro e w1 ⟨rfl,hb1⟩
   obtain⟨hc1,hf1⟩:=Kk hb1
   have hz1:=hb1.size
   simp at hz1
   have l1:w.heap.size<w1.heap.size:=by omega
   have HB1:=Z0 hb1; clear hb1
   go_wp2_with fail
   refine(HF.out _).mono ?_
   rintro e w2 ⟨rfl,hb2⟩
   obtain⟨hc2,hf2⟩:=Kk hb2
   have HB2:=Z0 hb2; clear hb2
   go_wp2
   go_ret
   exact⟨XC HV.out.symm,(((Below.refl _ _).alloc (Nat.le_refl _) _).trans (HB1.out.mono (by simp))).trans (HB2.out.mono (by omega))⟩
  | true =>
   by_cases c1:(1:Int)≤cC
   ·by_cases c2:(cC:Int)≤4095
    ·by_cases c3:x≤cC
     ·have HV:Hid ((true&&(true&&(decide (1≤cC)&&(decide (cC≤4095)&&(decide (x≤cC)&&decide (cC<y))))))=decide (cC<y)):=by
       show _=_
       rw[decide_eq_true (show 1≤cC by omega),decide_eq_true (show cC≤4095 by omega),decide_eq_true c3]; rfl
      go_enter Tryz.func155,Tryz.ntmps155
      go_wp2_with fail
      refine(HR.out _).mono ?_
      rintro e w1 ⟨rfl,hb1⟩
      obtain⟨hc1,hf1⟩:=Kk hb1
      have hz1:=hb1.size
      simp at hz1
      have l1:w.heap.size<w1.heap.size:=by omega
      have HB1:=Z0 hb1; clear hb1
      go_wp2_with fail
      refine(HF.out _).mono ?_
      rintro e w2 ⟨rfl,hb2⟩
      obtain⟨hc2,hf2⟩:=Kk hb2
      have HB2:=Z0 hb2; clear hb2
      go_wp2
      go_ret
      exact⟨XC HV.out.symm,(((Below.refl _ _).alloc (Nat.le_refl _) _).trans (HB1.out.mono (by simp))).trans (HB2.out.mono (by omega))⟩
     ·have d3:decide (x≤cC)=false:=by simpa using c3
      have HV:Hid ((true&&(true&&(decide (1≤cC)&&(decide (cC≤4095)&&(decide (x≤cC)&&decide (cC<y))))))=false):=by
       show _=_
       rw[d3]; simp
      go_enter Tryz.func155,Tryz.ntmps155
      go_wp2_with fail
      refine(HR.out _).mono ?_
      rintro e w1 ⟨rfl,hb1⟩
      obtain⟨hc1,hf1⟩:=Kk hb1
      have hz1:=hb1.size
      simp at hz1
      have l1:w.heap.size<w1.heap.size:=by omega
      have HB1:=Z0 hb1; clear hb1
      go_wp2_with fail
      refine(HF.out _).mono ?_
      rintro e w2 ⟨rfl,hb2⟩
      obtain⟨hc2,hf2⟩:=Kk hb2
      have HB2:=Z0 hb2; clear hb2
      go_wp2
      go_ret
      exact⟨XC HV.out.symm,(((Below.refl _ _).alloc (Nat.le_refl _) _).trans (HB1.out.mono (by simp))).trans (HB2.out.mono (by omega))⟩
    ·have d2:decide ((cC:Int)≤4095)=false:=by simpa using c2
     have HV:Hid ((true&&(true&&(decide (1≤cC)&&(decide (cC≤4095)&&(decide (x≤cC)&&decide (cC<y))))))=false):=by
      show _=_
      rw[decide_eq_false (show ¬ cC≤4095 by omega)]; simp
     go_enter Tryz.func155,Tryz.ntmps155
     go_wp2_with fail
     refine(HR.out _).mono ?_
     rintro e w1 ⟨rfl,hb1⟩
     obtain⟨hc1,hf1⟩:=Kk hb1
     have hz1:=hb1.size
     simp at hz1
     have l1:w.heap.size<w1.heap.size:=by omega
     have HB1:=Z0 hb1; clear hb1
     go_wp2_with fail
     refine(HF.out _).mono ?_
     rintro e w2 ⟨rfl,hb2⟩
     obtain⟨hc2,hf2⟩:=Kk hb2
     have HB2:=Z0 hb2; clear hb2
     go_wp2
     go_ret
     exact⟨XC HV.out.symm,(((Below.refl _ _).alloc (Nat.le_refl _) _).trans (HB1.out.mono (by simp))).trans (HB2.out.mono (by omega))⟩
   ·have d1:decide ((1:Int)≤cC)=false:=by simpa using c1
    have HV:Hid ((true&&(true&&(decide (1≤cC)&&(decide (cC≤4095)&&(decide (x≤cC)&&decide (cC<y))))))=false):=by
     show _=_
     rw[decide_eq_false (show ¬ 1≤cC by omega)]; simp
    go_enter Tryz.func155,Tryz.ntmps155
    go_wp2_with fail
    refine(HR.out _).mono ?_
    rintro e w1 ⟨rfl,hb1⟩
    obtain⟨hc1,hf1⟩:=Kk hb1
    have hz1:=hb1.size
    simp at hz1
    have l1:w.heap.size<w1.heap.size:=by omega
    have HB1:=Z0 hb1; clear hb1
    go_wp2_with fail
    refine(HF.out _).mono ?_
    rintro e w2 ⟨rfl,hb2⟩
    obtain⟨hc2,hf2⟩:=Kk hb2
    have HB2:=Z0 hb2; clear hb2
    go_wp2
    go_ret
    exact⟨XC HV.out.symm,(((Below.refl _ _).alloc (Nat.le_refl _) _).trans (HB1.out.mono (by simp))).trans (HB2.out.mono (by omega))⟩
attribute [local go_sem ↓] Go.wp_at_zero Go.wp_at_succ
theorem Zuf {cC cP cY:Nat} {cV:Bool} {q x y:Nat} (h:Zca cC cP cY cV q x y=true):(cC:Int)≤4095∧1≤cC:=by
 simp only[Zca,Bool.and_eq_true,decide_eq_true_eq] at h; omega
theorem ZBm (cC cE cB cT cP cY cR:Nat) (cV:Bool) (bC bE bB bT bP bY bR:Nat) (bV:Bool) (w:World) (h:WI cY cV=false) :
  Calls Tryz.prog 81 #[.agg #[.int .u32 cC,.int .u8 cE,.int .u16 cB,.int .u16 cT,.int .u16 cP,.int .u16 cY,.int .u32 cR,.bool cV],.agg #[.int .u32 bC,.int .u8 bE,.int .u16 bB,.int .u16 bT,.int .u16 bP,.int .u16 bY,.int .u32 bR,.bool bV]] w fun e w'=>e = .returned (.agg #[.int .u32 cC,.int .u8 cE,.int .u16 cB,.int .u16 cT,.int .u16 cP,.int .u16 cY,.int .u32 cR,.bool false])∧Below w.heap.size w w':=by
 have hfr:=fun W=>UR cC cE cB cT cP cY cR cV W
 rw[h] at hfr
 have HF:=Z0 hfr
 clear hfr h
 have hq0:Blk (((w.alloc (.cells #[.int .u32 cC,.int .u8 cE,.int .u16 cB,.int .u16 cT,.int .u16 cP,.int .u16 cY,.int .u32 cR,.bool cV] 30)).alloc (.cells #[.int .u32 bC,.int .u8 bE,.int .u16 bB,.int .u16 bT,.int .u16 bP,.int .u16 bY,.int .u32 bR,.bool bV] 30)).alloc (.cells #[.int .u32 0,.int .u8 0,.int .u16 0,.int .u16 0,.int .u16 0,.int .u16 0,.int .u32 0,.bool false] 30)) w.heap.size 30 #[.int .u32 cC,.int .u8 cE,.int .u16 cB,.int .u16 cT,.int .u16 cP,.int .u16 cY,.int .u32 cR,.bool cV]:=by(repeat (first|(with_reducible exact Blk.new _ _ _)|(with_reducible refine Blk.drewN ?_ _)|(with_reducible refine Blk.drew ?_)|exact Blk.newAt (by simp) _ _|(with_reducible refine Blk.alloc ?_ _)))
 have hq1:Blk (((w.alloc (.cells #[.int .u32 cC,.int .u8 cE,.int .u16 cB,.int .u16 cT,.int .u16 cP,.int .u16 cY,.int .u32 cR,.bool cV] 30)).alloc (.cells #[.int .u32 bC,.int .u8 bE,.int .u16 bB,.int .u16 bT,.int .u16 bP,.int .u16 bY,.int .u32 bR,.bool bV] 30)).alloc (.cells #[.int .u32 0,.int .u8 0,.int .u16 0,.int .u16 0,.int .u16 0,.int .u16 0,.int .u32 0,.bool false] 30)) (w.heap.size+1) 30 #[.int .u32 bC,.int .u8 bE,.int .u16 bB,.int .u16 bT,.int .u16 bP,.int .u16 bY,.int .u32 bR,.bool bV]:=by(repeat (first|(with_reducible exact Blk.new _ _ _)|(with_reducible refine Blk.drewN ?_ _)|(with_reducible refine Blk.drew ?_)|exact Blk.newAt (by simp) _ _|(with_reducible refine Blk.alloc ?_ _)))
 have hq2:Blk (((w.alloc (.cells #[.int .u32 cC,.int .u8 cE,.int .u16 cB,.int .u16 cT,.int .u16 cP,.int .u16 cY,.int .u32 cR,.bool cV] 30)).alloc (.cells #[.int .u32 bC,.int .u8 bE,.int .u16 bB,.int .u16 bT,.int .u16 bP,.int .u16 bY,.int .u32 bR,.bool bV] 30)).alloc (.cells #[.int .u32 0,.int .u8 0,.int .u16 0,.int .u16 0,.int .u16 0,.int .u16 0,.int .u32 0,.bool false] 30)) (w.heap.size+1+1) 30 #[.int .u32 0,.int .u8 0,.int .u16 0,.int .u16 0,.int .u16 0,.int .u16 0,.int .u32 0,.bool false]:=by(repeat (first|(with_reducible exact Blk.new _ _ _)|(with_reducible refine Blk.drewN ?_ _)|(with_reducible refine Blk.drew ?_)|exact Blk.newAt (by simp) _ _|(with_reducible refine Blk.alloc ?_ _)))
 have kb:Below w.heap.size w (((w.alloc (.cells #[.int .u32 cC,.int .u8 cE,.int .u16 cB,.int .u16 cT,.int .u16 cP,.int .u16 cY,.int .u32 cR,.bool cV] 30)).alloc (.cells #[.int .u32 bC,.int .u8 bE,.int .u16 bB,.int .u16 bT,.int .u16 bP,.int .u16 bY,.int .u32 bR,.bool bV] 30)).alloc (.cells #[.int .u32 0,.int .u8 0,.int .u16 0,.int .u16 0,.int .u16 0,.int .u16 0,.int .u32 0,.bool false] 30)):=by(repeat (first|(with_reducible exact Below.refl _ _)|(with_reducible refine Below.drew ?_)|(with_reducible refine ZA ?_ _)|(with_reducible refine Below.alloc ?_ (by simp<;>omega) _)|(with_reducible refine Below.setCell ?_ (by simp<;>omega) _)))
 have hsz:(((w.alloc (.cells #[.int .u32 cC,.int .u8 cE,.int .u16 cB,.int .u16 cT,.int .u16 cP,.int .u16 cY,.int .u32 cR,.bool cV] 30)).alloc (.cells #[.int .u32 bC,.int .u8 bE,.int .u16 bB,.int .u16 bT,.int .u16 bP,.int .u16 bY,.int .u32 bR,.bool bV] 30)).alloc (.cells #[.int .u32 0,.int .u8 0,.int .u16 0,.int .u16 0,.int .u16 0,.int .u16 0,.int .u32 0,.bool false] 30)).heap.size=w.heap.size+1+1+1:=by simp
 go_enter Tryz.func81,Tryz.ntmps81
 go_wp2_with fail
 refine(HF.out _).mono ?_
 rintro e w1 ⟨rfl,hb1⟩
 have hq0:=(hq0).below hb1 (by first|omega|(simp; omega))
 have hq1:=(hq1).below hb1 (by first|omega|(simp; omega))
 have hq2:=(hq2).below hb1 (by first|omega|(simp; omega))
 have kb:=(kb).trans (hb1.mono kb.size)
 have hsz1:w.heap.size+1+1+1≤w1.heap.size:=by have:=hb1.size; omega
 clear hb1
 have p0:=hq0.cell 0
 have pz0:=hq0.frozen 0
 have p1:=hq0.cell 1
 have pz1:=hq0.frozen 1
 have p2:=hq0.cell 2
 have pz2:=hq0.frozen 2
 have p3:=hq0.cell 3
 have pz3:=hq0.frozen 3
 have p4:=hq0.cell 4
 have pz4:=hq0.frozen 4
 have p5:=hq0.cell 5
 have pz5:=hq0.frozen 5
 have p6:=hq0.cell 6
 have pz6:=hq0.frozen 6
 have p7:=hq0.cell 7
 have pz7:=hq0.frozen 7
 simp at p0 p1 p2 p3 p4 p5 p6 p7
 have s0:=hq1.cell 0
 have s1:=hq1.cell 1
 have s2:=hq1.cell 2
 have s3:=hq1.cell 3
 have s4:=hq1.cell 4
 have s5:=hq1.cell 5
 have s6:=hq1.cell 6
 have s7:=hq1.cell 7
 simp at s0 s1 s2 s3 s4 s5 s6 s7
 have r0:=hq2.cell 0
 have rz0:=hq2.frozen 0
 have r1:=hq2.cell 1
 have rz1:=hq2.frozen 1
 have r2:=hq2.cell 2
 have rz2:=hq2.frozen 2
 have r3:=hq2.cell 3
 have rz3:=hq2.frozen 3
 have r4:=hq2.cell 4
 have rz4:=hq2.frozen 4
 have r5:=hq2.cell 5
 have rz5:=hq2.frozen 5
 have r6:=hq2.cell 6
 have rz6:=hq2.frozen 6
 have r7:=hq2.cell 7
 have rz7:=hq2.frozen 7
 simp at r0 r1 r2 r3 r4 r5 r6 r7
 have HK:=Z0 kb
 have H0:=Z0 hq0
 have H1:=Z0 hq1
 have H2:=Z0 hq2
 clear kb hq0 hq1 hq2
 go_wp2_with fail
 have kb:=HK.out
 have hq0:=H0.out
 have hq1:=H1.out
 have hq2:=H2.out
 clear HK H0 H1 H2
 refine(US cC cE cB cT cP cY cR cV _ _ (Blk.new _ _ _)).mono ?_
 rintro e w2 ⟨rfl,hb2⟩
 have hq0:=(hq0.alloc _).below hb2 (by first|omega|(simp; omega))
 have hq1:=(hq1.alloc _).below hb2 (by first|omega|(simp; omega))
 have hq2:=(hq2.alloc _).below hb2 (by first|omega|(simp; omega))
 have kb:=(kb.alloc kb.size _).trans (hb2.mono (by simp; have:=kb.size; omega))
 have hsz2:w.heap.size+1+1+1≤w2.heap.size:=by have:=hb2.size; simp at this; omega
 clear hb2
 clear p0 p1 p2 p3 p4 p5 p6 p7 s0 s1 s2 s3 s4 s5 s6 s7 r0 r1 r2 r3 r4 r5 r6 r7 pz0 rz0 pz1 rz1 pz2 rz2 pz3 rz3 pz4 rz4 pz5 rz5 pz6 rz6 pz7 rz7
 have r0:=hq2.cell 0
 have rz0:=hq2.frozen 0
 have r1:=hq2.cell 1
 have rz1:=hq2.frozen 1
 have r2:=hq2.cell 2
 have rz2:=hq2.frozen 2
 have r3:=hq2.cell 3
 have rz3:=hq2.frozen 3
 have r4:=hq2.cell 4
 have rz4:=hq2.frozen 4
 have r5:=hq2.cell 5
 have rz5:=hq2.frozen 5
 have r6:=hq2.cell 6
 have rz6:=hq2.frozen 6
 have r7:=hq2.cell 7
 have rz7:=hq2.frozen 7
 simp at r0 r1 r2 r3 r4 r5 r6 r7
 have HK:=Z0 kb
 clear kb hq0 hq1 hq2
 go_wp2
 refine bodyPost_ret (v:=.agg #[.int .u32 cC,.int .u8 cE,.int .u16 cB,.int .u16 cT,.int .u16 cP,.int .u16 cY,.int .u32 cR,.bool false]) (by simp[results,Tryz.results81,go_sem,r0,r1,r2,r3,r4,r5,r6,r7]) rfl ⟨rfl,?_⟩
 repeat (first|(with_reducible refine Below.setCell ?_ (by simp<;>omega) _))
 exact HK.out
theorem ZBn (cC cE cB cT cP cY cR:Nat) (cV:Bool) (bC bE bB bT bP bY bR:Nat) (bV:Bool) (x y:Nat) (w:World) (bl:Zbb bC bE bB bT bP bY bR) (hx:(XL bE bB bT bC).1=x) (hy:(XL bE bB bT bC).2=y) (h:WI cY cV=true) (ho:Zca bC bP bY bV 32 x y=false) :
  Calls Tryz.prog 81 #[.agg #[.int .u32 cC,.int .u8 cE,.int .u16 cB,.int .u16 cT,.int .u16 cP,.int .u16 cY,.int .u32 cR,.bool cV],.agg #[.int .u32 bC,.int .u8 bE,.int .u16 bB,.int .u16 bT,.int .u16 bP,.int .u16 bY,.int .u32 bR,.bool bV]] w fun e w'=>e = .returned (.agg #[.int .u32 cC,.int .u8 cE,.int .u16 cB,.int .u16 cT,.int .u16 cP,.int .u16 cY,.int .u32 cR,.bool false])∧Below w.heap.size w w':=by
 have hfr:=fun W=>UR cC cE cB cT cP cY cR cV W
 rw[h] at hfr
 have HF:=Z0 hfr
 have hov:=fun W=>Zes bC bE bB bT bP bY bR bV 32 x y W bl (by omega) hx hy
 rw[ho] at hov
 have HO:=Z0 hov
 clear hfr h hov ho hx hy
 have hq0:Blk (((w.alloc (.cells #[.int .u32 cC,.int .u8 cE,.int .u16 cB,.int .u16 cT,.int .u16 cP,.int .u16 cY,.int .u32 cR,.bool cV] 30)).alloc (.cells #[.int .u32 bC,.int .u8 bE,.int .u16 bB,.int .u16 bT,.int .u16 bP,.int .u16 bY,.int .u32 bR,.bool bV] 30)).alloc (.cells #[.int .u32 0,.int .u8 0,.int .u16 0,.int .u16 0,.int .u16 0,.int .u16 0,.int .u32 0,.bool false] 30)) w.heap.size 30 #[.int .u32 cC,.int .u8 cE,.int .u16 cB,.int .u16 cT,.int .u16 cP,.int .u16 cY,.int .u32 cR,.bool cV]:=by(repeat (first|(with_reducible exact Blk.new _ _ _)|(with_reducible refine Blk.drewN ?_ _)|(with_reducible refine Blk.drew ?_)|exact Blk.newAt (by simp) _ _|(with_reducible refine Blk.alloc ?_ _)))
 have hq1:Blk (((w.alloc (.cells #[.int .u32 cC,.int .u8 cE,.int .u16 cB,.int .u16 cT,.int .u16 cP,.int .u16 cY,.int .u32 cR,.bool cV] 30)).alloc (.cells #[.int .u32 bC,.int .u8 bE,.int .u16 bB,.int .u16 bT,.int .u16 bP,.int .u16 bY,.int .u32 bR,.bool bV] 30)).alloc (.cells #[.int .u32 0,.int .u8 0,.int .u16 0,.int .u16 0,.int .u16 0,.int .u16 0,.int .u32 0,.bool false] 30)) (w.heap.size+1) 30 #[.int .u32 bC,.int .u8 bE,.int .u16 bB,.int .u16 bT,.int .u16 bP,.int .u16 bY,.int .u32 bR,.bool bV]:=by(repeat (first|(with_reducible exact Blk.new _ _ _)|(with_reducible refine Blk.drewN ?_ _)|(with_reducible refine Blk.drew ?_)|exact Blk.newAt (by simp) _ _|(with_reducible refine Blk.alloc ?_ _)))
 have hq2:Blk (((w.alloc (.cells #[.int .u32 cC,.int .u8 cE,.int .u16 cB,.int .u16 cT,.int .u16 cP,.int .u16 cY,.int .u32 cR,.bool cV] 30)).alloc (.cells #[.int .u32 bC,.int .u8 bE,.int .u16 bB,.int .u16 bT,.int .u16 bP,.int .u16 bY,.int .u32 bR,.bool bV] 30)).alloc (.cells #[.int .u32 0,.int .u8 0,.int .u16 0,.int .u16 0,.int .u16 0,.int .u16 0,.int .u32 0,.bool false] 30)) (w.heap.size+1+1) 30 #[.int .u32 0,.int .u8 0,.int .u16 0,.int .u16 0,.int .u16 0,.int .u16 0,.int .u32 0,.bool false]:=by(repeat (first|(with_reducible exact Blk.new _ _ _)|(with_reducible refine Blk.drewN ?_ _)|(with_reducible refine Blk.drew ?_)|exact Blk.newAt (by simp) _ _|(with_reducible refine Blk.alloc ?_ _)))
 have kb:Below w.heap.size w (((w.alloc (.cells #[.int .u32 cC,.int .u8 cE,.int .u16 cB,.int .u16 cT,.int .u16 cP,.int .u16 cY,.int .u32 cR,.bool cV] 30)).alloc (.cells #[.int .u32 bC,.int .u8 bE,.int .u16 bB,.int .u16 bT,.int .u16 bP,.int .u16 bY,.int .u32 bR,.bool bV] 30)).alloc (.cells #[.int .u32 0,.int .u8 0,.int .u16 0,.int .u16 0,.int .u16 0,.int .u16 0,.int .u32 0,.bool false] 30)):=by(repeat (first|(with_reducible exact Below.refl _ _)|(with_reducible refine Below.drew ?_)|(with_reducible refine ZA ?_ _)|(with_reducible refine Below.alloc ?_ (by simp<;>omega) _)|(with_reducible refine Below.setCell ?_ (by simp<;>omega) _)))
 have hsz:(((w.alloc (.cells #[.int .u32 cC,.int .u8 cE,.int .u16 cB,.int .u16 cT,.int .u16 cP,.int .u16 cY,.int .u32 cR,.bool cV] 30)).alloc (.cells #[.int .u32 bC,.int .u8 bE,.int .u16 bB,.int .u16 bT,.int .u16 bP,.int .u16 bY,.int .u32 bR,.bool bV] 30)).alloc (.cells #[.int .u32 0,.int .u8 0,.int .u16 0,.int .u16 0,.int .u16 0,.int .u16 0,.int .u32 0,.bool false] 30)).heap.size=w.heap.size+1+1+1:=by simp
 go_enter Tryz.func81,Tryz.ntmps81
 go_wp2_with fail
 refine(HF.out _).mono ?_
 rintro e w1 ⟨rfl,hb1⟩
 have hq0:=(hq0).below hb1 (by first|omega|(simp; omega))
 have hq1:=(hq1).below hb1 (by first|omega|(simp; omega))
 have hq2:=(hq2).below hb1 (by first|omega|(simp; omega))
 have kb:=(kb).trans (hb1.mono kb.size)
 have hsz1:w.heap.size+1+1+1≤w1.heap.size:=by have:=hb1.size; omega
 clear hb1
 have p0:=hq0.cell 0
 have pz0:=hq0.frozen 0
 have p1:=hq0.cell 1
 have pz1:=hq0.frozen 1
 have p2:=hq0.cell 2
 have pz2:=hq0.frozen 2
 have p3:=hq0.cell 3
 have pz3:=hq0.frozen 3
 have p4:=hq0.cell 4
 have pz4:=hq0.frozen 4
 have p5:=hq0.cell 5
 have pz5:=hq0.frozen 5
 have p6:=hq0.cell 6
 have pz6:=hq0.frozen 6
 have p7:=hq0.cell 7
 have pz7:=hq0.frozen 7
 simp at p0 p1 p2 p3 p4 p5 p6 p7
 have s0:=hq1.cell 0
 have s1:=hq1.cell 1
 have s2:=hq1.cell 2
 have s3:=hq1.cell 3
 have s4:=hq1.cell 4
 have s5:=hq1.cell 5
 have s6:=hq1.cell 6
 have s7:=hq1.cell 7
 simp at s0 s1 s2 s3 s4 s5 s6 s7
 have r0:=hq2.cell 0
 have rz0:=hq2.frozen 0
 have r1:=hq2.cell 1
 have rz1:=hq2.frozen 1
 have r2:=hq2.cell 2
 have rz2:=hq2.frozen 2
 have r3:=hq2.cell 3
 have rz3:=hq2.frozen 3
 have r4:=hq2.cell 4
 have rz4:=hq2.frozen 4
 have r5:=hq2.cell 5
 have rz5:=hq2.frozen 5
 have r6:=hq2.cell 6
 have rz6:=hq2.frozen 6
 have r7:=hq2.cell 7
 have rz7:=hq2.frozen 7
 simp at r0 r1 r2 r3 r4 r5 r6 r7
 have HK:=Z0 kb
 have H0:=Z0 hq0
 have H1:=Z0 hq1
 have H2:=Z0 hq2
 clear kb hq0 hq1 hq2
 go_wp2_with fail
 have kb:=HK.out
 have hq0:=H0.out
 have hq1:=H1.out
 have hq2:=H2.out
 clear HK H0 H1 H2
 refine(HO.out _).mono ?_
 rintro e w2 ⟨rfl,hb2⟩
 have hq0:=(hq0).below hb2 (by first|omega|(simp; omega))
 have hq1:=(hq1).below hb2 (by first|omega|(simp; omega))
 have hq2:=(hq2).below hb2 (by first|omega|(simp; omega))
 have kb:=(kb).trans (hb2.mono kb.size)
 have hsz2:w.heap.size+1+1+1≤w2.heap.size:=by have:=hb2.size; omega
 clear hb2
 clear p0 p1 p2 p3 p4 p5 p6 p7 s0 s1 s2 s3 s4 s5 s6 s7 r0 r1 r2 r3 r4 r5 r6 r7 pz0 rz0 pz1 rz1 pz2 rz2 pz3 rz3 pz4 rz4 pz5 rz5 pz6 rz6 pz7 rz7
 have p0:=hq0.cell 0
 have pz0:=hq0.frozen 0
 have p1:=hq0.cell 1
 have pz1:=hq0.frozen 1
 have p2:=hq0.cell 2
 have pz2:=hq0.frozen 2
 have p3:=hq0.cell 3
 have pz3:=hq0.frozen 3
 have p4:=hq0.cell 4
 have pz4:=hq0.frozen 4
 have p5:=hq0.cell 5
 have pz5:=hq0.frozen 5
 have p6:=hq0.cell 6
 have pz6:=hq0.frozen 6
 have p7:=hq0.cell 7
 have pz7:=hq0.frozen 7
 simp at p0 p1 p2 p3 p4 p5 p6 p7
 have s0:=hq1.cell 0
 have s1:=hq1.cell 1
 have s2:=hq1.cell 2
 have s3:=hq1.cell 3
 have s4:=hq1.cell 4
 have s5:=hq1.cell 5
 have s6:=hq1.cell 6
 have s7:=hq1.cell 7
 simp at s0 s1 s2 s3 s4 s5 s6 s7
 have r0:=hq2.cell 0
 have rz0:=hq2.frozen 0
 have r1:=hq2.cell 1
 have rz1:=hq2.frozen 1
 have r2:=hq2.cell 2
 have rz2:=hq2.frozen 2
 have r3:=hq2.cell 3
 have rz3:=hq2.frozen 3
 have r4:=hq2.cell 4
 have rz4:=hq2.frozen 4
 have r5:=hq2.cell 5
 have rz5:=hq2.frozen 5
 have r6:=hq2.cell 6
 have rz6:=hq2.frozen 6
 have r7:=hq2.cell 7
 have rz7:=hq2.frozen 7
 simp at r0 r1 r2 r3 r4 r5 r6 r7
 have HK:=Z0 kb
 have H0:=Z0 hq0
 have H1:=Z0 hq1
 have H2:=Z0 hq2
 clear kb hq0 hq1 hq2
 go_wp2_with fail
 have kb:=HK.out
 have hq0:=H0.out
 have hq1:=H1.out
 have hq2:=H2.out
 clear HK H0 H1 H2
 refine(US cC cE cB cT cP cY cR cV _ _ (Blk.new _ _ _)).mono ?_
 rintro e w3 ⟨rfl,hb3⟩
 have hq0:=(hq0.alloc _).below hb3 (by first|omega|(simp; omega))
 have hq1:=(hq1.alloc _).below hb3 (by first|omega|(simp; omega))
 have hq2:=(hq2.alloc _).below hb3 (by first|omega|(simp; omega))
 have kb:=(kb.alloc kb.size _).trans (hb3.mono (by simp; have:=kb.size; omega))
 have hsz3:w.heap.size+1+1+1≤w3.heap.size:=by have:=hb3.size; simp at this; omega
 clear hb3
 clear p0 p1 p2 p3 p4 p5 p6 p7 s0 s1 s2 s3 s4 s5 s6 s7 r0 r1 r2 r3 r4 r5 r6 r7 pz0 rz0 pz1 rz1 pz2 rz2 pz3 rz3 pz4 rz4 pz5 rz5 pz6 rz6 pz7 rz7
 have r0:=hq2.cell 0
 have rz0:=hq2.frozen 0
 have r1:=hq2.cell 1
 have rz1:=hq2.frozen 1
 have r2:=hq2.cell 2
 have rz2:=hq2.frozen 2
 have r3:=hq2.cell 3
 have rz3:=hq2.frozen 3
 have r4:=hq2.cell 4
 have rz4:=hq2.frozen 4
 have r5:=hq2.cell 5
 have rz5:=hq2.frozen 5
 have r6:=hq2.cell 6
 have rz6:=hq2.frozen 6
 have r7:=hq2.cell 7
 have rz7:=hq2.frozen 7
 simp at r0 r1 r2 r3 r4 r5 r6 r7
 have HK:=Z0 kb
 clear kb hq0 hq1 hq2
 go_wp2
 refine bodyPost_ret (v:=.agg #[.int .u32 cC,.int .u8 cE,.int .u16 cB,.int .u16 cT,.int .u16 cP,.int .u16 cY,.int .u32 cR,.bool false]) (by simp[results,Tryz.results81,go_sem,r0,r1,r2,r3,r4,r5,r6,r7]) rfl ⟨rfl,?_⟩
 repeat (first|(with_reducible refine Below.setCell ?_ (by simp<;>omega) _))
 exact HK.out
theorem ZBo (cC cE cB cT cP cY cR:Nat) (cV:Bool) (bC bE bB bT bP bY bR:Nat) (bV:Bool) (x y:Nat) (w:World) (bl:Zbb bC bE bB bT bP bY bR) (hx:(XL bE bB bT bC).1=x) (hy:(XL bE bB bT bC).2=y) (h:WI cY cV=true) (ho:Zca bC bP bY bV 32 x y=true) :
  Calls Tryz.prog 81 #[.agg #[.int .u32 cC,.int .u8 cE,.int .u16 cB,.int .u16 cT,.int .u16 cP,.int .u16 cY,.int .u32 cR,.bool cV],.agg #[.int .u32 bC,.int .u8 bE,.int .u16 bB,.int .u16 bT,.int .u16 bP,.int .u16 bY,.int .u32 bR,.bool bV]] w fun e w'=>e = .returned (.agg #[.int .u32 cC,.int .u8 cE,.int .u16 cB,.int .u16 cT,.int .u16 cP,.int .u16 bC,.int .u32 cR,.bool cV])∧Below w.heap.size w w':=by
 have hfr:=fun W=>UR cC cE cB cT cP cY cR cV W
 rw[h] at hfr
 have HF:=Z0 hfr
 have hov:=fun W=>Zes bC bE bB bT bP bY bR bV 32 x y W bl (by omega) hx hy
 rw[ho] at hov
 have HO:=Z0 hov
 have hb4:=Zuf ho
 clear hfr h hov ho hx hy
 have hq0:Blk (((w.alloc (.cells #[.int .u32 cC,.int .u8 cE,.int .u16 cB,.int .u16 cT,.int .u16 cP,.int .u16 cY,.int .u32 cR,.bool cV] 30)).alloc (.cells #[.int .u32 bC,.int .u8 bE,.int .u16 bB,.int .u16 bT,.int .u16 bP,.int .u16 bY,.int .u32 bR,.bool bV] 30)).alloc (.cells #[.int .u32 0,.int .u8 0,.int .u16 0,.int .u16 0,.int .u16 0,.int .u16 0,.int .u32 0,.bool false] 30)) w.heap.size 30 #[.int .u32 cC,.int .u8 cE,.int .u16 cB,.int .u16 cT,.int .u16 cP,.int .u16 cY,.int .u32 cR,.bool cV]:=by(repeat (first|(with_reducible exact Blk.new _ _ _)|(with_reducible refine Blk.drewN ?_ _)|(with_reducible refine Blk.drew ?_)|exact Blk.newAt (by simp) _ _|(with_reducible refine Blk.alloc ?_ _)))
 have hq1:Blk (((w.alloc (.cells #[.int .u32 cC,.int .u8 cE,.int .u16 cB,.int .u16 cT,.int .u16 cP,.int .u16 cY,.int .u32 cR,.bool cV] 30)).alloc (.cells #[.int .u32 bC,.int .u8 bE,.int .u16 bB,.int .u16 bT,.int .u16 bP,.int .u16 bY,.int .u32 bR,.bool bV] 30)).alloc (.cells #[.int .u32 0,.int .u8 0,.int .u16 0,.int .u16 0,.int .u16 0,.int .u16 0,.int .u32 0,.bool false] 30)) (w.heap.size+1) 30 #[.int .u32 bC,.int .u8 bE,.int .u16 bB,.int .u16 bT,.int .u16 bP,.int .u16 bY,.int .u32 bR,.bool bV]:=by(repeat (first|(with_reducible exact Blk.new _ _ _)|(with_reducible refine Blk.drewN ?_ _)|(with_reducible refine Blk.drew ?_)|exact Blk.newAt (by simp) _ _|(with_reducible refine Blk.alloc ?_ _)))
 have hq2:Blk (((w.alloc (.cells #[.int .u32 cC,.int .u8 cE,.int .u16 cB,.int .u16 cT,.int .u16 cP,.int .u16 cY,.int .u32 cR,.bool cV] 30)).alloc (.cells #[.int .u32 bC,.int .u8 bE,.int .u16 bB,.int .u16 bT,.int .u16 bP,.int .u16 bY,.int .u32 bR,.bool bV] 30)).alloc (.cells #[.int .u32 0,.int .u8 0,.int .u16 0,.int .u16 0,.int .u16 0,.int .u16 0,.int .u32 0,.bool false] 30)) (w.heap.size+1+1) 30 #[.int .u32 0,.int .u8 0,.int .u16 0,.int .u16 0,.int .u16 0,.int .u16 0,.int .u32 0,.bool false]:=by(repeat (first|(with_reducible exact Blk.new _ _ _)|(with_reducible refine Blk.drewN ?_ _)|(with_reducible refine Blk.drew ?_)|exact Blk.newAt (by simp) _ _|(with_reducible refine Blk.alloc ?_ _)))
 have kb:Below w.heap.size w (((w.alloc (.cells #[.int .u32 cC,.int .u8 cE,.int .u16 cB,.int .u16 cT,.int .u16 cP,.int .u16 cY,.int .u32 cR,.bool cV] 30)).alloc (.cells #[.int .u32 bC,.int .u8 bE,.int .u16 bB,.int .u16 bT,.int .u16 bP,.int .u16 bY,.int .u32 bR,.bool bV] 30)).alloc (.cells #[.int .u32 0,.int .u8 0,.int .u16 0,.int .u16 0,.int .u16 0,.int .u16 0,.int .u32 0,.bool false] 30)):=by(repeat (first|(with_reducible exact Below.refl _ _)|(with_reducible refine Below.drew ?_)|(with_reducible refine ZA ?_ _)|(with_reducible refine Below.alloc ?_ (by simp<;>omega) _)|(with_reducible refine Below.setCell ?_ (by simp<;>omega) _)))
 have hsz:(((w.alloc (.cells #[.int .u32 cC,.int .u8 cE,.int .u16 cB,.int .u16 cT,.int .u16 cP,.int .u16 cY,.int .u32 cR,.bool cV] 30)).alloc (.cells #[.int .u32 bC,.int .u8 bE,.int .u16 bB,.int .u16 bT,.int .u16 bP,.int .u16 bY,.int .u32 bR,.bool bV] 30)).alloc (.cells #[.int .u32 0,.int .u8 0,.int .u16 0,.int .u16 0,.int .u16 0,.int .u16 0,.int .u32 0,.bool false] 30)).heap.size=w.heap.size+1+1+1:=by simp
 go_enter Tryz.func81,Tryz.ntmps81
 go_wp2_with fail
 refine(HF.out _).mono ?_
 rintro e w1 ⟨rfl,hb1⟩
 have hq0:=(hq0).below hb1 (by first|omega|(simp; omega))
 have hq1:=(hq1).below hb1 (by first|omega|(simp; omega))
 have hq2:=(hq2).below hb1 (by first|omega|(simp; omega))
 have kb:=(kb).trans (hb1.mono kb.size)
 have hsz1:w.heap.size+1+1+1≤w1.heap.size:=by have:=hb1.size; omega
 clear hb1
 have p0:=hq0.cell 0
 have pz0:=hq0.frozen 0
 have p1:=hq0.cell 1
 have pz1:=hq0.frozen 1
 have p2:=hq0.cell 2
 have pz2:=hq0.frozen 2
 have p3:=hq0.cell 3
 have pz3:=hq0.frozen 3
 have p4:=hq0.cell 4
 have pz4:=hq0.frozen 4
 have p5:=hq0.cell 5
 have pz5:=hq0.frozen 5
 have p6:=hq0.cell 6
 have pz6:=hq0.frozen 6
 have p7:=hq0.cell 7
 have pz7:=hq0.frozen 7
 simp at p0 p1 p2 p3 p4 p5 p6 p7
 have s0:=hq1.cell 0
 have s1:=hq1.cell 1
 have s2:=hq1.cell 2
 have s3:=hq1.cell 3
 have s4:=hq1.cell 4
 have s5:=hq1.cell 5
 have s6:=hq1.cell 6
 have s7:=hq1.cell 7
 simp at s0 s1 s2 s3 s4 s5 s6 s7
 have r0:=hq2.cell 0
 have rz0:=hq2.frozen 0
 have r1:=hq2.cell 1
 have rz1:=hq2.frozen 1
 have r2:=hq2.cell 2
 have rz2:=hq2.frozen 2
 have r3:=hq2.cell 3
 have rz3:=hq2.frozen 3
 have r4:=hq2.cell 4
 have rz4:=hq2.frozen 4
 have r5:=hq2.cell 5
 have rz5:=hq2.frozen 5
 have r6:=hq2.cell 6
 have rz6:=hq2.frozen 6
 have r7:=hq2.cell 7
 have rz7:=hq2.frozen 7
 simp at r0 r1 r2 r3 r4 r5 r6 r7
 have HK:=Z0 kb
 have H0:=Z0 hq0
 have H1:=Z0 hq1
 have H2:=Z0 hq2
 clear kb hq0 hq1 hq2
 go_wp2_with fail
 have kb:=HK.out
 have hq0:=H0.out
 have hq1:=H1.out
 have hq2:=H2.out
 clear HK H0 H1 H2
 refine(HO.out _).mono ?_
 rintro e w2 ⟨rfl,hb2⟩
 have hq0:=(hq0).below hb2 (by first|omega|(simp; omega))
 have hq1:=(hq1).below hb2 (by first|omega|(simp; omega))
 have hq2:=(hq2).below hb2 (by first|omega|(simp; omega))
 have kb:=(kb).trans (hb2.mono kb.size)
 have hsz2:w.heap.size+1+1+1≤w2.heap.size:=by have:=hb2.size; omega
 clear hb2
 clear p0 p1 p2 p3 p4 p5 p6 p7 s0 s1 s2 s3 s4 s5 s6 s7 r0 r1 r2 r3 r4 r5 r6 r7 pz0 rz0 pz1 rz1 pz2 rz2 pz3 rz3 pz4 rz4 pz5 rz5 pz6 rz6 pz7 rz7
 have p0:=hq0.cell 0
 have pz0:=hq0.frozen 0
 have p1:=hq0.cell 1
 have pz1:=hq0.frozen 1
 have p2:=hq0.cell 2
 have pz2:=hq0.frozen 2
 have p3:=hq0.cell 3
 have pz3:=hq0.frozen 3
 have p4:=hq0.cell 4
 have pz4:=hq0.frozen 4
 have p5:=hq0.cell 5
 have pz5:=hq0.frozen 5
 have p6:=hq0.cell 6
 have pz6:=hq0.frozen 6
 have p7:=hq0.cell 7
 have pz7:=hq0.frozen 7
 simp at p0 p1 p2 p3 p4 p5 p6 p7
 have s0:=hq1.cell 0
 have s1:=hq1.cell 1
 have s2:=hq1.cell 2
 have s3:=hq1.cell 3
 have s4:=hq1.cell 4
 have s5:=hq1.cell 5
 have s6:=hq1.cell 6
 have s7:=hq1.cell 7
 simp at s0 s1 s2 s3 s4 s5 s6 s7
 have r0:=hq2.cell 0
 have rz0:=hq2.frozen 0
 have r1:=hq2.cell 1
 have rz1:=hq2.frozen 1
 have r2:=hq2.cell 2
 have rz2:=hq2.frozen 2
 have r3:=hq2.cell 3
 have rz3:=hq2.frozen 3
 have r4:=hq2.cell 4
 have rz4:=hq2.frozen 4
 have r5:=hq2.cell 5
 have rz5:=hq2.frozen 5
 have r6:=hq2.cell 6
 have rz6:=hq2.frozen 6
 have r7:=hq2.cell 7
 have rz7:=hq2.frozen 7
 simp at r0 r1 r2 r3 r4 r5 r6 r7
 have HK:=Z0 kb
 have H0:=Z0 hq0
 have H1:=Z0 hq1
 have H2:=Z0 hq2
 clear kb hq0 hq1 hq2
 go_wp2
 refine bodyPost_ret (v:=.agg #[.int .u32 cC,.int .u8 cE,.int .u16 cB,.int .u16 cT,.int .u16 cP,.int .u16 bC,.int .u32 cR,.bool cV]) (by simp[results,Tryz.results81,go_sem,r0,r1,r2,r3,r4,r5,r6,r7]) rfl ⟨rfl,?_⟩
 repeat (first|(with_reducible refine Below.setCell ?_ (by simp<;>omega) _))
 exact HK.out
attribute [local go_sem ↓] Go.wp_at_zero Go.wp_at_succ
theorem ZBp (cC cE cB cT cP cY cR:Nat) (bC bE bB bT bP bY bR:Nat) (bV:Bool) (w:World)  :
  Calls Tryz.prog 82 #[.agg #[.int .u32 cC,.int .u8 cE,.int .u16 cB,.int .u16 cT,.int .u16 cP,.int .u16 cY,.int .u32 cR,.bool false],.agg #[.int .u32 bC,.int .u8 bE,.int .u16 bB,.int .u16 bT,.int .u16 bP,.int .u16 bY,.int .u32 bR,.bool bV]] w fun e w'=>e = .returned (.agg #[.int .u32 cC,.int .u8 cE,.int .u16 cB,.int .u16 cT,.int .u16 cP,.int .u16 cY,.int .u32 cR,.bool false])∧Below w.heap.size w w':=by
 have hq0:Blk (((w.alloc (.cells #[.int .u32 cC,.int .u8 cE,.int .u16 cB,.int .u16 cT,.int .u16 cP,.int .u16 cY,.int .u32 cR,.bool false] 30)).alloc (.cells #[.int .u32 bC,.int .u8 bE,.int .u16 bB,.int .u16 bT,.int .u16 bP,.int .u16 bY,.int .u32 bR,.bool bV] 30)).alloc (.cells #[.int .u32 0,.int .u8 0,.int .u16 0,.int .u16 0,.int .u16 0,.int .u16 0,.int .u32 0,.bool false] 30)) w.heap.size 30 #[.int .u32 cC,.int .u8 cE,.int .u16 cB,.int .u16 cT,.int .u16 cP,.int .u16 cY,.int .u32 cR,.bool false]:=by(repeat (first|(with_reducible exact Blk.new _ _ _)|(with_reducible refine Blk.drewN ?_ _)|(with_reducible refine Blk.drew ?_)|exact Blk.newAt (by simp) _ _|(with_reducible refine Blk.alloc ?_ _)))
 have hq1:Blk (((w.alloc (.cells #[.int .u32 cC,.int .u8 cE,.int .u16 cB,.int .u16 cT,.int .u16 cP,.int .u16 cY,.int .u32 cR,.bool false] 30)).alloc (.cells #[.int .u32 bC,.int .u8 bE,.int .u16 bB,.int .u16 bT,.int .u16 bP,.int .u16 bY,.int .u32 bR,.bool bV] 30)).alloc (.cells #[.int .u32 0,.int .u8 0,.int .u16 0,.int .u16 0,.int .u16 0,.int .u16 0,.int .u32 0,.bool false] 30)) (w.heap.size+1) 30 #[.int .u32 bC,.int .u8 bE,.int .u16 bB,.int .u16 bT,.int .u16 bP,.int .u16 bY,.int .u32 bR,.bool bV]:=by(repeat (first|(with_reducible exact Blk.new _ _ _)|(with_reducible refine Blk.drewN ?_ _)|(with_reducible refine Blk.drew ?_)|exact Blk.newAt (by simp) _ _|(with_reducible refine Blk.alloc ?_ _)))
 have hq2:Blk (((w.alloc (.cells #[.int .u32 cC,.int .u8 cE,.int .u16 cB,.int .u16 cT,.int .u16 cP,.int .u16 cY,.int .u32 cR,.bool false] 30)).alloc (.cells #[.int .u32 bC,.int .u8 bE,.int .u16 bB,.int .u16 bT,.int .u16 bP,.int .u16 bY,.int .u32 bR,.bool bV] 30)).alloc (.cells #[.int .u32 0,.int .u8 0,.int .u16 0,.int .u16 0,.int .u16 0,.int .u16 0,.int .u32 0,.bool false] 30)) (w.heap.size+1+1) 30 #[.int .u32 0,.int .u8 0,.int .u16 0,.int .u16 0,.int .u16 0,.int .u16 0,.int .u32 0,.bool false]:=by(repeat (first|(with_reducible exact Blk.new _ _ _)|(with_reducible refine Blk.drewN ?_ _)|(with_reducible refine Blk.drew ?_)|exact Blk.newAt (by simp) _ _|(with_reducible refine Blk.alloc ?_ _)))
 have kb:Below w.heap.size w (((w.alloc (.cells #[.int .u32 cC,.int .u8 cE,.int .u16 cB,.int .u16 cT,.int .u16 cP,.int .u16 cY,.int .u32 cR,.bool false] 30)).alloc (.cells #[.int .u32 bC,.int .u8 bE,.int .u16 bB,.int .u16 bT,.int .u16 bP,.int .u16 bY,.int .u32 bR,.bool bV] 30)).alloc (.cells #[.int .u32 0,.int .u8 0,.int .u16 0,.int .u16 0,.int .u16 0,.int .u16 0,.int .u32 0,.bool false] 30)):=by(repeat (first|(with_reducible exact Below.refl _ _)|(with_reducible refine Below.drew ?_)|(with_reducible refine ZA ?_ _)|(with_reducible refine Below.alloc ?_ (by simp<;>omega) _)|(with_reducible refine Below.setCell ?_ (by simp<;>omega) _)))
 have hsz:(((w.alloc (.cells #[.int .u32 cC,.int .u8 cE,.int .u16 cB,.int .u16 cT,.int .u16 cP,.int .u16 cY,.int .u32 cR,.bool false] 30)).alloc (.cells #[.int .u32 bC,.int .u8 bE,.int .u16 bB,.int .u16 bT,.int .u16 bP,.int .u16 bY,.int .u32 bR,.bool bV] 30)).alloc (.cells #[.int .u32 0,.int .u8 0,.int .u16 0,.int .u16 0,.int .u16 0,.int .u16 0,.int .u32 0,.bool false] 30)).heap.size=w.heap.size+1+1+1:=by simp
 go_enter Tryz.func82,Tryz.ntmps82
 go_wp2_with fail
 refine(US cC cE cB cT cP cY cR false _ _ (Blk.newAt (by simp) _ _)).mono ?_
 rintro e w1 ⟨rfl,hb1⟩
 have hq2:=(hq2.alloc _).below hb1 (by first|(simp; done)|(simp; omega))
 have kb:=(kb.alloc kb.size _).trans (hb1.mono (by simp; have:=kb.size; omega))
 clear hb1 hq0 hq1
 have r0:=hq2.cell 0
 have rz0:=hq2.frozen 0
 have r1:=hq2.cell 1
 have rz1:=hq2.frozen 1
 have r2:=hq2.cell 2
 have rz2:=hq2.frozen 2
 have r3:=hq2.cell 3
 have rz3:=hq2.frozen 3
 have r4:=hq2.cell 4
 have rz4:=hq2.frozen 4
 have r5:=hq2.cell 5
 have rz5:=hq2.frozen 5
 have r6:=hq2.cell 6
 have rz6:=hq2.frozen 6
 have r7:=hq2.cell 7
 have rz7:=hq2.frozen 7
 simp at r0 r1 r2 r3 r4 r5 r6 r7
 have HK:=Z0 kb
 clear kb hq2
 go_wp2
 refine bodyPost_ret (v:=.agg #[.int .u32 cC,.int .u8 cE,.int .u16 cB,.int .u16 cT,.int .u16 cP,.int .u16 cY,.int .u32 cR,.bool false]) (by simp[results,Tryz.results82,go_sem,r0,r1,r2,r3,r4,r5,r6,r7]) rfl ⟨rfl,?_⟩
 repeat (first|(with_reducible refine Below.setCell ?_ (by simp<;>omega) _))
 exact HK.out
theorem ZBq (cC cE cB cT cP cY cR:Nat) (bC bE bB bT bP bY bR:Nat) (bV:Bool) (w:World) (hy0:((cY:Int)==0)=true) :
  Calls Tryz.prog 82 #[.agg #[.int .u32 cC,.int .u8 cE,.int .u16 cB,.int .u16 cT,.int .u16 cP,.int .u16 cY,.int .u32 cR,.bool true],.agg #[.int .u32 bC,.int .u8 bE,.int .u16 bB,.int .u16 bT,.int .u16 bP,.int .u16 bY,.int .u32 bR,.bool bV]] w fun e w'=>e = .returned (.agg #[.int .u32 cC,.int .u8 cE,.int .u16 cB,.int .u16 cT,.int .u16 cP,.int .u16 cY,.int .u32 cR,.bool false])∧Below w.heap.size w w':=by
 have hq0:Blk (((w.alloc (.cells #[.int .u32 cC,.int .u8 cE,.int .u16 cB,.int .u16 cT,.int .u16 cP,.int .u16 cY,.int .u32 cR,.bool true] 30)).alloc (.cells #[.int .u32 bC,.int .u8 bE,.int .u16 bB,.int .u16 bT,.int .u16 bP,.int .u16 bY,.int .u32 bR,.bool bV] 30)).alloc (.cells #[.int .u32 0,.int .u8 0,.int .u16 0,.int .u16 0,.int .u16 0,.int .u16 0,.int .u32 0,.bool false] 30)) w.heap.size 30 #[.int .u32 cC,.int .u8 cE,.int .u16 cB,.int .u16 cT,.int .u16 cP,.int .u16 cY,.int .u32 cR,.bool true]:=by(repeat (first|(with_reducible exact Blk.new _ _ _)|(with_reducible refine Blk.drewN ?_ _)|(with_reducible refine Blk.drew ?_)|exact Blk.newAt (by simp) _ _|(with_reducible refine Blk.alloc ?_ _)))
 have hq1:Blk (((w.alloc (.cells #[.int .u32 cC,.int .u8 cE,.int .u16 cB,.int .u16 cT,.int .u16 cP,.int .u16 cY,.int .u32 cR,.bool true] 30)).alloc (.cells #[.int .u32 bC,.int .u8 bE,.int .u16 bB,.int .u16 bT,.int .u16 bP,.int .u16 bY,.int .u32 bR,.bool bV] 30)).alloc (.cells #[.int .u32 0,.int .u8 0,.int .u16 0,.int .u16 0,.int .u16 0,.int .u16 0,.int .u32 0,.bool false] 30)) (w.heap.size+1) 30 #[.int .u32 bC,.int .u8 bE,.int .u16 bB,.int .u16 bT,.int .u16 bP,.int .u16 bY,.int .u32 bR,.bool bV]:=by(repeat (first|(with_reducible exact Blk.new _ _ _)|(with_reducible refine Blk.drewN ?_ _)|(with_reducible refine Blk.drew ?_)|exact Blk.newAt (by simp) _ _|(with_reducible refine Blk.alloc ?_ _)))
 have hq2:Blk (((w.alloc (.cells #[.int .u32 cC,.int .u8 cE,.int .u16 cB,.int .u16 cT,.int .u16 cP,.int .u16 cY,.int .u32 cR,.bool true] 30)).alloc (.cells #[.int .u32 bC,.int .u8 bE,.int .u16 bB,.int .u16 bT,.int .u16 bP,.int .u16 bY,.int .u32 bR,.bool bV] 30)).alloc (.cells #[.int .u32 0,.int .u8 0,.int .u16 0,.int .u16 0,.int .u16 0,.int .u16 0,.int .u32 0,.bool false] 30)) (w.heap.size+1+1) 30 #[.int .u32 0,.int .u8 0,.int .u16 0,.int .u16 0,.int .u16 0,.int .u16 0,.int .u32 0,.bool false]:=by(repeat (first|(with_reducible exact Blk.new _ _ _)|(with_reducible refine Blk.drewN ?_ _)|(with_reducible refine Blk.drew ?_)|exact Blk.newAt (by simp) _ _|(with_reducible refine Blk.alloc ?_ _)))
 have kb:Below w.heap.size w (((w.alloc (.cells #[.int .u32 cC,.int .u8 cE,.int .u16 cB,.int .u16 cT,.int .u16 cP,.int .u16 cY,.int .u32 cR,.bool true] 30)).alloc (.cells #[.int .u32 bC,.int .u8 bE,.int .u16 bB,.int .u16 bT,.int .u16 bP,.int .u16 bY,.int .u32 bR,.bool bV] 30)).alloc (.cells #[.int .u32 0,.int .u8 0,.int .u16 0,.int .u16 0,.int .u16 0,.int .u16 0,.int .u32 0,.bool false] 30)):=by(repeat (first|(with_reducible exact Below.refl _ _)|(with_reducible refine Below.drew ?_)|(with_reducible refine ZA ?_ _)|(with_reducible refine Below.alloc ?_ (by simp<;>omega) _)|(with_reducible refine Below.setCell ?_ (by simp<;>omega) _)))
 have hsz:(((w.alloc (.cells #[.int .u32 cC,.int .u8 cE,.int .u16 cB,.int .u16 cT,.int .u16 cP,.int .u16 cY,.int .u32 cR,.bool true] 30)).alloc (.cells #[.int .u32 bC,.int .u8 bE,.int .u16 bB,.int .u16 bT,.int .u16 bP,.int .u16 bY,.int .u32 bR,.bool bV] 30)).alloc (.cells #[.int .u32 0,.int .u8 0,.int .u16 0,.int .u16 0,.int .u16 0,.int .u16 0,.int .u32 0,.bool false] 30)).heap.size=w.heap.size+1+1+1:=by simp
 go_enter Tryz.func82,Tryz.ntmps82
 go_wp2_with fail
 refine(US cC cE cB cT cP cY cR true _ _ (Blk.newAt (by simp) _ _)).mono ?_
 rintro e w1 ⟨rfl,hb1⟩
 have hq2:=(hq2.alloc _).below hb1 (by first|(simp; done)|(simp; omega))
 have kb:=(kb.alloc kb.size _).trans (hb1.mono (by simp; have:=kb.size; omega))
 clear hb1 hq0 hq1
 have r0:=hq2.cell 0
 have rz0:=hq2.frozen 0
 have r1:=hq2.cell 1
 have rz1:=hq2.frozen 1
 have r2:=hq2.cell 2
 have rz2:=hq2.frozen 2
 have r3:=hq2.cell 3
 have rz3:=hq2.frozen 3
 have r4:=hq2.cell 4
 have rz4:=hq2.frozen 4
 have r5:=hq2.cell 5
 have rz5:=hq2.frozen 5
 have r6:=hq2.cell 6
 have rz6:=hq2.frozen 6
 have r7:=hq2.cell 7
 have rz7:=hq2.frozen 7
 simp at r0 r1 r2 r3 r4 r5 r6 r7
 have HK:=Z0 kb
 clear kb hq2
 go_wp2
 refine bodyPost_ret (v:=.agg #[.int .u32 cC,.int .u8 cE,.int .u16 cB,.int .u16 cT,.int .u16 cP,.int .u16 cY,.int .u32 cR,.bool false]) (by simp[results,Tryz.results82,go_sem,r0,r1,r2,r3,r4,r5,r6,r7]) rfl ⟨rfl,?_⟩
 repeat (first|(with_reducible refine Below.setCell ?_ (by simp<;>omega) _))
 exact HK.out
theorem ZBr (cC cE cB cT cP cY cR:Nat) (bC bE bB bT bP bY bR:Nat) (bV:Bool) (x y:Nat) (w:World) (bl:Zbb bC bE bB bT bP bY bR) (hx:(XL bE bB bT bC).1=x) (hy:(XL bE bB bT bC).2=y) (hy0:((cY:Int)==0)=false) (ho:Zca bC bP bY bV 64 x y=false) :
  Calls Tryz.prog 82 #[.agg #[.int .u32 cC,.int .u8 cE,.int .u16 cB,.int .u16 cT,.int .u16 cP,.int .u16 cY,.int .u32 cR,.bool true],.agg #[.int .u32 bC,.int .u8 bE,.int .u16 bB,.int .u16 bT,.int .u16 bP,.int .u16 bY,.int .u32 bR,.bool bV]] w fun e w'=>e = .returned (.agg #[.int .u32 cC,.int .u8 cE,.int .u16 cB,.int .u16 cT,.int .u16 cP,.int .u16 cY,.int .u32 cR,.bool false])∧Below w.heap.size w w':=by
 have hov:=fun W=>Zes bC bE bB bT bP bY bR bV 64 x y W bl (by omega) hx hy
 rw[ho] at hov
 have HO:=Z0 hov
 clear hov ho hx hy
 have hq0:Blk (((w.alloc (.cells #[.int .u32 cC,.int .u8 cE,.int .u16 cB,.int .u16 cT,.int .u16 cP,.int .u16 cY,.int .u32 cR,.bool true] 30)).alloc (.cells #[.int .u32 bC,.int .u8 bE,.int .u16 bB,.int .u16 bT,.int .u16 bP,.int .u16 bY,.int .u32 bR,.bool bV] 30)).alloc (.cells #[.int .u32 0,.int .u8 0,.int .u16 0,.int .u16 0,.int .u16 0,.int .u16 0,.int .u32 0,.bool false] 30)) w.heap.size 30 #[.int .u32 cC,.int .u8 cE,.int .u16 cB,.int .u16 cT,.int .u16 cP,.int .u16 cY,.int .u32 cR,.bool true]:=by(repeat (first|(with_reducible exact Blk.new _ _ _)|(with_reducible refine Blk.drewN ?_ _)|(with_reducible refine Blk.drew ?_)|exact Blk.newAt (by simp) _ _|(with_reducible refine Blk.alloc ?_ _)))
 have hq1:Blk (((w.alloc (.cells #[.int .u32 cC,.int .u8 cE,.int .u16 cB,.int .u16 cT,.int .u16 cP,.int .u16 cY,.int .u32 cR,.bool true] 30)).alloc (.cells #[.int .u32 bC,.int .u8 bE,.int .u16 bB,.int .u16 bT,.int .u16 bP,.int .u16 bY,.int .u32 bR,.bool bV] 30)).alloc (.cells #[.int .u32 0,.int .u8 0,.int .u16 0,.int .u16 0,.int .u16 0,.int .u16 0,.int .u32 0,.bool false] 30)) (w.heap.size+1) 30 #[.int .u32 bC,.int .u8 bE,.int .u16 bB,.int .u16 bT,.int .u16 bP,.int .u16 bY,.int .u32 bR,.bool bV]:=by(repeat (first|(with_reducible exact Blk.new _ _ _)|(with_reducible refine Blk.drewN ?_ _)|(with_reducible refine Blk.drew ?_)|exact Blk.newAt (by simp) _ _|(with_reducible refine Blk.alloc ?_ _)))
 have hq2:Blk (((w.alloc (.cells #[.int .u32 cC,.int .u8 cE,.int .u16 cB,.int .u16 cT,.int .u16 cP,.int .u16 cY,.int .u32 cR,.bool true] 30)).alloc (.cells #[.int .u32 bC,.int .u8 bE,.int .u16 bB,.int .u16 bT,.int .u16 bP,.int .u16 bY,.int .u32 bR,.bool bV] 30)).alloc (.cells #[.int .u32 0,.int .u8 0,.int .u16 0,.int .u16 0,.int .u16 0,.int .u16 0,.int .u32 0,.bool false] 30)) (w.heap.size+1+1) 30 #[.int .u32 0,.int .u8 0,.int .u16 0,.int .u16 0,.int .u16 0,.int .u16 0,.int .u32 0,.bool false]:=by(repeat (first|(with_reducible exact Blk.new _ _ _)|(with_reducible refine Blk.drewN ?_ _)|(with_reducible refine Blk.drew ?_)|exact Blk.newAt (by simp) _ _|(with_reducible refine Blk.alloc ?_ _)))
 have kb:Below w.heap.size w (((w.alloc (.cells #[.int .u32 cC,.int .u8 cE,.int .u16 cB,.int .u16 cT,.int .u16 cP,.int .u16 cY,.int .u32 cR,.bool true] 30)).alloc (.cells #[.int .u32 bC,.int .u8 bE,.int .u16 bB,.int .u16 bT,.int .u16 bP,.int .u16 bY,.int .u32 bR,.bool bV] 30)).alloc (.cells #[.int .u32 0,.int .u8 0,.int .u16 0,.int .u16 0,.int .u16 0,.int .u16 0,.int .u32 0,.bool false] 30)):=by(repeat (first|(with_reducible exact Below.refl _ _)|(with_reducible refine Below.drew ?_)|(with_reducible refine ZA ?_ _)|(with_reducible refine Below.alloc ?_ (by simp<;>omega) _)|(with_reducible refine Below.setCell ?_ (by simp<;>omega) _)))
 have hsz:(((w.alloc (.cells #[.int .u32 cC,.int .u8 cE,.int .u16 cB,.int .u16 cT,.int .u16 cP,.int .u16 cY,.int .u32 cR,.bool true] 30)).alloc (.cells #[.int .u32 bC,.int .u8 bE,.int .u16 bB,.int .u16 bT,.int .u16 bP,.int .u16 bY,.int .u32 bR,.bool bV] 30)).alloc (.cells #[.int .u32 0,.int .u8 0,.int .u16 0,.int .u16 0,.int .u16 0,.int .u16 0,.int .u32 0,.bool false] 30)).heap.size=w.heap.size+1+1+1:=by simp
 go_enter Tryz.func82,Tryz.ntmps82
 go_wp2_with fail
 refine(HO.out _).mono ?_
 rintro e w1 ⟨rfl,hb1⟩
 have hq0:=(hq0).below hb1 (by first|omega|(simp; omega))
 have hq1:=(hq1).below hb1 (by first|omega|(simp; omega))
 have hq2:=(hq2).below hb1 (by first|omega|(simp; omega))
 have kb:=(kb).trans (hb1.mono kb.size)
 have hsz1:w.heap.size+1+1+1≤w1.heap.size:=by have:=hb1.size; omega
 clear hb1
 have p0:=hq0.cell 0
 have pz0:=hq0.frozen 0
 have p1:=hq0.cell 1
 have pz1:=hq0.frozen 1
 have p2:=hq0.cell 2
 have pz2:=hq0.frozen 2
 have p3:=hq0.cell 3
 have pz3:=hq0.frozen 3
 have p4:=hq0.cell 4
 have pz4:=hq0.frozen 4
 have p5:=hq0.cell 5
 have pz5:=hq0.frozen 5
 have p6:=hq0.cell 6
 have pz6:=hq0.frozen 6
 have p7:=hq0.cell 7
 have pz7:=hq0.frozen 7
 simp at p0 p1 p2 p3 p4 p5 p6 p7
 have s0:=hq1.cell 0
 have s1:=hq1.cell 1
 have s2:=hq1.cell 2
 have s3:=hq1.cell 3
 have s4:=hq1.cell 4
 have s5:=hq1.cell 5
 have s6:=hq1.cell 6
 have s7:=hq1.cell 7
 simp at s0 s1 s2 s3 s4 s5 s6 s7
 have r0:=hq2.cell 0
 have rz0:=hq2.frozen 0
 have r1:=hq2.cell 1
 have rz1:=hq2.frozen 1
 have r2:=hq2.cell 2
 have rz2:=hq2.frozen 2
 have r3:=hq2.cell 3
 have rz3:=hq2.frozen 3
 have r4:=hq2.cell 4
 have rz4:=hq2.frozen 4
 have r5:=hq2.cell 5
 have rz5:=hq2.frozen 5
 have r6:=hq2.cell 6
 have rz6:=hq2.frozen 6
 have r7:=hq2.cell 7
 have rz7:=hq2.frozen 7
 simp at r0 r1 r2 r3 r4 r5 r6 r7
 have HK:=Z0 kb
 have H0:=Z0 hq0
 have H1:=Z0 hq1
 have H2:=Z0 hq2
 clear kb hq0 hq1 hq2
 go_wp2_with fail
 have kb:=HK.out
 have hq0:=H0.out
 have hq1:=H1.out
 have hq2:=H2.out
 clear HK H0 H1 H2
 refine(US cC cE cB cT cP cY cR true _ _ (Blk.new _ _ _)).mono ?_
 rintro e w2 ⟨rfl,hb2⟩
 have hq0:=(hq0.alloc _).below hb2 (by first|omega|(simp; omega))
 have hq1:=(hq1.alloc _).below hb2 (by first|omega|(simp; omega))
 have hq2:=(hq2.alloc _).below hb2 (by first|omega|(simp; omega))
 have kb:=(kb.alloc kb.size _).trans (hb2.mono (by simp; have:=kb.size; omega))
 have hsz2:w.heap.size+1+1+1≤w2.heap.size:=by have:=hb2.size; simp at this; omega
 clear hb2
 clear p0 p1 p2 p3 p4 p5 p6 p7 s0 s1 s2 s3 s4 s5 s6 s7 r0 r1 r2 r3 r4 r5 r6 r7 pz0 rz0 pz1 rz1 pz2 rz2 pz3 rz3 pz4 rz4 pz5 rz5 pz6 rz6 pz7 rz7
 have r0:=hq2.cell 0
 have rz0:=hq2.frozen 0
 have r1:=hq2.cell 1
 have rz1:=hq2.frozen 1
 have r2:=hq2.cell 2
 have rz2:=hq2.frozen 2
 have r3:=hq2.cell 3
 have rz3:=hq2.frozen 3
 have r4:=hq2.cell 4
 have rz4:=hq2.frozen 4
 have r5:=hq2.cell 5
 have rz5:=hq2.frozen 5
 have r6:=hq2.cell 6
 have rz6:=hq2.frozen 6
 have r7:=hq2.cell 7
 have rz7:=hq2.frozen 7
 simp at r0 r1 r2 r3 r4 r5 r6 r7
 have HK:=Z0 kb
 clear kb hq0 hq1 hq2
 go_wp2
 refine bodyPost_ret (v:=.agg #[.int .u32 cC,.int .u8 cE,.int .u16 cB,.int .u16 cT,.int .u16 cP,.int .u16 cY,.int .u32 cR,.bool false]) (by simp[results,Tryz.results82,go_sem,r0,r1,r2,r3,r4,r5,r6,r7]) rfl ⟨rfl,?_⟩
 repeat (first|(with_reducible refine Below.setCell ?_ (by simp<;>omega) _))
 exact HK.out
theorem ZBs (cC cE cB cT cP cY cR:Nat) (bC bE bB bT bP bY bR:Nat) (bV:Bool) (x y:Nat) (w:World) (bl:Zbb bC bE bB bT bP bY bR) (hx:(XL bE bB bT bC).1=x) (hy:(XL bE bB bT bC).2=y) (hy0:((cY:Int)==0)=false) (ho:Zca bC bP bY bV 64 x y=true) (hn:((bC:Int) !=(cY:Int))=true) (_hn2:((bC:Int)==(cY:Int))=false) (_hyl:cY<65536) :
  Calls Tryz.prog 82 #[.agg #[.int .u32 cC,.int .u8 cE,.int .u16 cB,.int .u16 cT,.int .u16 cP,.int .u16 cY,.int .u32 cR,.bool true],.agg #[.int .u32 bC,.int .u8 bE,.int .u16 bB,.int .u16 bT,.int .u16 bP,.int .u16 bY,.int .u32 bR,.bool bV]] w fun e w'=>e = .returned (.agg #[.int .u32 cC,.int .u8 cE,.int .u16 cB,.int .u16 cT,.int .u16 cP,.int .u16 cY,.int .u32 cR,.bool false])∧Below w.heap.size w w':=by
 have hov:=fun W=>Zes bC bE bB bT bP bY bR bV 64 x y W bl (by omega) hx hy
 rw[ho] at hov
 have HO:=Z0 hov
 clear hov ho hx hy
 have hq0:Blk (((w.alloc (.cells #[.int .u32 cC,.int .u8 cE,.int .u16 cB,.int .u16 cT,.int .u16 cP,.int .u16 cY,.int .u32 cR,.bool true] 30)).alloc (.cells #[.int .u32 bC,.int .u8 bE,.int .u16 bB,.int .u16 bT,.int .u16 bP,.int .u16 bY,.int .u32 bR,.bool bV] 30)).alloc (.cells #[.int .u32 0,.int .u8 0,.int .u16 0,.int .u16 0,.int .u16 0,.int .u16 0,.int .u32 0,.bool false] 30)) w.heap.size 30 #[.int .u32 cC,.int .u8 cE,.int .u16 cB,.int .u16 cT,.int .u16 cP,.int .u16 cY,.int .u32 cR,.bool true]:=by(repeat (first|(with_reducible exact Blk.new _ _ _)|(with_reducible refine Blk.drewN ?_ _)|(with_reducible refine Blk.drew ?_)|exact Blk.newAt (by simp) _ _|(with_reducible refine Blk.alloc ?_ _)))
 have hq1:Blk (((w.alloc (.cells #[.int .u32 cC,.int .u8 cE,.int .u16 cB,.int .u16 cT,.int .u16 cP,.int .u16 cY,.int .u32 cR,.bool true] 30)).alloc (.cells #[.int .u32 bC,.int .u8 bE,.int .u16 bB,.int .u16 bT,.int .u16 bP,.int .u16 bY,.int .u32 bR,.bool bV] 30)).alloc (.cells #[.int .u32 0,.int .u8 0,.int .u16 0,.int .u16 0,.int .u16 0,.int .u16 0,.int .u32 0,.bool false] 30)) (w.heap.size+1) 30 #[.int .u32 bC,.int .u8 bE,.int .u16 bB,.int .u16 bT,.int .u16 bP,.int .u16 bY,.int .u32 bR,.bool bV]:=by(repeat (first|(with_reducible exact Blk.new _ _ _)|(with_reducible refine Blk.drewN ?_ _)|(with_reducible refine Blk.drew ?_)|exact Blk.newAt (by simp) _ _|(with_reducible refine Blk.alloc ?_ _)))
 have hq2:Blk (((w.alloc (.cells #[.int .u32 cC,.int .u8 cE,.int .u16 cB,.int .u16 cT,.int .u16 cP,.int .u16 cY,.int .u32 cR,.bool true] 30)).alloc (.cells #[.int .u32 bC,.int .u8 bE,.int .u16 bB,.int .u16 bT,.int .u16 bP,.int .u16 bY,.int .u32 bR,.bool bV] 30)).alloc (.cells #[.int .u32 0,.int .u8 0,.int .u16 0,.int .u16 0,.int .u16 0,.int .u16 0,.int .u32 0,.bool false] 30)) (w.heap.size+1+1) 30 #[.int .u32 0,.int .u8 0,.int .u16 0,.int .u16 0,.int .u16 0,.int .u16 0,.int .u32 0,.bool false]:=by(repeat (first|(with_reducible exact Blk.new _ _ _)|(with_reducible refine Blk.drewN ?_ _)|(with_reducible refine Blk.drew ?_)|exact Blk.newAt (by simp) _ _|(with_reducible refine Blk.alloc ?_ _)))
 have kb:Below w.heap.size w (((w.alloc (.cells #[.int .u32 cC,.int .u8 cE,.int .u16 cB,.int .u16 cT,.int .u16 cP,.int .u16 cY,.int .u32 cR,.bool true] 30)).alloc (.cells #[.int .u32 bC,.int .u8 bE,.int .u16 bB,.int .u16 bT,.int .u16 bP,.int .u16 bY,.int .u32 bR,.bool bV] 30)).alloc (.cells #[.int .u32 0,.int .u8 0,.int .u16 0,.int .u16 0,.int .u16 0,.int .u16 0,.int .u32 0,.bool false] 30)):=by(repeat (first|(with_reducible exact Below.refl _ _)|(with_reducible refine Below.drew ?_)|(with_reducible refine ZA ?_ _)|(with_reducible refine Below.alloc ?_ (by simp<;>omega) _)|(with_reducible refine Below.setCell ?_ (by simp<;>omega) _)))
 have hsz:(((w.alloc (.cells #[.int .u32 cC,.int .u8 cE,.int .u16 cB,.int .u16 cT,.int .u16 cP,.int .u16 cY,.int .u32 cR,.bool true] 30)).alloc (.cells #[.int .u32 bC,.int .u8 bE,.int .u16 bB,.int .u16 bT,.int .u16 bP,.int .u16 bY,.int .u32 bR,.bool bV] 30)).alloc (.cells #[.int .u32 0,.int .u8 0,.int .u16 0,.int .u16 0,.int .u16 0,.int .u16 0,.int .u32 0,.bool false] 30)).heap.size=w.heap.size+1+1+1:=by simp
 go_enter Tryz.func82,Tryz.ntmps82
 go_wp2_with fail
 refine(HO.out _).mono ?_
 rintro e w1 ⟨rfl,hb1⟩
 have hq0:=(hq0).below hb1 (by first|omega|(simp; omega))
 have hq1:=(hq1).below hb1 (by first|omega|(simp; omega))
 have hq2:=(hq2).below hb1 (by first|omega|(simp; omega))
 have kb:=(kb).trans (hb1.mono kb.size)
 have hsz1:w.heap.size+1+1+1≤w1.heap.size:=by have:=hb1.size; omega
 clear hb1
 have p0:=hq0.cell 0
 have pz0:=hq0.frozen 0
 have p1:=hq0.cell 1
 have pz1:=hq0.frozen 1
 have p2:=hq0.cell 2
 have pz2:=hq0.frozen 2
 have p3:=hq0.cell 3
 have pz3:=hq0.frozen 3
 have p4:=hq0.cell 4
 have pz4:=hq0.frozen 4
 have p5:=hq0.cell 5
 have pz5:=hq0.frozen 5
 have p6:=hq0.cell 6
 have pz6:=hq0.frozen 6
 have p7:=hq0.cell 7
 have pz7:=hq0.frozen 7
 simp at p0 p1 p2 p3 p4 p5 p6 p7
 have s0:=hq1.cell 0
 have s1:=hq1.cell 1
 have s2:=hq1.cell 2
 have s3:=hq1.cell 3
 have s4:=hq1.cell 4
 have s5:=hq1.cell 5
 have s6:=hq1.cell 6
 have s7:=hq1.cell 7
 simp at s0 s1 s2 s3 s4 s5 s6 s7
 have r0:=hq2.cell 0
 have rz0:=hq2.frozen 0
 have r1:=hq2.cell 1
 have rz1:=hq2.frozen 1
 have r2:=hq2.cell 2
 have rz2:=hq2.frozen 2
 have r3:=hq2.cell 3
 have rz3:=hq2.frozen 3
 have r4:=hq2.cell 4
 have rz4:=hq2.frozen 4
 have r5:=hq2.cell 5
 have rz5:=hq2.frozen 5
 have r6:=hq2.cell 6
 have rz6:=hq2.frozen 6
 have r7:=hq2.cell 7
 have rz7:=hq2.frozen 7
 simp at r0 r1 r2 r3 r4 r5 r6 r7
 have HK:=Z0 kb
 have H0:=Z0 hq0
 have H1:=Z0 hq1
 have H2:=Z0 hq2
 clear kb hq0 hq1 hq2
 go_wp2_with fail
 have kb:=HK.out
 have hq0:=H0.out
 have hq1:=H1.out
 have hq2:=H2.out
 clear HK H0 H1 H2
 refine(US cC cE cB cT cP cY cR true _ _ (Blk.new _ _ _)).mono ?_
 rintro e w2 ⟨rfl,hb2⟩
 have hq0:=(hq0.alloc _).below hb2 (by first|omega|(simp; omega))
 have hq1:=(hq1.alloc _).below hb2 (by first|omega|(simp; omega))
 have hq2:=(hq2.alloc _).below hb2 (by first|omega|(simp; omega))
 have kb:=(kb.alloc kb.size _).trans (hb2.mono (by simp; have:=kb.size; omega))
 have hsz2:w.heap.size+1+1+1≤w2.heap.size:=by have:=hb2.size; simp at this; omega
 clear hb2
 clear p0 p1 p2 p3 p4 p5 p6 p7 s0 s1 s2 s3 s4 s5 s6 s7 r0 r1 r2 r3 r4 r5 r6 r7 pz0 rz0 pz1 rz1 pz2 rz2 pz3 rz3 pz4 rz4 pz5 rz5 pz6 rz6 pz7 rz7
 have r0:=hq2.cell 0
 have rz0:=hq2.frozen 0
 have r1:=hq2.cell 1
 have rz1:=hq2.frozen 1
 have r2:=hq2.cell 2
 have rz2:=hq2.frozen 2
 have r3:=hq2.cell 3
 have rz3:=hq2.frozen 3
 have r4:=hq2.cell 4
 have rz4:=hq2.frozen 4
 have r5:=hq2.cell 5
 have rz5:=hq2.frozen 5
 have r6:=hq2.cell 6
 have rz6:=hq2.frozen 6
 have r7:=hq2.cell 7
 have rz7:=hq2.frozen 7
 simp at r0 r1 r2 r3 r4 r5 r6 r7
 have HK:=Z0 kb
 clear kb hq0 hq1 hq2
 go_wp2
 refine bodyPost_ret (v:=.agg #[.int .u32 cC,.int .u8 cE,.int .u16 cB,.int .u16 cT,.int .u16 cP,.int .u16 cY,.int .u32 cR,.bool false]) (by simp[results,Tryz.results82,go_sem,r0,r1,r2,r3,r4,r5,r6,r7]) rfl ⟨rfl,?_⟩
 repeat (first|(with_reducible refine Below.setCell ?_ (by simp<;>omega) _))
 exact HK.out
theorem ZBt (cC cE cB cT cP cY cR:Nat) (bC bE bB bT bP bY bR:Nat) (bV:Bool) (x y:Nat) (w:World) (bl:Zbb bC bE bB bT bP bY bR) (hx:(XL bE bB bT bC).1=x) (hy:(XL bE bB bT bC).2=y) (hy0:((cY:Int)==0)=false) (ho:Zca bC bP bY bV 64 x y=true) (hn:((bC:Int) !=(cY:Int))=false) (_hn2:((bC:Int)==(cY:Int))=true) (_hyl:cY<65536) :
  Calls Tryz.prog 82 #[.agg #[.int .u32 cC,.int .u8 cE,.int .u16 cB,.int .u16 cT,.int .u16 cP,.int .u16 cY,.int .u32 cR,.bool true],.agg #[.int .u32 bC,.int .u8 bE,.int .u16 bB,.int .u16 bT,.int .u16 bP,.int .u16 bY,.int .u32 bR,.bool bV]] w fun e w'=>e = .returned (.agg #[.int .u32 cC,.int .u8 cE,.int .u16 cB,.int .u16 cT,.int .u16 cP,.int .u16 0,.int .u32 cR,.bool true])∧Below w.heap.size w w':=by
 have hov:=fun W=>Zes bC bE bB bT bP bY bR bV 64 x y W bl (by omega) hx hy
 rw[ho] at hov
 have HO:=Z0 hov
 clear hov ho hx hy
 have hq0:Blk (((w.alloc (.cells #[.int .u32 cC,.int .u8 cE,.int .u16 cB,.int .u16 cT,.int .u16 cP,.int .u16 cY,.int .u32 cR,.bool true] 30)).alloc (.cells #[.int .u32 bC,.int .u8 bE,.int .u16 bB,.int .u16 bT,.int .u16 bP,.int .u16 bY,.int .u32 bR,.bool bV] 30)).alloc (.cells #[.int .u32 0,.int .u8 0,.int .u16 0,.int .u16 0,.int .u16 0,.int .u16 0,.int .u32 0,.bool false] 30)) w.heap.size 30 #[.int .u32 cC,.int .u8 cE,.int .u16 cB,.int .u16 cT,.int .u16 cP,.int .u16 cY,.int .u32 cR,.bool true]:=by(repeat (first|(with_reducible exact Blk.new _ _ _)|(with_reducible refine Blk.drewN ?_ _)|(with_reducible refine Blk.drew ?_)|exact Blk.newAt (by simp) _ _|(with_reducible refine Blk.alloc ?_ _)))
 have hq1:Blk (((w.alloc (.cells #[.int .u32 cC,.int .u8 cE,.int .u16 cB,.int .u16 cT,.int .u16 cP,.int .u16 cY,.int .u32 cR,.bool true] 30)).alloc (.cells #[.int .u32 bC,.int .u8 bE,.int .u16 bB,.int .u16 bT,.int .u16 bP,.int .u16 bY,.int .u32 bR,.bool bV] 30)).alloc (.cells #[.int .u32 0,.int .u8 0,.int .u16 0,.int .u16 0,.int .u16 0,.int .u16 0,.int .u32 0,.bool false] 30)) (w.heap.size+1) 30 #[.int .u32 bC,.int .u8 bE,.int .u16 bB,.int .u16 bT,.int .u16 bP,.int .u16 bY,.int .u32 bR,.bool bV]:=by(repeat (first|(with_reducible exact Blk.new _ _ _)|(with_reducible refine Blk.drewN ?_ _)|(with_reducible refine Blk.drew ?_)|exact Blk.newAt (by simp) _ _|(with_reducible refine Blk.alloc ?_ _)))
 have hq2:Blk (((w.alloc (.cells #[.int .u32 cC,.int .u8 cE,.int .u16 cB,.int .u16 cT,.int .u16 cP,.int .u16 cY,.int .u32 cR,.bool true] 30)).alloc (.cells #[.int .u32 bC,.int .u8 bE,.int .u16 bB,.int .u16 bT,.int .u16 bP,.int .u16 bY,.int .u32 bR,.bool bV] 30)).alloc (.cells #[.int .u32 0,.int .u8 0,.int .u16 0,.int .u16 0,.int .u16 0,.int .u16 0,.int .u32 0,.bool false] 30)) (w.heap.size+1+1) 30 #[.int .u32 0,.int .u8 0,.int .u16 0,.int .u16 0,.int .u16 0,.int .u16 0,.int .u32 0,.bool false]:=by(repeat (first|(with_reducible exact Blk.new _ _ _)|(with_reducible refine Blk.drewN ?_ _)|(with_reducible refine Blk.drew ?_)|exact Blk.newAt (by simp) _ _|(with_reducible refine Blk.alloc ?_ _)))
 have kb:Below w.heap.size w (((w.alloc (.cells #[.int .u32 cC,.int .u8 cE,.int .u16 cB,.int .u16 cT,.int .u16 cP,.int .u16 cY,.int .u32 cR,.bool true] 30)).alloc (.cells #[.int .u32 bC,.int .u8 bE,.int .u16 bB,.int .u16 bT,.int .u16 bP,.int .u16 bY,.int .u32 bR,.bool bV] 30)).alloc (.cells #[.int .u32 0,.int .u8 0,.int .u16 0,.int .u16 0,.int .u16 0,.int .u16 0,.int .u32 0,.bool false] 30)):=by(repeat (first|(with_reducible exact Below.refl _ _)|(with_reducible refine Below.drew ?_)|(with_reducible refine ZA ?_ _)|(with_reducible refine Below.alloc ?_ (by simp<;>omega) _)|(with_reducible refine Below.setCell ?_ (by simp<;>omega) _)))
 have hsz:(((w.alloc (.cells #[.int .u32 cC,.int .u8 cE,.int .u16 cB,.int .u16 cT,.int .u16 cP,.int .u16 cY,.int .u32 cR,.bool true] 30)).alloc (.cells #[.int .u32 bC,.int .u8 bE,.int .u16 bB,.int .u16 bT,.int .u16 bP,.int .u16 bY,.int .u32 bR,.bool bV] 30)).alloc (.cells #[.int .u32 0,.int .u8 0,.int .u16 0,.int .u16 0,.int .u16 0,.int .u16 0,.int .u32 0,.bool false] 30)).heap.size=w.heap.size+1+1+1:=by simp
 go_enter Tryz.func82,Tryz.ntmps82
 go_wp2_with fail
 refine(HO.out _).mono ?_
 rintro e w1 ⟨rfl,hb1⟩
 have hq0:=(hq0).below hb1 (by first|omega|(simp; omega))
 have hq1:=(hq1).below hb1 (by first|omega|(simp; omega))
 have hq2:=(hq2).below hb1 (by first|omega|(simp; omega))
 have kb:=(kb).trans (hb1.mono kb.size)
 have hsz1:w.heap.size+1+1+1≤w1.heap.size:=by have:=hb1.size; omega
 clear hb1
 have p0:=hq0.cell 0
 have pz0:=hq0.frozen 0
 have p1:=hq0.cell 1
 have pz1:=hq0.frozen 1
 have p2:=hq0.cell 2
 have pz2:=hq0.frozen 2
 have p3:=hq0.cell 3
 have pz3:=hq0.frozen 3
 have p4:=hq0.cell 4
 have pz4:=hq0.frozen 4
 have p5:=hq0.cell 5
 have pz5:=hq0.frozen 5
 have p6:=hq0.cell 6
 have pz6:=hq0.frozen 6
 have p7:=hq0.cell 7
 have pz7:=hq0.frozen 7
 simp at p0 p1 p2 p3 p4 p5 p6 p7
 have s0:=hq1.cell 0
 have s1:=hq1.cell 1
 have s2:=hq1.cell 2
 have s3:=hq1.cell 3
 have s4:=hq1.cell 4
 have s5:=hq1.cell 5
 have s6:=hq1.cell 6
 have s7:=hq1.cell 7
 simp at s0 s1 s2 s3 s4 s5 s6 s7
 have r0:=hq2.cell 0
 have rz0:=hq2.frozen 0
 have r1:=hq2.cell 1
 have rz1:=hq2.frozen 1
 have r2:=hq2.cell 2
 have rz2:=hq2.frozen 2
 have r3:=hq2.cell 3
 have rz3:=hq2.frozen 3
 have r4:=hq2.cell 4
 have rz4:=hq2.frozen 4
 have r5:=hq2.cell 5
 have rz5:=hq2.frozen 5
 have r6:=hq2.cell 6
 have rz6:=hq2.frozen 6
 have r7:=hq2.cell 7
 have rz7:=hq2.frozen 7
 simp at r0 r1 r2 r3 r4 r5 r6 r7
 have HK:=Z0 kb
 have H0:=Z0 hq0
 have H1:=Z0 hq1
 have H2:=Z0 hq2
 clear kb hq0 hq1 hq2
 go_wp2
 refine bodyPost_ret (v:=.agg #[.int .u32 cC,.int .u8 cE,.int .u16 cB,.int .u16 cT,.int .u16 cP,.int .u16 0,.int .u32 cR,.bool true]) (by simp[results,Tryz.results82,go_sem,r0,r1,r2,r3,r4,r5,r6,r7]) rfl ⟨rfl,?_⟩
 repeat (first|(with_reducible refine Below.setCell ?_ (by simp<;>omega) _))
 exact HK.out
def ZwF (cE cB cT cP cY cR bP x y u v:Nat):Bool:=decide (cY=0)&&(XD cE cB cT cP cY cR&&Kl cP bP x y u v)
theorem Zo8 (cC cE cB cT cP cY cR:Nat) (cV:Bool) (bC bE bB bT bP bY bR:Nat) (bV:Bool) (gc gb x y u v:Nat) (w:World) (cl:Zbb cC cE cB cT cP cY cR) (bl:Zbb bC bE bB bT bP bY bR) (hx:(XL cE cB cT cC).1=x) (hy:(XL cE cB cT cC).2=y) (hu:(XL bE bB bT bC).1=u) (hv:(XL bE bB bT bC).2=v)
  (hc:Blk w gc 30 #[.int .u32 cC,.int .u8 cE,.int .u16 cB,.int .u16 cT,.int .u16 cP,.int .u16 cY,.int .u32 cR,.bool cV]) (hb:Blk w gb 30 #[.int .u32 bC,.int .u8 bE,.int .u16 bB,.int .u16 bT,.int .u16 bP,.int .u16 bY,.int .u32 bR,.bool bV]) :
  Calls Tryz.prog 156 #[.pointer (some ⟨gc,0,none⟩),.pointer (some ⟨gb,0,none⟩)] w fun e w'=>e = .returned (.bool (ZwF cE cB cT cP cY cR bP x y u v))∧Below w.heap.size w w':=by
 have hs:=fun W=>Zg2 cC cE cB cT cP cY cR cV W cl
 have hw:=fun W=>Zis cC cE cB cT cP cY cR cV bC bE bB bT bP bY bR bV x y u v W cl bl hx hy hu hv
 unfold ZwF
 obtain⟨k1,h1⟩:∃ k,XD cE cB cT cP cY cR=k:=⟨_,rfl⟩
 obtain⟨k2,h2⟩:∃ k,Kl cP bP x y u v=k:=⟨_,rfl⟩
 rw[h1] at hs ⊢
 rw[h2] at hw ⊢
 have HS:=Z0 hs
 have HW:=Z0 hw
 have lc:=hc.lt
 have lb:=hb.lt
 clear hs hw h1 h2 hx hy hu hv
 have p0:=hc.cell 0
 have p1:=hc.cell 1
 have p2:=hc.cell 2
 have p3:=hc.cell 3
 have p4:=hc.cell 4
 have p5:=hc.cell 5
 have p6:=hc.cell 6
 have p7:=hc.cell 7
 simp at p0 p1 p2 p3 p4 p5 p6 p7
 have HC:=Z0 hc
 have HB:=Z0 hb
 clear hc hb
 by_cases hy0:cY=0
 ·rw[decide_eq_true hy0,Bool.true_and]
  have d0:((cY:Int)==0)=true:=by rw[hy0]; rfl
  clear hy0
  go_enter Tryz.func156,Tryz.ntmps156
  go_wp2_with fail
  refine(HS.out _).mono ?_
  rintro e w1 ⟨rfl,hb1⟩
  have hc1:=HC.out.below hb1 lc
  have hd1:=HB.out.below hb1 lb
  have q0:=hc1.cell 0
  have q1:=hc1.cell 1
  have q2:=hc1.cell 2
  have q3:=hc1.cell 3
  have q4:=hc1.cell 4
  have q5:=hc1.cell 5
  have q6:=hc1.cell 6
  have q7:=hc1.cell 7
  simp at q0 q1 q2 q3 q4 q5 q6 q7
  have s0:=hd1.cell 0
  have s1:=hd1.cell 1
  have s2:=hd1.cell 2
  have s3:=hd1.cell 3
  have s4:=hd1.cell 4
  have s5:=hd1.cell 5
  have s6:=hd1.cell 6
  have s7:=hd1.cell 7
  simp at s0 s1 s2 s3 s4 s5 s6 s7
  have HB1:=Z0 hb1
  clear hb1 hc1 hd1
  cases k1 with
  | false =>
   go_wp2
   go_ret
   exact⟨rfl,HB1.out⟩
  | true =>
   go_wp2_with fail
   refine(HW.out _).mono ?_
   rintro e w2 ⟨rfl,hb2⟩
   have HB2:=Z0 hb2; clear hb2
   go_wp2
   go_ret
   exact⟨XC (by simp),HB1.out.trans (HB2.out.mono HB1.out.size)⟩
 ·rw[decide_eq_false hy0,Bool.false_and]
  have d0:((cY:Int)==0)=false:=by simp; omega
  clear hy0
  go_enter Tryz.func156,Tryz.ntmps156
  go_wp2
  go_ret
  exact⟨rfl,Below.refl _ _⟩
theorem Zrb (cC cE cB cT cP cY cR:Nat) (cV:Bool) (bC bE bB bT bP bY bR:Nat) (bV:Bool) (x y u v:Nat) (w:World) (cl:Zbb cC cE cB cT cP cY cR) (bl:Zbb bC bE bB bT bP bY bR) (hx:(XL cE cB cT cC).1=x) (hy:(XL cE cB cT cC).2=y) (hu:(XL bE bB bT bC).1=u) (hv:(XL bE bB bT bC).2=v) :
  Calls Tryz.prog 83 #[.agg #[.int .u32 cC,.int .u8 cE,.int .u16 cB,.int .u16 cT,.int .u16 cP,.int .u16 cY,.int .u32 cR,.bool cV],.agg #[.int .u32 bC,.int .u8 bE,.int .u16 bB,.int .u16 bT,.int .u16 bP,.int .u16 bY,.int .u32 bR,.bool bV]] w fun e w'=>e = .returned (.agg #[.int .u32 cC,.int .u8 cE,.int .u16 cB,.int .u16 cT,.int .u16 cP,.int .u16 cY,.int .u32 cR,.bool (WI bY bV&&ZwF cE cB cT cP cY cR bP x y u v)])∧Below w.heap.size w w':=by
 obtain⟨k,hkb⟩:∃ k,(WI bY bV&&ZwF cE cB cT cP cY cR bP x y u v)=k:=⟨_,rfl⟩
 rw[hkb]
 have HKB:=Z0 hkb
 clear hkb
 have hq0:Blk (((w.alloc (.cells #[.int .u32 cC,.int .u8 cE,.int .u16 cB,.int .u16 cT,.int .u16 cP,.int .u16 cY,.int .u32 cR,.bool cV] 30)).alloc (.cells #[.int .u32 bC,.int .u8 bE,.int .u16 bB,.int .u16 bT,.int .u16 bP,.int .u16 bY,.int .u32 bR,.bool bV] 30)).alloc (.cells #[.int .u32 0,.int .u8 0,.int .u16 0,.int .u16 0,.int .u16 0,.int .u16 0,.int .u32 0,.bool false] 30)) w.heap.size 30 #[.int .u32 cC,.int .u8 cE,.int .u16 cB,.int .u16 cT,.int .u16 cP,.int .u16 cY,.int .u32 cR,.bool cV]:=by(repeat (first|(with_reducible exact Blk.new _ _ _)|(with_reducible refine Blk.drewN ?_ _)|(with_reducible refine Blk.drew ?_)|exact Blk.newAt (by simp) _ _|(with_reducible refine Blk.alloc ?_ _)))
 have hq1:Blk (((w.alloc (.cells #[.int .u32 cC,.int .u8 cE,.int .u16 cB,.int .u16 cT,.int .u16 cP,.int .u16 cY,.int .u32 cR,.bool cV] 30)).alloc (.cells #[.int .u32 bC,.int .u8 bE,.int .u16 bB,.int .u16 bT,.int .u16 bP,.int .u16 bY,.int .u32 bR,.bool bV] 30)).alloc (.cells #[.int .u32 0,.int .u8 0,.int .u16 0,.int .u16 0,.int .u16 0,.int .u16 0,.int .u32 0,.bool false] 30)) (w.heap.size+1) 30 #[.int .u32 bC,.int .u8 bE,.int .u16 bB,.int .u16 bT,.int .u16 bP,.int .u16 bY,.int .u32 bR,.bool bV]:=by(repeat (first|(with_reducible exact Blk.new _ _ _)|(with_reducible refine Blk.drewN ?_ _)|(with_reducible refine Blk.drew ?_)|exact Blk.newAt (by simp) _ _|(with_reducible refine Blk.alloc ?_ _)))
 have hq2:Blk (((w.alloc (.cells #[.int .u32 cC,.int .u8 cE,.int .u16 cB,.int .u16 cT,.int .u16 cP,.int .u16 cY,.int .u32 cR,.bool cV] 30)).alloc (.cells #[.int .u32 bC,.int .u8 bE,.int .u16 bB,.int .u16 bT,.int .u16 bP,.int .u16 bY,.int .u32 bR,.bool bV] 30)).alloc (.cells #[.int .u32 0,.int .u8 0,.int .u16 0,.int .u16 0,.int .u16 0,.int .u16 0,.int .u32 0,.bool false] 30)) (w.heap.size+1+1) 30 #[.int .u32 0,.int .u8 0,.int .u16 0,.int .u16 0,.int .u16 0,.int .u16 0,.int .u32 0,.bool false]:=by(repeat (first|(with_reducible exact Blk.new _ _ _)|(with_reducible refine Blk.drewN ?_ _)|(with_reducible refine Blk.drew ?_)|exact Blk.newAt (by simp) _ _|(with_reducible refine Blk.alloc ?_ _)))
 have kb:Below w.heap.size w (((w.alloc (.cells #[.int .u32 cC,.int .u8 cE,.int .u16 cB,.int .u16 cT,.int .u16 cP,.int .u16 cY,.int .u32 cR,.bool cV] 30)).alloc (.cells #[.int .u32 bC,.int .u8 bE,.int .u16 bB,.int .u16 bT,.int .u16 bP,.int .u16 bY,.int .u32 bR,.bool bV] 30)).alloc (.cells #[.int .u32 0,.int .u8 0,.int .u16 0,.int .u16 0,.int .u16 0,.int .u16 0,.int .u32 0,.bool false] 30)):=by(repeat (first|(with_reducible exact Below.refl _ _)|(with_reducible refine Below.drew ?_)|(with_reducible refine ZA ?_ _)|(with_reducible refine Below.alloc ?_ (by simp<;>omega) _)|(with_reducible refine Below.setCell ?_ (by simp<;>omega) _)))
 have hsz:(((w.alloc (.cells #[.int .u32 cC,.int .u8 cE,.int .u16 cB,.int .u16 cT,.int .u16 cP,.int .u16 cY,.int .u32 cR,.bool cV] 30)).alloc (.cells #[.int .u32 bC,.int .u8 bE,.int .u16 bB,.int .u16 bT,.int .u16 bP,.int .u16 bY,.int .u32 bR,.bool bV] 30)).alloc (.cells #[.int .u32 0,.int .u8 0,.int .u16 0,.int .u16 0,.int .u16 0,.int .u16 0,.int .u32 0,.bool false] 30)).heap.size=w.heap.size+1+1+1:=by simp
 go_enter Tryz.func83,Tryz.ntmps83
 go_wp2_with fail
 refine(ZBl cC cE cB cT cP cY cR cV _ _ 131 156 #[.agg #[.int .u32 bC,.int .u8 bE,.int .u16 bB,.int .u16 bT,.int .u16 bP,.int .u16 bY,.int .u32 bR,.bool bV]] #[] #[] #[.pointer (some ⟨w.heap.size,0,none⟩),.pointer (some ⟨w.heap.size+1,0,none⟩)] (WI bY bV) (ZwF cE cB cT cP cY cR bP x y u v) (Blk.newAt (by simp) _ _) (fun W=>by kernel_rfl) (fun W=>by kernel_rfl)
  (fun W hW=>UR bC bE bB bT bP bY bR bV W)
  (fun W hW=>Zo8 cC cE cB cT cP cY cR cV bC bE bB bT bP bY bR bV w.heap.size (w.heap.size+1) x y u v W cl bl hx hy hu hv (Blk.below (hq0.alloc _) hW (by first|(simp; done)|(simp; omega))) (Blk.below (hq1.alloc _) hW (by first|(simp; done)|(simp; omega))))).mono ?_
 rintro e w1 ⟨he,hb1⟩
 rw[HKB.out] at he
 subst he
 have hq2:=(hq2.alloc _).below hb1 (by first|(simp; done)|(simp; omega))
 have kb:=(kb.alloc kb.size _).trans (hb1.mono (by simp; have:=kb.size; omega))
 clear hb1 hq0 hq1
 have r0:=hq2.cell 0
 have rz0:=hq2.frozen 0
 have r1:=hq2.cell 1
 have rz1:=hq2.frozen 1
 have r2:=hq2.cell 2
 have rz2:=hq2.frozen 2
 have r3:=hq2.cell 3
 have rz3:=hq2.frozen 3
 have r4:=hq2.cell 4
 have rz4:=hq2.frozen 4
 have r5:=hq2.cell 5
 have rz5:=hq2.frozen 5
 have r6:=hq2.cell 6
 have rz6:=hq2.frozen 6
 have r7:=hq2.cell 7
 have rz7:=hq2.frozen 7
 simp at r0 r1 r2 r3 r4 r5 r6 r7
 have HK:=Z0 kb
 clear kb hq2
 go_wp2
 refine bodyPost_ret (v:=.agg #[.int .u32 cC,.int .u8 cE,.int .u16 cB,.int .u16 cT,.int .u16 cP,.int .u16 cY,.int .u32 cR,.bool k]) (by simp[results,Tryz.results83,go_sem,r0,r1,r2,r3,r4,r5,r6,r7]) rfl ⟨rfl,?_⟩
 repeat (first|(with_reducible refine Below.setCell ?_ (by simp<;>omega) _))
 exact HK.out
attribute [local go_sem ↓] Go.wp_at_zero Go.wp_at_succ
def inR (lo hi x y:Nat):Bool:=decide (x≤lo)&&decide (hi≤y)
theorem Zug (X ex:Bool) (g h:Nat) (w:World) (hg:Blk w g 4 #[.bool X]) (hh:Blk w h 4 #[.bool ex]) :
  Calls Tryz.prog 174 #[.pointer (some ⟨g,0,none⟩),.pointer (some ⟨h,0,none⟩)] w fun e w'=>e = .returned (.bool (X || !ex))∧Below w.heap.size w w':=by
 have p0:=hg.cell 0
 have q0:=hh.cell 0
 simp at p0 q0
 clear hg hh
 cases X with
 | true =>
  go_enter Tryz.func174,Tryz.ntmps174
  go_wp2
  go_ret
  exact⟨rfl,Below.refl _ _⟩
 | false =>
  go_enter Tryz.func174,Tryz.ntmps174
  go_wp2
  go_ret
  exact⟨XC (by simp),Below.refl _ _⟩
theorem Zuh (cC cE cB cT cP cY cR:Nat) (cV:Bool) (z:Int) (lo hi x y g h:Nat) (w:World) (cl:Zbb cC cE cB cT cP cY cR) (hx:(XL cE cB cT cC).1=x) (hy:(XL cE cB cT cC).2=y)
  (HR:Hid (∀ W,Calls Tryz.prog 176 #[.int .u32 cC,.int .u64 z] W fun e' w'=>e' = .returned (.tuple #[.int .u32 lo,.int .u64 hi,.bool true])∧W=w'))
  (hg:Blk w g 30 #[.int .u32 cC,.int .u8 cE,.int .u16 cB,.int .u16 cT,.int .u16 cP,.int .u16 cY,.int .u32 cR,.bool cV]) (hh:Blk w h 116 #[.int .u64 z]) :
  Calls Tryz.prog 175 #[.pointer (some ⟨g,0,none⟩),.pointer (some ⟨h,0,none⟩)] w fun e w'=>e = .returned (.bool (inR lo hi x y))∧Below w.heap.size w w':=by
 have hr:=fun W=>Zer cC cE cB cT cP cY cR cV x y W cl hx hy
 have HG:=Z0 hr
 have q0:=hh.cell 0
 simp at q0
 have p0:=hg.cell 0
 have p1:=hg.cell 1
 have p2:=hg.cell 2
 have p3:=hg.cell 3
 have p4:=hg.cell 4
 have p5:=hg.cell 5
 have p6:=hg.cell 6
 have p7:=hg.cell 7
 simp at p0 p1 p2 p3 p4 p5 p6 p7
 clear hg hh hr hx hy
 unfold inR
 by_cases c1:x≤lo
 ·rw[decide_eq_true c1,Bool.true_and]
  go_enter Tryz.func175,Tryz.ntmps175
  go_wp2_with fail
  refine(HR.out _).mono ?_
  rintro e w1 ⟨rfl,rfl⟩
  go_wp2_with fail
  refine(HG.out _).mono ?_
  rintro e w2 ⟨rfl,hb2⟩
  have HB2:=Z0 hb2; clear hb2
  go_wp2
  go_ret
  exact⟨rfl,HB2.out⟩
 ·have d1:decide (x≤lo)=false:=by simpa using c1
  rw[d1,Bool.false_and]
  go_enter Tryz.func175,Tryz.ntmps175
  go_wp2_with fail
  refine(HR.out _).mono ?_
  rintro e w1 ⟨rfl,rfl⟩
  go_wp2_with fail
  refine(HG.out _).mono ?_
  rintro e w2 ⟨rfl,hb2⟩
  have HB2:=Z0 hb2; clear hb2
  go_wp2
  go_ret
  exact⟨rfl,HB2.out⟩
set_option maxHeartbeats 1000000 in
theorem ZxP (cC cE cB cT cP cY cR:Nat) (cV:Bool) (s:Nat) (ex X:Bool) (e b t lo hi x y:Nat) (w:World) (cl:Zbb cC cE cB cT cP cY cR) (hs:s<4294967296) (hx:(XL cE cB cT cC).1=x) (hy:(XL cE cB cT cC).2=y)
  (HR:Hid (∀ W,Calls Tryz.prog 176 #[.int .u32 cC,.int .u64 ((cC:Int)+s)] W fun e' w'=>e' = .returned (.tuple #[.int .u32 lo,.int .u64 hi,.bool true])∧W=w'))
  (HE:Hid (∀ W,Calls Tryz.prog 69 #[.int .u32 cC,.int .u64 ((cC:Int)+s)] W fun e' w'=>e' = .returned (.tuple #[.int .u8 e,.int .u16 b,.int .u16 t,.bool X,.bool true])∧∃ m,w'=W.drewN m)) :
  Calls Tryz.prog 154 #[.agg #[.int .u32 cC,.int .u8 cE,.int .u16 cB,.int .u16 cT,.int .u16 cP,.int .u16 cY,.int .u32 cR,.bool cV],.int .u32 s,.bool ex] w fun e' w'=>e' = .returned (.agg #[.int .u32 cC,.int .u8 e,.int .u16 b,.int .u16 t,.int .u16 cP,.int .u16 cY,.int .u32 cR,.bool (WI cY cV&&(X || !ex)&&inR lo hi x y)])∧Below w.heap.size w w':=by
 have hcl:cC<4294967296:=cl.1
 obtain⟨k,hkb⟩:∃ k,(WI cY cV&&(X || !ex)&&inR lo hi x y)=k:=⟨_,rfl⟩
 rw[hkb]
 have HKB:=Z0 hkb
 clear hkb
 go_enter Tryz.func154,Tryz.ntmps154
 go_wp2_with fail
 refine(HE.out _).mono ?_
 rintro e' w1 ⟨rfl,m,rfl⟩
 go_wp2_with fail
 refine(ZEu cC e b t cP cY cR cV _ _ 131 174 175 #[.agg #[.int .u32 cC,.int .u8 cE,.int .u16 cB,.int .u16 cT,.int .u16 cP,.int .u16 cY,.int .u32 cR,.bool cV]] #[] #[] #[.pointer (some ⟨w.heap.size+1+1+1+1+1,0,none⟩),.pointer (some ⟨w.heap.size+1,0,none⟩)] #[] #[.pointer (some ⟨w.heap.size,0,none⟩),.pointer (some ⟨w.heap.size+1+1+1,0,none⟩)] (WI cY cV) (X || !ex) (inR lo hi x y) (Blk.newAt (by simp) _ _) (fun W=>by kernel_rfl) (fun W=>by kernel_rfl) (fun W=>by kernel_rfl)
  (fun W hW=>UR cC cE cB cT cP cY cR cV W)
  (fun W hW=>Zug X ex (w.heap.size+1+1+1+1+1) (w.heap.size+1) W (Blk.below (by(repeat (first|(with_reducible exact Blk.new _ _ _)|(with_reducible refine Blk.drewN ?_ _)|(with_reducible refine Blk.drew ?_)|((with_reducible refine Blk.newAt ?_ _ _); (simp; done))|(with_reducible refine Blk.far ?_ (by first|(simp; done)|(simp; omega)) _)|(with_reducible refine Blk.alloc ?_ _)))) hW (by first|(simp; done)|(simp; omega))) (Blk.below (by(repeat (first|(with_reducible exact Blk.new _ _ _)|(with_reducible refine Blk.drewN ?_ _)|(with_reducible refine Blk.drew ?_)|((with_reducible refine Blk.newAt ?_ _ _); (simp; done))|(with_reducible refine Blk.far ?_ (by first|(simp; done)|(simp; omega)) _)|(with_reducible refine Blk.alloc ?_ _)))) hW (by first|(simp; done)|(simp; omega))))
  (fun W hW=>Zuh cC cE cB cT cP cY cR cV ((cC:Int)+s) lo hi x y w.heap.size (w.heap.size+1+1+1) W cl hx hy HR (Blk.below (by(repeat (first|(with_reducible exact Blk.new _ _ _)|(with_reducible refine Blk.drewN ?_ _)|(with_reducible refine Blk.drew ?_)|((with_reducible refine Blk.newAt ?_ _ _); (simp; done))|(with_reducible refine Blk.far ?_ (by first|(simp; done)|(simp; omega)) _)|(with_reducible refine Blk.alloc ?_ _)))) hW (by first|(simp; done)|(simp; omega))) (Blk.below (by(repeat (first|(with_reducible exact Blk.new _ _ _)|(with_reducible refine Blk.drewN ?_ _)|(with_reducible refine Blk.drew ?_)|((with_reducible refine Blk.newAt ?_ _ _); (simp; done))|(with_reducible refine Blk.far ?_ (by first|(simp; done)|(simp; omega)) _)|(with_reducible refine Blk.alloc ?_ _)))) hW (by first|(simp; done)|(simp; omega))))).mono ?_
 rintro e' w2 ⟨he,hb2⟩
 rw[HKB.out] at he
 subst he
 have hq2:Blk w2 (w.heap.size+1+1) 30 #[.int .u32 0,.int .u8 0,.int .u16 0,.int .u16 0,.int .u16 0,.int .u16 0,.int .u32 0,.bool false]:=Blk.below (by(repeat (first|(with_reducible exact Blk.new _ _ _)|(with_reducible refine Blk.drewN ?_ _)|(with_reducible refine Blk.drew ?_)|((with_reducible refine Blk.newAt ?_ _ _); (simp; done))|(with_reducible refine Blk.far ?_ (by first|(simp; done)|(simp; omega)) _)|(with_reducible refine Blk.alloc ?_ _)))) hb2 (by first|(simp; done)|(simp; omega))
 have kb:Below w.heap.size w w2:=Below.trans (by(repeat (first|(with_reducible exact Below.refl _ _)|(with_reducible refine Below.drew ?_)|(with_reducible refine ZA ?_ _)|(with_reducible refine Below.alloc ?_ (by simp<;>omega) _)|(with_reducible refine Below.setCell ?_ (by simp<;>omega) _)))) (hb2.mono (by first|(simp; done)|(simp; omega)))
 clear hb2
 have r0:=hq2.cell 0
 have rz0:=hq2.frozen 0
 have r1:=hq2.cell 1
 have rz1:=hq2.frozen 1
 have r2:=hq2.cell 2
 have rz2:=hq2.frozen 2
 have r3:=hq2.cell 3
 have rz3:=hq2.frozen 3
 have r4:=hq2.cell 4
 have rz4:=hq2.frozen 4
 have r5:=hq2.cell 5
 have rz5:=hq2.frozen 5
 have r6:=hq2.cell 6
 have rz6:=hq2.frozen 6
 have r7:=hq2.cell 7
 have rz7:=hq2.frozen 7
 simp at r0 r1 r2 r3 r4 r5 r6 r7
 have HK:=Z0 kb
 clear kb hq2
 go_wp2
 refine bodyPost_ret (v:=.agg #[.int .u32 cC,.int .u8 e,.int .u16 b,.int .u16 t,.int .u16 cP,.int .u16 cY,.int .u32 cR,.bool k]) (by simp[results,Tryz.results154,go_sem,r0,r1,r2,r3,r4,r5,r6,r7]) rfl ⟨rfl,?_⟩
 repeat (first|(with_reducible refine Below.setCell ?_ (by simp<;>omega) _))
 exact HK.out
theorem ZxQ (cC cE cB cT cP cY cR:Nat) (cV:Bool) (s:Nat) (ex:Bool) (e b t:Nat) (X:Bool) (w:World) (cl:Zbb cC cE cB cT cP cY cR) (hs:s<4294967296)
  (HE:Hid (∀ W,Calls Tryz.prog 69 #[.int .u32 cC,.int .u64 ((cC:Int)+s)] W fun e' w'=>e' = .returned (.tuple #[.int .u8 e,.int .u16 b,.int .u16 t,.bool X,.bool false])∧∃ m,w'=W.drewN m)) :
  Calls Tryz.prog 154 #[.agg #[.int .u32 cC,.int .u8 cE,.int .u16 cB,.int .u16 cT,.int .u16 cP,.int .u16 cY,.int .u32 cR,.bool cV],.int .u32 s,.bool ex] w fun e' w'=>e' = .returned (.agg #[.int .u32 cC,.int .u8 cE,.int .u16 cB,.int .u16 cT,.int .u16 cP,.int .u16 cY,.int .u32 cR,.bool false])∧Below w.heap.size w w':=by
 have hcl:cC<4294967296:=cl.1
 go_enter Tryz.func154,Tryz.ntmps154
 go_wp2_with fail
 refine(HE.out _).mono ?_
 rintro e' w1 ⟨rfl,m,rfl⟩
 go_wp2_with fail
 refine(US cC cE cB cT cP cY cR cV _ _ (Blk.newAt (by simp) _ _)).mono ?_
 rintro e' w2 ⟨rfl,hb2⟩
 have hq2:Blk w2 (w.heap.size+1+1) 30 #[.int .u32 0,.int .u8 0,.int .u16 0,.int .u16 0,.int .u16 0,.int .u16 0,.int .u32 0,.bool false]:=Blk.below (by(repeat (first|(with_reducible exact Blk.new _ _ _)|(with_reducible refine Blk.drewN ?_ _)|(with_reducible refine Blk.drew ?_)|((with_reducible refine Blk.newAt ?_ _ _); (simp; done))|(with_reducible refine Blk.far ?_ (by first|(simp; done)|(simp; omega)) _)|(with_reducible refine Blk.alloc ?_ _)))) hb2 (by first|(simp; done)|(simp; omega))
 have kb:Below w.heap.size w w2:=Below.trans (by(repeat (first|(with_reducible exact Below.refl _ _)|(with_reducible refine Below.drew ?_)|(with_reducible refine ZA ?_ _)|(with_reducible refine Below.alloc ?_ (by simp<;>omega) _)|(with_reducible refine Below.setCell ?_ (by simp<;>omega) _)))) (hb2.mono (by first|(simp; done)|(simp; omega)))
 clear hb2
 have r0:=hq2.cell 0
 have rz0:=hq2.frozen 0
 have r1:=hq2.cell 1
 have rz1:=hq2.frozen 1
 have r2:=hq2.cell 2
 have rz2:=hq2.frozen 2
 have r3:=hq2.cell 3
 have rz3:=hq2.frozen 3
 have r4:=hq2.cell 4
 have rz4:=hq2.frozen 4
 have r5:=hq2.cell 5
 have rz5:=hq2.frozen 5
 have r6:=hq2.cell 6
 have rz6:=hq2.frozen 6
 have r7:=hq2.cell 7
 have rz7:=hq2.frozen 7
 simp at r0 r1 r2 r3 r4 r5 r6 r7
 have HK:=Z0 kb
 clear kb hq2
 go_wp2
 refine bodyPost_ret (v:=.agg #[.int .u32 cC,.int .u8 cE,.int .u16 cB,.int .u16 cT,.int .u16 cP,.int .u16 cY,.int .u32 cR,.bool false]) (by simp[results,Tryz.results154,go_sem,r0,r1,r2,r3,r4,r5,r6,r7]) rfl ⟨rfl,?_⟩
 repeat (first|(with_reducible refine Below.setCell ?_ (by simp<;>omega) _))
 exact HK.out
def ZAY (cC cY:Nat) (cV:Bool) (s:Nat) (ex:Bool) (x y:Nat):Bool:=WI cY cV&&(ZkT cC (cC+s) || !ex)&&inR (dnN cC (Z2 cC (cC+s))) (upN (cC+s) (Z2 cC (cC+s))) x y
theorem Zrc (cC cE cB cT cP cY cR:Nat) (cV:Bool) (s:Nat) (ex:Bool) (x y:Nat) (w:World) (cl:Zbb cC cE cB cT cP cY cR) (hs:s<4294967296) (hx:(XL cE cB cT cC).1=x) (hy:(XL cE cB cT cC).2=y) (hr:QF cC (cC+s)=true) :
  Calls Tryz.prog 154 #[.agg #[.int .u32 cC,.int .u8 cE,.int .u16 cB,.int .u16 cT,.int .u16 cP,.int .u16 cY,.int .u32 cR,.bool cV],.int .u32 s,.bool ex] w fun e' w'=>e' = .returned (.agg #[.int .u32 cC,.int .u8 (Zc6 cC (cC+s)),.int .u16 (ZdI cC (cC+s)),.int .u16 (ZdJ cC (cC+s)),.int .u16 cP,.int .u16 cY,.int .u32 cR,.bool (ZAY cC cY cV s ex x y)])∧Below w.heap.size w w':=by
 have hr2:=(K2 hr).2
 refine ZxP cC cE cB cT cP cY cR cV s ex (ZkT cC (cC+s)) _ _ _ _ _ x y w cl hs hx hy (fun W => ?_) (fun W => ?_)
 ·have:=Zq1 cC (cC+s) W cl.1 (by omega)
  rw[hr,if_pos rfl,if_pos rfl,show((cC+s:Nat):Int)=(cC:Int)+s by omega] at this
  exact this
 ·have:=Zfr cC (cC+s) W cl.1 (by omega)
  rw[hr,show((cC+s:Nat):Int)=(cC:Int)+s by omega] at this
  exact this
theorem Zrd (cC cE cB cT cP cY cR:Nat) (cV:Bool) (s:Nat) (ex:Bool) (w:World) (cl:Zbb cC cE cB cT cP cY cR) (hs:s<4294967296) (hr:QF cC (cC+s)=false) :
  Calls Tryz.prog 154 #[.agg #[.int .u32 cC,.int .u8 cE,.int .u16 cB,.int .u16 cT,.int .u16 cP,.int .u16 cY,.int .u32 cR,.bool cV],.int .u32 s,.bool ex] w fun e' w'=>e' = .returned (.agg #[.int .u32 cC,.int .u8 cE,.int .u16 cB,.int .u16 cT,.int .u16 cP,.int .u16 cY,.int .u32 cR,.bool false])∧Below w.heap.size w w':=by
 refine ZxQ cC cE cB cT cP cY cR cV s ex (Zc6 cC (cC+s)) (ZdI cC (cC+s)) (ZdJ cC (cC+s)) (ZkT cC (cC+s)) w cl hs (fun W => ?_)
 have:=Zfr cC (cC+s) W cl.1 (by have:=cl.1; omega)
 rw[hr,show((cC+s:Nat):Int)=(cC:Int)+s by omega] at this
 exact this
theorem ZBu (cC cE cB cT cP cY cR:Nat) (cV:Bool) (s:Nat) (e b t cP' cY' cR' z:Nat) (k:Bool) (w:World)
  (HS:Hid (∀ W,Calls Tryz.prog 154 #[.agg #[.int .u32 cC,.int .u8 cE,.int .u16 cB,.int .u16 cT,.int .u16 cP,.int .u16 cY,.int .u32 cR,.bool cV],.int .u32 s,.bool false] W fun e' w'=>e' = .returned (.agg #[.int .u32 z,.int .u8 e,.int .u16 b,.int .u16 t,.int .u16 cP',.int .u16 cY',.int .u32 cR',.bool k])∧Below W.heap.size W w')) :
  Calls Tryz.prog 78 #[.agg #[.int .u32 cC,.int .u8 cE,.int .u16 cB,.int .u16 cT,.int .u16 cP,.int .u16 cY,.int .u32 cR,.bool cV],.int .u32 s] w fun e' w'=>e' = .returned (.agg #[.int .u32 z,.int .u8 e,.int .u16 b,.int .u16 t,.int .u16 cP',.int .u16 cY',.int .u32 cR',.bool k])∧Below w.heap.size w w':=by
 go_enter Tryz.func78,Tryz.ntmps78
 go_wp2_with fail
 refine(HS.out _).mono ?_
 rintro e' w2 ⟨rfl,hb2⟩
 have hq2:Blk w2 (w.heap.size+1) 30 #[.int .u32 0,.int .u8 0,.int .u16 0,.int .u16 0,.int .u16 0,.int .u16 0,.int .u32 0,.bool false]:=Blk.below (by(repeat (first|(with_reducible exact Blk.new _ _ _)|(with_reducible refine Blk.drewN ?_ _)|(with_reducible refine Blk.drew ?_)|((with_reducible refine Blk.newAt ?_ _ _); (simp; done))|(with_reducible refine Blk.far ?_ (by first|(simp; done)|(simp; omega)) _)|(with_reducible refine Blk.alloc ?_ _)))) hb2 (by first|(simp; done)|(simp; omega))
 have kb:Below w.heap.size w w2:=Below.trans (by(repeat (first|(with_reducible exact Below.refl _ _)|(with_reducible refine Below.drew ?_)|(with_reducible refine ZA ?_ _)|(with_reducible refine Below.alloc ?_ (by simp<;>omega) _)|(with_reducible refine Below.setCell ?_ (by simp<;>omega) _)))) (hb2.mono (by first|(simp; done)|(simp; omega)))
 clear hb2
 have r0:=hq2.cell 0
 have rz0:=hq2.frozen 0
 have r1:=hq2.cell 1
 have rz1:=hq2.frozen 1
 have r2:=hq2.cell 2
 have rz2:=hq2.frozen 2
 have r3:=hq2.cell 3
 have rz3:=hq2.frozen 3
 have r4:=hq2.cell 4
 have rz4:=hq2.frozen 4
 have r5:=hq2.cell 5
 have rz5:=hq2.frozen 5
 have r6:=hq2.cell 6
 have rz6:=hq2.frozen 6
 have r7:=hq2.cell 7
 have rz7:=hq2.frozen 7
 simp at r0 r1 r2 r3 r4 r5 r6 r7
 have HK:=Z0 kb
 clear kb hq2
 go_wp2
 refine bodyPost_ret (v:=.agg #[.int .u32 z,.int .u8 e,.int .u16 b,.int .u16 t,.int .u16 cP',.int .u16 cY',.int .u32 cR',.bool k]) (by simp[results,Tryz.results78,go_sem,r0,r1,r2,r3,r4,r5,r6,r7]) rfl ⟨rfl,?_⟩
 repeat (first|(with_reducible refine Below.setCell ?_ (by simp<;>omega) _))
 exact HK.out
theorem ZEv (cC cE cB cT cP cY cR:Nat) (cV:Bool) (s x y:Nat) (w:World) (cl:Zbb cC cE cB cT cP cY cR) (hs:s<4294967296) (hx:(XL cE cB cT cC).1=x) (hy:(XL cE cB cT cC).2=y) (hr:QF cC (cC+s)=true) :
  Calls Tryz.prog 78 #[.agg #[.int .u32 cC,.int .u8 cE,.int .u16 cB,.int .u16 cT,.int .u16 cP,.int .u16 cY,.int .u32 cR,.bool cV],.int .u32 s] w fun e' w'=>e' = .returned (.agg #[.int .u32 cC,.int .u8 (Zc6 cC (cC+s)),.int .u16 (ZdI cC (cC+s)),.int .u16 (ZdJ cC (cC+s)),.int .u16 cP,.int .u16 cY,.int .u32 cR,.bool (ZAY cC cY cV s false x y)])∧Below w.heap.size w w' :=
 ZBu cC cE cB cT cP cY cR cV s _ _ _ _ _ _ _ _ w (fun W=>Zrc cC cE cB cT cP cY cR cV s false x y W cl hs hx hy hr)
theorem ZEw (cC cE cB cT cP cY cR:Nat) (cV:Bool) (s:Nat) (w:World) (cl:Zbb cC cE cB cT cP cY cR) (hs:s<4294967296) (hr:QF cC (cC+s)=false) :
  Calls Tryz.prog 78 #[.agg #[.int .u32 cC,.int .u8 cE,.int .u16 cB,.int .u16 cT,.int .u16 cP,.int .u16 cY,.int .u32 cR,.bool cV],.int .u32 s] w fun e' w'=>e' = .returned (.agg #[.int .u32 cC,.int .u8 cE,.int .u16 cB,.int .u16 cT,.int .u16 cP,.int .u16 cY,.int .u32 cR,.bool false])∧Below w.heap.size w w' :=
 ZBu cC cE cB cT cP cY cR cV s _ _ _ _ _ _ _ _ w (fun W=>Zrd cC cE cB cT cP cY cR cV s false W cl hs hr)
theorem Zre (cC cE cB cT cP cY cR:Nat) (cV:Bool) (s:Nat) (e b t cP' cY' cR' z:Nat) (k:Bool) (w:World)
  (HS:Hid (∀ W,Calls Tryz.prog 154 #[.agg #[.int .u32 cC,.int .u8 cE,.int .u16 cB,.int .u16 cT,.int .u16 cP,.int .u16 cY,.int .u32 cR,.bool cV],.int .u32 s,.bool true] W fun e' w'=>e' = .returned (.agg #[.int .u32 z,.int .u8 e,.int .u16 b,.int .u16 t,.int .u16 cP',.int .u16 cY',.int .u32 cR',.bool k])∧Below W.heap.size W w')) :
  Calls Tryz.prog 79 #[.agg #[.int .u32 cC,.int .u8 cE,.int .u16 cB,.int .u16 cT,.int .u16 cP,.int .u16 cY,.int .u32 cR,.bool cV],.int .u32 s] w fun e' w'=>e' = .returned (.agg #[.int .u32 z,.int .u8 e,.int .u16 b,.int .u16 t,.int .u16 cP',.int .u16 cY',.int .u32 cR',.bool k])∧Below w.heap.size w w':=by
 go_enter Tryz.func79,Tryz.ntmps79
 go_wp2_with fail
 refine(HS.out _).mono ?_
 rintro e' w2 ⟨rfl,hb2⟩
 have hq2:Blk w2 (w.heap.size+1) 30 #[.int .u32 0,.int .u8 0,.int .u16 0,.int .u16 0,.int .u16 0,.int .u16 0,.int .u32 0,.bool false]:=Blk.below (by(repeat (first|(with_reducible exact Blk.new _ _ _)|(with_reducible refine Blk.drewN ?_ _)|(with_reducible refine Blk.drew ?_)|((with_reducible refine Blk.newAt ?_ _ _); (simp; done))|(with_reducible refine Blk.far ?_ (by first|(simp; done)|(simp; omega)) _)|(with_reducible refine Blk.alloc ?_ _)))) hb2 (by first|(simp; done)|(simp; omega))
 have kb:Below w.heap.size w w2:=Below.trans (by(repeat (first|(with_reducible exact Below.refl _ _)|(with_reducible refine Below.drew ?_)|(with_reducible refine ZA ?_ _)|(with_reducible refine Below.alloc ?_ (by simp<;>omega) _)|(with_reducible refine Below.setCell ?_ (by simp<;>omega) _)))) (hb2.mono (by first|(simp; done)|(simp; omega)))
 clear hb2
 have r0:=hq2.cell 0
 have rz0:=hq2.frozen 0
 have r1:=hq2.cell 1
 have rz1:=hq2.frozen 1
 have r2:=hq2.cell 2
 have rz2:=hq2.frozen 2
 have r3:=hq2.cell 3
 have rz3:=hq2.frozen 3
 have r4:=hq2.cell 4
 have rz4:=hq2.frozen 4
 have r5:=hq2.cell 5
 have rz5:=hq2.frozen 5
 have r6:=hq2.cell 6
 have rz6:=hq2.frozen 6
 have r7:=hq2.cell 7
 have rz7:=hq2.frozen 7
 simp at r0 r1 r2 r3 r4 r5 r6 r7
 have HK:=Z0 kb
 clear kb hq2
 go_wp2
 refine bodyPost_ret (v:=.agg #[.int .u32 z,.int .u8 e,.int .u16 b,.int .u16 t,.int .u16 cP',.int .u16 cY',.int .u32 cR',.bool k]) (by simp[results,Tryz.results79,go_sem,r0,r1,r2,r3,r4,r5,r6,r7]) rfl ⟨rfl,?_⟩
 repeat (first|(with_reducible refine Below.setCell ?_ (by simp<;>omega) _))
 exact HK.out
theorem ZxR (cC cE cB cT cP cY cR:Nat) (cV:Bool) (s x y:Nat) (w:World) (cl:Zbb cC cE cB cT cP cY cR) (hs:s<4294967296) (hx:(XL cE cB cT cC).1=x) (hy:(XL cE cB cT cC).2=y) (hr:QF cC (cC+s)=true) :
  Calls Tryz.prog 79 #[.agg #[.int .u32 cC,.int .u8 cE,.int .u16 cB,.int .u16 cT,.int .u16 cP,.int .u16 cY,.int .u32 cR,.bool cV],.int .u32 s] w fun e' w'=>e' = .returned (.agg #[.int .u32 cC,.int .u8 (Zc6 cC (cC+s)),.int .u16 (ZdI cC (cC+s)),.int .u16 (ZdJ cC (cC+s)),.int .u16 cP,.int .u16 cY,.int .u32 cR,.bool (ZAY cC cY cV s true x y)])∧Below w.heap.size w w' :=
 Zre cC cE cB cT cP cY cR cV s _ _ _ _ _ _ _ _ w (fun W=>Zrc cC cE cB cT cP cY cR cV s true x y W cl hs hx hy hr)
theorem ZxS (cC cE cB cT cP cY cR:Nat) (cV:Bool) (s:Nat) (w:World) (cl:Zbb cC cE cB cT cP cY cR) (hs:s<4294967296) (hr:QF cC (cC+s)=false) :
  Calls Tryz.prog 79 #[.agg #[.int .u32 cC,.int .u8 cE,.int .u16 cB,.int .u16 cT,.int .u16 cP,.int .u16 cY,.int .u32 cR,.bool cV],.int .u32 s] w fun e' w'=>e' = .returned (.agg #[.int .u32 cC,.int .u8 cE,.int .u16 cB,.int .u16 cT,.int .u16 cP,.int .u16 cY,.int .u32 cR,.bool false])∧Below w.heap.size w w' :=
 Zre cC cE cB cT cP cY cR cV s _ _ _ _ _ _ _ _ w (fun W=>Zrd cC cE cB cT cP cY cR cV s true W cl hs hr)
open Sy
set_option maxRecDepth 100000
theorem Ze:ZdF Tryz.prog=true:=by kernel_rfl
def z64 (n:Nat):List Value:=List.replicate n (.int .u64 0)
def ZEx (a b:Nat):=some { block:=a,off:=b:Addr }
def ZAZ (a:IntKind) (b:Int):=Value.int a (b:Int)
def ZBw (a b:Nat):=Value.pointer (ZEx a b)
def JM (a:Int):=Value.int i64 a
def ZkY (a b c d:Nat):=Value.slice (ZEx a b) c d
def ZBx (a:Nat) (b:Sy.Heap) (c:List (Nat×Nat)) (d:List (Nat×Bool)) (e:Nat) (f:Prop):={ n:=a,h:=b,lo:=c,esc:=0,T:=d,k:=e,O:=f:St }
def ZxT (a:Bool) (b:Option (Nat×Nat)) (c:List Value):={ rw:=a,op:=b,cells:=c,it:=none:Sy.Blk }
def ZdL (a:Int):=ZAZ i64 a
def Vb (a:Bool) (b:Prop):=bif a then b else False
def KL (a:Prop):=True∧a
def Zrf (a:Int):=ZAZ u8 a
def Zh2 (a b:Int):=i64.wrap (a.tdiv b)
def ZxU (a b c:Nat):=ZkY a b c 9223372036854775873
def ZS:=(0:Int)
def YL:=(16:Int)
def Zf9 (a b:Int):=i64.wrap (a+b)
def ZkZ (a b:Int):=decide (a<b)
def Zuj (a:Bool):=a=false
def QK (a:Prop) (b:Bool):=a∧Zuj b
def ZdM (a:Prop) (b c:Bool):=QK (QK a b) c
def Zg3 (a:Nat):=ZBw a 0
def Zg4 (a b:Int):=Zh2 (i64.wrap a) b
def ZbQ (a:List Value):=Value.tuple { toList:=a:Array Value }
def Zmn (a b:Int):=decide (a≤b)
def UI (a:Prop) (b c d e:Bool):=ZdM (ZdM a b c) d e
def YM (a:Int):=ZkZ a ZS
def YE (a:Int):=(i64.wrap a).toNat
def Vm:=Zg3 66
def QR:=(256:Int)
def Zh3 (a:Nat) (b:Sy.Heap) (c:List (Nat×Nat)) (d:List (Nat×Bool)) (e:Nat):=ZBx a b c d e True
def ZxV (a:Bool) (b:Nat×Nat) (c:List Value):=ZxT a (some b) c
def Zk0 (a b:Int):=Zf9 a (b:Int)
def Zc7 (a:Nat) (b:Sy.Heap) (c:List (Nat×Nat)) (d e f:Nat):=Zh3 a b c (tb d e) f
def Zg5 (a b:Int):=i64.wrap (a*b)
def Qr:=(64:Int)
def Qe:=Zg3 67
def YQ:=ZdL 0
def Zrg (a:Bool) (b:List Value):=ZxT a none b
def Zk1 (a:Int):=ZkZ a YL
def Zet (a b:Int):=ZkZ a (b:Int)
def Zg6 (a:Int):=Zmn ZS a
def Yn (a:List Value):=Zrg true a
def Zbr (a b:Int):=Zk0 (Zg4 a YL) b
def ZaB (a:Nat):=ZkY 64 0 a 9223372036854775872
def Ziu (a:Nat) (b:Sy.Heap) (c d e:Nat):=Zc7 a b [] c d e
def QS:=(1:Int)
def Vd (a:Int) (b:Bool):=Zg6 a&&b
def X3 (a:Bool):=KL (Zuj a)
def ZnC (a:Nat):=[Vm,ZaB a]
def Zbs (a b:Nat) (c:List Value):=ZxV true (a,b) c
def UT (a:Nat) (b:List Value):=Zbs a 1 b
def VZ (a:Int):=Zg4 a YL
def ZnD (a b c d:Nat):=Ziu a [] b c d
def Zrh (a:Nat):=ZxU 65 0 a
def ZaC (a:Nat):=Yn (ZnC a)
def Zk2:=(140737488355328:Int)
def ZnE (a:Value) (b:Nat):=[a,Zrh b]
def Zg7 (a:Int):=ZAZ u64 a
def Zk3 (a:Int):=Zet a 9223372036854775808
def Zg8:=(1048576:Int)
def Y5 (a b:Nat):=ZnD 64 a b 0
def Zbt:=Zrf 0
def Uj (a b:Int):=decide (a>b)
def XP (a:Value) (b:Nat) (c:Sy.Heap) (d:List (Nat×Nat)) (e:Nat) (f:Prop):=some (a,ZBx b c d [] e f)
def ZaD (a:Prop) (b c d:Int) (e:Bool):=UI a (YM b) (YM c) (YM d) e
def Zcb (a:Int):=Zg5 a QR
def ZL:=Bx.mk (And.intro @ZEx.eq_1 (And.intro @ZAZ.eq_1 (And.intro @ZBw.eq_1 (And.intro @JM.eq_1 (And.intro @ZkY.eq_1 (And.intro @ZBx.eq_1 (And.intro @ZxT.eq_1 (And.intro @ZdL.eq_1 (And.intro @Vb.eq_1 (And.intro @KL.eq_1 (And.intro @Zrf.eq_1 (And.intro @Zh2.eq_1 (And.intro @ZxU.eq_1 (And.intro @ZS.eq_1 (And.intro @YL.eq_1 (And.intro @Zf9.eq_1 (And.intro @ZkZ.eq_1 (And.intro @Zuj.eq_1 (And.intro @QK.eq_1 (And.intro @ZdM.eq_1 (And.intro @Zg3.eq_1 (And.intro @Zg4.eq_1 (And.intro @ZbQ.eq_1 (And.intro @Zmn.eq_1 (And.intro @UI.eq_1 (And.intro @YM.eq_1 (And.intro @YE.eq_1 (And.intro @Vm.eq_1 (And.intro @QR.eq_1 (And.intro @Zh3.eq_1 (And.intro @ZxV.eq_1 (And.intro @Zk0.eq_1 (And.intro @Zc7.eq_1 (And.intro @Zg5.eq_1 (And.intro @Qr.eq_1 (And.intro @Qe.eq_1 (And.intro @YQ.eq_1 (And.intro @Zrg.eq_1 (And.intro @Zk1.eq_1 (And.intro @Zet.eq_1 (And.intro @Zg6.eq_1 (And.intro @Yn.eq_1 (And.intro @Zbr.eq_1 (And.intro @ZaB.eq_1 (And.intro @Ziu.eq_1 (And.intro @QS.eq_1 (And.intro @Vd.eq_1 (And.intro @X3.eq_1 (And.intro @ZnC.eq_1 (And.intro @Zbs.eq_1 (And.intro @UT.eq_1 (And.intro @VZ.eq_1 (And.intro @ZnD.eq_1 (And.intro @Zrh.eq_1 (And.intro @ZaC.eq_1 (And.intro @Zk2.eq_1 (And.intro @ZnE.eq_1 (And.intro @Zg7.eq_1 (And.intro @Zk3.eq_1 (And.intro @Zg8.eq_1 (And.intro @Y5.eq_1 (And.intro @Zbt.eq_1 (And.intro @Uj.eq_1 (And.intro @XP.eq_1 (And.intro @ZaD.eq_1 @Zcb.eq_1)))))))))))))))))))))))))))))))))))))))))))))))))))))))))))))))))
theorem Zui (p:Int):evF Tryz.prog Zg Zf 100 40 9 [JM p] (Y5 6 0)=XP (ZbQ [Qe,YQ]) 68 [(67,ZaC (YE (p*QR))),(66,Yn (ZnE (JM (VZ (p*QR))) (Zg4 (Zbr (p*QR) 64-QS) Qr).toNat)),(65,UT 65 (Zf4 (Zg4 (Zbr (p*QR) 64-QS) Qr).toNat [Zg7 0])),(64,UT 64 (Zf4 (YE (p*QR)) [Zbt]))] [(65,(Zg4 (Zbr (p*QR) 64-QS) Qr).toNat),(64,YE (p*QR))] 6 (Vb (Vd (Zg4 (Zbr (p*QR) 64-QS) Qr) (decide (Zg4 (Zbr (p*QR) 64-QS) Qr≤Zg4 (Zbr (p*QR) 64-QS) Qr))&&Zmn ((8:Int)*Zg4 (Zbr (p*QR) 64-QS) Qr) Zk2&&Zk3 (Zg4 (Zbr (p*QR) 64-QS) Qr)) (ZaD (Vb (Vd (Zcb p) (decide (Zcb p≤Zcb p))&&Zmn (QS*Zcb p) Zk2&&Zk3 (Zcb p)) (QK (X3 (Zk1 p)) (Uj p (1024:Int)))) (VZ (p*QR)) (VZ (p*QR)) (VZ (p*QR)) (Uj (VZ (p*QR)) Zg8))):=by kernel_rfl
def ZBv:=Bx.mk (by have h := @Zui; simp(maxSteps:=99999999) only[ZL.v, -eq_self] at h; exact h)
theorem XE (n:Nat):∀ v∈z64 n,Z4 v=true:=fun v hv=>by rw[(List.mem_replicate.1 hv).2]; rfl
theorem Zri {q:Nat→Bool} (h:∀ l,l<68→q l=true) (m n:Nat):∀ v∈([.int .i64 (m:Nat),.slice (some ⟨65,0,none⟩) n (big+65)]:List Value),okV q 3 v=true:=by
 intro v hv
 have h5:=h 65 (by omega)
 simp only[List.mem_cons,List.not_mem_nil,or_false] at hv
 rcases hv with rfl|rfl<;>simp[okV,JA,h5,Z4]
theorem Zfe:∀ l,l<68→(fun l=>Nat.blt l 68) l=true:=fun l hl=>Qq hl
theorem Zjy (l:Nat) (h:l<68):YD 68 68 id (fun l=>Nat.blt l 68) l=true:=by
 unfold YD
 simp only[Qq h,cond_true,id,Nat.beq_refl,Bool.and_self,Bool.or_true]
def leW:Nat→Nat→List UInt8
 | 0,_=>[]
 | w+1,n=>UInt8.ofNat (n%256)::leW w (n/256)
def ZEd (w v:Int):Con:=Con.pure [.string ⟨⟨[]⟩⟩,.int .i64 w,.int .u32 v] (.string ⟨⟨leW w.toNat v.toNat⟩⟩)
def ZwG (w v:Int):Prop:=w=4∧0≤v∧v<4294967296
def arL (rw:Bool) (zs:List UInt8) (N m n:Nat):Sy.Heap:=[(67,⟨rw,none,[.pointer (some ⟨66,0,none⟩),.slice (some ⟨64,0,none⟩) N (big+64)],none⟩),(66,⟨rw,none,[.int .i64 (m:Nat),.slice (some ⟨65,0,none⟩) n (big+65)],none⟩),(65,⟨rw,some (65,1),z64 n,none⟩),(64,⟨rw,some (64,1),u8s zs,none⟩)]
def arO (N n:Nat):List (Nat×Nat):=[(65,n),(64,N)]
theorem Zl (xs:List UInt8):∀ v∈u8s xs,Z4 v=true:=fun v hv=>by
 obtain⟨b,_,rfl⟩:=List.mem_map.1 hv; rfl
theorem Wq (zs:List UInt8):(u8s zs).length=zs.length:=by simp[u8s]
theorem Xj (a:List UInt8) (n:Nat):WH n (u8s a)=decide (n≤a.length):=by
 rw[Bool.eq_iff_iff,W8]; simp[u8s]
theorem Zeu (bs:List UInt8) (i:Nat) (b:Int):ZF [.int .u8 b] (u8s bs) i=decide (i<bs.length):=by
 simp only[ZF,Bool.and_true]
 unfold u8s
 rw[Jh _ _ (0:UInt8)]
 by_cases h:i<bs.length
 ·rw[if_pos h]; simp[h,Zkh]
 ·rw[if_neg h]; simp[h]; rfl
theorem ZxW (bs:List UInt8) (i:Nat):Yi (ZC undef (u8s bs) i)=((bs.getD i 0).toNat:Int):=by
 unfold u8s
 rw[Jh _ _ (0:UInt8)]
 by_cases h:i<bs.length
 ·rw[if_pos h]; rfl
 ·rw[if_neg h]; simp[List.getD,List.getElem?_eq_none (Nat.le_of_not_lt h)]; rfl
def Xc (i:Nat) (bs zs:List UInt8):List UInt8:=zs.take i++bs++zs.drop (i+bs.length)
theorem Zbc (i:Nat) (bs zs:List UInt8) (h:i+bs.length≤zs.length):(Xc i bs zs).length=zs.length:=by
 simp[Xc]; omega
theorem ZcR (i:Nat) (bs zs:List UInt8) (h:i+bs.length≤zs.length) (j:Nat):(Xc i bs zs)[j]? = if i≤j∧j<i+bs.length then bs[j-i]? else zs[j]?:=by
 unfold Xc
 by_cases h1:j<i
 ·rw[if_neg (by omega),List.append_assoc,List.getElem?_append_left (by simp; omega),List.getElem?_take_of_lt h1]
 ·by_cases h2:j<i+bs.length
  ·rw[if_pos ⟨by omega,h2⟩,List.append_assoc,List.getElem?_append_right (by simp; omega),List.getElem?_append_left (by simp; omega)]
   congr 1; simp; omega
  ·rw[if_neg (by omega),List.getElem?_append_right (by simp; omega),List.getElem?_drop]
   congr 1; simp; omega
theorem Uk (i:Nat) (bs zs:List UInt8) (vs:List Value) (hv:vs=u8s bs) (h:i+bs.length≤zs.length):Ym i vs (u8s zs)=u8s (Xc i bs zs):=by
 subst hv
 apply List.ext_getElem?
 intro j
 rw[Vv _ _ _ _ (by simpa [u8s] using h)]
 simp only[u8s,List.getElem?_map,List.length_map]
 rw[ZcR i bs zs h]
 split<;>rfl
theorem Y1:∀ (w n:Nat),(leW w n).length=w
 | 0,_=>rfl
 | w+1,n=>by simp[leW,Y1 w]
theorem fdA (n k:Nat):(n:Int).fdiv (k:Int)=((n/k:Nat):Int):=by
 rw[Int.fdiv_eq_ediv_of_nonneg _ (by omega)]; rfl
theorem w8A (n:Nat):(u8.wrap (n:Int)).toNat=n%256:=by rw[IntKind.wrap_u8]; omega
theorem UJ (n:Nat) (h:n<4294967296):u32.wrap (n:Int)=(n:Int):=by simp only[IntKind.wrap_u32]; omega
theorem Wb (n:Nat) (h:n<9000000000000000000):i64.wrap (n:Int)=(n:Int):=wrap_i64 (by omega) (by omega)
def YG (a:Int):=Value.int u32 a
def Vz (a:Int):=UInt8.ofNat (u8.wrap a).toNat
def QG (a:Value) (b:Prop):=some (a,b)
def Xd (a:List UInt8):=Value.string { data:={ toList:=a:Array UInt8 }:ByteArray }
def Zg9:=(16777216:Int)
def Km:=(65536:Int)
def Zbu:=ZdL 4
def ZnF (a:Nat):=a.blt 9223372036854775808
def ZZ:=Bx.mk (And.intro @YG.eq_1 (And.intro @Vz.eq_1 (And.intro @QG.eq_1 (And.intro @Xd.eq_1 (And.intro @Zg9.eq_1 (And.intro @Km.eq_1 (And.intro @Zbu.eq_1 @ZnF.eq_1)))))))
theorem ZBy (s:List UInt8) (v:Int):obs (evF Tryz.prog Zg Zf 100 10 86 [Xd s,Zbu,YG v] (stT []))=QG (Xd (s++[Vz (v.fdiv QS),Vz (v.fdiv QR),Vz (v.fdiv Km),Vz (v.fdiv Zg9)])) (Vb (ZnF (Qv s+4)) True):=by kernel_rfl
def put4:=Bx.mk (by have h := @ZBy; simp(maxSteps:=99999999) only[ZL.v, ZZ.v, -eq_self] at h; exact h)
theorem ZnG (w v:Int) (h:ZwG w v):ConOk Tryz.prog 86 3 (ZEd w v):=by
 obtain⟨rfl,h1,h2⟩:=h
 obtain⟨n,rfl⟩:=Int.eq_ofNat_of_zero_le h1
 have hn:n<4294967296:=by omega
 have m1:=UJ (n/256) (by omega)
 have m2:=UJ (n/256/256) (by omega)
 have m3:=UJ (n/256/256/256) (by omega)
 have fd0:(n:Int).fdiv (1:Int)=((n/1:Nat):Int):=fdA n 1
 have fd1:∀ n:Nat,(n:Int).fdiv (256:Int)=((n/256:Nat):Int):=fun n=>fdA n 256
 have fd2:(n:Int).fdiv (65536:Int)=((n/65536:Nat):Int):=fdA n 65536
 have fd3:(n:Int).fdiv (16777216:Int)=((n/16777216:Nat):Int):=fdA n 16777216
 have td1:∀ n:Nat,(n:Int).tdiv (256:Int)=((n/256:Nat):Int):=fun n=>(Int.ofNat_tdiv n 256).symm
 have tm1:∀ n:Nat,(n:Int).tmod (256:Int)=((n%256:Nat):Int):=fun n=>(Int.ofNat_tmod n 256).symm
 have dd2:n/65536=n/256/256:=by omega
 have dd3:n/16777216=n/256/256/256:=by omega
 have hr:=put4.v [] (n:Int)
 simp only[fd0,fd1,fd2,fd3,td1,tm1,m1,m2,m3,w8A,dd2,dd3,Nat.div_one,Nat.mod_mod,List.append_assoc,List.cons_append,List.nil_append] at hr
 exact ZX (Zn Ze (Zc _) (Zd _) 10) (v:=.string ⟨⟨leW 4 n⟩⟩) hr (by
  simp only[Z1,List.length_append,List.length_cons,List.length_nil]
  repeat (first|exact trivial|refine Zjq (Qq (by omega)) ?_)) rfl rfl
structure ArOk (zs:List UInt8) (N m n:Nat):Prop where
 len:zs.length=N
 tags:N≤16*m
 words:m≤64*n
 few:n≤100000
 big:N≤1000000
theorem WM {q:Nat→Bool} (h:∀ l,l<68→q l=true) (N m n:Nat):(∀ v∈([.pointer (some ⟨66,0,none⟩),.slice (some ⟨64,0,none⟩) N (big+64)]:List Value),okV q 3 v=true)∧∀ v∈([.int .i64 (m:Nat),.slice (some ⟨65,0,none⟩) n (big+65)]:List Value),okV q 3 v=true:=by
 have h4:=h 64 (by omega)
 have h5:=h 65 (by omega)
 have h6:=h 66 (by omega)
 constructor<;>intro v hv<;>simp only[List.mem_cons,List.not_mem_nil,or_false] at hv<;>rcases hv with rfl|rfl<;>simp[okV,JA,h4,h5,h6,Z4]
theorem Zjz {q:Nat→Bool} (h:∀ l,l<68→q l=true) (rw:Bool) (zs:List UInt8) (N m n:Nat):OkH q (arL rw zs N m n) :=
 ⟨⟨h 67 (by omega),rfl,fun v hv=>QQ 3 v ((WM h N m n).1 v hv)⟩,⟨h 66 (by omega),rfl,fun v hv=>QQ 3 v ((WM h N m n).2 v hv)⟩,⟨h 65 (by omega),h 65 (by omega),ZB (XE n)⟩,⟨h 64 (by omega),h 64 (by omega),ZB (Zl zs)⟩,trivial⟩
theorem Zrj (rw:Bool) (zs:List UInt8) (N m n:Nat):∀ x∈arL rw zs N m n,∀ v∈x.2.cells,okV (fun l=>Nat.blt l 68) 3 v=true:=fun x hx v hv=>by
 simp only[arL,List.mem_cons,List.not_mem_nil,or_false] at hx
 rcases hx with rfl|rfl|rfl|rfl
 ·exact(WM Zfe N m n).1 v hv
 ·exact(WM Zfe N m n).2 v hv
 ·exact QP (XE n v hv) 3
 ·exact QP (Zl zs v hv) 3
theorem Zgq (rw:Bool) (zs:List UInt8) (N m n:Nat):∀ x∈arL rw zs N m n,x.2.op≠none→∀ v∈x.2.cells,Z4 v=true:=fun x hx hne=>by
 simp only[arL,List.mem_cons,List.not_mem_nil,or_false] at hx
 rcases hx with rfl|rfl|rfl|rfl
 ·exact absurd rfl hne
 ·exact absurd rfl hne
 ·exact XE n
 ·exact Zl zs
theorem X4 (σ:Nat→Nat) (hs:σ=id) (l:List Value):l.map (rnV σ 3)=l:=by
 subst hs; rw[List.map_congr_left (fun v _=>Uh 3 v)]; simp
theorem Zgr {s':Sy.St} (zs:List UInt8) (N m n:Nat) (cs ws:List Value) (h67:Sy.look s'.h 67=some ⟨true,none,[.pointer (some ⟨66,0,none⟩),.slice (some ⟨64,0,none⟩) N (big+64)],none⟩) (h66:Sy.look s'.h 66=some ⟨true,none,[.int .i64 (m:Nat),.slice (some ⟨65,0,none⟩) n (big+65)],none⟩)
  (h65:Sy.look s'.h 65=some ⟨true,some (65,1),ws,none⟩) (h64:Sy.look s'.h 64=some ⟨true,some (64,1),cs,none⟩) (hw:ws=z64 n) (hc:cs=u8s zs):WS 3 (fun l=>Nat.blt l 68) id s'.h (arL true zs N m n):=by
 refine⟨⟨rfl,List.all_eq_true.2 (WM Zfe N m n).1,rfl,?_⟩,⟨rfl,List.all_eq_true.2 (WM Zfe N m n).2,rfl,?_⟩,⟨rfl,Zj (XE n),rfl,?_⟩,⟨rfl,Zj (Zl zs),rfl,?_⟩,trivial⟩
 ·simp only[id,h67]; exact⟨rfl,rfl,trivial,(X4 _ rfl _).symm⟩
 ·simp only[id,h66]; exact⟨rfl,rfl,trivial,(X4 _ rfl _).symm⟩
 ·simp only[id,h65]; exact⟨rfl,rfl,trivial,by rw[X4 _ rfl,hw]⟩
 ·simp only[id,h64]; exact⟨rfl,rfl,trivial,by rw[X4 _ rfl,hc]⟩
theorem WN (n:Nat):(n:Int).tdiv (16:Int)=((n/16:Nat):Int):=(Int.ofNat_tdiv n 16).symm
theorem ZdN (n k:Nat):(n:Int)+(k:Int)=((n+k:Nat):Int):=by omega
theorem UU (n:Nat):(n:Int)+(1:Int)=((n+1:Nat):Int):=by omega
theorem Zev (n:Nat) (h:1≤n):(n:Int)-(1:Int)=((n-1:Nat):Int):=by omega
theorem Zga (n k:Nat) (h:k≤n):(n:Int)-(k:Int)=((n-k:Nat):Int):=by omega
theorem ZjA (k n:Nat) (h:k≤n):Nat.min k n=k:=Nat.min_eq_left h
theorem ZjB {a b:Nat} (h:a=b):Nat.beq a b=true:=by rw[h,Nat.beq_refl]
theorem Zc0 {a b:Nat} (h:a<b):Nat.blt a b=true:=Qq h
theorem UV (d:List UInt8):List.map (fun c=>Value.int .u8 (c.toNat:Int)) d=u8s d:=rfl
theorem UW (d:List UInt8):ZfE (u8s d)=true:=List.all_eq_true.2 fun v hv=>Wn (Zl d v hv)
theorem UX (d:List UInt8):(u8s d).all Z4=true:=List.all_eq_true.2 (Zl d)
def byA (zs:List UInt8) (i:Nat):Nat:=(zs.getD i 0).toNat
theorem ZaE (zs:List UInt8) (i:Nat):byA zs i<256:=(zs.getD i 0).toNat_lt
theorem ZnH (bs:List UInt8) (i:Nat):Yi (ZC undef (u8s bs) i)=(byA bs i:Int):=ZxW bs i
theorem ZwH (x y k:Nat) (hx:x%2^k=0) (hy:y<2^k):x|||y=x+y:=by
 have h:=Nat.two_pow_add_eq_or_of_lt hy (x/2^k)
 have h1:2^k*(x/2^k)=x:=Nat.mul_div_cancel' (Nat.dvd_of_mod_eq_zero hx)
 rw[h1] at h
 exact h.symm
theorem orA (x y k:Nat) (hx:x%2^k=0) (hy:y<2^k) (h:x+y<4294967296):bits .or .u32 (x:Int) (y:Int)=((x+y:Nat):Int):=by
 show u32.wrap ((BitVec.ofInt 32 (x:Int)|||BitVec.ofInt 32 (y:Int)).toNat:Int)=_
 rw[BitVec.toNat_or,BitVec.ofInt_natCast,BitVec.ofInt_natCast,BitVec.toNat_ofNat,BitVec.toNat_ofNat,Nat.mod_eq_of_lt (by omega),Nat.mod_eq_of_lt (by omega),ZwH x y k hx hy,UJ _ h]
def ZxX (zs:List UInt8) (i:Nat):Nat:=byA zs (i+3)*16777216+byA zs (i+2)*65536+byA zs (i+1)*256+byA zs i
theorem ZjC (l:List UInt8):(u8s l).map ZAU=l:=by
 unfold u8s
 rw[List.map_map]
 conv=>rhs; rw[← List.map_id l]
 apply List.map_congr_left
 intro x _
 show UInt8.ofNat ((x.toNat:Int)).toNat=x
 simp
theorem Zmo (zs:List UInt8) (a k:Nat):List.take k (List.drop a (u8s zs))=u8s ((zs.drop a).take k):=by
 unfold u8s; rw[List.map_take,List.map_drop]
theorem Zha (zs:List UInt8):(u8s zs).all Zwq=true:=List.all_eq_true.2 fun v hv=>by
 obtain⟨b,_,rfl⟩:=List.mem_map.1 hv; rfl
theorem ZjD (v:Value):∀ n:Nat,Zf4 n [v]=List.replicate n v
 | 0=>rfl
 | n+1=>by
  have:=ZjD v n
  simp only[Zf4,List.replicate_succ,List.cons_append,List.nil_append,this]
theorem Zrk (n:Nat):List.replicate n (Value.int .u8 0)=u8s (List.replicate n 0):=by
 unfold u8s; rw[List.map_replicate]; rfl
def Zbd (p:Nat):Nat:=p*256/16
def Zh4 (p:Nat):Nat:=(Zbd p+63)/64
def ZBz (p:Nat):Con:=⟨[.int .i64 (p:Nat)],64,[],[],.tuple ⟨[.pointer (some ⟨67,0,none⟩),.int .i64 0]⟩,68,arL true (List.replicate (p*256) 0) (p*256) (Zbd p) (Zh4 p),arO (p*256) (Zh4 p)⟩
theorem Zuk (p:Nat) (h1:16≤p) (h2:p≤1024):ConOk Tryz.prog 9 3 (ZBz p)∧FlatC (ZBz p):=by
 have hr:=ZBv.v (p:Int)
 have e1:(p:Int)*(256:Int)=((p*256:Nat):Int):=by omega
 have e2:∀ n:Nat,(n:Int)+(64:Int)=((n+64:Nat):Int):=fun n=>by omega
 have e3:∀ n:Nat,(n:Int).tdiv (64:Int)=((n/64:Nat):Int):=fun n=>(Int.ofNat_tdiv n 64).symm
 simp(disch:=omega) only[e1,Wb,WN,e2,Zev,e3,Int.toNat_natCast,ZjD,Zrk] at hr
 have e4:(p*256/16+64-1)/64=Zh4 p:=by unfold Zh4 Zbd; omega
 have e5:p*256/16=Zbd p:=rfl
 have e6:p*256/16+64-1=Zbd p+63:=by unfold Zbd; omega
 have e7:(Zbd p+63)/64=Zh4 p:=rfl
 simp only[e4] at hr
 simp only[e5,e6,e7] at hr
 have hc:okV (fun l=>Nat.blt l 68) 3 (ZBz p).res=true:=rfl
 refine⟨Qi (Zn (L:=100) Ze (Zc _) (Zd _) 40) ⟨Nat.le_refl _,by show 64≤68; omega,trivial,rfl,rfl,rfl,rfl,rfl,Zrj true _ _ _ _⟩ hr ?_ (p:=fun l=>Nat.blt l 68) (σ:=id) ?_,⟨Zgq _ _ _ _ _⟩⟩
 ·have b1:Zh4 p≤100000:=by unfold Zh4 Zbd; omega
  have b2:Zbd p≤100000:=by unfold Zbd; omega
  simp(disch:=omega) only[decide_eq_true,decide_eq_false,Bool.and_self,Bool.true_and,Bool.and_true,Bool.not_true,Bool.not_false,cond_true,and_true,true_and,and_self]
 ·have hk:∀ l,l<68→YD 64 68 id (fun l=>Nat.blt l 68) l=true:=fun l hl=>by
   show(Nat.blt l NG||(bif Nat.blt l 64 then(Nat.beq l l&&Nat.blt l 68) else Nat.blt l 68))=true
   rw[Qq hl,Nat.beq_refl]
   cases Nat.blt l NG<;>cases Nat.blt l 64<;>rfl
  exact⟨fun _ _=>rfl,Zgr _ _ _ _ _ _ rfl rfl rfl rfl rfl rfl,rfl,⟨⟨rfl,Nat.le_refl _⟩,⟨rfl,Nat.le_refl _⟩,trivial⟩,⟨hc,by rw[Uh]; rfl⟩,rfl,Zjz hk true _ _ _ _,rfl,QQ 3 _ rfl,fun x _ _ => .inl rfl⟩
theorem Zmp (X q z:Nat) (h1:X≤q+1024) (h2:q<X+3072) (h3:X≤z+1024) (h4:z<X+3072) :
  (((q/4096:Nat):Int)-(JD (q%4096) (ZbP (X%4096)):Nat)+(JD (z%4096) (ZbP (X%4096)):Nat))*4096+(z%4096:Nat)=(z:Int):=by
 unfold JD ZbP
 split<;>split<;>omega
theorem ZnI {k X c z:Nat} (h1:X≤c/2^k+1024) (h2:c/2^k<X+3072) (h3:X≤z+1024) (h4:z<X+3072):ofN k (X%4096) c (z%4096)=((z*2^k:Nat):Int):=by
 unfold ofN Zf7
 rw[Zmp X (c/2^k) z h1 h2 h3 h4]
 simp
theorem Zk4 {b t c:Nat} (hb:b<4294967296) (hbt:b≤t) (ht:t≤4294967296)
  (h1:b/2^Z2 b t≤c/2^Z2 b t+1024) (h2:c/2^Z2 b t<b/2^Z2 b t+3072) :
  Zc6 b t=Z2 b t∧WT (Zc6 b t) (ZdI b t) (ZdJ b t) c=(dnN b (Z2 b t):Nat)∧Va (Zc6 b t) (ZdI b t) (ZdJ b t) c=(upN t (Z2 b t):Nat)∧Xn (Zc6 b t) (ZdI b t) (ZdJ b t) c=true ∧
   XL (Zc6 b t) (ZdI b t) (ZdJ b t) c=(dnN b (Z2 b t),upN t (Z2 b t)):=by
 have hr:QF b t=true:=by simp[QF,hbt,ht]
 have hk:=Zb9 b t
 have hf:=Zeq (b:=b) ht
 have hd1:=ZkQ b (Z2 b t)
 have hu1:=Zmk t (Z2 b t)
 have hw:=Zjv (t:=t) hk ht
 unfold Zc6 ZdI ZdJ
 rw[if_pos hr,if_pos hr,if_pos hr]
 have hY:upN t (Z2 b t)/2^Z2 b t*2^Z2 b t=upN t (Z2 b t):=by
  unfold upN; rw[Nat.mul_div_cancel _ (Xh _)]
 have hX:b/2^Z2 b t*2^Z2 b t=dnN b (Z2 b t):=rfl
 generalize Z2 b t=k at *
 have hp:=Xh k
 have hXY:b/2^k≤upN t k/2^k:=Nat.div_le_div_right (by omega)
 have hYX:upN t k/2^k≤b/2^k+2048:=by
  unfold Jo at hf
  simp only[decide_eq_true_eq] at hf
  have:upN t k/2^k*2^k≤(b/2^k+2048)*2^k:=by rw[hY,Nat.add_mul,hX]; omega
  exact Nat.le_of_mul_le_mul_right this hp
 have hmay:ZkO k (b/2^k%4096) (upN t k/2^k%4096)=true:=Zjt hk (by omega) (by omega)
 have hB:WT k (b/2^k%4096) (upN t k/2^k%4096) c=(dnN b k:Nat):=by
  unfold WT; rw[if_pos hmay,ZnI h1 h2 (by omega) (by omega),hX]
 have hT:Va k (b/2^k%4096) (upN t k/2^k%4096) c=(upN t k:Nat):=by
  unfold Va; rw[if_pos hmay,ZnI h1 h2 (by omega) (by omega),hY]
 have hO:Xn k (b/2^k%4096) (upN t k/2^k%4096) c=true:=by
  unfold Xn
  rw[hmay,hB,hT]
  simp only[Bool.and_eq_true,decide_eq_true_eq]
  exact⟨⟨⟨trivial,by omega⟩,by omega⟩,by omega⟩
 refine⟨rfl,hB,hT,hO,?_⟩
 unfold XL
 rw[if_pos ⟨hO,by rw[hB]; omega⟩,hB,hT]
 rfl
theorem ZBA {b t c:Nat} (hb:b<4294967296) (hbt:b≤t) (ht:t≤4294967296) (h1:b≤c) (h2:c≤t) :
  XL (Zc6 b t) (ZdI b t) (ZdJ b t) c=(dnN b (Z2 b t),upN t (Z2 b t)):=by
 have hf:=Zeq (b:=b) ht
 have hu1:=Zmk t (Z2 b t)
 refine(Zk4 hb hbt ht (Nat.le_trans (Nat.div_le_div_right h1) (Nat.le_add_right _ _)) ?_).2.2.2.2
 have hY:upN t (Z2 b t)/2^Z2 b t*2^Z2 b t=upN t (Z2 b t):=by
  unfold upN; rw[Nat.mul_div_cancel _ (Xh _)]
 have hX:b/2^Z2 b t*2^Z2 b t=dnN b (Z2 b t):=rfl
 generalize Z2 b t=k at *
 have hp:=Xh k
 unfold Jo at hf
 simp only[decide_eq_true_eq] at hf
 have h3:c/2^k≤upN t k/2^k:=Nat.div_le_div_right (by omega)
 have h4:upN t k/2^k*2^k≤(b/2^k+2048)*2^k:=by rw[hY,Nat.add_mul,hX]; omega
 have h5:=Nat.le_of_mul_le_mul_right h4 hp
 omega
structure Cp where
 C:Nat
 E:Nat
 B:Nat
 T:Nat
 P:Nat
 Y:Nat
 R:Nat
 V:Bool
def Cp.cs (c:Cp):List Value:=[.int .u32 c.C,.int .u8 c.E,.int .u16 c.B,.int .u16 c.T,.int .u16 c.P,.int .u16 c.Y,.int .u32 c.R,.bool c.V]
def Cp.val (c:Cp):Value:=.agg ⟨c.cs⟩
def Cp.Ok (c:Cp):Prop:=Zbb c.C c.E c.B c.T c.P c.Y c.R
def Zff (v:Nat):Cp:=⟨v,0,0,0,0,0,0,false⟩
def Cp.lo (c:Cp):Nat:=(XL c.E c.B c.T c.C).1
def Cp.hi (c:Cp):Nat:=(XL c.E c.B c.T c.C).2
def ZfI (c:Cp):Cp:={ c with V:=false }
def ZdO (c:Cp) (to:Nat):Cp:={ c with C:=to,V:=WI c.Y c.V&&Ui c.E c.B c.T c.C to }
def ZwI (c:Cp) (p:Nat):Cp:={ c with P:=c.P&&&(p%65536),V:=WI c.Y c.V }
def ZnJ (c:Cp) (s:Nat) (ex:Bool):Cp :=
 if QF c.C (c.C+s)=true then { c with E:=Zc6 c.C (c.C+s),B:=ZdI c.C (c.C+s),T:=ZdJ c.C (c.C+s),V:=ZAY c.C c.Y c.V s ex c.lo c.hi } else ZfI c
def ZjE (c b:Cp):Cp:=if(WI c.Y c.V&&Zca b.C b.P b.Y b.V 32 b.lo b.hi)=true then { c with Y:=b.C } else ZfI c
def ZjF (c b:Cp):Cp:=if(c.V&&decide (c.Y≠0)&&Zca b.C b.P b.Y b.V 64 b.lo b.hi&&decide (b.C=c.Y))=true then { c with Y:=0 } else ZfI c
def Zhb (c b:Cp):Cp:={ c with V:=WI b.Y b.V&&ZwF c.E c.B c.T c.P c.Y c.R b.P c.lo c.hi b.lo b.hi }
def Zk5 (c:Cp):Bool:=Zjx c.C c.E c.B c.T c.P c.Y c.R c.V c.C 0 0 0 0 0 0 false
theorem Zo9 {v:Value} (h:X1 v=true):∀ u∈[v],X1 u=true:=fun u hu=>by obtain rfl:=List.mem_singleton.1 hu; exact h
theorem ZjG {v x:Value} (h:X1 v=true) (hx:X1 x=true):∀ u∈[v,x],X1 u=true:=fun u hu=>by
 simp only[List.mem_cons,List.not_mem_nil,or_false] at hu
 rcases hu with rfl|rfl<;>assumption
theorem Zpa (c:Cp):ConOk Tryz.prog 77 3 (Con.pure [c.val] (ZfI c).val) :=
 Qj (d:=1) (Yr Ze (by kernel_rfl)) (Zo9 rfl) rfl fun w=>Zq8 c.C c.E c.B c.T c.P c.Y c.R c.V w
theorem Zew (c:Cp) (to:Nat) (h:c.Ok) (ht:to<4294967296):ConOk Tryz.prog 71 3 (Con.pure [c.val,.int .u32 to] (ZdO c to).val) :=
 Qj (d:=1) (Yr Ze (by kernel_rfl)) (ZjG rfl rfl) rfl fun w=>ZnB c.C c.E c.B c.T c.P c.Y c.R c.V to w h ht
theorem Zul (c:Cp) (p:Nat) (h:c.Ok) (hp:p<4294967296):ConOk Tryz.prog 80 3 (Con.pure [c.val,.int .u32 p] (ZwI c p).val) :=
 Qj (d:=1) (Yr Ze (by kernel_rfl)) (ZjG rfl rfl) rfl fun w=>ZxN c.C c.E c.B c.T c.P c.Y c.R c.V p w h hp
theorem Zum (c:Cp) (s:Nat) (h:c.Ok) (hs:s<4294967296):ConOk Tryz.prog 78 3 (Con.pure [c.val,.int .u32 s] (ZnJ c s false).val):=by
 refine Qj (d:=1) (Yr Ze (by kernel_rfl)) (ZjG rfl rfl) rfl fun w => ?_
 unfold ZnJ
 split
 ·rename_i hr; exact ZEv c.C c.E c.B c.T c.P c.Y c.R c.V s c.lo c.hi w h hs rfl rfl hr
 ·rename_i hr; exact ZEw c.C c.E c.B c.T c.P c.Y c.R c.V s w h hs (by simpa using hr)
theorem Zpb (c:Cp) (s:Nat) (h:c.Ok) (hs:s<4294967296):ConOk Tryz.prog 79 3 (Con.pure [c.val,.int .u32 s] (ZnJ c s true).val):=by
 refine Qj (d:=1) (Yr Ze (by kernel_rfl)) (ZjG rfl rfl) rfl fun w => ?_
 unfold ZnJ
 split
 ·rename_i hr; exact ZxR c.C c.E c.B c.T c.P c.Y c.R c.V s c.lo c.hi w h hs rfl rfl hr
 ·rename_i hr; exact ZxS c.C c.E c.B c.T c.P c.Y c.R c.V s w h hs (by simpa using hr)
theorem Zrl (c b:Cp) (hb:b.Ok):ConOk Tryz.prog 81 3 (Con.pure [c.val,b.val] (ZjE c b).val):=by
 refine Qj (d:=1) (Yr Ze (by kernel_rfl)) (ZjG rfl rfl) rfl fun w => ?_
 unfold ZjE
 cases hf:WI c.Y c.V
 ·simp only[Bool.false_and,Bool.false_eq_true,if_false]
  exact ZBm c.C c.E c.B c.T c.P c.Y c.R c.V b.C b.E b.B b.T b.P b.Y b.R b.V w hf
 ·cases ho:Zca b.C b.P b.Y b.V 32 b.lo b.hi
  ·simp only[Bool.and_false,Bool.false_eq_true,if_false]
   exact ZBn c.C c.E c.B c.T c.P c.Y c.R c.V b.C b.E b.B b.T b.P b.Y b.R b.V b.lo b.hi w hb rfl rfl hf ho
  ·simp only[Bool.and_self,if_true]
   exact ZBo c.C c.E c.B c.T c.P c.Y c.R c.V b.C b.E b.B b.T b.P b.Y b.R b.V b.lo b.hi w hb rfl rfl hf ho
theorem Zrm (c b:Cp) (hc:c.Ok) (hb:b.Ok):ConOk Tryz.prog 82 3 (Con.pure [c.val,b.val] (ZjF c b).val):=by
 obtain⟨cC,cE,cB,cT,cP,cY,cR,cV⟩:=c
 refine Qj (d:=1) (Yr Ze (by kernel_rfl)) (ZjG rfl rfl) rfl fun w => ?_
 unfold ZjF
 cases cV
 ·simp only[Bool.false_and,Bool.false_eq_true,if_false]
  exact ZBp cC cE cB cT cP cY cR b.C b.E b.B b.T b.P b.Y b.R b.V w
 ·by_cases hy:cY=0
  ·subst hy
   simp only[ne_eq,not_true_eq_false,decide_false,Bool.and_false,Bool.false_and,Bool.false_eq_true,if_false]
   exact ZBq cC cE cB cT cP 0 cR b.C b.E b.B b.T b.P b.Y b.R b.V w rfl
  ·have hy0:((cY:Int)==0)=false:=by simpa using hy
   simp only[ne_eq,hy,not_false_eq_true,decide_true,Bool.and_self,Bool.true_and]
   cases ho:Zca b.C b.P b.Y b.V 64 b.lo b.hi
   ·simp only[Bool.false_and,Bool.false_eq_true,if_false]
    exact ZBr cC cE cB cT cP cY cR b.C b.E b.B b.T b.P b.Y b.R b.V b.lo b.hi w hb rfl rfl hy0 ho
   ·by_cases hn:b.C=cY
    ·simp only[hn,decide_true,Bool.and_self,if_true]
     exact ZBt cC cE cB cT cP cY cR b.C b.E b.B b.T b.P b.Y b.R b.V b.lo b.hi w hb rfl rfl hy0 ho (by simp[hn]) (by simp[hn]) hc.2.2.2.2.2.1
    ·simp only[hn,decide_false,Bool.and_false,Bool.false_eq_true,if_false]
     have hz:¬ (b.C:Int)=(cY:Int):=fun h=>hn (by omega)
     exact ZBs cC cE cB cT cP cY cR b.C b.E b.B b.T b.P b.Y b.R b.V b.lo b.hi w hb rfl rfl hy0 ho (bne_iff_ne.2 hz) (beq_eq_false_iff_ne.2 hz) hc.2.2.2.2.2.1
theorem Zpc (c b:Cp) (hc:c.Ok) (hb:b.Ok):ConOk Tryz.prog 83 3 (Con.pure [c.val,b.val] (Zhb c b).val) :=
 Qj (d:=1) (Yr Ze (by kernel_rfl)) (ZjG rfl rfl) rfl fun w=>Zrb c.C c.E c.B c.T c.P c.Y c.R c.V b.C b.E b.B b.T b.P b.Y b.R b.V c.lo c.hi b.lo b.hi w hc hb rfl rfl rfl rfl
theorem Zpd (c:Cp) (hc:c.Ok) (lo hi:Nat) (hl:lo=c.lo) (hh:hi=c.hi):ConOk Tryz.prog 76 3 (Con.pure [c.val] (.tuple ⟨[.int .u32 lo,.int .u64 hi]⟩)):=by
 subst hl; subst hh
 exact Qj (d:=1) (Yr Ze (by kernel_rfl)) (Zo9 rfl) rfl fun w=>ZkV c.C c.E c.B c.T c.P c.Y c.R c.V w hc
theorem Zpe (c:Cp) (hc:c.Ok):ConOk Tryz.prog 85 3 (Con.pure [c.val] (.bool (Zk5 c))) :=
 Qj (d:=1) (Yr Ze (by kernel_rfl)) (Zo9 rfl) rfl fun w=>ZkW c.C c.E c.B c.T c.P c.Y c.R c.V w hc.1
theorem ZcS (c:Cp) (hc:c.Ok):ConOk Tryz.prog 46 3 (Con.pure [c.val] (.bool (XD c.E c.B c.T c.P c.Y c.R))) :=
 Qj (d:=1) (Yr Ze (by kernel_rfl)) (Zo9 rfl) rfl fun w=>Zg2 c.C c.E c.B c.T c.P c.Y c.R c.V w hc
theorem Zpf (c:Cp) (a s:Nat) (hc:c.Ok) (ha:a<4294967296) (hs:s<4294967296):ConOk Tryz.prog 100 3 (Con.pure [c.val,.agg ⟨[.int .u32 a,.int .u32 s]⟩] (.bool (Zbq c.lo c.hi a s))) :=
 Qj (d:=1) (Yr Ze (by kernel_rfl)) (ZjG rfl rfl) rfl fun w=>Zq4 c.C c.E c.B c.T c.P c.Y c.R c.V a s c.lo c.hi w hc ha hs rfl rfl
theorem ZdP (a b:Cp) (ha:a.Ok) (hb:b.Ok):ConOk Tryz.prog 49 3 (Con.pure [a.val,b.val] (.bool (Kl a.P b.P a.lo a.hi b.lo b.hi))) :=
 Qj (d:=1) (Yr Ze (by kernel_rfl)) (ZjG rfl rfl) rfl fun w=>Zis a.C a.E a.B a.T a.P a.Y a.R a.V b.C b.E b.B b.T b.P b.Y b.R b.V a.lo a.hi b.lo b.hi w ha hb rfl rfl rfl rfl
theorem ZnK {c:Cp} (h:c.Ok) {to:Nat} (ht:to<4294967296):(ZdO c to).Ok:=⟨ht,h.2⟩
theorem ZxY {c:Cp} (h:c.Ok) (p:Nat):(ZwI c p).Ok:=by
 obtain⟨h1,h2,h3,h4,h5,h6,h7⟩:=h
 exact⟨h1,h2,h3,h4,Nat.lt_of_le_of_lt Nat.and_le_left h5,h6,h7⟩
def V0:Cp:=⟨0,0,0,0,0,0,0,false⟩
def frN:Nat→Cp:=fun _=>V0
def frK (fr:Nat→Cp):Nat→Nat→List Value
 | _,0=>[]
 | k,n+1=>(fr k).cs++frK fr (k+1) n
def frL (fr:Nat→Cp):List Value:=(fr 0).cs++((fr 1).cs++((fr 2).cs++((fr 3).cs++((fr 4).cs++((fr 5).cs++((fr 6).cs++((fr 7).cs++((fr 8).cs++((fr 9).cs++((fr 10).cs++((fr 11).cs++((fr 12).cs++((fr 13).cs++((fr 14).cs++((fr 15).cs++((fr 16).cs))))))))))))))))
theorem Zex (fr:Nat→Cp):frL fr=frK fr 0 17:=rfl
def frS (fr:Nat→Cp) (k:Nat) (c:Cp):Nat→Cp:=fun j=>if j=k then c else fr j
def frQ (fr:Nat→Cp) (l:List Value):List Value:=(fr 0).cs++((fr 1).cs++((fr 2).cs++((fr 3).cs++((fr 4).cs++((fr 5).cs++((fr 6).cs++((fr 7).cs++((fr 8).cs++((fr 9).cs++((fr 10).cs++((fr 11).cs++((fr 12).cs++((fr 13).cs++((fr 14).cs++((fr 15).cs++l)))))))))))))))
def frZ:List Value:=frL frN
def WV (fr:Nat→Cp):Value:=.agg ⟨frL fr⟩
def Wc (fr:Nat→Cp):Prop:=∀ k,(fr k).Ok
theorem Zey (c:Cp):c.cs.length=8:=rfl
theorem Zft (fr:Nat→Cp):∀ k n,(frK fr k n).length=8*n
 | _,0=>rfl
 | k,n+1=>by
  show((fr k).cs++frK fr (k+1) n).length=_
  rw[List.length_append,Zft fr (k+1) n,Zey]; omega
theorem XF {α:Type} (d:α):∀ (l:List α) (n:Nat),ZC d l n=l.getD n d
 | [],n=>by cases n<;>rfl
 | _::_,0=>rfl
 | _::l,n+1=>by
  show ZC d l n=_
  rw[XF d l n]; simp
theorem Zhc {α:Type} (d:α) (l m:List α) (n:Nat) (h:n<l.length):(l++m).getD n d=l.getD n d:=by
 simp only[List.getD]; rw[List.getElem?_append_left h]
theorem ZcT {α:Type} (d:α) (l m:List α) (n:Nat) (h:l.length≤n):(l++m).getD n d=m.getD (n-l.length) d:=by
 simp only[List.getD]; rw[List.getElem?_append_right h]
theorem Zrn (fr:Nat→Cp) (j:Nat) (hj:j<8):∀ (n k b:Nat),b<n→ZC undef (frK fr k n) (8*b+j)=ZC undef (fr (k+b)).cs j
 | 0,_,_,h=>absurd h (Nat.not_lt_zero _)
 | n+1,k,0,_=>by
  show ZC undef ((fr k).cs++frK fr (k+1) n) (8*0+j)=ZC undef (fr k).cs j
  rw[XF,XF,Nat.mul_zero,Nat.zero_add,Zhc _ _ _ _ (by rw[Zey]; exact hj)]
 | n+1,k,b+1,h=>by
  show ZC undef ((fr k).cs++frK fr (k+1) n) (8*(b+1)+j)=_
  rw[XF,ZcT _ _ _ _ (by rw[Zey]; omega),Zey,show 8*(b+1)+j-8=8*b+j by omega,← XF,Zrn fr j hj n (k+1) b (by omega),show k+1+b=k+(b+1) by omega]
theorem Zmq (fr:Nat→Cp) (b j:Nat) (hb:b<17) (hj:j<8):ZC undef (frL fr) (8*b+j)=ZC undef (fr b).cs j:=by
 rw[Zex,Zrn fr j hj 17 0 b hb,Nat.zero_add]
theorem ZcU:∀ (xs ys vs:List Value) (n:Nat),Ym (xs.length+n) vs (xs++ys)=xs++Ym n vs ys
 | [],ys,vs,n=>by rw[List.length_nil,Nat.zero_add]; rfl
 | x::xs,ys,vs,n=>by
  rw[List.length_cons,show xs.length+1+n=(xs.length+n)+1 by omega]
  show x::Ym (xs.length+n) vs (xs++ys)=x::(xs++Ym n vs ys)
  rw[ZcU xs ys vs n]
theorem Zro (fr:Nat→Cp) (a:Nat) (c:Cp):∀ n k,a<k→frK (frS fr a c) k n=frK fr k n
 | 0,_,_=>rfl
 | n+1,k,h=>by
  show(frS fr a c k).cs++frK (frS fr a c) (k+1) n=(fr k).cs++frK fr (k+1) n
  rw[Zro fr a c n (k+1) (by omega)]
  unfold frS
  rw[if_neg (by omega)]
theorem Zrp (fr:Nat→Cp) (c:Cp):∀ (n k a:Nat),a<n→Ym (8*a) c.cs (frK fr k n)=frK (frS fr (k+a) c) k n
 | 0,_,_,h=>absurd h (Nat.not_lt_zero _)
 | n+1,k,0,_=>by
  show Ym 0 c.cs ((fr k).cs++frK fr (k+1) n)=(frS fr k c k).cs++frK (frS fr k c) (k+1) n
  rw[Zro fr k c n (k+1) (by omega)]
  unfold frS
  rw[if_pos rfl]
  cases frK fr (k+1) n<;>rfl
 | n+1,k,a+1,h=>by
  show Ym (8*(a+1)) c.cs ((fr k).cs++frK fr (k+1) n)=(frS fr (k+(a+1)) c k).cs++frK (frS fr (k+(a+1)) c) (k+1) n
  have h1:frS fr (k+(a+1)) c k=fr k:=by unfold frS; rw[if_neg (by omega)]
  rw[h1,show 8*(a+1)=(fr k).cs.length+8*a by rw[Zey]; omega,ZcU,Zrp fr c n (k+1) a (by omega),show k+1+a=k+(a+1) by omega]
theorem Zmr (fr:Nat→Cp) (c:Cp) (a:Nat) (ha:a<17):Ym (8*a) c.cs (frL fr)=frL (frS fr a c):=by
 rw[Zex,Zex,Zrp fr c 17 0 a ha,Nat.zero_add]
theorem WW (c:Cp):∀ v∈c.cs,Z4 v=true:=fun v hv=>List.all_eq_true.1 (show c.cs.all Z4=true from rfl) v hv
theorem ZnL (fr:Nat→Cp):∀ n k,∀ v∈frK fr k n,Z4 v=true
 | 0,_,_,h=>by cases h
 | n+1,k,v,h=>by
  rcases List.mem_append.1 (show v∈(fr k).cs++frK fr (k+1) n from h) with h|h
  ·exact WW _ v h
  ·exact ZnL fr n (k+1) v h
theorem ZO (fr:Nat→Cp):∀ v∈frL fr,Z4 v=true:=ZnL fr 17 0
theorem Zbe:∀ (n:Nat) (l:List Value),n≤l.length→WH n l=true
 | 0,_,_=>rfl
 | n+1,[],h=>absurd h (by simp)
 | n+1,_::l,h=>Zbe n l (by simpa using h)
def Zrq (a:BinOp) (b c:Int):=bits a u64 b c
def Zrr:=(6148914691236517205:Int)
def Zh5 (a b:Int):=Zrq BinOp.and a b
def ZaF (a b:Int):=u64.wrap (a+b)
def YV:=(3689348814741910323:Int)
def Ziv (a b c:Int):=ZaF (Zh5 a b) c
def Zcc (a b c d:Int):=Ziv a b (Zh5 c d)
def QE:=(2:Int)
def Zez:=(1085102592571150095:Int)
def Zc8 (a b c d e:Int):=(Zcc a b c d).fdiv e
def ZeA:=(4:Int)
def Ziw (a:Int):=Value.int u64 a
def ZfJ (a:IntKind) (b c:Int):=bits BinOp.and a b c
def Jp (a b:Int):=Zcc a Zrr b Zrr
def Jq (a b:Int):=Zc8 a Zrr b Zrr ZeA
def ZlY:=Bx.mk (And.intro @Zrq.eq_1 (And.intro @Zrr.eq_1 (And.intro @Zh5.eq_1 (And.intro @ZaF.eq_1 (And.intro @YV.eq_1 (And.intro @Ziv.eq_1 (And.intro @Zcc.eq_1 (And.intro @QE.eq_1 (And.intro @Zez.eq_1 (And.intro @Zc8.eq_1 (And.intro @ZeA.eq_1 (And.intro @Ziw.eq_1 (And.intro @ZfJ.eq_1 (And.intro @Jp.eq_1 @Jq.eq_1))))))))))))))
theorem ZBB (x:Int):obs (evF Tryz.prog Zg Zf 100 5 179 [Ziw x] (stT []))=QG (JM (ZfJ i64 (i64.wrap (ZaF (ZaF (Ziv (ZaF (Zc8 (Jq (x.fdiv QE) x) YV (Jp (x.fdiv QE) x) YV YL) (Zcc (Jq (x.fdiv QE) x) YV (Jp (x.fdiv QE) x) YV)) Zez ((Zh5 (ZaF (Zc8 (Jq (x.fdiv QE) x) YV (Jp (x.fdiv QE) x) YV YL) (Zcc (Jq (x.fdiv QE) x) YV (Jp (x.fdiv QE) x) YV)) Zez).fdiv QR)) ((Ziv (ZaF (Zc8 (Jq (x.fdiv QE) x) YV (Jp (x.fdiv QE) x) YV YL) (Zcc (Jq (x.fdiv QE) x) YV (Jp (x.fdiv QE) x) YV)) Zez ((Zh5 (ZaF (Zc8 (Jq (x.fdiv QE) x) YV (Jp (x.fdiv QE) x) YV YL) (Zcc (Jq (x.fdiv QE) x) YV (Jp (x.fdiv QE) x) YV)) Zez).fdiv QR)).fdiv Km)) ((ZaF (Ziv (ZaF (Zc8 (Jq (x.fdiv QE) x) YV (Jp (x.fdiv QE) x) YV YL) (Zcc (Jq (x.fdiv QE) x) YV (Jp (x.fdiv QE) x) YV)) Zez ((Zh5 (ZaF (Zc8 (Jq (x.fdiv QE) x) YV (Jp (x.fdiv QE) x) YV YL) (Zcc (Jq (x.fdiv QE) x) YV (Jp (x.fdiv QE) x) YV)) Zez).fdiv QR)) ((Ziv (ZaF (Zc8 (Jq (x.fdiv QE) x) YV (Jp (x.fdiv QE) x) YV YL) (Zcc (Jq (x.fdiv QE) x) YV (Jp (x.fdiv QE) x) YV)) Zez ((Zh5 (ZaF (Zc8 (Jq (x.fdiv QE) x) YV (Jp (x.fdiv QE) x) YV YL) (Zcc (Jq (x.fdiv QE) x) YV (Jp (x.fdiv QE) x) YV)) Zez).fdiv QR)).fdiv Km)).fdiv (4294967296:Int)))) (127:Int))) True:=by kernel_rfl
def oc_x:=Bx.mk (by have h := @ZBB; simp(maxSteps:=99999999) only[ZL.v, ZZ.v, ZlY.v, -eq_self] at h; exact h)
def ZA0 (x:Int):Int:=(bits BinOp.and i64 (i64.wrap (u64.wrap (u64.wrap (u64.wrap (bits BinOp.and u64 (u64.wrap ((u64.wrap (bits BinOp.and u64 ((u64.wrap (bits BinOp.and u64 (x.fdiv (2:Int)) (6148914691236517205:Int)+bits BinOp.and u64 x (6148914691236517205:Int))).fdiv (4:Int)) (3689348814741910323:Int)+bits BinOp.and u64 (u64.wrap (bits BinOp.and u64 (x.fdiv (2:Int)) (6148914691236517205:Int)+bits BinOp.and u64 x (6148914691236517205:Int))) (3689348814741910323:Int))).fdiv (16:Int)+u64.wrap (bits BinOp.and u64 ((u64.wrap (bits BinOp.and u64 (x.fdiv (2:Int)) (6148914691236517205:Int)+bits BinOp.and u64 x (6148914691236517205:Int))).fdiv (4:Int)) (3689348814741910323:Int)+bits BinOp.and u64 (u64.wrap (bits BinOp.and u64 (x.fdiv (2:Int)) (6148914691236517205:Int)+bits BinOp.and u64 x (6148914691236517205:Int))) (3689348814741910323:Int)))) (1085102592571150095:Int)+(bits BinOp.and u64 (u64.wrap ((u64.wrap (bits BinOp.and u64 ((u64.wrap (bits BinOp.and u64 (x.fdiv (2:Int)) (6148914691236517205:Int)+bits BinOp.and u64 x (6148914691236517205:Int))).fdiv (4:Int)) (3689348814741910323:Int)+bits BinOp.and u64 (u64.wrap (bits BinOp.and u64 (x.fdiv (2:Int)) (6148914691236517205:Int)+bits BinOp.and u64 x (6148914691236517205:Int))) (3689348814741910323:Int))).fdiv (16:Int)+u64.wrap (bits BinOp.and u64 ((u64.wrap (bits BinOp.and u64 (x.fdiv (2:Int)) (6148914691236517205:Int)+bits BinOp.and u64 x (6148914691236517205:Int))).fdiv (4:Int)) (3689348814741910323:Int)+bits BinOp.and u64 (u64.wrap (bits BinOp.and u64 (x.fdiv (2:Int)) (6148914691236517205:Int)+bits BinOp.and u64 x (6148914691236517205:Int))) (3689348814741910323:Int)))) (1085102592571150095:Int)).fdiv (256:Int))+(u64.wrap (bits BinOp.and u64 (u64.wrap ((u64.wrap (bits BinOp.and u64 ((u64.wrap (bits BinOp.and u64 (x.fdiv (2:Int)) (6148914691236517205:Int)+bits BinOp.and u64 x (6148914691236517205:Int))).fdiv (4:Int)) (3689348814741910323:Int)+bits BinOp.and u64 (u64.wrap (bits BinOp.and u64 (x.fdiv (2:Int)) (6148914691236517205:Int)+bits BinOp.and u64 x (6148914691236517205:Int))) (3689348814741910323:Int))).fdiv (16:Int)+u64.wrap (bits BinOp.and u64 ((u64.wrap (bits BinOp.and u64 (x.fdiv (2:Int)) (6148914691236517205:Int)+bits BinOp.and u64 x (6148914691236517205:Int))).fdiv (4:Int)) (3689348814741910323:Int)+bits BinOp.and u64 (u64.wrap (bits BinOp.and u64 (x.fdiv (2:Int)) (6148914691236517205:Int)+bits BinOp.and u64 x (6148914691236517205:Int))) (3689348814741910323:Int)))) (1085102592571150095:Int)+(bits BinOp.and u64 (u64.wrap ((u64.wrap (bits BinOp.and u64 ((u64.wrap (bits BinOp.and u64 (x.fdiv (2:Int)) (6148914691236517205:Int)+bits BinOp.and u64 x (6148914691236517205:Int))).fdiv (4:Int)) (3689348814741910323:Int)+bits BinOp.and u64 (u64.wrap (bits BinOp.and u64 (x.fdiv (2:Int)) (6148914691236517205:Int)+bits BinOp.and u64 x (6148914691236517205:Int))) (3689348814741910323:Int))).fdiv (16:Int)+u64.wrap (bits BinOp.and u64 ((u64.wrap (bits BinOp.and u64 (x.fdiv (2:Int)) (6148914691236517205:Int)+bits BinOp.and u64 x (6148914691236517205:Int))).fdiv (4:Int)) (3689348814741910323:Int)+bits BinOp.and u64 (u64.wrap (bits BinOp.and u64 (x.fdiv (2:Int)) (6148914691236517205:Int)+bits BinOp.and u64 x (6148914691236517205:Int))) (3689348814741910323:Int)))) (1085102592571150095:Int)).fdiv (256:Int))).fdiv (65536:Int))+(u64.wrap (u64.wrap (bits BinOp.and u64 (u64.wrap ((u64.wrap (bits BinOp.and u64 ((u64.wrap (bits BinOp.and u64 (x.fdiv (2:Int)) (6148914691236517205:Int)+bits BinOp.and u64 x (6148914691236517205:Int))).fdiv (4:Int)) (3689348814741910323:Int)+bits BinOp.and u64 (u64.wrap (bits BinOp.and u64 (x.fdiv (2:Int)) (6148914691236517205:Int)+bits BinOp.and u64 x (6148914691236517205:Int))) (3689348814741910323:Int))).fdiv (16:Int)+u64.wrap (bits BinOp.and u64 ((u64.wrap (bits BinOp.and u64 (x.fdiv (2:Int)) (6148914691236517205:Int)+bits BinOp.and u64 x (6148914691236517205:Int))).fdiv (4:Int)) (3689348814741910323:Int)+bits BinOp.and u64 (u64.wrap (bits BinOp.and u64 (x.fdiv (2:Int)) (6148914691236517205:Int)+bits BinOp.and u64 x (6148914691236517205:Int))) (3689348814741910323:Int)))) (1085102592571150095:Int)+(bits BinOp.and u64 (u64.wrap ((u64.wrap (bits BinOp.and u64 ((u64.wrap (bits BinOp.and u64 (x.fdiv (2:Int)) (6148914691236517205:Int)+bits BinOp.and u64 x (6148914691236517205:Int))).fdiv (4:Int)) (3689348814741910323:Int)+bits BinOp.and u64 (u64.wrap (bits BinOp.and u64 (x.fdiv (2:Int)) (6148914691236517205:Int)+bits BinOp.and u64 x (6148914691236517205:Int))) (3689348814741910323:Int))).fdiv (16:Int)+u64.wrap (bits BinOp.and u64 ((u64.wrap (bits BinOp.and u64 (x.fdiv (2:Int)) (6148914691236517205:Int)+bits BinOp.and u64 x (6148914691236517205:Int))).fdiv (4:Int)) (3689348814741910323:Int)+bits BinOp.and u64 (u64.wrap (bits BinOp.and u64 (x.fdiv (2:Int)) (6148914691236517205:Int)+bits BinOp.and u64 x (6148914691236517205:Int))) (3689348814741910323:Int)))) (1085102592571150095:Int)).fdiv (256:Int))+(u64.wrap (bits BinOp.and u64 (u64.wrap ((u64.wrap (bits BinOp.and u64 ((u64.wrap (bits BinOp.and u64 (x.fdiv (2:Int)) (6148914691236517205:Int)+bits BinOp.and u64 x (6148914691236517205:Int))).fdiv (4:Int)) (3689348814741910323:Int)+bits BinOp.and u64 (u64.wrap (bits BinOp.and u64 (x.fdiv (2:Int)) (6148914691236517205:Int)+bits BinOp.and u64 x (6148914691236517205:Int))) (3689348814741910323:Int))).fdiv (16:Int)+u64.wrap (bits BinOp.and u64 ((u64.wrap (bits BinOp.and u64 (x.fdiv (2:Int)) (6148914691236517205:Int)+bits BinOp.and u64 x (6148914691236517205:Int))).fdiv (4:Int)) (3689348814741910323:Int)+bits BinOp.and u64 (u64.wrap (bits BinOp.and u64 (x.fdiv (2:Int)) (6148914691236517205:Int)+bits BinOp.and u64 x (6148914691236517205:Int))) (3689348814741910323:Int)))) (1085102592571150095:Int)+(bits BinOp.and u64 (u64.wrap ((u64.wrap (bits BinOp.and u64 ((u64.wrap (bits BinOp.and u64 (x.fdiv (2:Int)) (6148914691236517205:Int)+bits BinOp.and u64 x (6148914691236517205:Int))).fdiv (4:Int)) (3689348814741910323:Int)+bits BinOp.and u64 (u64.wrap (bits BinOp.and u64 (x.fdiv (2:Int)) (6148914691236517205:Int)+bits BinOp.and u64 x (6148914691236517205:Int))) (3689348814741910323:Int))).fdiv (16:Int)+u64.wrap (bits BinOp.and u64 ((u64.wrap (bits BinOp.and u64 (x.fdiv (2:Int)) (6148914691236517205:Int)+bits BinOp.and u64 x (6148914691236517205:Int))).fdiv (4:Int)) (3689348814741910323:Int)+bits BinOp.and u64 (u64.wrap (bits BinOp.and u64 (x.fdiv (2:Int)) (6148914691236517205:Int)+bits BinOp.and u64 x (6148914691236517205:Int))) (3689348814741910323:Int)))) (1085102592571150095:Int)).fdiv (256:Int))).fdiv (65536:Int))).fdiv (4294967296:Int)))) (127:Int))
def ZtH (x:Int):Nat:=(ZA0 x).toNat
theorem ZxZ (x:Int):ZA0 x=(ZtH x:Int):=by
 unfold ZtH
 have h:0≤ZA0 x:=by
  unfold ZA0
  generalize i64.wrap _=a
  show 0≤i64.wrap ((BitVec.ofInt 64 a&&&BitVec.ofInt 64 127).toNat:Int)
  have hb:(BitVec.ofInt 64 a&&&BitVec.ofInt 64 127).toNat≤127:=by
   rw[BitVec.toNat_and]
   exact Nat.and_le_right
  rw[wrap_i64 (by omega) (by omega)]
  omega
 omega
theorem Zx0 (x:Int):ConOk Tryz.prog 179 3 (Con.pure [.int .u64 x] (.int .i64 (ZtH x:Nat))):=by
 have hr:=oc_x.v x
 rw[show(Value.int .i64 (ZtH x:Nat)) = .int .i64 (ZA0 x) by rw[ZxZ]]
 exact ZX (d:=1) (Zn (L:=100) Ze (Zc _) (Zd _) 5) (T:=[]) (v:=.int .i64 (ZA0 x)) hr trivial rfl rfl
def v64 (ws:List Nat):List Value:=ws.map fun w => .int .u64 (w:Nat)
def mpW (rw:Bool) (m:Nat) (ws:List Nat):Sy.Heap:=[(66,⟨false,none,[.int .i64 (m:Nat),.slice (some ⟨65,0,none⟩) ws.length (big+65)],none⟩),(65,⟨rw,some (65,1),v64 ws,none⟩)]
def Zhd (r:Int→Nat):ZkG:=fun f args _=>bif Nat.beq f 179 then(match args with|[.int .u64 x]=>some (Con.pure [.int .u64 x] (.int .i64 (r x:Nat)),[],True)|_=>none) else none
def K3 (a:List Value) (b:Nat):=Yi (ZC undef a b)
def Zc1 (a b:Prop):=a∧KL b
def ZP (a:Nat):=(↑a:Int)
def Zk6 (a:Prop):=a∧True
def Zx1:=Zuj false
def Zk7 (a b:Int):=decide (a≥b)
def Vc (a:Nat):=ZdL ↑a
def K4 (a b:Bool) (c:Prop):=Vb a (Vb b c)
def Zx2 (a:Prop):=Zc1 a True
def ZnM (a b:Prop):=Zc1 a (Zx2 b)
def ZnN (a:Nat) (b:Value):=[Vc a,b]
def ZfK (a b:Int):=i64.wrap (a-b)
def VA (a b:Prop):=ZnM a (Zk6 b)
def Y6 (a:Int) (b:Nat):=ZkZ a (ZP b)
def ZnO (a b:Int):=if ZS>a then ZS else b
def Zix (a b:Nat):=ZnN a (ZxU 65 0 b)
def ZnP (a:Int) (b:Nat):=Zf9 a (ZP b)
def Zhe (a b c d:Bool) (e:Prop):=K4 a b (K4 c d e)
def ZnQ (a:List Value):=Zrg false a
def ZfL (a b:Int):=Zh2 (ZnO a b) Qr
def Zrs (a b c:Int):=Zg5 (ZfL a b) c
def Zrt (a b c d:Int):=if a<b then c else d
def Zhf (a b c:Int):=ZfK a (Zrs b c Qr)
def Zc9 (a b c d:Int):=Zhf (ZnO a b) c d
def Kn (a b:Nat):=ZnQ (Zix a b)
def V1 (a:Prop) (b:Bool) (c:Prop):=QK a b∧c
def XQ (a:Bool):=a&&true
def ZnR:=(18446744073709551615:Int)
def ZaG (a b:Nat) (c d:List Value):=UT a (Ym b c d)
def Zda (a b:Int):=(ZfL a b).toNat
def ZeB (a:Nat) (b:Int) (c:Nat) (d:Int):=Zrt (ZP a) b (ZP c) d
def Ziy (a b:Int):=u64.wrap (a*b)
def Zcd (a:Nat) (b:List Value):=XQ (WH a b)
def ZeC:=KL Zx1
def Qw (a:Value):=a=a
def YH (a:Nat) (b c:List Value) (d:Nat):=WH a b&&ZF c b d
def Zhg (a b c:Int):=Zrt a b c b
def Zce (a:Int):=ZnO a a
def ZnS (a b c:Bool) (d:Prop):=Zhe a b c b d
def ZN:=Bx.mk (And.intro @K3.eq_1 (And.intro @Zc1.eq_1 (And.intro @ZP.eq_1 (And.intro @Zk6.eq_1 (And.intro @Zx1.eq_1 (And.intro @Zk7.eq_1 (And.intro @Vc.eq_1 (And.intro @K4.eq_1 (And.intro @Zx2.eq_1 (And.intro @ZnM.eq_1 (And.intro @ZnN.eq_1 (And.intro @ZfK.eq_1 (And.intro @VA.eq_1 (And.intro @Y6.eq_1 (And.intro @ZnO.eq_1 (And.intro @Zix.eq_1 (And.intro @ZnP.eq_1 (And.intro @Zhe.eq_1 (And.intro @ZnQ.eq_1 (And.intro @ZfL.eq_1 (And.intro @Zrs.eq_1 (And.intro @Zrt.eq_1 (And.intro @Zhf.eq_1 (And.intro @Zc9.eq_1 (And.intro @Kn.eq_1 (And.intro @V1.eq_1 (And.intro @XQ.eq_1 (And.intro @ZnR.eq_1 (And.intro @ZaG.eq_1 (And.intro @Zda.eq_1 (And.intro @ZeB.eq_1 (And.intro @Ziy.eq_1 (And.intro @Zcd.eq_1 (And.intro @ZeC.eq_1 (And.intro @Qw.eq_1 (And.intro @YH.eq_1 (And.intro @Zhg.eq_1 (And.intro @Zce.eq_1 @ZnS.eq_1))))))))))))))))))))))))))))))))))))))
theorem ZBC (r:Int→Nat) (x:Int) (y:Int) (m:Nat) (ws:List Nat):evF Tryz.prog (Zah 3 (Zhd r)) Zf 100 40 158 [Vm,JM x,JM y] (Zc7 68 (mpW true m ws) [(65,ws.length)] 5 4 0)=XP (JM (ZnP ZS (r (Zh5 (K3 (v64 ws) (0+Zda x x*1)) (Ziy (Int.fdiv ZnR (QE^min (YE (Qr-ZfK (Zhg Qr (Zhf (ZeB m y m y) x x) Qr) (Zce (Zc9 x x x x)))) 64)) (QE^min (Zce (Zc9 x x x x)).toNat 64)))))) 68 [(66,Kn m ws.length),(65,ZaG 65 (0+Zda x x*1) [Ziw (Zrq BinOp.andNot (K3 (v64 ws) (0+Zda x x*1)) (Ziy (Int.fdiv ZnR (QE^min (YE (Qr-ZfK (Zhg Qr (Zhf (ZeB m y m y) x x) Qr) (Zce (Zc9 x x x x)))) 64)) (QE^min (Zce (Zc9 x x x x)).toNat 64)))] (v64 ws))] [(65,ws.length)] 5 (QK (ZnS (XQ (Zcd (0+Zda x x*1+1) (v64 ws))) (Vd (ZfL x x) (Y6 (ZfL x x) ws.length)) (YH (0+Zda x x*1+1) (v64 ws) [Zg7 0] (0+Zda x x*1)) (VA (Zhe (YH (0+Zda x x*1+1) (v64 ws) [Zg7 0] (0+Zda x x*1)) (Vd (ZfL x x) (Y6 (ZfL x x) ws.length)) (Zg6 (Zce (Zc9 x x x x))) (Zg6 (ZfK Qr (ZfK (Zhg Qr (Zhf (ZeB m y m y) x x) Qr) (Zce (Zc9 x x x x))))) (QK (V1 ZeC (Zk7 (Zce x) (ZeB m y m y)) (ZkZ (Zrs x x Qr) (ZeB m y m y)=true)) (Zk7 (Zce (Zc9 x x x x)) (Zhg Qr (Zhf (ZeB m y m y) x x) Qr)))) (Qw (Ziw (Zh5 (K3 (v64 ws) (0+Zda x x*1)) (Ziy (Int.fdiv ZnR (QE^min (YE (Qr-ZfK (Zhg Qr (Zhf (ZeB m y m y) x x) Qr) (Zce (Zc9 x x x x)))) 64)) (QE^min (Zce (Zc9 x x x x)).toNat 64))))))) (ZkZ (Zg5 (Zk0 (ZfL x x) 1) Qr) (ZeB m y m y))):=by kernel_rfl
def cw_a:=Bx.mk (by have h := @ZBC; simp(maxSteps:=99999999) only[ZL.v, ZlY.v, ZN.v, -eq_self] at h; exact h)
def Vn:=Value.bool true
def Wy (a:Int):=Zk7 a ZS
def Zhh (a:Int) (b:Bool):=Vd (i64.wrap a) b
def Ve (a:Bool) (b c:Prop):=Vb a b∧c
def ZnT (a:Int) (b:Nat):=Y6 (i64.wrap a) b
def Ziz (a b:Prop):=KL a∧b
def UY (a:Prop):=Ziz a a
def Zh:=true=true
def YR (a:Prop):=a∧Zh
def Z3:=Bx.mk (And.intro @Vn.eq_1 (And.intro @Wy.eq_1 (And.intro @Zhh.eq_1 (And.intro @Ve.eq_1 (And.intro @ZnT.eq_1 (And.intro @Ziz.eq_1 (And.intro @UY.eq_1 (And.intro @Zh.eq_1 @YR.eq_1))))))))
theorem ZBD (r:Int→Nat) (x:Int) (m:Nat) (ws:List Nat):evF Tryz.prog (Zah 3 (Zhd r)) Zf 100 40 93 [Vm,JM x,Vn] (Zc7 68 (mpW true m ws) [(65,ws.length)] 12 3071 0)=XP Vn 68 [(66,Kn m ws.length),(65,ZaG 65 (0+YE (x.tdiv Qr)*1) [Ziw (Zrq BinOp.or (K3 (v64 ws) (0+YE (x.tdiv Qr)*1)) (Ziy QS (QE^min (x.tmod Qr).toNat 64)))] (v64 ws))] [(65,ws.length)] 12 (ZnS (XQ (Zcd (0+YE (x.tdiv Qr)*1+1) (v64 ws))) (Zhh (x.tdiv Qr) (ZnT (x.tdiv Qr) ws.length)) (YH (0+YE (x.tdiv Qr)*1+1) (v64 ws) [Zg7 0] (0+YE (x.tdiv Qr)*1)) (Ve (Zg6 (x.tmod Qr)) (QK (((((((YR (UY Zh)∧Wy x=true)∧Wy x=true)∧Wy x=true)∧Wy x=true)∧Wy x=true)∧Wy x=true)∧Wy x=true) (!Y6 x m)) Zh)):=by kernel_rfl
def pw_t:=Bx.mk (by have h := @ZBD; simp(maxSteps:=99999999) only[ZL.v, ZlY.v, ZN.v, Z3.v, -eq_self] at h; exact h)
def YI (a:Prop):=a∧Zx1
def KQ:=Value.bool false
def Qb:=Bx.mk (And.intro @YI.eq_1 @KQ.eq_1)
theorem ZBE (r:Int→Nat) (x:Int) (m:Nat) (ws:List Nat):evF Tryz.prog (Zah 3 (Zhd r)) Zf 100 40 93 [Vm,JM x,KQ] (Zc7 68 (mpW true m ws) [(65,ws.length)] 12 1023 0)=XP Vn 68 [(66,Kn m ws.length),(65,ZaG 65 (0+YE (x.tdiv Qr)*1) [Ziw (Zrq BinOp.andNot (K3 (v64 ws) (0+YE (x.tdiv Qr)*1)) (Ziy QS (QE^min (x.tmod Qr).toNat 64)))] (v64 ws))] [(65,ws.length)] 12 (ZnS (XQ (Zcd (0+YE (x.tdiv Qr)*1+1) (v64 ws))) (Zhh (x.tdiv Qr) (ZnT (x.tdiv Qr) ws.length)) (YH (0+YE (x.tdiv Qr)*1+1) (v64 ws) [Zg7 0] (0+YE (x.tdiv Qr)*1)) (YI (Vb (Zg6 (x.tmod Qr)) (QK (((((((YR (UY Zh)∧Wy x=true)∧Wy x=true)∧Wy x=true)∧Wy x=true)∧Wy x=true)∧Wy x=true)∧Wy x=true) (!Y6 x m))))):=by kernel_rfl
def pw_f:=Bx.mk (by have h := @ZBE; simp(maxSteps:=99999999) only[ZL.v, ZlY.v, ZN.v, Z3.v, Qb.v, -eq_self] at h; exact h)
def ZJ (a b:Int):=a==(b:Int)
def Zhi (a:Bool) (b:Prop):=QG (Value.bool a) b
def UF:=Bx.mk (And.intro @ZJ.eq_1 @Zhi.eq_1)
theorem ZBF (r:Int→Nat) (x:Int) (m:Nat) (ws:List Nat):obs (evF Tryz.prog (Zah 3 (Zhd r)) Zf 100 40 98 [Vm,JM x] (Zc7 68 (mpW false m ws) [(65,ws.length)] 24 16777215 0))=Zhi (ZJ (Zh5 ((K3 (v64 ws) (0+YE (x.tdiv Qr)*1)).fdiv (QE^min (x.tmod Qr).toNat 64)) QS) 1) ((Ve (Zg6 (x.tmod Qr)) ((Ve (YH (0+YE (x.tdiv Qr)*1+1) (v64 ws) [Zg7 0] (0+YE (x.tdiv Qr)*1)) (Ve (Zhh (x.tdiv Qr) (ZnT (x.tdiv Qr) ws.length)) ((((((((((((((YR (UY Zh)∧Wy x=true)∧Wy x=true)∧Wy x=true)∧Wy x=true)∧Wy x=true)∧Wy x=true)∧Wy x=true)∧Y6 x m=true)∧Y6 x m=true)∧Y6 x m=true)∧Y6 x m=true)∧Y6 x m=true)∧Y6 x m=true)∧Y6 x m=true) (Y6 x m=true)) (Y6 x m=true)∧Y6 x m=true)∧Y6 x m=true) (Y6 x m=true)∧Y6 x m=true)∧Y6 x m=true):=by kernel_rfl
def gw_a:=Bx.mk (by have h := @ZBF; simp(maxSteps:=99999999) only[ZL.v, ZZ.v, ZlY.v, ZN.v, Z3.v, UF.v, -eq_self] at h; exact h)
def bn (f:Nat→Bool):Nat→Nat
 | 0=>0
 | n+1=>(f 0).toNat+2*bn (fun i=>f (i+1)) n
theorem ZfM:∀ (n:Nat) (f:Nat→Bool) (i:Nat),(bn f n).testBit i=(decide (i<n)&&f i)
 | 0,f,i=>by simp[bn]
 | n+1,f,0=>by
  simp only[bn,Nat.testBit_zero]
  cases f 0<;>simp<;>omega
 | n+1,f,i+1=>by
  rw[Nat.testBit_succ]
  have:bn f (n+1)/2=bn (fun i=>f (i+1)) n:=by
   simp only[bn]; cases f 0<;>simp<;>omega
  rw[this,ZfM n (fun i=>f (i+1)) i]
  simp
theorem Zru:∀ (n:Nat) (f:Nat→Bool),bn f n<2^n
 | 0,f=>by simp[bn]
 | n+1,f=>by
  have:=Zru n (fun i=>f (i+1))
  simp only[bn,Nat.pow_succ]
  cases f 0<;>simp<;>omega
theorem ZwJ (f g:Nat→Bool) (n:Nat) (h:∀ i,i<n→f i=g i):bn f n=bn g n:=by
 apply Nat.eq_of_testBit_eq
 intro i
 rw[ZfM,ZfM]
 by_cases hi:i<n
 ·simp[hi,h i hi]
 ·simp[hi]
def Yu (f:Nat→Bool) (g:Nat) (b:Bool):Nat→Bool:=fun i=>if i=g then b else f i
theorem ZjH (n:Nat) (h:n<18446744073709551616):u64.wrap (n:Int)=(n:Int):=by
 show(n:Int)%18446744073709551616=n
 omega
theorem ZBG (f:Nat→Bool) (j:Nat) (hj:j<64):bits .or .u64 ((bn f 64:Nat):Int) ((2^j:Nat):Int)=((bn (Yu f j true) 64:Nat):Int):=by
 have h1:=Zru 64 f
 show u64.wrap ((BitVec.ofInt 64 ((bn f 64:Nat):Int)|||BitVec.ofInt 64 ((2^j:Nat):Int)).toNat:Int)=_
 have he:(BitVec.ofInt 64 ((bn f 64:Nat):Int)|||BitVec.ofInt 64 ((2^j:Nat):Int)).toNat=bn (Yu f j true) 64:=by
  apply Nat.eq_of_testBit_eq
  intro i
  rw[BitVec.testBit_toNat,BitVec.getLsbD_or,BitVec.ofInt_natCast,BitVec.ofInt_natCast,BitVec.getLsbD_ofNat,BitVec.getLsbD_ofNat,ZfM,ZfM,Nat.testBit_two_pow]
  by_cases hi:i<64
  ·by_cases h:i=j
   ·subst h; simp[hi,Yu]
   ·have:¬ j=i:=fun e=>h e.symm
    simp[hi,Yu,h,this]
  ·simp[hi]
 rw[he,ZjH _ (by have:=Zru 64 (Yu f j true); simpa using this)]
theorem ZiA (f:Nat→Bool) (j:Nat) (hj:j<64):bits .andNot .u64 ((bn f 64:Nat):Int) ((2^j:Nat):Int)=((bn (Yu f j false) 64:Nat):Int):=by
 show u64.wrap ((BitVec.ofInt 64 ((bn f 64:Nat):Int) &&& ~~~ BitVec.ofInt 64 ((2^j:Nat):Int)).toNat:Int)=_
 have he:(BitVec.ofInt 64 ((bn f 64:Nat):Int) &&& ~~~ BitVec.ofInt 64 ((2^j:Nat):Int)).toNat=bn (Yu f j false) 64:=by
  apply Nat.eq_of_testBit_eq
  intro i
  rw[BitVec.testBit_toNat,BitVec.getLsbD_and,BitVec.getLsbD_not,BitVec.ofInt_natCast,BitVec.ofInt_natCast,BitVec.getLsbD_ofNat,BitVec.getLsbD_ofNat,ZfM,ZfM,Nat.testBit_two_pow]
  by_cases hi:i<64
  ·by_cases h:i=j
   ·subst h; simp[hi,Yu]
   ·have:¬ j=i:=fun e=>h e.symm
    simp[hi,Yu,h,this]
  ·simp[hi]
 rw[he,ZjH _ (by have:=Zru 64 (Yu f j false); simpa using this)]
theorem Zx3 (f:Nat→Bool) (j:Nat) (hj:j<64):(bits .and .u64 (((bn f 64:Nat):Int).fdiv ((2:Int)^j)) (1:Int)==(1:Int))=f j:=by
 have e2:(2:Int)^j=((2^j:Nat):Int):=by rw[Int.natCast_pow]; rfl
 rw[e2,fdA]
 have h1:=Zru 64 f
 have hlt:bn f 64/2^j<2^64:=Nat.lt_of_le_of_lt (Nat.div_le_self _ _) h1
 have hb:bits .and .u64 ((bn f 64/2^j:Nat):Int) (1:Int)=((bn f 64/2^j%2:Nat):Int):=by
  show u64.wrap ((BitVec.ofInt 64 ((bn f 64/2^j:Nat):Int)&&&BitVec.ofInt 64 ((1:Nat):Int)).toNat:Int)=_
  rw[BitVec.ofInt_natCast,BitVec.ofInt_natCast,BitVec.toNat_and,BitVec.toNat_ofNat,BitVec.toNat_ofNat,Nat.mod_eq_of_lt hlt,Nat.mod_eq_of_lt (by omega:1<2^64),Nat.and_one_is_mod,ZjH _ (by omega)]
 rw[hb]
 have ht:(bn f 64).testBit j=f j:=by rw[ZfM]; simp[hj]
 rw[Nat.testBit_eq_decide_div_mod_eq] at ht
 rw[← ht]
 have:bn f 64/2^j%2=0∨bn f 64/2^j%2=1:=by omega
 rcases this with h|h<;>rw[h]<;>rfl
def Za (f:Nat→Bool) (n:Nat):List Nat:=(List.range n).map fun k=>bn (fun i=>f (64*k+i)) 64
theorem Qk (f:Nat→Bool) (n:Nat):(Za f n).length=n:=by simp[Za]
theorem ZnU (f:Nat→Bool) (n k:Nat) (h:k<n):Yi (ZC undef (v64 (Za f n)) k)=((bn (fun i=>f (64*k+i)) 64:Nat):Int):=by
 unfold v64
 rw[Jh _ _ (0:Nat),if_pos (by rw[Qk]; exact h)]
 show(((Za f n).getD k 0:Nat):Int)=_
 rw[List.getD_eq_getElem?_getD]
 simp[Za,h]
theorem Zgs (f:Nat→Bool) (n k:Nat) (h:k<n):ZF [.int .u64 0] (v64 (Za f n)) k=true:=by
 simp only[ZF,Bool.and_true]
 unfold v64
 rw[Jh _ _ (0:Nat),if_pos (by rw[Qk]; exact h)]
 rfl
theorem ZjI (ws:List Nat) (k:Nat):WH k (v64 ws)=decide (k≤ws.length):=by
 rw[Bool.eq_iff_iff,W8]; simp[v64]
theorem Zm (ws:List Nat):∀ v∈v64 ws,Z4 v=true:=fun v hv=>by
 obtain⟨b,_,rfl⟩:=List.mem_map.1 hv; rfl
theorem Zms (f g:Nat→Bool) (n k:Nat) (h:k<n) (he:∀ i,i/64≠k→f i=g i) (v:Nat) (hv:v=bn (fun i=>g (64*k+i)) 64):Ym k [.int .u64 (v:Nat)] (v64 (Za f n))=v64 (Za g n):=by
 apply List.ext_getElem?
 intro j
 rw[Vv _ _ _ _ (by simp[v64,Qk]; omega)]
 simp only[v64,List.getElem?_map,List.length_singleton]
 by_cases hj:k≤j∧j<k+1
 ·have:j=k:=by omega
  subst this
  rw[if_pos hj]
  simp[Za,h,hv]
 ·rw[if_neg hj]
  by_cases hn:j<n
  ·simp only[Za,List.getElem?_map,List.getElem?_range hn,Option.map_some]
   rw[ZwJ (fun i=>f (64*j+i)) (fun i=>g (64*j+i)) 64 (fun i hi=>he _ (by omega))]
  ·simp only[Za,List.getElem?_map]
   have hnone:(List.range n)[j]? = none:=List.getElem?_eq_none (by simp; omega)
   simp only[hnone,Option.map_none]
theorem Zk8:ZgW Tryz.prog 3 (Zhd ZtH):=by
 intro f args s c ρ q h hq
 unfold Zhd at h
 obtain⟨h2,h3⟩:=Z9 h
 have h2:=eB h2
 subst h2
 split at h3
 ·cases h3; exact Zx0 _
 ·cases h3
theorem Zrv {q:Nat→Bool} (h:∀ l,l<68→q l=true) (rw:Bool) (m:Nat) (ws:List Nat):OkH q (mpW rw m ws) :=
 ⟨⟨h 66 (by omega),rfl,fun v hv=>QQ 3 v (Zri h m ws.length v hv)⟩,⟨h 65 (by omega),h 65 (by omega),ZB (Zm ws)⟩,trivial⟩
def ZEy (args:List Value) (v:Value) (m n:Nat) (f g:Nat→Bool):Con:=⟨args,68,mpW true m (Za f n),[(65,n)],v,68,[(65,⟨true,some (65,1),v64 (Za g n),none⟩)],[]⟩
theorem Zmt {fn:FuncId} {args:List Value} {v:Value} {m n:Nat} {f g:Nat→Bool} {T:List (Nat×Bool)} {s':Sy.St} (ha:args.all (okV (fun l=>Nat.blt l 68) 3)=true) (hv:X1 v=true) (hu:isU v=false)
  (hr:evF Tryz.prog (Zah 3 (Zhd ZtH)) Zf 100 40 fn args ⟨68,mpW true m (Za f n),[(65,n)],0,T,0,True⟩=some (v,s')) (hO:s'.O) (h65:Sy.look s'.h 65=some ⟨true,some (65,1),v64 (Za g n),none⟩):ConOk Tryz.prog fn 3 (ZEy args v m n f g):=by
 refine Qi (Zn (L:=100) Ze (Jg Zk8) (Zd _) 40) ⟨by show 64≤68; omega,Nat.le_refl _,Zrv Zfe true m _,rfl,rfl,rfl,ha,Ys hv 1,fun x hx v hv => ?_⟩ hr hO (p:=fun l=>Nat.blt l 68) (σ:=id) ?_
 ·obtain rfl:=List.mem_singleton.1 hx
  exact QP (Zm _ v hv) 3
 ·refine⟨fun _ _=>rfl,⟨⟨rfl,Zj (Zm _),rfl,?_⟩,trivial⟩,rfl,trivial,⟨Ys hv 1,by rw[Uh]; rfl⟩,hu,⟨⟨rfl,rfl,ZB (Zm _)⟩,trivial⟩,rfl,XA _ hv,fun x _ _ => .inl rfl⟩
  simp only[id,h65]
  exact⟨rfl,rfl,trivial,(X4 _ rfl _).symm⟩
def ZBH (g m n:Nat) (f:Nat→Bool) (v:Int):Con:=ZEy [.pointer (some ⟨66,0,none⟩),.int .i64 (g:Nat),.int .i64 ((g:Nat)+1:Nat)] (.int .i64 v) m n f (Yu f g false)
def ZEe (g m n:Nat) (f:Nat→Bool) (b:Bool):Con:=ZEy [.pointer (some ⟨66,0,none⟩),.int .i64 (g:Nat),.bool b] (.bool true) m n f (Yu f g b)
theorem ZjJ (f:Nat→Bool) (g:Nat) (b:Bool):∀ i,i/64≠g/64→f i=Yu f g b i:=fun i hi=>by
 unfold Yu
 rw[if_neg (fun e=>hi (by rw[e]))]
theorem Zhj (f:Nat→Bool) (g:Nat) (b:Bool):bn (Yu (fun i=>f (64*(g/64)+i)) (g%64) b) 64=bn (fun i=>Yu f g b (64*(g/64)+i)) 64:=by
 refine ZwJ _ _ 64 fun i hi => ?_
 unfold Yu
 by_cases h:i=g%64
 ·rw[if_pos h,if_pos (by omega)]
 ·rw[if_neg h,if_neg (by omega)]
theorem Zmu (g m n:Nat) (f:Nat→Bool) (b:Bool) (hg:g<m) (hm:m≤64*n) (hn:n≤100000):ConOk Tryz.prog 93 3 (ZEe g m n f b):=by
 have hk:g/64<n:=by omega
 have e1:i64.wrap ((g:Int).tdiv (64:Int))=((g/64:Nat):Int):=by rw[show(g:Int).tdiv (64:Int)=((g/64:Nat):Int) from(Int.ofNat_tdiv g 64).symm,Wb _ (by omega)]
 have e2:(g:Int).tmod (64:Int)=((g%64:Nat):Int):=(Int.ofNat_tmod g 64).symm
 have e3:min (g%64) 64=g%64:=Nat.min_eq_left (by omega)
 have hp:2^(g%64)≤2^63:=Nat.pow_le_pow_right (by omega) (by omega)
 have e4:u64.wrap ((1:Int)*(2:Int)^(g%64))=((2^(g%64):Nat):Int):=by
  rw[Int.one_mul,show(2:Int)^(g%64)=((2^(g%64):Nat):Int) by rw[Int.natCast_pow]; rfl,ZjH _ (by omega)]
 cases b
 ·have hr:=pw_f.v ZtH (g:Int) m (Za f n)
  simp only[Qk] at hr
  simp(disch:=omega) only[e1,e2,e3,e4,Int.toNat_natCast,Nat.zero_add,Nat.mul_one,ZnU,ZiA] at hr
  rw[Zms f (Yu f g false) n (g/64) hk (ZjJ f g false) _ (Zhj f g false)] at hr
  refine Zmt rfl rfl rfl hr ?_ rfl
  simp(disch:=omega) only[ZjI,Zgs,Qk,decide_eq_true,decide_eq_false,Bool.and_self,Bool.not_true,Bool.not_false,cond_true,and_true,true_and,and_self,ge_iff_le]
 ·have hr:=pw_t.v ZtH (g:Int) m (Za f n)
  simp only[Qk] at hr
  simp(disch:=omega) only[e1,e2,e3,e4,Int.toNat_natCast,Nat.zero_add,Nat.mul_one,ZnU,ZBG] at hr
  rw[Zms f (Yu f g true) n (g/64) hk (ZjJ f g true) _ (Zhj f g true)] at hr
  refine Zmt rfl rfl rfl hr ?_ rfl
  simp(disch:=omega) only[ZjI,Zgs,Qk,decide_eq_true,decide_eq_false,Bool.and_self,Bool.not_true,Bool.not_false,cond_true,and_true,true_and,and_self,ge_iff_le]
theorem Zfu (g m n:Nat) (f:Nat→Bool) (hg:g<m) (hm:m≤64*n) (hn:n≤100000):∃ v:Int,ConOk Tryz.prog 158 3 (ZBH g m n f v):=by
 have hk:g/64<n:=by omega
 have hr:=cw_a.v ZtH (g:Int) ((g+1:Nat):Int) m (Za f n)
 have x1:(if(0:Int)>(g:Int) then(0:Int) else(g:Int))=(g:Int):=if_neg (by omega)
 have x2:(if(m:Int)<((g+1:Nat):Int) then(m:Int) else((g+1:Nat):Int))=((g+1:Nat):Int):=if_neg (by omega)
 have e1:i64.wrap ((g:Int).tdiv (64:Int))=((g/64:Nat):Int):=by rw[show(g:Int).tdiv (64:Int)=((g/64:Nat):Int) from(Int.ofNat_tdiv g 64).symm,Wb _ (by omega)]
 have x3:i64.wrap (((g/64:Nat):Int)*(64:Int))=((g/64*64:Nat):Int):=by rw[show((g/64:Nat):Int)*(64:Int)=((g/64*64:Nat):Int) by omega,Wb _ (by omega)]
 have x4:i64.wrap (((g/64:Nat):Int)+(1:Int))=((g/64+1:Nat):Int):=Z7 _ (by omega)
 have x5:i64.wrap (((g/64+1:Nat):Int)*(64:Int))=(((g/64+1)*64:Nat):Int):=by rw[show((g/64+1:Nat):Int)*(64:Int)=(((g/64+1)*64:Nat):Int) by omega,Wb _ (by omega)]
 have x6:i64.wrap ((g:Int)-((g/64*64:Nat):Int))=((g%64:Nat):Int):=by rw[show(g:Int)-((g/64*64:Nat):Int)=((g%64:Nat):Int) by omega,Wb _ (by omega)]
 have x7:i64.wrap (((g+1:Nat):Int)-((g/64*64:Nat):Int))=((g%64+1:Nat):Int):=by rw[show((g+1:Nat):Int)-((g/64*64:Nat):Int)=((g%64+1:Nat):Int) by omega,Wb _ (by omega)]
 have x8:(if(64:Int)<((g%64+1:Nat):Int) then(64:Int) else((g%64+1:Nat):Int))=((g%64+1:Nat):Int):=if_neg (by omega)
 have x9:(if(0:Int)>((g%64:Nat):Int) then(0:Int) else((g%64:Nat):Int))=((g%64:Nat):Int):=if_neg (by omega)
 have y1:i64.wrap (((g%64+1:Nat):Int)-((g%64:Nat):Int))=(1:Int):=by rw[show((g%64+1:Nat):Int)-((g%64:Nat):Int)=((1:Nat):Int) by omega,Wb _ (by omega)]; rfl
 have y2:i64.wrap ((64:Int)-(1:Int))=(63:Int):=by kernel_rfl
 have y3:Int.fdiv (18446744073709551615:Int) ((2:Int)^min (63:Int).toNat 64)=1:=by kernel_rfl
 have e3:min (g%64) 64=g%64:=Nat.min_eq_left (by omega)
 have hp:2^(g%64)≤2^63:=Nat.pow_le_pow_right (by omega) (by omega)
 have e4:u64.wrap ((1:Int)*(2:Int)^(g%64))=((2^(g%64):Nat):Int):=by
  rw[Int.one_mul,show(2:Int)^(g%64)=((2^(g%64):Nat):Int) by rw[Int.natCast_pow]; rfl,ZjH _ (by omega)]
 simp only[Qk] at hr
 simp(disch:=omega) only[x1,x2,e1,x3,x4,x5,x6,x7,x8,x9,y1,y2,y3,e3,e4,Int.toNat_natCast,Nat.zero_add,Nat.mul_one,ZnU,ZiA] at hr
 rw[Zms f (Yu f g false) n (g/64) hk (ZjJ f g false) _ (Zhj f g false)] at hr
 refine⟨_,Zmt rfl rfl rfl hr ?_ rfl⟩
 simp(disch:=omega) only[ZjI,Zgs,Qk,decide_eq_true,decide_eq_false,Bool.and_self,Bool.not_true,Bool.not_false,cond_true,and_true,true_and,and_self,ge_iff_le]
def ZEz (g m n:Nat) (f:Nat→Bool):Con:=⟨[.pointer (some ⟨66,0,none⟩),.int .i64 (g:Nat)],68,mpW false m (Za f n),[(65,n)],.bool (f g),68,[],[]⟩
theorem Zmv (g m n:Nat) (f:Nat→Bool) (hg:g<m) (hm:m≤64*n) (hn:n≤100000):ConOk Tryz.prog 98 3 (ZEz g m n f):=by
 have hk:g/64<n:=by omega
 have e1:i64.wrap ((g:Int).tdiv (64:Int))=((g/64:Nat):Int):=by rw[show(g:Int).tdiv (64:Int)=((g/64:Nat):Int) from(Int.ofNat_tdiv g 64).symm,Wb _ (by omega)]
 have e2:(g:Int).tmod (64:Int)=((g%64:Nat):Int):=(Int.ofNat_tmod g 64).symm
 have e3:min (g%64) 64=g%64:=Nat.min_eq_left (by omega)
 have hr:=gw_a.v ZtH (g:Int) m (Za f n)
 simp only[Qk] at hr
 simp(disch:=omega) only[e1,e2,e3,Int.toNat_natCast,Nat.zero_add,Nat.mul_one,ZnU,Zx3] at hr
 have hfg:f (64*(g/64)+g%64)=f g:=by rw[show 64*(g/64)+g%64=g by omega]
 rw[hfg] at hr
 unfold obs at hr
 obtain⟨⟨v',s'⟩,h1,h2⟩:=oM hr
 simp only[Prod.mk.injEq] at h2
 obtain⟨rfl,hq⟩:=h2
 refine Qi (Zn (L:=100) Ze (Jg Zk8) (Zd _) 40) ⟨by show 64≤68; omega,Nat.le_refl _,Zrv Zfe false m _,rfl,rfl,rfl,rfl,rfl,fun x hx=>by cases hx⟩ h1 ?_ (p:=fun l=>Nat.blt l 68) (σ:=id) ?_
 ·rw[hq]
  simp(disch:=omega) only[ZjI,Zgs,Qk,decide_eq_true,decide_eq_false,Bool.and_self,Bool.not_true,Bool.not_false,cond_true,and_true,true_and,and_self,ge_iff_le]
 ·exact⟨fun _ _=>rfl,trivial,rfl,trivial,⟨rfl,by rw[Uh]; rfl⟩,rfl,trivial,rfl,Zy _ rfl,fun x hx=>by cases hx⟩
def cpV (c e b t p y r:Nat) (v:Bool):Value:=.agg ⟨[.int .u32 (c:Nat),.int .u8 (e:Nat),.int .u16 (b:Nat),.int .u16 (t:Nat),.int .u16 (p:Nat),.int .u16 (y:Nat),.int .u32 (r:Nat),.bool v]⟩
def Zhk (a:List Value):=Value.agg { toList:=a:Array Value }
def Zk9 (a b c d e f g:Value) (h:Bool):=[a,b,c,d,e,f,g,Value.bool h]
def Zcf (a b c d e f g:Value) (h:Bool):=Zhk (Zk9 a b c d e f g h)
def Zdb (a:Int):=Value.int u16 a
def Zdc (a b:Int):=Vz ((u32.wrap a).fdiv b)
def ZnV (a:Int):=Value.int u8 a
def Zcg (a b:Int):=Vz (a.fdiv b)
def Zch (a:Int):=Zdc a QS
def QH:=Bx.mk (And.intro @Zhk.eq_1 (And.intro @Zk9.eq_1 (And.intro @Zcf.eq_1 (And.intro @Zdb.eq_1 (And.intro @Zdc.eq_1 (And.intro @ZnV.eq_1 (And.intro @Zcg.eq_1 @Zch.eq_1)))))))
theorem Zx4 (c:Int) (e:Int) (b:Int) (t:Int) (p:Int) (y:Int) (r:Int) (v:Bool):obs (evF Tryz.prog Zg Zf 100 20 92 [Zcf (YG c) (ZnV e) (Zdb b) (Zdb t) (Zdb p) (Zdb y) (YG r) v] (stT []))=QG (Xd [Vz (c.fdiv QS),Vz (c.fdiv QR),Vz (c.fdiv Km),Vz (c.fdiv Zg9),Zch e,Zch b,Zdc b QR,Zch t,Zdc t QR,Zch p,Zdc p QR,Zch y,Zdc y QR,Zcg (ZfJ u32 r (65535:Int)) QS,Zcg (ZfJ u32 r (65535:Int)) QR,Zcg (ZfJ u32 (r.fdiv Km) (255:Int)) QS]) True:=by kernel_rfl
def ZEA:=Bx.mk (by have h := @Zx4; simp(maxSteps:=99999999) only[ZL.v, ZZ.v, ZlY.v, QH.v, -eq_self] at h; exact h)
def cbL (c e b t p y r:Nat):List UInt8:=leW 4 c++(leW 1 e++(leW 2 b++(leW 2 t++(leW 2 p++(leW 2 y++(leW 2 r++leW 1 (r/65536)))))))
theorem Ko (c e b t p y r:Nat):(cbL c e b t p y r).length=16:=by simp[cbL,Y1]
structure CpB (c e b t p y r:Nat):Prop where
 c:c<4294967296
 e:e<256
 b:b<65536
 t:t<65536
 p:p<65536
 y:y<65536
 r:r<4294967296
theorem andA (n k:Nat) (h:n<4294967296) (hk:k≤32):bits .and .u32 (n:Int) ((2^k-1:Nat):Int)=((n%2^k:Nat):Int):=by
 show u32.wrap ((BitVec.ofInt 32 (n:Int)&&&BitVec.ofInt 32 ((2^k-1:Nat):Int)).toNat:Int)=_
 have h1:2^k≤2^32:=Nat.pow_le_pow_right (by omega) hk
 have h0:0<2^k:=Nat.two_pow_pos k
 rw[BitVec.toNat_and,BitVec.ofInt_natCast,BitVec.ofInt_natCast,BitVec.toNat_ofNat,BitVec.toNat_ofNat,Nat.mod_eq_of_lt (by omega),Nat.mod_eq_of_lt (by omega),Nat.and_two_pow_sub_one_eq_mod]
 have:=Nat.mod_le n (2^k)
 exact UJ _ (by omega)
def ZEf (c e b t p y r:Nat) (v:Bool):Con:=Con.pure [cpV c e b t p y r v] (.string ⟨⟨cbL c e b t p y r⟩⟩)
theorem Zmw (c e b t p y r:Nat) (v:Bool) (h:CpB c e b t p y r):ConOk Tryz.prog 92 3 (ZEf c e b t p y r v):=by
 obtain⟨h1,h2,h3,h4,h5,h6,h7⟩:=h
 have hr:=ZEA.v (c:Int) (e:Int) (b:Int) (t:Int) (p:Int) (y:Int) (r:Int) v
 have fd0:∀ n:Nat,(n:Int).fdiv (1:Int)=((n:Nat):Int):=fun n=>by rw[show(1:Int)=((1:Nat):Int) from rfl,fdA,Nat.div_one]
 have fd1:∀ n:Nat,(n:Int).fdiv (256:Int)=((n/256:Nat):Int):=fun n=>fdA n 256
 have fd2:∀ n:Nat,(n:Int).fdiv (65536:Int)=((n/65536:Nat):Int):=fun n=>fdA n 65536
 have fd3:∀ n:Nat,(n:Int).fdiv (16777216:Int)=((n/16777216:Nat):Int):=fun n=>fdA n 16777216
 have a1:∀ n:Nat,n<4294967296→bits .and .u32 (n:Int) (65535:Int)=((n%65536:Nat):Int):=fun n hn=>andA n 16 hn (by omega)
 have a2:∀ n:Nat,n<4294967296→bits .and .u32 (n:Int) (255:Int)=((n%256:Nat):Int):=fun n hn=>andA n 8 hn (by omega)
 simp(disch:=omega) only[fd0,fd1,fd2,fd3,a1,a2,UJ,w8A] at hr
 have d2:∀ n:Nat,n/65536=n/256/256:=fun n=>by omega
 have d3:∀ n:Nat,n/16777216=n/256/256/256:=fun n=>by omega
 have m1:r%65536%256=r%256:=by omega
 have m2:r%65536/256%256=r/256%256:=by omega
 simp only[m1,m2,d2,d3,Nat.mod_mod] at hr
 have hl:cbL c e b t p y r=[UInt8.ofNat (c%256),UInt8.ofNat (c/256%256),UInt8.ofNat (c/256/256%256),UInt8.ofNat (c/256/256/256%256),UInt8.ofNat (e%256),UInt8.ofNat (b%256),UInt8.ofNat (b/256%256),UInt8.ofNat (t%256),UInt8.ofNat (t/256%256),UInt8.ofNat (p%256),UInt8.ofNat (p/256%256),UInt8.ofNat (y%256),UInt8.ofNat (y/256%256),UInt8.ofNat (r%256),UInt8.ofNat (r/256%256),UInt8.ofNat (r/256/256%256)]:=by
  simp only[cbL,leW,List.cons_append,List.nil_append,d2]
 unfold ZEf
 rw[hl]
 exact ZX (d:=1) (Zn (L:=100) Ze (Zc _) (Zd _) 20) hr trivial rfl rfl
def sndC (c e b t p y r:Nat) (v:Bool):Con:=Con.pure [cpV c e b t p y r v] (.bool (XD e b t p y r))
theorem Zrw (c e b t p y r:Nat) (v:Bool) (h:CpB c e b t p y r):ConOk Tryz.prog 46 3 (sndC c e b t p y r v):=by
 obtain⟨h1,h2,h3,h4,h5,h6,h7⟩:=h
 refine Qj (d:=1) (Yr Ze (by kernel_rfl)) (fun u hu => ?_) rfl fun w => ?_
 ·obtain rfl:=List.mem_singleton.1 hu; rfl
 ·exact Zg2 c e b t p y r v w (by unfold Zbb; omega)
def arW (rw:Bool) (zs:List UInt8) (f:Nat→Bool) (N m n:Nat):Sy.Heap:=[(67,⟨rw,none,[.pointer (some ⟨66,0,none⟩),.slice (some ⟨64,0,none⟩) N (big+64)],none⟩),(66,⟨rw,none,[.int .i64 (m:Nat),.slice (some ⟨65,0,none⟩) n (big+65)],none⟩),(65,⟨rw,some (65,1),v64 (Za f n),none⟩),(64,⟨rw,some (64,1),u8s zs,none⟩)]
def scL (g m n:Nat) (f:Nat→Bool) (cv:Int) (c e b t p y r:Nat) (k:Bool):Sy.Steps :=
 [(69,92,ZEf c e b t p y r true,[]),(71,158,ZBH g m n f cv,[64,65,66,67]),(71,46,sndC c e b t p y r true,[]),(71,93,ZEe g m n (Yu f g false) k,[64,65,66,67])]
def gtD (x:Int) (m n:Nat) (f:Nat→Bool):Con:=⟨[.pointer (some ⟨66,0,none⟩),.int .i64 x],68,mpW false m (Za f n),[(65,n)],.bool (f x.toNat),68,[],[]⟩
def ZjK (m n:Nat) (f:Nat→Bool):ZkG:=fun fn args _=>bif Nat.beq fn 98 then
 match args with
 | [_,.int .i64 x]=>some (gtD x m n f,[64,65,66,67],0≤x∧x<m)
 | _=>none
 else none
def Zrx (a:Int):=ZAZ u16 a
def ZBJ (a:Int):=ZAZ u32 a
def Zgb (a:Nat→Bool) (b:Nat):=v64 (Za a b)
def ZaH (a b:Nat) (c:List Nat) (d:Nat) (e:List Value):=List.map (rnV (lift a b c) d) e
def Zry (a b c:Prop):=a∧Zc1 b c
def Zgc (a:Nat):=(↑a:Int).toNat
def ZbR (a:Nat):=Zrx ↑a
def Zx5 (a b c d:Prop):=a∧Zry b c d
def Zun (a b c d e f:Prop):=a∧b∧Zx5 c d e f
def Zfv (a:List Value) (b:Nat→Bool) (c:Nat):=a.all (okV b c)
def VP (a b:Prop):=a∧Zk6 b
def ZjL (a:Value) (b:Int) (c d e f:Value) (g:Int) (h:Bool):=Zk9 a (Zrf b) c d e f (ZBJ g) h
def Zx6 (a b:Int) (c d e f:Value) (g:Int) (h:Bool):=ZjL (ZBJ a) b c d e f g h
def Wz (a b c:Prop):=a∧VP b c
def Zx7 (a b:Int) (c d e f:Nat) (g:Int) (h:Bool):=Zx6 a b (ZbR c) (ZbR d) (ZbR e) (ZbR f) g h
def JE (a:Int) (b:Nat):=Zmn a (ZP b)
def Vo (a:Prop):=YI (YI a)
def KM (a:Prop):=Vo (Vo a)
def Zuo (a:Nat) (b:List Nat) (c:Nat) (d:List Value):=ZaH 68 a b c d
def Zci (a:List UInt8):=ZP (Qv a)
def ZnW (a b:Nat):=Zgc a*b
def V2 (a:Nat):=i64.wrap (ZP a)
def Zla (a:Bool) (b c d e:Prop):=Zun (true=true) (a=true) b c d e
def ZI (a b c d e f g:Nat) (h:Bool):=Zhk (Zx7 ↑a ↑b c d e f ↑g h)
def Qo (a:Nat):=ZBJ ↑a
def Zlb (a b c d e:Nat) (f:Nat→Bool) (g:Nat):=Zuo a [b,c,d,e] 3 (Zgb f g)
def Zrz (a:List UInt8) (b:Nat):=(Qv a).min b
def ZeD (a b c d e f g:Nat):=Zci (cbL a b c d e f g)
def Zhl (a b:Int):=JM (Zbr a b)
def ZaI (a b:Nat) (c:List Value):=List.take a (List.drop b c)
def ZfN (a:Nat→Bool) (b:Nat) (c:List Value):=Zgb a b=c
def ZiB (a:Nat→Bool) (b:Nat) (c:Nat→Bool) (d e f:Prop) (g:Nat→Bool) (h:Nat) (i:List Value):=Zla (Zfv (Zgb a b) c 3) d e f (ZfN g h i)
def Zcj (a b:Prop):=Zla true (true=true) (true=true) a b
def Zdd (a b c:Prop):=VP (Zcj a b) c
def ZrA (a:Nat) (b:Nat→Bool) (c:Nat):=Zlb a 64 65 66 67 b c
def ZrB (a:Int) (b:Value):=JM a=b
def Zhm (a b:Prop):=Vo a∧b
def Zbv (a:Nat→Bool) (b:Nat):=Yu a b false
def KR (a:Nat) (b:Int):=ZfK (ZP a) b
def Kp (a:Nat) (b:Nat→Bool) (c:Nat):=UT a (Zgb b c)
def KS (a:Nat):=(ZP a).tmod YL
def WX (a b c d e f g h:Nat):=JE (ZeD a b c d e f g) h
def Jr (a:Nat) (b:Bool):=JE ZS a&&b
def ZrC (a b c d e:Prop):=((Zhm a b∧c)∧d)∧e
def ZaJ (a:Sy.Heap) (b c d e:Nat):=Zc7 68 a (arO b c) d e 0
def Zbw (a b:Nat):=Yn (Zix a b)
def ZrD (a b:Nat) (c:List Value):=Zix a b=c
def XG (a b c:Nat) (d:Nat→Bool) (e:Nat):=ZrD a b (Zix c (Za d e).length)
def ZeE (a b:Bool):=Value.bool a=Value.bool b
def Js (a b c d e f g:Nat):=Wy (ZeD a b c d e f g)
def ZfO (a:Prop) (b:Nat):=a∧JE YL b=true
def ZfP (a:Prop) (b c:Nat):=ZfO (ZfO a b) c
def Zck (a:Prop) (b c d e:Nat):=ZfP (ZfP a b c) d e
def WY (a:Nat):=ZnW a 1
def ZeF (a:Prop):=YI (KM a)
def ZrE (a:Int) (b:Nat):=ZrB a (Vc b)
def ZeG (a b:Nat):=ZrE (VZ (ZP a)) b
def Zhn (a b:Prop):=KM (a∧b)
def Zcl (a b:Nat):=a-Zgc b
def Ul (a:List UInt8) (b c:Nat):=Zrz a (Zcl b c)
def Zlc (a b c:Prop):=ZrC a b b b c
def ZnX (a:Nat→Bool) (b:Nat) (c:Nat→Bool) (d:Prop) (e:List Value):=ZiB a b c d d d a b e
def ZiC (a b:Prop):=Zlc a b b
def WA (a:Prop):=YR (YR a)
def V3 (a:Prop):=WA (WA a)
def Um (a:Prop):=YR (WA a)
def XR:=Qw Vm
def WZ (a b c d e f g:Nat) (h:Bool):=Qw (ZI a b c d e f g h)
def K5 (a b:Prop):=Wz XR a b
def JF (a:Nat→Bool) (b:Nat) (c:Nat→Bool) (d:Nat):=ZnX a b c Zh (ZrA d a b)
def ZR:=Bx.mk (And.intro @Zrx.eq_1 (And.intro @ZBJ.eq_1 (And.intro @Zgb.eq_1 (And.intro @ZaH.eq_1 (And.intro @Zry.eq_1 (And.intro @Zgc.eq_1 (And.intro @ZbR.eq_1 (And.intro @Zx5.eq_1 (And.intro @Zun.eq_1 (And.intro @Zfv.eq_1 (And.intro @VP.eq_1 (And.intro @ZjL.eq_1 (And.intro @Zx6.eq_1 (And.intro @Wz.eq_1 (And.intro @Zx7.eq_1 (And.intro @JE.eq_1 (And.intro @Vo.eq_1 (And.intro @KM.eq_1 (And.intro @Zuo.eq_1 (And.intro @Zci.eq_1 (And.intro @ZnW.eq_1 (And.intro @V2.eq_1 (And.intro @Zla.eq_1 (And.intro @ZI.eq_1 (And.intro @Qo.eq_1 (And.intro @Zlb.eq_1 (And.intro @Zrz.eq_1 (And.intro @ZeD.eq_1 (And.intro @Zhl.eq_1 (And.intro @ZaI.eq_1 (And.intro @ZfN.eq_1 (And.intro @ZiB.eq_1 (And.intro @Zcj.eq_1 (And.intro @Zdd.eq_1 (And.intro @ZrA.eq_1 (And.intro @ZrB.eq_1 (And.intro @Zhm.eq_1 (And.intro @Zbv.eq_1 (And.intro @KR.eq_1 (And.intro @Kp.eq_1 (And.intro @KS.eq_1 (And.intro @WX.eq_1 (And.intro @Jr.eq_1 (And.intro @ZrC.eq_1 (And.intro @ZaJ.eq_1 (And.intro @Zbw.eq_1 (And.intro @ZrD.eq_1 (And.intro @XG.eq_1 (And.intro @ZeE.eq_1 (And.intro @Js.eq_1 (And.intro @ZfO.eq_1 (And.intro @ZfP.eq_1 (And.intro @Zck.eq_1 (And.intro @WY.eq_1 (And.intro @ZeF.eq_1 (And.intro @ZrE.eq_1 (And.intro @ZeG.eq_1 (And.intro @Zhn.eq_1 (And.intro @Zcl.eq_1 (And.intro @Ul.eq_1 (And.intro @Zlc.eq_1 (And.intro @ZnX.eq_1 (And.intro @ZiC.eq_1 (And.intro @WA.eq_1 (And.intro @V3.eq_1 (And.intro @Um.eq_1 (And.intro @XR.eq_1 (And.intro @WZ.eq_1 (And.intro @K5.eq_1 @JF.eq_1)))))))))))))))))))))))))))))))))))))))))))))))))))))))))))))))))))))
theorem ZBI (a:Nat) (g:Nat) (c:Nat) (e:Nat) (b:Nat) (t:Nat) (p:Nat) (y:Nat) (r:Nat) (zs:List UInt8) (f:Nat→Bool) (cv:Int) (N:Nat) (m:Nat) (n:Nat):evF Tryz.prog (Zs 3 (Zb (scL g m n f cv c e b t p y r (XD e b t p y r))) Zg) Zf 100 40 44 [Qe,Qo a,cpV c e b t p y r true] (ZaJ (arW true zs f N m n) N n 67 145268109035001871879)=XP Vn 71 [(65,Kp 65 (Yu (Zbv f g) g (XD e b t p y r)) n),(66,Zbw m n),(64,ZaG 64 (0+WY a) (ZaI (Ul (cbL c e b t p y r) N a*1) 0 (List.map (fun c=>Value.int u8 (↑c.toNat:Int)) (cbL c e b t p y r))) (u8s zs)),(67,ZaC N)] [(70,Zcl N a),(69,Qv (cbL c e b t p y r)),(65,n),(64,N)] 67 (Zc1 (YR (VA (WA (Zc1 (Ve (WH (0+WY a+Qv (List.take (Ul (cbL c e b t p y r) N a*1) (List.drop 0 (List.map (fun c=>Value.int u8 (↑c.toNat:Int)) (cbL c e b t p y r))))) (u8s zs)&&ZfE (ZaI (Ul (cbL c e b t p y r) N a*1) 0 (List.map (fun c=>Value.int u8 (↑c.toNat:Int)) (cbL c e b t p y r)))&&(List.take (Ul (cbL c e b t p y r) N a*1) (List.drop 0 (List.map (fun c=>Value.int u8 (↑c.toNat:Int)) (cbL c e b t p y r)))).all Z4) (K4 ((Qv (List.take (Ul (cbL c e b t p y r) N a*1) (List.drop 0 (List.map (fun c=>Value.int u8 (↑c.toNat:Int)) (cbL c e b t p y r))))).beq (Ul (cbL c e b t p y r) N a*1)) (WH (0+Ul (cbL c e b t p y r) N a*1) (List.map (fun c=>Value.int u8 (↑c.toNat:Int)) (cbL c e b t p y r))) (Ve (Jr a (JE (ZP a) N)) (QK (((((((((((((((((((Um (ZeF (YI (VA (QK (Zck (Zck (ZfP (ZfO (Um (V3 (ZiC (Zhn (UY ((KS a==ZS)=true)) ((KS a==ZS)=true)) Zh))) N) N N) N N N N) N N N N∧(KS a==ZS)=true) (!decide (V2 a≤KR N YL))) (WZ c e b t p y r true))))∧Js c e b t p y r=true)∧Js c e b t p y r=true)∧Js c e b t p y r=true)∧Js c e b t p y r=true)∧Js c e b t p y r=true)∧Js c e b t p y r=true)∧Js c e b t p y r=true)∧Js c e b t p y r=true)∧WX c e b t p y r N=true)∧WX c e b t p y r N=true)∧WX c e b t p y r N=true)∧WX c e b t p y r N=true)∧WX c e b t p y r N=true)∧WX c e b t p y r N=true)∧WX c e b t p y r N=true)∧WX c e b t p y r N=true)∧WX c e b t p y r N=true)∧WX c e b t p y r N=true)∧WX c e b t p y r N=true) (!decide (V2 a≤KR N (ZeD c e b t p y r)))) ((Zgc a).blt N=true))) (Uj (ZeD c e b t p y r) ZS=true)) (Wz (K5 (ZeG a g) (Zhl (Zf9 (V2 a) (ZeD c e b t p y r)-QS) 1=Vc (g+1))) (Zdd Zh (XG m n m f n) (JF f n (fun l=>l.blt 68) 71)) (Zh∧n≤n)))) (WZ c e b t p y r true))) (Wz (K5 (ZeG a g) (ZeE (XD e b t p y r) (XD e b t p y r))) (Zdd Zh (XG m n m (Zbv f g) n) (JF (Zbv f g) n (fun l=>l.blt 68) 71)) (Zh∧n≤n))):=by kernel_rfl
def sc_t:=Bx.mk (by have h := @ZBI; simp(maxSteps:=99999999) only[ZL.v, ZN.v, Z3.v, Qb.v, QH.v, ZR.v, -eq_self] at h; exact h)
def JG (a b c d:Prop):=a∧Wz b c d
def KT (a:Prop):=YI (Vo a)
def WB:=Value.slice none 0 0
def Kq (a:Prop):=KT (KM a)
def Zde (a b c d e:Prop):=a∧JG b c d e
def VB (a:List UInt8) (b:Nat→Bool) (c d e:Nat):=arW false a b c d e
def ZnY (a b:Int):=ZrB a (JM b)
def ZeH (a:Nat):=ZP a*QR
def Xe (a:Nat) (b:Int):=Zbr (ZeH a) b
def JN (a:Nat) (b:Int):=(Zbr (ZeH a) b).toNat
def VC (a b c d e f g h:Prop):=Zde a b (VP c d) (Zdd e f g) h
def Kr (a:List UInt8) (b:Nat→Bool) (c d e f g h i:Nat):=ZaJ (VB a b c d e) f g h i
def ZeI (a:Nat) (b:Int):=Zh2 (ZP a) b
def Un (a:Prop) (b:Bool):=ZdM a b b
def Y7 (a:Int):=ZnY a a
def VD (a:Nat→Bool) (b:Nat) (c:Nat→Bool) (d:Prop) (e:Nat→Bool) (f:Nat) (g:Nat→Bool) (h:Nat):=ZiB a b c d d d e f (ZrA 68 g h)
def Vp (a:Nat) (b:Int):=Qw (Zhl (ZeH a) b)
def X5 (a:Prop) (b:Bool):=V1 a b Zh
def Qc:=Bx.mk (And.intro @JG.eq_1 (And.intro @KT.eq_1 (And.intro @WB.eq_1 (And.intro @Kq.eq_1 (And.intro @Zde.eq_1 (And.intro @VB.eq_1 (And.intro @ZnY.eq_1 (And.intro @ZeH.eq_1 (And.intro @Xe.eq_1 (And.intro @JN.eq_1 (And.intro @VC.eq_1 (And.intro @Kr.eq_1 (And.intro @ZeI.eq_1 (And.intro @Un.eq_1 (And.intro @Y7.eq_1 (And.intro @VD.eq_1 (And.intro @Vp.eq_1 @X5.eq_1)))))))))))))))))
theorem ZBK (g:Nat) (zs:List UInt8) (f:Nat→Bool) (N:Nat) (m:Nat) (n:Nat):obs (evF Tryz.prog (Zah 3 (ZjK m n f)) Zf 100 40 47 [Qe,Vc g] (Kr zs f N m n N n 47 23456248053760))=QG WB (YI (QK (VC (X5 (VC (X5 (VC (X5 (VC (X5 (VC (X5 (VC (X5 (VC (X5 (VC (X5 (VC (X5 (VC (X5 (VC (X5 (VC (X5 (VC (X5 (VC (X5 (VC (X5 (VC (YR (ZaD (Kq (Un (X3 (YM (ZP g))) (YM (ZP g)))) (ZP g) (ZP g) (ZP g) (Zk7 (ZP g) (ZeI N QR)))) (ZS≤Zf9 (VZ (ZeH g)) ZS∧Zf9 (VZ (ZeH g)) ZS<ZP m) XR (Y7 (Zf9 (VZ (ZeH g)) ZS)) Zh (XG m n m f n) (VD f n (fun l=>l.blt 68) Zh f n f n) (Zh∧n≤n)) (f (Zf9 (VZ (ZeH g)) ZS).toNat)) (ZS≤Xe g 1∧Xe g 1<ZP m) XR (Vp g 1) Zh (XG m n m f n) (VD f n (fun l=>l.blt 68) Zh f n f n) (Zh∧n≤n)) (f (JN g 1))) (ZS≤Xe g 2∧Xe g 2<ZP m) XR (Vp g 2) Zh (XG m n m f n) (VD f n (fun l=>l.blt 68) Zh f n f n) (Zh∧n≤n)) (f (JN g 2))) (ZS≤Xe g 3∧Xe g 3<ZP m) XR (Vp g 3) Zh (XG m n m f n) (VD f n (fun l=>l.blt 68) Zh f n f n) (Zh∧n≤n)) (f (JN g 3))) (ZS≤Xe g 4∧Xe g 4<ZP m) XR (Vp g 4) Zh (XG m n m f n) (VD f n (fun l=>l.blt 68) Zh f n f n) (Zh∧n≤n)) (f (JN g 4))) (ZS≤Xe g 5∧Xe g 5<ZP m) XR (Vp g 5) Zh (XG m n m f n) (VD f n (fun l=>l.blt 68) Zh f n f n) (Zh∧n≤n)) (f (JN g 5))) (ZS≤Xe g 6∧Xe g 6<ZP m) XR (Vp g 6) Zh (XG m n m f n) (VD f n (fun l=>l.blt 68) Zh f n f n) (Zh∧n≤n)) (f (JN g 6))) (ZS≤Xe g 7∧Xe g 7<ZP m) XR (Vp g 7) Zh (XG m n m f n) (VD f n (fun l=>l.blt 68) Zh f n f n) (Zh∧n≤n)) (f (JN g 7))) (ZS≤Xe g 8∧Xe g 8<ZP m) XR (Vp g 8) Zh (XG m n m f n) (VD f n (fun l=>l.blt 68) Zh f n f n) (Zh∧n≤n)) (f (JN g 8))) (ZS≤Xe g 9∧Xe g 9<ZP m) XR (Vp g 9) Zh (XG m n m f n) (VD f n (fun l=>l.blt 68) Zh f n f n) (Zh∧n≤n)) (f (JN g 9))) (ZS≤Xe g 10∧Xe g 10<ZP m) XR (Vp g 10) Zh (XG m n m f n) (VD f n (fun l=>l.blt 68) Zh f n f n) (Zh∧n≤n)) (f (JN g 10))) (ZS≤Xe g 11∧Xe g 11<ZP m) XR (Vp g 11) Zh (XG m n m f n) (VD f n (fun l=>l.blt 68) Zh f n f n) (Zh∧n≤n)) (f (JN g 11))) (ZS≤Xe g 12∧Xe g 12<ZP m) XR (Vp g 12) Zh (XG m n m f n) (VD f n (fun l=>l.blt 68) Zh f n f n) (Zh∧n≤n)) (f (JN g 12))) (ZS≤Xe g 13∧Xe g 13<ZP m) XR (Vp g 13) Zh (XG m n m f n) (VD f n (fun l=>l.blt 68) Zh f n f n) (Zh∧n≤n)) (f (JN g 13))) (ZS≤Xe g 14∧Xe g 14<ZP m) XR (Vp g 14) Zh (XG m n m f n) (VD f n (fun l=>l.blt 68) Zh f n f n) (Zh∧n≤n)) (f (JN g 14))) (ZS≤Xe g 15∧Xe g 15<ZP m) XR (Vp g 15) Zh (XG m n m f n) (VD f n (fun l=>l.blt 68) Zh f n f n) (Zh∧n≤n)) (f (JN g 15)))):=by kernel_rfl
def tg_0:=Bx.mk (by have h := @ZBK; simp(maxSteps:=99999999) only[ZL.v, ZZ.v, ZN.v, Z3.v, Qb.v, ZR.v, Qc.v, -eq_self] at h; exact h)
theorem W0 {q:Nat→Bool} (h:∀ l,l<68→q l=true) (rw:Bool) (zs:List UInt8) (f:Nat→Bool) (N m n:Nat):OkH q (arW rw zs f N m n) :=
 ⟨⟨h 67 (by omega),rfl,fun v hv=>QQ 3 v ((WM h N m n).1 v hv)⟩,⟨h 66 (by omega),rfl,fun v hv=>QQ 3 v ((WM h N m n).2 v hv)⟩,⟨h 65 (by omega),h 65 (by omega),ZB (Zm _)⟩,⟨h 64 (by omega),h 64 (by omega),ZB (Zl zs)⟩,trivial⟩
theorem Zmx (rw:Bool) (zs:List UInt8) (f:Nat→Bool) (N m n:Nat):∀ x∈arW rw zs f N m n,∀ v∈x.2.cells,okV (fun l=>Nat.blt l 68) 3 v=true:=fun x hx v hv=>by
 simp only[arW,List.mem_cons,List.not_mem_nil,or_false] at hx
 rcases hx with rfl|rfl|rfl|rfl
 ·exact(WM Zfe N m n).1 v hv
 ·exact(WM Zfe N m n).2 v hv
 ·exact QP (Zm _ v hv) 3
 ·exact QP (Zl zs v hv) 3
theorem UZ (rw:Bool) (zs:List UInt8) (f:Nat→Bool) (N m n:Nat):∀ x∈arW rw zs f N m n,x.2.op≠none→∀ v∈x.2.cells,Z4 v=true:=fun x hx hne=>by
 simp only[arW,List.mem_cons,List.not_mem_nil,or_false] at hx
 rcases hx with rfl|rfl|rfl|rfl
 ·exact absurd rfl hne
 ·exact absurd rfl hne
 ·exact Zm _
 ·exact Zl zs
theorem VK {s':Sy.St} (zs:List UInt8) (f:Nat→Bool) (N m n:Nat) (cs ws:List Value) (h67:Sy.look s'.h 67=some ⟨true,none,[.pointer (some ⟨66,0,none⟩),.slice (some ⟨64,0,none⟩) N (big+64)],none⟩) (h66:Sy.look s'.h 66=some ⟨true,none,[.int .i64 (m:Nat),.slice (some ⟨65,0,none⟩) n (big+65)],none⟩)
  (h65:Sy.look s'.h 65=some ⟨true,some (65,1),ws,none⟩) (h64:Sy.look s'.h 64=some ⟨true,some (64,1),cs,none⟩) (hw:ws=v64 (Za f n)) (hc:cs=u8s zs):WS 3 (fun l=>Nat.blt l 68) id s'.h (arW true zs f N m n):=by
 refine⟨⟨rfl,List.all_eq_true.2 (WM Zfe N m n).1,rfl,?_⟩,⟨rfl,List.all_eq_true.2 (WM Zfe N m n).2,rfl,?_⟩,⟨rfl,Zj (Zm _),rfl,?_⟩,⟨rfl,Zj (Zl zs),rfl,?_⟩,trivial⟩
 ·simp only[id,h67]; exact⟨rfl,rfl,trivial,(X4 _ rfl _).symm⟩
 ·simp only[id,h66]; exact⟨rfl,rfl,trivial,(X4 _ rfl _).symm⟩
 ·simp only[id,h65]; exact⟨rfl,rfl,trivial,by rw[X4 _ rfl,hw]⟩
 ·simp only[id,h64]; exact⟨rfl,rfl,trivial,by rw[X4 _ rfl,hc]⟩
def Zgd (args:List Value) (zs zs':List UInt8) (f f':Nat→Bool) (N m n:Nat):Con:=⟨args,68,arW true zs f N m n,arO N n,.bool true,68,arW true zs' f' N m n,arO N n⟩
theorem Zfw {args:List Value} (ha:args.all (okV (fun l=>Nat.blt l 68) 3)=true) (zs zs':List UInt8) (f f':Nat→Bool) (N m n:Nat):(Zgd args zs zs' f f' N m n).Wf 3 :=
 ⟨by show 64≤68; omega,Nat.le_refl _,W0 Zfe true zs f N m n,rfl,rfl,rfl,ha,rfl,Zmx true _ _ N m n⟩
theorem ZaK {args:List Value} {zs zs':List UInt8} {f f':Nat→Bool} {N m n:Nat} {s':Sy.St} (h1:WS 3 (fun l=>Nat.blt l 68) id s'.h (arW true zs' f' N m n)) (h2:ZaA (fun l=>Nat.blt l 68) id s'.lo (arO N n)):(Zgd args zs zs' f f' N m n).Ends 3 (fun l=>Nat.blt l 68) id (.bool true) s' :=
 ⟨fun _ _=>rfl,h1,rfl,h2,⟨rfl,rfl⟩,rfl,W0 Zjy true _ _ N m n,rfl,Zy _ rfl,fun x _ _ => .inl rfl⟩
theorem Zho (f:Nat→Bool) (g:Nat) (a b:Bool):Yu (Yu f g a) g b=Yu f g b:=by
 funext i; unfold Yu; split<;>rfl
theorem ZcV (g m n:Nat) (f:Nat→Bool) (v:Int):FlatC (ZBH g m n f v):=⟨fun x hx _=>by
 obtain rfl:=List.mem_singleton.1 hx
 exact Zm _⟩
theorem ZjM (g m n:Nat) (f:Nat→Bool) (b:Bool):FlatC (ZEe g m n f b):=⟨fun x hx _=>by
 obtain rfl:=List.mem_singleton.1 hx
 exact Zm _⟩
def ZnZ (args:List Value) (v:Value) (zs:List UInt8) (f:Nat→Bool) (N m n:Nat):Con:=⟨args,68,arW false zs f N m n,arO N n,v,68,[],[]⟩
theorem WJ {call:Qs} (hc:Zv Tryz.prog call) {fn:FuncId} {args:List Value} {v:Value} {zs:List UInt8} {f:Nat→Bool} {N m n:Nat} {T:List (Nat×Bool)} {q:Prop} (ha:args.all (okV (fun l=>Nat.blt l 68) 3)=true) (hv:X1 v=true) (hu:isU v=false) (h:obs (call fn args ⟨68,arW false zs f N m n,arO N n,0,T,0,True⟩)=some (v,q)) (hq:q) :
  ConOk Tryz.prog fn 3 (ZnZ args v zs f N m n)∧FlatC (ZnZ args v zs f N m n):=by
 unfold obs at h
 obtain⟨⟨v',s'⟩,h1,h2⟩:=oM h
 simp only[Prod.mk.injEq] at h2
 obtain⟨rfl,rfl⟩:=h2
 refine⟨Qi hc ⟨by show 64≤68; omega,Nat.le_refl _,W0 Zfe false zs f N m n,rfl,rfl,rfl,ha,Ys hv 1,fun x hx=>by cases hx⟩ h1 hq (p:=fun l=>Nat.blt l 68) (σ:=id) ?_,⟨fun x hx=>by cases hx⟩⟩
 exact⟨fun _ _=>rfl,trivial,rfl,trivial,⟨Ys hv 1,by rw[Uh]; rfl⟩,hu,trivial,rfl,XA _ hv,fun x hx=>by cases hx⟩
theorem Zn0 (m n:Nat) (f:Nat→Bool) (h2:m≤64*n) (h3:n≤100000):ZgW Tryz.prog 3 (ZjK m n f):=by
 intro fn args s c ρ q h hq
 unfold ZjK at h
 obtain⟨h4,h5⟩:=Z9 h
 have h4:=eB h4
 subst h4
 split at h5
 ·rename_i x
  cases h5
  obtain⟨g,rfl⟩:=Int.eq_ofNat_of_zero_le hq.1
  exact Zmv g m n f (by omega) h2 h3
 ·cases h5
def Zx8 (g:Nat) (zs:List UInt8) (f:Nat→Bool) (N m n:Nat):Con:=ZnZ [.pointer (some ⟨67,0,none⟩),.int .i64 (g:Nat)] (.slice none 0 0) zs f N m n
theorem ZrF (g:Nat) (zs:List UInt8) (f:Nat→Bool) (N m n:Nat) (h:ArOk zs N m n) (hg:(g+1)*256≤N) (hf:∀ i,i<16→f (16*g+i)=false):ConOk Tryz.prog 47 3 (Zx8 g zs f N m n)∧FlatC (Zx8 g zs f N m n):=by
 obtain⟨hl,h1,h2,h3,h4⟩:=h
 have hr:=tg_0.v g zs f N m n
 have e1:∀ k:Nat,k<16→i64.wrap (i64.wrap ((i64.wrap ((g:Int)*(256:Int))).tdiv (16:Int))+(k:Int))=((16*g+k:Nat):Int):=fun k hk=>by
  rw[show(g:Int)*(256:Int)=((g*256:Nat):Int) by omega,Wb _ (by omega),WN,Wb _ (by omega),ZdN,Wb _ (by omega)]
  omega
 have e2:i64.wrap ((N:Int).tdiv (256:Int))=((N/256:Nat):Int):=by rw[show(N:Int).tdiv (256:Int)=((N/256:Nat):Int) from(Int.ofNat_tdiv N 256).symm,Wb _ (by omega)]
 have hv1:∀ (σ:Nat→Nat),(v64 (Za f n)).map (rnV σ 3)=v64 (Za f n):=fun σ=>Zk (Zm _)
 have hv2:∀ (p:Nat→Bool),(v64 (Za f n)).all (okV p 3)=true:=fun p=>Zj (Zm _)
 refine WJ (Zn (L:=100) Ze (Jg (Zn0 m n f h2 h3)) (Zd _) 40) rfl rfl rfl hr ?_
 have t0:i64.wrap (i64.wrap ((i64.wrap ((g:Int)*(256:Int))).tdiv (16:Int))+(0:Int))=((16*g+0:Nat):Int):=e1 0 (by omega)
 have t1:i64.wrap (i64.wrap ((i64.wrap ((g:Int)*(256:Int))).tdiv (16:Int))+(1:Int))=((16*g+1:Nat):Int):=e1 1 (by omega)
 have t2:i64.wrap (i64.wrap ((i64.wrap ((g:Int)*(256:Int))).tdiv (16:Int))+(2:Int))=((16*g+2:Nat):Int):=e1 2 (by omega)
 have t3:i64.wrap (i64.wrap ((i64.wrap ((g:Int)*(256:Int))).tdiv (16:Int))+(3:Int))=((16*g+3:Nat):Int):=e1 3 (by omega)
 have t4:i64.wrap (i64.wrap ((i64.wrap ((g:Int)*(256:Int))).tdiv (16:Int))+(4:Int))=((16*g+4:Nat):Int):=e1 4 (by omega)
 have t5:i64.wrap (i64.wrap ((i64.wrap ((g:Int)*(256:Int))).tdiv (16:Int))+(5:Int))=((16*g+5:Nat):Int):=e1 5 (by omega)
 have t6:i64.wrap (i64.wrap ((i64.wrap ((g:Int)*(256:Int))).tdiv (16:Int))+(6:Int))=((16*g+6:Nat):Int):=e1 6 (by omega)
 have t7:i64.wrap (i64.wrap ((i64.wrap ((g:Int)*(256:Int))).tdiv (16:Int))+(7:Int))=((16*g+7:Nat):Int):=e1 7 (by omega)
 have t8:i64.wrap (i64.wrap ((i64.wrap ((g:Int)*(256:Int))).tdiv (16:Int))+(8:Int))=((16*g+8:Nat):Int):=e1 8 (by omega)
 have t9:i64.wrap (i64.wrap ((i64.wrap ((g:Int)*(256:Int))).tdiv (16:Int))+(9:Int))=((16*g+9:Nat):Int):=e1 9 (by omega)
 have t10:i64.wrap (i64.wrap ((i64.wrap ((g:Int)*(256:Int))).tdiv (16:Int))+(10:Int))=((16*g+10:Nat):Int):=e1 10 (by omega)
 have t11:i64.wrap (i64.wrap ((i64.wrap ((g:Int)*(256:Int))).tdiv (16:Int))+(11:Int))=((16*g+11:Nat):Int):=e1 11 (by omega)
 have t12:i64.wrap (i64.wrap ((i64.wrap ((g:Int)*(256:Int))).tdiv (16:Int))+(12:Int))=((16*g+12:Nat):Int):=e1 12 (by omega)
 have t13:i64.wrap (i64.wrap ((i64.wrap ((g:Int)*(256:Int))).tdiv (16:Int))+(13:Int))=((16*g+13:Nat):Int):=e1 13 (by omega)
 have t14:i64.wrap (i64.wrap ((i64.wrap ((g:Int)*(256:Int))).tdiv (16:Int))+(14:Int))=((16*g+14:Nat):Int):=e1 14 (by omega)
 have t15:i64.wrap (i64.wrap ((i64.wrap ((g:Int)*(256:Int))).tdiv (16:Int))+(15:Int))=((16*g+15:Nat):Int):=e1 15 (by omega)
 simp only[t0,t1,t2,t3,t4,t5,t6,t7,t8,t9,t10,t11,t12,t13,t14,t15,e2,hv1,hv2,Qk,Int.toNat_natCast,and_true,true_and,and_self,Nat.le_refl]
 have b1:∀ k:Nat,k<16→(0:Int)≤((16*g+k:Nat):Int)∧((16*g+k:Nat):Int)<(m:Int):=fun k hk=>by omega
 simp only[hf,b1,Nat.lt_irrefl,Nat.reduceLT,and_true,true_and,and_self]
 exact⟨decide_eq_false (by omega),decide_eq_false (by omega)⟩
def swL (w:Int) (v:Int) (g m n:Nat) (f:Nat→Bool) (cv:Int):Sy.Steps:=[(68,86,ZEd w v,[]),(70,158,ZBH g m n f cv,[64,65,66,67])]
def snL (g m n:Nat) (f:Nat→Bool) (cv:Int) (c e b t p y r:Nat):Sy.Steps :=
 [(69,92,ZEf c e b t p y r false,[]),(71,158,ZBH g m n f cv,[64,65,66,67]),(71,93,ZEe g m n (Yu f g false) false,[64,65,66,67])]
def JO:=ZdL 1
def Zh6:=Bx.mk @JO.eq_1
theorem Zx9 (s:List UInt8) (v:Int):obs (evF Tryz.prog Zg Zf 100 10 86 [Xd s,JO,YG v] (stT []))=QG (Xd (s++[Vz (v.fdiv QS)])) (Vb (ZnF (Qv s+1)) True):=by kernel_rfl
def ZEB:=Bx.mk (by have h := @Zx9; simp(maxSteps:=99999999) only[ZL.v, ZZ.v, Zh6.v, -eq_self] at h; exact h)
def Zdf:=ZdL 2
def XM:=Bx.mk @Zdf.eq_1
theorem Zya (s:List UInt8) (v:Int):obs (evF Tryz.prog Zg Zf 100 10 86 [Xd s,Zdf,YG v] (stT []))=QG (Xd (s++[Vz (v.fdiv QS),Vz (v.fdiv QR)])) (Vb (ZnF (Qv s+2)) True):=by kernel_rfl
def ZEC:=Bx.mk (by have h := @Zya; simp(maxSteps:=99999999) only[ZL.v, ZZ.v, XM.v, -eq_self] at h; exact h)
def ZiD (a:Prop):=KL (KL a)
def X6 (a b:Nat):=leW a (Zgc b)
def Zbx (a b:Nat):=Zci (X6 a b)
def Zby (a:Prop):=ZiD (Zx2 a)
def ZeJ (a b:Prop):=YI (a∧b)
def YS (a b c:Nat):=JE (Zbx a b) c
def WC (a b:Nat):=Wy (Zbx a b)
def U0 (a:Value) (b:Nat):=a=Qo b
def ZfQ:=Value.string { data:=#[]:ByteArray }
def Zdg (a b:Nat):=U0 (Qo a) b
def Vf (a b c d:Nat):=Zrz (X6 a b) (Zcl c d)
def ZD:=Bx.mk (And.intro @ZiD.eq_1 (And.intro @X6.eq_1 (And.intro @Zbx.eq_1 (And.intro @Zby.eq_1 (And.intro @ZeJ.eq_1 (And.intro @YS.eq_1 (And.intro @WC.eq_1 (And.intro @U0.eq_1 (And.intro @ZfQ.eq_1 (And.intro @Zdg.eq_1 @Vf.eq_1))))))))))
theorem ZBL (a:Nat) (g:Nat) (v:Nat) (zs:List UInt8) (f:Nat→Bool) (cv:Int) (N:Nat) (m:Nat) (n:Nat):evF Tryz.prog (Zs 3 (Zb (swL QS (ZP v) g m n f cv)) Zg) Zf 100 40 42 [Qe,Qo a,JO,Qo v] (ZaJ (arW true zs f N m n) N n 32 3758096257)=XP Vn 70 [(65,Kp 65 (Zbv f g) n),(67,ZaC N),(66,Zbw m n),(64,ZaG 64 (0+WY a) (ZaI (Vf 1 v N a*1) 0 (List.map (fun c=>Value.int u8 (↑c.toNat:Int)) (X6 1 v))) (u8s zs))] [(69,Zcl N a),(68,Qv (X6 1 v)),(65,n),(64,N)] 32 (Zc1 (Ve (WH (0+WY a+Qv (List.take (Vf 1 v N a*1) (List.drop 0 (List.map (fun c=>Value.int u8 (↑c.toNat:Int)) (X6 1 v))))) (u8s zs)&&ZfE (ZaI (Vf 1 v N a*1) 0 (List.map (fun c=>Value.int u8 (↑c.toNat:Int)) (X6 1 v)))&&(List.take (Vf 1 v N a*1) (List.drop 0 (List.map (fun c=>Value.int u8 (↑c.toNat:Int)) (X6 1 v)))).all Z4) (K4 ((Qv (List.take (Vf 1 v N a*1) (List.drop 0 (List.map (fun c=>Value.int u8 (↑c.toNat:Int)) (X6 1 v))))).beq (Vf 1 v N a*1)) (WH (0+Vf 1 v N a*1) (List.map (fun c=>Value.int u8 (↑c.toNat:Int)) (X6 1 v))) (Ve (Jr a (JE (ZP a) N)) (QK (((((((((((((((((((Um (ZeF (ZeJ (Zby (Wz (ZfQ=Xd []) (Qw JO) (Zdg v v))) ((!Zt (X6 1 v) [])=true)))∧WC 1 v=true)∧WC 1 v=true)∧WC 1 v=true)∧WC 1 v=true)∧WC 1 v=true)∧WC 1 v=true)∧WC 1 v=true)∧WC 1 v=true)∧YS 1 v N=true)∧YS 1 v N=true)∧YS 1 v N=true)∧YS 1 v N=true)∧YS 1 v N=true)∧YS 1 v N=true)∧YS 1 v N=true)∧YS 1 v N=true)∧YS 1 v N=true)∧YS 1 v N=true)∧YS 1 v N=true) (!decide (V2 a≤KR N (Zbx 1 v)))) ((Zgc a).blt N=true))) (Uj (Zbx 1 v) ZS=true)) (Wz (K5 (ZeG a g) (Zhl (Zf9 (V2 a) (Zbx 1 v)-QS) 1=Vc (g+1))) (Zdd Zh (XG m n m f n) (JF f n (fun l=>l.blt 68) 70)) (Zh∧n≤n))):=by kernel_rfl
def sw_1:=Bx.mk (by have h := @ZBL; simp(maxSteps:=99999999) only[ZL.v, ZZ.v, ZN.v, Z3.v, Qb.v, ZR.v, Zh6.v, ZD.v, -eq_self] at h; exact h)
def V4 (a b:Int):=bits BinOp.or u32 a (u32.wrap b)
def U1 (a b:Int):=Zk0 (i64.wrap a) b
def Wg (a:List Value) (b:Prop):=QG (ZbQ a) b
def Zcm (a:Int):=YM (i64.wrap a)
def Zld (a:Prop) (b c d e f g h i:Bool):=UI (UI a b c d e) f g h i
def Jt (a b:Int):=(U1 a b).toNat
def Zn1 (a b:Prop):=KT (a∧b)
def Zbz (a:Nat):=JE QS a
def Zcn (a:Prop) (b c d e f:Bool):=Zld a b c c c c d e f
def Zai (a:Prop):=V3 (V3 a)
def JH (a:Prop):=Zn1 (a∧Zh) Zh
def Ql:=Bx.mk (And.intro @V4.eq_1 (And.intro @U1.eq_1 (And.intro @Wg.eq_1 (And.intro @Zcm.eq_1 (And.intro @Zld.eq_1 (And.intro @Jt.eq_1 (And.intro @Zn1.eq_1 (And.intro @Zbz.eq_1 (And.intro @Zcn.eq_1 (And.intro @Zai.eq_1 @JH.eq_1))))))))))
theorem ZBM (at_:Int) (zs:List UInt8) (f:Nat→Bool) (N:Nat) (m:Nat) (n:Nat):obs (evF Tryz.prog Zg Zf 100 40 30 [Qe,YG at_,JO] (Kr zs f N m n N n 49 70402835480512))=Wg [YG (V4 ZS (K3 (u8s zs) (0+YE at_*1+0))),Vn] (K4 (YH (0+YE at_*1+0+1) (u8s zs) [Zbt] (0+YE at_*1+0)) (Y6 ZS (Jt at_ 1-YE at_)) (Vo (Ve (Zhh at_ (JE (i64.wrap at_) (Jt at_ 1))) (K4 (Vd (U1 at_ 1) (JE (U1 at_ 1) (Jt at_ 1))) (Vd (U1 at_ 1) (JE (U1 at_ 1) N)) (Zcn (JH (Um (X5 (((((((((((Um (Zai (ZeF ZeC))∧Zbz N=true)∧Zbz N=true)∧Zbz N=true)∧Zbz N=true)∧Zbz N=true)∧Zbz N=true)∧Zbz N=true)∧Zbz N=true)∧Zbz N=true)∧Zbz N=true)∧Zbz N=true) (!decide (i64.wrap at_≤KR N QS))))) (Zcm at_) (Zcm at_) (Zcm at_) (Zcm at_) (decide (i64.wrap at_>KR N QS)))) ((YE at_).blt (Jt at_ 1)=true)))):=by kernel_rfl
def lw_1:=Bx.mk (by have h := @ZBM; simp(maxSteps:=99999999) only[ZL.v, ZZ.v, ZN.v, Z3.v, Qb.v, ZR.v, Qc.v, Zh6.v, Ql.v, -eq_self] at h; exact h)
theorem ZBN (a:Nat) (g:Nat) (v:Nat) (zs:List UInt8) (f:Nat→Bool) (cv:Int) (N:Nat) (m:Nat) (n:Nat):evF Tryz.prog (Zs 3 (Zb (swL QE (ZP v) g m n f cv)) Zg) Zf 100 40 42 [Qe,Qo a,Zdf,Qo v] (ZaJ (arW true zs f N m n) N n 32 3758096257)=XP Vn 70 [(65,Kp 65 (Zbv f g) n),(67,ZaC N),(66,Zbw m n),(64,ZaG 64 (0+WY a) (ZaI (Vf 2 v N a*1) 0 (List.map (fun c=>Value.int u8 (↑c.toNat:Int)) (X6 2 v))) (u8s zs))] [(69,Zcl N a),(68,Qv (X6 2 v)),(65,n),(64,N)] 32 (Zc1 (Ve (WH (0+WY a+Qv (List.take (Vf 2 v N a*1) (List.drop 0 (List.map (fun c=>Value.int u8 (↑c.toNat:Int)) (X6 2 v))))) (u8s zs)&&ZfE (ZaI (Vf 2 v N a*1) 0 (List.map (fun c=>Value.int u8 (↑c.toNat:Int)) (X6 2 v)))&&(List.take (Vf 2 v N a*1) (List.drop 0 (List.map (fun c=>Value.int u8 (↑c.toNat:Int)) (X6 2 v)))).all Z4) (K4 ((Qv (List.take (Vf 2 v N a*1) (List.drop 0 (List.map (fun c=>Value.int u8 (↑c.toNat:Int)) (X6 2 v))))).beq (Vf 2 v N a*1)) (WH (0+Vf 2 v N a*1) (List.map (fun c=>Value.int u8 (↑c.toNat:Int)) (X6 2 v))) (Ve (Jr a (JE (ZP a) N)) (QK ((((((((((((((((((Zlc (Zhn (Zby (Wz (ZfQ=Xd []) (Qw Zdf) (Zdg v v))) ((!Zt (X6 2 v) [])=true)) Zh (WC 2 v=true)∧WC 2 v=true)∧WC 2 v=true)∧WC 2 v=true)∧WC 2 v=true)∧WC 2 v=true)∧WC 2 v=true)∧WC 2 v=true)∧YS 2 v N=true)∧YS 2 v N=true)∧YS 2 v N=true)∧YS 2 v N=true)∧YS 2 v N=true)∧YS 2 v N=true)∧YS 2 v N=true)∧YS 2 v N=true)∧YS 2 v N=true)∧YS 2 v N=true)∧YS 2 v N=true) (!decide (V2 a≤KR N (Zbx 2 v)))) ((Zgc a).blt N=true))) (Uj (Zbx 2 v) ZS=true)) (Wz (K5 (ZeG a g) (Zhl (Zf9 (V2 a) (Zbx 2 v)-QS) 1=Vc (g+1))) (Zdd Zh (XG m n m f n) (JF f n (fun l=>l.blt 68) 70)) (Zh∧n≤n))):=by kernel_rfl
def sw_2:=Bx.mk (by have h := @ZBN; simp(maxSteps:=99999999) only[ZL.v, ZZ.v, ZlY.v, ZN.v, Z3.v, Qb.v, ZR.v, XM.v, ZD.v, -eq_self] at h; exact h)
def ZfR (a b:Int):=u32.wrap a*b
def ZiE (a:Prop) (b c d e f g:Bool):=ZdM (UI a b c d e) f g
def Zco (a b c:Int):=V4 (V4 a b) c
def ZbA (a:Nat):=JE QE a
def ZrG (a:Prop) (b c d e:Bool):=ZiE a b c c c d e
def ZiF (a:Prop) (b c d:Bool):=ZrG a b c c d
def Zhp (a:Prop) (b c:Bool):=ZiF a b b c
def ZaL (a:Prop) (b:Bool):=Zhp a b b
def QY:=Bx.mk (And.intro @ZfR.eq_1 (And.intro @ZiE.eq_1 (And.intro @Zco.eq_1 (And.intro @ZbA.eq_1 (And.intro @ZrG.eq_1 (And.intro @ZiF.eq_1 (And.intro @Zhp.eq_1 @ZaL.eq_1)))))))
theorem ZBO (at_:Int) (zs:List UInt8) (f:Nat→Bool) (N:Nat) (m:Nat) (n:Nat):obs (evF Tryz.prog Zg Zf 100 40 30 [Qe,YG at_,Zdf] (Kr zs f N m n N n 49 351874054094784))=Wg [YG (Zco ZS (ZfR (K3 (u8s zs) (0+YE at_*1+1)) QR) (K3 (u8s zs) (0+YE at_*1+0))),Vn] (Zhe (YH (0+YE at_*1+0+1) (u8s zs) [Zbt] (0+YE at_*1+0)) (Y6 ZS (Jt at_ 2-YE at_)) (YH (0+YE at_*1+1+1) (u8s zs) [Zbt] (0+YE at_*1+1)) (Y6 QS (Jt at_ 2-YE at_)) (YR (ZeJ (Vb (Zhh at_ (JE (i64.wrap at_) (Jt at_ 2))) (K4 (Vd (U1 at_ 2) (JE (U1 at_ 2) (Jt at_ 2))) (Vd (U1 at_ 2) (JE (U1 at_ 2) N)) (QK (ZaL (QK (JH (YR (KT (QK (((((((((((Um (Zai (ZeF ZeC))∧ZbA N=true)∧ZbA N=true)∧ZbA N=true)∧ZbA N=true)∧ZbA N=true)∧ZbA N=true)∧ZbA N=true)∧ZbA N=true)∧ZbA N=true)∧ZbA N=true)∧ZbA N=true) (!decide (i64.wrap at_≤KR N QE)))))) (Zcm at_)) (Zcm at_)) (decide (i64.wrap at_>KR N QE))))) ((YE at_).blt (Jt at_ 2)=true)))):=by kernel_rfl
def lw_2:=Bx.mk (by have h := @ZBO; simp(maxSteps:=99999999) only[ZL.v, ZZ.v, ZlY.v, ZN.v, Z3.v, Qb.v, ZR.v, Qc.v, XM.v, ZD.v, Ql.v, QY.v, -eq_self] at h; exact h)
theorem ZBP (a:Nat) (g:Nat) (v:Nat) (zs:List UInt8) (f:Nat→Bool) (cv:Int) (N:Nat) (m:Nat) (n:Nat):evF Tryz.prog (Zs 3 (Zb (swL ZeA (ZP v) g m n f cv)) Zg) Zf 100 40 42 [Qe,Qo a,Zbu,Qo v] (ZaJ (arW true zs f N m n) N n 32 3758096257)=XP Vn 70 [(65,Kp 65 (Zbv f g) n),(67,ZaC N),(66,Zbw m n),(64,ZaG 64 (0+WY a) (ZaI (Vf 4 v N a*1) 0 (List.map (fun c=>Value.int u8 (↑c.toNat:Int)) (X6 4 v))) (u8s zs))] [(69,Zcl N a),(68,Qv (X6 4 v)),(65,n),(64,N)] 32 (Zc1 (Ve (WH (0+WY a+Qv (List.take (Vf 4 v N a*1) (List.drop 0 (List.map (fun c=>Value.int u8 (↑c.toNat:Int)) (X6 4 v))))) (u8s zs)&&ZfE (ZaI (Vf 4 v N a*1) 0 (List.map (fun c=>Value.int u8 (↑c.toNat:Int)) (X6 4 v)))&&(List.take (Vf 4 v N a*1) (List.drop 0 (List.map (fun c=>Value.int u8 (↑c.toNat:Int)) (X6 4 v)))).all Z4) (K4 ((Qv (List.take (Vf 4 v N a*1) (List.drop 0 (List.map (fun c=>Value.int u8 (↑c.toNat:Int)) (X6 4 v))))).beq (Vf 4 v N a*1)) (WH (0+Vf 4 v N a*1) (List.map (fun c=>Value.int u8 (↑c.toNat:Int)) (X6 4 v))) (Ve (Jr a (JE (ZP a) N)) (QK ((((((((((((((((((Zlc (Zhn (Zby (Wz (ZfQ=Xd []) (Qw Zbu) (Zdg v v))) ((!Zt (X6 4 v) [])=true)) Zh (WC 4 v=true)∧WC 4 v=true)∧WC 4 v=true)∧WC 4 v=true)∧WC 4 v=true)∧WC 4 v=true)∧WC 4 v=true)∧WC 4 v=true)∧YS 4 v N=true)∧YS 4 v N=true)∧YS 4 v N=true)∧YS 4 v N=true)∧YS 4 v N=true)∧YS 4 v N=true)∧YS 4 v N=true)∧YS 4 v N=true)∧YS 4 v N=true)∧YS 4 v N=true)∧YS 4 v N=true) (!decide (V2 a≤KR N (Zbx 4 v)))) ((Zgc a).blt N=true))) (Uj (Zbx 4 v) ZS=true)) (Wz (K5 (ZeG a g) (Zhl (Zf9 (V2 a) (Zbx 4 v)-QS) 1=Vc (g+1))) (Zdd Zh (XG m n m f n) (JF f n (fun l=>l.blt 68) 70)) (Zh∧n≤n))):=by kernel_rfl
def sw_4:=Bx.mk (by have h := @ZBP; simp(maxSteps:=99999999) only[ZL.v, ZZ.v, ZlY.v, ZN.v, Z3.v, Qb.v, ZR.v, ZD.v, -eq_self] at h; exact h)
def VE (a:Prop):=KM (KM a)
def ZbB (a:Nat):=JE ZeA a
def Zcp (a:Int):=u32.wrap (ZfR a Zg9)
def J3:=Bx.mk (And.intro @VE.eq_1 (And.intro @ZbB.eq_1 @Zcp.eq_1))
theorem ZBQ (at_:Int) (zs:List UInt8) (f:Nat→Bool) (N:Nat) (m:Nat) (n:Nat):obs (evF Tryz.prog Zg Zf 100 40 30 [Qe,YG at_,Zbu] (Kr zs f N m n N n 48 211106500968384))=Wg [YG (Zco (V4 (Zcp (K3 (u8s zs) (0+YE at_*1+3))) (ZfR (K3 (u8s zs) (0+YE at_*1+2)) Km)) (ZfR (K3 (u8s zs) (0+YE at_*1+1)) QR) (K3 (u8s zs) (0+YE at_*1+0))),Vn] (Zhe (YH (0+YE at_*1+0+1) (u8s zs) [Zbt] (0+YE at_*1+0)) (Y6 ZS (Jt at_ 4-YE at_)) (YH (0+YE at_*1+1+1) (u8s zs) [Zbt] (0+YE at_*1+1)) (Y6 QS (Jt at_ 4-YE at_)) (Zhe (YH (0+YE at_*1+2+1) (u8s zs) [Zbt] (0+YE at_*1+2)) (Y6 QE (Jt at_ 4-YE at_)) (YH (0+YE at_*1+3+1) (u8s zs) [Zbt] (0+YE at_*1+3)) (Y6 (3:Int) (Jt at_ 4-YE at_)) (YR (Ve (Zhh at_ (JE (i64.wrap at_) (Jt at_ 4))) (K4 (Vd (U1 at_ 4) (JE (U1 at_ 4) (Jt at_ 4))) (Vd (U1 at_ 4) (JE (U1 at_ 4) N)) (Zcn (YI (VE (QK (((((((((((Um (V3 (ZiC (KT ZeC) Zh))∧ZbB N=true)∧ZbB N=true)∧ZbB N=true)∧ZbB N=true)∧ZbB N=true)∧ZbB N=true)∧ZbB N=true)∧ZbB N=true)∧ZbB N=true)∧ZbB N=true)∧ZbB N=true) (!decide (i64.wrap at_≤KR N ZeA))))) (Zcm at_) (Zcm at_) (Zcm at_) (Zcm at_) (decide (i64.wrap at_>KR N ZeA)))) ((YE at_).blt (Jt at_ 4)=true))))):=by kernel_rfl
def lw_4:=Bx.mk (by have h := @ZBQ; simp(maxSteps:=99999999) only[ZL.v, ZZ.v, ZlY.v, ZN.v, Z3.v, Qb.v, ZR.v, Qc.v, Ql.v, QY.v, J3.v, -eq_self] at h; exact h)
def ZrH (a b:Prop):=KT (Zc1 a b)
def XN:=Bx.mk @ZrH.eq_1
theorem ZBR (a:Nat) (g:Nat) (c:Nat) (e:Nat) (b:Nat) (t:Nat) (p:Nat) (y:Nat) (r:Nat) (zs:List UInt8) (f:Nat→Bool) (cv:Int) (N:Nat) (m:Nat) (n:Nat):evF Tryz.prog (Zs 3 (Zb (snL g m n f cv c e b t p y r)) Zg) Zf 100 40 44 [Qe,Qo a,cpV c e b t p y r false] (ZaJ (arW true zs f N m n) N n 67 16140900519035010567)=XP Vn 71 [(65,Kp 65 (Zbv (Zbv f g) g) n),(66,Zbw m n),(64,ZaG 64 (0+WY a) (ZaI (Ul (cbL c e b t p y r) N a*1) 0 (List.map (fun c=>Value.int u8 (↑c.toNat:Int)) (cbL c e b t p y r))) (u8s zs)),(67,ZaC N)] [(70,Zcl N a),(69,Qv (cbL c e b t p y r)),(65,n),(64,N)] 67 (Zc1 (ZrH (Ve (WH (0+WY a+Qv (List.take (Ul (cbL c e b t p y r) N a*1) (List.drop 0 (List.map (fun c=>Value.int u8 (↑c.toNat:Int)) (cbL c e b t p y r))))) (u8s zs)&&ZfE (ZaI (Ul (cbL c e b t p y r) N a*1) 0 (List.map (fun c=>Value.int u8 (↑c.toNat:Int)) (cbL c e b t p y r)))&&(List.take (Ul (cbL c e b t p y r) N a*1) (List.drop 0 (List.map (fun c=>Value.int u8 (↑c.toNat:Int)) (cbL c e b t p y r)))).all Z4) (K4 ((Qv (List.take (Ul (cbL c e b t p y r) N a*1) (List.drop 0 (List.map (fun c=>Value.int u8 (↑c.toNat:Int)) (cbL c e b t p y r))))).beq (Ul (cbL c e b t p y r) N a*1)) (WH (0+Ul (cbL c e b t p y r) N a*1) (List.map (fun c=>Value.int u8 (↑c.toNat:Int)) (cbL c e b t p y r))) (Ve (Jr a (JE (ZP a) N)) (QK ((((((((((((((((((Zlc (KM (VA (QK (Zck (Zck (ZfP (ZfO (Um (V3 (ZiC (Zhn (UY ((KS a==ZS)=true)) ((KS a==ZS)=true)) Zh))) N) N N) N N N N) N N N N∧(KS a==ZS)=true) (!decide (V2 a≤KR N YL))) (WZ c e b t p y r false))) Zh (Js c e b t p y r=true)∧Js c e b t p y r=true)∧Js c e b t p y r=true)∧Js c e b t p y r=true)∧Js c e b t p y r=true)∧Js c e b t p y r=true)∧Js c e b t p y r=true)∧Js c e b t p y r=true)∧WX c e b t p y r N=true)∧WX c e b t p y r N=true)∧WX c e b t p y r N=true)∧WX c e b t p y r N=true)∧WX c e b t p y r N=true)∧WX c e b t p y r N=true)∧WX c e b t p y r N=true)∧WX c e b t p y r N=true)∧WX c e b t p y r N=true)∧WX c e b t p y r N=true)∧WX c e b t p y r N=true) (!decide (V2 a≤KR N (ZeD c e b t p y r)))) ((Zgc a).blt N=true))) (Uj (ZeD c e b t p y r) ZS=true)) (Wz (K5 (ZeG a g) (Zhl (Zf9 (V2 a) (ZeD c e b t p y r)-QS) 1=Vc (g+1))) (Zdd Zh (XG m n m f n) (JF f n (fun l=>l.blt 68) 71)) (Zh∧n≤n))) (Wz (K5 (ZeG a g) (Qw KQ)) (Zdd Zh (XG m n m (Zbv f g) n) (JF (Zbv f g) n (fun l=>l.blt 68) 71)) (Zh∧n≤n))):=by kernel_rfl
def sc_n:=Bx.mk (by have h := @ZBR; simp(maxSteps:=99999999) only[ZL.v, ZN.v, Z3.v, Qb.v, QH.v, ZR.v, Qc.v, XN.v, -eq_self] at h; exact h)
structure In where
 op:Int
 a:Int
 b:Int
 c:Int
 m:Int
def In.val (i:In):Value:=.agg ⟨[.int .i64 i.op,.int .i64 i.a,.int .i64 i.b,.int .i64 i.c,.int .i64 i.m]⟩
def wyL (c:Cp) (a w:Int) (need t:Nat) (h:Bool):Sy.Steps:=[(69,35,Con.pure [c.val,.int .u16 (need:Nat)] (.int .i64 (t:Nat)),[]),(70,100,Con.pure [c.val,.agg ⟨[.int .u32 a,.int .u32 w]⟩] (.bool h),[])]
theorem jp_t (c:Cp) (need:Nat):obs (evF Tryz.prog Zg Zf 100 20 35 [c.val,Value.int u16 (↑need:Int)] { n:=64,h:=[],lo:=[],esc:=0,T:=[(0,true)],k:=0,O:=True:St })=some (Value.int i64 (1:Int),True∧(!c.V)=true):=by kernel_rfl
def ZfS (a:Nat):=(a,false)
def Zcq:=ZfS 0
def ZrI (a:Nat) (b:Int):=ZP a !=b
def YJ (a:Nat):=ZrI a ZS
def Zn2 (a:Nat) (b:Sy.Heap) (c:List (Nat×Bool)) (d:Nat):=Zh3 a b [] c d
def Zn3 (a:Nat) (b:List (Nat×Bool)) (c:Nat):=Zn2 a [] b c
def Ks (a:List (Nat×Bool)) (b:Nat):=Zn3 64 a b
def Qz:=Bx.mk (And.intro @ZfS.eq_1 (And.intro @Zcq.eq_1 (And.intro @ZrI.eq_1 (And.intro @YJ.eq_1 (And.intro @Zn2.eq_1 (And.intro @Zn3.eq_1 @Ks.eq_1))))))
theorem ZBS (c:Cp) (need:Nat):obs (evF Tryz.prog Zg Zf 100 20 35 [c.val,ZbR need] (Ks [Zcq,(1,true)] 0))=QG Zdf (X3 (!c.V)∧YJ c.Y=true):=by kernel_rfl
def jp_s:=Bx.mk (by have h := @ZBS; simp(maxSteps:=99999999) only[ZL.v, ZZ.v, ZN.v, ZR.v, XM.v, Qz.v, -eq_self] at h; exact h)
def Zdh:=ZfS 1
def ZjN:=Bx.mk @Zdh.eq_1
theorem ZBT (c:Cp) (need:Nat):obs (evF Tryz.prog Zg Zf 100 20 35 [c.val,ZbR need] (Ks [Zcq,Zdh,(2,true)] 0))=QG (ZdL 3) (V1 (X3 (!c.V)) (YJ c.Y) ((ZfJ u16 (ZP c.P) (ZP need) !=ZP need)=true)):=by kernel_rfl
def jp_p:=Bx.mk (by have h := @ZBT; simp(maxSteps:=99999999) only[ZL.v, ZZ.v, ZlY.v, ZN.v, ZR.v, Qz.v, ZjN.v, -eq_self] at h; exact h)
theorem ZBU (c:Cp) (need:Nat):obs (evF Tryz.prog Zg Zf 100 20 35 [c.val,ZbR need] (Ks [Zcq,Zdh,ZfS 2] 0))=QG YQ (ZdM (X3 (!c.V)) (YJ c.Y) (ZfJ u16 (ZP c.P) (ZP need) !=ZP need)):=by kernel_rfl
def jp_o:=Bx.mk (by have h := @ZBU; simp(maxSteps:=99999999) only[ZL.v, ZZ.v, ZlY.v, ZN.v, ZR.v, Qz.v, ZjN.v, -eq_self] at h; exact h)
def Zhq (a b:Value) (c:Int) (d e:Value):=[a,b,JM c,d,e]
def QV:=Bx.mk @Zhq.eq_1
theorem ZBV (c:Cp) (a:Int) (w:Int) (need:Nat) (t:Nat) (h:Bool) (zs:List UInt8) (f:Nat→Bool) (N:Nat) (m:Nat) (n:Nat):obs (evF Tryz.prog (Zs 3 (Zb (wyL c a w need t h)) Zg) Zf 100 20 52 (Zhq c.val (YG a) w (ZbR need) Qe) (Zh3 68 (VB zs f N m n) (arO N n) [(0,true)] 0))=QG (Vc t) (Zby (VP (WZ c.C c.E c.B c.T c.P c.Y c.R c.V) (Qw (ZbR need)))∧YJ t=true):=by kernel_rfl
def wy_j:=Bx.mk (by have h := @ZBV; simp(maxSteps:=99999999) only[ZL.v, ZZ.v, ZN.v, QH.v, ZR.v, Qc.v, ZD.v, Qz.v, QV.v, -eq_self] at h; exact h)
def Ju (a:Int):=YG (u32.wrap a)
def XS (a b c:Prop):=ZnM a (VP b c)
def Y9:=Bx.mk (And.intro @Ju.eq_1 @XS.eq_1)
theorem ZBW (c:Cp) (a:Int) (w:Int) (need:Nat) (t:Nat) (h:Bool) (zs:List UInt8) (f:Nat→Bool) (N:Nat) (m:Nat) (n:Nat):obs (evF Tryz.prog (Zs 3 (Zb (wyL c a w need t h)) Zg) Zf 100 20 52 (Zhq c.val (YG a) w (ZbR need) Qe) (Kr zs f N m n N n 12 4094))=QG Zbu (YR ((((((((((XS (QK (Zby (VP (WZ c.C c.E c.B c.T c.P c.Y c.R c.V) (Qw (ZbR need)))) (YJ t)) (WZ c.C c.E c.B c.T c.P c.Y c.R c.V) (Zhk [YG a,Ju w]=Zhk [YG a,YG w])∧(!h)=true)∧(!h)=true)∧(!h)=true)∧(!h)=true)∧(!h)=true)∧(!h)=true)∧(!h)=true)∧(!h)=true)∧(!h)=true)∧(!h)=true)):=by kernel_rfl
def wy_h:=Bx.mk (by have h := @ZBW; simp(maxSteps:=99999999) only[ZL.v, ZZ.v, ZN.v, Z3.v, QH.v, ZR.v, Qc.v, ZD.v, Qz.v, QV.v, Y9.v, -eq_self] at h; exact h)
def Zle (a:Nat):=u64.wrap (ZP a)
def Zup:=Bx.mk @Zle.eq_1
theorem ZBX (c:Cp) (a:Int) (w:Int) (need:Nat) (t:Nat) (h:Bool) (zs:List UInt8) (f:Nat→Bool) (N:Nat) (m:Nat) (n:Nat):obs (evF Tryz.prog (Zs 3 (Zb (wyL c a w need t h)) Zg) Zf 100 20 52 (Zhq c.val (YG a) w (ZbR need) Qe) (Kr zs f N m n N n 19 262144))=QG Zbu (V1 (Un (Kq (QK (ZaL (XS (QK (Zby (VP (WZ c.C c.E c.B c.T c.P c.Y c.R c.V) (Qw (ZbR need)))) (YJ t)) (WZ c.C c.E c.B c.T c.P c.Y c.R c.V) (Zhk [YG a,Ju w]=Zhk [YG a,YG w])) (!h)) (!h))) (!h)) (!h) (decide (u64.wrap (u64.wrap a+u64.wrap w)>Zle N)=true)):=by kernel_rfl
def wy_z:=Bx.mk (by have h := @ZBX; simp(maxSteps:=99999999) only[ZL.v, ZZ.v, ZN.v, Qb.v, QH.v, ZR.v, Qc.v, ZD.v, QY.v, Qz.v, QV.v, Y9.v, Zup.v, -eq_self] at h; exact h)
def Zn4 (a:Prop) (b c d:Bool):=UI a b c c d
def JI:=Bx.mk @Zn4.eq_1
theorem ZBY (c:Cp) (a:Int) (w:Int) (need:Nat) (t:Nat) (h:Bool) (zs:List UInt8) (f:Nat→Bool) (N:Nat) (m:Nat) (n:Nat):obs (evF Tryz.prog (Zs 3 (Zb (wyL c a w need t h)) Zg) Zf 100 20 52 (Zhq c.val (YG a) w (ZbR need) Qe) (Kr zs f N m n N n 20 524288))=QG (ZdL 5) (Ve (!decide (u32.wrap w=ZS)) (Zn4 (Kq (QK (ZaL (XS (QK (Zby (VP (WZ c.C c.E c.B c.T c.P c.Y c.R c.V) (Qw (ZbR need)))) (YJ t)) (WZ c.C c.E c.B c.T c.P c.Y c.R c.V) (Zhk [YG a,Ju w]=Zhk [YG a,YG w])) (!h)) (!h))) (!h) (!h) (decide (u64.wrap (u64.wrap a+u64.wrap w)>Zle N))) ((a.tmod (u32.wrap w) !=ZS)=true)):=by kernel_rfl
def wy_a:=Bx.mk (by have h := @ZBY; simp(maxSteps:=99999999) only[ZL.v, ZZ.v, ZN.v, Z3.v, Qb.v, QH.v, ZR.v, Qc.v, ZD.v, QY.v, Qz.v, QV.v, Y9.v, Zup.v, JI.v, -eq_self] at h; exact h)
theorem ZBZ (c:Cp) (a:Int) (w:Int) (need:Nat) (t:Nat) (h:Bool) (zs:List UInt8) (f:Nat→Bool) (N:Nat) (m:Nat) (n:Nat):obs (evF Tryz.prog (Zs 3 (Zb (wyL c a w need t h)) Zg) Zf 100 20 52 (Zhq c.val (YG a) w (ZbR need) Qe) (Kr zs f N m n N n 20 0))=QG YQ (QK (Vb (!decide (u32.wrap w=ZS)) (Zn4 (Kq (QK (ZaL (XS (QK (Zby (VP (WZ c.C c.E c.B c.T c.P c.Y c.R c.V) (Qw (ZbR need)))) (YJ t)) (WZ c.C c.E c.B c.T c.P c.Y c.R c.V) (Zhk [YG a,Ju w]=Zhk [YG a,YG w])) (!h)) (!h))) (!h) (!h) (decide (u64.wrap (u64.wrap a+u64.wrap w)>Zle N)))) (a.tmod (u32.wrap w) !=ZS)):=by kernel_rfl
def wy_o:=Bx.mk (by have h := @ZBZ; simp(maxSteps:=99999999) only[ZL.v, ZZ.v, ZN.v, Qb.v, QH.v, ZR.v, Qc.v, ZD.v, QY.v, Qz.v, QV.v, Y9.v, Zup.v, JI.v, -eq_self] at h; exact h)
def ZrJ (a b:Int):=Ju (a+u32.wrap b)
def JP (a b c:Value):=Con.pure [a,b] c
def Zhr (a:Nat→Cp) (b:Value):=[WV a,b]
def Zfx (a:Cp):=Qw (ZI a.C a.E a.B a.T a.P a.Y a.R a.V)
def QN:=Bx.mk (And.intro @ZrJ.eq_1 (And.intro @JP.eq_1 (And.intro @Zhr.eq_1 @Zfx.eq_1)))
theorem ZB0 (fr:Nat→Cp) (r:Cp) (k:Int) (to:Int):obs (evF Tryz.prog (Zs 3 (Zb [(66,71,JP (fr 16).val (YG to) r.val,[])]) Zg) Zf 100 20 34 (Zhr fr (JM k)) (Ks [] 0))=QG (ZI r.C r.E r.B r.T r.P r.Y r.R r.V) (Zby (VP (Zfx (fr 16)) (ZrJ (ZP (fr 16).C) (ZeA*u32.wrap k)=YG to))):=by kernel_rfl
def fu_a:=Bx.mk (by have h := @ZB0; simp(maxSteps:=99999999) only[ZL.v, ZZ.v, ZlY.v, ZN.v, QH.v, ZR.v, ZD.v, Qz.v, Y9.v, QN.v, -eq_self] at h; exact h)
def Zmy (a:Nat→Cp):=Zhk (frL a)
def Xo (a b c d e f g:Nat) (h:Bool):=Zx7 ↑a ↑b c d e f ↑g h
def Uo (a b:Nat→Cp):=Zmy a=Zmy b
def U2 (a:List Value) (b:Prop):=QG (Zhk a) b
def ZeK (a:Nat→Cp) (b c:Value):=JP (WV a) b c
def Z8:=Bx.mk (And.intro @Zmy.eq_1 (And.intro @Xo.eq_1 (And.intro @Uo.eq_1 (And.intro @U2.eq_1 @ZeK.eq_1))))
theorem ZB1 (fr:Nat→Cp) (r:Cp):obs (evF Tryz.prog (Zs 3 (Zb [(66,34,ZeK fr JO r.val,[])]) Zg) Zf 100 20 26 [WV fr] (Ks [] 0))=U2 (frQ fr (Xo r.C r.E r.B r.T r.P r.Y r.R r.V)) (Zby (VP (Uo fr fr) (Qw JO))):=by kernel_rfl
def nx_a:=Bx.mk (by have h := @ZB1; simp(maxSteps:=99999999) only[ZL.v, ZZ.v, ZN.v, QH.v, ZR.v, Zh6.v, ZD.v, Qz.v, QN.v, Z8.v, -eq_self] at h; exact h)
theorem ZB2 (op:Int):obs (evF Tryz.prog Zg Zf 100 20 36 [JM op] (Ks [(0,true),(1,true)] 0))=QG JO (UY (ZJ op 17=true)):=by kernel_rfl
def wd_1:=Bx.mk (by have h := @ZB2; simp(maxSteps:=99999999) only[ZL.v, ZZ.v, Z3.v, UF.v, Zh6.v, Qz.v, -eq_self] at h; exact h)
def XT (a:Int):=ZJ a 20
def Zdi (a b:Int):=X3 (ZJ a b)
def Zbf:=Bx.mk (And.intro @XT.eq_1 @Zdi.eq_1)
theorem ZB3 (op:Int):obs (evF Tryz.prog Zg Zf 100 20 36 [JM op] (Ks [Zcq,(1,true)] 0))=QG JO (Zdi op 17∧XT op=true):=by kernel_rfl
def wd_2:=Bx.mk (by have h := @ZB3; simp(maxSteps:=99999999) only[ZL.v, ZZ.v, UF.v, Zh6.v, Qz.v, Zbf.v, -eq_self] at h; exact h)
theorem ZB4 (op:Int):obs (evF Tryz.prog Zg Zf 100 20 36 [JM op] (Y5 4 12))=QG Zdf (V1 (Zdi op 17) (XT op) (ZJ op 18=true)∧ZJ op 18=true):=by kernel_rfl
def wd_3:=Bx.mk (by have h := @ZB4; simp(maxSteps:=99999999) only[ZL.v, ZZ.v, ZN.v, UF.v, XM.v, Zbf.v, -eq_self] at h; exact h)
def W1 (a:Int):=ZJ a 21
def ZeL:=Bx.mk @W1.eq_1
theorem ZB5 (op:Int):obs (evF Tryz.prog Zg Zf 100 20 36 [JM op] (Y5 4 8))=QG Zdf (ZdM (Zdi op 17) (XT op) (ZJ op 18)∧W1 op=true):=by kernel_rfl
def wd_4:=Bx.mk (by have h := @ZB5; simp(maxSteps:=99999999) only[ZL.v, ZZ.v, UF.v, XM.v, Zbf.v, ZeL.v, -eq_self] at h; exact h)
theorem ZB6 (op:Int):obs (evF Tryz.prog Zg Zf 100 20 36 [JM op] (Y5 6 48))=QG Zbu (V1 (ZdM (Zdi op 17) (XT op) (ZJ op 18)) (W1 op) (ZJ op 19=true)∧ZJ op 19=true):=by kernel_rfl
def wd_5:=Bx.mk (by have h := @ZB6; simp(maxSteps:=99999999) only[ZL.v, ZZ.v, ZN.v, UF.v, Zbf.v, ZeL.v, -eq_self] at h; exact h)
def Up (a:Int):=ZJ a 22
def Zh7:=Bx.mk @Up.eq_1
theorem ZB7 (op:Int):obs (evF Tryz.prog Zg Zf 100 20 36 [JM op] (Y5 6 32))=QG Zbu (UI (Zdi op 17) (XT op) (ZJ op 18) (W1 op) (ZJ op 19)∧Up op=true):=by kernel_rfl
def wd_6:=Bx.mk (by have h := @ZB7; simp(maxSteps:=99999999) only[ZL.v, ZZ.v, UF.v, Zbf.v, ZeL.v, Zh7.v, -eq_self] at h; exact h)
def Zn5:=ZdL 16
def ZrK:=Bx.mk @Zn5.eq_1
theorem ZB8 (op:Int):obs (evF Tryz.prog Zg Zf 100 20 36 [JM op] (Y5 8 192))=QG Zn5 (V1 (UI (Zdi op 17) (XT op) (ZJ op 18) (W1 op) (ZJ op 19)) (Up op) (ZJ op 23=true)∧ZJ op 23=true):=by kernel_rfl
def wd_7:=Bx.mk (by have h := @ZB8; simp(maxSteps:=99999999) only[ZL.v, ZZ.v, ZN.v, UF.v, Zbf.v, ZeL.v, Zh7.v, ZrK.v, -eq_self] at h; exact h)
def WD (a:Int):=ZJ a 24
def Zc2:=Bx.mk @WD.eq_1
theorem ZB9 (op:Int):obs (evF Tryz.prog Zg Zf 100 20 36 [JM op] (Y5 8 128))=QG Zn5 (ZiE (Zdi op 17) (XT op) (ZJ op 18) (W1 op) (ZJ op 19) (Up op) (ZJ op 23)∧WD op=true):=by kernel_rfl
def wd_8:=Bx.mk (by have h := @ZB9; simp(maxSteps:=99999999) only[ZL.v, ZZ.v, UF.v, QY.v, Zbf.v, ZeL.v, Zh7.v, ZrK.v, Zc2.v, -eq_self] at h; exact h)
theorem ZCa (op:Int):obs (evF Tryz.prog Zg Zf 100 20 36 [JM op] (Y5 8 0))=QG YQ (QK (UI (ZdM (Zdi op 17) (XT op) (ZJ op 18)) (W1 op) (ZJ op 19) (Up op) (ZJ op 23)) (WD op)):=by kernel_rfl
def wd_n:=Bx.mk (by have h := @ZCa; simp(maxSteps:=99999999) only[ZL.v, ZZ.v, UF.v, Zbf.v, ZeL.v, Zh7.v, Zc2.v, -eq_self] at h; exact h)
end Go.Proofs.YtagacmljbgkmoaaGreatDoor
