/-
  CoreNoMoreCard: part 4 of the proof.
-/
import Derived.Below
import Derived.ChangeOld
import Derived.Deep.CutRange
import Derived.Deep.DeepCutAuto
import Derived.Deep.Fields
import Derived.Deep.LoopGhost
import Derived.Deep.Slices
import Derived.Handed
import Derived.LaidHandle
import Derived.LaidMore
import Derived.Laws.EntriesVeiled
import Derived.Laws.Pointers
import Derived.Lib.SmallJoins
import Derived.MakeChecks
import Derived.OpenShut
import Derived.ProofKit
import Derived.Recover
import Derived.ShutString
import Derived.Stop.Joined
import Derived.Test.YtagacmljbgkmoaaGreatDoorQCoreNoMoreCardC
import Derived.Test.YtagacmljbgkmoaaGreatDoorRows
import Derived.WalkKit
set_option linter.unusedSimpArgs false
set_option linter.unusedVariables false
set_option linter.unusedSectionVars false
namespace Go.Proofs.YtagacmljbgkmoaaGreatDoor
open Go.IntKind (u8 u16 u32 u64 i64)
open Go.RowKit
open Sy
set_option maxRecDepth 100000
theorem ZjO (w v:Nat) (hw:w=1∨w=2∨w=4) (hv:v<4294967296):ConOk Tryz.prog 86 3 (ZEd (w:Int) (v:Int)):=by
 have m1:=UJ (v/256) (by omega)
 have fd0:(v:Int).fdiv (1:Int)=((v/1:Nat):Int):=fdA v 1
 have fd1:∀ n:Nat,(n:Int).fdiv (256:Int)=((n/256:Nat):Int):=fun n=>fdA n 256
 have td1:∀ n:Nat,(n:Int).tdiv (256:Int)=((n/256:Nat):Int):=fun n=>(Int.ofNat_tdiv n 256).symm
 have tm1:∀ n:Nat,(n:Int).tmod (256:Int)=((n%256:Nat):Int):=fun n=>(Int.ofNat_tmod n 256).symm
 rcases hw with rfl|rfl|rfl
 ·have hr:=ZEB.v [] (v:Int)
  simp only[fd0,fd1,td1,tm1,m1,w8A,Nat.div_one,Nat.mod_mod,List.append_assoc,List.cons_append,List.nil_append] at hr
  exact ZX (Zn Ze (Zc _) (Zd _) 10) (v:=.string ⟨⟨leW 1 v⟩⟩) hr (by
   simp only[Z1,List.length_append,List.length_cons,List.length_nil]
   repeat (first|exact trivial|refine Zjq (Qq (by omega)) ?_)) rfl rfl
 ·have hr:=ZEC.v [] (v:Int)
  simp only[fd0,fd1,td1,tm1,m1,w8A,Nat.div_one,Nat.mod_mod,List.append_assoc,List.cons_append,List.nil_append] at hr
  exact ZX (Zn Ze (Zc _) (Zd _) 10) (v:=.string ⟨⟨leW 2 v⟩⟩) hr (by
   simp only[Z1,List.length_append,List.length_cons,List.length_nil]
   repeat (first|exact trivial|refine Zjq (Qq (by omega)) ?_)) rfl rfl
 ·exact ZnG _ _ ⟨rfl,by omega,by omega⟩
def ZwK (w a v:Nat) (zs:List UInt8) (f:Nat→Bool) (N m n:Nat):Con:=Zgd [.pointer (some ⟨67,0,none⟩),.int .u32 (a:Nat),.int .i64 (w:Nat),.int .u32 (v:Nat)] zs (Xc a (leW w v) zs) f (Yu f (a/16) false) N m n
theorem ZED (a v:Nat) (zs:List UInt8) (f:Nat→Bool) (N m n:Nat) (h:ArOk zs N m n) (hv:v<4294967296) (ha:a%1=0) (ha2:a+1≤N):ConOk Tryz.prog 42 3 (ZwK 1 a v zs f N m n)∧FlatC (ZwK 1 a v zs f N m n):=by
 obtain⟨hl,h1,h2,h3,h4⟩:=h
 have hg:a/16<m:=by omega
 obtain⟨cv,hcv⟩:=Zfu (a/16) m n f hg h2 h3
 have hr:=sw_1.v a (a/16) v zs f cv N m n
 have e16:(leW 1 v).length=1:=Y1 _ _
 simp only[Int.toNat_natCast,Z1,UV,List.drop_zero,e16] at hr
 have ht:List.take 1 (u8s (leW 1 v))=u8s (leW 1 v):=List.take_of_length_le (by rw[Wq,e16]; exact Nat.le_refl _)
 have hv1:∀ (f:Nat→Bool) (σ:Nat→Nat),(v64 (Za f n)).map (rnV σ 3)=v64 (Za f n):=fun f σ=>Zk (Zm _)
 have hv2:∀ (f:Nat→Bool) (p:Nat→Bool),(v64 (Za f n)).all (okV p 3)=true:=fun f p=>Zj (Zm _)
 have hne:Zt (leW 1 v) []=false:=rfl
 simp(disch:=omega) only[Wb,WN,UU,Zev,Zga,ZjA,Int.toNat_natCast,Nat.zero_add,Nat.mul_one,ht,hv1] at hr
 refine⟨Qi (Zn (L:=100) Ze (Zo (Zi fun x hx => ?_) (Zc _)) (Zd _) 40) (Zfw rfl zs _ f _ N m n) hr ?_ (p:=fun l=>Nat.blt l 68) (σ:=id) (ZaK (VK _ _ N m n _ _ rfl rfl rfl rfl rfl (Uk _ _ _ _ rfl (by rw[e16]; omega))) ⟨⟨rfl,Nat.le_refl _⟩,⟨rfl,Nat.le_refl _⟩,trivial⟩),⟨UZ _ _ _ _ _ _⟩⟩
 ·simp only[swL,List.mem_cons,List.not_mem_nil,or_false] at hx
  rcases hx with rfl|rfl
  ·exact⟨ZjO 1 v (by omega) hv,⟨fun x hx=>by cases hx⟩⟩
  ·exact⟨hcv,ZcV _ _ _ _ _⟩
 ·simp only[Xj,hl,hv1,hv2,Wq,UW,UX,Z1,e16,Qk,ht,hne]
  simp(disch:=omega) only[ZjB,Zc0]
  simp(disch:=omega) only[decide_eq_true,decide_eq_false,Bool.and_self,Bool.true_and,Bool.and_true,Bool.not_true,Bool.not_false,cond_true,and_true,true_and,and_self]
  have q2:i64.wrap ((a:Int)+((1:Nat):Int))=((a+1:Nat):Int):=by rw[ZdN,Wb _ (by omega)]
  have q3:i64.wrap (((a+1:Nat):Int)-(1:Int))=((a+1-1:Nat):Int):=by rw[show((a+1:Nat):Int)-(1:Int)=((a+1-1:Nat):Int) by omega,Wb _ (by omega)]
  have q4:i64.wrap (i64.wrap (((a+1-1:Nat):Int).tdiv 16)+1)=((a/16+1:Nat):Int):=by
   rw[WN,Wb _ (by omega),UU,Wb _ (by omega)]
   omega
  rw[q2,q3,q4]
  exact⟨rfl,Nat.le_refl _⟩
theorem ZEE (a v:Nat) (zs:List UInt8) (f:Nat→Bool) (N m n:Nat) (h:ArOk zs N m n) (hv:v<4294967296) (ha:a%2=0) (ha2:a+2≤N):ConOk Tryz.prog 42 3 (ZwK 2 a v zs f N m n)∧FlatC (ZwK 2 a v zs f N m n):=by
 obtain⟨hl,h1,h2,h3,h4⟩:=h
 have hg:a/16<m:=by omega
 obtain⟨cv,hcv⟩:=Zfu (a/16) m n f hg h2 h3
 have hr:=sw_2.v a (a/16) v zs f cv N m n
 have e16:(leW 2 v).length=2:=Y1 _ _
 simp only[Int.toNat_natCast,Z1,UV,List.drop_zero,e16] at hr
 have ht:List.take 2 (u8s (leW 2 v))=u8s (leW 2 v):=List.take_of_length_le (by rw[Wq,e16]; exact Nat.le_refl _)
 have hv1:∀ (f:Nat→Bool) (σ:Nat→Nat),(v64 (Za f n)).map (rnV σ 3)=v64 (Za f n):=fun f σ=>Zk (Zm _)
 have hv2:∀ (f:Nat→Bool) (p:Nat→Bool),(v64 (Za f n)).all (okV p 3)=true:=fun f p=>Zj (Zm _)
 have hne:Zt (leW 2 v) []=false:=rfl
 simp(disch:=omega) only[Wb,WN,UU,Zev,Zga,ZjA,Int.toNat_natCast,Nat.zero_add,Nat.mul_one,ht,hv1] at hr
 refine⟨Qi (Zn (L:=100) Ze (Zo (Zi fun x hx => ?_) (Zc _)) (Zd _) 40) (Zfw rfl zs _ f _ N m n) hr ?_ (p:=fun l=>Nat.blt l 68) (σ:=id) (ZaK (VK _ _ N m n _ _ rfl rfl rfl rfl rfl (Uk _ _ _ _ rfl (by rw[e16]; omega))) ⟨⟨rfl,Nat.le_refl _⟩,⟨rfl,Nat.le_refl _⟩,trivial⟩),⟨UZ _ _ _ _ _ _⟩⟩
 ·simp only[swL,List.mem_cons,List.not_mem_nil,or_false] at hx
  rcases hx with rfl|rfl
  ·exact⟨ZjO 2 v (by omega) hv,⟨fun x hx=>by cases hx⟩⟩
  ·exact⟨hcv,ZcV _ _ _ _ _⟩
 ·simp only[Xj,hl,hv1,hv2,Wq,UW,UX,Z1,e16,Qk,ht,hne]
  simp(disch:=omega) only[ZjB,Zc0]
  simp(disch:=omega) only[decide_eq_true,decide_eq_false,Bool.and_self,Bool.true_and,Bool.and_true,Bool.not_true,Bool.not_false,cond_true,and_true,true_and,and_self]
  have q2:i64.wrap ((a:Int)+((2:Nat):Int))=((a+2:Nat):Int):=by rw[ZdN,Wb _ (by omega)]
  have q3:i64.wrap (((a+2:Nat):Int)-(1:Int))=((a+2-1:Nat):Int):=by rw[show((a+2:Nat):Int)-(1:Int)=((a+2-1:Nat):Int) by omega,Wb _ (by omega)]
  have q4:i64.wrap (i64.wrap (((a+2-1:Nat):Int).tdiv 16)+1)=((a/16+1:Nat):Int):=by
   rw[WN,Wb _ (by omega),UU,Wb _ (by omega)]
   omega
  rw[q2,q3,q4]
  exact⟨rfl,Nat.le_refl _⟩
theorem ZEF (a v:Nat) (zs:List UInt8) (f:Nat→Bool) (N m n:Nat) (h:ArOk zs N m n) (hv:v<4294967296) (ha:a%4=0) (ha2:a+4≤N):ConOk Tryz.prog 42 3 (ZwK 4 a v zs f N m n)∧FlatC (ZwK 4 a v zs f N m n):=by
 obtain⟨hl,h1,h2,h3,h4⟩:=h
 have hg:a/16<m:=by omega
 obtain⟨cv,hcv⟩:=Zfu (a/16) m n f hg h2 h3
 have hr:=sw_4.v a (a/16) v zs f cv N m n
 have e16:(leW 4 v).length=4:=Y1 _ _
 simp only[Int.toNat_natCast,Z1,UV,List.drop_zero,e16] at hr
 have ht:List.take 4 (u8s (leW 4 v))=u8s (leW 4 v):=List.take_of_length_le (by rw[Wq,e16]; exact Nat.le_refl _)
 have hv1:∀ (f:Nat→Bool) (σ:Nat→Nat),(v64 (Za f n)).map (rnV σ 3)=v64 (Za f n):=fun f σ=>Zk (Zm _)
 have hv2:∀ (f:Nat→Bool) (p:Nat→Bool),(v64 (Za f n)).all (okV p 3)=true:=fun f p=>Zj (Zm _)
 have hne:Zt (leW 4 v) []=false:=rfl
 simp(disch:=omega) only[Wb,WN,UU,Zev,Zga,ZjA,Int.toNat_natCast,Nat.zero_add,Nat.mul_one,ht,hv1] at hr
 refine⟨Qi (Zn (L:=100) Ze (Zo (Zi fun x hx => ?_) (Zc _)) (Zd _) 40) (Zfw rfl zs _ f _ N m n) hr ?_ (p:=fun l=>Nat.blt l 68) (σ:=id) (ZaK (VK _ _ N m n _ _ rfl rfl rfl rfl rfl (Uk _ _ _ _ rfl (by rw[e16]; omega))) ⟨⟨rfl,Nat.le_refl _⟩,⟨rfl,Nat.le_refl _⟩,trivial⟩),⟨UZ _ _ _ _ _ _⟩⟩
 ·simp only[swL,List.mem_cons,List.not_mem_nil,or_false] at hx
  rcases hx with rfl|rfl
  ·exact⟨ZjO 4 v (by omega) hv,⟨fun x hx=>by cases hx⟩⟩
  ·exact⟨hcv,ZcV _ _ _ _ _⟩
 ·simp only[Xj,hl,hv1,hv2,Wq,UW,UX,Z1,e16,Qk,ht,hne]
  simp(disch:=omega) only[ZjB,Zc0]
  simp(disch:=omega) only[decide_eq_true,decide_eq_false,Bool.and_self,Bool.true_and,Bool.and_true,Bool.not_true,Bool.not_false,cond_true,and_true,true_and,and_self]
  have q2:i64.wrap ((a:Int)+((4:Nat):Int))=((a+4:Nat):Int):=by rw[ZdN,Wb _ (by omega)]
  have q3:i64.wrap (((a+4:Nat):Int)-(1:Int))=((a+4-1:Nat):Int):=by rw[show((a+4:Nat):Int)-(1:Int)=((a+4-1:Nat):Int) by omega,Wb _ (by omega)]
  have q4:i64.wrap (i64.wrap (((a+4-1:Nat):Int).tdiv 16)+1)=((a/16+1:Nat):Int):=by
   rw[WN,Wb _ (by omega),UU,Wb _ (by omega)]
   omega
  rw[q2,q3,q4]
  exact⟨rfl,Nat.le_refl _⟩
theorem ZjP (w a v:Nat) (zs:List UInt8) (f:Nat→Bool) (N m n:Nat) (h:ArOk zs N m n) (hw:w=1∨w=2∨w=4) (hv:v<4294967296) (ha:a%w=0) (ha2:a+w≤N):ConOk Tryz.prog 42 3 (ZwK w a v zs f N m n)∧FlatC (ZwK w a v zs f N m n):=by
 rcases hw with rfl|rfl|rfl
 ·exact ZED a v zs f N m n h hv ha ha2
 ·exact ZEE a v zs f N m n h hv ha ha2
 ·exact ZEF a v zs f N m n h hv ha ha2
def ZwL (a c e b t p y r:Nat) (k:Bool) (zs:List UInt8) (f:Nat→Bool) (N m n:Nat):Con:=Zgd [.pointer (some ⟨67,0,none⟩),.int .u32 (a:Nat),cpV c e b t p y r k] zs (Xc a (cbL c e b t p y r) zs) f (Yu f (a/16) (k&&XD e b t p y r)) N m n
theorem Zuq (a c e b t p y r:Nat) (zs:List UInt8) (f:Nat→Bool) (N m n:Nat) (h:ArOk zs N m n) (hcp:CpB c e b t p y r) (ha:a%16=0) (ha2:a+16≤N):ConOk Tryz.prog 44 3 (ZwL a c e b t p y r true zs f N m n)∧FlatC (ZwL a c e b t p y r true zs f N m n):=by
 obtain⟨hl,h1,h2,h3,h4⟩:=h
 have hg:a/16<m:=by omega
 obtain⟨cv,hcv⟩:=Zfu (a/16) m n f hg h2 h3
 have hr:=sc_t.v a (a/16) c e b t p y r zs f cv N m n
 have e16:=Ko c e b t p y r
 simp only[Z1,UV,List.drop_zero,e16] at hr
 have et:(a:Int).tmod (16:Int)=((a%16:Nat):Int):=(Int.ofNat_tmod a 16).symm
 have ht:List.take 16 (u8s (cbL c e b t p y r))=u8s (cbL c e b t p y r):=List.take_of_length_le (by rw[Wq,e16]; exact Nat.le_refl _)
 have hv1:∀ (f:Nat→Bool) (σ:Nat→Nat),(v64 (Za f n)).map (rnV σ 3)=v64 (Za f n):=fun f σ=>Zk (Zm _)
 have hv2:∀ (f:Nat→Bool) (p:Nat→Bool),(v64 (Za f n)).all (okV p 3)=true:=fun f p=>Zj (Zm _)
 simp(disch:=omega) only[Wb,WN,et,ha,UU,Zev,Zga,ZjA,Int.toNat_natCast,Nat.zero_add,Nat.mul_one,ht,hv1,Zho] at hr
 unfold ZwL
 simp only[Bool.true_and,Bool.false_and]
 refine⟨Qi (Zn (L:=100) Ze (Zo (Zi fun x hx => ?_) (Zc _)) (Zd _) 40) (Zfw rfl zs _ f _ N m n) hr ?_ (p:=fun l=>Nat.blt l 68) (σ:=id) (ZaK (VK _ _ N m n _ _ rfl rfl rfl rfl rfl (Uk _ _ _ _ rfl (by rw[e16]; omega))) ⟨⟨rfl,Nat.le_refl _⟩,⟨rfl,Nat.le_refl _⟩,trivial⟩),⟨UZ _ _ _ _ _ _⟩⟩
 ·simp only[scL,List.mem_cons,List.not_mem_nil,or_false] at hx
  rcases hx with rfl|rfl|rfl|rfl
  ·exact⟨Zmw c e b t p y r true hcp,⟨fun x hx=>by cases hx⟩⟩
  ·exact⟨hcv,ZcV _ _ _ _ _⟩
  ·exact⟨Zrw c e b t p y r true hcp,⟨fun x hx=>by cases hx⟩⟩
  ·exact⟨Zmu (a/16) m n _ _ hg h2 h3,ZjM _ _ _ _ _⟩
 ·simp only[Xj,hl,hv1,hv2,Wq,UW,UX,Z1,e16,Qk,ht]
  simp(disch:=omega) only[ZjB,Zc0]
  simp(disch:=omega) only[decide_eq_true,decide_eq_false,Bool.and_self,Bool.true_and,Bool.and_true,Bool.not_true,Bool.not_false,cond_true,and_true,true_and,and_self]
  have q1:i64.wrap ((N:Int)-(16:Int))=((N-16:Nat):Int):=by rw[show(N:Int)-(16:Int)=((N-16:Nat):Int) by omega,Wb _ (by omega)]
  have q2:i64.wrap ((a:Int)+((16:Nat):Int))=((a+16:Nat):Int):=by rw[ZdN,Wb _ (by omega)]
  have q3:i64.wrap (((a+16:Nat):Int)-(1:Int))=((a+15:Nat):Int):=by rw[show((a+16:Nat):Int)-(1:Int)=((a+15:Nat):Int) by omega,Wb _ (by omega)]
  have q4:i64.wrap (i64.wrap (((a+15:Nat):Int).tdiv 16)+1)=((a/16+1:Nat):Int):=by
   rw[WN,Wb _ (by omega),UU,Wb _ (by omega)]
   omega
  rw[q1,q2,q3,q4]
  refine⟨⟨⟨by simp,?_⟩,rfl,Nat.le_refl _⟩,Nat.le_refl _⟩
  rw[Bool.not_eq_false',decide_eq_true_eq]; omega
theorem ZrL (a c e b t p y r:Nat) (zs:List UInt8) (f:Nat→Bool) (N m n:Nat) (h:ArOk zs N m n) (hcp:CpB c e b t p y r) (ha:a%16=0) (ha2:a+16≤N):ConOk Tryz.prog 44 3 (ZwL a c e b t p y r false zs f N m n)∧FlatC (ZwL a c e b t p y r false zs f N m n):=by
 obtain⟨hl,h1,h2,h3,h4⟩:=h
 have hg:a/16<m:=by omega
 obtain⟨cv,hcv⟩:=Zfu (a/16) m n f hg h2 h3
 have hr:=sc_n.v a (a/16) c e b t p y r zs f cv N m n
 have e16:=Ko c e b t p y r
 simp only[Z1,UV,List.drop_zero,e16] at hr
 have et:(a:Int).tmod (16:Int)=((a%16:Nat):Int):=(Int.ofNat_tmod a 16).symm
 have ht:List.take 16 (u8s (cbL c e b t p y r))=u8s (cbL c e b t p y r):=List.take_of_length_le (by rw[Wq,e16]; exact Nat.le_refl _)
 have hv1:∀ (f:Nat→Bool) (σ:Nat→Nat),(v64 (Za f n)).map (rnV σ 3)=v64 (Za f n):=fun f σ=>Zk (Zm _)
 have hv2:∀ (f:Nat→Bool) (p:Nat→Bool),(v64 (Za f n)).all (okV p 3)=true:=fun f p=>Zj (Zm _)
 simp(disch:=omega) only[Wb,WN,et,ha,UU,Zev,Zga,ZjA,Int.toNat_natCast,Nat.zero_add,Nat.mul_one,ht,hv1,Zho] at hr
 unfold ZwL
 simp only[Bool.true_and,Bool.false_and]
 refine⟨Qi (Zn (L:=100) Ze (Zo (Zi fun x hx => ?_) (Zc _)) (Zd _) 40) (Zfw rfl zs _ f _ N m n) hr ?_ (p:=fun l=>Nat.blt l 68) (σ:=id) (ZaK (VK _ _ N m n _ _ rfl rfl rfl rfl rfl (Uk _ _ _ _ rfl (by rw[e16]; omega))) ⟨⟨rfl,Nat.le_refl _⟩,⟨rfl,Nat.le_refl _⟩,trivial⟩),⟨UZ _ _ _ _ _ _⟩⟩
 ·simp only[snL,List.mem_cons,List.not_mem_nil,or_false] at hx
  rcases hx with rfl|rfl|rfl
  ·exact⟨Zmw c e b t p y r false hcp,⟨fun x hx=>by cases hx⟩⟩
  ·exact⟨hcv,ZcV _ _ _ _ _⟩
  ·exact⟨Zmu (a/16) m n _ _ hg h2 h3,ZjM _ _ _ _ _⟩
 ·simp only[Xj,hl,hv1,hv2,Wq,UW,UX,Z1,e16,Qk,ht]
  simp(disch:=omega) only[ZjB,Zc0]
  simp(disch:=omega) only[decide_eq_true,decide_eq_false,Bool.and_self,Bool.true_and,Bool.and_true,Bool.not_true,Bool.not_false,cond_true,and_true,true_and,and_self]
  have q1:i64.wrap ((N:Int)-(16:Int))=((N-16:Nat):Int):=by rw[show(N:Int)-(16:Int)=((N-16:Nat):Int) by omega,Wb _ (by omega)]
  have q2:i64.wrap ((a:Int)+((16:Nat):Int))=((a+16:Nat):Int):=by rw[ZdN,Wb _ (by omega)]
  have q3:i64.wrap (((a+16:Nat):Int)-(1:Int))=((a+15:Nat):Int):=by rw[show((a+16:Nat):Int)-(1:Int)=((a+15:Nat):Int) by omega,Wb _ (by omega)]
  have q4:i64.wrap (i64.wrap (((a+15:Nat):Int).tdiv 16)+1)=((a/16+1:Nat):Int):=by
   rw[WN,Wb _ (by omega),UU,Wb _ (by omega)]
   omega
  rw[q1,q2,q3,q4]
  refine⟨⟨⟨by simp,?_⟩,rfl,Nat.le_refl _⟩,Nat.le_refl _⟩
  rw[Bool.not_eq_false',decide_eq_true_eq]; omega
theorem Zmz (a c e b t p y r:Nat) (k:Bool) (zs:List UInt8) (f:Nat→Bool) (N m n:Nat) (h:ArOk zs N m n) (hcp:CpB c e b t p y r) (ha:a%16=0) (ha2:a+16≤N):ConOk Tryz.prog 44 3 (ZwL a c e b t p y r k zs f N m n)∧FlatC (ZwL a c e b t p y r k zs f N m n):=by
 cases k
 ·exact ZrL a c e b t p y r zs f N m n h hcp ha ha2
 ·exact Zuq a c e b t p y r zs f N m n h hcp ha ha2
def ZA1 (w:Nat) (zs:List UInt8) (i:Nat):Nat:=if w=1 then byA zs i else if w=2 then byA zs (i+1)*256+byA zs i else ZxX zs i
def ldWC (w a:Nat) (zs:List UInt8) (f:Nat→Bool) (N m n:Nat):Con:=ZnZ [.pointer (some ⟨67,0,none⟩),.int .u32 (a:Nat),.int .i64 (w:Nat)] (.tuple ⟨[.int .u32 (ZA1 w zs a:Nat),.bool true]⟩) zs f N m n
theorem ZEg (y:Nat) (h:y<4294967296):bits .or .u32 (0:Int) (y:Int)=(y:Int):=by
 have:=orA 0 y 32 (by omega) (by omega) (by omega)
 rw[Nat.zero_add] at this
 exact this
theorem Zyb (w a:Nat) (zs:List UInt8) (f:Nat→Bool) (N m n:Nat) (h:ArOk zs N m n) (hw:w=1∨w=2∨w=4) (ha2:a+w≤N):ConOk Tryz.prog 30 3 (ldWC w a zs f N m n)∧FlatC (ldWC w a zs f N m n):=by
 obtain⟨hl,h1,h2,h3,h4⟩:=h
 have z0:=ZaE zs a
 have z1:=ZaE zs (a+1)
 have z2:=ZaE zs (a+2)
 have z3:=ZaE zs (a+3)
 have v0:=UJ (byA zs a) (by omega)
 have v1:=UJ (byA zs (a+1)) (by omega)
 have v2:=UJ (byA zs (a+2)) (by omega)
 have v3:=UJ (byA zs (a+3)) (by omega)
 have y1:((byA zs (a+1):Nat):Int)*256=((byA zs (a+1)*256:Nat):Int):=by omega
 have y2:((byA zs (a+2):Nat):Int)*65536=((byA zs (a+2)*65536:Nat):Int):=by omega
 have y3:((byA zs (a+3):Nat):Int)*16777216=((byA zs (a+3)*16777216:Nat):Int):=by omega
 have u1:=UJ (byA zs (a+1)*256) (by omega)
 have u2:=UJ (byA zs (a+2)*65536) (by omega)
 have u3:=UJ (byA zs (a+3)*16777216) (by omega)
 have p1:(a:Int)+(1:Int)=((a+1:Nat):Int):=by omega
 have p2:(a:Int)+(2:Int)=((a+2:Nat):Int):=by omega
 have p4:(a:Int)+(4:Int)=((a+4:Nat):Int):=by omega
 have k1:1≤N→(N:Int)-(1:Int)=((N-1:Nat):Int):=by omega
 have k2:2≤N→(N:Int)-(2:Int)=((N-2:Nat):Int):=by omega
 have k4:4≤N→(N:Int)-(4:Int)=((N-4:Nat):Int):=by omega
 rcases hw with rfl|rfl|rfl
 ·have b0:=ZEg (byA zs a) (by omega)
  have hr:=lw_1.v (a:Int) zs f N m n
  simp(disch:=omega) only[Wb,p1,k1,Int.toNat_natCast,Nat.zero_add,Nat.mul_one,Nat.add_zero,ZnH,v0,b0] at hr
  refine WJ (Zn (L:=100) Ze (Zc _) (Zd _) 40) rfl rfl rfl hr ?_
  simp(disch:=omega) only[Xj,Zeu,hl,Zc0,decide_eq_true,decide_eq_false,Bool.and_self,Bool.true_and,Bool.and_true,Bool.not_true,Bool.not_false,cond_true,and_true,true_and,and_self]
 ·have b0:=ZEg (byA zs (a+1)*256) (by omega)
  have b1:=orA (byA zs (a+1)*256) (byA zs a) 8 (by omega) (by omega) (by omega)
  have hr:=lw_2.v (a:Int) zs f N m n
  simp(disch:=omega) only[Wb,p2,k2,Int.toNat_natCast,Nat.zero_add,Nat.mul_one,Nat.add_zero,ZnH,v0,v1,y1,u1,b0,b1] at hr
  refine WJ (Zn (L:=100) Ze (Zc _) (Zd _) 40) rfl rfl rfl hr ?_
  simp(disch:=omega) only[Xj,Zeu,hl,Zc0,decide_eq_true,decide_eq_false,Bool.and_self,Bool.true_and,Bool.and_true,Bool.not_true,Bool.not_false,cond_true,and_true,true_and,and_self]
 ·have b32:=orA (byA zs (a+3)*16777216) (byA zs (a+2)*65536) 24 (by omega) (by omega) (by omega)
  have b31:=orA (byA zs (a+3)*16777216+byA zs (a+2)*65536) (byA zs (a+1)*256) 16 (by omega) (by omega) (by omega)
  have b30:=orA (byA zs (a+3)*16777216+byA zs (a+2)*65536+byA zs (a+1)*256) (byA zs a) 8 (by omega) (by omega) (by omega)
  have hr:=lw_4.v (a:Int) zs f N m n
  simp(disch:=omega) only[Wb,p4,k4,Int.toNat_natCast,Nat.zero_add,Nat.mul_one,Nat.add_zero,ZnH,v0,v1,v2,v3,y1,y2,y3,u1,u2,u3,b32,b31,b30] at hr
  refine WJ (Zn (L:=100) Ze (Zc _) (Zd _) 40) rfl rfl rfl hr ?_
  simp(disch:=omega) only[Xj,Zeu,hl,Zc0,decide_eq_true,decide_eq_false,Bool.and_self,Bool.true_and,Bool.and_true,Bool.not_true,Bool.not_false,cond_true,and_true,true_and,and_self]
def Zbg (c:Cp) (need:Nat):Nat:=if c.V=false then 1 else if c.Y≠0 then 2 else if c.P&&&need≠need then 3 else 0
theorem ZCb (p q:Nat) (hp:p<65536) (hq:q<65536):(bits BinOp.and u16 (p:Int) (q:Int) !=(q:Int))=decide (p&&&q≠q):=by
 rw[u16_and_nat p q hp hq,Bool.eq_iff_iff]
 simp<;>omega
theorem ZjQ (n:Nat):((n:Int) !=(0:Int))=decide (n≠0):=by
 rw[Bool.eq_iff_iff]; simp<;>omega
theorem ZjR (c:Cp) (need:Nat) (hc:c.Ok) (hn:need<65536):ConOk Tryz.prog 35 3 (Con.pure [c.val,.int .u16 (need:Nat)] (.int .i64 (Zbg c need:Nat))):=by
 have hs:=fun {T:List (Nat×Bool)} {v:Value} {q:Prop} (h:obs (evF Tryz.prog Zg Zf 100 20 35 [c.val,.int .u16 (need:Nat)] (stT T))=some (v,q)) (hq:q) (hv:X1 v=true)=>ZX (d:=1) (Zn (L:=100) Ze (Zc _) (Zd _) 20) h hq rfl hv
 unfold Zbg
 by_cases h1:c.V=false
 ·rw[if_pos h1]; exact hs (jp_t c need) (by rw[h1]; exact⟨trivial,rfl⟩) rfl
 rw[if_neg h1]
 have h1:c.V=true:=by simpa using h1
 by_cases h2:c.Y≠0
 ·rw[if_pos h2]; exact hs (jp_s.v c need) (by rw[h1,ZjQ]; exact⟨⟨trivial,rfl⟩,by simpa using h2⟩) rfl
 rw[if_neg h2]
 by_cases h3:c.P&&&need≠need
 ·rw[if_pos h3]; exact hs (jp_p.v c need) (by rw[h1,ZjQ,ZCb _ _ hc.2.2.2.2.1 hn]; exact⟨⟨⟨trivial,rfl⟩,by simpa using h2⟩,by simpa using h3⟩) rfl
 ·rw[if_neg h3]; exact hs (jp_o.v c need) (by rw[h1,ZjQ,ZCb _ _ hc.2.2.2.2.1 hn]; exact⟨⟨⟨trivial,rfl⟩,by simpa using h2⟩,by simpa using h3⟩) rfl
def ZhU (c:Cp) (a w need N:Nat):Nat:=if Zbg c need≠0 then Zbg c need else if Zbq c.lo c.hi a w=false then 4 else if N<a+w then 4 else if a%w≠0 then 5 else 0
def ZEG (c:Cp) (a w need:Nat) (t:Nat) (zs:List UInt8) (f:Nat→Bool) (N m n:Nat):Con:=ZnZ [c.val,.int .u32 (a:Nat),.int .i64 (w:Nat),.int .u16 (need:Nat),.pointer (some ⟨67,0,none⟩)] (.int .i64 (t:Nat)) zs f N m n
theorem Zyc (c:Cp) (a w need:Nat) (zs:List UInt8) (f:Nat→Bool) (N m n:Nat) (h:ArOk zs N m n) (hc:c.Ok) (hn:need<65536) (ha:a<4294967296) (hw:0<w) (hw2:w≤16):ConOk Tryz.prog 52 3 (ZEG c a w need (ZhU c a w need N) zs f N m n)∧FlatC (ZEG c a w need (ZhU c a w need N) zs f N m n):=by
 obtain⟨hl,h1,h2,h3,h4⟩:=h
 have hb:∀ x∈wyL c (a:Int) (w:Int) need (Zbg c need) (Zbq c.lo c.hi a w),ConOk Tryz.prog x.2.1 3 x.2.2.1∧FlatC x.2.2.1:=fun x hx=>by
  simp only[wyL,List.mem_cons,List.not_mem_nil,or_false] at hx
  rcases hx with rfl|rfl
  ·exact⟨ZjR c need hc hn,⟨fun x hx=>by cases hx⟩⟩
  ·exact⟨Zpf c a w hc ha (by omega),⟨fun x hx=>by cases hx⟩⟩
 have hs:=fun {T:List (Nat×Bool)} {v:Value} {q:Prop} (h:obs (evF Tryz.prog (Zs 3 (Zb (wyL c (a:Int) (w:Int) need (Zbg c need) (Zbq c.lo c.hi a w))) Zg) Zf 100 20 52 [c.val,.int .u32 (a:Nat),.int .i64 (w:Nat),.int .u16 (need:Nat),.pointer (some ⟨67,0,none⟩)] ⟨68,arW false zs f N m n,arO N n,0,T,0,True⟩)=some (v,q)) (hq:q) (hv:X1 v=true) (hu:isU v=false) =>
  WJ (Zn (L:=100) Ze (Zo (Zi hb) (Zc _)) (Zd _) 20) rfl hv hu h hq
 have ew:u32.wrap (w:Int)=(w:Int):=UJ w (by omega)
 have ea:u64.wrap (u64.wrap (a:Int)+u64.wrap (w:Int))=((a+w:Nat):Int):=by rw[ZjH a (by omega),ZjH w (by omega),ZdN,ZjH _ (by omega)]
 have eN:u64.wrap (N:Int)=(N:Int):=ZjH N (by omega)
 have et:(a:Int).tmod (w:Int)=((a%w:Nat):Int):=(Int.ofNat_tmod a w).symm
 have eg:decide (((a+w:Nat):Int)>(N:Int))=decide (N<a+w):=by rw[decide_eq_decide]; omega
 have e0:decide ((w:Int)=0)=false:=decide_eq_false (by omega)
 unfold ZhU
 generalize Zbg c need=t at *
 generalize Zbq c.lo c.hi a w=hh at *
 by_cases k1:t≠0
 ·rw[if_pos k1]; exact hs (wy_j.v c a w need t hh zs f N m n) (by simp only[ZjQ,k1,and_true,true_and,and_self,ne_eq,not_false_eq_true,decide_true]) rfl rfl
 rw[if_neg k1]
 have k1:decide (t≠0)=false:=decide_eq_false k1
 cases hh
 ·rw[if_pos rfl]; exact hs (wy_h.v c a w need t false zs f N m n) (by simp only[ZjQ,k1,ew,Bool.not_false,and_true,true_and,and_self]) rfl rfl
 rw[if_neg (by decide)]
 by_cases k2:N<a+w
 ·rw[if_pos k2]; exact hs (wy_z.v c a w need t true zs f N m n) (by simp only[ZjQ,k1,ew,ea,eN,eg,k2,Bool.not_true,and_true,true_and,and_self,decide_true]) rfl rfl
 rw[if_neg k2]
 by_cases k3:a%w≠0
 ·rw[if_pos k3]; exact hs (wy_a.v c a w need t true zs f N m n) (by simp only[ZjQ,k1,ew,ea,eN,eg,e0,et,k2,k3,ne_eq,not_false_eq_true,Bool.not_true,Bool.not_false,and_true,true_and,and_self,decide_true,decide_false,cond_true]) rfl rfl
 ·rw[if_neg k3]
  have k3:decide (a%w≠0)=false:=decide_eq_false k3
  exact hs (wy_o.v c a w need t true zs f N m n) (by simp only[ZjQ,k1,ew,ea,eN,eg,e0,et,k2,k3,Bool.not_true,Bool.not_false,and_true,true_and,and_self,decide_true,decide_false,cond_true]) rfl rfl
theorem Zcr {c:Cp} {a w need N:Nat} (h:ZhU c a w need N=0):a+w≤N∧a%w=0∧c.V=true∧c.Y=0∧c.P&&&need=need∧Zbq c.lo c.hi a w=true:=by
 unfold ZhU at h
 split at h
 ·exact absurd h (by assumption)
 ·rename_i h0
  have h0:Zbg c need=0:=by simpa using h0
  unfold Zbg at h0
  split at h0
  ·cases h0
  ·split at h0
   ·cases h0
   ·split at h0
    ·cases h0
    ·split at h
     ·cases h
     ·split at h
      ·cases h
      ·split at h
       ·cases h
       ·simp_all
def ZjS (fr:Nat→Cp) (k:Int):Nat:=(((fr 16).C:Int)+4*k).emod 4294967296 |>.toNat
def Zge (fr:Nat→Cp) (k:Int):Cp:=ZdO (fr 16) (ZjS fr k)
def WE (fr:Nat→Cp):Nat→Cp:=frS fr 16 (Zge fr 1)
theorem Zn6 (fr:Nat→Cp) (k:Int):ZjS fr k<4294967296:=by
 unfold ZjS
 have:=Int.emod_lt_of_pos (((fr 16).C:Int)+4*k) (show(0:Int)<4294967296 by omega)
 have:=Int.emod_nonneg (((fr 16).C:Int)+4*k) (show(4294967296:Int)≠0 by omega)
 show((((fr 16).C:Int)+4*k)%4294967296).toNat<_
 omega
theorem ZdQ (fr:Nat→Cp) (k:Int) (h:Wc fr):ConOk Tryz.prog 34 3 (Con.pure [WV fr,.int .i64 k] (Zge fr k).val):=by
 have hr:=fu_a.v fr (Zge fr k) k (ZjS fr k:Nat)
 refine ZX (d:=1) (Zn (L:=100) Ze (Zo (Zi fun x hx => ?_) (Zc _)) (Zd _) 20) hr ?_ rfl rfl
 ·obtain rfl:=List.mem_singleton.1 hx
  exact⟨Zew (fr 16) (ZjS fr k) (h 16) (Zn6 fr k),⟨fun x hx=>by cases hx⟩⟩
 ·have e:u32.wrap (((fr 16).C:Int)+u32.wrap ((4:Int)*u32.wrap k))=((ZjS fr k:Nat):Int):=by
   unfold ZjS
   show _=((((((fr 16).C:Int)+4*k)%4294967296).toNat:Nat):Int)
   simp only[IntKind.wrap_u32]
   omega
  rw[e]
  simp only[and_true,true_and,and_self]
theorem ZCc (fr:Nat→Cp) (r:Cp):frQ fr r.cs=frL (frS fr 16 r):=by
 have h:=Zmr fr r 16 (by omega)
 rw[← h]; rfl
theorem Zur (fr:Nat→Cp) (h:Wc fr):ConOk Tryz.prog 26 3 (Con.pure [WV fr] (WV (WE fr))):=by
 have hr:=nx_a.v fr (Zge fr 1)
 have e:(.agg ⟨frQ fr (Zge fr 1).cs⟩:Value)=WV (WE fr):=by rw[ZCc]; rfl
 refine ZX (d:=1) (Zn (L:=100) Ze (Zo (Zi fun x hx => ?_) (Zc _)) (Zd _) 20) (hr.trans (congrArg (fun v=>some (v,_)) e)) ?_ rfl rfl
 ·obtain rfl:=List.mem_singleton.1 hx
  exact⟨ZdQ fr 1 h,⟨fun x hx=>by cases hx⟩⟩
 ·simp only[and_true,true_and,and_self]
def WK (op:Int):Nat:=if op=17∨op=20 then 1 else if op=18∨op=21 then 2 else if op=19∨op=22 then 4 else if op=23∨op=24 then 16 else 0
theorem ZrM (op:Int):ConOk Tryz.prog 36 3 (Con.pure [.int .i64 op] (.int .i64 (WK op:Nat))):=by
 have hs:=fun {T:List (Nat×Bool)} {v:Value} {q:Prop} (h:obs (evF Tryz.prog Zg Zf 100 20 36 [.int .i64 op] (stT T))=some (v,q)) (hq:q) (hv:X1 v=true)=>ZX (d:=1) (Zn (L:=100) Ze (Zc _) (Zd _) 20) h hq rfl hv
 by_cases h1:op=17
 ·subst h1; exact hs (wd_1.v 17) ⟨⟨trivial,rfl⟩,rfl⟩ rfl
 by_cases h2:op=20
 ·subst h2; exact hs (wd_2.v 20) ⟨⟨trivial,rfl⟩,rfl⟩ rfl
 by_cases h3:op=18
 ·subst h3; exact hs (wd_3.v 18) (by refine⟨⟨⟨⟨trivial,rfl⟩,rfl⟩,rfl⟩,rfl⟩) rfl
 by_cases h4:op=21
 ·subst h4; exact hs (wd_4.v 21) (by refine⟨⟨⟨⟨trivial,rfl⟩,rfl⟩,rfl⟩,rfl⟩) rfl
 by_cases h5:op=19
 ·subst h5; exact hs (wd_5.v 19) (by refine⟨⟨⟨⟨⟨⟨trivial,rfl⟩,rfl⟩,rfl⟩,rfl⟩,rfl⟩,rfl⟩) rfl
 by_cases h6:op=22
 ·subst h6; exact hs (wd_6.v 22) (by refine⟨⟨⟨⟨⟨⟨trivial,rfl⟩,rfl⟩,rfl⟩,rfl⟩,rfl⟩,rfl⟩) rfl
 by_cases h7:op=23
 ·subst h7; exact hs (wd_7.v 23) (by refine⟨⟨⟨⟨⟨⟨⟨⟨trivial,rfl⟩,rfl⟩,rfl⟩,rfl⟩,rfl⟩,rfl⟩,rfl⟩,rfl⟩) rfl
 by_cases h8:op=24
 ·subst h8; exact hs (wd_8.v 24) (by refine⟨⟨⟨⟨⟨⟨⟨⟨trivial,rfl⟩,rfl⟩,rfl⟩,rfl⟩,rfl⟩,rfl⟩,rfl⟩,rfl⟩) rfl
 have e:WK op=0:=by unfold WK; simp only[h1,h2,h3,h4,h5,h6,h7,h8,or_self,if_false]
 rw[e]
 refine hs (wd_n.v op) ?_ rfl
 have b:∀ k:Int,¬ op=k→(op==k)=false:=fun k hk=>beq_eq_false_iff_ne.2 hk
 simp only[b _ h1,b _ h2,b _ h3,b _ h4,b _ h5,b _ h6,b _ h7,b _ h8,and_self]
def mvL (nw:Nat) (i:In) (fr:Nat→Cp) (cB:Cp) (w a need t:Nat) (zs:List UInt8) (f:Nat→Bool) (N m n:Nat) (L:Sy.Steps):Sy.Steps:=(73,36,Con.pure [.int .i64 i.op] (.int .i64 (w:Nat)),[])::(nw,52,ZEG cB a w need t zs f N m n,[64,65,66,67])::L
def mvA (fr:Nat→Cp) (i:In):List Value:=[WV fr,i.val,.pointer (some ⟨67,0,none⟩)]
def Zus (a:IntKind) (b:List Value) (c:Nat):=Value.int a (K3 b c)
def Zut (a:List Value) (b:Nat):=Zus u16 a b
def ZjT (a:Nat→Cp) (b:Nat):=K3 (frL a) b
def ZdR (a:List Value) (b:Nat):=Zus u32 a b
def Xf:=Zrx 0
def Zcs (a:Nat→Cp) (b:Nat):=Zut (frL a) b
def ZjU (a:List Value) (b:Nat):=VM (ZC undef a b)
def Zye (a:Nat→Cp) (b:Nat):=ZjU (frL a) b
def Zyf (a:List Value) (b:Nat→Cp) (c:Nat):=ZF a (frL b) c
def Zlf (a:Nat→Cp) (b:Nat):=ZdR (frL a) b
def ZrN (a b c d e f g h i:Prop):=JG (Zun a b c d e f) g h i
def ZiG (a:List Value) (b:Nat):=Zus u8 a b
def ZrO (a b:Int) (c d e f:Value) (g:Int):=Zx6 a b c d e f g false
def Zhs (a:Nat→Cp) (b:Nat):=ZiG (frL a) b
def ZrP (a b c d:Prop) (e f:Nat) (g:Prop) (h i:Nat):=Zc1 a (JG b c (d∧e≤f) (g∧h≤i))
def Zlg (a b c d e:Nat) (f:List UInt8):=Zuo a [b,c,d,e] 3 (u8s f)
def Zht (a:Nat→Cp) (b:Nat):=Zcs a (b+1)
def ZrQ (a:Nat→Cp) (b c:Nat):=Zht a (b+c+1)
def U3 (a b:Int):=Vd a (Zk1 b)
def Zn7 (a:Nat) (b:Nat→Cp) (c:Bool):=WH a (frL b)&&c
def ZbC (a:Bool) (b c:Int) (d:Bool) (e f:Int) (g:Prop):=Zhe a (U3 b c) d (U3 e f) g
def ZrR (a:Nat→Cp) (b c:Nat):=ZrQ a (b+c) 1
def ZrS (a:List UInt8) (b:List Value):=u8s a=b
def Zlh (a:List UInt8) (b:Nat→Bool) (c d e:Prop) (f:List UInt8) (g:List Value):=Zla (Zfv (u8s a) b 3) c d e (ZrS f g)
def Zn8 (a:Nat) (b c:Nat→Cp) (d:Nat):=Zn7 a b (Zyf (ZrO 0 0 Xf Xf Xf Xf 0) c d)
def ZrT (a:Nat→Cp) (b c:Nat):=Zye a (b+c)
def ZrU (a:Nat→Cp) (b:Nat) (c:Int):=ZrJ (ZjT a b) c
def ZrV (a:Nat→Cp) (b c:Nat):=ZrR a (b+c) 1
def Zdj (a b:Value) (c d:Prop):=Wg [a,b] (c∧d)
def ZeM (a:Nat→Cp) (b c:Nat):=Zlf a (b+c)
def ZbD (a:Nat→Cp) (b:Nat):=ZrT a (0+b*8+1+1+1+1+1+1) 1
def WO (a:Nat→Cp) (b:Nat) (c:Int) (d:Nat):=U0 (ZrU a b c) d
def Zhu (a:Nat→Cp) (b:Nat):=ZrQ a 0 (b*8)
def Zhv (a:Nat→Cp) (b:Nat):=ZrR a 0 (b*8)
def Zhw (a:Nat→Cp) (b:Nat):=ZrV a 0 (b*8)
def Zhx (a:Nat→Cp) (b:Nat):=ZrV a (0+b*8) 1
def Zhy (a:Nat→Cp) (b:Nat):=ZeM a (0+b*8+1+1+1+1+1) 1
def Kt (a b c:Int):=ZrO a b Xf Xf Xf Xf c
def ZbE (a:List Value) (b:Value) (c d:Prop):=Zdj (Zhk a) b c d
def Zli:=Zrx 1
def Zlj (a b c d e:Prop):=ZrN a a a a a b (Zcj a c) d e
def WP (a:List Value):=a=a
def Zhz (a:Nat→Cp) (b c:Nat) (d e f g h:Value) (i:Bool):=Zcf (Zlf a b) (Zhs a c) d e f g h i
def ZfT (a:Nat) (b:Nat→Cp) (c:Nat):=Zn8 a b b c
def ZhA (a b:Nat):=ZrD a b (Zix a b)
def Yj (a b c:Prop) (d e:Nat):=ZrP a b c Zh d d Zh e e
def Yo:=Qw Qe
def ZhB (a:Nat):=WP (ZnC a)
def Zaj (a:Nat):=Qw (Vc a)
def ZhC (a b c:Prop) (d:Value) (e:Prop):=Zde a b c (Qw d) e
def ZjV (a b c:Nat) (d:Prop) (e:List UInt8) (f:Nat→Bool) (g:Nat):=Zlj Zh (ZhB a) (ZhA b c) d (Zlh e f Zh Zh Zh e (Zlg g 64 65 66 67 e))
def W2 (a b:Prop) (c:Nat) (d:Value) (e:Prop):=ZhC a b (Zaj c) d e
def Vq (a:Prop):=ZeJ a Zh
def QA (a:Nat) (b:Nat→Cp) (c:Nat) (d:Int) (e f:Nat) (g:Int) (h:Prop):=VA (ZbC (Zn8 a b b c) d d (ZfT e b f) g g True) h
def QZ (a b c:Nat) (d:Nat→Bool) (e:Nat) (f:Nat→Bool) (g:Nat) (h:List UInt8) (i:Nat):=ZjV a b c (JF d e f g) h f i
def ZM (a:Nat→Cp) (b c d:Nat):=Zhz a b c (Zhu a d) (Zhv a d) (Zhw a d) (Zhx a d) (Zhy a d) (ZbD a d)
def Zz:=Bx.mk (And.intro @Zus.eq_1 (And.intro @Zut.eq_1 (And.intro @ZjT.eq_1 (And.intro @ZdR.eq_1 (And.intro @Xf.eq_1 (And.intro @Zcs.eq_1 (And.intro @ZjU.eq_1 (And.intro @Zye.eq_1 (And.intro @Zyf.eq_1 (And.intro @Zlf.eq_1 (And.intro @ZrN.eq_1 (And.intro @ZiG.eq_1 (And.intro @ZrO.eq_1 (And.intro @Zhs.eq_1 (And.intro @ZrP.eq_1 (And.intro @Zlg.eq_1 (And.intro @Zht.eq_1 (And.intro @ZrQ.eq_1 (And.intro @U3.eq_1 (And.intro @Zn7.eq_1 (And.intro @ZbC.eq_1 (And.intro @ZrR.eq_1 (And.intro @ZrS.eq_1 (And.intro @Zlh.eq_1 (And.intro @Zn8.eq_1 (And.intro @ZrT.eq_1 (And.intro @ZrU.eq_1 (And.intro @ZrV.eq_1 (And.intro @Zdj.eq_1 (And.intro @ZeM.eq_1 (And.intro @ZbD.eq_1 (And.intro @WO.eq_1 (And.intro @Zhu.eq_1 (And.intro @Zhv.eq_1 (And.intro @Zhw.eq_1 (And.intro @Zhx.eq_1 (And.intro @Zhy.eq_1 (And.intro @Kt.eq_1 (And.intro @ZbE.eq_1 (And.intro @Zli.eq_1 (And.intro @Zlj.eq_1 (And.intro @WP.eq_1 (And.intro @Zhz.eq_1 (And.intro @ZfT.eq_1 (And.intro @ZhA.eq_1 (And.intro @Yj.eq_1 (And.intro @Yo.eq_1 (And.intro @ZhB.eq_1 (And.intro @Zaj.eq_1 (And.intro @ZhC.eq_1 (And.intro @ZjV.eq_1 (And.intro @W2.eq_1 (And.intro @Vq.eq_1 (And.intro @QA.eq_1 (And.intro @QZ.eq_1 @ZM.eq_1)))))))))))))))))))))))))))))))))))))))))))))))))))))))
theorem Zyd (i:In) (fr:Nat→Cp) (cB:Cp) (w:Nat) (a:Nat) (t:Nat) (zs:List UInt8) (f:Nat→Bool) (N:Nat) (m:Nat) (n:Nat):obs (evF Tryz.prog (Zs 3 (Zb (mvL 74 i fr cB w a 1 t zs f N m n [])) Zg) Zf 100 20 37 (mvA fr i) (Kr zs f N m n N n 7 65))=ZbE (Kt 0 0 0) (Vc t) (Yj (UI (Vq (QA (0+i.b.toNat*8+8) fr (0+i.b.toNat*8) i.b (0+i.a.toNat*8+8) (0+i.a.toNat*8) i.a (Y7 i.op))) (WD i.op) (XT i.op) (W1 i.op) (Up i.op)) (W2 (ZM fr (0+i.b.toNat*8) (0+i.b.toNat*8+1) i.b.toNat=ZI cB.C cB.E cB.B cB.T cB.P cB.Y cB.R cB.V) (WO fr (0+i.b.toNat*8) i.m a) w Zli Yo) (QZ N m n f n (fun l=>l.blt 68) 74 zs 74) n N) (YJ t=true):=by kernel_rfl
def ZEH:=Bx.mk (by have h := @Zyd; simp(maxSteps:=99999999) only[ZL.v, ZZ.v, ZN.v, Z3.v, Qb.v, UF.v, QH.v, ZR.v, Qc.v, ZD.v, Ql.v, Qz.v, Y9.v, QN.v, Zbf.v, ZeL.v, Zh7.v, Zc2.v, Zz.v, -eq_self] at h; exact h)
def Zlk (a b c:Prop):=ZeJ (a∧b) c
def ZeN:=Zrx 2
def K6 (a b:Prop):=Zlk a b Zh
def YN:=Bx.mk (And.intro @Zlk.eq_1 (And.intro @ZeN.eq_1 @K6.eq_1))
theorem Zuu (i:In) (fr:Nat→Cp) (cB:Cp) (w:Nat) (a:Nat) (t:Nat) (zs:List UInt8) (f:Nat→Bool) (N:Nat) (m:Nat) (n:Nat):obs (evF Tryz.prog (Zs 3 (Zb (mvL 75 i fr cB w a 2 t zs f N m n [])) Zg) Zf 100 20 37 (mvA fr i) (Kr zs f N m n N n 8 185))=ZbE (Kt 0 0 0) (Vc t) (Yj (K6 (V1 (Vq (QA (0+i.b.toNat*8+8) fr (0+i.b.toNat*8) i.b (0+i.a.toNat*8+8) (0+i.a.toNat*8) i.a (Y7 i.op))) (WD i.op) (XT i.op=true)) (XT i.op=true)) (W2 (ZM fr (0+i.b.toNat*8) (0+i.b.toNat*8+1) i.b.toNat=ZI cB.C cB.E cB.B cB.T cB.P cB.Y cB.R cB.V) (WO fr (0+i.b.toNat*8) i.m a) w ZeN Yo) (QZ N m n f n (fun l=>l.blt 68) 75 zs 75) n N) (YJ t=true):=by kernel_rfl
def ZCd:=Bx.mk (by have h := @Zuu; simp(maxSteps:=99999999) only[ZL.v, ZZ.v, ZN.v, Z3.v, Qb.v, UF.v, QH.v, ZR.v, Qc.v, ZD.v, Ql.v, Qz.v, Y9.v, QN.v, Zbf.v, Zc2.v, Zz.v, YN.v, -eq_self] at h; exact h)
theorem Zuv (i:In) (fr:Nat→Cp) (cB:Cp) (w:Nat) (a:Nat) (t:Nat) (zs:List UInt8) (f:Nat→Bool) (N:Nat) (m:Nat) (n:Nat):obs (evF Tryz.prog (Zs 3 (Zb (mvL 75 i fr cB w a 2 t zs f N m n [])) Zg) Zf 100 20 37 (mvA fr i) (Kr zs f N m n N n 9 369))=ZbE (Kt 0 0 0) (Vc t) (Yj (K6 (ZdM (Vq (QA (0+i.b.toNat*8+8) fr (0+i.b.toNat*8) i.b (0+i.a.toNat*8+8) (0+i.a.toNat*8) i.a (Y7 i.op))) (WD i.op) (XT i.op)∧W1 i.op=true) (W1 i.op=true)) (W2 (ZM fr (0+i.b.toNat*8) (0+i.b.toNat*8+1) i.b.toNat=ZI cB.C cB.E cB.B cB.T cB.P cB.Y cB.R cB.V) (WO fr (0+i.b.toNat*8) i.m a) w ZeN Yo) (QZ N m n f n (fun l=>l.blt 68) 75 zs 75) n N) (YJ t=true):=by kernel_rfl
def ZCe:=Bx.mk (by have h := @Zuv; simp(maxSteps:=99999999) only[ZL.v, ZZ.v, ZN.v, Z3.v, Qb.v, UF.v, QH.v, ZR.v, Qc.v, ZD.v, Ql.v, Qz.v, Y9.v, QN.v, Zbf.v, ZeL.v, Zc2.v, Zz.v, YN.v, -eq_self] at h; exact h)
def ZeO (a:Prop) (b c d:Bool):=QK (ZdM a b c) d
def Zfy:=Bx.mk @ZeO.eq_1
theorem Zuw (i:In) (fr:Nat→Cp) (cB:Cp) (w:Nat) (a:Nat) (t:Nat) (zs:List UInt8) (f:Nat→Bool) (N:Nat) (m:Nat) (n:Nat):obs (evF Tryz.prog (Zs 3 (Zb (mvL 75 i fr cB w a 2 t zs f N m n [])) Zg) Zf 100 20 37 (mvA fr i) (Kr zs f N m n N n 9 353))=ZbE (Kt 0 0 0) (Vc t) (Yj (K6 (ZeO (Vq (QA (0+i.b.toNat*8+8) fr (0+i.b.toNat*8) i.b (0+i.a.toNat*8+8) (0+i.a.toNat*8) i.a (Y7 i.op))) (WD i.op) (XT i.op) (W1 i.op)) (Up i.op=true)) (W2 (ZM fr (0+i.b.toNat*8) (0+i.b.toNat*8+1) i.b.toNat=ZI cB.C cB.E cB.B cB.T cB.P cB.Y cB.R cB.V) (WO fr (0+i.b.toNat*8) i.m a) w ZeN Yo) (QZ N m n f n (fun l=>l.blt 68) 75 zs 75) n N) (YJ t=true):=by kernel_rfl
def ZCf:=Bx.mk (by have h := @Zuw; simp(maxSteps:=99999999) only[ZL.v, ZZ.v, ZN.v, Z3.v, Qb.v, UF.v, QH.v, ZR.v, Qc.v, ZD.v, Ql.v, Qz.v, Y9.v, QN.v, Zbf.v, ZeL.v, Zh7.v, Zc2.v, Zz.v, YN.v, Zfy.v, -eq_self] at h; exact h)
theorem Zyg (i:In) (fr:Nat→Cp) (cB:Cp) (w:Nat) (a:Nat) (t:Nat) (zs:List UInt8) (f:Nat→Bool) (N:Nat) (m:Nat) (n:Nat):obs (evF Tryz.prog (Zs 3 (Zb (mvL 76 i fr cB w a 18 t zs f N m n [])) Zg) Zf 100 20 37 (mvA fr i) (Kr zs f N m n N n 10 749))=ZbE (Kt 0 0 0) (Vc t) (Yj (K6 (K6 (Vq (QA (0+i.b.toNat*8+8) fr (0+i.b.toNat*8) i.b (0+i.a.toNat*8+8) (0+i.a.toNat*8) i.a (Y7 i.op))) (WD i.op=true)∧ZbD fr i.a.toNat=true) Zh) (W2 (ZM fr (0+i.b.toNat*8) (0+i.b.toNat*8+1) i.b.toNat=ZI cB.C cB.E cB.B cB.T cB.P cB.Y cB.R cB.V) (WO fr (0+i.b.toNat*8) i.m a) w (Zrx 18) Yo) (QZ N m n f n (fun l=>l.blt 68) 76 zs 76) n N) (YJ t=true):=by kernel_rfl
def ZEI:=Bx.mk (by have h := @Zyg; simp(maxSteps:=99999999) only[ZL.v, ZZ.v, ZN.v, Z3.v, Qb.v, UF.v, QH.v, ZR.v, Qc.v, ZD.v, Ql.v, Qz.v, Y9.v, QN.v, Zc2.v, Zz.v, YN.v, -eq_self] at h; exact h)
theorem Zyh (i:In) (fr:Nat→Cp) (cB:Cp) (w:Nat) (a:Nat) (t:Nat) (zs:List UInt8) (f:Nat→Bool) (N:Nat) (m:Nat) (n:Nat):obs (evF Tryz.prog (Zs 3 (Zb (mvL 75 i fr cB w a 2 t zs f N m n [])) Zg) Zf 100 20 37 (mvA fr i) (Kr zs f N m n N n 7 77))=ZbE (Kt 0 0 0) (Vc t) (Yj (QK (K6 (Vq (QA (0+i.b.toNat*8+8) fr (0+i.b.toNat*8) i.b (0+i.a.toNat*8+8) (0+i.a.toNat*8) i.a (Y7 i.op))) (WD i.op=true)) (ZbD fr i.a.toNat)) (W2 (ZM fr (0+i.b.toNat*8) (0+i.b.toNat*8+1) i.b.toNat=ZI cB.C cB.E cB.B cB.T cB.P cB.Y cB.R cB.V) (WO fr (0+i.b.toNat*8) i.m a) w ZeN Yo) (QZ N m n f n (fun l=>l.blt 68) 75 zs 75) n N) (YJ t=true):=by kernel_rfl
def ZEJ:=Bx.mk (by have h := @Zyh; simp(maxSteps:=99999999) only[ZL.v, ZZ.v, ZN.v, Z3.v, Qb.v, UF.v, QH.v, ZR.v, Qc.v, ZD.v, Ql.v, Qz.v, Y9.v, QN.v, Zc2.v, Zz.v, YN.v, -eq_self] at h; exact h)
theorem Zyi (i:In) (fr:Nat→Cp) (cB:Cp) (w:Nat) (a:Nat) (t:Nat) (zs:List UInt8) (f:Nat→Bool) (N:Nat) (m:Nat) (n:Nat) (v:Nat):obs (evF Tryz.prog (Zs 3 (Zb (mvL 74 i fr cB w a 1 t zs f N m n [(74,30,ZnZ [Qe,Qo a,Vc w] (ZbQ [Qo v,Vn]) zs f N m n,[64,65,66,67])])) Zg) Zf 100 20 37 (mvA fr i) (Kr zs f N m n N n 12 1))=Wg [Zhk (Kt ↑v 0 0),YQ] (Yj (ZiE (Yj (UI (Vq (QA (0+i.b.toNat*8+8) fr (0+i.b.toNat*8) i.b (0+i.a.toNat*8+8) (0+i.a.toNat*8) i.a (Y7 i.op))) (WD i.op) (XT i.op) (W1 i.op) (Up i.op)) (W2 (ZM fr (0+i.b.toNat*8) (0+i.b.toNat*8+1) i.b.toNat=ZI cB.C cB.E cB.B cB.T cB.P cB.Y cB.R cB.V) (WO fr (0+i.b.toNat*8) i.m a) w Zli Yo) (QZ N m n f n (fun l=>l.blt 68) 74 zs 74) n N) (YJ t) (WD i.op) (XT i.op) (W1 i.op) (Up i.op) (ZJ i.op 23)) (Wz Yo (WO fr (0+i.b.toNat*8) i.m a) (Zaj w)) (QZ N m n f n (fun l=>l.blt 68) 74 zs 74) n N):=by kernel_rfl
def ZEK:=Bx.mk (by have h := @Zyi; simp(maxSteps:=99999999) only[ZL.v, ZZ.v, ZN.v, Z3.v, Qb.v, UF.v, QH.v, ZR.v, Qc.v, ZD.v, Ql.v, QY.v, Qz.v, Y9.v, QN.v, Zbf.v, ZeL.v, Zh7.v, Zc2.v, Zz.v, -eq_self] at h; exact h)
theorem Zyj (i:In) (fr:Nat→Cp) (cB:Cp) (w:Nat) (a:Nat) (t:Nat) (zs:List UInt8) (f:Nat→Bool) (N:Nat) (m:Nat) (n:Nat) (cL:Cp):obs (evF Tryz.prog (Zs 3 (Zb (mvL 74 i fr cB w a 1 t zs f N m n [(74,48,ZnZ [Qe,Qo a] (ZbQ [cL.val,Vn]) zs f N m n,[64,65,66,67])])) Zg) Zf 100 20 37 (mvA fr i) (Kr zs f N m n N n 17 129025))=Zdj (ZI cL.C cL.E cL.B cL.T cL.P cL.Y cL.R (ZfJ u16 (ZjT fr (0+i.b.toNat*8+1+1+1+1)) (8:Int) !=ZS)) YQ ((((Yj (V1 (UI (Yj (UI (Vq (QA (0+i.b.toNat*8+8) fr (0+i.b.toNat*8) i.b (0+i.a.toNat*8+8) (0+i.a.toNat*8) i.a (Y7 i.op))) (WD i.op) (XT i.op) (W1 i.op) (Up i.op)) (W2 (ZM fr (0+i.b.toNat*8) (0+i.b.toNat*8+1) i.b.toNat=ZI cB.C cB.E cB.B cB.T cB.P cB.Y cB.R cB.V) (WO fr (0+i.b.toNat*8) i.m a) w Zli Yo) (QZ N m n f n (fun l=>l.blt 68) 74 zs 74) n N) (YJ t) (WD i.op) (XT i.op) (W1 i.op)) (Up i.op) (ZJ i.op 23=true)) (VP Yo (WO fr (0+i.b.toNat*8) i.m a)) (QZ N m n f n (fun l=>l.blt 68) 74 zs 74) n N∧cL.V=true)∧cL.V=true)∧cL.V=true)∧cL.V=true) (cL.V=true):=by kernel_rfl
def ZEL:=Bx.mk (by have h := @Zyj; simp(maxSteps:=99999999) only[ZL.v, ZZ.v, ZlY.v, ZN.v, Z3.v, Qb.v, UF.v, QH.v, ZR.v, Qc.v, ZD.v, Ql.v, Qz.v, Y9.v, QN.v, Zbf.v, ZeL.v, Zh7.v, Zc2.v, Zz.v, -eq_self] at h; exact h)
def Zdk (a:Prop) (b c:Bool):=Zn4 a b c c
def KU (a:Prop) (b:Bool):=Zdk a b b
def Uq:=Bx.mk (And.intro @Zdk.eq_1 @KU.eq_1)
theorem Zyk (i:In) (fr:Nat→Cp) (cB:Cp) (w:Nat) (a:Nat) (t:Nat) (zs:List UInt8) (f:Nat→Bool) (N:Nat) (m:Nat) (n:Nat) (cL:Cp):obs (evF Tryz.prog (Zs 3 (Zb (mvL 74 i fr cB w a 1 t zs f N m n [(74,48,ZnZ [Qe,Qo a] (ZbQ [cL.val,Vn]) zs f N m n,[64,65,66,67])])) Zg) Zf 100 20 37 (mvA fr i) (Kr zs f N m n N n 17 2049))=Wg [ZI cL.C cL.E cL.B cL.T cL.P cL.Y cL.R false,YQ] (QK (KU (Yj (V1 (UI (Yj (UI (Vq (QA (0+i.b.toNat*8+8) fr (0+i.b.toNat*8) i.b (0+i.a.toNat*8+8) (0+i.a.toNat*8) i.a (Y7 i.op))) (WD i.op) (XT i.op) (W1 i.op) (Up i.op)) (W2 (ZM fr (0+i.b.toNat*8) (0+i.b.toNat*8+1) i.b.toNat=ZI cB.C cB.E cB.B cB.T cB.P cB.Y cB.R cB.V) (WO fr (0+i.b.toNat*8) i.m a) w Zli Yo) (QZ N m n f n (fun l=>l.blt 68) 74 zs 74) n N) (YJ t) (WD i.op) (XT i.op) (W1 i.op)) (Up i.op) (ZJ i.op 23=true)) (VP Yo (WO fr (0+i.b.toNat*8) i.m a)) (QZ N m n f n (fun l=>l.blt 68) 74 zs 74) n N) cL.V) cL.V):=by kernel_rfl
def ZEM:=Bx.mk (by have h := @Zyk; simp(maxSteps:=99999999) only[ZL.v, ZZ.v, ZN.v, Z3.v, Qb.v, UF.v, QH.v, ZR.v, Qc.v, ZD.v, Ql.v, Qz.v, Y9.v, JI.v, QN.v, Zbf.v, ZeL.v, Zh7.v, Zc2.v, Zz.v, Uq.v, -eq_self] at h; exact h)
def JQ (a:Nat) (b:List UInt8):=UT a (u8s b)
def WQ (a:Nat→Cp) (b c d:Nat):=U0 (ZeM a b c) d
def U4 (a:List UInt8):=JQ 64 a
def Ku:=Bx.mk (And.intro @JQ.eq_1 (And.intro @WQ.eq_1 @U4.eq_1))
theorem Zux (i:In) (fr:Nat→Cp) (cB:Cp) (w:Nat) (a:Nat) (t:Nat) (zs:List UInt8) (f:Nat→Bool) (N:Nat) (m:Nat) (n:Nat) (v:Nat) (zs2:List UInt8) (f2:Nat→Bool):evF Tryz.prog (Zs 3 (Zb (mvL 75 i fr cB w a 2 t zs f N m n [(75,42,Zgd [Qe,Qo a,Vc w,Qo v] zs zs2 f f2 N m n,[64,65,66,67])])) Zg) Zf 100 20 37 (mvA fr i) (ZaJ (arW true zs f N m n) N n 11 1593)=XP (ZbQ [ZM fr (0+i.a.toNat*8) (0+i.a.toNat*8+1) i.a.toNat,YQ]) 75 [(67,ZaC N),(66,Zbw m n),(65,Kp 65 f2 n),(64,U4 zs2)] [(65,n),(64,N),(65,n),(64,N)] 11 (Yj ((ZdM (Yj (K6 (V1 (Vq (QA (0+i.b.toNat*8+8) fr (0+i.b.toNat*8) i.b (0+i.a.toNat*8+8) (0+i.a.toNat*8) i.a (Y7 i.op))) (WD i.op) (XT i.op=true)) (XT i.op=true)) (W2 (ZM fr (0+i.b.toNat*8) (0+i.b.toNat*8+1) i.b.toNat=ZI cB.C cB.E cB.B cB.T cB.P cB.Y cB.R cB.V) (WO fr (0+i.b.toNat*8) i.m a) w ZeN Yo) (QZ N m n f n (fun l=>l.blt 68) 75 zs 75) n N) (YJ t) (WD i.op)∧XT i.op=true)∧XT i.op=true) (JG Yo (WO fr (0+i.b.toNat*8) i.m a) (Zaj w) (WQ fr 0 (i.a.toNat*8) v)) (QZ N m n f n (fun l=>l.blt 68) 75 zs 75) n N):=by kernel_rfl
def ZCg:=Bx.mk (by have h := @Zux; simp(maxSteps:=99999999) only[ZL.v, ZZ.v, ZN.v, Z3.v, Qb.v, UF.v, QH.v, ZR.v, Qc.v, ZD.v, Qz.v, Y9.v, QN.v, Zbf.v, Zc2.v, Zz.v, YN.v, Ku.v, -eq_self] at h; exact h)
theorem Zuy (i:In) (fr:Nat→Cp) (cB:Cp) (w:Nat) (a:Nat) (t:Nat) (zs:List UInt8) (f:Nat→Bool) (N:Nat) (m:Nat) (n:Nat) (v:Nat) (zs2:List UInt8) (f2:Nat→Bool):evF Tryz.prog (Zs 3 (Zb (mvL 75 i fr cB w a 2 t zs f N m n [(75,42,Zgd [Qe,Qo a,Vc w,Qo v] zs zs2 f f2 N m n,[64,65,66,67])])) Zg) Zf 100 20 37 (mvA fr i) (ZaJ (arW true zs f N m n) N n 13 6257)=XP (ZbQ [ZM fr (0+i.a.toNat*8) (0+i.a.toNat*8+1) i.a.toNat,YQ]) 75 [(67,ZaC N),(66,Zbw m n),(65,Kp 65 f2 n),(64,U4 zs2)] [(65,n),(64,N),(65,n),(64,N)] 13 (Yj (V1 (ZdM (Yj (K6 (ZdM (Vq (QA (0+i.b.toNat*8+8) fr (0+i.b.toNat*8) i.b (0+i.a.toNat*8+8) (0+i.a.toNat*8) i.a (Y7 i.op))) (WD i.op) (XT i.op)∧W1 i.op=true) (W1 i.op=true)) (W2 (ZM fr (0+i.b.toNat*8) (0+i.b.toNat*8+1) i.b.toNat=ZI cB.C cB.E cB.B cB.T cB.P cB.Y cB.R cB.V) (WO fr (0+i.b.toNat*8) i.m a) w ZeN Yo) (QZ N m n f n (fun l=>l.blt 68) 75 zs 75) n N) (YJ t) (WD i.op)) (XT i.op) (W1 i.op=true)∧W1 i.op=true) (JG Yo (WO fr (0+i.b.toNat*8) i.m a) (Zaj w) (WQ fr 0 (i.a.toNat*8) v)) (QZ N m n f n (fun l=>l.blt 68) 75 zs 75) n N):=by kernel_rfl
def ZCh:=Bx.mk (by have h := @Zuy; simp(maxSteps:=99999999) only[ZL.v, ZZ.v, ZN.v, Z3.v, Qb.v, UF.v, QH.v, ZR.v, Qc.v, ZD.v, Qz.v, Y9.v, QN.v, Zbf.v, ZeL.v, Zc2.v, Zz.v, YN.v, Ku.v, -eq_self] at h; exact h)
theorem Zuz (i:In) (fr:Nat→Cp) (cB:Cp) (w:Nat) (a:Nat) (t:Nat) (zs:List UInt8) (f:Nat→Bool) (N:Nat) (m:Nat) (n:Nat) (v:Nat) (zs2:List UInt8) (f2:Nat→Bool):evF Tryz.prog (Zs 3 (Zb (mvL 75 i fr cB w a 2 t zs f N m n [(75,42,Zgd [Qe,Qo a,Vc w,Qo v] zs zs2 f f2 N m n,[64,65,66,67])])) Zg) Zf 100 20 37 (mvA fr i) (ZaJ (arW true zs f N m n) N n 13 4193)=XP (ZbQ [ZM fr (0+i.a.toNat*8) (0+i.a.toNat*8+1) i.a.toNat,YQ]) 75 [(67,ZaC N),(66,Zbw m n),(65,Kp 65 f2 n),(64,U4 zs2)] [(65,n),(64,N),(65,n),(64,N)] 13 (Yj (UI (Yj (K6 (ZeO (Vq (QA (0+i.b.toNat*8+8) fr (0+i.b.toNat*8) i.b (0+i.a.toNat*8+8) (0+i.a.toNat*8) i.a (Y7 i.op))) (WD i.op) (XT i.op) (W1 i.op)) (Up i.op=true)) (W2 (ZM fr (0+i.b.toNat*8) (0+i.b.toNat*8+1) i.b.toNat=ZI cB.C cB.E cB.B cB.T cB.P cB.Y cB.R cB.V) (WO fr (0+i.b.toNat*8) i.m a) w ZeN Yo) (QZ N m n f n (fun l=>l.blt 68) 75 zs 75) n N) (YJ t) (WD i.op) (XT i.op) (W1 i.op)∧Up i.op=true) (JG Yo (WO fr (0+i.b.toNat*8) i.m a) (Zaj w) (WQ fr 0 (i.a.toNat*8) v)) (QZ N m n f n (fun l=>l.blt 68) 75 zs 75) n N):=by kernel_rfl
def ZCi:=Bx.mk (by have h := @Zuz; simp(maxSteps:=99999999) only[ZL.v, ZZ.v, ZN.v, Z3.v, Qb.v, UF.v, QH.v, ZR.v, Qc.v, ZD.v, Qz.v, Y9.v, QN.v, Zbf.v, ZeL.v, Zh7.v, Zc2.v, Zz.v, YN.v, Zfy.v, Ku.v, -eq_self] at h; exact h)
theorem Zyl (i:In) (fr:Nat→Cp) (cB:Cp) (w:Nat) (a:Nat) (t:Nat) (zs:List UInt8) (f:Nat→Bool) (N:Nat) (m:Nat) (n:Nat) (cA:Cp) (zs2:List UInt8) (f2:Nat→Bool):evF Tryz.prog (Zs 3 (Zb (mvL 76 i fr cB w a 18 t zs f N m n [(76,44,Zgd [Qe,Qo a,cA.val] zs zs2 f f2 N m n,[64,65,66,67])])) Zg) Zf 100 20 37 (mvA fr i) (ZaJ (arW true zs f N m n) N n 11 1261)=XP (ZbQ [ZM fr (0+i.a.toNat*8) (0+i.a.toNat*8+1) i.a.toNat,YQ]) 76 [(67,ZaC N),(66,Zbw m n),(65,Kp 65 f2 n),(64,U4 zs2)] [(65,n),(64,N),(65,n),(64,N)] 11 (Yj (V1 (Yj (K6 (K6 (Vq (QA (0+i.b.toNat*8+8) fr (0+i.b.toNat*8) i.b (0+i.a.toNat*8+8) (0+i.a.toNat*8) i.a (Y7 i.op))) (WD i.op=true)∧ZbD fr i.a.toNat=true) Zh) (W2 (ZM fr (0+i.b.toNat*8) (0+i.b.toNat*8+1) i.b.toNat=ZI cB.C cB.E cB.B cB.T cB.P cB.Y cB.R cB.V) (WO fr (0+i.b.toNat*8) i.m a) w (Zrx 18) Yo) (QZ N m n f n (fun l=>l.blt 68) 76 zs 76) n N) (YJ t) (WD i.op=true)) (Wz Yo (WO fr (0+i.b.toNat*8) i.m a) (ZM fr (0+i.a.toNat*8) (0+i.a.toNat*8+1) i.a.toNat=ZI cA.C cA.E cA.B cA.T cA.P cA.Y cA.R cA.V)) (QZ N m n f n (fun l=>l.blt 68) 76 zs 76) n N):=by kernel_rfl
def ZEN:=Bx.mk (by have h := @Zyl; simp(maxSteps:=99999999) only[ZL.v, ZZ.v, ZN.v, Z3.v, Qb.v, UF.v, QH.v, ZR.v, Qc.v, ZD.v, Qz.v, Y9.v, QN.v, Zc2.v, Zz.v, YN.v, Ku.v, -eq_self] at h; exact h)
theorem Zym (i:In) (fr:Nat→Cp) (cB:Cp) (w:Nat) (a:Nat) (t:Nat) (zs:List UInt8) (f:Nat→Bool) (N:Nat) (m:Nat) (n:Nat) (cA:Cp) (zs2:List UInt8) (f2:Nat→Bool):evF Tryz.prog (Zs 3 (Zb (mvL 75 i fr cB w a 2 t zs f N m n [(75,44,Zgd [Qe,Qo a,cA.val] zs zs2 f f2 N m n,[64,65,66,67])])) Zg) Zf 100 20 37 (mvA fr i) (ZaJ (arW true zs f N m n) N n 8 141)=XP (ZbQ [ZM fr (0+i.a.toNat*8) (0+i.a.toNat*8+1) i.a.toNat,YQ]) 75 [(67,ZaC N),(66,Zbw m n),(65,Kp 65 f2 n),(64,U4 zs2)] [(65,n),(64,N),(65,n),(64,N)] 8 (Yj (V1 (Yj (QK (K6 (Vq (QA (0+i.b.toNat*8+8) fr (0+i.b.toNat*8) i.b (0+i.a.toNat*8+8) (0+i.a.toNat*8) i.a (Y7 i.op))) (WD i.op=true)) (ZbD fr i.a.toNat)) (W2 (ZM fr (0+i.b.toNat*8) (0+i.b.toNat*8+1) i.b.toNat=ZI cB.C cB.E cB.B cB.T cB.P cB.Y cB.R cB.V) (WO fr (0+i.b.toNat*8) i.m a) w ZeN Yo) (QZ N m n f n (fun l=>l.blt 68) 75 zs 75) n N) (YJ t) (WD i.op=true)) (Wz Yo (WO fr (0+i.b.toNat*8) i.m a) (ZM fr (0+i.a.toNat*8) (0+i.a.toNat*8+1) i.a.toNat=ZI cA.C cA.E cA.B cA.T cA.P cA.Y cA.R cA.V)) (QZ N m n f n (fun l=>l.blt 68) 75 zs 75) n N):=by kernel_rfl
def ZEO:=Bx.mk (by have h := @Zym; simp(maxSteps:=99999999) only[ZL.v, ZZ.v, ZN.v, Z3.v, Qb.v, UF.v, QH.v, ZR.v, Qc.v, ZD.v, Qz.v, Y9.v, QN.v, Zc2.v, Zz.v, YN.v, Ku.v, -eq_self] at h; exact h)
theorem Zbh (fr:Nat→Cp) (b j k:Nat) (hb:b<17) (hj:j<8) (hk:k=8*b+j):ZC undef (frL fr) k=ZC undef (fr b).cs j:=by rw[hk,Zmq fr b j hb hj]
theorem Q8 (fr:Nat→Cp) (b:Nat) (hb:b<17):Yi (ZC undef (frL fr) (0+b*8))=((fr b).C:Nat):=by rw[Zbh fr b 0 _ hb (by omega) (by omega)]; rfl
theorem Q9 (fr:Nat→Cp) (b:Nat) (hb:b<17):Yi (ZC undef (frL fr) (0+b*8+1))=((fr b).E:Nat):=by rw[Zbh fr b 1 _ hb (by omega) (by omega)]; rfl
theorem Ya (fr:Nat→Cp) (b:Nat) (hb:b<17):Yi (ZC undef (frL fr) (0+b*8+1+1))=((fr b).B:Nat):=by rw[Zbh fr b 2 _ hb (by omega) (by omega)]; rfl
theorem Yb (fr:Nat→Cp) (b:Nat) (hb:b<17):Yi (ZC undef (frL fr) (0+b*8+1+1+1))=((fr b).T:Nat):=by rw[Zbh fr b 3 _ hb (by omega) (by omega)]; rfl
theorem Q6 (fr:Nat→Cp) (b:Nat) (hb:b<17):Yi (ZC undef (frL fr) (0+b*8+1+1+1+1))=((fr b).P:Nat):=by rw[Zbh fr b 4 _ hb (by omega) (by omega)]; rfl
theorem Yc (fr:Nat→Cp) (b:Nat) (hb:b<17):Yi (ZC undef (frL fr) (0+b*8+1+1+1+1+1))=((fr b).Y:Nat):=by rw[Zbh fr b 5 _ hb (by omega) (by omega)]; rfl
theorem Yd (fr:Nat→Cp) (b:Nat) (hb:b<17):Yi (ZC undef (frL fr) (0+b*8+1+1+1+1+1+1))=((fr b).R:Nat):=by rw[Zbh fr b 6 _ hb (by omega) (by omega)]; rfl
theorem Ye (fr:Nat→Cp) (b:Nat) (hb:b<17):VM (ZC undef (frL fr) (0+b*8+1+1+1+1+1+1+1))=(fr b).V:=by rw[Zbh fr b 7 _ hb (by omega) (by omega)]; rfl
theorem Zq (fr:Nat→Cp) (b:Nat) (hb:b<17):WH (0+b*8+8) (frL fr)=true:=Zbe _ _ (by rw[Zex,Zft]; omega)
theorem Qg (fr:Nat→Cp) (b:Nat) (hb:b<17):WH (0+b*8+1) (frL fr)=true:=Zbe _ _ (by rw[Zex,Zft]; omega)
theorem Zr (fr:Nat→Cp) (b:Nat) (hb:b<17):ZF [Value.int u32 (0:Int),Value.int u8 (0:Int),Value.int u16 (0:Int),Value.int u16 (0:Int),Value.int u16 (0:Int),Value.int u16 (0:Int),Value.int u32 (0:Int),Value.bool false] (frL fr) (0+b*8)=true:=by
 unfold ZF ZF ZF ZF ZF ZF ZF ZF ZF
 rw[Zbh fr b 0 _ hb (by omega) (by omega),Zbh fr b 1 _ hb (by omega) (by omega),Zbh fr b 2 _ hb (by omega) (by omega),Zbh fr b 3 _ hb (by omega) (by omega),Zbh fr b 4 _ hb (by omega) (by omega),Zbh fr b 5 _ hb (by omega) (by omega),Zbh fr b 6 _ hb (by omega) (by omega),Zbh fr b 7 _ hb (by omega) (by omega)]
 rfl
theorem ZU (fr:Nat→Cp) (b:Nat) (hb:b<17):ZF [Value.int u32 (0:Int)] (frL fr) (0+b*8)=true:=by
 unfold ZF ZF
 rw[Zbh fr b 0 _ hb (by omega) (by omega)]
 rfl
abbrev inS (op:Int) (a b c:Nat) (m:Int):In:=⟨op,a,b,c,m⟩
def atS (fr:Nat→Cp) (b:Nat) (m:Int):Nat:=((((fr b).C:Int)+m)%4294967296).toNat
theorem U5 (fr:Nat→Cp) (b:Nat) (m:Int):atS fr b m<4294967296:=by unfold atS; omega
theorem Kv (fr:Nat→Cp) (b:Nat) (m:Int):u32.wrap (((fr b).C:Int)+u32.wrap m)=((atS fr b m:Nat):Int):=by
 unfold atS
 simp only[IntKind.wrap_u32]
 omega
def Kw (fr:Nat→Cp) (op:Int) (a:Nat):Nat:=if op=24 then(if(fr a).V=true then 18 else 2) else if op=20∨op=21∨op=22 then 2 else 1
def XU (fr:Nat→Cp) (op:Int) (a b:Nat) (m:Int) (N:Nat):Nat:=ZhU (fr b) (atS fr b m) (WK op) (Kw fr op a) N
def VF (fr:Nat→Cp) (i:In) (c:Cp) (t:Nat) (zs:List UInt8) (f:Nat→Bool) (N m n:Nat):Con:=ZnZ (mvA fr i) (.tuple ⟨[c.val,.int .i64 (t:Nat)]⟩) zs f N m n
def ZjW (args:List Value) (v:Value) (zs zs':List UInt8) (f f':Nat→Bool) (N m n:Nat):Con:=⟨args,68,arW true zs f N m n,arO N n,v,68,arW true zs' f' N m n,arO N n⟩
theorem ZhD {call:Qs} (hc:Zv Tryz.prog call) {fn:FuncId} {args:List Value} {v:Value} {zs zs':List UInt8} {f f':Nat→Bool} {N m n:Nat} {T:List (Nat×Bool)} {s':Sy.St} (ha:args.all (okV (fun l=>Nat.blt l 68) 3)=true) (hv:X1 v=true) (hu:isU v=false) (h:call fn args ⟨68,arW true zs f N m n,arO N n,0,T,0,True⟩=some (v,s')) (hO:s'.O)
  (h1:WS 3 (fun l=>Nat.blt l 68) id s'.h (arW true zs' f' N m n)) (h2:ZaA (fun l=>Nat.blt l 68) id s'.lo (arO N n)):ConOk Tryz.prog fn 3 (ZjW args v zs zs' f f' N m n)∧FlatC (ZjW args v zs zs' f f' N m n):=by
 refine⟨Qi hc ⟨by show 64≤68; omega,Nat.le_refl _,W0 Zfe true zs f N m n,rfl,rfl,rfl,ha,Ys hv 1,Zmx true _ _ N m n⟩ h hO (p:=fun l=>Nat.blt l 68) (σ:=id) ?_,⟨UZ _ _ _ _ _ _⟩⟩
 exact⟨fun _ _=>rfl,h1,rfl,h2,⟨Ys hv 1,by rw[Uh]; rfl⟩,hu,W0 Zjy true _ _ N m n,rfl,XA _ hv,fun x _ _ => .inl rfl⟩
theorem Xw {x k:Int} (h:¬ x=k):(x==k)=false:=beq_eq_false_iff_ne.2 h
theorem Xp (fr:Nat→Cp) (i:In):(mvA fr i).all (okV (fun l=>Nat.blt l 68) 3)=true:=rfl
theorem U6 {nw:Nat} {i:In} {fr:Nat→Cp} {cB:Cp} {w a need t:Nat} {zs:List UInt8} {f:Nat→Bool} {N m n:Nat} {L:Sy.Steps} (h1:w=WK i.op) (h2:t=ZhU cB a w need N) (h:ArOk zs N m n) (hc:cB.Ok) (hn:need<65536) (ha:a<4294967296) (hw:0<w) (hw2:w≤16) (hL:∀ x∈L,ConOk Tryz.prog x.2.1 3 x.2.2.1∧FlatC x.2.2.1) :
  ∀ x∈mvL nw i fr cB w a need t zs f N m n L,ConOk Tryz.prog x.2.1 3 x.2.2.1∧FlatC x.2.2.1:=fun x hx=>by
 unfold mvL at hx
 rcases List.mem_cons.1 hx with rfl|hx
 ·rw[h1]; exact⟨ZrM i.op,⟨fun x hx=>by cases hx⟩⟩
 ·rcases List.mem_cons.1 hx with rfl|hx
  ·rw[h2]; exact Zyc cB a w need zs f N m n h hc hn ha hw hw2
  ·exact hL x hx
theorem Zbi (op:Int):WK op≤16:=by
 unfold WK
 repeat' split
 all_goals omega
theorem Zll (fr:Nat→Cp) (op:Int) (a b c:Nat) (m:Int) (zs:List UInt8) (f:Nat→Bool) (N g n:Nat) (h:ArOk zs N g n) (hfr:Wc fr) (ha0:a<16) (hb0:b<16) (k24:¬ op=24) (k20:¬ op=20) (k21:¬ op=21) (k22:¬ op=22) (hw:0<WK op) (ht:XU fr op a b m N≠0):ConOk Tryz.prog 37 3 (VF fr (inS op a b c m) V0 (XU fr op a b m N) zs f N g n)∧FlatC (VF fr (inS op a b c m) V0 (XU fr op a b m N) zs f N g n):=by
 have ha:a<17:=by omega
 have hb:b<17:=by omega
 have z0:decide ((0:Int)≤(b:Int))=true:=decide_eq_true (by omega)
 have z1:decide ((b:Int)<16)=true:=decide_eq_true (by omega)
 have z2:decide ((0:Int)≤(a:Int))=true:=decide_eq_true (by omega)
 have z3:decide ((a:Int)<16)=true:=decide_eq_true (by omega)
 have v1:∀ (f:Nat→Bool) (σ:Nat→Nat),(v64 (Za f n)).map (rnV σ 3)=v64 (Za f n):=fun f σ=>Zk (Zm _)
 have v2:∀ (f:Nat→Bool) (p:Nat→Bool),(v64 (Za f n)).all (okV p 3)=true:=fun f p=>Zj (Zm _)
 have u1:∀ (zs:List UInt8) (p:Nat→Bool),(u8s zs).all (okV p 3)=true:=fun zs p=>Zj (Zl _)
 have u2:∀ (zs:List UInt8) (σ:Nat→Nat),(u8s zs).map (rnV σ 3)=u8s zs:=fun zs σ=>Zk (Zl _)
 have hneed:Kw fr op a=1:=by unfold Kw; simp only[k24,k20,k21,k22,or_self,if_false]
 have hmt:XU fr op a b m N=ZhU (fr b) (atS fr b m) (WK op) 1 N:=by unfold XU; rw[hneed]
 have hr:=ZEH.v (inS op a b c m) fr (fr b) (WK op) (atS fr b m) (XU fr op a b m N) zs f N g n
 have ht':((XU fr op a b m N:Nat):Int)≠0:=by omega
 refine WJ (Zn (L:=100) Ze (Zo (Zi (U6 (i:=inS op a b c m) rfl hmt h (hfr b) (by omega) (U5 _ _ _) hw (Zbi _) (fun x hx=>by cases hx))) (Zc _)) (Zd _) 20) (Xp _ _) rfl rfl hr ?_
 simp only[inS,Q8 fr b hb,Q9 fr b hb,Ya fr b hb,Yb fr b hb,Q6 fr b hb,Yc fr b hb,Yd fr b hb,Ye fr b hb,Zq fr b hb,Zr fr b hb,Q8 fr a ha,Q9 fr a ha,Ya fr a ha,Yb fr a ha,Q6 fr a ha,Yc fr a ha,Yd fr a ha,Ye fr a ha,Zq fr a ha,Zr fr a ha,Kv,z0,z1,z2,z3,v1,v2,u1,u2,Int.toNat_natCast,Bool.and_self,cond_true,and_true,true_and,and_self,Nat.le_refl,decide_true,Xw k24,Xw k20,Xw k21,Xw k22,bne_iff_ne.2 ht']
theorem ZwM (fr:Nat→Cp) (a b c:Nat) (m:Int) (zs:List UInt8) (f:Nat→Bool) (N g n:Nat) (h:ArOk zs N g n) (hfr:Wc fr) (ha0:a<16) (hb0:b<16) (ht:XU fr 20 a b m N≠0):ConOk Tryz.prog 37 3 (VF fr (inS 20 a b c m) V0 (XU fr 20 a b m N) zs f N g n)∧FlatC (VF fr (inS 20 a b c m) V0 (XU fr 20 a b m N) zs f N g n):=by
 have ha:a<17:=by omega
 have hb:b<17:=by omega
 have z0:decide ((0:Int)≤(b:Int))=true:=decide_eq_true (by omega)
 have z1:decide ((b:Int)<16)=true:=decide_eq_true (by omega)
 have z2:decide ((0:Int)≤(a:Int))=true:=decide_eq_true (by omega)
 have z3:decide ((a:Int)<16)=true:=decide_eq_true (by omega)
 have v1:∀ (f:Nat→Bool) (σ:Nat→Nat),(v64 (Za f n)).map (rnV σ 3)=v64 (Za f n):=fun f σ=>Zk (Zm _)
 have v2:∀ (f:Nat→Bool) (p:Nat→Bool),(v64 (Za f n)).all (okV p 3)=true:=fun f p=>Zj (Zm _)
 have u1:∀ (zs:List UInt8) (p:Nat→Bool),(u8s zs).all (okV p 3)=true:=fun zs p=>Zj (Zl _)
 have u2:∀ (zs:List UInt8) (σ:Nat→Nat),(u8s zs).map (rnV σ 3)=u8s zs:=fun zs σ=>Zk (Zl _)
 have hneed:Kw fr 20 a=2:=by unfold Kw; simp
 have hmt:XU fr 20 a b m N=ZhU (fr b) (atS fr b m) (WK 20) 2 N:=by unfold XU; rw[hneed]
 have hr:=ZCd.v (inS 20 a b c m) fr (fr b) (WK 20) (atS fr b m) (XU fr 20 a b m N) zs f N g n
 have ht':((XU fr 20 a b m N:Nat):Int)≠0:=by omega
 refine WJ (Zn (L:=100) Ze (Zo (Zi (U6 (i:=inS 20 a b c m) rfl hmt h (hfr b) (by omega) (U5 _ _ _) (show 0<WK 20 by decide) (Zbi _) (fun x hx=>by cases hx))) (Zc _)) (Zd _) 20) (Xp _ _) rfl rfl hr ?_
 have e1:∀ x y:Int,x≠y→(x==y)=false:=fun x y h=>beq_eq_false_iff_ne.2 h
 simp(disch:=decide) only[inS,Q8 fr b hb,Q9 fr b hb,Ya fr b hb,Yb fr b hb,Q6 fr b hb,Yc fr b hb,Yd fr b hb,Ye fr b hb,Zq fr b hb,Zr fr b hb,Q8 fr a ha,Q9 fr a ha,Ya fr a ha,Yb fr a ha,Q6 fr a ha,Yc fr a ha,Yd fr a ha,Ye fr a ha,Zq fr a ha,Zr fr a ha,Kv,z0,z1,z2,z3,v1,v2,u1,u2,Int.toNat_natCast,Bool.and_self,cond_true,and_true,true_and,and_self,Nat.le_refl,decide_true,e1,beq_self_eq_true,bne_iff_ne.2 ht']
theorem ZwN (fr:Nat→Cp) (a b c:Nat) (m:Int) (zs:List UInt8) (f:Nat→Bool) (N g n:Nat) (h:ArOk zs N g n) (hfr:Wc fr) (ha0:a<16) (hb0:b<16) (ht:XU fr 21 a b m N≠0):ConOk Tryz.prog 37 3 (VF fr (inS 21 a b c m) V0 (XU fr 21 a b m N) zs f N g n)∧FlatC (VF fr (inS 21 a b c m) V0 (XU fr 21 a b m N) zs f N g n):=by
 have ha:a<17:=by omega
 have hb:b<17:=by omega
 have z0:decide ((0:Int)≤(b:Int))=true:=decide_eq_true (by omega)
 have z1:decide ((b:Int)<16)=true:=decide_eq_true (by omega)
 have z2:decide ((0:Int)≤(a:Int))=true:=decide_eq_true (by omega)
 have z3:decide ((a:Int)<16)=true:=decide_eq_true (by omega)
 have v1:∀ (f:Nat→Bool) (σ:Nat→Nat),(v64 (Za f n)).map (rnV σ 3)=v64 (Za f n):=fun f σ=>Zk (Zm _)
 have v2:∀ (f:Nat→Bool) (p:Nat→Bool),(v64 (Za f n)).all (okV p 3)=true:=fun f p=>Zj (Zm _)
 have u1:∀ (zs:List UInt8) (p:Nat→Bool),(u8s zs).all (okV p 3)=true:=fun zs p=>Zj (Zl _)
 have u2:∀ (zs:List UInt8) (σ:Nat→Nat),(u8s zs).map (rnV σ 3)=u8s zs:=fun zs σ=>Zk (Zl _)
 have hneed:Kw fr 21 a=2:=by unfold Kw; simp
 have hmt:XU fr 21 a b m N=ZhU (fr b) (atS fr b m) (WK 21) 2 N:=by unfold XU; rw[hneed]
 have hr:=ZCe.v (inS 21 a b c m) fr (fr b) (WK 21) (atS fr b m) (XU fr 21 a b m N) zs f N g n
 have ht':((XU fr 21 a b m N:Nat):Int)≠0:=by omega
 refine WJ (Zn (L:=100) Ze (Zo (Zi (U6 (i:=inS 21 a b c m) rfl hmt h (hfr b) (by omega) (U5 _ _ _) (show 0<WK 21 by decide) (Zbi _) (fun x hx=>by cases hx))) (Zc _)) (Zd _) 20) (Xp _ _) rfl rfl hr ?_
 have e1:∀ x y:Int,x≠y→(x==y)=false:=fun x y h=>beq_eq_false_iff_ne.2 h
 simp(disch:=decide) only[inS,Q8 fr b hb,Q9 fr b hb,Ya fr b hb,Yb fr b hb,Q6 fr b hb,Yc fr b hb,Yd fr b hb,Ye fr b hb,Zq fr b hb,Zr fr b hb,Q8 fr a ha,Q9 fr a ha,Ya fr a ha,Yb fr a ha,Q6 fr a ha,Yc fr a ha,Yd fr a ha,Ye fr a ha,Zq fr a ha,Zr fr a ha,Kv,z0,z1,z2,z3,v1,v2,u1,u2,Int.toNat_natCast,Bool.and_self,cond_true,and_true,true_and,and_self,Nat.le_refl,decide_true,e1,beq_self_eq_true,bne_iff_ne.2 ht']
theorem ZwO (fr:Nat→Cp) (a b c:Nat) (m:Int) (zs:List UInt8) (f:Nat→Bool) (N g n:Nat) (h:ArOk zs N g n) (hfr:Wc fr) (ha0:a<16) (hb0:b<16) (ht:XU fr 22 a b m N≠0):ConOk Tryz.prog 37 3 (VF fr (inS 22 a b c m) V0 (XU fr 22 a b m N) zs f N g n)∧FlatC (VF fr (inS 22 a b c m) V0 (XU fr 22 a b m N) zs f N g n):=by
 have ha:a<17:=by omega
 have hb:b<17:=by omega
 have z0:decide ((0:Int)≤(b:Int))=true:=decide_eq_true (by omega)
 have z1:decide ((b:Int)<16)=true:=decide_eq_true (by omega)
 have z2:decide ((0:Int)≤(a:Int))=true:=decide_eq_true (by omega)
 have z3:decide ((a:Int)<16)=true:=decide_eq_true (by omega)
 have v1:∀ (f:Nat→Bool) (σ:Nat→Nat),(v64 (Za f n)).map (rnV σ 3)=v64 (Za f n):=fun f σ=>Zk (Zm _)
 have v2:∀ (f:Nat→Bool) (p:Nat→Bool),(v64 (Za f n)).all (okV p 3)=true:=fun f p=>Zj (Zm _)
 have u1:∀ (zs:List UInt8) (p:Nat→Bool),(u8s zs).all (okV p 3)=true:=fun zs p=>Zj (Zl _)
 have u2:∀ (zs:List UInt8) (σ:Nat→Nat),(u8s zs).map (rnV σ 3)=u8s zs:=fun zs σ=>Zk (Zl _)
 have hneed:Kw fr 22 a=2:=by unfold Kw; simp
 have hmt:XU fr 22 a b m N=ZhU (fr b) (atS fr b m) (WK 22) 2 N:=by unfold XU; rw[hneed]
 have hr:=ZCf.v (inS 22 a b c m) fr (fr b) (WK 22) (atS fr b m) (XU fr 22 a b m N) zs f N g n
 have ht':((XU fr 22 a b m N:Nat):Int)≠0:=by omega
 refine WJ (Zn (L:=100) Ze (Zo (Zi (U6 (i:=inS 22 a b c m) rfl hmt h (hfr b) (by omega) (U5 _ _ _) (show 0<WK 22 by decide) (Zbi _) (fun x hx=>by cases hx))) (Zc _)) (Zd _) 20) (Xp _ _) rfl rfl hr ?_
 have e1:∀ x y:Int,x≠y→(x==y)=false:=fun x y h=>beq_eq_false_iff_ne.2 h
 simp(disch:=decide) only[inS,Q8 fr b hb,Q9 fr b hb,Ya fr b hb,Yb fr b hb,Q6 fr b hb,Yc fr b hb,Yd fr b hb,Ye fr b hb,Zq fr b hb,Zr fr b hb,Q8 fr a ha,Q9 fr a ha,Ya fr a ha,Yb fr a ha,Q6 fr a ha,Yc fr a ha,Yd fr a ha,Ye fr a ha,Zq fr a ha,Zr fr a ha,Kv,z0,z1,z2,z3,v1,v2,u1,u2,Int.toNat_natCast,Bool.and_self,cond_true,and_true,true_and,and_self,Nat.le_refl,decide_true,e1,beq_self_eq_true,bne_iff_ne.2 ht']
theorem ZCj (fr:Nat→Cp) (a b c:Nat) (m:Int) (zs:List UInt8) (f:Nat→Bool) (N g n:Nat) (h:ArOk zs N g n) (hfr:Wc fr) (ha0:a<16) (hb0:b<16) (kV:(fr a).V=true) (ht:XU fr 24 a b m N≠0):ConOk Tryz.prog 37 3 (VF fr (inS 24 a b c m) V0 (XU fr 24 a b m N) zs f N g n)∧FlatC (VF fr (inS 24 a b c m) V0 (XU fr 24 a b m N) zs f N g n):=by
 have ha:a<17:=by omega
 have hb:b<17:=by omega
 have z0:decide ((0:Int)≤(b:Int))=true:=decide_eq_true (by omega)
 have z1:decide ((b:Int)<16)=true:=decide_eq_true (by omega)
 have z2:decide ((0:Int)≤(a:Int))=true:=decide_eq_true (by omega)
 have z3:decide ((a:Int)<16)=true:=decide_eq_true (by omega)
 have v1:∀ (f:Nat→Bool) (σ:Nat→Nat),(v64 (Za f n)).map (rnV σ 3)=v64 (Za f n):=fun f σ=>Zk (Zm _)
 have v2:∀ (f:Nat→Bool) (p:Nat→Bool),(v64 (Za f n)).all (okV p 3)=true:=fun f p=>Zj (Zm _)
 have u1:∀ (zs:List UInt8) (p:Nat→Bool),(u8s zs).all (okV p 3)=true:=fun zs p=>Zj (Zl _)
 have u2:∀ (zs:List UInt8) (σ:Nat→Nat),(u8s zs).map (rnV σ 3)=u8s zs:=fun zs σ=>Zk (Zl _)
 have hneed:Kw fr 24 a=18:=by unfold Kw; simp only[kV,if_true,if_false,Bool.false_eq_true,reduceIte]
 have hmt:XU fr 24 a b m N=ZhU (fr b) (atS fr b m) (WK 24) 18 N:=by unfold XU; rw[hneed]
 have hr:=ZEI.v (inS 24 a b c m) fr (fr b) (WK 24) (atS fr b m) (XU fr 24 a b m N) zs f N g n
 have ht':((XU fr 24 a b m N:Nat):Int)≠0:=by omega
 refine WJ (Zn (L:=100) Ze (Zo (Zi (U6 (i:=inS 24 a b c m) rfl hmt h (hfr b) (by omega) (U5 _ _ _) (show 0<WK 24 by decide) (Zbi _) (fun x hx=>by cases hx))) (Zc _)) (Zd _) 20) (Xp _ _) rfl rfl hr ?_
 have e1:∀ x y:Int,x≠y→(x==y)=false:=fun x y h=>beq_eq_false_iff_ne.2 h
 simp(disch:=decide) only[inS,Q8 fr b hb,Q9 fr b hb,Ya fr b hb,Yb fr b hb,Q6 fr b hb,Yc fr b hb,Yd fr b hb,Ye fr b hb,Zq fr b hb,Zr fr b hb,Q8 fr a ha,Q9 fr a ha,Ya fr a ha,Yb fr a ha,Q6 fr a ha,Yc fr a ha,Yd fr a ha,Ye fr a ha,Zq fr a ha,Zr fr a ha,Kv,z0,z1,z2,z3,v1,v2,u1,u2,Int.toNat_natCast,Bool.and_self,cond_true,and_true,true_and,and_self,Nat.le_refl,decide_true,e1,beq_self_eq_true,bne_iff_ne.2 ht',kV]
theorem ZCk (fr:Nat→Cp) (a b c:Nat) (m:Int) (zs:List UInt8) (f:Nat→Bool) (N g n:Nat) (h:ArOk zs N g n) (hfr:Wc fr) (ha0:a<16) (hb0:b<16) (kV:(fr a).V=false) (ht:XU fr 24 a b m N≠0):ConOk Tryz.prog 37 3 (VF fr (inS 24 a b c m) V0 (XU fr 24 a b m N) zs f N g n)∧FlatC (VF fr (inS 24 a b c m) V0 (XU fr 24 a b m N) zs f N g n):=by
 have ha:a<17:=by omega
 have hb:b<17:=by omega
 have z0:decide ((0:Int)≤(b:Int))=true:=decide_eq_true (by omega)
 have z1:decide ((b:Int)<16)=true:=decide_eq_true (by omega)
 have z2:decide ((0:Int)≤(a:Int))=true:=decide_eq_true (by omega)
 have z3:decide ((a:Int)<16)=true:=decide_eq_true (by omega)
 have v1:∀ (f:Nat→Bool) (σ:Nat→Nat),(v64 (Za f n)).map (rnV σ 3)=v64 (Za f n):=fun f σ=>Zk (Zm _)
 have v2:∀ (f:Nat→Bool) (p:Nat→Bool),(v64 (Za f n)).all (okV p 3)=true:=fun f p=>Zj (Zm _)
 have u1:∀ (zs:List UInt8) (p:Nat→Bool),(u8s zs).all (okV p 3)=true:=fun zs p=>Zj (Zl _)
 have u2:∀ (zs:List UInt8) (σ:Nat→Nat),(u8s zs).map (rnV σ 3)=u8s zs:=fun zs σ=>Zk (Zl _)
 have hneed:Kw fr 24 a=2:=by unfold Kw; simp only[kV,if_true,if_false,Bool.false_eq_true,reduceIte]
 have hmt:XU fr 24 a b m N=ZhU (fr b) (atS fr b m) (WK 24) 2 N:=by unfold XU; rw[hneed]
 have hr:=ZEJ.v (inS 24 a b c m) fr (fr b) (WK 24) (atS fr b m) (XU fr 24 a b m N) zs f N g n
 have ht':((XU fr 24 a b m N:Nat):Int)≠0:=by omega
 refine WJ (Zn (L:=100) Ze (Zo (Zi (U6 (i:=inS 24 a b c m) rfl hmt h (hfr b) (by omega) (U5 _ _ _) (show 0<WK 24 by decide) (Zbi _) (fun x hx=>by cases hx))) (Zc _)) (Zd _) 20) (Xp _ _) rfl rfl hr ?_
 have e1:∀ x y:Int,x≠y→(x==y)=false:=fun x y h=>beq_eq_false_iff_ne.2 h
 simp(disch:=decide) only[inS,Q8 fr b hb,Q9 fr b hb,Ya fr b hb,Yb fr b hb,Q6 fr b hb,Yc fr b hb,Yd fr b hb,Ye fr b hb,Zq fr b hb,Zr fr b hb,Q8 fr a ha,Q9 fr a ha,Ya fr a ha,Yb fr a ha,Q6 fr a ha,Yc fr a ha,Yd fr a ha,Ye fr a ha,Zq fr a ha,Zr fr a ha,Kv,z0,z1,z2,z3,v1,v2,u1,u2,Int.toNat_natCast,Bool.and_self,cond_true,and_true,true_and,and_self,Nat.le_refl,decide_true,e1,beq_self_eq_true,bne_iff_ne.2 ht',kV]
theorem Zpg (fr:Nat→Cp) (op:Int) (a b c:Nat) (m:Int) (zs:List UInt8) (f:Nat→Bool) (N g n:Nat) (h:ArOk zs N g n) (hfr:Wc fr) (ha0:a<16) (hb0:b<16) (k24:¬ op=24) (k20:¬ op=20) (k21:¬ op=21) (k22:¬ op=22) (hw:0<WK op) (k23:¬ op=23) (hw2:WK op=1∨WK op=2∨WK op=4) (ht:XU fr op a b m N=0):ConOk Tryz.prog 37 3 (VF fr (inS op a b c m) (Zff (ZA1 (WK op) zs (atS fr b m))) 0 zs f N g n)∧FlatC (VF fr (inS op a b c m) (Zff (ZA1 (WK op) zs (atS fr b m))) 0 zs f N g n):=by
 have ha:a<17:=by omega
 have hb:b<17:=by omega
 have z0:decide ((0:Int)≤(b:Int))=true:=decide_eq_true (by omega)
 have z1:decide ((b:Int)<16)=true:=decide_eq_true (by omega)
 have z2:decide ((0:Int)≤(a:Int))=true:=decide_eq_true (by omega)
 have z3:decide ((a:Int)<16)=true:=decide_eq_true (by omega)
 have v1:∀ (f:Nat→Bool) (σ:Nat→Nat),(v64 (Za f n)).map (rnV σ 3)=v64 (Za f n):=fun f σ=>Zk (Zm _)
 have v2:∀ (f:Nat→Bool) (p:Nat→Bool),(v64 (Za f n)).all (okV p 3)=true:=fun f p=>Zj (Zm _)
 have u1:∀ (zs:List UInt8) (p:Nat→Bool),(u8s zs).all (okV p 3)=true:=fun zs p=>Zj (Zl _)
 have u2:∀ (zs:List UInt8) (σ:Nat→Nat),(u8s zs).map (rnV σ 3)=u8s zs:=fun zs σ=>Zk (Zl _)
 have hneed:Kw fr op a=1:=by unfold Kw; simp only[k24,k20,k21,k22,or_self,if_false]
 have hmt:XU fr op a b m N=ZhU (fr b) (atS fr b m) (WK op) 1 N:=by unfold XU; rw[hneed]
 have hr:=ZEK.v (inS op a b c m) fr (fr b) (WK op) (atS fr b m) (XU fr op a b m N) zs f N g n (ZA1 (WK op) zs (atS fr b m))
 obtain⟨hin,_⟩:=Zcr (hmt.symm.trans ht)
 have ht':(((XU fr op a b m N:Nat):Int) !=0)=false:=by rw[ht]; rfl
 refine WJ (Zn (L:=100) Ze (Zo (Zi (U6 (i:=inS op a b c m) rfl hmt h (hfr b) (by omega) (U5 _ _ _) hw (Zbi _) (fun x hx => ?_))) (Zc _)) (Zd _) 20) (Xp _ _) rfl rfl hr ?_
 ·obtain rfl:=List.mem_singleton.1 hx
  exact Zyb (WK op) (atS fr b m) zs f N g n h hw2 hin
 simp only[inS,Q8 fr b hb,Q9 fr b hb,Ya fr b hb,Yb fr b hb,Q6 fr b hb,Yc fr b hb,Yd fr b hb,Ye fr b hb,Zq fr b hb,Zr fr b hb,Q8 fr a ha,Q9 fr a ha,Ya fr a ha,Yb fr a ha,Q6 fr a ha,Yc fr a ha,Yd fr a ha,Ye fr a ha,Zq fr a ha,Zr fr a ha,Kv,z0,z1,z2,z3,v1,v2,u1,u2,Int.toNat_natCast,Bool.and_self,cond_true,and_true,true_and,and_self,Nat.le_refl,decide_true,Xw k24,Xw k20,Xw k21,Xw k22,Xw k23,ht']
def lcV (x:Cp) (p:Nat):Cp:={ x with V:=x.V&&decide (p&&&8≠0) }
def lcC (a:Nat) (x:Cp) (zs:List UInt8) (f:Nat→Bool) (N m n:Nat):Con:=ZnZ [.pointer (some ⟨67,0,none⟩),.int .u32 (a:Nat)] (.tuple ⟨[x.val,.bool true]⟩) zs f N m n
theorem ZCl (fr:Nat→Cp) (a b c:Nat) (m:Int) (zs:List UInt8) (f:Nat→Bool) (N g n:Nat) (h:ArOk zs N g n) (hfr:Wc fr) (ha0:a<16) (hb0:b<16) (x:Cp) (hx:ConOk Tryz.prog 48 3 (lcC (atS fr b m) x zs f N g n)) (ht:XU fr 23 a b m N=0):ConOk Tryz.prog 37 3 (VF fr (inS 23 a b c m) (lcV x (fr b).P) 0 zs f N g n)∧FlatC (VF fr (inS 23 a b c m) (lcV x (fr b).P) 0 zs f N g n):=by
 have ha:a<17:=by omega
 have hb:b<17:=by omega
 have z0:decide ((0:Int)≤(b:Int))=true:=decide_eq_true (by omega)
 have z1:decide ((b:Int)<16)=true:=decide_eq_true (by omega)
 have z2:decide ((0:Int)≤(a:Int))=true:=decide_eq_true (by omega)
 have z3:decide ((a:Int)<16)=true:=decide_eq_true (by omega)
 have v1:∀ (f:Nat→Bool) (σ:Nat→Nat),(v64 (Za f n)).map (rnV σ 3)=v64 (Za f n):=fun f σ=>Zk (Zm _)
 have v2:∀ (f:Nat→Bool) (p:Nat→Bool),(v64 (Za f n)).all (okV p 3)=true:=fun f p=>Zj (Zm _)
 have u1:∀ (zs:List UInt8) (p:Nat→Bool),(u8s zs).all (okV p 3)=true:=fun zs p=>Zj (Zl _)
 have u2:∀ (zs:List UInt8) (σ:Nat→Nat),(u8s zs).map (rnV σ 3)=u8s zs:=fun zs σ=>Zk (Zl _)
 have hneed:Kw fr 23 a=1:=by unfold Kw; simp
 have hmt:XU fr 23 a b m N=ZhU (fr b) (atS fr b m) (WK 23) 1 N:=by unfold XU; rw[hneed]
 have ht':(((XU fr 23 a b m N:Nat):Int) !=0)=false:=by rw[ht]; rfl
 have e1:∀ x y:Int,x≠y→(x==y)=false:=fun x y h=>beq_eq_false_iff_ne.2 h
 have hb2:∀ {L:Sy.Steps},(L=[(74,48,lcC (atS fr b m) x zs f N g n,[64,65,66,67])])→∀ y∈L,ConOk Tryz.prog y.2.1 3 y.2.2.1∧FlatC y.2.2.1:=fun hL y hy=>by
  subst hL
  obtain rfl:=List.mem_singleton.1 hy
  exact⟨hx,⟨fun x hx=>by cases hx⟩⟩
 have hP:(fr b).P<65536:=(hfr b).2.2.2.2.1
 have hbit:(bits BinOp.and u16 ((fr b).P:Int) (8:Int) !=(0:Int))=decide ((fr b).P&&&8≠0):=by
  rw[show(8:Int)=((8:Nat):Int) from rfl,u16_and_nat _ 8 hP (by omega),ZjQ]
 cases hxv:x.V
 ·have hr:=ZEM.v (inS 23 a b c m) fr (fr b) (WK 23) (atS fr b m) (XU fr 23 a b m N) zs f N g n x
  have ev:(lcV x (fr b).P).val = .agg ⟨[.int .u32 x.C,.int .u8 x.E,.int .u16 x.B,.int .u16 x.T,.int .u16 x.P,.int .u16 x.Y,.int .u32 x.R,.bool false]⟩:=by unfold lcV Cp.val Cp.cs; simp only[hxv,Bool.false_and]
  unfold VF
  rw[ev]
  refine WJ (Zn (L:=100) Ze (Zo (Zi (U6 (i:=inS 23 a b c m) rfl hmt h (hfr b) (by omega) (U5 _ _ _) (show 0<WK 23 by decide) (Zbi _) (hb2 rfl))) (Zc _)) (Zd _) 20) (Xp _ _) rfl rfl hr ?_
  simp(disch:=decide) only[inS,Q8 fr b hb,Q9 fr b hb,Ya fr b hb,Yb fr b hb,Q6 fr b hb,Yc fr b hb,Yd fr b hb,Ye fr b hb,Zq fr b hb,Zr fr b hb,Q8 fr a ha,Q9 fr a ha,Ya fr a ha,Yb fr a ha,Q6 fr a ha,Yc fr a ha,Yd fr a ha,Ye fr a ha,Zq fr a ha,Zr fr a ha,Kv,z0,z1,z2,z3,v1,v2,u1,u2,Int.toNat_natCast,Bool.and_self,cond_true,and_true,true_and,and_self,Nat.le_refl,decide_true,e1,beq_self_eq_true,ht',hxv]
 ·have hr:=ZEL.v (inS 23 a b c m) fr (fr b) (WK 23) (atS fr b m) (XU fr 23 a b m N) zs f N g n x
  have ev:(lcV x (fr b).P).val = .agg ⟨[.int .u32 x.C,.int .u8 x.E,.int .u16 x.B,.int .u16 x.T,.int .u16 x.P,.int .u16 x.Y,.int .u32 x.R,.bool (bits BinOp.and u16 ((fr b).P:Int) (8:Int) !=(0:Int))]⟩:=by unfold lcV Cp.val Cp.cs; simp only[hxv,Bool.true_and,hbit]
  unfold VF
  rw[ev]
  simp only[inS,Int.toNat_natCast,Q6 fr b hb] at hr
  refine WJ (Zn (L:=100) Ze (Zo (Zi (U6 (i:=inS 23 a b c m) rfl hmt h (hfr b) (by omega) (U5 _ _ _) (show 0<WK 23 by decide) (Zbi _) (hb2 rfl))) (Zc _)) (Zd _) 20) (Xp _ _) rfl rfl hr ?_
  simp(disch:=decide) only[inS,Q8 fr b hb,Q9 fr b hb,Ya fr b hb,Yb fr b hb,Q6 fr b hb,Yc fr b hb,Yd fr b hb,Ye fr b hb,Zq fr b hb,Zr fr b hb,Q8 fr a ha,Q9 fr a ha,Ya fr a ha,Yb fr a ha,Q6 fr a ha,Yc fr a ha,Yd fr a ha,Ye fr a ha,Zq fr a ha,Zr fr a ha,Kv,z0,z1,z2,z3,v1,v2,u1,u2,Int.toNat_natCast,Bool.and_self,cond_true,and_true,true_and,and_self,Nat.le_refl,decide_true,e1,beq_self_eq_true,ht',hxv]
theorem ZwP (fr:Nat→Cp) (a b c:Nat) (m:Int) (zs:List UInt8) (f:Nat→Bool) (N g n:Nat) (h:ArOk zs N g n) (hfr:Wc fr) (ha0:a<16) (hb0:b<16) (ht:XU fr 20 a b m N=0):ConOk Tryz.prog 37 3 (ZjW (mvA fr (inS 20 a b c m)) (.tuple ⟨[(fr a).val,.int .i64 0]⟩) zs (Xc (atS fr b m) (leW 1 (fr a).C) zs) f (Yu f (atS fr b m/16) false) N g n)∧FlatC (ZjW (mvA fr (inS 20 a b c m)) (.tuple ⟨[(fr a).val,.int .i64 0]⟩) zs (Xc (atS fr b m) (leW 1 (fr a).C) zs) f (Yu f (atS fr b m/16) false) N g n):=by
 have ha:a<17:=by omega
 have hb:b<17:=by omega
 have z0:decide ((0:Int)≤(b:Int))=true:=decide_eq_true (by omega)
 have z1:decide ((b:Int)<16)=true:=decide_eq_true (by omega)
 have z2:decide ((0:Int)≤(a:Int))=true:=decide_eq_true (by omega)
 have z3:decide ((a:Int)<16)=true:=decide_eq_true (by omega)
 have v1:∀ (f:Nat→Bool) (σ:Nat→Nat),(v64 (Za f n)).map (rnV σ 3)=v64 (Za f n):=fun f σ=>Zk (Zm _)
 have v2:∀ (f:Nat→Bool) (p:Nat→Bool),(v64 (Za f n)).all (okV p 3)=true:=fun f p=>Zj (Zm _)
 have u1:∀ (zs:List UInt8) (p:Nat→Bool),(u8s zs).all (okV p 3)=true:=fun zs p=>Zj (Zl _)
 have u2:∀ (zs:List UInt8) (σ:Nat→Nat),(u8s zs).map (rnV σ 3)=u8s zs:=fun zs σ=>Zk (Zl _)
 have hneed:Kw fr 20 a=2:=by unfold Kw; simp
 have hmt:XU fr 20 a b m N=ZhU (fr b) (atS fr b m) 1 2 N:=by unfold XU; rw[hneed]; rfl
 have hr:=ZCg.v (inS 20 a b c m) fr (fr b) 1 (atS fr b m) (XU fr 20 a b m N) zs f N g n (fr a).C (Xc (atS fr b m) (leW 1 (fr a).C) zs) (Yu f (atS fr b m/16) false)
 obtain⟨hin,hal,_⟩:=Zcr (hmt.symm.trans ht)
 have ht':(((XU fr 20 a b m N:Nat):Int) !=0)=false:=by rw[ht]; rfl
 have e1:∀ x y:Int,x≠y→(x==y)=false:=fun x y h=>beq_eq_false_iff_ne.2 h
 simp only[inS,Int.toNat_natCast,Q8 fr b hb,Q9 fr b hb,Ya fr b hb,Yb fr b hb,Q6 fr b hb,Yc fr b hb,Yd fr b hb,Ye fr b hb,Zq fr b hb,Zr fr b hb,Q8 fr a ha,Q9 fr a ha,Ya fr a ha,Yb fr a ha,Q6 fr a ha,Yc fr a ha,Yd fr a ha,Ye fr a ha,Zq fr a ha,Zr fr a ha,Kv] at hr
 refine ZhD (Zn (L:=100) Ze (Zo (Zi (U6 (i:=inS 20 a b c m) rfl hmt h (hfr b) (by omega) (U5 _ _ _) (show 0<WK 20 by decide) (show WK 20≤16 by decide) (fun x hx => ?_))) (Zc _)) (Zd _) 20) (Xp _ _) rfl rfl hr ?_ (VK _ _ N g n _ _ rfl rfl rfl rfl rfl rfl) ⟨⟨rfl,Nat.le_refl _⟩,⟨rfl,Nat.le_refl _⟩,trivial⟩
 ·obtain rfl:=List.mem_singleton.1 hx
  exact ZjP 1 (atS fr b m) (fr a).C zs f N g n h (by omega) (hfr a).1 hal hin
 simp(disch:=decide) only[inS,Q8 fr b hb,Q9 fr b hb,Ya fr b hb,Yb fr b hb,Q6 fr b hb,Yc fr b hb,Yd fr b hb,Ye fr b hb,Zq fr b hb,Zr fr b hb,Q8 fr a ha,Q9 fr a ha,Ya fr a ha,Yb fr a ha,Q6 fr a ha,Yc fr a ha,Yd fr a ha,Ye fr a ha,Zq fr a ha,Zr fr a ha,Kv,z0,z1,z2,z3,v1,v2,u1,u2,Int.toNat_natCast,Bool.and_self,cond_true,and_true,true_and,and_self,Nat.le_refl,decide_true,e1,beq_self_eq_true,ht']
theorem ZwQ (fr:Nat→Cp) (a b c:Nat) (m:Int) (zs:List UInt8) (f:Nat→Bool) (N g n:Nat) (h:ArOk zs N g n) (hfr:Wc fr) (ha0:a<16) (hb0:b<16) (ht:XU fr 21 a b m N=0):ConOk Tryz.prog 37 3 (ZjW (mvA fr (inS 21 a b c m)) (.tuple ⟨[(fr a).val,.int .i64 0]⟩) zs (Xc (atS fr b m) (leW 2 (fr a).C) zs) f (Yu f (atS fr b m/16) false) N g n)∧FlatC (ZjW (mvA fr (inS 21 a b c m)) (.tuple ⟨[(fr a).val,.int .i64 0]⟩) zs (Xc (atS fr b m) (leW 2 (fr a).C) zs) f (Yu f (atS fr b m/16) false) N g n):=by
 have ha:a<17:=by omega
 have hb:b<17:=by omega
 have z0:decide ((0:Int)≤(b:Int))=true:=decide_eq_true (by omega)
 have z1:decide ((b:Int)<16)=true:=decide_eq_true (by omega)
 have z2:decide ((0:Int)≤(a:Int))=true:=decide_eq_true (by omega)
 have z3:decide ((a:Int)<16)=true:=decide_eq_true (by omega)
 have v1:∀ (f:Nat→Bool) (σ:Nat→Nat),(v64 (Za f n)).map (rnV σ 3)=v64 (Za f n):=fun f σ=>Zk (Zm _)
 have v2:∀ (f:Nat→Bool) (p:Nat→Bool),(v64 (Za f n)).all (okV p 3)=true:=fun f p=>Zj (Zm _)
 have u1:∀ (zs:List UInt8) (p:Nat→Bool),(u8s zs).all (okV p 3)=true:=fun zs p=>Zj (Zl _)
 have u2:∀ (zs:List UInt8) (σ:Nat→Nat),(u8s zs).map (rnV σ 3)=u8s zs:=fun zs σ=>Zk (Zl _)
 have hneed:Kw fr 21 a=2:=by unfold Kw; simp
 have hmt:XU fr 21 a b m N=ZhU (fr b) (atS fr b m) 2 2 N:=by unfold XU; rw[hneed]; rfl
 have hr:=ZCh.v (inS 21 a b c m) fr (fr b) 2 (atS fr b m) (XU fr 21 a b m N) zs f N g n (fr a).C (Xc (atS fr b m) (leW 2 (fr a).C) zs) (Yu f (atS fr b m/16) false)
 obtain⟨hin,hal,_⟩:=Zcr (hmt.symm.trans ht)
 have ht':(((XU fr 21 a b m N:Nat):Int) !=0)=false:=by rw[ht]; rfl
 have e1:∀ x y:Int,x≠y→(x==y)=false:=fun x y h=>beq_eq_false_iff_ne.2 h
 simp only[inS,Int.toNat_natCast,Q8 fr b hb,Q9 fr b hb,Ya fr b hb,Yb fr b hb,Q6 fr b hb,Yc fr b hb,Yd fr b hb,Ye fr b hb,Zq fr b hb,Zr fr b hb,Q8 fr a ha,Q9 fr a ha,Ya fr a ha,Yb fr a ha,Q6 fr a ha,Yc fr a ha,Yd fr a ha,Ye fr a ha,Zq fr a ha,Zr fr a ha,Kv] at hr
 refine ZhD (Zn (L:=100) Ze (Zo (Zi (U6 (i:=inS 21 a b c m) rfl hmt h (hfr b) (by omega) (U5 _ _ _) (show 0<WK 21 by decide) (show WK 21≤16 by decide) (fun x hx => ?_))) (Zc _)) (Zd _) 20) (Xp _ _) rfl rfl hr ?_ (VK _ _ N g n _ _ rfl rfl rfl rfl rfl rfl) ⟨⟨rfl,Nat.le_refl _⟩,⟨rfl,Nat.le_refl _⟩,trivial⟩
 ·obtain rfl:=List.mem_singleton.1 hx
  exact ZjP 2 (atS fr b m) (fr a).C zs f N g n h (by omega) (hfr a).1 hal hin
 simp(disch:=decide) only[inS,Q8 fr b hb,Q9 fr b hb,Ya fr b hb,Yb fr b hb,Q6 fr b hb,Yc fr b hb,Yd fr b hb,Ye fr b hb,Zq fr b hb,Zr fr b hb,Q8 fr a ha,Q9 fr a ha,Ya fr a ha,Yb fr a ha,Q6 fr a ha,Yc fr a ha,Yd fr a ha,Ye fr a ha,Zq fr a ha,Zr fr a ha,Kv,z0,z1,z2,z3,v1,v2,u1,u2,Int.toNat_natCast,Bool.and_self,cond_true,and_true,true_and,and_self,Nat.le_refl,decide_true,e1,beq_self_eq_true,ht']
theorem ZwR (fr:Nat→Cp) (a b c:Nat) (m:Int) (zs:List UInt8) (f:Nat→Bool) (N g n:Nat) (h:ArOk zs N g n) (hfr:Wc fr) (ha0:a<16) (hb0:b<16) (ht:XU fr 22 a b m N=0):ConOk Tryz.prog 37 3 (ZjW (mvA fr (inS 22 a b c m)) (.tuple ⟨[(fr a).val,.int .i64 0]⟩) zs (Xc (atS fr b m) (leW 4 (fr a).C) zs) f (Yu f (atS fr b m/16) false) N g n)∧FlatC (ZjW (mvA fr (inS 22 a b c m)) (.tuple ⟨[(fr a).val,.int .i64 0]⟩) zs (Xc (atS fr b m) (leW 4 (fr a).C) zs) f (Yu f (atS fr b m/16) false) N g n):=by
 have ha:a<17:=by omega
 have hb:b<17:=by omega
 have z0:decide ((0:Int)≤(b:Int))=true:=decide_eq_true (by omega)
 have z1:decide ((b:Int)<16)=true:=decide_eq_true (by omega)
 have z2:decide ((0:Int)≤(a:Int))=true:=decide_eq_true (by omega)
 have z3:decide ((a:Int)<16)=true:=decide_eq_true (by omega)
 have v1:∀ (f:Nat→Bool) (σ:Nat→Nat),(v64 (Za f n)).map (rnV σ 3)=v64 (Za f n):=fun f σ=>Zk (Zm _)
 have v2:∀ (f:Nat→Bool) (p:Nat→Bool),(v64 (Za f n)).all (okV p 3)=true:=fun f p=>Zj (Zm _)
 have u1:∀ (zs:List UInt8) (p:Nat→Bool),(u8s zs).all (okV p 3)=true:=fun zs p=>Zj (Zl _)
 have u2:∀ (zs:List UInt8) (σ:Nat→Nat),(u8s zs).map (rnV σ 3)=u8s zs:=fun zs σ=>Zk (Zl _)
 have hneed:Kw fr 22 a=2:=by unfold Kw; simp
 have hmt:XU fr 22 a b m N=ZhU (fr b) (atS fr b m) 4 2 N:=by unfold XU; rw[hneed]; rfl
 have hr:=ZCi.v (inS 22 a b c m) fr (fr b) 4 (atS fr b m) (XU fr 22 a b m N) zs f N g n (fr a).C (Xc (atS fr b m) (leW 4 (fr a).C) zs) (Yu f (atS fr b m/16) false)
 obtain⟨hin,hal,_⟩:=Zcr (hmt.symm.trans ht)
 have ht':(((XU fr 22 a b m N:Nat):Int) !=0)=false:=by rw[ht]; rfl
 have e1:∀ x y:Int,x≠y→(x==y)=false:=fun x y h=>beq_eq_false_iff_ne.2 h
 simp only[inS,Int.toNat_natCast,Q8 fr b hb,Q9 fr b hb,Ya fr b hb,Yb fr b hb,Q6 fr b hb,Yc fr b hb,Yd fr b hb,Ye fr b hb,Zq fr b hb,Zr fr b hb,Q8 fr a ha,Q9 fr a ha,Ya fr a ha,Yb fr a ha,Q6 fr a ha,Yc fr a ha,Yd fr a ha,Ye fr a ha,Zq fr a ha,Zr fr a ha,Kv] at hr
 refine ZhD (Zn (L:=100) Ze (Zo (Zi (U6 (i:=inS 22 a b c m) rfl hmt h (hfr b) (by omega) (U5 _ _ _) (show 0<WK 22 by decide) (show WK 22≤16 by decide) (fun x hx => ?_))) (Zc _)) (Zd _) 20) (Xp _ _) rfl rfl hr ?_ (VK _ _ N g n _ _ rfl rfl rfl rfl rfl rfl) ⟨⟨rfl,Nat.le_refl _⟩,⟨rfl,Nat.le_refl _⟩,trivial⟩
 ·obtain rfl:=List.mem_singleton.1 hx
  exact ZjP 4 (atS fr b m) (fr a).C zs f N g n h (by omega) (hfr a).1 hal hin
 simp(disch:=decide) only[inS,Q8 fr b hb,Q9 fr b hb,Ya fr b hb,Yb fr b hb,Q6 fr b hb,Yc fr b hb,Yd fr b hb,Ye fr b hb,Zq fr b hb,Zr fr b hb,Q8 fr a ha,Q9 fr a ha,Ya fr a ha,Yb fr a ha,Q6 fr a ha,Yc fr a ha,Yd fr a ha,Ye fr a ha,Zq fr a ha,Zr fr a ha,Kv,z0,z1,z2,z3,v1,v2,u1,u2,Int.toNat_natCast,Bool.and_self,cond_true,and_true,true_and,and_self,Nat.le_refl,decide_true,e1,beq_self_eq_true,ht']
theorem ZCm (fr:Nat→Cp) (a b c:Nat) (m:Int) (zs:List UInt8) (f:Nat→Bool) (N g n:Nat) (h:ArOk zs N g n) (hfr:Wc fr) (ha0:a<16) (hb0:b<16) (kV:(fr a).V=true) (ht:XU fr 24 a b m N=0):ConOk Tryz.prog 37 3 (ZjW (mvA fr (inS 24 a b c m)) (.tuple ⟨[(fr a).val,.int .i64 0]⟩) zs (Xc (atS fr b m) (cbL (fr a).C (fr a).E (fr a).B (fr a).T (fr a).P (fr a).Y (fr a).R) zs) f (Yu f (atS fr b m/16) ((fr a).V&&XD (fr a).E (fr a).B (fr a).T (fr a).P (fr a).Y (fr a).R)) N g n)∧FlatC (ZjW (mvA fr (inS 24 a b c m)) (.tuple ⟨[(fr a).val,.int .i64 0]⟩) zs (Xc (atS fr b m) (cbL (fr a).C (fr a).E (fr a).B (fr a).T (fr a).P (fr a).Y (fr a).R) zs) f (Yu f (atS fr b m/16) ((fr a).V&&XD (fr a).E (fr a).B (fr a).T (fr a).P (fr a).Y (fr a).R)) N g n):=by
 have ha:a<17:=by omega
 have hb:b<17:=by omega
 have z0:decide ((0:Int)≤(b:Int))=true:=decide_eq_true (by omega)
 have z1:decide ((b:Int)<16)=true:=decide_eq_true (by omega)
 have z2:decide ((0:Int)≤(a:Int))=true:=decide_eq_true (by omega)
 have z3:decide ((a:Int)<16)=true:=decide_eq_true (by omega)
 have v1:∀ (f:Nat→Bool) (σ:Nat→Nat),(v64 (Za f n)).map (rnV σ 3)=v64 (Za f n):=fun f σ=>Zk (Zm _)
 have v2:∀ (f:Nat→Bool) (p:Nat→Bool),(v64 (Za f n)).all (okV p 3)=true:=fun f p=>Zj (Zm _)
 have u1:∀ (zs:List UInt8) (p:Nat→Bool),(u8s zs).all (okV p 3)=true:=fun zs p=>Zj (Zl _)
 have u2:∀ (zs:List UInt8) (σ:Nat→Nat),(u8s zs).map (rnV σ 3)=u8s zs:=fun zs σ=>Zk (Zl _)
 have hneed:Kw fr 24 a=18:=by unfold Kw; simp only[kV,if_true,if_false,Bool.false_eq_true,reduceIte]
 have hmt:XU fr 24 a b m N=ZhU (fr b) (atS fr b m) 16 18 N:=by unfold XU; rw[hneed]; rfl
 have hr:=ZEN.v (inS 24 a b c m) fr (fr b) 16 (atS fr b m) (XU fr 24 a b m N) zs f N g n (fr a) (Xc (atS fr b m) (cbL (fr a).C (fr a).E (fr a).B (fr a).T (fr a).P (fr a).Y (fr a).R) zs) (Yu f (atS fr b m/16) ((fr a).V&&XD (fr a).E (fr a).B (fr a).T (fr a).P (fr a).Y (fr a).R))
 obtain⟨hin,hal,_⟩:=Zcr (hmt.symm.trans ht)
 have ht':(((XU fr 24 a b m N:Nat):Int) !=0)=false:=by rw[ht]; rfl
 have e1:∀ x y:Int,x≠y→(x==y)=false:=fun x y h=>beq_eq_false_iff_ne.2 h
 have hcp:CpB (fr a).C (fr a).E (fr a).B (fr a).T (fr a).P (fr a).Y (fr a).R:=by obtain⟨h1,h2,h3,h4,h5,h6,h7⟩:=hfr a; exact⟨h1,h2,h3,h4,h5,h6,h7⟩
 simp only[inS,Int.toNat_natCast,Q8 fr b hb,Q9 fr b hb,Ya fr b hb,Yb fr b hb,Q6 fr b hb,Yc fr b hb,Yd fr b hb,Ye fr b hb,Zq fr b hb,Zr fr b hb,Q8 fr a ha,Q9 fr a ha,Ya fr a ha,Yb fr a ha,Q6 fr a ha,Yc fr a ha,Yd fr a ha,Ye fr a ha,Zq fr a ha,Zr fr a ha,Kv] at hr
 refine ZhD (Zn (L:=100) Ze (Zo (Zi (U6 (i:=inS 24 a b c m) rfl hmt h (hfr b) (by omega) (U5 _ _ _) (show 0<WK 24 by decide) (show WK 24≤16 by decide) (fun x hx => ?_))) (Zc _)) (Zd _) 20) (Xp _ _) rfl rfl hr ?_ (VK _ _ N g n _ _ rfl rfl rfl rfl rfl rfl) ⟨⟨rfl,Nat.le_refl _⟩,⟨rfl,Nat.le_refl _⟩,trivial⟩
 ·obtain rfl:=List.mem_singleton.1 hx
  exact Zmz (atS fr b m) (fr a).C (fr a).E (fr a).B (fr a).T (fr a).P (fr a).Y (fr a).R (fr a).V zs f N g n h hcp hal hin
 simp(disch:=decide) only[inS,Q8 fr b hb,Q9 fr b hb,Ya fr b hb,Yb fr b hb,Q6 fr b hb,Yc fr b hb,Yd fr b hb,Ye fr b hb,Zq fr b hb,Zr fr b hb,Q8 fr a ha,Q9 fr a ha,Ya fr a ha,Yb fr a ha,Q6 fr a ha,Yc fr a ha,Yd fr a ha,Ye fr a ha,Zq fr a ha,Zr fr a ha,Kv,z0,z1,z2,z3,v1,v2,u1,u2,Int.toNat_natCast,Bool.and_self,cond_true,and_true,true_and,and_self,Nat.le_refl,decide_true,e1,beq_self_eq_true,ht',kV]
theorem ZCn (fr:Nat→Cp) (a b c:Nat) (m:Int) (zs:List UInt8) (f:Nat→Bool) (N g n:Nat) (h:ArOk zs N g n) (hfr:Wc fr) (ha0:a<16) (hb0:b<16) (kV:(fr a).V=false) (ht:XU fr 24 a b m N=0):ConOk Tryz.prog 37 3 (ZjW (mvA fr (inS 24 a b c m)) (.tuple ⟨[(fr a).val,.int .i64 0]⟩) zs (Xc (atS fr b m) (cbL (fr a).C (fr a).E (fr a).B (fr a).T (fr a).P (fr a).Y (fr a).R) zs) f (Yu f (atS fr b m/16) ((fr a).V&&XD (fr a).E (fr a).B (fr a).T (fr a).P (fr a).Y (fr a).R)) N g n)∧FlatC (ZjW (mvA fr (inS 24 a b c m)) (.tuple ⟨[(fr a).val,.int .i64 0]⟩) zs (Xc (atS fr b m) (cbL (fr a).C (fr a).E (fr a).B (fr a).T (fr a).P (fr a).Y (fr a).R) zs) f (Yu f (atS fr b m/16) ((fr a).V&&XD (fr a).E (fr a).B (fr a).T (fr a).P (fr a).Y (fr a).R)) N g n):=by
 have ha:a<17:=by omega
 have hb:b<17:=by omega
 have z0:decide ((0:Int)≤(b:Int))=true:=decide_eq_true (by omega)
 have z1:decide ((b:Int)<16)=true:=decide_eq_true (by omega)
 have z2:decide ((0:Int)≤(a:Int))=true:=decide_eq_true (by omega)
 have z3:decide ((a:Int)<16)=true:=decide_eq_true (by omega)
 have v1:∀ (f:Nat→Bool) (σ:Nat→Nat),(v64 (Za f n)).map (rnV σ 3)=v64 (Za f n):=fun f σ=>Zk (Zm _)
 have v2:∀ (f:Nat→Bool) (p:Nat→Bool),(v64 (Za f n)).all (okV p 3)=true:=fun f p=>Zj (Zm _)
 have u1:∀ (zs:List UInt8) (p:Nat→Bool),(u8s zs).all (okV p 3)=true:=fun zs p=>Zj (Zl _)
 have u2:∀ (zs:List UInt8) (σ:Nat→Nat),(u8s zs).map (rnV σ 3)=u8s zs:=fun zs σ=>Zk (Zl _)
 have hneed:Kw fr 24 a=2:=by unfold Kw; simp only[kV,if_true,if_false,Bool.false_eq_true,reduceIte]
 have hmt:XU fr 24 a b m N=ZhU (fr b) (atS fr b m) 16 2 N:=by unfold XU; rw[hneed]; rfl
 have hr:=ZEO.v (inS 24 a b c m) fr (fr b) 16 (atS fr b m) (XU fr 24 a b m N) zs f N g n (fr a) (Xc (atS fr b m) (cbL (fr a).C (fr a).E (fr a).B (fr a).T (fr a).P (fr a).Y (fr a).R) zs) (Yu f (atS fr b m/16) ((fr a).V&&XD (fr a).E (fr a).B (fr a).T (fr a).P (fr a).Y (fr a).R))
 obtain⟨hin,hal,_⟩:=Zcr (hmt.symm.trans ht)
 have ht':(((XU fr 24 a b m N:Nat):Int) !=0)=false:=by rw[ht]; rfl
 have e1:∀ x y:Int,x≠y→(x==y)=false:=fun x y h=>beq_eq_false_iff_ne.2 h
 have hcp:CpB (fr a).C (fr a).E (fr a).B (fr a).T (fr a).P (fr a).Y (fr a).R:=by obtain⟨h1,h2,h3,h4,h5,h6,h7⟩:=hfr a; exact⟨h1,h2,h3,h4,h5,h6,h7⟩
 simp only[inS,Int.toNat_natCast,Q8 fr b hb,Q9 fr b hb,Ya fr b hb,Yb fr b hb,Q6 fr b hb,Yc fr b hb,Yd fr b hb,Ye fr b hb,Zq fr b hb,Zr fr b hb,Q8 fr a ha,Q9 fr a ha,Ya fr a ha,Yb fr a ha,Q6 fr a ha,Yc fr a ha,Yd fr a ha,Ye fr a ha,Zq fr a ha,Zr fr a ha,Kv] at hr
 refine ZhD (Zn (L:=100) Ze (Zo (Zi (U6 (i:=inS 24 a b c m) rfl hmt h (hfr b) (by omega) (U5 _ _ _) (show 0<WK 24 by decide) (show WK 24≤16 by decide) (fun x hx => ?_))) (Zc _)) (Zd _) 20) (Xp _ _) rfl rfl hr ?_ (VK _ _ N g n _ _ rfl rfl rfl rfl rfl rfl) ⟨⟨rfl,Nat.le_refl _⟩,⟨rfl,Nat.le_refl _⟩,trivial⟩
 ·obtain rfl:=List.mem_singleton.1 hx
  exact Zmz (atS fr b m) (fr a).C (fr a).E (fr a).B (fr a).T (fr a).P (fr a).Y (fr a).R (fr a).V zs f N g n h hcp hal hin
 simp(disch:=decide) only[inS,Q8 fr b hb,Q9 fr b hb,Ya fr b hb,Yb fr b hb,Q6 fr b hb,Yc fr b hb,Yd fr b hb,Ye fr b hb,Zq fr b hb,Zr fr b hb,Q8 fr a ha,Q9 fr a ha,Ya fr a ha,Yb fr a ha,Q6 fr a ha,Yc fr a ha,Yd fr a ha,Ye fr a ha,Zq fr a ha,Zr fr a ha,Kv,z0,z1,z2,z3,v1,v2,u1,u2,Int.toNat_natCast,Bool.and_self,cond_true,and_true,true_and,and_self,Nat.le_refl,decide_true,e1,beq_self_eq_true,ht',kV]
end Go.Proofs.YtagacmljbgkmoaaGreatDoor
namespace Go.Proofs.YtagacmljbgkmoaaGreatDoor
open Go.IntKind (u8 u16 u32 u64 i64)
open Go.ChangeShapes Go.WideShapes Go.ChangeAt Go.RowKit
open Go.ChangeMaps (open_string shut_string)
theorem own:ownKnob Tryz.prog.godebug=none:=by kernel_rfl
theorem ZrW:laidOutB Tryz.prog=true:=by kernel_rfl
section
variable {H:Type} {enc:TypeId×Value→H} {P:Program}
theorem ZeP {f:Func} {s:ChangeSpec} {apart fresh handsOn again:Bool} {W W':World} {args:Array Value} {v:Value} {ds gs:List (DataW H)} {before pa pv:List MemPlace}
  (hW:DataW.Whole enc P f.params.toList s.vars apart W args.toList ds gs before)
  (hres:∀ (b:Nat) (sp:Nat→Bool) (hd:Bool),DataW.TrodAll enc P W' b sp hd f.resultTypes.toList (v.resultList f.resultTypes.size) (s.fn H (ds++gs)).results [])
  (hargs:∀ sp:Nat→Bool,(∀ p∈before,sp p.block=true)→DataW.TrodAll enc P W' 0 sp true f.params.toList args.toList (s.fn H (ds++gs)).args pa)
  (hvars:∀ sp:Nat→Bool,(∀ p∈before,sp p.block=true)→DataW.TrodVars enc P W' sp s.vars (s.fn H (ds++gs)).vars pv)
  (hps:before=pa++pv) (hb:Below W.heap.size W W')
  (hok:∀ (j:Nat) (t:TypeId) (r:Value),f.resultTypes[j]? = some t→(v.resultList f.resultTypes.size)[j]? = some r→Value.okWide P W' .any 0 t r) :
  s.post enc P f apart fresh handsOn again W args v W':=by
 have hlt:∀ p∈before,p.block<W.heap.size:=fun p hp=>hW.lt p hp
 have hold:∀ p∈before,(fun b=>decide (b<W.heap.size)) p.block=true:=fun p hp=>by simpa using hlt p hp
 refine⟨ds,gs,before,[],pa,pv,hW,hres _ _ _,hargs _ hold,hvars _ hold,World.keptBut_mono (fun p hp=>⟨hp,?_⟩) (hb.frame (· ∈ before)),fun _ => ?_⟩
 ·rw[hps,List.mem_append] at hp
  exact Or.inr hp
 ·obtain⟨_,_,_,_,_,hz,hn⟩:=hW
  refine⟨hok,_,_,([]++pa)++pv,⟨[]++pa,pv,trodAll_append (hargs _ (fun _ _=>rfl)) (hres _ _ _),hvars _ (fun _ _=>rfl),rfl,?_,?_⟩,?_⟩
  ·intro b off hp
   have hin:MemPlace.cell b off∈before:=by rw[hps]; simpa using hp
   rw[hb.frozen (hlt _ hin)]
   exact hz b off hin
  ·intro ha
   have:=hn ha
   rw[hps] at this
   simpa using this
  ·intro p hp _
   rw[hps]
   simpa using hp
theorem Zbj (hl:laidOutB P=true) {W W':World} (hb:Below W.heap.size W W') {sp:Nat→Bool}:∀ (ts:List TypeId) (vs:List Value) (ds:List (DataW H)) (ps:List MemPlace),
  (∀ t∈ts,P.readableRec t=true∧t<P.types.size)→DataW.TrodAll enc P W 0 (fun _=>true) true ts vs ds ps→(∀ x∈ps,x.block<W.heap.size)→(∀ x∈ps,sp x.block=true) →
  DataW.TrodAll enc P W' 0 sp true ts vs ds ps
 | [],[],[],_,_,h,_,_=>h
 | t::ts,v::vs,d::ds,ps,ht,h,hlt,hs=>by
  obtain⟨p,q,h1,h2,rfl⟩:=h
  refine⟨p,q,?_,Zbj hl hb ts vs ds q (fun u hu=>ht u (List.mem_cons_of_mem _ hu)) h2 (fun x hx=>hlt x (List.mem_append_right _ hx)) (fun x hx=>hs x (List.mem_append_right _ hx)),rfl⟩
  exact WideElems.Trod_stays hl (ht t (List.mem_cons_self ..)).1 (ht t (List.mem_cons_self ..)).2 h1 (fun x hx=>hb.same (hlt x (List.mem_append_left _ hx))) (fun x hx=>hs x (List.mem_append_left _ hx))
 | [],[],_::_,_,_,h,_,_=>h.elim
 | [],_::_,_,_,_,h,_,_=>h.elim
 | _::_,[],_,_,_,h,_,_=>h.elim
 | _::_,_::_,[],_,_,h,_,_=>h.elim
theorem Zak {W:World} {base:Nat} {sp:Nat→Bool} {hd:Bool}:∀ (ts:List TypeId) (vs:List Value) (ds:List (DataW H)) (ps:List MemPlace),DataW.TrodAll enc P W base sp hd ts vs ds ps→ds.length=ts.length
 | [],[],[],_,_=>rfl
 | _::ts,_::vs,_::ds,_,h=>by
  obtain⟨_,_,_,h2,_⟩:=h
  simp[Zak ts vs ds _ h2]
 | [],[],_::_,_,h=>h.elim
 | [],_::_,_,_,h=>h.elim
 | _::_,[],_,_,h=>h.elim
 | _::_,_::_,[],_,h=>h.elim
end
theorem ZCo {n:Int} (h:(Lit.int .u32 n).wf=true):0≤n∧n<4294967296:=by
 have:=bounds_u32 h; omega
theorem ZEP {n:Int} (h:(Lit.int .u8 n).wf=true):0≤n∧n<256:=by
 have:=bounds_u8 h; omega
theorem ZCp {n:Int} (h:(Lit.int .u16 n).wf=true):0≤n∧n<65536:=by
 have:=bounds_u16 h; omega
end Go.Proofs.YtagacmljbgkmoaaGreatDoor
namespace Go.Proofs.YtagacmljbgkmoaaGreatDoor
open Go.IntKind (u8 u16 u32 u64 i64)
open Go.ChangeShapes Go.WideShapes Go.ChangeAt Go.RowKit
abbrev Zlm:List (String×DataW Unit):=[("fallow/isa.rows",Rows.laid_fallow_isa_rows)]
def ZjX (f:FuncId) (fn:Func):Prop :=
 ∀ (H:Type) (enc:TypeId×Value→H) (W:World) (base:Nat) (args:Array Value) (ds:List (DataW H)) (p:List MemPlace),laidMetH Tryz.prog Zlm W →
  (∀ (j:Nat) t v,fn.params[j]? = some t→args[j]? = some v→Value.okWide Tryz.prog W .any base t v) →
  DataW.TrodAll enc Tryz.prog W 0 (fun _=>true) true fn.params.toList args.toList ds p →
  Calls Tryz.prog f args W fun e W'=>e = .returned (.bool true)∧Below W.heap.size W W'
set_option maxRecDepth 100000 in
theorem ZhE (f:FuncId) (fn:Func) (s:ChangeSpec) (conds:List PathCond) (hfn:Tryz.prog.funcs[f]? = some fn) (noInit:Tryz.prog.inits.idxOf? f=none)
  (hres:fn.resultTypes = #[4])
  (hvars:s.vars=[]) (hspec:∀ (H:Type) (ds:List (DataW H)),ds.length=fn.params.toList.length→(s.fn H (ds++[])).results=[.lit (.bool true)]∧(s.fn H (ds++[])).args=ds∧(s.fn H (ds++[])).vars=[])
  (hts:∀ t∈fn.params.toList,Tryz.prog.readableRec t=true∧t<Tryz.prog.types.size)
  (walk:ZjX f fn) (os:Os) (started:os.Started) (H:Type) (enc:TypeId×Value→H)
  (witness:∃ (w:World) (tape:Tape) (i:Input),w.os=os∧(w.forCall tape i).Shaped Tryz.checked.prog∧i.vars=[]∧Input.okWide Tryz.checked.prog (w.forCall tape i) .any w.heap.size f i ∧
   ((s.pre enc Tryz.checked.prog fn conds false (w.forCall tape i).memory i.args∧laidMetH Tryz.prog Zlm (w.forCall tape i).memory)∧sizedMet enc Tryz.checked.prog fn (OpenSpec.ofChange s) false (w.forCall tape i).memory i.args) ∧
   ({}:Assume).holds Tryz.checked.prog (lone (Frame.enter Tryz.checked.prog f i.args .normal) [] (w.forCall tape i))) :
  ReturnsInHanded {} Tryz.checked os f .any (fun w args=>(s.pre enc Tryz.prog fn conds false w args∧laidMetH Tryz.prog Zlm w)∧sizedMet enc Tryz.prog fn (OpenSpec.ofChange s) false w args) (s.post enc Tryz.prog fn false true false false):=by
 refine returnsInHanded_of_change_and (C:=Tryz.checked) (X:=fun w _=>laidMetH Tryz.prog Zlm w) (fun _ _ _ hh h=>h.of_heap hh) own started noInit hfn witness ?_
 intro W base args ds gs before hval0 hW _ _ hL _
 have hW':=hW
 obtain⟨p,q,hA,hV,rfl,_,_⟩:=hW
 rw[hvars] at hV
 obtain⟨rfl,rfl⟩:=trodVars_none hV
 obtain⟨e1,e2,e3⟩:=hspec H ds (Zak _ _ _ _ hA)
 refine(walk H enc W base args ds p hL hval0 hA).mono fun e W' ⟨he,hg⟩ => ?_
 subst he
 refine⟨_,rfl,ZeP (pa:=p) (pv:=[]) hW' (fun b sp hd => ?_) (fun sp hsp => ?_) (fun sp _ => ?_) rfl hg ?_⟩
 ·rw[e1,hres]
  exact trodAll_mk1 (shut_bool Tryz.underlying4 _)
 ·rw[e2]
  exact Zbj ZrW hg _ _ _ _ hts hA (fun x hx=>hW'.lt x (List.mem_append_left _ hx)) (fun x hx=>hsp x (List.mem_append_left _ hx))
 ·rw[e3,hvars]; rfl
 ·exact ok_one hres rfl (okWide_bool_mk Tryz.underlying4 _)
theorem Zn9 (os:Os) (args:Array Value):laidMetH Tryz.prog Zlm ((World.doorLaid Tryz.prog 400 os).forCall (fun _ _=>0) ⟨#[],args,[]⟩).memory :=
 laidMetH_of_parts3 (fuel:=8) (laidMet_of_run' 8 (by kernel_rfl) (by kernel_rfl)) (by kernel_rfl) (by kernel_rfl)
end Go.Proofs.YtagacmljbgkmoaaGreatDoor
namespace Go.Proofs.YtagacmljbgkmoaaGreatDoor
open Go.IntKind (u8 u16 u32 u64 i64)
open Go.ChangeShapes Go.WideShapes Go.ChangeAt Go.RowKit
def ZA2 (w:World) (g:Nat) (cs:List Value):Prop:=∃ (arr:Array Value) (ty:TypeId),w.heap[g]? = some (.cells arr ty (0,0))∧arr.toList=cs
def Zw:List Value:=[.string ⟨⟨[]⟩⟩,.string ⟨⟨[]⟩⟩,.string ⟨⟨[108,105]⟩⟩,.string ⟨⟨[97,105]⟩⟩,.string ⟨⟨[108,117,105]⟩⟩,.string ⟨⟨[97,106]⟩⟩,.string ⟨⟨[97,100,100]⟩⟩,.string ⟨⟨[97,98,99]⟩⟩,.string ⟨⟨[115,117,98]⟩⟩,.string ⟨⟨[97,98,99]⟩⟩,.string ⟨⟨[109,117,108]⟩⟩,.string ⟨⟨[97,98,99]⟩⟩,.string ⟨⟨[100,105,118]⟩⟩,.string ⟨⟨[97,98,99]⟩⟩,.string ⟨⟨[114,101,109]⟩⟩,.string ⟨⟨[97,98,99]⟩⟩,.string ⟨⟨[97,110,100]⟩⟩,.string ⟨⟨[97,98,99]⟩⟩,.string ⟨⟨[111,114]⟩⟩,.string ⟨⟨[97,98,99]⟩⟩,.string ⟨⟨[120,111,114]⟩⟩,.string ⟨⟨[97,98,99]⟩⟩,.string ⟨⟨[115,104,108]⟩⟩,.string ⟨⟨[97,98,99]⟩⟩,.string ⟨⟨[115,104,114]⟩⟩,.string ⟨⟨[97,98,99]⟩⟩,.string ⟨⟨[108,116]⟩⟩,.string ⟨⟨[97,98,99]⟩⟩,.string ⟨⟨[108,116,117]⟩⟩,.string ⟨⟨[97,98,99]⟩⟩,.string ⟨⟨[101,113]⟩⟩,.string ⟨⟨[97,98,99]⟩⟩,.string ⟨⟨[97,100,100,105]⟩⟩,.string ⟨⟨[97,98,105]⟩⟩,.string ⟨⟨[108,98]⟩⟩,.string ⟨⟨[97,98,105]⟩⟩,.string ⟨⟨[108,104]⟩⟩,.string ⟨⟨[97,98,105]⟩⟩,.string ⟨⟨[108,119]⟩⟩,.string ⟨⟨[97,98,105]⟩⟩,.string ⟨⟨[115,98]⟩⟩,.string ⟨⟨[97,98,105]⟩⟩,.string ⟨⟨[115,104]⟩⟩,.string ⟨⟨[97,98,105]⟩⟩,.string ⟨⟨[115,119]⟩⟩,.string ⟨⟨[97,98,105]⟩⟩,.string ⟨⟨[108,99]⟩⟩,.string ⟨⟨[97,98,105]⟩⟩,.string ⟨⟨[115,99]⟩⟩,.string ⟨⟨[97,98,105]⟩⟩,.string ⟨⟨[98,101,113]⟩⟩,.string ⟨⟨[97,98,105]⟩⟩,.string ⟨⟨[98,110,101]⟩⟩,.string ⟨⟨[97,98,105]⟩⟩,.string ⟨⟨[98,108,116]⟩⟩,.string ⟨⟨[97,98,105]⟩⟩,.string ⟨⟨[98,103,101]⟩⟩,.string ⟨⟨[97,98,105]⟩⟩,.string ⟨⟨[106,97,108]⟩⟩,.string ⟨⟨[97,106]⟩⟩,.string ⟨⟨[106,97,108,114]⟩⟩,.string ⟨⟨[97,98]⟩⟩,.string ⟨⟨[109,111,118,101]⟩⟩,.string ⟨⟨[97,98]⟩⟩,.string ⟨⟨[105,110,99]⟩⟩,.string ⟨⟨[97,98,99]⟩⟩,.string ⟨⟨[105,110,99,105]⟩⟩,.string ⟨⟨[97,98,105]⟩⟩,.string ⟨⟨[97,100,100,114]⟩⟩,.string ⟨⟨[97,98,99]⟩⟩,.string ⟨⟨[115,101,116]⟩⟩,.string ⟨⟨[97,98,99]⟩⟩,.string ⟨⟨[101,120,97,99,116]⟩⟩,.string ⟨⟨[97,98,99]⟩⟩,.string ⟨⟨[97,110,100,115]⟩⟩,.string ⟨⟨[97,98,99]⟩⟩,.string ⟨⟨[115,101,97,108]⟩⟩,.string ⟨⟨[97,98,99]⟩⟩,.string ⟨⟨[111,112,101,110]⟩⟩,.string ⟨⟨[97,98,99]⟩⟩,.string ⟨⟨[98,117,105,108,100]⟩⟩,.string ⟨⟨[97,98,99]⟩⟩,.string ⟨⟨[99,108,101,97,114]⟩⟩,.string ⟨⟨[97,98]⟩⟩,.string ⟨⟨[103,97,100,100,114]⟩⟩,.string ⟨⟨[97,98]⟩⟩,.string ⟨⟨[103,98,97,115,101]⟩⟩,.string ⟨⟨[97,98]⟩⟩,.string ⟨⟨[103,108,101,110]⟩⟩,.string ⟨⟨[97,98]⟩⟩,.string ⟨⟨[103,112,101,114,109]⟩⟩,.string ⟨⟨[97,98]⟩⟩,.string ⟨⟨[103,116,121,112,101]⟩⟩,.string ⟨⟨[97,98]⟩⟩,.string ⟨⟨[103,116,97,103]⟩⟩,.string ⟨⟨[97,98]⟩⟩,.string ⟨⟨[105,115,105,110,116]⟩⟩,.string ⟨⟨[97,98]⟩⟩,.string ⟨⟨[112,99]⟩⟩,.string ⟨⟨[97,106]⟩⟩,.string ⟨⟨[99,97,108,108]⟩⟩,.string ⟨⟨[97,98]⟩⟩,.string ⟨⟨[114,101,116]⟩⟩,.string ⟨⟨[]⟩⟩,.string ⟨⟨[101,99,97,108,108]⟩⟩,.string ⟨⟨[105]⟩⟩,.string ⟨⟨[116,114,97,112]⟩⟩,.string ⟨⟨[]⟩⟩]
def ZCq {H:Type}:DataW H→Value
 | .lit (.string b) => .string ⟨⟨b⟩⟩
 | _=>undef
def ZwS {H:Type}:DataW H→List Value
 | .agg [a,b]=>[ZCq a,ZCq b]
 | _=>[]
def ZrX {H:Type}:DataW H→List (DataW H)
 | .agg l=>l
 | _=>[]
theorem ZuA:(ZrX (Rows.laid_fallow_isa_rows (H:=Unit))).flatMap ZwS=Zw:=by kernel_rfl
theorem ZEQ:Tryz.prog.globalNamed "fallow/isa.rows" = some 0:=by kernel_rfl
theorem ZER:(Tryz.prog.globals[0]?).map (·.type)=some 204:=by kernel_rfl
theorem ZwT:∀ (L:List (List Value)) (cs:List Value),cs.length=L.length*2→(∀ i,i<L.length→(cs.drop (i*2)).take 2=L.getD i [])→cs=L.flatten
 | [],cs,h,_=>by simpa using h
 | x::L,cs,h,hi=>by
  have h0:=hi 0 (by simp)
  simp at h0
  rw[List.flatten_cons,← h0]
  have:=ZwT L (cs.drop 2) (by simp at h ⊢; omega) (fun i hl=>by
   have:=hi (i+1) (by simpa using hl)
   rw[List.drop_drop]
   simp only[List.getD_cons_succ] at this
   rw[← this]
   congr 2; omega)
  rw[← this]
  exact(List.take_append_drop 2 cs).symm
set_option maxRecDepth 100000 in
theorem Zln {W:World} (h:laidMetH Tryz.prog Zlm W):ZA2 W 0 Zw:=by
 rw[MakeChecks.laidMetH_plain _ _ _ (by kernel_rfl)] at h
 obtain⟨ps,⟨g0,t0,cs0,f0,p0,q0,hg0,ht0,hv0,hd0,_,hps⟩,_,hall⟩:=h
 obtain rfl:=Option.some.inj (ZEQ.symm.trans hg0)
 obtain rfl:=Option.some.inj (ZER.symm.trans ht0)
 obtain⟨xs,m,rfl,hx,hlen,hxl,hg⟩:=DataW.trod_array Tryz.underlying204 hd0
 have hL:ZrX (Rows.laid_fallow_isa_rows (H:=Unit))=xs.map (·.1):=by
  have:=congrArg Prod.fst hx
  simp only at this
  rw[this]; rfl
 have hC:Tryz.prog.cellsOf 186=2:=by kernel_rfl
 have hsz:cs0.toList.length=108:=hlen.trans (by kernel_rfl)
 have each:∀ i,i<54→(cs0.toList.drop (i*2)).take 2=((xs.map (·.1)).map ZwS).getD i []:=by
  intro i hi
  have h1:=hg i hi
  rw[hC,List.getElem?_eq_getElem (by omega)] at h1
  obtain⟨ys,n,_,hy,hcl,hyl,hf⟩:=DataW.trod_struct Tryz.underlying186 h1
  have hcl:((cs0.toList.drop (i*2)).take 2).length=2:=hcl.trans hC
  have f0:=hf 0 _ rfl
  have f1:=hf 1 _ rfl
  match hc:(cs0.toList.drop (i*2)).take 2,hcl with
  | [a,b],_ =>
   rw[hc] at f0 f1
   match ys,hyl with
   | [y0,y1],_ =>
    obtain⟨s0,e0,d0,_⟩:=DataW.trod_string (x:=y0) Tryz.underlying9 f0
    obtain⟨s1,e1,d1,_⟩:=DataW.trod_string (x:=y1) Tryz.underlying9 f1
    have hS:Tryz.prog.cellsOf 9=1:=by kernel_rfl
    replace e0:List.take (Tryz.prog.cellsOf 9) [a,b]=[.string s0]:=e0
    replace e1:List.take (Tryz.prog.cellsOf 9) [b]=[.string s1]:=e1
    rw[hS] at e0 e1
    have e0:a = .string s0:=by simpa using e0
    have e1:b = .string s1:=by simpa using e1
    subst e0 e1 d0 d1
    have hx1:(xs[i]'(by omega)).1 = .agg [.lit (.string s0.data.toList),.lit (.string s1.data.toList)]:=congrArg Prod.fst hy
    rw[List.getD_eq_getElem?_getD,List.getElem?_map,List.getElem?_map,List.getElem?_eq_getElem (by omega)]
    simp only[Option.map_some,Option.getD_some,hx1]
    rfl
 have hcs:cs0.toList=Zw:=by
  rw[← ZuA,hL,List.flatMap_def]
  exact ZwT _ _ (by simp[hsz,hxl]) fun i hi=>each i (by simpa [hxl] using hi)
 have h0:MemPlace.cell 0 0∈ps:=by
  rw[hps]
  refine List.mem_append_left _ (List.mem_append_left _ ?_)
  have:cs0.size=108:=by simpa using hsz
  rw[this]
  simp[MemPlace.row,List.range_succ]
 obtain⟨c,ty,hb⟩:=(hall 0 0 h0).1
 refine⟨c,ty,hb,?_⟩
 unfold World.var? at hv0
 rw[hg0] at hv0
 simp only[Option.bind_some] at hv0
 rw[hb] at hv0
 cases hv0
 exact hcs
end Go.Proofs.YtagacmljbgkmoaaGreatDoor
namespace Go.Proofs.YtagacmljbgkmoaaGreatDoor
open Go.IntKind (u8 u16 u32 u64 i64)
open Go.RowKit
open Sy
set_option maxRecDepth 100000
def Yq (rc:List Value):Sy.Heap:=[(0,⟨false,none,rc,none⟩)]
def gwC (f:List Value) (rc:List Value) (v:Value):Con:=⟨f,64,Yq rc,[],v,64,[],[]⟩
def enL (i:In) (rc:List Value) (x:UInt8) (xs bs:List UInt8):Sy.Steps:=[(65,129,gwC [.int .i64 i.op] rc (.string ⟨⟨x::xs⟩⟩),[]),(67,123,gwC [.int .i64 i.op] rc (.string ⟨⟨bs⟩⟩),[])]
def Ka (a:Int):=Zk7 a YL
def Zlo (a b c d e f:Prop):=Zk6 (Zun a b c d e f)
def ZrZ (a b c d e f g:Prop):=VP (Zk6 a) (Zlo b c d e f g)
def Zu (a:Nat→Bool):=okV a 3
def Zr0 (a b:Int):=Zk7 a (b:Int)
def Zr1 (a b c d e f g:Prop):=ZiD (ZrZ a b c d e f g)
def YK:=(97:UInt8)
def Ur (a:Int):=Zr0 a 2048
def XV (a:Int):=Zet a (-2048)
def Kx:=(105:UInt8)
def Zoa (a:List Value) (b:Nat) (c:List Value):=a=ZaH 64 b [] 3 c
def Zr2 (a b c d e f g:Prop) (h:List Value) (i:Nat) (j:List Value):=Zc1 a (ZrZ b c d e f g (Zoa h i j))
def Zr3 (a:Prop) (b:Bool) (c d e f g:Int):=ZiE a b (YM c) (YM d) (YM e) (YM f) (YM g)
def Zr4 (a b:List Value):=Zoa a 65 b
def ZiH (a:Prop) (b c d e f g:Int):=Zr3 a (YM b) c d e f g
def QI (a:List Value) (b c:Nat):=Ziu 64 (Yq a) b c 0
def U7 (a b:Int):=bits BinOp.and u32 (u32.wrap a) (b:Int)
def JR (a:Prop) (b c d e:Int):=UI a (Ka b) (Ka c) (Ka d) (Ka e)
def ZbF (a:Prop) (b c:Int) (d e:Bool):=Zld a (Ka b) (Ka c) d d d d e e
def Zdl (a:Prop) (b c:Int) (d:Bool):=ZbF a b c d d
def Zr5 (a:Int) (b c:Prop) (d:List Value) (e:List UInt8) (f:Int) (g h:Prop) (i:List Value):=Zr2 (QK (Zr1 (ZnY a a) b c b b b (Zr4 d d)) (Zt e [])) (ZnY f f) g h g g g i 67 i
def ZmA (a:Int) (b:Prop) (c:List Value) (d:List UInt8) (e:Int) (f:Prop) (g:List Value):=Um (Zr5 a Zh b c d e Zh f g)
def Zbk (a:Prop):=WA (JH a)
def K7 (a:Int) (b:Prop) (c:List Value) (d:List UInt8) (e:Int) (f:List Value):=ZmA a b c d e b f
def ZW:=Bx.mk (And.intro @Ka.eq_1 (And.intro @Zlo.eq_1 (And.intro @ZrZ.eq_1 (And.intro @Zu.eq_1 (And.intro @Zr0.eq_1 (And.intro @Zr1.eq_1 (And.intro @YK.eq_1 (And.intro @Ur.eq_1 (And.intro @XV.eq_1 (And.intro @Kx.eq_1 (And.intro @Zoa.eq_1 (And.intro @Zr2.eq_1 (And.intro @Zr3.eq_1 (And.intro @Zr4.eq_1 (And.intro @ZiH.eq_1 (And.intro @QI.eq_1 (And.intro @U7.eq_1 (And.intro @JR.eq_1 (And.intro @ZbF.eq_1 (And.intro @Zdl.eq_1 (And.intro @Zr5.eq_1 (And.intro @ZmA.eq_1 (And.intro @Zbk.eq_1 @K7.eq_1)))))))))))))))))))))))
theorem ZrY (i:In) (x:UInt8) (xs:List UInt8) (rc:List Value):obs (evF Tryz.prog (Zs 3 (Zb (enL i rc x xs [YK,Kx])) Zg) Zf 100 20 70 [i.val] (QI rc 44 12976142))=Wg [YG (Zco (Zcp i.op) (U7 i.a 15*Zg8) (U7 i.m 4095*QS)),YQ] (Zhp (Vo (Zdl (JR (Zbk (ZiH (ZeF (Vo (K7 i.op (rc.all (Zu (fun l=>l.blt 64))=true) rc (x::xs) i.op rc))) i.a i.a i.a i.a i.a i.a)) i.a i.a i.a i.a) i.a i.a (XV i.m))) (Ur i.m) (!(i.op==i.op&&(i.b==ZS&&XQ (i.c==ZS))))):=by kernel_rfl
def Zyn:=Bx.mk (by have h := @ZrY; simp(maxSteps:=99999999) only[ZL.v, ZZ.v, ZN.v, Z3.v, Qb.v, ZR.v, Qc.v, ZD.v, Ql.v, QY.v, J3.v, ZW.v, -eq_self] at h; exact h)
def ZeQ:=ZBJ 0
def Zdm (a b:Prop):=Zdj ZeQ Zdf a b
def Zob (a b c:Prop):=Zdm (a∧b) c
def Zoc (a:Int):=YM a=true
def JS (a:Prop) (b:Int):=a∧Zoc b
def ZfU (a b c:Prop):=Zob (ZrC a b b b b) b c
def Vg (a:Prop) (b:Int):=JS (JS a b) b
def K8 (a:Prop):=ZfU a Zh Zh
def Xl:=Bx.mk (And.intro @ZeQ.eq_1 (And.intro @Zdm.eq_1 (And.intro @Zob.eq_1 (And.intro @Zoc.eq_1 (And.intro @JS.eq_1 (And.intro @ZfU.eq_1 (And.intro @Vg.eq_1 @K8.eq_1)))))))
theorem Zph (i:In) (x:UInt8) (xs:List UInt8) (rc:List Value):obs (evF Tryz.prog (Zs 3 (Zb (enL i rc x xs [YK,Kx])) Zg) Zf 100 20 70 [i.val] (QI rc 44 17386023942158))=K8 (Um (Um (Zai (JH (JS (Vg (Vg (JS (Kq (K7 i.op (rc.all (Zu (fun l=>l.blt 64))=true) rc (x::xs) i.op rc)) i.a) i.a) i.a) i.a))))):=by kernel_rfl
def ZuB:=Bx.mk (by have h := @Zph; simp(maxSteps:=99999999) only[ZL.v, ZZ.v, ZN.v, Z3.v, Qb.v, ZR.v, Qc.v, XM.v, ZD.v, Ql.v, Zz.v, ZW.v, Xl.v, -eq_self] at h; exact h)
def Zod (a:Int):=Ka a=true
def Zct (a:Prop) (b:Int):=a∧Zod b
def KV (a:Prop) (b:Int):=Zct (Zct a b) b
def Zal (a:Prop):=K8 (WA a)
def Zam (a:Int) (b:Prop) (c:List Value) (d:List UInt8) (e:List Value) (f:Int):=ZiH (Kq (ZmA a b c d a b e)) f f f f f f
def K9:=Bx.mk (And.intro @Zod.eq_1 (And.intro @Zct.eq_1 (And.intro @KV.eq_1 (And.intro @Zal.eq_1 @Zam.eq_1))))
theorem Zpi (i:In) (x:UInt8) (xs:List UInt8) (rc:List Value):obs (evF Tryz.prog (Zs 3 (Zb (enL i rc x xs [YK,Kx])) Zg) Zf 100 20 70 [i.val] (QI rc 44 17386023813134))=Zal (V3 (Zct (KV (KV (Zct (Zbk (Zam i.op (rc.all (Zu (fun l=>l.blt 64))=true) rc (x::xs) rc i.a)) i.a) i.a) i.a) i.a)):=by kernel_rfl
def ZuC:=Bx.mk (by have h := @Zpi; simp(maxSteps:=99999999) only[ZL.v, ZZ.v, ZN.v, Z3.v, Qb.v, ZR.v, Qc.v, XM.v, ZD.v, Ql.v, QY.v, Zz.v, ZW.v, Xl.v, K9.v, -eq_self] at h; exact h)
def Zan (a:Prop) (b:Int):=ZaL a (Ka b)
def Zlp:=Bx.mk @Zan.eq_1
theorem Zpj (i:In) (x:UInt8) (xs:List UInt8) (rc:List Value):obs (evF Tryz.prog (Zs 3 (Zb (enL i rc x xs [YK,Kx])) Zg) Zf 100 20 70 [i.val] (QI rc 44 17384966848526))=K8 ((((((Zan (Zbk (Zam i.op (rc.all (Zu (fun l=>l.blt 64))=true) rc (x::xs) rc i.a)) i.a∧XV i.m=true)∧XV i.m=true)∧XV i.m=true)∧XV i.m=true)∧XV i.m=true)∧XV i.m=true):=by kernel_rfl
def ZuD:=Bx.mk (by have h := @Zpj; simp(maxSteps:=99999999) only[ZL.v, ZZ.v, ZN.v, Z3.v, Qb.v, ZR.v, Qc.v, XM.v, ZD.v, Ql.v, QY.v, Zz.v, ZW.v, Xl.v, K9.v, Zlp.v, -eq_self] at h; exact h)
theorem Zpk (i:In) (x:UInt8) (xs:List UInt8) (rc:List Value):obs (evF Tryz.prog (Zs 3 (Zb (enL i rc x xs [YK,Kx])) Zg) Zf 100 20 70 [i.val] (QI rc 44 17317321113614))=ZfU (KU (ZbF (Zbk (Zam i.op (rc.all (Zu (fun l=>l.blt 64))=true) rc (x::xs) rc i.a)) i.a i.a (Ka i.a) (XV i.m)) (XV i.m)) (Ur i.m=true) Zh:=by kernel_rfl
def ZuE:=Bx.mk (by have h := @Zpk; simp(maxSteps:=99999999) only[ZL.v, ZZ.v, ZN.v, Z3.v, Qb.v, ZR.v, Qc.v, XM.v, ZD.v, Ql.v, QY.v, JI.v, Zz.v, Uq.v, ZW.v, Xl.v, K9.v, -eq_self] at h; exact h)
theorem Zr6 (i:In) (x:UInt8) (xs:List UInt8) (rc:List Value):obs (evF Tryz.prog (Zs 3 (Zb (enL i rc x xs [YK,Kx])) Zg) Zf 100 20 70 [i.val] (QI rc 44 8796105998350))=Zdm (QK (KU (Vo (KU (ZbF (Zbk (Zam i.op (rc.all (Zu (fun l=>l.blt 64))=true) rc (x::xs) rc i.a)) i.a i.a (Ka i.a) (XV i.m)) (XV i.m))) (Ur i.m)) (Ur i.m)) ((!(i.op==i.op&&(i.b==ZS&&XQ (i.c==ZS))))=true):=by kernel_rfl
def Zyo:=Bx.mk (by have h := @Zr6; simp(maxSteps:=99999999) only[ZL.v, ZZ.v, ZN.v, Z3.v, Qb.v, ZR.v, Qc.v, XM.v, ZD.v, Ql.v, QY.v, JI.v, Zz.v, Uq.v, ZW.v, Xl.v, K9.v, -eq_self] at h; exact h)
def Zlq (a:Int):=Zr0 a 524288
def ZaM (a:Int):=Zet a (-524288)
def ZhF:=(106:UInt8)
def Us (a:Prop):=Zhn (YR a) Zh
def Zh8:=Bx.mk (And.intro @Zlq.eq_1 (And.intro @ZaM.eq_1 (And.intro @ZhF.eq_1 @Us.eq_1)))
theorem Zr7 (i:In) (x:UInt8) (xs:List UInt8) (rc:List Value):obs (evF Tryz.prog (Zs 3 (Zb (enL i rc x xs [YK,ZhF])) Zg) Zf 100 20 70 [i.val] (QI rc 45 25559054))=Wg [YG (Zco (Zcp i.op) (U7 i.a 15*Zg8) (U7 i.m 1048575*QS)),YQ] (Zhp (Vo (KU (ZbF (WA (Us (ZaD (Un (Kq (K7 i.op (rc.all (Zu (fun l=>l.blt 64))=true) rc (x::xs) i.op rc)) (YM i.a)) i.a i.a i.a (YM i.a)))) i.a i.a (Ka i.a) (ZaM i.m)) (ZaM i.m))) (Zlq i.m) (!(i.op==i.op&&(i.b==ZS&&XQ (i.c==ZS))))):=by kernel_rfl
def Zyp:=Bx.mk (by have h := @Zr7; simp(maxSteps:=99999999) only[ZL.v, ZZ.v, ZN.v, Z3.v, Qb.v, ZR.v, Qc.v, ZD.v, Ql.v, QY.v, J3.v, JI.v, Uq.v, ZW.v, Zh8.v, -eq_self] at h; exact h)
def Zbl (a:Prop):=Zai (V3 a)
def Zpm:=Bx.mk @Zbl.eq_1
theorem Zpl (i:In) (x:UInt8) (xs:List UInt8) (rc:List Value):obs (evF Tryz.prog (Zs 3 (Zb (enL i rc x xs [YK,ZhF])) Zg) Zf 100 20 70 [i.val] (QI rc 45 34772047362062))=Zal (Zbl (Us (JS (Vg (JS (Vg (Kq (K7 i.op (rc.all (Zu (fun l=>l.blt 64))=true) rc (x::xs) i.op rc)) i.a) i.a) i.a) i.a))):=by kernel_rfl
def ZuF:=Bx.mk (by have h := @Zpl; simp(maxSteps:=99999999) only[ZL.v, ZZ.v, ZN.v, Z3.v, Qb.v, ZR.v, Qc.v, XM.v, ZD.v, Ql.v, Zz.v, ZW.v, Xl.v, K9.v, Zh8.v, Zpm.v, -eq_self] at h; exact h)
theorem Zpn (i:In) (x:UInt8) (xs:List UInt8) (rc:List Value):obs (evF Tryz.prog (Zs 3 (Zb (enL i rc x xs [YK,ZhF])) Zg) Zf 100 20 70 [i.val] (QI rc 45 34772047233038))=K8 (V3 (WA (KV (KV (KV (WA (Us (Zam i.op (rc.all (Zu (fun l=>l.blt 64))=true) rc (x::xs) rc i.a))) i.a) i.a) i.a))):=by kernel_rfl
def ZuG:=Bx.mk (by have h := @Zpn; simp(maxSteps:=99999999) only[ZL.v, ZZ.v, ZN.v, Z3.v, Qb.v, ZR.v, Qc.v, XM.v, ZD.v, Ql.v, QY.v, Zz.v, ZW.v, Xl.v, K9.v, Zh8.v, -eq_self] at h; exact h)
theorem Zpo (i:In) (x:UInt8) (xs:List UInt8) (rc:List Value):obs (evF Tryz.prog (Zs 3 (Zb (enL i rc x xs [YK,ZhF])) Zg) Zf 100 20 70 [i.val] (QI rc 45 34769933303822))=K8 ((((((Zan (WA (Us (Zam i.op (rc.all (Zu (fun l=>l.blt 64))=true) rc (x::xs) rc i.a))) i.a∧ZaM i.m=true)∧ZaM i.m=true)∧ZaM i.m=true)∧ZaM i.m=true)∧ZaM i.m=true)∧ZaM i.m=true):=by kernel_rfl
def ZuH:=Bx.mk (by have h := @Zpo; simp(maxSteps:=99999999) only[ZL.v, ZZ.v, ZN.v, Z3.v, Qb.v, ZR.v, Qc.v, XM.v, ZD.v, Ql.v, QY.v, Zz.v, ZW.v, Xl.v, K9.v, Zlp.v, Zh8.v, -eq_self] at h; exact h)
theorem Zpp (i:In) (x:UInt8) (xs:List UInt8) (rc:List Value):obs (evF Tryz.prog (Zs 3 (Zb (enL i rc x xs [YK,ZhF])) Zg) Zf 100 20 70 [i.val] (QI rc 45 34634641833998))=ZfU (QK (ZiF (JR (QK (WA (Us (Zam i.op (rc.all (Zu (fun l=>l.blt 64))=true) rc (x::xs) rc i.a))) (Ka i.a)) i.a i.a i.a i.a) (Ka i.a) (ZaM i.m) (ZaM i.m)) (ZaM i.m)) (Zlq i.m=true) Zh:=by kernel_rfl
def ZuI:=Bx.mk (by have h := @Zpp; simp(maxSteps:=99999999) only[ZL.v, ZZ.v, ZN.v, Z3.v, Qb.v, ZR.v, Qc.v, XM.v, ZD.v, Ql.v, QY.v, Zz.v, ZW.v, Xl.v, K9.v, Zh8.v, -eq_self] at h; exact h)
theorem Zr8 (i:In) (x:UInt8) (xs:List UInt8) (rc:List Value):obs (evF Tryz.prog (Zs 3 (Zb (enL i rc x xs [YK,ZhF])) Zg) Zf 100 20 70 [i.val] (QI rc 45 17592211603470))=Zdm (QK (KU (Vo (Zdl (JR (WA (Us (Zam i.op (rc.all (Zu (fun l=>l.blt 64))=true) rc (x::xs) rc i.a))) i.a i.a i.a i.a) i.a i.a (ZaM i.m))) (Zlq i.m)) (Zlq i.m)) ((!(i.op==i.op&&(i.b==ZS&&XQ (i.c==ZS))))=true):=by kernel_rfl
def Zyq:=Bx.mk (by have h := @Zr8; simp(maxSteps:=99999999) only[ZL.v, ZZ.v, ZN.v, Z3.v, Qb.v, ZR.v, Qc.v, XM.v, ZD.v, Ql.v, QY.v, JI.v, Zz.v, Uq.v, ZW.v, Xl.v, K9.v, Zh8.v, -eq_self] at h; exact h)
def W3:=(98:UInt8)
def ZeR:=(99:UInt8)
def ZeS (a b:Prop):=ZeJ (Vo a) b
def ZeT (a:Prop) (b:Int):=QK a (YM b)
def Zao (a:Prop):=ZeJ (Zlk a Zh Zh) Zh
def Ut:=Bx.mk (And.intro @W3.eq_1 (And.intro @ZeR.eq_1 (And.intro @ZeS.eq_1 (And.intro @ZeT.eq_1 @Zao.eq_1))))
theorem Zpq (i:In) (x:UInt8) (xs:List UInt8) (rc:List Value):obs (evF Tryz.prog (Zs 3 (Zb (enL i rc x xs [YK,W3,ZeR])) Zg) Zf 100 20 70 [i.val] (QI rc 60 326418956302))=Wg [YG (Zco (V4 (Zcp i.op) (U7 i.a 15*Zg8)) (U7 i.b 15*Km) (U7 i.c 15*(4096:Int))),YQ] (Zhp (Vo (ZeT (Zr3 (QK (JR (ZeS (WA (Zdl (JR (Zao (ZiH (ZeF (Vo (K7 i.op (rc.all (Zu (fun l=>l.blt 64))=true) rc (x::xs) i.op rc))) i.a i.a i.a i.a i.a i.a)) i.a i.a i.a i.a) i.a i.a (YM i.b))) Zh) i.b i.b i.b i.b) (Ka i.b)) (Ka i.b) i.c i.c i.c i.c i.c) i.c)) (Ka i.c) (!(i.op==i.op&&XQ (i.m==ZS)))):=by kernel_rfl
def ZuJ:=Bx.mk (by have h := @Zpq; simp(maxSteps:=99999999) only[ZL.v, ZZ.v, ZN.v, Z3.v, Qb.v, ZR.v, Qc.v, ZD.v, Ql.v, QY.v, J3.v, YN.v, ZW.v, Ut.v, -eq_self] at h; exact h)
theorem ZmB (i:In) (x:UInt8) (xs:List UInt8) (rc:List Value):obs (evF Tryz.prog (Zs 3 (Zb (enL i rc x xs [YK,W3,ZeR])) Zg) Zf 100 20 70 [i.val] (QI rc 60 1139409949807867918))=K8 (Zbl (ZeS (Zbl (WA (Zao (Vg (JS (Vg (JS (Kq (K7 i.op (rc.all (Zu (fun l=>l.blt 64))=true) rc (x::xs) i.op rc)) i.a) i.a) i.a) i.a)))) Zh)):=by kernel_rfl
def Zr9:=Bx.mk (by have h := @ZmB; simp(maxSteps:=99999999) only[ZL.v, ZZ.v, ZN.v, Z3.v, Qb.v, ZR.v, Qc.v, XM.v, ZD.v, Ql.v, Zz.v, YN.v, ZW.v, Xl.v, Zpm.v, Ut.v, -eq_self] at h; exact h)
def VQ (a:Int) (b:Prop) (c:List Value) (d:List UInt8) (e:List Value) (f:Int):=Zao (Zam a b c d e f)
def ZeU:=Bx.mk @VQ.eq_1
theorem ZmC (i:In) (x:UInt8) (xs:List UInt8) (rc:List Value):obs (evF Tryz.prog (Zs 3 (Zb (enL i rc x xs [YK,W3,ZeR])) Zg) Zf 100 20 70 [i.val] (QI rc 60 1139409949807738894))=Zal (Zai (WA (ZeS (Zai (KV (KV (KV (VQ i.op (rc.all (Zu (fun l=>l.blt 64))=true) rc (x::xs) rc i.a) i.a) i.a) i.a)) Zh))):=by kernel_rfl
def Zsa:=Bx.mk (by have h := @ZmC; simp(maxSteps:=99999999) only[ZL.v, ZZ.v, ZN.v, Z3.v, Qb.v, ZR.v, Qc.v, XM.v, ZD.v, Ql.v, QY.v, Zz.v, YN.v, ZW.v, Xl.v, K9.v, Ut.v, ZeU.v, -eq_self] at h; exact h)
theorem ZmD (i:In) (x:UInt8) (xs:List UInt8) (rc:List Value):obs (evF Tryz.prog (Zs 3 (Zb (enL i rc x xs [YK,W3,ZeR])) Zg) Zf 100 20 70 [i.val] (QI rc 60 1139409949543497742))=K8 (Zbl (ZeS (WA (Vg (Vg (Vg (Zan (VQ i.op (rc.all (Zu (fun l=>l.blt 64))=true) rc (x::xs) rc i.a) i.a) i.b) i.b) i.b)) Zh)):=by kernel_rfl
def Zsb:=Bx.mk (by have h := @ZmD; simp(maxSteps:=99999999) only[ZL.v, ZZ.v, ZN.v, Z3.v, Qb.v, ZR.v, Qc.v, XM.v, ZD.v, Ql.v, QY.v, Zz.v, YN.v, ZW.v, Xl.v, K9.v, Zlp.v, Zpm.v, Ut.v, ZeU.v, -eq_self] at h; exact h)
theorem ZmE (i:In) (x:UInt8) (xs:List UInt8) (rc:List Value):obs (evF Tryz.prog (Zs 3 (Zb (enL i rc x xs [YK,W3,ZeR])) Zg) Zf 100 20 70 [i.val] (QI rc 60 1139409932632064014))=Zal (V3 (KV (KV (KV (ZeS (YR (X5 (Un (ZeT (ZbF (VQ i.op (rc.all (Zu (fun l=>l.blt 64))=true) rc (x::xs) rc i.a) i.a i.a (Ka i.a) (YM i.b)) i.b) (YM i.b)) (YM i.b))) Zh) i.b) i.b) i.b)):=by kernel_rfl
def Zsc:=Bx.mk (by have h := @ZmE; simp(maxSteps:=99999999) only[ZL.v, ZZ.v, ZN.v, Z3.v, Qb.v, ZR.v, Qc.v, XM.v, ZD.v, Ql.v, QY.v, Zz.v, YN.v, ZW.v, Xl.v, K9.v, Ut.v, ZeU.v, -eq_self] at h; exact h)
theorem ZmF (i:In) (x:UInt8) (xs:List UInt8) (rc:List Value):obs (evF Tryz.prog (Zs 3 (Zb (enL i rc x xs [YK,W3,ZeR])) Zg) Zf 100 20 70 [i.val] (QI rc 60 1139340663399514126))=K8 (Vg (JS (Vg (JS (Zan (ZeS (WA (ZaD (ZbF (VQ i.op (rc.all (Zu (fun l=>l.blt 64))=true) rc (x::xs) rc i.a) i.a i.a (Ka i.a) (YM i.b)) i.b i.b i.b (YM i.b))) Zh) i.b) i.c) i.c) i.c) i.c):=by kernel_rfl
def Zsd:=Bx.mk (by have h := @ZmF; simp(maxSteps:=99999999) only[ZL.v, ZZ.v, ZN.v, Z3.v, Qb.v, ZR.v, Qc.v, XM.v, ZD.v, Ql.v, QY.v, Zz.v, YN.v, ZW.v, Xl.v, K9.v, Zlp.v, Ut.v, ZeU.v, -eq_self] at h; exact h)
theorem ZmG (i:In) (x:UInt8) (xs:List UInt8) (rc:List Value):obs (evF Tryz.prog (Zs 3 (Zb (enL i rc x xs [YK,W3,ZeR])) Zg) Zf 100 20 70 [i.val] (QI rc 60 1134907432516321294))=ZfU (ZaD (ZbF (ZeS (WA (Zdl (JR (Zao (ZaD (Un (Kq (K7 i.op (rc.all (Zu (fun l=>l.blt 64))=true) rc (x::xs) i.op rc)) (YM i.a)) i.a i.a i.a (YM i.a))) i.a i.a i.a i.a) i.a i.a (YM i.b))) Zh) i.b i.b (Ka i.b) (YM i.c)) i.c i.c i.c (YM i.c)) (Zod i.c) Zh:=by kernel_rfl
def Zse:=Bx.mk (by have h := @ZmG; simp(maxSteps:=99999999) only[ZL.v, ZZ.v, ZN.v, Z3.v, Qb.v, ZR.v, Qc.v, XM.v, ZD.v, Ql.v, Zz.v, YN.v, ZW.v, Xl.v, K9.v, Ut.v, -eq_self] at h; exact h)
theorem Zpr (i:In) (x:UInt8) (xs:List UInt8) (rc:List Value):obs (evF Tryz.prog (Zs 3 (Zb (enL i rc x xs [YK,W3,ZeR])) Zg) Zf 100 20 70 [i.val] (QI rc 60 576461078722379790))=Zdm (QK (JR (Vo (ZaD (ZbF (ZeS (WA (Zdl (JR (VQ i.op (rc.all (Zu (fun l=>l.blt 64))=true) rc (x::xs) rc i.a) i.a i.a i.a i.a) i.a i.a (YM i.b))) Zh) i.b i.b (Ka i.b) (YM i.c)) i.c i.c i.c (YM i.c))) i.c i.c i.c i.c) (Ka i.c)) ((!(i.op==i.op&&XQ (i.m==ZS)))=true):=by kernel_rfl
def ZuK:=Bx.mk (by have h := @Zpr; simp(maxSteps:=99999999) only[ZL.v, ZZ.v, ZN.v, Z3.v, Qb.v, ZR.v, Qc.v, XM.v, ZD.v, Ql.v, QY.v, Zz.v, YN.v, ZW.v, Xl.v, K9.v, Ut.v, ZeU.v, -eq_self] at h; exact h)
theorem Zps (i:In) (x:UInt8) (xs:List UInt8) (rc:List Value):obs (evF Tryz.prog (Zs 3 (Zb (enL i rc x xs [YK,W3,Kx])) Zg) Zf 100 20 70 [i.val] (QI rc 61 1700808491022))=Wg [YG (Zco (V4 (Zcp i.op) (U7 i.a 15*Zg8)) (U7 i.b 15*Km) (U7 i.m 4095*QS)),YQ] (Zhp (Vo (Zdl (JR (WA (Zn1 (X5 (ZaD (ZeT (Zan (VQ i.op (rc.all (Zu (fun l=>l.blt 64))=true) rc (x::xs) rc i.a) i.a) i.b) i.b i.b i.b (YM i.b)) (YM i.b)) Zh)) i.b i.b i.b i.b) i.b i.b (XV i.m))) (Ur i.m) (!(i.op==i.op&&XQ (i.c==ZS)))):=by kernel_rfl
def ZuL:=Bx.mk (by have h := @Zps; simp(maxSteps:=99999999) only[ZL.v, ZZ.v, ZN.v, Z3.v, Qb.v, ZR.v, Qc.v, ZD.v, Ql.v, QY.v, J3.v, YN.v, ZW.v, K9.v, Zlp.v, Ut.v, ZeU.v, -eq_self] at h; exact h)
theorem ZmH (i:In) (x:UInt8) (xs:List UInt8) (rc:List Value):obs (evF Tryz.prog (Zs 3 (Zb (enL i rc x xs [YK,W3,Kx])) Zg) Zf 100 20 70 [i.val] (QI rc 61 2278820930410510350))=Zal (Zbl (JH (Zbl (Zao (Vg (Vg (Vg (Kq (K7 i.op (rc.all (Zu (fun l=>l.blt 64))=true) rc (x::xs) i.op rc)) i.a) i.a) i.a))))):=by kernel_rfl
def Zsf:=Bx.mk (by have h := @ZmH; simp(maxSteps:=99999999) only[ZL.v, ZZ.v, ZN.v, Z3.v, Qb.v, ZR.v, Qc.v, XM.v, ZD.v, Ql.v, Zz.v, YN.v, ZW.v, Xl.v, K9.v, Zpm.v, Ut.v, -eq_self] at h; exact h)
theorem ZmI (i:In) (x:UInt8) (xs:List UInt8) (rc:List Value):obs (evF Tryz.prog (Zs 3 (Zb (enL i rc x xs [YK,W3,Kx])) Zg) Zf 100 20 70 [i.val] (QI rc 61 2278820930410381326))=Zal (Zbl (JH (WA (V3 (Zct (KV (Zct (KV (VQ i.op (rc.all (Zu (fun l=>l.blt 64))=true) rc (x::xs) rc i.a) i.a) i.a) i.a) i.a))))):=by kernel_rfl
def Zsg:=Bx.mk (by have h := @ZmI; simp(maxSteps:=99999999) only[ZL.v, ZZ.v, ZN.v, Z3.v, Qb.v, ZR.v, Qc.v, XM.v, ZD.v, Ql.v, QY.v, Zz.v, YN.v, ZW.v, Xl.v, K9.v, Zpm.v, Ut.v, ZeU.v, -eq_self] at h; exact h)
theorem ZmJ (i:In) (x:UInt8) (xs:List UInt8) (rc:List Value):obs (evF Tryz.prog (Zs 3 (Zb (enL i rc x xs [YK,W3,Kx])) Zg) Zf 100 20 70 [i.val] (QI rc 61 2278820930146140174))=Zal (V3 (Zai (JH (Vg (JS (Vg (JS (Zan (VQ i.op (rc.all (Zu (fun l=>l.blt 64))=true) rc (x::xs) rc i.a) i.a) i.b) i.b) i.b) i.b)))):=by kernel_rfl
def Zsh:=Bx.mk (by have h := @ZmJ; simp(maxSteps:=99999999) only[ZL.v, ZZ.v, ZN.v, Z3.v, Qb.v, ZR.v, Qc.v, XM.v, ZD.v, Ql.v, QY.v, Zz.v, YN.v, ZW.v, Xl.v, K9.v, Zlp.v, Ut.v, ZeU.v, -eq_self] at h; exact h)
theorem ZmK (i:In) (x:UInt8) (xs:List UInt8) (rc:List Value):obs (evF Tryz.prog (Zs 3 (Zb (enL i rc x xs [YK,W3,Kx])) Zg) Zf 100 20 70 [i.val] (QI rc 61 2278820913234706446))=Zal (V3 (Zct (KV (KV (Zct (Zbk (ZaD (ZbF (Zao (ZeT (ZaD (ZeT (Kq (K7 i.op (rc.all (Zu (fun l=>l.blt 64))=true) rc (x::xs) i.op rc)) i.a) i.a i.a i.a (YM i.a)) i.a)) i.a i.a (Ka i.a) (YM i.b)) i.b i.b i.b (YM i.b))) i.b) i.b) i.b) i.b)):=by kernel_rfl
def Zsi:=Bx.mk (by have h := @ZmK; simp(maxSteps:=99999999) only[ZL.v, ZZ.v, ZN.v, Z3.v, Qb.v, ZR.v, Qc.v, XM.v, ZD.v, Ql.v, Zz.v, YN.v, ZW.v, Xl.v, K9.v, Ut.v, -eq_self] at h; exact h)
theorem ZmL (i:In) (x:UInt8) (xs:List UInt8) (rc:List Value):obs (evF Tryz.prog (Zs 3 (Zb (enL i rc x xs [YK,W3,Kx])) Zg) Zf 100 20 70 [i.val] (QI rc 61 2278682374769606670))=K8 ((((((Zan (WA (Zn1 (X5 (ZaD (ZeT (Zan (VQ i.op (rc.all (Zu (fun l=>l.blt 64))=true) rc (x::xs) rc i.a) i.a) i.b) i.b i.b i.b (YM i.b)) (YM i.b)) Zh)) i.b∧XV i.m=true)∧XV i.m=true)∧XV i.m=true)∧XV i.m=true)∧XV i.m=true)∧XV i.m=true):=by kernel_rfl
def Zsj:=Bx.mk (by have h := @ZmL; simp(maxSteps:=99999999) only[ZL.v, ZZ.v, ZN.v, Z3.v, Qb.v, ZR.v, Qc.v, XM.v, ZD.v, Ql.v, QY.v, Zz.v, YN.v, ZW.v, Xl.v, K9.v, Zlp.v, Ut.v, ZeU.v, -eq_self] at h; exact h)
theorem ZmM (i:In) (x:UInt8) (xs:List UInt8) (rc:List Value):obs (evF Tryz.prog (Zs 3 (Zb (enL i rc x xs [YK,W3,Kx])) Zg) Zf 100 20 70 [i.val] (QI rc 61 2269815913003221006))=ZfU (ZaL (JR (Un (Zbk (Zdl (JR (VQ i.op (rc.all (Zu (fun l=>l.blt 64))=true) rc (x::xs) rc i.a) i.a i.a i.a i.a) i.a i.a (YM i.b))) (Ka i.b)) i.b i.b i.b i.b) (XV i.m)) (Ur i.m=true) Zh:=by kernel_rfl
def Zsk:=Bx.mk (by have h := @ZmM; simp(maxSteps:=99999999) only[ZL.v, ZZ.v, ZN.v, Z3.v, Qb.v, ZR.v, Qc.v, XM.v, ZD.v, Ql.v, QY.v, Zz.v, YN.v, ZW.v, Xl.v, K9.v, Ut.v, ZeU.v, -eq_self] at h; exact h)
theorem Zpt (i:In) (x:UInt8) (xs:List UInt8) (rc:List Value):obs (evF Tryz.prog (Zs 3 (Zb (enL i rc x xs [YK,W3,Kx])) Zg) Zf 100 20 70 [i.val] (QI rc 61 1152923205415337998))=Zdm (QK (KU (Vo (KU (ZbF (Zbk (ZiH (Zan (VQ i.op (rc.all (Zu (fun l=>l.blt 64))=true) rc (x::xs) rc i.a) i.a) i.b i.b i.b i.b i.b i.b)) i.b i.b (Ka i.b) (XV i.m)) (XV i.m))) (Ur i.m)) (Ur i.m)) ((!(i.op==i.op&&XQ (i.c==ZS)))=true):=by kernel_rfl
def ZuM:=Bx.mk (by have h := @Zpt; simp(maxSteps:=99999999) only[ZL.v, ZZ.v, ZN.v, Z3.v, Qb.v, ZR.v, Qc.v, XM.v, ZD.v, Ql.v, QY.v, JI.v, Zz.v, YN.v, Uq.v, ZW.v, Xl.v, K9.v, Zlp.v, Ut.v, ZeU.v, -eq_self] at h; exact h)
theorem Zsl (i:In) (x:UInt8) (xs:List UInt8) (rc:List Value):obs (evF Tryz.prog (Zs 3 (Zb (enL i rc x xs [YK,W3])) Zg) Zf 100 20 70 [i.val] (QI rc 42 1441806))=Wg [YG (Zco (Zcp i.op) (U7 i.a 15*Zg8) (U7 i.b 15*Km)),YQ] (Zhp (Vo (Zdl (JR (VQ i.op (rc.all (Zu (fun l=>l.blt 64))=true) rc (x::xs) rc i.a) i.a i.a i.a i.a) i.a i.a (YM i.b))) (Ka i.b) (!(i.op==i.op&&(i.c==ZS&&XQ (i.m==ZS))))):=by kernel_rfl
def Zyr:=Bx.mk (by have h := @Zsl; simp(maxSteps:=99999999) only[ZL.v, ZZ.v, ZN.v, Z3.v, Qb.v, ZR.v, Qc.v, ZD.v, Ql.v, QY.v, J3.v, YN.v, ZW.v, K9.v, Ut.v, ZeU.v, -eq_self] at h; exact h)
theorem Zpu (i:In) (x:UInt8) (xs:List UInt8) (rc:List Value):obs (evF Tryz.prog (Zs 3 (Zb (enL i rc x xs [YK,W3])) Zg) Zf 100 20 70 [i.val] (QI rc 42 4346504280078))=K8 (Zbl (Zao (JS (Vg (JS (Vg (Kq (K7 i.op (rc.all (Zu (fun l=>l.blt 64))=true) rc (x::xs) i.op rc)) i.a) i.a) i.a) i.a))):=by kernel_rfl
def ZuN:=Bx.mk (by have h := @Zpu; simp(maxSteps:=99999999) only[ZL.v, ZZ.v, ZN.v, Z3.v, Qb.v, ZR.v, Qc.v, XM.v, ZD.v, Ql.v, Zz.v, YN.v, ZW.v, Xl.v, Zpm.v, Ut.v, -eq_self] at h; exact h)
theorem Zpv (i:In) (x:UInt8) (xs:List UInt8) (rc:List Value):obs (evF Tryz.prog (Zs 3 (Zb (enL i rc x xs [YK,W3])) Zg) Zf 100 20 70 [i.val] (QI rc 42 4346504151054))=Zal (V3 (Zct (KV (Zct (KV (Zao (ZiH (ZeF (Vo (K7 i.op (rc.all (Zu (fun l=>l.blt 64))=true) rc (x::xs) i.op rc))) i.a i.a i.a i.a i.a i.a)) i.a) i.a) i.a) i.a)):=by kernel_rfl
def ZuO:=Bx.mk (by have h := @Zpv; simp(maxSteps:=99999999) only[ZL.v, ZZ.v, ZN.v, Z3.v, Qb.v, ZR.v, Qc.v, XM.v, ZD.v, Ql.v, QY.v, Zz.v, YN.v, ZW.v, Xl.v, K9.v, Ut.v, -eq_self] at h; exact h)
theorem Zpw (i:In) (x:UInt8) (xs:List UInt8) (rc:List Value):obs (evF Tryz.prog (Zs 3 (Zb (enL i rc x xs [YK,W3])) Zg) Zf 100 20 70 [i.val] (QI rc 42 4346239909902))=K8 (JS (Vg (Vg (V1 (JR (QK (VQ i.op (rc.all (Zu (fun l=>l.blt 64))=true) rc (x::xs) rc i.a) (Ka i.a)) i.a i.a i.a i.a) (Ka i.a) (Zoc i.b)) i.b) i.b) i.b):=by kernel_rfl
def ZuP:=Bx.mk (by have h := @Zpw; simp(maxSteps:=99999999) only[ZL.v, ZZ.v, ZN.v, Z3.v, Qb.v, ZR.v, Qc.v, XM.v, ZD.v, Ql.v, QY.v, Zz.v, YN.v, ZW.v, Xl.v, K9.v, Ut.v, ZeU.v, -eq_self] at h; exact h)
def Zsm (a:Prop) (b c:Bool):=ZeO a b c c
def ZeV (a:Prop) (b:Bool):=Zsm a b b
def ZmN:=Bx.mk (And.intro @Zsm.eq_1 @ZeV.eq_1)
theorem Zpx (i:In) (x:UInt8) (xs:List UInt8) (rc:List Value):obs (evF Tryz.prog (Zs 3 (Zb (enL i rc x xs [YK,W3])) Zg) Zf 100 20 70 [i.val] (QI rc 42 4329328476174))=ZfU (ZeV (ZeT (ZbF (VQ i.op (rc.all (Zu (fun l=>l.blt 64))=true) rc (x::xs) rc i.a) i.a i.a (Ka i.a) (YM i.b)) i.b) (YM i.b)) (Zod i.b) Zh:=by kernel_rfl
def ZuQ:=Bx.mk (by have h := @Zpx; simp(maxSteps:=99999999) only[ZL.v, ZZ.v, ZN.v, Z3.v, Qb.v, ZR.v, Qc.v, XM.v, ZD.v, Ql.v, QY.v, Zz.v, YN.v, Zfy.v, ZW.v, Xl.v, K9.v, Ut.v, ZeU.v, ZmN.v, -eq_self] at h; exact h)
theorem Zsn (i:In) (x:UInt8) (xs:List UInt8) (rc:List Value):obs (evF Tryz.prog (Zs 3 (Zb (enL i rc x xs [YK,W3])) Zg) Zf 100 20 70 [i.val] (QI rc 42 2199024697358))=Zdm (QK (JR (Vo (Zdl (JR (Zao (ZaD (Un (Kq (K7 i.op (rc.all (Zu (fun l=>l.blt 64))=true) rc (x::xs) i.op rc)) (YM i.a)) i.a i.a i.a (YM i.a))) i.a i.a i.a i.a) i.a i.a (YM i.b))) i.b i.b i.b i.b) (Ka i.b)) ((!(i.op==i.op&&(i.c==ZS&&XQ (i.m==ZS))))=true):=by kernel_rfl
def Zys:=Bx.mk (by have h := @Zsn; simp(maxSteps:=99999999) only[ZL.v, ZZ.v, ZN.v, Z3.v, Qb.v, ZR.v, Qc.v, XM.v, ZD.v, Ql.v, Zz.v, YN.v, ZW.v, Xl.v, Ut.v, -eq_self] at h; exact h)
def ZdS (a:Int) (b c:Prop) (d:List Value) (e:List UInt8) (f:Int) (g:Prop) (h:List Value):=Zr5 a b c d e f g c h
def Zpy:=Bx.mk @ZdS.eq_1
theorem ZuR (i:In) (x:UInt8) (xs:List UInt8) (rc:List Value):obs (evF Tryz.prog (Zs 3 (Zb (enL i rc x xs [])) Zg) Zf 100 20 70 [i.val] (QI rc 9 0))=Wg [Ju (ZfR i.op Zg9),YQ] (QK (Kq (ZdS i.op Zh (rc.all (Zu (fun l=>l.blt 64))=true) rc (x::xs) i.op Zh rc)) (!(i.op==i.op&&(i.a==ZS&&(i.b==ZS&&(i.c==ZS&&XQ (i.m==ZS))))))):=by kernel_rfl
def ZCr:=Bx.mk (by have h := @ZuR; simp(maxSteps:=99999999) only[ZL.v, ZZ.v, ZN.v, Z3.v, Qb.v, ZR.v, Qc.v, ZD.v, Ql.v, QY.v, Y9.v, ZW.v, Zpy.v, -eq_self] at h; exact h)
theorem ZuS (i:In) (x:UInt8) (xs:List UInt8) (rc:List Value):obs (evF Tryz.prog (Zs 3 (Zb (enL i rc x xs [])) Zg) Zf 100 20 70 [i.val] (QI rc 9 256))=Zdm (Kq (ZdS i.op Zh (rc.all (Zu (fun l=>l.blt 64))=true) rc (x::xs) i.op Zh rc)) ((!(i.op==i.op&&(i.a==ZS&&(i.b==ZS&&(i.c==ZS&&XQ (i.m==ZS))))))=true):=by kernel_rfl
def ZCs:=Bx.mk (by have h := @ZuS; simp(maxSteps:=99999999) only[ZL.v, ZZ.v, ZN.v, Z3.v, Qb.v, ZR.v, Qc.v, XM.v, ZD.v, Ql.v, Zz.v, ZW.v, Xl.v, Zpy.v, -eq_self] at h; exact h)
theorem ZuT (i:In) (x:UInt8) (xs:List UInt8) (rc:List Value):obs (evF Tryz.prog (Zs 3 (Zb (enL i rc x xs [Kx])) Zg) Zf 100 20 70 [i.val] (QI rc 28 198))=Wg [YG (V4 (Zcp i.op) (U7 i.m 4095*QS)),YQ] (ZeO (ZeV (Vo (ZaL (Vo (Us (JH (ZdS i.op Zh (rc.all (Zu (fun l=>l.blt 64))=true) rc (x::xs) i.op Zh rc)))) (XV i.m))) (Ur i.m)) (Ur i.m) (Ur i.m) (!(i.op==i.op&&(i.a==ZS&&(i.b==ZS&&XQ (i.c==ZS)))))):=by kernel_rfl
def ZCt:=Bx.mk (by have h := @ZuT; simp(maxSteps:=99999999) only[ZL.v, ZZ.v, ZN.v, Z3.v, Qb.v, ZR.v, Qc.v, ZD.v, Ql.v, QY.v, J3.v, Zfy.v, ZW.v, Zh8.v, ZmN.v, Zpy.v, -eq_self] at h; exact h)
theorem Zso (i:In) (x:UInt8) (xs:List UInt8) (rc:List Value):obs (evF Tryz.prog (Zs 3 (Zb (enL i rc x xs [Kx])) Zg) Zf 100 20 70 [i.val] (QI rc 28 265273542))=K8 ((ZiC (Us (JH (ZdS i.op Zh (rc.all (Zu (fun l=>l.blt 64))=true) rc (x::xs) i.op Zh rc))) (XV i.m=true)∧XV i.m=true)∧XV i.m=true):=by kernel_rfl
def Zyt:=Bx.mk (by have h := @Zso; simp(maxSteps:=99999999) only[ZL.v, ZZ.v, ZN.v, Z3.v, Qb.v, ZR.v, Qc.v, XM.v, ZD.v, Ql.v, Zz.v, ZW.v, Xl.v, Zh8.v, Zpy.v, -eq_self] at h; exact h)
theorem Zsp (i:In) (x:UInt8) (xs:List UInt8) (rc:List Value):obs (evF Tryz.prog (Zs 3 (Zb (enL i rc x xs [Kx])) Zg) Zf 100 20 70 [i.val] (QI rc 28 264241350))=ZfU (ZaL (Vo (Us (JH (ZdS i.op Zh (rc.all (Zu (fun l=>l.blt 64))=true) rc (x::xs) i.op Zh rc)))) (XV i.m)) (Ur i.m=true) Zh:=by kernel_rfl
def Zyu:=Bx.mk (by have h := @Zsp; simp(maxSteps:=99999999) only[ZL.v, ZZ.v, ZN.v, Z3.v, Qb.v, ZR.v, Qc.v, XM.v, ZD.v, Ql.v, QY.v, Zz.v, ZW.v, Xl.v, Zh8.v, Zpy.v, -eq_self] at h; exact h)
theorem ZuU (i:In) (x:UInt8) (xs:List UInt8) (rc:List Value):obs (evF Tryz.prog (Zs 3 (Zb (enL i rc x xs [Kx])) Zg) Zf 100 20 70 [i.val] (QI rc 28 134217926))=Zdm (QK (KU (Vo (ZaL (Vo (Us (JH (ZdS i.op Zh (rc.all (Zu (fun l=>l.blt 64))=true) rc (x::xs) i.op Zh rc)))) (XV i.m))) (Ur i.m)) (Ur i.m)) ((!(i.op==i.op&&(i.a==ZS&&(i.b==ZS&&XQ (i.c==ZS)))))=true):=by kernel_rfl
def ZCu:=Bx.mk (by have h := @ZuU; simp(maxSteps:=99999999) only[ZL.v, ZZ.v, ZN.v, Z3.v, Qb.v, ZR.v, Qc.v, XM.v, ZD.v, Ql.v, QY.v, JI.v, Zz.v, Uq.v, ZW.v, Xl.v, Zh8.v, Zpy.v, -eq_self] at h; exact h)
def ZiI (a b c d e:Int):={ op:=a,a:=b,b:=c,c:=d,m:=e:In }.val
def UK:=Bx.mk @ZiI.eq_1
theorem Zyv (i:In):obs (evF Tryz.prog Zg Zf 100 20 70 [ZiI ZS i.a i.b i.c i.m] (QI Zw 5 16))=Zdm (KT ZeC) Zh:=by kernel_rfl
def ZES:=Bx.mk (by have h := @Zyv; simp(maxSteps:=99999999) only[ZL.v, ZZ.v, ZN.v, Z3.v, Qb.v, ZR.v, Qc.v, XM.v, Ql.v, Zz.v, ZW.v, Xl.v, UK.v, -eq_self] at h; exact h)
theorem Zyw (i:In) (rc:List Value):obs (evF Tryz.prog Zg Zf 100 20 70 [i.val] (QI rc 5 31))=Zob (Vg (KL (Zoc i.op)) i.op) Zh Zh:=by kernel_rfl
def ZET:=Bx.mk (by have h := @Zyw; simp(maxSteps:=99999999) only[ZL.v, ZZ.v, Z3.v, ZR.v, XM.v, Ql.v, Zz.v, ZW.v, Xl.v, -eq_self] at h; exact h)
theorem Zyx (i:In) (rc:List Value):obs (evF Tryz.prog Zg Zf 100 20 70 [i.val] (QI rc 5 24))=Zob (Un (X3 (YM i.op)) (YM i.op)) (Uj i.op (53:Int)=true) Zh:=by kernel_rfl
def ZEU:=Bx.mk (by have h := @Zyx; simp(maxSteps:=99999999) only[ZL.v, ZZ.v, Z3.v, ZR.v, Qc.v, XM.v, Ql.v, Zz.v, ZW.v, Xl.v, -eq_self] at h; exact h)
theorem ZCv (op:Int) (rc:List Value):obs (evF Tryz.prog Zg Zf 100 20 129 [JM op] (QI rc 4 0))=QG (Value.string (Zkg (ZC undef rc (0+op.toNat*2)))) (K4 (YH (0+op.toNat*2+2) rc [ZfQ,ZfQ] (0+op.toNat*2)) (Vd op (Zet op 54)) (ZdM (ZeT (X3 (YM op)) op) (YM op) (Uj op (53:Int)))):=by kernel_rfl
def nm_r:=Bx.mk (by have h := @ZCv; simp(maxSteps:=99999999) only[ZL.v, ZZ.v, ZN.v, ZD.v, ZW.v, Ut.v, -eq_self] at h; exact h)
theorem ZCw (op:Int) (rc:List Value):obs (evF Tryz.prog Zg Zf 100 20 123 [JM op] (QI rc 4 0))=QG (Value.string (Zkg (ZC undef rc (0+op.toNat*2+1)))) (K4 (YH (0+op.toNat*2+2) rc [ZfQ,ZfQ] (0+op.toNat*2)) (Vd op (Zet op 54)) (ZeO (X3 (YM op)) (YM op) (YM op) (Uj op (53:Int)))):=by kernel_rfl
def fm_r:=Bx.mk (by have h := @ZCw; simp(maxSteps:=99999999) only[ZL.v, ZZ.v, ZN.v, ZD.v, Zfy.v, ZW.v, -eq_self] at h; exact h)
def Zsq (a b c d:Prop):=Zr1 a b c b b b d
def V5 (a b c d e:Int):=Qw (Zhk (Zhq (JM a) (JM b) c (JM d) (JM e)))
def Yk:=Bx.mk (And.intro @Zsq.eq_1 @V5.eq_1)
theorem ZCx (i:In) (w:Int) (e:Int) (rc:List Value):obs (evF Tryz.prog (Zs 3 (Zb [(65,70,gwC [i.val] rc (ZbQ [YG w,JM e]),[])]) Zg) Zf 100 20 33 [i.val] (Zn2 64 (Yq rc) [] 0))=Zhi (e==ZS) (Zsq (V5 i.op i.a i.b i.c i.m) Zh (rc.all (Zu (fun l=>l.blt 64))=true) (Zr4 rc rc)):=by kernel_rfl
def ma_a:=Bx.mk (by have h := @ZCx; simp(maxSteps:=99999999) only[ZL.v, ZZ.v, ZN.v, Z3.v, UF.v, QH.v, ZR.v, ZD.v, Qz.v, QV.v, ZW.v, Yk.v, -eq_self] at h; exact h)
def Zsr:List Nat:=[0,1,2,3,3,3,3,3,3,3,3,3,3,3,3,3,4,4,4,4,4,4,4,4,4,4,4,4,4,2,5,5,3,4,3,3,3,3,3,3,3,5,5,5,5,5,5,5,5,2,5,6,7,6]
def Zgf (op:Int):Nat:=if 1≤op∧op≤53 then Zsr.getD op.toNat 0 else 0
def Zh9:Nat→List UInt8
 | 1=>[97,105]
 | 2=>[97,106]
 | 3=>[97,98,99]
 | 4=>[97,98,105]
 | 5=>[97,98]
 | 6=>[]
 | 7=>[105]
 | _=>[]
def UG (v lo hi:Int):Bool:=!decide (v<lo) && !decide (v≥hi)
def J4:Nat→In→Bool
 | 1,i=>UG i.a (0:Int) (16:Int)&&(UG i.m (-2048:Int) (2048:Int)&&(i.op==i.op&&(i.b==0&&(i.c==0&&(true)))))
 | 2,i=>UG i.a (0:Int) (16:Int)&&(UG i.m (-524288:Int) (524288:Int)&&(i.op==i.op&&(i.b==0&&(i.c==0&&(true)))))
 | 3,i=>UG i.a (0:Int) (16:Int)&&(UG i.b (0:Int) (16:Int)&&(UG i.c (0:Int) (16:Int)&&(i.op==i.op&&(i.m==0&&(true)))))
 | 4,i=>UG i.a (0:Int) (16:Int)&&(UG i.b (0:Int) (16:Int)&&(UG i.m (-2048:Int) (2048:Int)&&(i.op==i.op&&(i.c==0&&(true)))))
 | 5,i=>UG i.a (0:Int) (16:Int)&&(UG i.b (0:Int) (16:Int)&&(i.op==i.op&&(i.c==0&&(i.m==0&&(true)))))
 | 6,i=>i.op==i.op&&(i.a==0&&(i.b==0&&(i.c==0&&(i.m==0&&(true)))))
 | 7,i=>UG i.m (-2048:Int) (2048:Int)&&(i.op==i.op&&(i.a==0&&(i.b==0&&(i.c==0&&(true)))))
 | _,_=>false
def J6 (i:In):Bool:=J4 (Zgf i.op) i
def Zpz (w v mask mul:Int):Int:=bits BinOp.or u32 w (u32.wrap (bits BinOp.and u32 (u32.wrap v) mask*mul))
def opE (i:In):Int:=u32.wrap (u32.wrap i.op*(16777216:Int))
def encC:Nat→In→Int
 | 1,i=>Zpz (Zpz (opE i) i.a 15 1048576) i.m 4095 1
 | 2,i=>Zpz (Zpz (opE i) i.a 15 1048576) i.m 1048575 1
 | 3,i=>Zpz (Zpz (Zpz (opE i) i.a 15 1048576) i.b 15 65536) i.c 15 4096
 | 4,i=>Zpz (Zpz (Zpz (opE i) i.a 15 1048576) i.b 15 65536) i.m 4095 1
 | 5,i=>Zpz (Zpz (opE i) i.a 15 1048576) i.b 15 65536
 | 6,i=>opE i
 | 7,i=>Zpz (opE i) i.m 4095 1
 | _,_=>0
def ZpA (i:In):Int:=if J6 i=true then encC (Zgf i.op) i else 0
def ZdT (i:In):Int:=if J6 i=true then 0 else 2
theorem Zcu:∀ v∈Zw,Z4 v=true:=fun v hv=>List.all_eq_true.1 (show Zw.all Z4=true by kernel_rfl) v hv
theorem Zss {q:Nat→Bool} (h:∀ l,l<64→q l=true):OkH q (Yq Zw):=⟨⟨h _ (by show(0:Nat)<64; omega),rfl,ZB Zcu⟩,trivial⟩
theorem Zcv {call:Qs} (hc:Zv Tryz.prog call) {fn:FuncId} {args:List Value} {v:Value} {T:List (Nat×Bool)} {q:Prop} (ha:args.all (okV (fun l=>Nat.blt l 64) 3)=true) (hv:X1 v=true) (hu:isU v=false) (h:obs (call fn args ⟨64,Yq Zw,[],0,T,0,True⟩)=some (v,q)) (hq:q):ConOk Tryz.prog fn 3 (gwC args Zw v)∧FlatC (gwC args Zw v):=by
 unfold obs at h
 obtain⟨⟨v',s'⟩,h1,h2⟩:=oM h
 simp only[Prod.mk.injEq] at h2
 obtain⟨rfl,rfl⟩:=h2
 refine⟨Qi hc ⟨by show 64≤64; omega,Nat.le_refl _,Zss (fun l hl=>Qq hl),rfl,rfl,rfl,ha,Ys hv 1,fun x hx=>by cases hx⟩ h1 hq (p:=fun l=>Nat.blt l 64) (σ:=id) ?_,⟨fun x hx=>by cases hx⟩⟩
 exact⟨fun _ _=>rfl,trivial,rfl,trivial,⟨Ys hv 1,by rw[Uh]; rfl⟩,hu,trivial,rfl,XA _ hv,fun x hx=>by cases hx⟩
theorem ZCy:∀ k:Nat,k≤53→Zkg (ZC undef Zw (0+k*2+1))=⟨⟨Zh9 (Zsr.getD k 0)⟩⟩∧(1≤k→∃ x xs,Zkg (ZC undef Zw (0+k*2))=⟨⟨x::xs⟩⟩)
 | 0,_=>⟨rfl,fun h=>absurd h (by decide)⟩
 | 1,_=>⟨rfl,fun _=>⟨_,_,rfl⟩⟩
 | 2,_=>⟨rfl,fun _=>⟨_,_,rfl⟩⟩
 | 3,_=>⟨rfl,fun _=>⟨_,_,rfl⟩⟩
 | 4,_=>⟨rfl,fun _=>⟨_,_,rfl⟩⟩
 | 5,_=>⟨rfl,fun _=>⟨_,_,rfl⟩⟩
 | 6,_=>⟨rfl,fun _=>⟨_,_,rfl⟩⟩
 | 7,_=>⟨rfl,fun _=>⟨_,_,rfl⟩⟩
 | 8,_=>⟨rfl,fun _=>⟨_,_,rfl⟩⟩
 | 9,_=>⟨rfl,fun _=>⟨_,_,rfl⟩⟩
 | 10,_=>⟨rfl,fun _=>⟨_,_,rfl⟩⟩
 | 11,_=>⟨rfl,fun _=>⟨_,_,rfl⟩⟩
 | 12,_=>⟨rfl,fun _=>⟨_,_,rfl⟩⟩
 | 13,_=>⟨rfl,fun _=>⟨_,_,rfl⟩⟩
 | 14,_=>⟨rfl,fun _=>⟨_,_,rfl⟩⟩
 | 15,_=>⟨rfl,fun _=>⟨_,_,rfl⟩⟩
 | 16,_=>⟨rfl,fun _=>⟨_,_,rfl⟩⟩
 | 17,_=>⟨rfl,fun _=>⟨_,_,rfl⟩⟩
 | 18,_=>⟨rfl,fun _=>⟨_,_,rfl⟩⟩
 | 19,_=>⟨rfl,fun _=>⟨_,_,rfl⟩⟩
 | 20,_=>⟨rfl,fun _=>⟨_,_,rfl⟩⟩
 | 21,_=>⟨rfl,fun _=>⟨_,_,rfl⟩⟩
 | 22,_=>⟨rfl,fun _=>⟨_,_,rfl⟩⟩
 | 23,_=>⟨rfl,fun _=>⟨_,_,rfl⟩⟩
 | 24,_=>⟨rfl,fun _=>⟨_,_,rfl⟩⟩
 | 25,_=>⟨rfl,fun _=>⟨_,_,rfl⟩⟩
 | 26,_=>⟨rfl,fun _=>⟨_,_,rfl⟩⟩
 | 27,_=>⟨rfl,fun _=>⟨_,_,rfl⟩⟩
 | 28,_=>⟨rfl,fun _=>⟨_,_,rfl⟩⟩
 | 29,_=>⟨rfl,fun _=>⟨_,_,rfl⟩⟩
 | 30,_=>⟨rfl,fun _=>⟨_,_,rfl⟩⟩
 | 31,_=>⟨rfl,fun _=>⟨_,_,rfl⟩⟩
 | 32,_=>⟨rfl,fun _=>⟨_,_,rfl⟩⟩
 | 33,_=>⟨rfl,fun _=>⟨_,_,rfl⟩⟩
 | 34,_=>⟨rfl,fun _=>⟨_,_,rfl⟩⟩
 | 35,_=>⟨rfl,fun _=>⟨_,_,rfl⟩⟩
 | 36,_=>⟨rfl,fun _=>⟨_,_,rfl⟩⟩
 | 37,_=>⟨rfl,fun _=>⟨_,_,rfl⟩⟩
 | 38,_=>⟨rfl,fun _=>⟨_,_,rfl⟩⟩
 | 39,_=>⟨rfl,fun _=>⟨_,_,rfl⟩⟩
 | 40,_=>⟨rfl,fun _=>⟨_,_,rfl⟩⟩
 | 41,_=>⟨rfl,fun _=>⟨_,_,rfl⟩⟩
 | 42,_=>⟨rfl,fun _=>⟨_,_,rfl⟩⟩
 | 43,_=>⟨rfl,fun _=>⟨_,_,rfl⟩⟩
 | 44,_=>⟨rfl,fun _=>⟨_,_,rfl⟩⟩
 | 45,_=>⟨rfl,fun _=>⟨_,_,rfl⟩⟩
 | 46,_=>⟨rfl,fun _=>⟨_,_,rfl⟩⟩
 | 47,_=>⟨rfl,fun _=>⟨_,_,rfl⟩⟩
 | 48,_=>⟨rfl,fun _=>⟨_,_,rfl⟩⟩
 | 49,_=>⟨rfl,fun _=>⟨_,_,rfl⟩⟩
 | 50,_=>⟨rfl,fun _=>⟨_,_,rfl⟩⟩
 | 51,_=>⟨rfl,fun _=>⟨_,_,rfl⟩⟩
 | 52,_=>⟨rfl,fun _=>⟨_,_,rfl⟩⟩
 | 53,_=>⟨rfl,fun _=>⟨_,_,rfl⟩⟩
 | k+54,h=>absurd h (by omega)
theorem Zoe:∀ k:Nat,k≤53→WH (0+k*2+2) Zw=true∧ZF [Value.string { data:=#[]:ByteArray },Value.string { data:=#[]:ByteArray }] Zw (0+k*2)=true
 | 0,_=>⟨rfl,rfl⟩
 | 1,_=>⟨rfl,rfl⟩
 | 2,_=>⟨rfl,rfl⟩
 | 3,_=>⟨rfl,rfl⟩
 | 4,_=>⟨rfl,rfl⟩
 | 5,_=>⟨rfl,rfl⟩
 | 6,_=>⟨rfl,rfl⟩
 | 7,_=>⟨rfl,rfl⟩
 | 8,_=>⟨rfl,rfl⟩
 | 9,_=>⟨rfl,rfl⟩
 | 10,_=>⟨rfl,rfl⟩
 | 11,_=>⟨rfl,rfl⟩
 | 12,_=>⟨rfl,rfl⟩
 | 13,_=>⟨rfl,rfl⟩
 | 14,_=>⟨rfl,rfl⟩
 | 15,_=>⟨rfl,rfl⟩
 | 16,_=>⟨rfl,rfl⟩
 | 17,_=>⟨rfl,rfl⟩
 | 18,_=>⟨rfl,rfl⟩
 | 19,_=>⟨rfl,rfl⟩
 | 20,_=>⟨rfl,rfl⟩
 | 21,_=>⟨rfl,rfl⟩
 | 22,_=>⟨rfl,rfl⟩
 | 23,_=>⟨rfl,rfl⟩
 | 24,_=>⟨rfl,rfl⟩
 | 25,_=>⟨rfl,rfl⟩
 | 26,_=>⟨rfl,rfl⟩
 | 27,_=>⟨rfl,rfl⟩
 | 28,_=>⟨rfl,rfl⟩
 | 29,_=>⟨rfl,rfl⟩
 | 30,_=>⟨rfl,rfl⟩
 | 31,_=>⟨rfl,rfl⟩
 | 32,_=>⟨rfl,rfl⟩
 | 33,_=>⟨rfl,rfl⟩
 | 34,_=>⟨rfl,rfl⟩
 | 35,_=>⟨rfl,rfl⟩
 | 36,_=>⟨rfl,rfl⟩
 | 37,_=>⟨rfl,rfl⟩
 | 38,_=>⟨rfl,rfl⟩
 | 39,_=>⟨rfl,rfl⟩
 | 40,_=>⟨rfl,rfl⟩
 | 41,_=>⟨rfl,rfl⟩
 | 42,_=>⟨rfl,rfl⟩
 | 43,_=>⟨rfl,rfl⟩
 | 44,_=>⟨rfl,rfl⟩
 | 45,_=>⟨rfl,rfl⟩
 | 46,_=>⟨rfl,rfl⟩
 | 47,_=>⟨rfl,rfl⟩
 | 48,_=>⟨rfl,rfl⟩
 | 49,_=>⟨rfl,rfl⟩
 | 50,_=>⟨rfl,rfl⟩
 | 51,_=>⟨rfl,rfl⟩
 | 52,_=>⟨rfl,rfl⟩
 | 53,_=>⟨rfl,rfl⟩
 | k+54,h=>absurd h (by omega)
theorem ZhG (op:Int) (h1:1≤op) (h2:op≤53):∃ (x:UInt8) (xs:List UInt8),ConOk Tryz.prog 129 3 (gwC [.int .i64 op] Zw (.string ⟨⟨x::xs⟩⟩))∧FlatC (gwC [.int .i64 op] Zw (.string ⟨⟨x::xs⟩⟩)):=by
 obtain⟨k,rfl⟩:=Int.eq_ofNat_of_zero_le (show 0≤op by omega)
 have hr:=nm_r.v (k:Int) Zw
 obtain⟨_,x,xs,hx⟩:_∧_:=⟨trivial,(ZCy k (by omega)).2 (by omega)⟩
 obtain⟨g1,g2⟩:=Zoe k (by omega)
 simp only[Int.toNat_natCast] at hr
 rw[hx] at hr
 refine⟨x,xs,Zcv (Zn (L:=100) Ze (Zc _) (Zd _) 20) rfl rfl rfl hr ?_⟩
 have d1:decide ((0:Int)≤(k:Int))=true:=decide_eq_true (by omega)
 have d2:decide ((k:Int)<54)=true:=decide_eq_true (by omega)
 have d3:decide ((k:Int)<0)=false:=decide_eq_false (by omega)
 have d4:decide ((k:Int)>53)=false:=decide_eq_false (by omega)
 simp only[g1,g2,d1,d2,d3,d4,Bool.and_self,cond_true,and_self]
theorem ZhH (op:Int) (h1:1≤op) (h2:op≤53):ConOk Tryz.prog 123 3 (gwC [.int .i64 op] Zw (.string ⟨⟨Zh9 (Zgf op)⟩⟩))∧FlatC (gwC [.int .i64 op] Zw (.string ⟨⟨Zh9 (Zgf op)⟩⟩)):=by
 obtain⟨k,rfl⟩:=Int.eq_ofNat_of_zero_le (show 0≤op by omega)
 have hr:=fm_r.v (k:Int) Zw
 have hx:=(ZCy k (by omega)).1
 obtain⟨g1,g2⟩:=Zoe k (by omega)
 have hc:Zgf (k:Int)=Zsr.getD k 0:=by unfold Zgf; rw[if_pos ⟨h1,h2⟩,Int.toNat_natCast]
 simp only[Int.toNat_natCast] at hr
 rw[hx,← hc] at hr
 refine Zcv (Zn (L:=100) Ze (Zc _) (Zd _) 20) rfl rfl rfl hr ?_
 have d1:decide ((0:Int)≤(k:Int))=true:=decide_eq_true (by omega)
 have d2:decide ((k:Int)<54)=true:=decide_eq_true (by omega)
 have d3:decide ((k:Int)<0)=false:=decide_eq_false (by omega)
 have d4:decide ((k:Int)>53)=false:=decide_eq_false (by omega)
 simp only[g1,g2,d1,d2,d3,d4,Bool.and_self,cond_true,and_self]
theorem Qm (x:UInt8) (xs:List UInt8):Zt (x::xs) []=false:=rfl
def ZaN (i:In) (w e:Int):Prop:=ConOk Tryz.prog 70 3 (gwC [i.val] Zw (.tuple ⟨[.int .u32 w,.int .i64 e]⟩))∧FlatC (gwC [i.val] Zw (.tuple ⟨[.int .u32 w,.int .i64 e]⟩))
theorem Yx {i:In} (h:ZaN i 0 2) (hm:J6 i=false):ZaN i (ZpA i) (ZdT i):=by
 unfold ZpA ZdT; rw[hm]; exact h
theorem ZdU {i:In} {c:Nat} (h:ZaN i (encC c i) 0) (hc:Zgf i.op=c) (hm:J6 i=true):ZaN i (ZpA i) (ZdT i):=by
 unfold ZpA ZdT; rw[hm,if_pos rfl,if_pos rfl,hc]; exact h
theorem Zx (p:Nat→Bool):Zw.all (okV p 3)=true:=Zj Zcu
theorem Zp (σ:Nat→Nat):Zw.map (rnV σ 3)=Zw:=Zk Zcu
theorem Zyy (i:In) (h1:1≤i.op) (h2:i.op≤53) (hc:Zgf i.op=1):ZaN i (ZpA i) (ZdT i):=by
 obtain⟨x,xs,hn,hnf⟩:=ZhG i.op h1 h2
 obtain⟨hf,hff⟩:=ZhH i.op h1 h2
 rw[hc] at hf hff
 have hb:∀ y∈enL i Zw x xs (Zh9 1),ConOk Tryz.prog y.2.1 3 y.2.2.1∧FlatC y.2.2.1:=fun y hy=>by
  simp only[enL,List.mem_cons,List.not_mem_nil,or_false] at hy
  rcases hy with rfl|rfl
  ·exact⟨hn,hnf⟩
  ·exact⟨hf,hff⟩
 have hs:=fun {T:List (Nat×Bool)} {w e:Int} {q:Prop} (h:obs (evF Tryz.prog (Zs 3 (Zb (enL i Zw x xs [97,105])) Zg) Zf 100 20 70 [i.val] ⟨64,Yq Zw,[],0,T,0,True⟩)=some (.tuple ⟨[.int .u32 w,.int .i64 e]⟩,q)) (hq:q)=>(Zcv (Zn (L:=100) Ze (Zo (Zi hb) (Zc _)) (Zd _) 20) rfl rfl rfl h hq:ZaN i w e)
 have hm:J6 i=J4 1 i:=by unfold J6; rw[hc]
 by_cases la:i.a<(0:Int)
 ·have da:decide (i.a<(0:Int))=true:=decide_eq_true la
  refine Yx (hs (ZuB.v i x xs Zw) (by simp only[da,Qm,Zx,Zp,Bool.not_false,Bool.not_true,and_true,true_and,and_self])) ?_
  rw[hm]; simp only[J4,UG,da,Bool.not_true,Bool.false_and,Bool.and_false]
 have da:decide (i.a<(0:Int))=false:=decide_eq_false la
 by_cases ka:i.a≥(16:Int)
 ·have ea:decide (i.a≥(16:Int))=true:=decide_eq_true ka
  refine Yx (hs (ZuC.v i x xs Zw) (by simp only[da,ea,Qm,Zx,Zp,Bool.not_false,Bool.not_true,and_true,true_and,and_self])) ?_
  rw[hm]; simp only[J4,UG,ea,Bool.not_true,Bool.false_and,Bool.and_false]
 have ea:decide (i.a≥(16:Int))=false:=decide_eq_false ka
 by_cases li:i.m<(-2048:Int)
 ·have di:decide (i.m<(-2048:Int))=true:=decide_eq_true li
  refine Yx (hs (ZuD.v i x xs Zw) (by simp only[di,da,ea,Qm,Zx,Zp,Bool.not_false,Bool.not_true,and_true,true_and,and_self])) ?_
  rw[hm]; simp only[J4,UG,di,Bool.not_true,Bool.false_and,Bool.and_false]
 have di:decide (i.m<(-2048:Int))=false:=decide_eq_false li
 by_cases ki:i.m≥(2048:Int)
 ·have ei:decide (i.m≥(2048:Int))=true:=decide_eq_true ki
  refine Yx (hs (ZuE.v i x xs Zw) (by simp only[di,ei,da,ea,Qm,Zx,Zp,Bool.not_false,Bool.not_true,and_true,true_and,and_self])) ?_
  rw[hm]; simp only[J4,UG,ei,Bool.not_true,Bool.false_and,Bool.and_false]
 have ei:decide (i.m≥(2048:Int))=false:=decide_eq_false ki
 cases hz:(i.op==i.op&&(i.b==(0:Int)&&(i.c==(0:Int)&&(true))))
 ·refine Yx (hs (Zyo.v i x xs Zw) (by simp only[hz,da,ea,di,ei,Qm,Zx,Zp,Bool.not_false,Bool.not_true,and_true,true_and,and_self])) ?_
  rw[hm]; simp only[J4]; rw[hz]; simp only[Bool.and_false]
 ·refine ZdU (hs (Zyn.v i x xs Zw) (by simp only[hz,da,ea,di,ei,Qm,Zx,Zp,Bool.not_false,Bool.not_true,and_true,true_and,and_self])) hc ?_
  rw[hm]; simp only[J4]; rw[hz]; simp only[UG,da,ea,di,ei,Bool.not_false,Bool.and_self]
theorem Zyz (i:In) (h1:1≤i.op) (h2:i.op≤53) (hc:Zgf i.op=2):ZaN i (ZpA i) (ZdT i):=by
 obtain⟨x,xs,hn,hnf⟩:=ZhG i.op h1 h2
 obtain⟨hf,hff⟩:=ZhH i.op h1 h2
 rw[hc] at hf hff
 have hb:∀ y∈enL i Zw x xs (Zh9 2),ConOk Tryz.prog y.2.1 3 y.2.2.1∧FlatC y.2.2.1:=fun y hy=>by
  simp only[enL,List.mem_cons,List.not_mem_nil,or_false] at hy
  rcases hy with rfl|rfl
  ·exact⟨hn,hnf⟩
  ·exact⟨hf,hff⟩
 have hs:=fun {T:List (Nat×Bool)} {w e:Int} {q:Prop} (h:obs (evF Tryz.prog (Zs 3 (Zb (enL i Zw x xs [97,106])) Zg) Zf 100 20 70 [i.val] ⟨64,Yq Zw,[],0,T,0,True⟩)=some (.tuple ⟨[.int .u32 w,.int .i64 e]⟩,q)) (hq:q)=>(Zcv (Zn (L:=100) Ze (Zo (Zi hb) (Zc _)) (Zd _) 20) rfl rfl rfl h hq:ZaN i w e)
 have hm:J6 i=J4 2 i:=by unfold J6; rw[hc]
 by_cases la:i.a<(0:Int)
 ·have da:decide (i.a<(0:Int))=true:=decide_eq_true la
  refine Yx (hs (ZuF.v i x xs Zw) (by simp only[da,Qm,Zx,Zp,Bool.not_false,Bool.not_true,and_true,true_and,and_self])) ?_
  rw[hm]; simp only[J4,UG,da,Bool.not_true,Bool.false_and,Bool.and_false]
 have da:decide (i.a<(0:Int))=false:=decide_eq_false la
 by_cases ka:i.a≥(16:Int)
 ·have ea:decide (i.a≥(16:Int))=true:=decide_eq_true ka
  refine Yx (hs (ZuG.v i x xs Zw) (by simp only[da,ea,Qm,Zx,Zp,Bool.not_false,Bool.not_true,and_true,true_and,and_self])) ?_
  rw[hm]; simp only[J4,UG,ea,Bool.not_true,Bool.false_and,Bool.and_false]
 have ea:decide (i.a≥(16:Int))=false:=decide_eq_false ka
 by_cases lj:i.m<(-524288:Int)
 ·have dj:decide (i.m<(-524288:Int))=true:=decide_eq_true lj
  refine Yx (hs (ZuH.v i x xs Zw) (by simp only[dj,da,ea,Qm,Zx,Zp,Bool.not_false,Bool.not_true,and_true,true_and,and_self])) ?_
  rw[hm]; simp only[J4,UG,dj,Bool.not_true,Bool.false_and,Bool.and_false]
 have dj:decide (i.m<(-524288:Int))=false:=decide_eq_false lj
 by_cases kj:i.m≥(524288:Int)
 ·have ej:decide (i.m≥(524288:Int))=true:=decide_eq_true kj
  refine Yx (hs (ZuI.v i x xs Zw) (by simp only[dj,ej,da,ea,Qm,Zx,Zp,Bool.not_false,Bool.not_true,and_true,true_and,and_self])) ?_
  rw[hm]; simp only[J4,UG,ej,Bool.not_true,Bool.false_and,Bool.and_false]
 have ej:decide (i.m≥(524288:Int))=false:=decide_eq_false kj
 cases hz:(i.op==i.op&&(i.b==(0:Int)&&(i.c==(0:Int)&&(true))))
 ·refine Yx (hs (Zyq.v i x xs Zw) (by simp only[hz,da,ea,dj,ej,Qm,Zx,Zp,Bool.not_false,Bool.not_true,and_true,true_and,and_self])) ?_
  rw[hm]; simp only[J4]; rw[hz]; simp only[Bool.and_false]
 ·refine ZdU (hs (Zyp.v i x xs Zw) (by simp only[hz,da,ea,dj,ej,Qm,Zx,Zp,Bool.not_false,Bool.not_true,and_true,true_and,and_self])) hc ?_
  rw[hm]; simp only[J4]; rw[hz]; simp only[UG,da,ea,dj,ej,Bool.not_false,Bool.and_self]
theorem ZuV (i:In) (h1:1≤i.op) (h2:i.op≤53) (hc:Zgf i.op=3):ZaN i (ZpA i) (ZdT i):=by
 obtain⟨x,xs,hn,hnf⟩:=ZhG i.op h1 h2
 obtain⟨hf,hff⟩:=ZhH i.op h1 h2
 rw[hc] at hf hff
 have hb:∀ y∈enL i Zw x xs (Zh9 3),ConOk Tryz.prog y.2.1 3 y.2.2.1∧FlatC y.2.2.1:=fun y hy=>by
  simp only[enL,List.mem_cons,List.not_mem_nil,or_false] at hy
  rcases hy with rfl|rfl
  ·exact⟨hn,hnf⟩
  ·exact⟨hf,hff⟩
 have hs:=fun {T:List (Nat×Bool)} {w e:Int} {q:Prop} (h:obs (evF Tryz.prog (Zs 3 (Zb (enL i Zw x xs [97,98,99])) Zg) Zf 100 20 70 [i.val] ⟨64,Yq Zw,[],0,T,0,True⟩)=some (.tuple ⟨[.int .u32 w,.int .i64 e]⟩,q)) (hq:q)=>(Zcv (Zn (L:=100) Ze (Zo (Zi hb) (Zc _)) (Zd _) 20) rfl rfl rfl h hq:ZaN i w e)
 have hm:J6 i=J4 3 i:=by unfold J6; rw[hc]
 by_cases la:i.a<(0:Int)
 ·have da:decide (i.a<(0:Int))=true:=decide_eq_true la
  refine Yx (hs (Zr9.v i x xs Zw) (by simp only[da,Qm,Zx,Zp,Bool.not_false,Bool.not_true,and_true,true_and,and_self])) ?_
  rw[hm]; simp only[J4,UG,da,Bool.not_true,Bool.false_and,Bool.and_false]
 have da:decide (i.a<(0:Int))=false:=decide_eq_false la
 by_cases ka:i.a≥(16:Int)
 ·have ea:decide (i.a≥(16:Int))=true:=decide_eq_true ka
  refine Yx (hs (Zsa.v i x xs Zw) (by simp only[da,ea,Qm,Zx,Zp,Bool.not_false,Bool.not_true,and_true,true_and,and_self])) ?_
  rw[hm]; simp only[J4,UG,ea,Bool.not_true,Bool.false_and,Bool.and_false]
 have ea:decide (i.a≥(16:Int))=false:=decide_eq_false ka
 by_cases lb:i.b<(0:Int)
 ·have db:decide (i.b<(0:Int))=true:=decide_eq_true lb
  refine Yx (hs (Zsb.v i x xs Zw) (by simp only[db,da,ea,Qm,Zx,Zp,Bool.not_false,Bool.not_true,and_true,true_and,and_self])) ?_
  rw[hm]; simp only[J4,UG,db,Bool.not_true,Bool.false_and,Bool.and_false]
 have db:decide (i.b<(0:Int))=false:=decide_eq_false lb
 by_cases kb:i.b≥(16:Int)
 ·have eb:decide (i.b≥(16:Int))=true:=decide_eq_true kb
  refine Yx (hs (Zsc.v i x xs Zw) (by simp only[db,eb,da,ea,Qm,Zx,Zp,Bool.not_false,Bool.not_true,and_true,true_and,and_self])) ?_
  rw[hm]; simp only[J4,UG,eb,Bool.not_true,Bool.false_and,Bool.and_false]
 have eb:decide (i.b≥(16:Int))=false:=decide_eq_false kb
 by_cases lc:i.c<(0:Int)
 ·have dc:decide (i.c<(0:Int))=true:=decide_eq_true lc
  refine Yx (hs (Zsd.v i x xs Zw) (by simp only[dc,da,ea,db,eb,Qm,Zx,Zp,Bool.not_false,Bool.not_true,and_true,true_and,and_self])) ?_
  rw[hm]; simp only[J4,UG,dc,Bool.not_true,Bool.false_and,Bool.and_false]
 have dc:decide (i.c<(0:Int))=false:=decide_eq_false lc
 by_cases kc:i.c≥(16:Int)
 ·have ec:decide (i.c≥(16:Int))=true:=decide_eq_true kc
  refine Yx (hs (Zse.v i x xs Zw) (by simp only[dc,ec,da,ea,db,eb,Qm,Zx,Zp,Bool.not_false,Bool.not_true,and_true,true_and,and_self])) ?_
  rw[hm]; simp only[J4,UG,ec,Bool.not_true,Bool.false_and,Bool.and_false]
 have ec:decide (i.c≥(16:Int))=false:=decide_eq_false kc
 cases hz:(i.op==i.op&&(i.m==(0:Int)&&(true)))
 ·refine Yx (hs (ZuK.v i x xs Zw) (by simp only[hz,da,ea,db,eb,dc,ec,Qm,Zx,Zp,Bool.not_false,Bool.not_true,and_true,true_and,and_self])) ?_
  rw[hm]; simp only[J4]; rw[hz]; simp only[Bool.and_false]
 ·refine ZdU (hs (ZuJ.v i x xs Zw) (by simp only[hz,da,ea,db,eb,dc,ec,Qm,Zx,Zp,Bool.not_false,Bool.not_true,and_true,true_and,and_self])) hc ?_
  rw[hm]; simp only[J4]; rw[hz]; simp only[UG,da,ea,db,eb,dc,ec,Bool.not_false,Bool.and_self]
theorem ZuW (i:In) (h1:1≤i.op) (h2:i.op≤53) (hc:Zgf i.op=4):ZaN i (ZpA i) (ZdT i):=by
 obtain⟨x,xs,hn,hnf⟩:=ZhG i.op h1 h2
 obtain⟨hf,hff⟩:=ZhH i.op h1 h2
 rw[hc] at hf hff
 have hb:∀ y∈enL i Zw x xs (Zh9 4),ConOk Tryz.prog y.2.1 3 y.2.2.1∧FlatC y.2.2.1:=fun y hy=>by
  simp only[enL,List.mem_cons,List.not_mem_nil,or_false] at hy
  rcases hy with rfl|rfl
  ·exact⟨hn,hnf⟩
  ·exact⟨hf,hff⟩
 have hs:=fun {T:List (Nat×Bool)} {w e:Int} {q:Prop} (h:obs (evF Tryz.prog (Zs 3 (Zb (enL i Zw x xs [97,98,105])) Zg) Zf 100 20 70 [i.val] ⟨64,Yq Zw,[],0,T,0,True⟩)=some (.tuple ⟨[.int .u32 w,.int .i64 e]⟩,q)) (hq:q)=>(Zcv (Zn (L:=100) Ze (Zo (Zi hb) (Zc _)) (Zd _) 20) rfl rfl rfl h hq:ZaN i w e)
 have hm:J6 i=J4 4 i:=by unfold J6; rw[hc]
 by_cases la:i.a<(0:Int)
 ·have da:decide (i.a<(0:Int))=true:=decide_eq_true la
  refine Yx (hs (Zsf.v i x xs Zw) (by simp only[da,Qm,Zx,Zp,Bool.not_false,Bool.not_true,and_true,true_and,and_self])) ?_
  rw[hm]; simp only[J4,UG,da,Bool.not_true,Bool.false_and,Bool.and_false]
 have da:decide (i.a<(0:Int))=false:=decide_eq_false la
 by_cases ka:i.a≥(16:Int)
 ·have ea:decide (i.a≥(16:Int))=true:=decide_eq_true ka
  refine Yx (hs (Zsg.v i x xs Zw) (by simp only[da,ea,Qm,Zx,Zp,Bool.not_false,Bool.not_true,and_true,true_and,and_self])) ?_
  rw[hm]; simp only[J4,UG,ea,Bool.not_true,Bool.false_and,Bool.and_false]
 have ea:decide (i.a≥(16:Int))=false:=decide_eq_false ka
 by_cases lb:i.b<(0:Int)
 ·have db:decide (i.b<(0:Int))=true:=decide_eq_true lb
  refine Yx (hs (Zsh.v i x xs Zw) (by simp only[db,da,ea,Qm,Zx,Zp,Bool.not_false,Bool.not_true,and_true,true_and,and_self])) ?_
  rw[hm]; simp only[J4,UG,db,Bool.not_true,Bool.false_and,Bool.and_false]
 have db:decide (i.b<(0:Int))=false:=decide_eq_false lb
 by_cases kb:i.b≥(16:Int)
 ·have eb:decide (i.b≥(16:Int))=true:=decide_eq_true kb
  refine Yx (hs (Zsi.v i x xs Zw) (by simp only[db,eb,da,ea,Qm,Zx,Zp,Bool.not_false,Bool.not_true,and_true,true_and,and_self])) ?_
  rw[hm]; simp only[J4,UG,eb,Bool.not_true,Bool.false_and,Bool.and_false]
 have eb:decide (i.b≥(16:Int))=false:=decide_eq_false kb
 by_cases li:i.m<(-2048:Int)
 ·have di:decide (i.m<(-2048:Int))=true:=decide_eq_true li
  refine Yx (hs (Zsj.v i x xs Zw) (by simp only[di,da,ea,db,eb,Qm,Zx,Zp,Bool.not_false,Bool.not_true,and_true,true_and,and_self])) ?_
  rw[hm]; simp only[J4,UG,di,Bool.not_true,Bool.false_and,Bool.and_false]
 have di:decide (i.m<(-2048:Int))=false:=decide_eq_false li
 by_cases ki:i.m≥(2048:Int)
 ·have ei:decide (i.m≥(2048:Int))=true:=decide_eq_true ki
  refine Yx (hs (Zsk.v i x xs Zw) (by simp only[di,ei,da,ea,db,eb,Qm,Zx,Zp,Bool.not_false,Bool.not_true,and_true,true_and,and_self])) ?_
  rw[hm]; simp only[J4,UG,ei,Bool.not_true,Bool.false_and,Bool.and_false]
 have ei:decide (i.m≥(2048:Int))=false:=decide_eq_false ki
 cases hz:(i.op==i.op&&(i.c==(0:Int)&&(true)))
 ·refine Yx (hs (ZuM.v i x xs Zw) (by simp only[hz,da,ea,db,eb,di,ei,Qm,Zx,Zp,Bool.not_false,Bool.not_true,and_true,true_and,and_self])) ?_
  rw[hm]; simp only[J4]; rw[hz]; simp only[Bool.and_false]
 ·refine ZdU (hs (ZuL.v i x xs Zw) (by simp only[hz,da,ea,db,eb,di,ei,Qm,Zx,Zp,Bool.not_false,Bool.not_true,and_true,true_and,and_self])) hc ?_
  rw[hm]; simp only[J4]; rw[hz]; simp only[UG,da,ea,db,eb,di,ei,Bool.not_false,Bool.and_self]
theorem ZyA (i:In) (h1:1≤i.op) (h2:i.op≤53) (hc:Zgf i.op=5):ZaN i (ZpA i) (ZdT i):=by
 obtain⟨x,xs,hn,hnf⟩:=ZhG i.op h1 h2
 obtain⟨hf,hff⟩:=ZhH i.op h1 h2
 rw[hc] at hf hff
 have hb:∀ y∈enL i Zw x xs (Zh9 5),ConOk Tryz.prog y.2.1 3 y.2.2.1∧FlatC y.2.2.1:=fun y hy=>by
  simp only[enL,List.mem_cons,List.not_mem_nil,or_false] at hy
  rcases hy with rfl|rfl
  ·exact⟨hn,hnf⟩
  ·exact⟨hf,hff⟩
 have hs:=fun {T:List (Nat×Bool)} {w e:Int} {q:Prop} (h:obs (evF Tryz.prog (Zs 3 (Zb (enL i Zw x xs [97,98])) Zg) Zf 100 20 70 [i.val] ⟨64,Yq Zw,[],0,T,0,True⟩)=some (.tuple ⟨[.int .u32 w,.int .i64 e]⟩,q)) (hq:q)=>(Zcv (Zn (L:=100) Ze (Zo (Zi hb) (Zc _)) (Zd _) 20) rfl rfl rfl h hq:ZaN i w e)
 have hm:J6 i=J4 5 i:=by unfold J6; rw[hc]
 by_cases la:i.a<(0:Int)
 ·have da:decide (i.a<(0:Int))=true:=decide_eq_true la
  refine Yx (hs (ZuN.v i x xs Zw) (by simp only[da,Qm,Zx,Zp,Bool.not_false,Bool.not_true,and_true,true_and,and_self])) ?_
  rw[hm]; simp only[J4,UG,da,Bool.not_true,Bool.false_and,Bool.and_false]
 have da:decide (i.a<(0:Int))=false:=decide_eq_false la
 by_cases ka:i.a≥(16:Int)
 ·have ea:decide (i.a≥(16:Int))=true:=decide_eq_true ka
  refine Yx (hs (ZuO.v i x xs Zw) (by simp only[da,ea,Qm,Zx,Zp,Bool.not_false,Bool.not_true,and_true,true_and,and_self])) ?_
  rw[hm]; simp only[J4,UG,ea,Bool.not_true,Bool.false_and,Bool.and_false]
 have ea:decide (i.a≥(16:Int))=false:=decide_eq_false ka
 by_cases lb:i.b<(0:Int)
 ·have db:decide (i.b<(0:Int))=true:=decide_eq_true lb
  refine Yx (hs (ZuP.v i x xs Zw) (by simp only[db,da,ea,Qm,Zx,Zp,Bool.not_false,Bool.not_true,and_true,true_and,and_self])) ?_
  rw[hm]; simp only[J4,UG,db,Bool.not_true,Bool.false_and,Bool.and_false]
 have db:decide (i.b<(0:Int))=false:=decide_eq_false lb
 by_cases kb:i.b≥(16:Int)
 ·have eb:decide (i.b≥(16:Int))=true:=decide_eq_true kb
  refine Yx (hs (ZuQ.v i x xs Zw) (by simp only[db,eb,da,ea,Qm,Zx,Zp,Bool.not_false,Bool.not_true,and_true,true_and,and_self])) ?_
  rw[hm]; simp only[J4,UG,eb,Bool.not_true,Bool.false_and,Bool.and_false]
 have eb:decide (i.b≥(16:Int))=false:=decide_eq_false kb
 cases hz:(i.op==i.op&&(i.c==(0:Int)&&(i.m==(0:Int)&&(true))))
 ·refine Yx (hs (Zys.v i x xs Zw) (by simp only[hz,da,ea,db,eb,Qm,Zx,Zp,Bool.not_false,Bool.not_true,and_true,true_and,and_self])) ?_
  rw[hm]; simp only[J4]; rw[hz]; simp only[Bool.and_false]
 ·refine ZdU (hs (Zyr.v i x xs Zw) (by simp only[hz,da,ea,db,eb,Qm,Zx,Zp,Bool.not_false,Bool.not_true,and_true,true_and,and_self])) hc ?_
  rw[hm]; simp only[J4]; rw[hz]; simp only[UG,da,ea,db,eb,Bool.not_false,Bool.and_self]
theorem ZCz (i:In) (h1:1≤i.op) (h2:i.op≤53) (hc:Zgf i.op=6):ZaN i (ZpA i) (ZdT i):=by
 obtain⟨x,xs,hn,hnf⟩:=ZhG i.op h1 h2
 obtain⟨hf,hff⟩:=ZhH i.op h1 h2
 rw[hc] at hf hff
 have hb:∀ y∈enL i Zw x xs (Zh9 6),ConOk Tryz.prog y.2.1 3 y.2.2.1∧FlatC y.2.2.1:=fun y hy=>by
  simp only[enL,List.mem_cons,List.not_mem_nil,or_false] at hy
  rcases hy with rfl|rfl
  ·exact⟨hn,hnf⟩
  ·exact⟨hf,hff⟩
 have hs:=fun {T:List (Nat×Bool)} {w e:Int} {q:Prop} (h:obs (evF Tryz.prog (Zs 3 (Zb (enL i Zw x xs [])) Zg) Zf 100 20 70 [i.val] ⟨64,Yq Zw,[],0,T,0,True⟩)=some (.tuple ⟨[.int .u32 w,.int .i64 e]⟩,q)) (hq:q)=>(Zcv (Zn (L:=100) Ze (Zo (Zi hb) (Zc _)) (Zd _) 20) rfl rfl rfl h hq:ZaN i w e)
 have hm:J6 i=J4 6 i:=by unfold J6; rw[hc]
 cases hz:(i.op==i.op&&(i.a==(0:Int)&&(i.b==(0:Int)&&(i.c==(0:Int)&&(i.m==(0:Int)&&(true))))))
 ·refine Yx (hs (ZCs.v i x xs Zw) (by simp only[hz,Qm,Zx,Zp,Bool.not_false,Bool.not_true,and_true,true_and,and_self])) ?_
  rw[hm]; simp only[J4]; rw[hz]
 ·refine ZdU (hs (ZCr.v i x xs Zw) (by simp only[hz,Qm,Zx,Zp,Bool.not_false,Bool.not_true,and_true,true_and,and_self])) hc ?_
  rw[hm]; simp only[J4]; rw[hz]
theorem ZCA (i:In) (h1:1≤i.op) (h2:i.op≤53) (hc:Zgf i.op=7):ZaN i (ZpA i) (ZdT i):=by
 obtain⟨x,xs,hn,hnf⟩:=ZhG i.op h1 h2
 obtain⟨hf,hff⟩:=ZhH i.op h1 h2
 rw[hc] at hf hff
 have hb:∀ y∈enL i Zw x xs (Zh9 7),ConOk Tryz.prog y.2.1 3 y.2.2.1∧FlatC y.2.2.1:=fun y hy=>by
  simp only[enL,List.mem_cons,List.not_mem_nil,or_false] at hy
  rcases hy with rfl|rfl
  ·exact⟨hn,hnf⟩
  ·exact⟨hf,hff⟩
 have hs:=fun {T:List (Nat×Bool)} {w e:Int} {q:Prop} (h:obs (evF Tryz.prog (Zs 3 (Zb (enL i Zw x xs [105])) Zg) Zf 100 20 70 [i.val] ⟨64,Yq Zw,[],0,T,0,True⟩)=some (.tuple ⟨[.int .u32 w,.int .i64 e]⟩,q)) (hq:q)=>(Zcv (Zn (L:=100) Ze (Zo (Zi hb) (Zc _)) (Zd _) 20) rfl rfl rfl h hq:ZaN i w e)
 have hm:J6 i=J4 7 i:=by unfold J6; rw[hc]
 by_cases li:i.m<(-2048:Int)
 ·have di:decide (i.m<(-2048:Int))=true:=decide_eq_true li
  refine Yx (hs (Zyt.v i x xs Zw) (by simp only[di,Qm,Zx,Zp,Bool.not_false,Bool.not_true,and_true,true_and,and_self])) ?_
  rw[hm]; simp only[J4,UG,di,Bool.not_true,Bool.false_and,Bool.and_false]
 have di:decide (i.m<(-2048:Int))=false:=decide_eq_false li
 by_cases ki:i.m≥(2048:Int)
 ·have ei:decide (i.m≥(2048:Int))=true:=decide_eq_true ki
  refine Yx (hs (Zyu.v i x xs Zw) (by simp only[di,ei,Qm,Zx,Zp,Bool.not_false,Bool.not_true,and_true,true_and,and_self])) ?_
  rw[hm]; simp only[J4,UG,ei,Bool.not_true,Bool.false_and,Bool.and_false]
 have ei:decide (i.m≥(2048:Int))=false:=decide_eq_false ki
 cases hz:(i.op==i.op&&(i.a==(0:Int)&&(i.b==(0:Int)&&(i.c==(0:Int)&&(true)))))
 ·refine Yx (hs (ZCu.v i x xs Zw) (by simp only[hz,di,ei,Qm,Zx,Zp,Bool.not_false,Bool.not_true,and_true,true_and,and_self])) ?_
  rw[hm]; simp only[J4]; rw[hz]; simp only[Bool.and_false]
 ·refine ZdU (hs (ZCt.v i x xs Zw) (by simp only[hz,di,ei,Qm,Zx,Zp,Bool.not_false,Bool.not_true,and_true,true_and,and_self])) hc ?_
  rw[hm]; simp only[J4]; rw[hz]; simp only[UG,di,ei,Bool.not_false,Bool.and_self]
theorem ZiJ (op:Int) (h1:1≤op) (h2:op≤53):Zgf op=1∨Zgf op=2∨Zgf op=3∨Zgf op=4∨Zgf op=5∨Zgf op=6∨Zgf op=7:=by
 obtain⟨k,rfl⟩:=Int.eq_ofNat_of_zero_le (show 0≤op by omega)
 have hc:Zgf (k:Int)=Zsr.getD k 0:=by unfold Zgf; rw[if_pos ⟨h1,h2⟩,Int.toNat_natCast]
 rw[hc]
 have hk:∀ k:Fin 54,1≤k.val→Zsr.getD k.val 0=1∨Zsr.getD k.val 0=2∨Zsr.getD k.val 0=3∨Zsr.getD k.val 0=4∨Zsr.getD k.val 0=5∨Zsr.getD k.val 0=6∨Zsr.getD k.val 0=7:=by decide
 exact hk ⟨k,by omega⟩ (by show 1≤k; omega)
theorem ZyB (i:In):ZaN i (ZpA i) (ZdT i):=by
 have hs:=fun {T:List (Nat×Bool)} {w e:Int} {q:Prop} (h:obs (evF Tryz.prog Zg Zf 100 20 70 [i.val] ⟨64,Yq Zw,[],0,T,0,True⟩)=some (.tuple ⟨[.int .u32 w,.int .i64 e]⟩,q)) (hq:q)=>(Zcv (Zn (L:=100) Ze (Zc _) (Zd _) 20) rfl rfl rfl h hq:ZaN i w e)
 have hno:∀ h:¬ (1≤i.op∧i.op≤53),J6 i=false:=fun h=>by unfold J6 Zgf; rw[if_neg h]; rfl
 by_cases l0:i.op<0
 ·have d0:decide (i.op<0)=true:=decide_eq_true l0
  exact Yx (hs (ZET.v i Zw) (by simp only[d0,and_self])) (hno (by omega))
 have d0:decide (i.op<0)=false:=decide_eq_false l0
 by_cases l1:i.op>53
 ·have d1:decide (i.op>53)=true:=decide_eq_true l1
  exact Yx (hs (ZEU.v i Zw) (by simp only[d0,d1,and_self])) (hno (by omega))
 by_cases l2:i.op=0
 ·obtain⟨op,a,b,c,m⟩:=i
  simp only at l2
  subst l2
  exact Yx (hs (ZES.v ⟨0,a,b,c,m⟩) (by simp only[and_self])) (hno (by show ¬ ((1:Int)≤0∧(0:Int)≤53); omega))
 have h1:1≤i.op:=by omega
 have h2:i.op≤53:=by omega
 rcases ZiJ i.op h1 h2 with h|h|h|h|h|h|h
 ·exact Zyy i h1 h2 h
 ·exact Zyz i h1 h2 h
 ·exact ZuV i h1 h2 h
 ·exact ZuW i h1 h2 h
 ·exact ZyA i h1 h2 h
 ·exact ZCz i h1 h2 h
 ·exact ZCA i h1 h2 h
theorem ZyC (i:In):ConOk Tryz.prog 33 3 (gwC [i.val] Zw (.bool (J6 i)))∧FlatC (gwC [i.val] Zw (.bool (J6 i))):=by
 have hr:=ma_a.v i (ZpA i) (ZdT i) Zw
 have e:(ZdT i==(0:Int))=J6 i:=by
  unfold ZdT
  cases J6 i<;>rfl
 rw[e] at hr
 refine Zcv (Zn (L:=100) Ze (Zo (Zi fun x hx => ?_) (Zc _)) (Zd _) 20) rfl rfl rfl hr ?_
 ·obtain rfl:=List.mem_singleton.1 hx
  exact ZyB i
 ·simp only[Zx,Zp,and_true,true_and,and_self]
theorem Zlr {i:In} (h:J6 i=true):0≤i.a∧i.a<16∧0≤i.b∧i.b<16∧0≤i.c∧i.c<16∧1≤i.op∧i.op≤53:=by
 have h0:1≤i.op∧i.op≤53:=by
  by_cases hh:1≤i.op∧i.op≤53
  ·exact hh
  ·unfold J6 Zgf at h; rw[if_neg hh] at h; cases h
 obtain⟨h1,h2⟩:=h0
 unfold J6 at h
 rcases ZiJ i.op h1 h2 with e|e|e|e|e|e|e<;>rw[e] at h<;>simp only[J4,UG,Bool.and_eq_true,Bool.not_eq_true',decide_eq_false_iff_not,beq_iff_eq] at h<;>omega
def mkL (cB:Cp) (lo hi:Nat) (L:Sy.Steps):Sy.Steps:=(69,76,Con.pure [cB.val] (.tuple ⟨[.int .u32 (lo:Nat),.int .u64 (hi:Nat)]⟩),[])::L
theorem ZCB (i:In) (fr:Nat→Cp) (cB:Cp) (lo:Nat) (hi:Nat):obs (evF Tryz.prog (Zs 3 (Zb (mkL cB lo hi [])) Zg) Zf 100 20 40 (Zhr fr (ZiI QS i.a i.b i.c i.m)) (Ks [(0,true)] 0))=U2 (ZjL (Ju i.m) 0 Xf Xf Xf Xf 0 false) (YR (QA (0+i.c.toNat*8+8) fr (0+i.c.toNat*8) i.c (0+i.b.toNat*8+8) (0+i.b.toNat*8) i.b (ZM fr (0+i.b.toNat*8) (0+i.b.toNat*8+1) i.b.toNat=ZI cB.C cB.E cB.B cB.T cB.P cB.Y cB.R cB.V))):=by kernel_rfl
def mk_1:=Bx.mk (by have h := @ZCB; simp(maxSteps:=99999999) only[ZL.v, ZZ.v, ZN.v, Z3.v, QH.v, ZR.v, Qz.v, Y9.v, QN.v, Z8.v, Zz.v, UK.v, -eq_self] at h; exact h)
theorem ZCC (i:In) (fr:Nat→Cp) (cB:Cp) (lo:Nat) (hi:Nat):obs (evF Tryz.prog (Zs 3 (Zb (mkL cB lo hi [])) Zg) Zf 100 20 40 (Zhr fr (ZiI QE i.a i.b i.c i.m)) (Ks [Zcq,(1,true)] 0))=U2 (ZjL (Ju (ZfR i.m (4096:Int))) 0 Xf Xf Xf Xf 0 false) (YR (YI (QA (0+i.c.toNat*8+8) fr (0+i.c.toNat*8) i.c (0+i.b.toNat*8+8) (0+i.b.toNat*8) i.b (ZM fr (0+i.b.toNat*8) (0+i.b.toNat*8+1) i.b.toNat=ZI cB.C cB.E cB.B cB.T cB.P cB.Y cB.R cB.V)))):=by kernel_rfl
def mk_2:=Bx.mk (by have h := @ZCC; simp(maxSteps:=99999999) only[ZL.v, ZZ.v, ZlY.v, ZN.v, Z3.v, Qb.v, QH.v, ZR.v, QY.v, Qz.v, Y9.v, QN.v, Z8.v, Zz.v, UK.v, -eq_self] at h; exact h)
theorem ZyD (i:In) (fr:Nat→Cp) (cB:Cp) (lo:Nat) (hi:Nat):obs (evF Tryz.prog (Zs 3 (Zb (mkL cB lo hi [])) Zg) Zf 100 20 40 (Zhr fr (ZiI YL i.a i.b i.c i.m)) (Ks [Zcq,Zdh,(2,true)] 0))=U2 (ZjL (ZrU fr (0+i.b.toNat*8) i.m) 0 Xf Xf Xf Xf 0 false) (Zhm (QA (0+i.c.toNat*8+8) fr (0+i.c.toNat*8) i.c (0+i.b.toNat*8+8) (0+i.b.toNat*8) i.b (ZM fr (0+i.b.toNat*8) (0+i.b.toNat*8+1) i.b.toNat=ZI cB.C cB.E cB.B cB.T cB.P cB.Y cB.R cB.V)) Zh):=by kernel_rfl
def ZEV:=Bx.mk (by have h := @ZyD; simp(maxSteps:=99999999) only[ZL.v, ZZ.v, ZN.v, Z3.v, Qb.v, QH.v, ZR.v, Qz.v, ZjN.v, Y9.v, QN.v, Z8.v, Zz.v, UK.v, -eq_self] at h; exact h)
def Ky (a:Nat→Cp) (b c d e f:Int):=Zhr a (ZiI (b:Int) c d e f)
def ZbS:=Bx.mk @Ky.eq_1
theorem ZyE (i:In) (fr:Nat→Cp) (cB:Cp) (lo:Nat) (hi:Nat) (r:Cp):obs (evF Tryz.prog (Zs 3 (Zb (mkL cB lo hi [(69,77,Con.pure [cB.val] r.val,[])])) Zg) Zf 100 20 40 (Ky fr 41 i.a i.b i.c i.m) (Y5 4 8))=QG (ZI r.C r.E r.B r.T r.P r.Y r.R r.V) (VA (YR (KT (VA (Vb (ZfT (0+i.c.toNat*8+8) fr (0+i.c.toNat*8)) (K4 (U3 i.c i.c) (ZfT (0+i.b.toNat*8+8) fr (0+i.b.toNat*8)) (Vb (U3 i.b i.b) True))) (ZM fr (0+i.b.toNat*8) (0+i.b.toNat*8+1) i.b.toNat=ZI cB.C cB.E cB.B cB.T cB.P cB.Y cB.R cB.V)))) (ZM fr (0+i.b.toNat*8) (0+i.b.toNat*8+1) i.b.toNat=ZI cB.C cB.E cB.B cB.T cB.P cB.Y cB.R cB.V)):=by kernel_rfl
def ZEW:=Bx.mk (by have h := @ZyE; simp(maxSteps:=99999999) only[ZL.v, ZZ.v, ZN.v, Z3.v, Qb.v, QH.v, ZR.v, Qc.v, QN.v, Zz.v, UK.v, ZbS.v, -eq_self] at h; exact h)
theorem ZyF (i:In) (fr:Nat→Cp) (cB:Cp) (lo:Nat) (hi:Nat) (x:Nat) (r:Cp):obs (evF Tryz.prog (Zs 3 (Zb (mkL cB lo hi [(69,71,JP cB.val (Qo x) r.val,[])])) Zg) Zf 100 20 40 (Ky fr 32 i.a i.b i.c i.m) (Y5 5 16))=QG (ZI r.C r.E r.B r.T r.P r.Y r.R r.V) (XS (YR (KM (QA (0+i.c.toNat*8+8) fr (0+i.c.toNat*8) i.c (0+i.b.toNat*8+8) (0+i.b.toNat*8) i.b (ZM fr (0+i.b.toNat*8) (0+i.b.toNat*8+1) i.b.toNat=ZI cB.C cB.E cB.B cB.T cB.P cB.Y cB.R cB.V)))) (ZM fr (0+i.b.toNat*8) (0+i.b.toNat*8+1) i.b.toNat=ZI cB.C cB.E cB.B cB.T cB.P cB.Y cB.R cB.V) (U0 (Ju (ZjT fr (0+i.b.toNat*8)+ZjT fr (0+i.c.toNat*8))) x)):=by kernel_rfl
def ZEX:=Bx.mk (by have h := @ZyF; simp(maxSteps:=99999999) only[ZL.v, ZZ.v, ZN.v, Z3.v, Qb.v, QH.v, ZR.v, ZD.v, Y9.v, QN.v, Zz.v, UK.v, ZbS.v, -eq_self] at h; exact h)
theorem ZyG (i:In) (fr:Nat→Cp) (cB:Cp) (lo:Nat) (hi:Nat) (x:Nat) (r:Cp):obs (evF Tryz.prog (Zs 3 (Zb (mkL cB lo hi [(69,71,JP cB.val (Qo x) r.val,[])])) Zg) Zf 100 20 40 (Ky fr 33 i.a i.b i.c i.m) (Y5 6 32))=QG (ZI r.C r.E r.B r.T r.P r.Y r.R r.V) (XS (YR (ZeF (QA (0+i.c.toNat*8+8) fr (0+i.c.toNat*8) i.c (0+i.b.toNat*8+8) (0+i.b.toNat*8) i.b (ZM fr (0+i.b.toNat*8) (0+i.b.toNat*8+1) i.b.toNat=ZI cB.C cB.E cB.B cB.T cB.P cB.Y cB.R cB.V)))) (ZM fr (0+i.b.toNat*8) (0+i.b.toNat*8+1) i.b.toNat=ZI cB.C cB.E cB.B cB.T cB.P cB.Y cB.R cB.V) (WO fr (0+i.b.toNat*8) i.m x)):=by kernel_rfl
def ZEY:=Bx.mk (by have h := @ZyG; simp(maxSteps:=99999999) only[ZL.v, ZZ.v, ZN.v, Z3.v, Qb.v, QH.v, ZR.v, ZD.v, Y9.v, QN.v, Zz.v, UK.v, ZbS.v, -eq_self] at h; exact h)
theorem ZyH (i:In) (fr:Nat→Cp) (cB:Cp) (lo:Nat) (hi:Nat) (x:Nat) (r:Cp):obs (evF Tryz.prog (Zs 3 (Zb (mkL cB lo hi [(69,71,JP cB.val (Qo x) r.val,[])])) Zg) Zf 100 20 40 (Ky fr 34 i.a i.b i.c i.m) (Y5 7 64))=QG (ZI r.C r.E r.B r.T r.P r.Y r.R r.V) (XS (Zhm (KM (QA (0+i.c.toNat*8+8) fr (0+i.c.toNat*8) i.c (0+i.b.toNat*8+8) (0+i.b.toNat*8) i.b (ZM fr (0+i.b.toNat*8) (0+i.b.toNat*8+1) i.b.toNat=ZI cB.C cB.E cB.B cB.T cB.P cB.Y cB.R cB.V))) Zh) (ZM fr (0+i.b.toNat*8) (0+i.b.toNat*8+1) i.b.toNat=ZI cB.C cB.E cB.B cB.T cB.P cB.Y cB.R cB.V) (WQ fr 0 (i.c.toNat*8) x)):=by kernel_rfl
def ZEZ:=Bx.mk (by have h := @ZyH; simp(maxSteps:=99999999) only[ZL.v, ZZ.v, ZN.v, Z3.v, Qb.v, QH.v, ZR.v, ZD.v, Y9.v, QN.v, Zz.v, Ku.v, UK.v, ZbS.v, -eq_self] at h; exact h)
theorem ZyI (i:In) (fr:Nat→Cp) (cB:Cp) (lo:Nat) (hi:Nat) (x:Nat) (r:Cp):obs (evF Tryz.prog (Zs 3 (Zb (mkL cB lo hi [(69,78,JP cB.val (Qo x) r.val,[])])) Zg) Zf 100 20 40 (Ky fr 35 i.a i.b i.c i.m) (Y5 8 128))=QG (ZI r.C r.E r.B r.T r.P r.Y r.R r.V) (XS (YR (Kq (QA (0+i.c.toNat*8+8) fr (0+i.c.toNat*8) i.c (0+i.b.toNat*8+8) (0+i.b.toNat*8) i.b (ZM fr (0+i.b.toNat*8) (0+i.b.toNat*8+1) i.b.toNat=ZI cB.C cB.E cB.B cB.T cB.P cB.Y cB.R cB.V)))) (ZM fr (0+i.b.toNat*8) (0+i.b.toNat*8+1) i.b.toNat=ZI cB.C cB.E cB.B cB.T cB.P cB.Y cB.R cB.V) (WQ fr 0 (i.c.toNat*8) x)):=by kernel_rfl
def ZE0:=Bx.mk (by have h := @ZyI; simp(maxSteps:=99999999) only[ZL.v, ZZ.v, ZN.v, Z3.v, Qb.v, QH.v, ZR.v, Qc.v, ZD.v, Y9.v, QN.v, Zz.v, Ku.v, UK.v, ZbS.v, -eq_self] at h; exact h)
theorem ZyJ (i:In) (fr:Nat→Cp) (cB:Cp) (lo:Nat) (hi:Nat) (x:Nat) (r:Cp):obs (evF Tryz.prog (Zs 3 (Zb (mkL cB lo hi [(69,79,JP cB.val (Qo x) r.val,[])])) Zg) Zf 100 20 40 (Ky fr 36 i.a i.b i.c i.m) (Y5 9 256))=QG (ZI r.C r.E r.B r.T r.P r.Y r.R r.V) (XS (YR (VE (QA (0+i.c.toNat*8+8) fr (0+i.c.toNat*8) i.c (0+i.b.toNat*8+8) (0+i.b.toNat*8) i.b (ZM fr (0+i.b.toNat*8) (0+i.b.toNat*8+1) i.b.toNat=ZI cB.C cB.E cB.B cB.T cB.P cB.Y cB.R cB.V)))) (ZM fr (0+i.b.toNat*8) (0+i.b.toNat*8+1) i.b.toNat=ZI cB.C cB.E cB.B cB.T cB.P cB.Y cB.R cB.V) (WQ fr 0 (i.c.toNat*8) x)):=by kernel_rfl
def ZE1:=Bx.mk (by have h := @ZyJ; simp(maxSteps:=99999999) only[ZL.v, ZZ.v, ZN.v, Z3.v, Qb.v, QH.v, ZR.v, ZD.v, J3.v, Y9.v, QN.v, Zz.v, Ku.v, UK.v, ZbS.v, -eq_self] at h; exact h)
theorem ZyK (i:In) (fr:Nat→Cp) (cB:Cp) (lo:Nat) (hi:Nat) (x:Nat) (r:Cp):obs (evF Tryz.prog (Zs 3 (Zb (mkL cB lo hi [(69,80,JP cB.val (Qo x) r.val,[])])) Zg) Zf 100 20 40 (Ky fr 37 i.a i.b i.c i.m) (Y5 10 512))=QG (ZI r.C r.E r.B r.T r.P r.Y r.R r.V) (XS (YR (YI (VE (QA (0+i.c.toNat*8+8) fr (0+i.c.toNat*8) i.c (0+i.b.toNat*8+8) (0+i.b.toNat*8) i.b (ZM fr (0+i.b.toNat*8) (0+i.b.toNat*8+1) i.b.toNat=ZI cB.C cB.E cB.B cB.T cB.P cB.Y cB.R cB.V))))) (ZM fr (0+i.b.toNat*8) (0+i.b.toNat*8+1) i.b.toNat=ZI cB.C cB.E cB.B cB.T cB.P cB.Y cB.R cB.V) (WQ fr 0 (i.c.toNat*8) x)):=by kernel_rfl
def ZE2:=Bx.mk (by have h := @ZyK; simp(maxSteps:=99999999) only[ZL.v, ZZ.v, ZN.v, Z3.v, Qb.v, QH.v, ZR.v, ZD.v, J3.v, Y9.v, QN.v, Zz.v, Ku.v, UK.v, ZbS.v, -eq_self] at h; exact h)
theorem ZyL (i:In) (fr:Nat→Cp) (cB:Cp) (lo:Nat) (hi:Nat) (cC:Cp) (r:Cp):obs (evF Tryz.prog (Zs 3 (Zb (mkL cB lo hi [(69,81,JP cB.val cC.val r.val,[])])) Zg) Zf 100 20 40 (Ky fr 38 i.a i.b i.c i.m) (Y5 11 1024))=QG (ZI r.C r.E r.B r.T r.P r.Y r.R r.V) (XS (Zhm (VE (QA (0+i.c.toNat*8+8) fr (0+i.c.toNat*8) i.c (0+i.b.toNat*8+8) (0+i.b.toNat*8) i.b (ZM fr (0+i.b.toNat*8) (0+i.b.toNat*8+1) i.b.toNat=ZI cB.C cB.E cB.B cB.T cB.P cB.Y cB.R cB.V))) Zh) (ZM fr (0+i.b.toNat*8) (0+i.b.toNat*8+1) i.b.toNat=ZI cB.C cB.E cB.B cB.T cB.P cB.Y cB.R cB.V) (ZM fr (0+i.c.toNat*8) (0+i.c.toNat*8+1) i.c.toNat=ZI cC.C cC.E cC.B cC.T cC.P cC.Y cC.R cC.V)):=by kernel_rfl
def ZE3:=Bx.mk (by have h := @ZyL; simp(maxSteps:=99999999) only[ZL.v, ZZ.v, ZN.v, Z3.v, Qb.v, QH.v, ZR.v, J3.v, Y9.v, QN.v, Zz.v, UK.v, ZbS.v, -eq_self] at h; exact h)
theorem ZyM (i:In) (fr:Nat→Cp) (cB:Cp) (lo:Nat) (hi:Nat) (cC:Cp) (r:Cp):obs (evF Tryz.prog (Zs 3 (Zb (mkL cB lo hi [(69,82,JP cB.val cC.val r.val,[])])) Zg) Zf 100 20 40 (Ky fr 39 i.a i.b i.c i.m) (Y5 12 2048))=QG (ZI r.C r.E r.B r.T r.P r.Y r.R r.V) (XS (YR (VE (KT (QA (0+i.c.toNat*8+8) fr (0+i.c.toNat*8) i.c (0+i.b.toNat*8+8) (0+i.b.toNat*8) i.b (ZM fr (0+i.b.toNat*8) (0+i.b.toNat*8+1) i.b.toNat=ZI cB.C cB.E cB.B cB.T cB.P cB.Y cB.R cB.V))))) (ZM fr (0+i.b.toNat*8) (0+i.b.toNat*8+1) i.b.toNat=ZI cB.C cB.E cB.B cB.T cB.P cB.Y cB.R cB.V) (ZM fr (0+i.c.toNat*8) (0+i.c.toNat*8+1) i.c.toNat=ZI cC.C cC.E cC.B cC.T cC.P cC.Y cC.R cC.V)):=by kernel_rfl
def ZE4:=Bx.mk (by have h := @ZyM; simp(maxSteps:=99999999) only[ZL.v, ZZ.v, ZN.v, Z3.v, Qb.v, QH.v, ZR.v, Qc.v, J3.v, Y9.v, QN.v, Zz.v, UK.v, ZbS.v, -eq_self] at h; exact h)
theorem ZyN (i:In) (fr:Nat→Cp) (cB:Cp) (lo:Nat) (hi:Nat) (cC:Cp) (r:Cp):obs (evF Tryz.prog (Zs 3 (Zb (mkL cB lo hi [(69,83,JP cC.val cB.val r.val,[])])) Zg) Zf 100 20 40 (Ky fr 40 i.a i.b i.c i.m) (Y5 13 4096))=QG (ZI r.C r.E r.B r.T r.P r.Y r.R r.V) (XS (YR (VE (KM (QA (0+i.c.toNat*8+8) fr (0+i.c.toNat*8) i.c (0+i.b.toNat*8+8) (0+i.b.toNat*8) i.b (ZM fr (0+i.b.toNat*8) (0+i.b.toNat*8+1) i.b.toNat=ZI cB.C cB.E cB.B cB.T cB.P cB.Y cB.R cB.V))))) (ZM fr (0+i.c.toNat*8) (0+i.c.toNat*8+1) i.c.toNat=ZI cC.C cC.E cC.B cC.T cC.P cC.Y cC.R cC.V) (ZM fr (0+i.b.toNat*8) (0+i.b.toNat*8+1) i.b.toNat=ZI cB.C cB.E cB.B cB.T cB.P cB.Y cB.R cB.V)):=by kernel_rfl
def ZE5:=Bx.mk (by have h := @ZyN; simp(maxSteps:=99999999) only[ZL.v, ZZ.v, ZN.v, Z3.v, Qb.v, QH.v, ZR.v, J3.v, Y9.v, QN.v, Zz.v, UK.v, ZbS.v, -eq_self] at h; exact h)
theorem ZyO (i:In) (fr:Nat→Cp) (cB:Cp) (lo:Nat) (hi:Nat):obs (evF Tryz.prog (Zs 3 (Zb (mkL cB lo hi [])) Zg) Zf 100 20 40 (Ky fr 42 i.a i.b i.c i.m) (Y5 14 8192))=U2 (ZjL (ZeM fr 0 (i.b.toNat*8)) 0 Xf Xf Xf Xf 0 false) (YR (YI (VE (KM (QA (0+i.c.toNat*8+8) fr (0+i.c.toNat*8) i.c (0+i.b.toNat*8+8) (0+i.b.toNat*8) i.b (ZM fr (0+i.b.toNat*8) (0+i.b.toNat*8+1) i.b.toNat=ZI cB.C cB.E cB.B cB.T cB.P cB.Y cB.R cB.V)))))):=by kernel_rfl
def ZE6:=Bx.mk (by have h := @ZyO; simp(maxSteps:=99999999) only[ZL.v, ZZ.v, ZN.v, Z3.v, Qb.v, QH.v, ZR.v, J3.v, QN.v, Z8.v, Zz.v, UK.v, ZbS.v, -eq_self] at h; exact h)
theorem ZyP (i:In) (fr:Nat→Cp) (cB:Cp) (lo:Nat) (hi:Nat):obs (evF Tryz.prog (Zs 3 (Zb (mkL cB lo hi [])) Zg) Zf 100 20 40 (Ky fr 43 i.a i.b i.c i.m) (Y5 15 16384))=U2 (Kt ↑lo 0 0) (YR (VE (Vo (KM (QA (0+i.c.toNat*8+8) fr (0+i.c.toNat*8) i.c (0+i.b.toNat*8+8) (0+i.b.toNat*8) i.b (ZM fr (0+i.b.toNat*8) (0+i.b.toNat*8+1) i.b.toNat=ZI cB.C cB.E cB.B cB.T cB.P cB.Y cB.R cB.V)))))):=by kernel_rfl
def ZE7:=Bx.mk (by have h := @ZyP; simp(maxSteps:=99999999) only[ZL.v, ZZ.v, ZN.v, Z3.v, Qb.v, QH.v, ZR.v, J3.v, QN.v, Z8.v, Zz.v, UK.v, ZbS.v, -eq_self] at h; exact h)
theorem ZyQ (i:In) (fr:Nat→Cp) (cB:Cp) (lo:Nat) (hi:Nat):obs (evF Tryz.prog (Zs 3 (Zb (mkL cB lo hi [])) Zg) Zf 100 20 40 (Ky fr 44 i.a i.b i.c i.m) (Y5 16 32768))=U2 (ZjL (Ju (Zhg (4294967295:Int) (u64.wrap (ZP hi-Zle lo)) (4294967295:Int))) 0 Xf Xf Xf Xf 0 false) (Zhm (KM (YI (VE (QA (0+i.c.toNat*8+8) fr (0+i.c.toNat*8) i.c (0+i.b.toNat*8+8) (0+i.b.toNat*8) i.b (ZM fr (0+i.b.toNat*8) (0+i.b.toNat*8+1) i.b.toNat=ZI cB.C cB.E cB.B cB.T cB.P cB.Y cB.R cB.V))))) Zh):=by kernel_rfl
def ZE8:=Bx.mk (by have h := @ZyQ; simp(maxSteps:=99999999) only[ZL.v, ZZ.v, ZN.v, Z3.v, Qb.v, QH.v, ZR.v, J3.v, Y9.v, Zup.v, QN.v, Z8.v, Zz.v, UK.v, ZbS.v, -eq_self] at h; exact h)
theorem ZyR (i:In) (fr:Nat→Cp) (cB:Cp) (lo:Nat) (hi:Nat):obs (evF Tryz.prog (Zs 3 (Zb (mkL cB lo hi [])) Zg) Zf 100 20 40 (Ky fr 45 i.a i.b i.c i.m) (Y5 17 65536))=U2 (ZjL (Ju (ZjT fr (0+i.b.toNat*8+1+1+1+1))) 0 Xf Xf Xf Xf 0 false) (YR (VE (VE (QA (0+i.c.toNat*8+8) fr (0+i.c.toNat*8) i.c (0+i.b.toNat*8+8) (0+i.b.toNat*8) i.b (ZM fr (0+i.b.toNat*8) (0+i.b.toNat*8+1) i.b.toNat=ZI cB.C cB.E cB.B cB.T cB.P cB.Y cB.R cB.V))))):=by kernel_rfl
def ZE9:=Bx.mk (by have h := @ZyR; simp(maxSteps:=99999999) only[ZL.v, ZZ.v, ZN.v, Z3.v, Qb.v, QH.v, ZR.v, J3.v, Y9.v, QN.v, Z8.v, Zz.v, UK.v, ZbS.v, -eq_self] at h; exact h)
theorem ZyS (i:In) (fr:Nat→Cp) (cB:Cp) (lo:Nat) (hi:Nat):obs (evF Tryz.prog (Zs 3 (Zb (mkL cB lo hi [])) Zg) Zf 100 20 40 (Ky fr 46 i.a i.b i.c i.m) (Y5 18 131072))=U2 (ZjL (Ju (ZjT fr (0+i.b.toNat*8+1+1+1+1+1))) 0 Xf Xf Xf Xf 0 false) (YR (YI (VE (VE (QA (0+i.c.toNat*8+8) fr (0+i.c.toNat*8) i.c (0+i.b.toNat*8+8) (0+i.b.toNat*8) i.b (ZM fr (0+i.b.toNat*8) (0+i.b.toNat*8+1) i.b.toNat=ZI cB.C cB.E cB.B cB.T cB.P cB.Y cB.R cB.V)))))):=by kernel_rfl
def ZFa:=Bx.mk (by have h := @ZyS; simp(maxSteps:=99999999) only[ZL.v, ZZ.v, ZN.v, Z3.v, Qb.v, QH.v, ZR.v, J3.v, Y9.v, QN.v, Z8.v, Zz.v, UK.v, ZbS.v, -eq_self] at h; exact h)
def ZhI (a:Bool):=[Value.bool a]
def ZpB:=Bx.mk @ZhI.eq_1
theorem ZyT (i:In) (fr:Nat→Cp) (cB:Cp) (lo:Nat) (hi:Nat) (k:Bool) (r:Cp):obs (evF Tryz.prog (Zs 3 (Zb (mkL cB lo hi [(69,84,Con.pure (ZhI k) r.val,[])])) Zg) Zf 100 20 40 (Ky fr 47 i.a i.b i.c i.m) (Y5 19 262144))=QG (ZI r.C r.E r.B r.T r.P r.Y r.R r.V) (VA (Zhm (VE (VE (QA (0+i.c.toNat*8+8) fr (0+i.c.toNat*8) i.c (0+i.b.toNat*8+8) (0+i.b.toNat*8) i.b (ZM fr (0+i.b.toNat*8) (0+i.b.toNat*8+1) i.b.toNat=ZI cB.C cB.E cB.B cB.T cB.P cB.Y cB.R cB.V)))) Zh) (ZeE (ZbD fr i.b.toNat) k)):=by kernel_rfl
def ZFb:=Bx.mk (by have h := @ZyT; simp(maxSteps:=99999999) only[ZL.v, ZZ.v, ZN.v, Z3.v, Qb.v, QH.v, ZR.v, J3.v, QN.v, Zz.v, UK.v, ZbS.v, ZpB.v, -eq_self] at h; exact h)
def Zls (a:List Value) (b:Bool):=Con.pure a (Value.bool b)
def ZuX:=Bx.mk @Zls.eq_1
theorem ZyU (i:In) (fr:Nat→Cp) (cB:Cp) (lo:Nat) (hi:Nat) (k:Bool) (r:Cp):obs (evF Tryz.prog (Zs 3 (Zb (mkL cB lo hi [(69,85,Zls [cB.val] k,[]),(69,84,Con.pure (ZhI k) r.val,[])])) Zg) Zf 100 20 40 (Ky fr 48 i.a i.b i.c i.m) (Y5 20 524288))=QG (ZI r.C r.E r.B r.T r.P r.Y r.R r.V) (VA (VA (YR (VE (KM (Kq (QA (0+i.c.toNat*8+8) fr (0+i.c.toNat*8) i.c (0+i.b.toNat*8+8) (0+i.b.toNat*8) i.b (ZM fr (0+i.b.toNat*8) (0+i.b.toNat*8+1) i.b.toNat=ZI cB.C cB.E cB.B cB.T cB.P cB.Y cB.R cB.V)))))) (ZM fr (0+i.b.toNat*8) (0+i.b.toNat*8+1) i.b.toNat=ZI cB.C cB.E cB.B cB.T cB.P cB.Y cB.R cB.V)) (ZeE k k)):=by kernel_rfl
def ZFc:=Bx.mk (by have h := @ZyU; simp(maxSteps:=99999999) only[ZL.v, ZZ.v, ZN.v, Z3.v, Qb.v, QH.v, ZR.v, Qc.v, J3.v, QN.v, Zz.v, UK.v, ZbS.v, ZpB.v, ZuX.v, -eq_self] at h; exact h)
theorem ZyV (i:In) (fr:Nat→Cp) (cB:Cp) (lo:Nat) (hi:Nat) (r:Cp):obs (evF Tryz.prog (Zs 3 (Zb (mkL cB lo hi [(69,34,ZeK fr (JM i.m) r.val,[])])) Zg) Zf 100 20 40 (Ky fr 49 i.a i.b i.c i.m) (Y5 21 1048576))=QG (ZI r.C r.E r.B r.T r.P r.Y r.R r.V) (XS (YR (KM (VE (VE (QA (0+i.c.toNat*8+8) fr (0+i.c.toNat*8) i.c (0+i.b.toNat*8+8) (0+i.b.toNat*8) i.b (ZM fr (0+i.b.toNat*8) (0+i.b.toNat*8+1) i.b.toNat=ZI cB.C cB.E cB.B cB.T cB.P cB.Y cB.R cB.V)))))) (Uo fr fr) (Y7 i.m)):=by kernel_rfl
def ZFd:=Bx.mk (by have h := @ZyV; simp(maxSteps:=99999999) only[ZL.v, ZZ.v, ZN.v, Z3.v, Qb.v, QH.v, ZR.v, Qc.v, J3.v, Y9.v, QN.v, Z8.v, Zz.v, UK.v, ZbS.v, -eq_self] at h; exact h)
theorem ZCD (i:In) (fr:Nat→Cp) (cB:Cp) (lo:Nat) (hi:Nat):obs (evF Tryz.prog (Zs 3 (Zb (mkL cB lo hi [])) Zg) Zf 100 20 40 (Zhr fr i.val) (Y5 21 0))=QG (ZM fr (0+i.b.toNat*8) (0+i.b.toNat*8+1) i.b.toNat) (UI (QK (Zld (Zld (QA (0+i.c.toNat*8+8) fr (0+i.c.toNat*8) i.c (0+i.b.toNat*8+8) (0+i.b.toNat*8) i.b (ZM fr (0+i.b.toNat*8) (0+i.b.toNat*8+1) i.b.toNat=ZI cB.C cB.E cB.B cB.T cB.P cB.Y cB.R cB.V)) (ZJ i.op 1) (ZJ i.op 2) (i.op==YL) (ZJ i.op 41) (ZJ i.op 32) (ZJ i.op 33) (ZJ i.op 34) (ZJ i.op 35)) (ZJ i.op 36) (ZJ i.op 37) (ZJ i.op 38) (ZJ i.op 39) (ZJ i.op 40) (ZJ i.op 42) (ZJ i.op 43) (ZJ i.op 44)) (ZJ i.op 45)) (ZJ i.op 46) (ZJ i.op 47) (ZJ i.op 48) (ZJ i.op 49)):=by kernel_rfl
def mk_d:=Bx.mk (by have h := @ZCD; simp(maxSteps:=99999999) only[ZL.v, ZZ.v, ZN.v, UF.v, QH.v, ZR.v, Ql.v, QN.v, Zz.v, -eq_self] at h; exact h)
theorem ZCE (k:Bool):obs (evF Tryz.prog Zg Zf 100 20 84 (ZhI k) (Ks [(0,true)] 0))=U2 (Kt 1 0 0) (KL (k=true)):=by kernel_rfl
def tr_t:=Bx.mk (by have h := @ZCE; simp(maxSteps:=99999999) only[ZL.v, ZZ.v, QH.v, ZR.v, Qz.v, Z8.v, Zz.v, ZpB.v, -eq_self] at h; exact h)
def Uu:=[Zcq]
def ZeW:=Bx.mk @Uu.eq_1
theorem ZCF (k:Bool):obs (evF Tryz.prog Zg Zf 100 20 84 (ZhI k) (Ks Uu 0))=U2 (Kt 0 0 0) (X3 k):=by kernel_rfl
def tr_f:=Bx.mk (by have h := @ZCF; simp(maxSteps:=99999999) only[ZL.v, ZZ.v, QH.v, ZR.v, Qz.v, Z8.v, Zz.v, ZpB.v, ZeW.v, -eq_self] at h; exact h)
theorem ZyW (a:Nat) (b:Nat):obs (evF Tryz.prog Zg Zf 100 20 38 [ZdL 25,Qo a,Qo b] (Ks [(0,true)] 0))=Wg [Value.bool (ZP a==ZP b),Vn] (KL Zh):=by kernel_rfl
def ZFe:=Bx.mk (by have h := @ZyW; simp(maxSteps:=99999999) only[ZL.v, ZZ.v, ZN.v, Z3.v, ZR.v, Ql.v, Qz.v, -eq_self] at h; exact h)
theorem ZyX (a:Nat) (b:Nat):obs (evF Tryz.prog Zg Zf 100 20 38 [ZdL 26,Qo a,Qo b] (Ks [Zcq,(1,true)] 0))=Zdj (Value.bool (ZrI a (ZP b))) Vn ZeC Zh:=by kernel_rfl
def ZFf:=Bx.mk (by have h := @ZyX; simp(maxSteps:=99999999) only[ZL.v, ZZ.v, ZN.v, Z3.v, ZR.v, Ql.v, Qz.v, Zz.v, -eq_self] at h; exact h)
def Zlt (a:Nat):=IntKind.i32.wrap (ZP a)
def ZCG:=Bx.mk @Zlt.eq_1
theorem ZyY (a:Nat) (b:Nat):obs (evF Tryz.prog Zg Zf 100 20 38 [ZdL 27,Qo a,Qo b] (Ks [Zcq,Zdh,(2,true)] 0))=Zdj (Value.bool (decide (Zlt a<Zlt b))) Vn (YI ZeC) Zh:=by kernel_rfl
def ZFg:=Bx.mk (by have h := @ZyY; simp(maxSteps:=99999999) only[ZL.v, ZZ.v, ZN.v, Z3.v, Qb.v, ZR.v, Ql.v, Qz.v, ZjN.v, Zz.v, ZCG.v, -eq_self] at h; exact h)
theorem ZyZ (a:Nat) (b:Nat):obs (evF Tryz.prog Zg Zf 100 20 38 [ZdL 28,Qo a,Qo b] (Y5 4 8))=Zdj (Value.bool (!decide (Zlt a<Zlt b))) Vn (Vo ZeC) Zh:=by kernel_rfl
def ZFh:=Bx.mk (by have h := @ZyZ; simp(maxSteps:=99999999) only[ZL.v, ZZ.v, ZN.v, Z3.v, Qb.v, ZR.v, Ql.v, Zz.v, ZCG.v, -eq_self] at h; exact h)
theorem ZCH (op:Int) (a:Nat) (b:Nat):obs (evF Tryz.prog Zg Zf 100 20 38 [JM op,Qo a,Qo b] (Y5 4 0))=Wg [KQ,KQ] (ZeO (Zdi op 25) (ZJ op 26) (ZJ op 27) (ZJ op 28)):=by kernel_rfl
def tk_n:=Bx.mk (by have h := @ZCH; simp(maxSteps:=99999999) only[ZL.v, ZZ.v, Qb.v, UF.v, ZR.v, Ql.v, Zbf.v, Zfy.v, -eq_self] at h; exact h)
theorem Zy0 (a b:Nat) (W:World) :
  Calls Tryz.prog 137 #[.int .u32 a,.int .u32 b] W fun e w'=>e = .returned (.int .u32 (((a:Int)+b)%4294967296))∧w'=W:=by
 go_enter Tryz.func137,Tryz.ntmps137
 go_wp2
 go_ret
 exact⟨rfl,rfl⟩
theorem ZuY (a:Nat) (W:World) :
  Calls Tryz.prog 140 #[.int .u32 a,.int .u32 0] W fun e w'=>e = .panicked [{ v:=.iface 10 (strVal "integer divide by zero"),recovered:=false }]∧w'=W:=by
 go_enter Tryz.func140,Tryz.ntmps140
 go_wp2
 simp[bodyPost]
theorem Zcw (p q s:Nat) (u:TypeId) (pv:Value) (older:List PanicEntry) (w:World) {x y z:Value} {tp tq ts:TypeId} (hp:Blk w p tp #[x]) (hq:Blk w q tq #[y]) (hs:Blk w s ts #[z]) (hpq:q≠p) (hqs:s≠q) (hps:s≠p) :
  CallsD Tryz.prog 75 #[.pointer (some ⟨p,0,none⟩),.pointer (some ⟨q,0,none⟩),.pointer (some ⟨s,0,none⟩)] (.panicking ({ v:=.iface u pv,recovered:=false }::older)) w fun e u' w' =>
   e = .returned (.tuple #[])∧u' = .panicking ({ v:=.iface u pv,recovered:=true }::older)∧w'=((w.setCell ⟨p,0,none⟩ (.int .u32 0)).setCell ⟨q,0,none⟩ (.int .i64 7)).setCell ⟨s,0,none⟩ (.bool true):=by
 have p1:=hp.cell 0
 have p2:=hp.frozen 0
 have q1:=(hq.far (p:=⟨p,0,none⟩) hpq (.int .u32 0)).cell 0
 have q2:=(hq.far (p:=⟨p,0,none⟩) hpq (.int .u32 0)).frozen 0
 have s1:=((hs.far (p:=⟨p,0,none⟩) hps (.int .u32 0)).far (p:=⟨q,0,none⟩) hqs (.int .i64 7)).cell 0
 have s2:=((hs.far (p:=⟨p,0,none⟩) hps (.int .u32 0)).far (p:=⟨q,0,none⟩) hqs (.int .i64 7)).frozen 0
 simp at p1 q1 s1
 refine callsD_of_wpS Tryz.func75 rfl fun c₀ cs hu => ?_
 apply wpS_seq
 apply wpS_region
 simp[wpOpsS,go_sem,recoverD,hu,Tryz.ntmps75,Exit.thenS]
 refine wpS_cond (t:=true) (by simp[Act.eval,Array.replicate]) ?_
 simp only[if_true]
 refine wpS_of_wp ?_
 clear hp hq hs hpq hqs hps
 go_wp2
 simp[bodyPostS,results,Tryz.results75]
theorem ZiK (p q s:Value) (w:World) :
  CallsD Tryz.prog 75 #[p,q,s] .returning w fun e u' w'=>e = .returned (.tuple #[])∧u' = .returning∧w'=w:=by
 refine callsD_of_wpS Tryz.func75 rfl fun c₀ cs hu => ?_
 apply wpS_seq
 apply wpS_region
 simp[wpOpsS,go_sem,recoverD,hu,Tryz.ntmps75,Exit.thenS]
 refine wpS_cond (t:=false) (by simp[Act.eval,Array.replicate]) ?_
 simp only[Bool.false_eq_true,if_false]
 refine wpS_of_wp (wp_skip ?_)
 cases c₀
 simp_all [bodyPostS,results,Tryz.results75]
theorem Blk.newAu {W:World} {g:Nat} (h:W.heap.size=g) (t:TypeId) (cs:Array Value):Blk (W.alloc (.cells cs t)) g t cs:=by subst h; exact Blk.new W t cs
def ZiL:Array Value:=#[.int .i64 3,.func (.func 137) #[] #[],.int .i64 4,.func (.func 138) #[] #[],.int .i64 5,.func (.func 139) #[] #[],.int .i64 6,.func (.func 140) #[] #[],.int .i64 7,.func (.func 141) #[] #[],.int .i64 8,.func (.func 142) #[] #[],.int .i64 9,.func (.func 143) #[] #[],.int .i64 10,.func (.func 144) #[] #[],.int .i64 11,.func (.func 145) #[] #[],.int .i64 12,.func (.func 146) #[] #[],.int .i64 13,.func (.func 147) #[] #[],.int .i64 14,.func (.func 149) #[] #[],.int .i64 15,.func (.func 151) #[] #[]]
theorem Zst (W:World):Calls Tryz.prog 74 #[] W fun e w'=>e = .returned (.slice (some ⟨W.heap.size,0,none⟩) 13 13)∧w'=W.alloc (.cells ZiL 129):=by
 go_enter Tryz.func74,Tryz.ntmps74
 go_wp2
 go_ret
 exact⟨rfl,rfl⟩
def ZbV:Nat→Nat
 | 0=>137
 | 1=>138
 | 2=>139
 | 3=>140
 | 4=>141
 | 5=>142
 | 6=>143
 | 7=>144
 | 8=>145
 | 9=>146
 | 10=>147
 | 11=>149
 | 12=>151
 | _=>0
theorem ZCI:∀ k:Nat,k<13→ZiL[k*2+1]? = some (.func (.func (ZbV k)) #[] #[])
 | 0,_=>rfl
 | 1,_=>rfl
 | 2,_=>rfl
 | 3,_=>rfl
 | 4,_=>rfl
 | 5,_=>rfl
 | 6,_=>rfl
 | 7,_=>rfl
 | 8,_=>rfl
 | 9,_=>rfl
 | 10,_=>rfl
 | 11,_=>rfl
 | 12,_=>rfl
 | k+13,h=>absurd h (by omega)
theorem ZuZ:∀ k:Nat,k<13→ZiL[k*2]? = some (.int .i64 ((k:Int)+3))
 | 0,_=>rfl
 | 1,_=>rfl
 | 2,_=>rfl
 | 3,_=>rfl
 | 4,_=>rfl
 | 5,_=>rfl
 | 6,_=>rfl
 | 7,_=>rfl
 | 8,_=>rfl
 | 9,_=>rfl
 | 10,_=>rfl
 | 11,_=>rfl
 | 12,_=>rfl
 | k+13,h=>absurd h (by omega)
theorem ZwU (k:Nat) (h:k<13):ZiL[k*2]? = some (.int .i64 ((k:Int)+3))∧ZiL[k*2+1]? = some (.func (.func (ZbV k)) #[] #[]):=⟨ZuZ k h,ZCI k h⟩
def AluR (w wr:World) (code:Int) (z:Nat) (i:Value):Prop:=∃ k:Nat,k≤13∧z=13-k∧i = .int .i64 k∧Blk wr w.heap.size 22 #[.int .u32 0]∧Blk wr (w.heap.size+1) 36 #[.int .i64 0]∧Blk wr (w.heap.size+2) 4 #[.bool false] ∧
 Blk wr (w.heap.size+3) 129 ZiL∧Below w.heap.size w wr∧∀ j:Nat,j<k→code≠j+3
set_option maxRecDepth 100000 in
theorem ZpC (code:Int) (a b:Nat) (w:World) (hc:(code<3∨15<code)∨code=3∨(code=6∧b=0)) :
  Calls Tryz.prog 39 #[.int .i64 code,.int .u32 a,.int .u32 b] w fun e w' =>
   e = .returned (.tuple (if code=3 then #[.int .u32 (((a:Int)+b)%4294967296),.int .i64 0,.bool true] else if code=6 then #[.int .u32 0,.int .i64 7,.bool true] else #[.int .u32 0,.int .i64 0,.bool false]))∧Below w.heap.size w w':=by
 have hmf:∀ (fn:Fn) (first cap:Array Value) (w:World),(Instr.makeFunc fn first cap).run Tryz.prog w = .ok (.func fn first cap) w:=fun _ _ _ _=>rfl
 go_enter_defers Tryz.func39,Tryz.ntmps39
 go_wp2_with fail
 refine(Zst _).mono ?_
 rintro e w1 ⟨rfl,rfl⟩
 go_wp2
 go_loopg [13] 13 (fun z i wr=>AluR w wr code z i)
 case atStart =>
  refine⟨0,by omega,rfl,rfl,?_,?_,?_,?_,?_,fun j hj=>absurd hj (by omega)⟩
  ·exact(((Blk.new w _ _).alloc _).alloc _).alloc _
  ·exact((Blk.newAu (by simp) _ _).alloc _).alloc _
  ·exact(Blk.newAu (by simp) _ _).alloc _
  ·exact Blk.newAu (by simp) _ _
  ·(repeat (first|(with_reducible exact Below.refl _ _)|(with_reducible refine Below.drew ?_)|(with_reducible refine ZA ?_ _)|(with_reducible refine Below.alloc ?_ (by simp<;>omega) _)|(with_reducible refine Below.setCell ?_ (by simp<;>omega) _)))
 case round =>
  obtain⟨k,hk,rfl,rfl,q0,q1,q2,q3,kb,hno⟩:=hrel
  by_cases h13:k=13
  ·subst h13
   have hcn:¬ code=3∧¬ code=6:=⟨hno 0 (by omega),hno 3 (by omega)⟩
   have KB:=Z0 kb
   clear q3 kb hno
   have e0:=q0.cell 0; have f0:=q0.frozen 0
   have e1:=q1.cell 0; have f1:=q1.frozen 0
   have e2:=q2.cell 0; have f2:=q2.frozen 0
   clear q0 q1 q2
   simp at e0 e1 e2
   go_wp2
   simp[bodyPostD,Leaves,settle,results,Tryz.results39,go_sem,e0,e1,e2]
   exact((KB.out.setCell (Nat.le_refl _) _).setCell (Nat.le_succ _) _).setCell (by show w.heap.size≤w.heap.size+1+1; omega) _
  have hk13:(k:Int)<13:=by omega
  obtain⟨c1,c2⟩:=ZwU k (by omega)
  have e3:=(q3.cell (k*2)).trans c1
  have e4:=(q3.cell (k*2+1)).trans c2
  by_cases hit:((k:Int)+3)=code
  rotate_left
  ·have KB:=Z0 kb
   have Q0:=Z0 q0
   have Q1:=Z0 q1
   have Q2:=Z0 q2
   have Q3:=Z0 q3
   have HNO:=Z0 hno
   clear q0 q1 q2 q3 kb hno c1 c2
   go_wp2
   go_roundg (12-k)
   case measure=>omega
   case rel =>
    have q3:=Q3.out
    refine⟨k+1,by omega,by omega,by simp,Q0.out.alloc _,Q1.out.alloc _,Q2.out.alloc _,q3.alloc _,Below.alloc KB.out KB.out.size _,fun j hj => ?_⟩
    rcases Nat.lt_or_ge j k with h|h
    ·exact HNO.out j h
    ·have:j=k:=by omega
     subst this
     exact fun e=>hit e.symm
  have KB:=Z0 kb
  have Q3:=Z0 q3
  have Q0:=Z0 q0
  have Q1:=Z0 q1
  have Q2:=Z0 q2
  have l0:=q0.lt; have l1:=q1.lt; have l2:=q2.lt
  have e0:=q0.cell 0; have f0:=q0.frozen 0
  have e1:=q1.cell 0; have f1:=q1.frozen 0
  have e2:=q2.cell 0; have f2:=q2.frozen 0
  clear q0 q1 q2 q3 kb hno
  simp at e0 e1 e2
  have hk2:k=0∨(k=3∧b=0):=by omega
  rcases hk2 with rfl|⟨rfl,rfl⟩
  ·obtain rfl:code=3:=by omega
   simp[ZbV] at e3 e4
   clear c1 c2 hit hc h13 hk13
   go_wp2_with fail
   refine(Zy0 a b _).mono ?_
   rintro e w2 ⟨rfl,rfl⟩
   go_wp2
   refine leaves_cons (f:=75) (args:=#[.pointer (some ⟨w.heap.size,0,none⟩),.pointer (some ⟨w.heap.size+1,0,none⟩),.pointer (some ⟨w.heap.size+1+1,0,none⟩)]) (by simp) (by simp[go_sem]) ?_
   refine(ZiK _ _ _ _).mono ?_
   rintro e u' w3 ⟨rfl,rfl,rfl⟩
   have Q2':Blk wr (w.heap.size+1+1) 4 #[.bool false]:=Q2.out
   have z0:=((((Q0.out.set_ 0 (.int .u32 (((a:Int)+b)%4294967296))).far (p:=⟨w.heap.size+1,0,none⟩) (by simp) (.int .i64 0)).far (p:=⟨w.heap.size+1+1,0,none⟩) (by simp; omega) (.bool true)).alloc (.cells #[.int .i64 3,.func (.func 137) #[] #[]] 129)).cell 0
   have z1:=((((Q1.out.far (p:=⟨w.heap.size,0,none⟩) (by simp) (.int .u32 (((a:Int)+b)%4294967296))).set_ 0 (.int .i64 0)).far (p:=⟨w.heap.size+1+1,0,none⟩) (by simp) (.bool true)).alloc (.cells #[.int .i64 3,.func (.func 137) #[] #[]] 129)).cell 0
   have z2:=((((Q2'.far (p:=⟨w.heap.size,0,none⟩) (by simp; omega) (.int .u32 (((a:Int)+b)%4294967296))).far (p:=⟨w.heap.size+1,0,none⟩) (by simp) (.int .i64 0)).set_ 0 (.bool true)).alloc (.cells #[.int .i64 3,.func (.func 137) #[] #[]] 129)).cell 0
   simp only[List.setIfInBounds_toArray,List.set_cons_zero,List.getElem?_toArray,List.getElem?_cons_zero] at z0 z1 z2
   simp[Leaves,settle,results,Tryz.results39,go_sem,z0,z1,z2]
   exact(((KB.out.setCell (Nat.le_refl _) _).setCell (Nat.le_succ _) _).setCell (by show w.heap.size≤w.heap.size+1+1; omega) _).alloc (by simp; omega) _
  ·obtain rfl:code=6:=by omega
   simp[ZbV] at e3 e4
   clear c1 c2 hit hc h13 hk13
   go_wp2_with fail
   refine(ZuY a _).mono ?_
   rintro e w2 ⟨rfl,rfl⟩
   go_wp2
   refine leaves_cons (f:=75) (args:=#[.pointer (some ⟨w.heap.size,0,none⟩),.pointer (some ⟨w.heap.size+1,0,none⟩),.pointer (some ⟨w.heap.size+1+1,0,none⟩)]) (by simp) (by simp[go_sem]) ?_
   refine(Zcw _ _ _ _ _ _ _ (Q0.out.alloc _) (Q1.out.alloc _) (Q2.out.alloc _) (by omega) (by omega) (by omega)).mono ?_
   rintro e u' w3 ⟨rfl,rfl,rfl⟩
   have Q2':Blk wr (w.heap.size+1+1) 4 #[.bool false]:=Q2.out
   have z0:=((((Q0.out.alloc (.cells #[.int .i64 6,.func (.func 140) #[] #[]] 129)).set_ 0 (.int .u32 0)).far (p:=⟨w.heap.size+1,0,none⟩) (by simp) (.int .i64 7)).far (p:=⟨w.heap.size+1+1,0,none⟩) (by simp; omega) (.bool true)).cell 0
   have z1:=((((Q1.out.alloc (.cells #[.int .i64 6,.func (.func 140) #[] #[]] 129)).far (p:=⟨w.heap.size,0,none⟩) (by simp) (.int .u32 0)).set_ 0 (.int .i64 7)).far (p:=⟨w.heap.size+1+1,0,none⟩) (by simp) (.bool true)).cell 0
   have z2:=((((Q2'.alloc (.cells #[.int .i64 6,.func (.func 140) #[] #[]] 129)).far (p:=⟨w.heap.size,0,none⟩) (by simp; omega) (.int .u32 0)).far (p:=⟨w.heap.size+1,0,none⟩) (by simp) (.int .i64 7)).set_ 0 (.bool true)).cell 0
   simp only[List.setIfInBounds_toArray,List.set_cons_zero,List.getElem?_toArray,List.getElem?_cons_zero] at z0 z1 z2
   simp[Leaves,settle,results,Tryz.results39,go_sem,z0,z1,z2]
   exact(((KB.out.alloc (by omega) _).setCell (Nat.le_refl _) _).setCell (Nat.le_succ _) _).setCell (by show w.heap.size≤w.heap.size+1+1; omega) _
def av0 (a b:Nat):Int:=((a:Int)+b)%4294967296
def av1 (a b:Nat):Int:=((a:Int)-b)%4294967296
def av2 (a b:Nat):Int:=(a:Int)*b%4294967296
def av3 (a b:Nat):Int:=(a:Int)/b%4294967296
def av4 (a b:Nat):Int:=(a:Int)%b
def av5 (a b:Nat):Int:=bits .and .u32 a b
def av6 (a b:Nat):Int:=bits .or .u32 a b
def av7 (a b:Nat):Int:=bits .xor .u32 a b
def av8 (a b:Nat):Int:=(a:Int)*2^(b%32)%4294967296
def av9 (a b:Nat):Int:=(a:Int)/2^(b%32)
def ZA3 (a b:Nat):Int:=if wrap32 (a:Int)<wrap32 (b:Int) then 1 else 0
def ZA4 (a b:Nat):Int:=if(a:Int)<b then 1 else 0
def ZA5 (a b:Nat):Int:=if(a:Int)=b then 1 else 0
def JT:Nat→Nat→Nat→Int
 | 0=>av0
 | 1=>av1
 | 2=>av2
 | 3=>av3
 | 4=>av4
 | 5=>av5
 | 6=>av6
 | 7=>av7
 | 8=>av8
 | 9=>av9
 | 10=>ZA3
 | 11=>ZA4
 | 12=>ZA5
 | _=>fun _ _=>0
theorem al_0 (a b:Nat) (W:World):Calls Tryz.prog 137 #[.int .u32 a,.int .u32 b] W fun e w'=>e = .returned (.int .u32 (av0 a b))∧w'=W:=by
 unfold av0
 go_enter Tryz.func137,Tryz.ntmps137
 go_wp2
 go_ret
 exact⟨rfl,rfl⟩
theorem al_1 (a b:Nat) (W:World):Calls Tryz.prog 138 #[.int .u32 a,.int .u32 b] W fun e w'=>e = .returned (.int .u32 (av1 a b))∧w'=W:=by
 unfold av1
 go_enter Tryz.func138,Tryz.ntmps138
 go_wp2
 go_ret
 exact⟨rfl,rfl⟩
theorem al_2 (a b:Nat) (W:World):Calls Tryz.prog 139 #[.int .u32 a,.int .u32 b] W fun e w'=>e = .returned (.int .u32 (av2 a b))∧w'=W:=by
 unfold av2
 go_enter Tryz.func139,Tryz.ntmps139
 go_wp2
 go_ret
 exact⟨rfl,rfl⟩
theorem al_3 (a b:Nat) (hb:¬ (b:Int)=0) (W:World):Calls Tryz.prog 140 #[.int .u32 a,.int .u32 b] W fun e w'=>e = .returned (.int .u32 (av3 a b))∧w'=W:=by
 unfold av3
 go_enter Tryz.func140,Tryz.ntmps140
 go_wp2
 go_ret
 exact⟨rfl,rfl⟩
theorem al_4 (a b:Nat) (hb:¬ (b:Int)=0) (W:World):Calls Tryz.prog 141 #[.int .u32 a,.int .u32 b] W fun e w'=>e = .returned (.int .u32 (av4 a b))∧w'=W:=by
 unfold av4
 go_enter Tryz.func141,Tryz.ntmps141
 go_wp2
 go_ret
 exact⟨rfl,rfl⟩
theorem al_5 (a b:Nat) (W:World):Calls Tryz.prog 142 #[.int .u32 a,.int .u32 b] W fun e w'=>e = .returned (.int .u32 (av5 a b))∧w'=W:=by
 unfold av5
 go_enter Tryz.func142,Tryz.ntmps142
 go_wp2
 go_ret
 exact⟨rfl,rfl⟩
theorem al_6 (a b:Nat) (W:World):Calls Tryz.prog 143 #[.int .u32 a,.int .u32 b] W fun e w'=>e = .returned (.int .u32 (av6 a b))∧w'=W:=by
 unfold av6
 go_enter Tryz.func143,Tryz.ntmps143
 go_wp2
 go_ret
 exact⟨rfl,rfl⟩
theorem al_7 (a b:Nat) (W:World):Calls Tryz.prog 144 #[.int .u32 a,.int .u32 b] W fun e w'=>e = .returned (.int .u32 (av7 a b))∧w'=W:=by
 unfold av7
 go_enter Tryz.func144,Tryz.ntmps144
 go_wp2
 go_ret
 exact⟨rfl,rfl⟩
theorem al_8 (a b:Nat) (W:World):Calls Tryz.prog 145 #[.int .u32 a,.int .u32 b] W fun e w'=>e = .returned (.int .u32 (av8 a b))∧w'=W:=by
 unfold av8
 go_enter Tryz.func145,Tryz.ntmps145
 go_wp2
 go_ret
 exact⟨rfl,rfl⟩
theorem al_9 (a b:Nat) (W:World):Calls Tryz.prog 146 #[.int .u32 a,.int .u32 b] W fun e w'=>e = .returned (.int .u32 (av9 a b))∧w'=W:=by
 unfold av9
 go_enter Tryz.func146,Tryz.ntmps146
 go_wp2
 go_ret
 exact⟨rfl,rfl⟩
theorem ZFi (a b:Nat) (W:World):Calls Tryz.prog 147 #[.int .u32 a,.int .u32 b] W fun e w'=>e = .returned (.int .u32 (ZA3 a b))∧w'=W:=by
 unfold ZA3
 by_cases h:wrap32 (a:Int)<wrap32 (b:Int)
 ·rw[if_pos h]
  go_enter Tryz.func147,Tryz.ntmps147
  go_wp2
  go_ret
  exact⟨rfl,rfl⟩
 ·rw[if_neg h]
  go_enter Tryz.func147,Tryz.ntmps147
  go_wp2
  go_ret
  exact⟨rfl,rfl⟩
theorem ZFj (a b:Nat) (W:World):Calls Tryz.prog 149 #[.int .u32 a,.int .u32 b] W fun e w'=>e = .returned (.int .u32 (ZA4 a b))∧w'=W:=by
 unfold ZA4
 by_cases h:(a:Int)<b
 ·rw[if_pos h]
  go_enter Tryz.func149,Tryz.ntmps149
  go_wp2
  go_ret
  exact⟨rfl,rfl⟩
 ·rw[if_neg h]
  go_enter Tryz.func149,Tryz.ntmps149
  go_wp2
  go_ret
  exact⟨rfl,rfl⟩
theorem ZFk (a b:Nat) (W:World):Calls Tryz.prog 151 #[.int .u32 a,.int .u32 b] W fun e w'=>e = .returned (.int .u32 (ZA5 a b))∧w'=W:=by
 unfold ZA5
 by_cases h:(a:Int)=b
 ·rw[if_pos h]
  go_enter Tryz.func151,Tryz.ntmps151
  go_wp2
  go_ret
  exact⟨rfl,rfl⟩
 ·rw[if_neg h]
  go_enter Tryz.func151,Tryz.ntmps151
  go_wp2
  go_ret
  exact⟨rfl,rfl⟩
theorem ZFl (a:Nat) (W:World):Calls Tryz.prog 140 #[.int .u32 a,.int .u32 0] W fun e w'=>e = .panicked [{ v:=.iface 10 (strVal "integer divide by zero"),recovered:=false }]∧w'=W:=by
 go_enter Tryz.func140,Tryz.ntmps140
 go_wp2
 simp[bodyPost]
theorem ZFm (a:Nat) (W:World):Calls Tryz.prog 141 #[.int .u32 a,.int .u32 0] W fun e w'=>e = .panicked [{ v:=.iface 10 (strVal "integer divide by zero"),recovered:=false }]∧w'=W:=by
 go_enter Tryz.func141,Tryz.ntmps141
 go_wp2
 simp[bodyPost]
def ZtI (k b:Nat):Bool:=(k==3||k==4)&&b==0
theorem ZFn {b:Nat} (h:ZtI 3 b=false):¬ (b:Int)=0:=fun e=>by
 have e:b=0:=by omega
 rw[e] at h; cases h
theorem ZFo {b:Nat} (h:ZtI 4 b=false):¬ (b:Int)=0:=fun e=>by
 have e:b=0:=by omega
 rw[e] at h; cases h
theorem ZFp (a b:Nat) (W:World):Calls Tryz.prog (ZbV 0) #[.int .u32 a,.int .u32 b] W fun e w'=>e = .returned (.int .u32 (JT 0 a b))∧w'=W:=by
 rw[show JT 0=av0 from rfl,show ZbV 0=137 from rfl]
 exact al_0 a b W
theorem ZFq (a b:Nat) (W:World):Calls Tryz.prog (ZbV 1) #[.int .u32 a,.int .u32 b] W fun e w'=>e = .returned (.int .u32 (JT 1 a b))∧w'=W:=by
 rw[show JT 1=av1 from rfl,show ZbV 1=138 from rfl]
 exact al_1 a b W
theorem ZFr (a b:Nat) (W:World):Calls Tryz.prog (ZbV 2) #[.int .u32 a,.int .u32 b] W fun e w'=>e = .returned (.int .u32 (JT 2 a b))∧w'=W:=by
 rw[show JT 2=av2 from rfl,show ZbV 2=139 from rfl]
 exact al_2 a b W
theorem ZFs (a b:Nat) (hb:¬ (b:Int)=0) (W:World):Calls Tryz.prog (ZbV 3) #[.int .u32 a,.int .u32 b] W fun e w'=>e = .returned (.int .u32 (JT 3 a b))∧w'=W:=by
 rw[show JT 3=av3 from rfl,show ZbV 3=140 from rfl]
 exact al_3 a b hb W
theorem ZFt (a b:Nat) (hb:¬ (b:Int)=0) (W:World):Calls Tryz.prog (ZbV 4) #[.int .u32 a,.int .u32 b] W fun e w'=>e = .returned (.int .u32 (JT 4 a b))∧w'=W:=by
 rw[show JT 4=av4 from rfl,show ZbV 4=141 from rfl]
 exact al_4 a b hb W
theorem ZFu (a b:Nat) (W:World):Calls Tryz.prog (ZbV 5) #[.int .u32 a,.int .u32 b] W fun e w'=>e = .returned (.int .u32 (JT 5 a b))∧w'=W:=by
 rw[show JT 5=av5 from rfl,show ZbV 5=142 from rfl]
 exact al_5 a b W
theorem ZFv (a b:Nat) (W:World):Calls Tryz.prog (ZbV 6) #[.int .u32 a,.int .u32 b] W fun e w'=>e = .returned (.int .u32 (JT 6 a b))∧w'=W:=by
 rw[show JT 6=av6 from rfl,show ZbV 6=143 from rfl]
 exact al_6 a b W
theorem ZFw (a b:Nat) (W:World):Calls Tryz.prog (ZbV 7) #[.int .u32 a,.int .u32 b] W fun e w'=>e = .returned (.int .u32 (JT 7 a b))∧w'=W:=by
 rw[show JT 7=av7 from rfl,show ZbV 7=144 from rfl]
 exact al_7 a b W
theorem ZFx (a b:Nat) (W:World):Calls Tryz.prog (ZbV 8) #[.int .u32 a,.int .u32 b] W fun e w'=>e = .returned (.int .u32 (JT 8 a b))∧w'=W:=by
 rw[show JT 8=av8 from rfl,show ZbV 8=145 from rfl]
 exact al_8 a b W
theorem ZFy (a b:Nat) (W:World):Calls Tryz.prog (ZbV 9) #[.int .u32 a,.int .u32 b] W fun e w'=>e = .returned (.int .u32 (JT 9 a b))∧w'=W:=by
 rw[show JT 9=av9 from rfl,show ZbV 9=146 from rfl]
 exact al_9 a b W
theorem ZCJ (a b:Nat) (W:World):Calls Tryz.prog (ZbV 10) #[.int .u32 a,.int .u32 b] W fun e w'=>e = .returned (.int .u32 (JT 10 a b))∧w'=W:=by
 rw[show JT 10=ZA3 from rfl,show ZbV 10=147 from rfl]
 exact ZFi a b W
theorem ZCK (a b:Nat) (W:World):Calls Tryz.prog (ZbV 11) #[.int .u32 a,.int .u32 b] W fun e w'=>e = .returned (.int .u32 (JT 11 a b))∧w'=W:=by
 rw[show JT 11=ZA4 from rfl,show ZbV 11=149 from rfl]
 exact ZFj a b W
theorem ZCL (a b:Nat) (W:World):Calls Tryz.prog (ZbV 12) #[.int .u32 a,.int .u32 b] W fun e w'=>e = .returned (.int .u32 (JT 12 a b))∧w'=W:=by
 rw[show JT 12=ZA5 from rfl,show ZbV 12=151 from rfl]
 exact ZFk a b W
theorem al_y (k:Nat) (hk:k<13) (a b:Nat) (h:ZtI k b=false) (W:World):Calls Tryz.prog (ZbV k) #[.int .u32 a,.int .u32 b] W fun e w'=>e = .returned (.int .u32 (JT k a b))∧w'=W:=by
 have hk':k=0∨k=1∨k=2∨k=3∨k=4∨k=5∨k=6∨k=7∨k=8∨k=9∨k=10∨k=11∨k=12:=by omega
 rcases hk' with rfl|rfl|rfl|rfl|rfl|rfl|rfl|rfl|rfl|rfl|rfl|rfl|rfl
 ·exact ZFp a b W
 ·exact ZFq a b W
 ·exact ZFr a b W
 ·exact ZFs a b (ZFn h) W
 ·exact ZFt a b (ZFo h) W
 ·exact ZFu a b W
 ·exact ZFv a b W
 ·exact ZFw a b W
 ·exact ZFx a b W
 ·exact ZFy a b W
 ·exact ZCJ a b W
 ·exact ZCK a b W
 ·exact ZCL a b W
theorem ZwV:∀ (k:Nat),k<13→∀ (a b:Int) (W:World),(callFunc (ZbV k) #[.int .u32 a,.int .u32 b]).run Tryz.prog W = .ok (.enter (ZbV k) #[.int .u32 a,.int .u32 b]) W
 | 0,_,_,_,_=>by kernel_rfl
 | 1,_,_,_,_=>by kernel_rfl
 | 2,_,_,_,_=>by kernel_rfl
 | 3,_,_,_,_=>by kernel_rfl
 | 4,_,_,_,_=>by kernel_rfl
 | 5,_,_,_,_=>by kernel_rfl
 | 6,_,_,_,_=>by kernel_rfl
 | 7,_,_,_,_=>by kernel_rfl
 | 8,_,_,_,_=>by kernel_rfl
 | 9,_,_,_,_=>by kernel_rfl
 | 10,_,_,_,_=>by kernel_rfl
 | 11,_,_,_,_=>by kernel_rfl
 | 12,_,_,_,_=>by kernel_rfl
 | k+13,h,_,_,_=>absurd h (by omega)
theorem al_n (k:Nat) (a b:Nat) (h:ZtI k b=true) (W:World):Calls Tryz.prog (ZbV k) #[.int .u32 a,.int .u32 b] W fun e w'=>e = .panicked [{ v:=.iface 10 (strVal "integer divide by zero"),recovered:=false }]∧w'=W:=by
 unfold ZtI at h
 simp only[Bool.and_eq_true,Bool.or_eq_true,beq_iff_eq] at h
 obtain⟨rfl|rfl,rfl⟩:=h
 ·exact ZFl a W
 ·exact ZFm a W
def rkV (code:Int) (a b:Nat):Array Value:=if 3≤code∧code≤15 then(if ZtI (code-3).toNat b=true then #[.int .u32 0,.int .i64 7,.bool true] else #[.int .u32 (JT (code-3).toNat a b),.int .i64 0,.bool true]) else #[.int .u32 0,.int .i64 0,.bool false]
set_option maxRecDepth 100000 in
theorem Zu0 (code:Int) (a b:Nat) (w:World) :
  Calls Tryz.prog 39 #[.int .i64 code,.int .u32 a,.int .u32 b] w fun e w' =>
   e = .returned (.tuple (rkV code a b))∧Below w.heap.size w w':=by
 obtain⟨R,hR⟩:∃ R,rkV code a b=R:=⟨_,rfl⟩
 rw[hR]
 have hmf:∀ (fn:Fn) (first cap:Array Value) (w:World),(Instr.makeFunc fn first cap).run Tryz.prog w = .ok (.func fn first cap) w:=fun _ _ _ _=>rfl
 go_enter_defers Tryz.func39,Tryz.ntmps39
 go_wp2_with fail
 refine(Zst _).mono ?_
 rintro e w1 ⟨rfl,rfl⟩
 go_wp2
 go_loopg [13] 13 (fun z i wr=>AluR w wr code z i)
 case atStart =>
  refine⟨0,by omega,rfl,rfl,?_,?_,?_,?_,?_,fun j hj=>absurd hj (by omega)⟩
  ·exact(((Blk.new w _ _).alloc _).alloc _).alloc _
  ·exact((Blk.newAu (by simp) _ _).alloc _).alloc _
  ·exact(Blk.newAu (by simp) _ _).alloc _
  ·exact Blk.newAu (by simp) _ _
  ·(repeat (first|(with_reducible exact Below.refl _ _)|(with_reducible refine Below.drew ?_)|(with_reducible refine ZA ?_ _)|(with_reducible refine Below.alloc ?_ (by simp<;>omega) _)|(with_reducible refine Below.setCell ?_ (by simp<;>omega) _)))
 case round =>
  obtain⟨k,hk,rfl,rfl,q0,q1,q2,q3,kb,hno⟩:=hrel
  by_cases h13:k=13
  ·subst h13
   have hcn:rkV code a b = #[.int .u32 0,.int .i64 0,.bool false]:=by
    unfold rkV
    rw[if_neg]
    intro hcc
    exact hno (code-3).toNat (by omega) (by omega)
   rw[hcn] at hR
   subst hR
   have KB:=Z0 kb
   clear q3 kb hno
   have e0:=q0.cell 0; have f0:=q0.frozen 0
   have e1:=q1.cell 0; have f1:=q1.frozen 0
   have e2:=q2.cell 0; have f2:=q2.frozen 0
   clear q0 q1 q2
   simp at e0 e1 e2
   go_wp2
   simp[bodyPostD,Leaves,settle,results,Tryz.results39,go_sem,e0,e1,e2]
   exact((KB.out.setCell (Nat.le_refl _) _).setCell (Nat.le_succ _) _).setCell (by show w.heap.size≤w.heap.size+1+1; omega) _
  have hk13:(k:Int)<13:=by omega
  obtain⟨c1,c2⟩:=ZwU k (by omega)
  have e3:=(q3.cell (k*2)).trans c1
  have e4:=(q3.cell (k*2+1)).trans c2
  by_cases hit:((k:Int)+3)=code
  rotate_left
  ·have KB:=Z0 kb
   have Q0:=Z0 q0
   have Q1:=Z0 q1
   have Q2:=Z0 q2
   have Q3:=Z0 q3
   have HNO:=Z0 hno
   clear q0 q1 q2 q3 kb hno c1 c2
   go_wp2
   go_roundg (12-k)
   case measure=>omega
   case rel =>
    have q3:=Q3.out
    refine⟨k+1,by omega,by omega,by simp,Q0.out.alloc _,Q1.out.alloc _,Q2.out.alloc _,q3.alloc _,Below.alloc KB.out KB.out.size _,fun j hj => ?_⟩
    rcases Nat.lt_or_ge j k with h|h
    ·exact HNO.out j h
    ·have:j=k:=by omega
     subst this
     exact fun e=>hit e.symm
  have KB:=Z0 kb
  have Q3:=Z0 q3
  have Q0:=Z0 q0
  have Q1:=Z0 q1
  have Q2:=Z0 q2
  have l0:=q0.lt; have l1:=q1.lt; have l2:=q2.lt
  have e0:=q0.cell 0; have f0:=q0.frozen 0
  have e1:=q1.cell 0; have f1:=q1.frozen 0
  have e2:=q2.cell 0; have f2:=q2.frozen 0
  clear q0 q1 q2 q3 kb hno
  simp at e0 e1 e2
  have hcode:code=(k:Int)+3:=hit.symm
  subst hcode
  have hkk:((k:Int)+3-3).toNat=k:=by omega
  clear c1 c2 hit h13
  cases hz:ZtI k b
  ·have hrk:rkV ((k:Int)+3) a b = #[.int .u32 (JT k a b),.int .i64 0,.bool true]:=by unfold rkV; rw[if_pos (by omega),hkk,hz]; rfl
   rw[hrk] at hR
   subst hR
   have hal:=al_y k (by omega) a b hz
   clear hrk hz hkk
   have hfr:=ZwV k (by omega) a b
   generalize ZbV k=fk at *
   go_wp2_with fail
   refine(hal _).mono ?_
   rintro e w2 ⟨rfl,rfl⟩
   go_wp2
   refine leaves_cons (f:=75) (args:=#[.pointer (some ⟨w.heap.size,0,none⟩),.pointer (some ⟨w.heap.size+1,0,none⟩),.pointer (some ⟨w.heap.size+1+1,0,none⟩)]) (by simp) (by simp[go_sem]) ?_
   refine(ZiK _ _ _ _).mono ?_
   rintro e u' w3 ⟨rfl,rfl,rfl⟩
   have Q2':Blk wr (w.heap.size+1+1) 4 #[.bool false]:=Q2.out
   have z0:=((((Q0.out.set_ 0 (.int .u32 (JT k a b))).far (p:=⟨w.heap.size+1,0,none⟩) (by simp) (.int .i64 0)).far (p:=⟨w.heap.size+1+1,0,none⟩) (by simp; omega) (.bool true)).alloc (.cells #[.int .i64 ((k:Int)+3),.func (.func fk) #[] #[]] 129)).cell 0
   have z1:=((((Q1.out.far (p:=⟨w.heap.size,0,none⟩) (by simp) (.int .u32 (JT k a b))).set_ 0 (.int .i64 0)).far (p:=⟨w.heap.size+1+1,0,none⟩) (by simp) (.bool true)).alloc (.cells #[.int .i64 ((k:Int)+3),.func (.func fk) #[] #[]] 129)).cell 0
   have z2:=((((Q2'.far (p:=⟨w.heap.size,0,none⟩) (by simp; omega) (.int .u32 (JT k a b))).far (p:=⟨w.heap.size+1,0,none⟩) (by simp) (.int .i64 0)).set_ 0 (.bool true)).alloc (.cells #[.int .i64 ((k:Int)+3),.func (.func fk) #[] #[]] 129)).cell 0
   simp only[List.setIfInBounds_toArray,List.set_cons_zero,List.getElem?_toArray,List.getElem?_cons_zero] at z0 z1 z2
   simp[Leaves,settle,results,Tryz.results39,go_sem,z0,z1,z2]
   exact(((KB.out.setCell (Nat.le_refl _) _).setCell (Nat.le_succ _) _).setCell (by show w.heap.size≤w.heap.size+1+1; omega) _).alloc (by simp; omega) _
  ·have hrk:rkV ((k:Int)+3) a b = #[.int .u32 0,.int .i64 7,.bool true]:=by unfold rkV; rw[if_pos (by omega),hkk,hz]; rfl
   rw[hrk] at hR
   subst hR
   have hal:=al_n k a b hz
   clear hrk hz hkk
   have hfr:=ZwV k (by omega) a b
   generalize ZbV k=fk at *
   go_wp2_with fail
   refine(hal _).mono ?_
   rintro e w2 ⟨rfl,rfl⟩
   go_wp2
   refine leaves_cons (f:=75) (args:=#[.pointer (some ⟨w.heap.size,0,none⟩),.pointer (some ⟨w.heap.size+1,0,none⟩),.pointer (some ⟨w.heap.size+1+1,0,none⟩)]) (by simp) (by simp[go_sem]) ?_
   refine(Zcw _ _ _ _ _ _ _ (Q0.out.alloc _) (Q1.out.alloc _) (Q2.out.alloc _) (by omega) (by omega) (by omega)).mono ?_
   rintro e u' w3 ⟨rfl,rfl,rfl⟩
   have Q2':Blk wr (w.heap.size+1+1) 4 #[.bool false]:=Q2.out
   have z0:=((((Q0.out.alloc (.cells #[.int .i64 ((k:Int)+3),.func (.func fk) #[] #[]] 129)).set_ 0 (.int .u32 0)).far (p:=⟨w.heap.size+1,0,none⟩) (by simp) (.int .i64 7)).far (p:=⟨w.heap.size+1+1,0,none⟩) (by simp; omega) (.bool true)).cell 0
   have z1:=((((Q1.out.alloc (.cells #[.int .i64 ((k:Int)+3),.func (.func fk) #[] #[]] 129)).far (p:=⟨w.heap.size,0,none⟩) (by simp) (.int .u32 0)).set_ 0 (.int .i64 7)).far (p:=⟨w.heap.size+1+1,0,none⟩) (by simp) (.bool true)).cell 0
   have z2:=((((Q2'.alloc (.cells #[.int .i64 ((k:Int)+3),.func (.func fk) #[] #[]] 129)).far (p:=⟨w.heap.size,0,none⟩) (by simp; omega) (.int .u32 0)).far (p:=⟨w.heap.size+1,0,none⟩) (by simp) (.int .i64 7)).set_ 0 (.bool true)).cell 0
   simp only[List.setIfInBounds_toArray,List.set_cons_zero,List.getElem?_toArray,List.getElem?_cons_zero] at z0 z1 z2
   simp[Leaves,settle,results,Tryz.results39,go_sem,z0,z1,z2]
   exact(((KB.out.alloc (by omega) _).setCell (Nat.le_refl _) _).setCell (Nat.le_succ _) _).setCell (by show w.heap.size≤w.heap.size+1+1; omega) _
def toU (m:Int):Nat:=(m%4294967296).toNat
theorem Zof (m:Int):toU m<4294967296:=by unfold toU; omega
theorem Yy (m:Int):u32.wrap m=((toU m:Nat):Int):=by
 unfold toU
 simp only[IntKind.wrap_u32]
 omega
def Zu1 (k:Bool):Cp:=Zff (if k=true then 1 else 0)
def lenS (lo hi:Nat):Nat:=toU (if(4294967295:Int)<u64.wrap ((hi:Int)-u64.wrap (lo:Int)) then(4294967295:Int) else u64.wrap ((hi:Int)-u64.wrap (lo:Int)))
theorem Zsu (k:Bool):ConOk Tryz.prog 84 3 (Con.pure [.bool k] (Zu1 k).val):=by
 cases k
 ·exact ZX (d:=1) (Zn (L:=100) Ze (Zc _) (Zd _) 20) (tr_f.v false) (by simp only[and_self]) rfl rfl
 ·exact ZX (d:=1) (Zn (L:=100) Ze (Zc _) (Zd _) 20) (tr_t.v true) (by simp only[and_self]) rfl rfl
def tkS (op:Int) (a b:Nat):Bool:=if op=25 then((a:Int)==(b:Int)) else if op=26 then((a:Int) !=(b:Int)) else if op=27 then decide (IntKind.i32.wrap (a:Int)<IntKind.i32.wrap (b:Int)) else if op=28 then !decide (IntKind.i32.wrap (a:Int)<IntKind.i32.wrap (b:Int)) else false
def tkI (op:Int):Bool:=decide (op=25)||decide (op=26)||decide (op=27)||decide (op=28)
theorem Zu2 (op:Int) (a b:Nat):ConOk Tryz.prog 38 3 (Con.pure [.int .i64 op,.int .u32 (a:Nat),.int .u32 (b:Nat)] (.tuple ⟨[.bool (tkS op a b),.bool (tkI op)]⟩)):=by
 have hs:=fun {op:Int} {T:List (Nat×Bool)} {v:Value} {q:Prop} (h:obs (evF Tryz.prog Zg Zf 100 20 38 [.int .i64 op,.int .u32 (a:Nat),.int .u32 (b:Nat)] (stT T))=some (v,q)) (hq:q) (hv:X1 v=true)=>ZX (d:=1) (Zn (L:=100) Ze (Zc _) (Zd _) 20) h hq rfl hv
 by_cases h1:op=25
 ·subst h1; exact hs (ZFe.v a b) (by simp only[and_self]) rfl
 by_cases h2:op=26
 ·subst h2; exact hs (ZFf.v a b) (by simp only[and_self]) rfl
 by_cases h3:op=27
 ·subst h3; exact hs (ZFg.v a b) (by simp only[and_self]) rfl
 by_cases h4:op=28
 ·subst h4; exact hs (ZFh.v a b) (by simp only[and_self]) rfl
 have e1:tkS op a b=false:=by unfold tkS; simp only[h1,h2,h3,h4,if_false]
 have e2:tkI op=false:=by unfold tkI; simp only[h1,h2,h3,h4,decide_false,Bool.or_self]
 rw[e1,e2]
 exact hs (tk_n.v op a b) (by simp only[Xw h1,Xw h2,Xw h3,Xw h4,and_self]) rfl
def rkN (op:Int) (a b:Nat):Nat:=if 3≤op∧op≤15 then(if ZtI (op-3).toNat b=true then 0 else toU (JT (op-3).toNat a b)) else 0
def rkT (op:Int) (b:Nat):Nat:=if 3≤op∧op≤15 then(if ZtI (op-3).toNat b=true then 7 else 0) else 0
def rkI (op:Int):Bool:=decide (3≤op∧op≤15)
theorem ZmO (o:BinOp) (h:o = .and∨o = .or∨o = .xor) (a b:Int):0≤bits o .u32 a b∧bits o .u32 a b<4294967296:=by
 rcases h with rfl|rfl|rfl
 ·show 0≤u32.wrap _∧u32.wrap _<_
  simp only[IntKind.wrap_u32]; omega
 ·show 0≤u32.wrap _∧u32.wrap _<_
  simp only[IntKind.wrap_u32]; omega
 ·show 0≤u32.wrap _∧u32.wrap _<_
  simp only[IntKind.wrap_u32]; omega
theorem Zy1 (k a b:Nat) (ha:a<4294967296) (hb:b<4294967296) (hk:k<13):0≤JT k a b∧JT k a b<4294967296:=by
 have hk':k=0∨k=1∨k=2∨k=3∨k=4∨k=5∨k=6∨k=7∨k=8∨k=9∨k=10∨k=11∨k=12:=by omega
 have hp:∀ n:Nat,(1:Int)≤2^n:=fun n=>by
  have:1≤2^n:=Nat.one_le_two_pow
  have h2:((2^n:Nat):Int)=(2:Int)^n:=by rw[Int.natCast_pow]; rfl
  omega
 have hm:∀ x:Int,0≤x%4294967296∧x%4294967296<4294967296:=fun x=>by omega
 rcases hk' with rfl|rfl|rfl|rfl|rfl|rfl|rfl|rfl|rfl|rfl|rfl|rfl|rfl
 ·rw[show JT 0=av0 from rfl]; unfold av0; exact hm _
 ·rw[show JT 1=av1 from rfl]; unfold av1; exact hm _
 ·rw[show JT 2=av2 from rfl]; unfold av2; exact hm _
 ·rw[show JT 3=av3 from rfl]; unfold av3; exact hm _
 ·rw[show JT 4=av4 from rfl]; unfold av4
  by_cases h0:(b:Int)=0
  ·rw[h0,Int.emod_zero]; omega
  ·have:=Int.emod_nonneg (a:Int) h0
   have:=Int.emod_lt_of_pos (a:Int) (show(0:Int)<b by omega)
   omega
 ·rw[show JT 5=av5 from rfl]; unfold av5; exact ZmO _ (.inl rfl) _ _
 ·rw[show JT 6=av6 from rfl]; unfold av6; exact ZmO _ (.inr (.inl rfl)) _ _
 ·rw[show JT 7=av7 from rfl]; unfold av7; exact ZmO _ (.inr (.inr rfl)) _ _
 ·rw[show JT 8=av8 from rfl]; unfold av8; exact hm _
 ·rw[show JT 9=av9 from rfl]; unfold av9
  have h1:=hp (b%32)
  have h2:0≤(a:Int)/2^(b%32):=Int.ediv_nonneg (by omega) (by omega)
  have h3:(a:Int)/2^(b%32)≤(a:Int):=Int.ediv_le_self _ (by omega)
  omega
 ·rw[show JT 10=ZA3 from rfl]; unfold ZA3; split<;>omega
 ·rw[show JT 11=ZA4 from rfl]; unfold ZA4; split<;>omega
 ·rw[show JT 12=ZA5 from rfl]; unfold ZA5; split<;>omega
theorem ZCM (op:Int) (a b:Nat) (ha:a<4294967296) (hb:b<4294967296):ConOk Tryz.prog 39 3 (Con.pure [.int .i64 op,.int .u32 (a:Nat),.int .u32 (b:Nat)] (.tuple ⟨[.int .u32 (rkN op a b:Nat),.int .i64 (rkT op b:Nat),.bool (rkI op)]⟩)):=by
 refine Qj (d:=1) (Yr Ze (by kernel_rfl)) (fun u hu => ?_) rfl fun w => ?_
 ·simp only[List.mem_cons,List.not_mem_nil,or_false] at hu
  rcases hu with rfl|rfl|rfl<;>rfl
 ·have h:=Zu0 op a b w
  have e:(.tuple (rkV op a b):Value) = .tuple ⟨[.int .u32 (rkN op a b:Nat),.int .i64 (rkT op b:Nat),.bool (rkI op)]⟩:=by
   unfold rkV rkN rkT rkI
   by_cases h1:3≤op∧op≤15
   ·simp only[h1,and_self,if_true,decide_true]
    cases hz:ZtI (op-3).toNat b
    ·have hr:=Zy1 (op-3).toNat a b ha hb (by omega)
     have e1:((toU (JT (op-3).toNat a b):Nat):Int)=JT (op-3).toNat a b:=by unfold toU; omega
     simp only[Bool.false_eq_true,if_false,e1]
     rfl
    ·simp only[if_true]; rfl
   ·simp only[h1,if_false,decide_false]; rfl
  rw[e] at h
  exact h
def ZdV (fr:Nat→Cp) (op:Int) (b c:Nat) (m:Int):Cp :=
 if op=1 then Zff (toU m) else if op=2 then Zff (toU ((toU m:Nat)*(4096:Int))) else if op=16 then Zff (toU (((fr b).C:Int)+(toU m:Nat))) else if op=41 then ZfI (fr b) else if op=32 then ZdO (fr b) (toU (((fr b).C:Int)+(fr c).C)) else if op=33 then ZdO (fr b) (toU (((fr b).C:Int)+(toU m:Nat))) else if op=34 then ZdO (fr b) (fr c).C else if op=35 then ZnJ (fr b) (fr c).C false else if op=36 then ZnJ (fr b) (fr c).C true else if op=37 then ZwI (fr b) (fr c).C else if op=38 then ZjE (fr b) (fr c) else if op=39 then ZjF (fr b) (fr c) else if op=40 then Zhb (fr c) (fr b) else if op=42 then Zff (fr b).C else if op=43 then Zff (fr b).lo else if op=44 then Zff (lenS (fr b).lo (fr b).hi) else if op=45 then Zff (toU (fr b).P) else if op=46 then Zff (toU (fr b).Y) else if op=47 then Zu1 (fr b).V else if op=48 then Zu1 (Zk5 (fr b)) else if op=49 then Zge fr m else fr b
theorem Vh {cB:Cp} {lo hi:Nat} {L:Sy.Steps} (hc:cB.Ok) (hl:lo=cB.lo) (hh:hi=cB.hi) (hL:∀ x∈L,ConOk Tryz.prog x.2.1 3 x.2.2.1∧FlatC x.2.2.1):∀ x∈mkL cB lo hi L,ConOk Tryz.prog x.2.1 3 x.2.2.1∧FlatC x.2.2.1:=fun x hx=>by
 unfold mkL at hx
 rcases List.mem_cons.1 hx with rfl|hx
 ·exact⟨Zpd cB hc lo hi hl hh,⟨fun x hx=>by cases hx⟩⟩
 ·exact hL x hx
theorem Zy2 (fr:Nat→Cp) (op:Int) (a b c:Nat) (m:Int) (hfr:Wc fr) (hb0:b<16) (hc0:c<16):ConOk Tryz.prog 40 3 (Con.pure [WV fr,(inS op a b c m).val] (ZdV fr op b c m).val):=by
 have hb:b<17:=by omega
 have hc:c<17:=by omega
 have z0:decide ((0:Int)≤(b:Int))=true:=decide_eq_true (by omega)
 have z1:decide ((b:Int)<16)=true:=decide_eq_true (by omega)
 have z2:decide ((0:Int)≤(c:Int))=true:=decide_eq_true (by omega)
 have z3:decide ((c:Int)<16)=true:=decide_eq_true (by omega)
 have hNF:∀ {args:List Value} {v:Value},FlatC (Con.pure args v):=fun {_ _}=>⟨fun x hx=>by cases hx⟩
 by_cases h1:op=1
 ·subst h1
  have e:ZdV fr 1 b c m=Zff (toU m):=rfl
  rw[e]
  have hr:=mk_1.v (inS 1 a b c m) fr (fr b) (fr b).lo (fr b).hi 
  simp only[Int.toNat_natCast,Q8 fr b hb,Q9 fr b hb,Ya fr b hb,Yb fr b hb,Q6 fr b hb,Yc fr b hb,Yd fr b hb,Ye fr b hb,Zq fr b hb,Zr fr b hb,Q8 fr c hc,Q9 fr c hc,Ya fr c hc,Yb fr c hc,Q6 fr c hc,Yc fr c hc,Yd fr c hc,Ye fr c hc,Zq fr c hc,Zr fr c hc,Yy] at hr
  refine ZX (d:=1) (Zn (L:=100) Ze (Zo (Zi (Vh (hfr b) rfl rfl (fun y hy => ?_))) (Zc _)) (Zd _) 20) hr ?_ rfl rfl
  ·cases hy
  ·simp only[z0,z1,z2,z3,Bool.and_self,cond_true,and_true,true_and,and_self]
 by_cases h2:op=2
 ·subst h2
  have e:ZdV fr 2 b c m=Zff (toU ((toU m:Nat)*(4096:Int))):=rfl
  rw[e]
  have hr:=mk_2.v (inS 2 a b c m) fr (fr b) (fr b).lo (fr b).hi 
  simp only[Int.toNat_natCast,Q8 fr b hb,Q9 fr b hb,Ya fr b hb,Yb fr b hb,Q6 fr b hb,Yc fr b hb,Yd fr b hb,Ye fr b hb,Zq fr b hb,Zr fr b hb,Q8 fr c hc,Q9 fr c hc,Ya fr c hc,Yb fr c hc,Q6 fr c hc,Yc fr c hc,Yd fr c hc,Ye fr c hc,Zq fr c hc,Zr fr c hc,Yy] at hr
  refine ZX (d:=1) (Zn (L:=100) Ze (Zo (Zi (Vh (hfr b) rfl rfl (fun y hy => ?_))) (Zc _)) (Zd _) 20) hr ?_ rfl rfl
  ·cases hy
  ·simp only[z0,z1,z2,z3,Bool.and_self,cond_true,and_true,true_and,and_self]
 by_cases h16:op=16
 ·subst h16
  have e:ZdV fr 16 b c m=Zff (toU (((fr b).C:Int)+(toU m:Nat))):=rfl
  rw[e]
  have hr:=ZEV.v (inS 16 a b c m) fr (fr b) (fr b).lo (fr b).hi 
  simp only[Int.toNat_natCast,Q8 fr b hb,Q9 fr b hb,Ya fr b hb,Yb fr b hb,Q6 fr b hb,Yc fr b hb,Yd fr b hb,Ye fr b hb,Zq fr b hb,Zr fr b hb,Q8 fr c hc,Q9 fr c hc,Ya fr c hc,Yb fr c hc,Q6 fr c hc,Yc fr c hc,Yd fr c hc,Ye fr c hc,Zq fr c hc,Zr fr c hc,Yy] at hr
  refine ZX (d:=1) (Zn (L:=100) Ze (Zo (Zi (Vh (hfr b) rfl rfl (fun y hy => ?_))) (Zc _)) (Zd _) 20) hr ?_ rfl rfl
  ·cases hy
  ·simp only[z0,z1,z2,z3,Bool.and_self,cond_true,and_true,true_and,and_self]
 by_cases h41:op=41
 ·subst h41
  have e:ZdV fr 41 b c m=ZfI (fr b):=rfl
  rw[e]
  have hr:=ZEW.v (inS 41 a b c m) fr (fr b) (fr b).lo (fr b).hi (ZfI (fr b))
  simp only[Int.toNat_natCast,Q8 fr b hb,Q9 fr b hb,Ya fr b hb,Yb fr b hb,Q6 fr b hb,Yc fr b hb,Yd fr b hb,Ye fr b hb,Zq fr b hb,Zr fr b hb,Q8 fr c hc,Q9 fr c hc,Ya fr c hc,Yb fr c hc,Q6 fr c hc,Yc fr c hc,Yd fr c hc,Ye fr c hc,Zq fr c hc,Zr fr c hc,Yy] at hr
  refine ZX (d:=1) (Zn (L:=100) Ze (Zo (Zi (Vh (hfr b) rfl rfl (fun y hy => ?_))) (Zc _)) (Zd _) 20) hr ?_ rfl rfl
  ·obtain rfl:=List.mem_singleton.1 hy
   exact⟨Zpa (fr b),hNF⟩
  ·simp only[z0,z1,z2,z3,Bool.and_self,cond_true,and_true,true_and,and_self]
 by_cases h32:op=32
 ·subst h32
  have e:ZdV fr 32 b c m=ZdO (fr b) (toU (((fr b).C:Int)+(fr c).C)):=rfl
  rw[e]
  have hr:=ZEX.v (inS 32 a b c m) fr (fr b) (fr b).lo (fr b).hi (toU (((fr b).C:Int)+(fr c).C)) (ZdO (fr b) (toU (((fr b).C:Int)+(fr c).C)))
  simp only[Int.toNat_natCast,Q8 fr b hb,Q9 fr b hb,Ya fr b hb,Yb fr b hb,Q6 fr b hb,Yc fr b hb,Yd fr b hb,Ye fr b hb,Zq fr b hb,Zr fr b hb,Q8 fr c hc,Q9 fr c hc,Ya fr c hc,Yb fr c hc,Q6 fr c hc,Yc fr c hc,Yd fr c hc,Ye fr c hc,Zq fr c hc,Zr fr c hc,Yy] at hr
  refine ZX (d:=1) (Zn (L:=100) Ze (Zo (Zi (Vh (hfr b) rfl rfl (fun y hy => ?_))) (Zc _)) (Zd _) 20) hr ?_ rfl rfl
  ·obtain rfl:=List.mem_singleton.1 hy
   exact⟨Zew (fr b) _ (hfr b) (Zof _),hNF⟩
  ·simp only[z0,z1,z2,z3,Bool.and_self,cond_true,and_true,true_and,and_self]
 by_cases h33:op=33
 ·subst h33
  have e:ZdV fr 33 b c m=ZdO (fr b) (toU (((fr b).C:Int)+(toU m:Nat))):=rfl
  rw[e]
  have hr:=ZEY.v (inS 33 a b c m) fr (fr b) (fr b).lo (fr b).hi (toU (((fr b).C:Int)+(toU m:Nat))) (ZdO (fr b) (toU (((fr b).C:Int)+(toU m:Nat))))
  simp only[Int.toNat_natCast,Q8 fr b hb,Q9 fr b hb,Ya fr b hb,Yb fr b hb,Q6 fr b hb,Yc fr b hb,Yd fr b hb,Ye fr b hb,Zq fr b hb,Zr fr b hb,Q8 fr c hc,Q9 fr c hc,Ya fr c hc,Yb fr c hc,Q6 fr c hc,Yc fr c hc,Yd fr c hc,Ye fr c hc,Zq fr c hc,Zr fr c hc,Yy] at hr
  refine ZX (d:=1) (Zn (L:=100) Ze (Zo (Zi (Vh (hfr b) rfl rfl (fun y hy => ?_))) (Zc _)) (Zd _) 20) hr ?_ rfl rfl
  ·obtain rfl:=List.mem_singleton.1 hy
   exact⟨Zew (fr b) _ (hfr b) (Zof _),hNF⟩
  ·simp only[z0,z1,z2,z3,Bool.and_self,cond_true,and_true,true_and,and_self]
 by_cases h34:op=34
 ·subst h34
  have e:ZdV fr 34 b c m=ZdO (fr b) (fr c).C:=rfl
  rw[e]
  have hr:=ZEZ.v (inS 34 a b c m) fr (fr b) (fr b).lo (fr b).hi (fr c).C (ZdO (fr b) (fr c).C)
  simp only[Int.toNat_natCast,Q8 fr b hb,Q9 fr b hb,Ya fr b hb,Yb fr b hb,Q6 fr b hb,Yc fr b hb,Yd fr b hb,Ye fr b hb,Zq fr b hb,Zr fr b hb,Q8 fr c hc,Q9 fr c hc,Ya fr c hc,Yb fr c hc,Q6 fr c hc,Yc fr c hc,Yd fr c hc,Ye fr c hc,Zq fr c hc,Zr fr c hc,Yy] at hr
  refine ZX (d:=1) (Zn (L:=100) Ze (Zo (Zi (Vh (hfr b) rfl rfl (fun y hy => ?_))) (Zc _)) (Zd _) 20) hr ?_ rfl rfl
  ·obtain rfl:=List.mem_singleton.1 hy
   exact⟨Zew (fr b) _ (hfr b) (hfr c).1,hNF⟩
  ·simp only[z0,z1,z2,z3,Bool.and_self,cond_true,and_true,true_and,and_self]
 by_cases h35:op=35
 ·subst h35
  have e:ZdV fr 35 b c m=ZnJ (fr b) (fr c).C false:=rfl
  rw[e]
  have hr:=ZE0.v (inS 35 a b c m) fr (fr b) (fr b).lo (fr b).hi (fr c).C (ZnJ (fr b) (fr c).C false)
  simp only[Int.toNat_natCast,Q8 fr b hb,Q9 fr b hb,Ya fr b hb,Yb fr b hb,Q6 fr b hb,Yc fr b hb,Yd fr b hb,Ye fr b hb,Zq fr b hb,Zr fr b hb,Q8 fr c hc,Q9 fr c hc,Ya fr c hc,Yb fr c hc,Q6 fr c hc,Yc fr c hc,Yd fr c hc,Ye fr c hc,Zq fr c hc,Zr fr c hc,Yy] at hr
  refine ZX (d:=1) (Zn (L:=100) Ze (Zo (Zi (Vh (hfr b) rfl rfl (fun y hy => ?_))) (Zc _)) (Zd _) 20) hr ?_ rfl rfl
  ·obtain rfl:=List.mem_singleton.1 hy
   exact⟨Zum (fr b) _ (hfr b) (hfr c).1,hNF⟩
  ·simp only[z0,z1,z2,z3,Bool.and_self,cond_true,and_true,true_and,and_self]
 by_cases h36:op=36
 ·subst h36
  have e:ZdV fr 36 b c m=ZnJ (fr b) (fr c).C true:=rfl
  rw[e]
  have hr:=ZE1.v (inS 36 a b c m) fr (fr b) (fr b).lo (fr b).hi (fr c).C (ZnJ (fr b) (fr c).C true)
  simp only[Int.toNat_natCast,Q8 fr b hb,Q9 fr b hb,Ya fr b hb,Yb fr b hb,Q6 fr b hb,Yc fr b hb,Yd fr b hb,Ye fr b hb,Zq fr b hb,Zr fr b hb,Q8 fr c hc,Q9 fr c hc,Ya fr c hc,Yb fr c hc,Q6 fr c hc,Yc fr c hc,Yd fr c hc,Ye fr c hc,Zq fr c hc,Zr fr c hc,Yy] at hr
  refine ZX (d:=1) (Zn (L:=100) Ze (Zo (Zi (Vh (hfr b) rfl rfl (fun y hy => ?_))) (Zc _)) (Zd _) 20) hr ?_ rfl rfl
  ·obtain rfl:=List.mem_singleton.1 hy
   exact⟨Zpb (fr b) _ (hfr b) (hfr c).1,hNF⟩
  ·simp only[z0,z1,z2,z3,Bool.and_self,cond_true,and_true,true_and,and_self]
 by_cases h37:op=37
 ·subst h37
  have e:ZdV fr 37 b c m=ZwI (fr b) (fr c).C:=rfl
  rw[e]
  have hr:=ZE2.v (inS 37 a b c m) fr (fr b) (fr b).lo (fr b).hi (fr c).C (ZwI (fr b) (fr c).C)
  simp only[Int.toNat_natCast,Q8 fr b hb,Q9 fr b hb,Ya fr b hb,Yb fr b hb,Q6 fr b hb,Yc fr b hb,Yd fr b hb,Ye fr b hb,Zq fr b hb,Zr fr b hb,Q8 fr c hc,Q9 fr c hc,Ya fr c hc,Yb fr c hc,Q6 fr c hc,Yc fr c hc,Yd fr c hc,Ye fr c hc,Zq fr c hc,Zr fr c hc,Yy] at hr
  refine ZX (d:=1) (Zn (L:=100) Ze (Zo (Zi (Vh (hfr b) rfl rfl (fun y hy => ?_))) (Zc _)) (Zd _) 20) hr ?_ rfl rfl
  ·obtain rfl:=List.mem_singleton.1 hy
   exact⟨Zul (fr b) _ (hfr b) (hfr c).1,hNF⟩
  ·simp only[z0,z1,z2,z3,Bool.and_self,cond_true,and_true,true_and,and_self]
 by_cases h38:op=38
 ·subst h38
  have e:ZdV fr 38 b c m=ZjE (fr b) (fr c):=rfl
  rw[e]
  have hr:=ZE3.v (inS 38 a b c m) fr (fr b) (fr b).lo (fr b).hi (fr c) (ZjE (fr b) (fr c))
  simp only[Int.toNat_natCast,Q8 fr b hb,Q9 fr b hb,Ya fr b hb,Yb fr b hb,Q6 fr b hb,Yc fr b hb,Yd fr b hb,Ye fr b hb,Zq fr b hb,Zr fr b hb,Q8 fr c hc,Q9 fr c hc,Ya fr c hc,Yb fr c hc,Q6 fr c hc,Yc fr c hc,Yd fr c hc,Ye fr c hc,Zq fr c hc,Zr fr c hc,Yy] at hr
  refine ZX (d:=1) (Zn (L:=100) Ze (Zo (Zi (Vh (hfr b) rfl rfl (fun y hy => ?_))) (Zc _)) (Zd _) 20) hr ?_ rfl rfl
  ·obtain rfl:=List.mem_singleton.1 hy
   exact⟨Zrl (fr b) (fr c) (hfr c),hNF⟩
  ·simp only[z0,z1,z2,z3,Bool.and_self,cond_true,and_true,true_and,and_self]
 by_cases h39:op=39
 ·subst h39
  have e:ZdV fr 39 b c m=ZjF (fr b) (fr c):=rfl
  rw[e]
  have hr:=ZE4.v (inS 39 a b c m) fr (fr b) (fr b).lo (fr b).hi (fr c) (ZjF (fr b) (fr c))
  simp only[Int.toNat_natCast,Q8 fr b hb,Q9 fr b hb,Ya fr b hb,Yb fr b hb,Q6 fr b hb,Yc fr b hb,Yd fr b hb,Ye fr b hb,Zq fr b hb,Zr fr b hb,Q8 fr c hc,Q9 fr c hc,Ya fr c hc,Yb fr c hc,Q6 fr c hc,Yc fr c hc,Yd fr c hc,Ye fr c hc,Zq fr c hc,Zr fr c hc,Yy] at hr
  refine ZX (d:=1) (Zn (L:=100) Ze (Zo (Zi (Vh (hfr b) rfl rfl (fun y hy => ?_))) (Zc _)) (Zd _) 20) hr ?_ rfl rfl
  ·obtain rfl:=List.mem_singleton.1 hy
   exact⟨Zrm (fr b) (fr c) (hfr b) (hfr c),hNF⟩
  ·simp only[z0,z1,z2,z3,Bool.and_self,cond_true,and_true,true_and,and_self]
 by_cases h40:op=40
 ·subst h40
  have e:ZdV fr 40 b c m=Zhb (fr c) (fr b):=rfl
  rw[e]
  have hr:=ZE5.v (inS 40 a b c m) fr (fr b) (fr b).lo (fr b).hi (fr c) (Zhb (fr c) (fr b))
  simp only[Int.toNat_natCast,Q8 fr b hb,Q9 fr b hb,Ya fr b hb,Yb fr b hb,Q6 fr b hb,Yc fr b hb,Yd fr b hb,Ye fr b hb,Zq fr b hb,Zr fr b hb,Q8 fr c hc,Q9 fr c hc,Ya fr c hc,Yb fr c hc,Q6 fr c hc,Yc fr c hc,Yd fr c hc,Ye fr c hc,Zq fr c hc,Zr fr c hc,Yy] at hr
  refine ZX (d:=1) (Zn (L:=100) Ze (Zo (Zi (Vh (hfr b) rfl rfl (fun y hy => ?_))) (Zc _)) (Zd _) 20) hr ?_ rfl rfl
  ·obtain rfl:=List.mem_singleton.1 hy
   exact⟨Zpc (fr c) (fr b) (hfr c) (hfr b),hNF⟩
  ·simp only[z0,z1,z2,z3,Bool.and_self,cond_true,and_true,true_and,and_self]
 by_cases h42:op=42
 ·subst h42
  have e:ZdV fr 42 b c m=Zff (fr b).C:=rfl
  rw[e]
  have hr:=ZE6.v (inS 42 a b c m) fr (fr b) (fr b).lo (fr b).hi 
  simp only[Int.toNat_natCast,Q8 fr b hb,Q9 fr b hb,Ya fr b hb,Yb fr b hb,Q6 fr b hb,Yc fr b hb,Yd fr b hb,Ye fr b hb,Zq fr b hb,Zr fr b hb,Q8 fr c hc,Q9 fr c hc,Ya fr c hc,Yb fr c hc,Q6 fr c hc,Yc fr c hc,Yd fr c hc,Ye fr c hc,Zq fr c hc,Zr fr c hc,Yy] at hr
  refine ZX (d:=1) (Zn (L:=100) Ze (Zo (Zi (Vh (hfr b) rfl rfl (fun y hy => ?_))) (Zc _)) (Zd _) 20) hr ?_ rfl rfl
  ·cases hy
  ·simp only[z0,z1,z2,z3,Bool.and_self,cond_true,and_true,true_and,and_self]
 by_cases h43:op=43
 ·subst h43
  have e:ZdV fr 43 b c m=Zff (fr b).lo:=rfl
  rw[e]
  have hr:=ZE7.v (inS 43 a b c m) fr (fr b) (fr b).lo (fr b).hi 
  simp only[Int.toNat_natCast,Q8 fr b hb,Q9 fr b hb,Ya fr b hb,Yb fr b hb,Q6 fr b hb,Yc fr b hb,Yd fr b hb,Ye fr b hb,Zq fr b hb,Zr fr b hb,Q8 fr c hc,Q9 fr c hc,Ya fr c hc,Yb fr c hc,Q6 fr c hc,Yc fr c hc,Yd fr c hc,Ye fr c hc,Zq fr c hc,Zr fr c hc,Yy] at hr
  refine ZX (d:=1) (Zn (L:=100) Ze (Zo (Zi (Vh (hfr b) rfl rfl (fun y hy => ?_))) (Zc _)) (Zd _) 20) hr ?_ rfl rfl
  ·cases hy
  ·simp only[z0,z1,z2,z3,Bool.and_self,cond_true,and_true,true_and,and_self]
 by_cases h44:op=44
 ·subst h44
  have e:ZdV fr 44 b c m=Zff (lenS (fr b).lo (fr b).hi):=rfl
  rw[e]
  have hr:=ZE8.v (inS 44 a b c m) fr (fr b) (fr b).lo (fr b).hi 
  simp only[Int.toNat_natCast,Q8 fr b hb,Q9 fr b hb,Ya fr b hb,Yb fr b hb,Q6 fr b hb,Yc fr b hb,Yd fr b hb,Ye fr b hb,Zq fr b hb,Zr fr b hb,Q8 fr c hc,Q9 fr c hc,Ya fr c hc,Yb fr c hc,Q6 fr c hc,Yc fr c hc,Yd fr c hc,Ye fr c hc,Zq fr c hc,Zr fr c hc,Yy] at hr
  refine ZX (d:=1) (Zn (L:=100) Ze (Zo (Zi (Vh (hfr b) rfl rfl (fun y hy => ?_))) (Zc _)) (Zd _) 20) hr ?_ rfl rfl
  ·cases hy
  ·simp only[z0,z1,z2,z3,Bool.and_self,cond_true,and_true,true_and,and_self]
 by_cases h45:op=45
 ·subst h45
  have e:ZdV fr 45 b c m=Zff (toU (fr b).P):=rfl
  rw[e]
  have hr:=ZE9.v (inS 45 a b c m) fr (fr b) (fr b).lo (fr b).hi 
  simp only[Int.toNat_natCast,Q8 fr b hb,Q9 fr b hb,Ya fr b hb,Yb fr b hb,Q6 fr b hb,Yc fr b hb,Yd fr b hb,Ye fr b hb,Zq fr b hb,Zr fr b hb,Q8 fr c hc,Q9 fr c hc,Ya fr c hc,Yb fr c hc,Q6 fr c hc,Yc fr c hc,Yd fr c hc,Ye fr c hc,Zq fr c hc,Zr fr c hc,Yy] at hr
  refine ZX (d:=1) (Zn (L:=100) Ze (Zo (Zi (Vh (hfr b) rfl rfl (fun y hy => ?_))) (Zc _)) (Zd _) 20) hr ?_ rfl rfl
  ·cases hy
  ·simp only[z0,z1,z2,z3,Bool.and_self,cond_true,and_true,true_and,and_self]
 by_cases h46:op=46
 ·subst h46
  have e:ZdV fr 46 b c m=Zff (toU (fr b).Y):=rfl
  rw[e]
  have hr:=ZFa.v (inS 46 a b c m) fr (fr b) (fr b).lo (fr b).hi 
  simp only[Int.toNat_natCast,Q8 fr b hb,Q9 fr b hb,Ya fr b hb,Yb fr b hb,Q6 fr b hb,Yc fr b hb,Yd fr b hb,Ye fr b hb,Zq fr b hb,Zr fr b hb,Q8 fr c hc,Q9 fr c hc,Ya fr c hc,Yb fr c hc,Q6 fr c hc,Yc fr c hc,Yd fr c hc,Ye fr c hc,Zq fr c hc,Zr fr c hc,Yy] at hr
  refine ZX (d:=1) (Zn (L:=100) Ze (Zo (Zi (Vh (hfr b) rfl rfl (fun y hy => ?_))) (Zc _)) (Zd _) 20) hr ?_ rfl rfl
  ·cases hy
  ·simp only[z0,z1,z2,z3,Bool.and_self,cond_true,and_true,true_and,and_self]
 by_cases h47:op=47
 ·subst h47
  have e:ZdV fr 47 b c m=Zu1 (fr b).V:=rfl
  rw[e]
  have hr:=ZFb.v (inS 47 a b c m) fr (fr b) (fr b).lo (fr b).hi (fr b).V (Zu1 (fr b).V)
  simp only[Int.toNat_natCast,Q8 fr b hb,Q9 fr b hb,Ya fr b hb,Yb fr b hb,Q6 fr b hb,Yc fr b hb,Yd fr b hb,Ye fr b hb,Zq fr b hb,Zr fr b hb,Q8 fr c hc,Q9 fr c hc,Ya fr c hc,Yb fr c hc,Q6 fr c hc,Yc fr c hc,Yd fr c hc,Ye fr c hc,Zq fr c hc,Zr fr c hc,Yy] at hr
  refine ZX (d:=1) (Zn (L:=100) Ze (Zo (Zi (Vh (hfr b) rfl rfl (fun y hy => ?_))) (Zc _)) (Zd _) 20) hr ?_ rfl rfl
  ·obtain rfl:=List.mem_singleton.1 hy
   exact⟨Zsu (fr b).V,hNF⟩
  ·simp only[z0,z1,z2,z3,Bool.and_self,cond_true,and_true,true_and,and_self]
 by_cases h48:op=48
 ·subst h48
  have e:ZdV fr 48 b c m=Zu1 (Zk5 (fr b)):=rfl
  rw[e]
  have hr:=ZFc.v (inS 48 a b c m) fr (fr b) (fr b).lo (fr b).hi (Zk5 (fr b)) (Zu1 (Zk5 (fr b)))
  simp only[Int.toNat_natCast,Q8 fr b hb,Q9 fr b hb,Ya fr b hb,Yb fr b hb,Q6 fr b hb,Yc fr b hb,Yd fr b hb,Ye fr b hb,Zq fr b hb,Zr fr b hb,Q8 fr c hc,Q9 fr c hc,Ya fr c hc,Yb fr c hc,Q6 fr c hc,Yc fr c hc,Yd fr c hc,Ye fr c hc,Zq fr c hc,Zr fr c hc,Yy] at hr
  refine ZX (d:=1) (Zn (L:=100) Ze (Zo (Zi (Vh (hfr b) rfl rfl (fun y hy => ?_))) (Zc _)) (Zd _) 20) hr ?_ rfl rfl
  ·simp only[List.mem_cons,List.not_mem_nil,or_false] at hy
   rcases hy with rfl|rfl
   ·exact⟨Zpe (fr b) (hfr b),hNF⟩
   ·exact⟨Zsu _,hNF⟩
  ·simp only[z0,z1,z2,z3,Bool.and_self,cond_true,and_true,true_and,and_self]
 by_cases h49:op=49
 ·subst h49
  have e:ZdV fr 49 b c m=Zge fr m:=rfl
  rw[e]
  have hr:=ZFd.v (inS 49 a b c m) fr (fr b) (fr b).lo (fr b).hi (Zge fr m)
  simp only[Int.toNat_natCast,Q8 fr b hb,Q9 fr b hb,Ya fr b hb,Yb fr b hb,Q6 fr b hb,Yc fr b hb,Yd fr b hb,Ye fr b hb,Zq fr b hb,Zr fr b hb,Q8 fr c hc,Q9 fr c hc,Ya fr c hc,Yb fr c hc,Q6 fr c hc,Yc fr c hc,Yd fr c hc,Ye fr c hc,Zq fr c hc,Zr fr c hc,Yy] at hr
  refine ZX (d:=1) (Zn (L:=100) Ze (Zo (Zi (Vh (hfr b) rfl rfl (fun y hy => ?_))) (Zc _)) (Zd _) 20) hr ?_ rfl rfl
  ·obtain rfl:=List.mem_singleton.1 hy
   exact⟨ZdQ fr m hfr,hNF⟩
  ·simp only[z0,z1,z2,z3,Bool.and_self,cond_true,and_true,true_and,and_self]
 have e:ZdV fr op b c m=fr b:=by unfold ZdV; simp only[h1,h2,h16,h41,h32,h33,h34,h35,h36,h37,h38,h39,h40,h42,h43,h44,h45,h46,h47,h48,h49,if_false]
 rw[e]
 have hr:=mk_d.v (inS op a b c m) fr (fr b) (fr b).lo (fr b).hi
 simp only[Int.toNat_natCast,Q8 fr b hb,Q9 fr b hb,Ya fr b hb,Yb fr b hb,Q6 fr b hb,Yc fr b hb,Yd fr b hb,Ye fr b hb,Zq fr b hb,Zr fr b hb,Q8 fr c hc,Q9 fr c hc,Ya fr c hc,Yb fr c hc,Q6 fr c hc,Yc fr c hc,Yd fr c hc,Ye fr c hc,Zq fr c hc,Zr fr c hc,Yy] at hr
 refine ZX (d:=1) (Zn (L:=100) Ze (Zo (Zi (Vh (hfr b) rfl rfl (fun y hy => ?_))) (Zc _)) (Zd _) 20) hr ?_ rfl rfl
 ·cases hy
 ·simp only[z0,z1,z2,z3,Xw h1,Xw h2,Xw h16,Xw h41,Xw h32,Xw h33,Xw h34,Xw h35,Xw h36,Xw h37,Xw h38,Xw h39,Xw h40,Xw h42,Xw h43,Xw h44,Xw h45,Xw h46,Xw h47,Xw h48,Xw h49,Bool.and_self,cond_true,and_true,true_and,and_self]
def doL (i:In) (fr nx:Nat→Cp) (k:Bool) (rc:List Value) (L:Sy.Steps):Sy.Steps:=(71,26,Con.pure [WV fr] (WV nx),[])::(73,33,gwC [i.val] rc (.bool k),[])::L
def wdL (i:In) (w:Nat):Sy.Steps:=[(73,36,Con.pure [.int .i64 i.op] (.int .i64 (w:Nat)),[])]
def tkL (i:In) (cA cB:Cp) (k is:Bool):Sy.Steps:=[(73,38,Con.pure [.int .i64 i.op,.int .u32 (cA.C:Nat),.int .u32 (cB.C:Nat)] (.tuple ⟨[.bool k,.bool is]⟩),[])]
def rkL (i:In) (cB cC:Cp) (v t:Nat) (is:Bool):Sy.Steps:=[(73,39,Con.pure [.int .i64 i.op,.int .u32 (cB.C:Nat),.int .u32 (cC.C:Nat)] (.tuple ⟨[.int .u32 (v:Nat),.int .i64 (t:Nat),.bool is]⟩),[])]
def ZhJ (a:Prop):=Zby (Zk6 a)
def Zsv (a:Sy.Heap) (b:List Value):=a++Yq b
def Jv (a:Sy.Heap) (b:List Value) (c d e f:Nat):=ZaJ (Zsv a b) c d e f
def W4 (a:Nat→Cp) (b c d:Prop) (e:List Value) (f:Nat) (g:List Value):=Zr2 (ZhJ (Uo a a)) b c d c c c e f g
def Q7:=Bx.mk (And.intro @ZhJ.eq_1 (And.intro @Zsv.eq_1 (And.intro @Jv.eq_1 @W4.eq_1)))
theorem ZCN (i:In) (fr:Nat→Cp) (nx:Nat→Cp) (rc:List Value) (zs:List UInt8) (f:Nat→Bool) (N:Nat) (m:Nat) (n:Nat):obs (evF Tryz.prog (Zs 3 (Zb (doL i fr nx false rc [])) Zg) Zf 100 20 13 (mvA fr i) (Jv (VB zs f N m n) rc N n 5 31))=ZbE frZ (ZdL 6) (V3 (W4 fr (V5 i.op i.a i.b i.c i.m) Zh (rc.all (Zu (fun l=>l.blt 64))=true) rc 73 rc)) Zh:=by kernel_rfl
def do_b:=Bx.mk (by have h := @ZCN; simp(maxSteps:=99999999) only[ZL.v, ZZ.v, ZN.v, Z3.v, QH.v, ZR.v, Qc.v, ZD.v, Ql.v, QV.v, Z8.v, Zz.v, ZW.v, Yk.v, Q7.v, -eq_self] at h; exact h)
def JU (a:Int):=ZJ a 53
def JV (a:In) (b c:Nat→Cp) (d:List Value) (e:Sy.Steps):=doL a b c true d e
def ZdW:=Bx.mk (And.intro @JU.eq_1 @JV.eq_1)
theorem ZCO (i:In) (fr:Nat→Cp) (nx:Nat→Cp) (rc:List Value) (zs:List UInt8) (f:Nat→Bool) (N:Nat) (m:Nat) (n:Nat):obs (evF Tryz.prog (Zs 3 (Zb (JV i fr nx rc [])) Zg) Zf 100 20 13 (mvA fr i) (Jv (VB zs f N m n) rc N n 5 16))=ZbE frZ (ZdL 6) (KM (W4 fr (V5 i.op i.a i.b i.c i.m) Zh (rc.all (Zu (fun l=>l.blt 64))=true) rc 73 rc)) (JU i.op=true):=by kernel_rfl
def do_t:=Bx.mk (by have h := @ZCO; simp(maxSteps:=99999999) only[ZL.v, ZZ.v, ZN.v, Z3.v, Qb.v, UF.v, QH.v, ZR.v, Qc.v, ZD.v, Ql.v, QV.v, Z8.v, Zz.v, ZW.v, Yk.v, Q7.v, ZdW.v, -eq_self] at h; exact h)
def Wh (a:Int):=ZJ a 50
def ZeX:=Bx.mk @Wh.eq_1
theorem Zu3 (i:In) (fr:Nat→Cp) (nx:Nat→Cp) (rc:List Value) (zs:List UInt8) (f:Nat→Bool) (N:Nat) (m:Nat) (n:Nat):obs (evF Tryz.prog (Zs 3 (Zb (JV i fr nx rc [])) Zg) Zf 100 20 13 (mvA fr i) (Jv (VB zs f N m n) rc N n 14 16352))=Zdj (Zmy fr) YQ (V3 (((V1 (KM (W4 fr (V5 i.op i.a i.b i.c i.m) Zh (rc.all (Zu (fun l=>l.blt 64))=true) rc 73 rc)) (JU i.op) (Wh i.op=true)∧Wh i.op=true)∧Wh i.op=true)∧Wh i.op=true)) Zh:=by kernel_rfl
def ZCP:=Bx.mk (by have h := @Zu3; simp(maxSteps:=99999999) only[ZL.v, ZZ.v, ZN.v, Z3.v, Qb.v, UF.v, QH.v, ZR.v, Qc.v, ZD.v, Ql.v, QV.v, Z8.v, Zz.v, ZW.v, Yk.v, Q7.v, ZdW.v, ZeX.v, -eq_self] at h; exact h)
def YW (a:Int):=ZJ a 51
def Zfz:=Bx.mk @YW.eq_1
theorem Zu4 (i:In) (fr:Nat→Cp) (nx:Nat→Cp) (rc:List Value) (zs:List UInt8) (f:Nat→Bool) (N:Nat) (m:Nat) (n:Nat):obs (evF Tryz.prog (Zs 3 (Zb (JV i fr nx rc [])) Zg) Zf 100 20 13 (mvA fr i) (Jv (VB zs f N m n) rc N n 14 15872))=Zdj (Zmy fr) YQ (((V1 (Zdk (KT (YI (W4 fr (V5 i.op i.a i.b i.c i.m) Zh (rc.all (Zu (fun l=>l.blt 64))=true) rc 73 rc))) (JU i.op) (Wh i.op)) (Wh i.op) (YW i.op=true)∧YW i.op=true)∧YW i.op=true)∧YW i.op=true) Zh:=by kernel_rfl
def ZCQ:=Bx.mk (by have h := @Zu4; simp(maxSteps:=99999999) only[ZL.v, ZZ.v, ZN.v, Z3.v, Qb.v, UF.v, QH.v, ZR.v, Qc.v, ZD.v, Ql.v, QV.v, JI.v, Z8.v, Zz.v, Uq.v, ZW.v, Yk.v, Q7.v, ZdW.v, ZeX.v, Zfz.v, -eq_self] at h; exact h)
theorem Zu5 (i:In) (fr:Nat→Cp) (nx:Nat→Cp) (rc:List Value) (zs:List UInt8) (f:Nat→Bool) (N:Nat) (m:Nat) (n:Nat):obs (evF Tryz.prog (Zs 3 (Zb (JV i fr nx rc [])) Zg) Zf 100 20 13 (mvA fr i) (Jv (VB zs f N m n) rc N n 14 8192))=Zdj (Zmy fr) YQ (QK (Zcn (KM (W4 fr (V5 i.op i.a i.b i.c i.m) Zh (rc.all (Zu (fun l=>l.blt 64))=true) rc 73 rc)) (JU i.op) (Wh i.op) (YW i.op) (YW i.op) (YW i.op)) (YW i.op)) (ZJ i.op 52=true):=by kernel_rfl
def ZCR:=Bx.mk (by have h := @Zu5; simp(maxSteps:=99999999) only[ZL.v, ZZ.v, ZN.v, Z3.v, Qb.v, UF.v, QH.v, ZR.v, Qc.v, ZD.v, Ql.v, QV.v, Z8.v, Zz.v, ZW.v, Yk.v, Q7.v, ZdW.v, ZeX.v, Zfz.v, -eq_self] at h; exact h)
def ZeY (a:Nat) (b:List Value) (c:Nat→Cp):=Ym a b (frL c)
def V6 (a:List Value) (b:Nat):=Zdr frZ a b
def XH (a b c d e f g h:Nat) (i:Bool) (j:Nat→Cp):=ZeY a (Xo b c d e f g h i) j
def Kz (a b:Bool) (c:Prop):=K4 (XQ a) b c
def Zcx (a b:List Value):=Ym 128 a b
def ZaO (a:Nat) (b:List Value) (c:Nat):=Ym a (V6 b c) frZ
def ZbG (a:Nat) (b:Nat→Cp):=Zn7 a b true
def ZeZ:=Bx.mk (And.intro @ZeY.eq_1 (And.intro @V6.eq_1 (And.intro @XH.eq_1 (And.intro @Kz.eq_1 (And.intro @Zcx.eq_1 (And.intro @ZaO.eq_1 @ZbG.eq_1))))))
theorem Zy3 (i:In) (fr:Nat→Cp) (nx:Nat→Cp) (rc:List Value) (zs:List UInt8) (f:Nat→Bool) (N:Nat) (m:Nat) (n:Nat) (r:Cp) (p:Cp):obs (evF Tryz.prog (Zs 3 (Zb (JV i fr nx rc [(73,34,ZeK fr JO r.val,[]),(74,34,ZeK fr (JM i.m) p.val,[])])) Zg) Zf 100 20 13 (mvA fr i) (Jv (VB zs f N m n) rc N n 16 16384))=Wg [Zhk (V6 (ZaO 0 (Zcx (Xo p.C p.E p.B p.T p.P p.Y p.R p.V) (XH (0+i.a.toNat*8) r.C r.E r.B r.T r.P r.Y r.R r.V nx)) 0) 0),YQ] (Vb (YH 136 (ZaO 0 (Zcx (Xo p.C p.E p.B p.T p.P p.Y p.R p.V) (XH (0+i.a.toNat*8) r.C r.E r.B r.T r.P r.Y r.R r.V nx)) 0) frZ 0) (Kz (WH (0+Qv (V6 (Zcx (Xo p.C p.E p.B p.T p.P p.Y p.R p.V) (XH (0+i.a.toNat*8) r.C r.E r.B r.T r.P r.Y r.R r.V nx)) 0)) frZ&&ZfE (V6 (Zcx (Xo p.C p.E p.B p.T p.P p.Y p.R p.V) (XH (0+i.a.toNat*8) r.C r.E r.B r.T r.P r.Y r.R r.V nx)) 0)) (YH 136 (Zcx (Xo p.C p.E p.B p.T p.P p.Y p.R p.V) (XH (0+i.a.toNat*8) r.C r.E r.B r.T r.P r.Y r.R r.V nx)) frZ 0) (YI (Vb (XQ (Zcd 136 (XH (0+i.a.toNat*8) r.C r.E r.B r.T r.P r.Y r.R r.V nx))) (XS (Kz (ZbG (0+i.a.toNat*8+8) nx) (U3 i.a i.a) (XS (ZiF (Zdk (KM (W4 fr (V5 i.op i.a i.b i.c i.m) Zh (rc.all (Zu (fun l=>l.blt 64))=true) rc 73 rc)) (JU i.op) (Wh i.op)) (Wh i.op) (YW i.op) (ZJ i.op 52)∧ZJ i.op 29=true) (Uo fr fr) (Qw JO))) (Uo fr fr) (Y7 i.m)))))):=by kernel_rfl
def ZFz:=Bx.mk (by have h := @Zy3; simp(maxSteps:=99999999) only[ZL.v, ZZ.v, ZN.v, Z3.v, Qb.v, UF.v, QH.v, ZR.v, Qc.v, Zh6.v, ZD.v, Ql.v, QY.v, QV.v, Y9.v, JI.v, QN.v, Z8.v, Zz.v, Uq.v, ZW.v, Yk.v, Q7.v, ZdW.v, ZeX.v, Zfz.v, ZeZ.v, -eq_self] at h; exact h)
theorem Zu6 (i:In) (fr:Nat→Cp) (nx:Nat→Cp) (rc:List Value) (zs:List UInt8) (f:Nat→Bool) (N:Nat) (m:Nat) (n:Nat) (r:Cp) (cB:Cp) (t:Nat):obs (evF Tryz.prog (Zs 3 (Zb (JV i fr nx rc [(73,34,ZeK fr JO r.val,[]),(73,35,JP cB.val (Zrx 4) (Vc t),[])])) Zg) Zf 100 20 13 (mvA fr i) (Jv (VB zs f N m n) rc N n 17 32768))=Wg [Zhk (V6 (ZaO 0 (Zcx (Zk9 (ZeM fr 0 (i.b.toNat*8)) (Zhs fr (0+i.b.toNat*8+1)) (Zhu fr i.b.toNat) (Zhv fr i.b.toNat) (Zhw fr i.b.toNat) (Zhx fr i.b.toNat) (Zhy fr i.b.toNat) (ZbD fr i.b.toNat)) (XH (0+i.a.toNat*8) r.C r.E r.B r.T r.P r.Y r.R r.V nx)) 0) 0),YQ] (Vb (YH 136 (ZaO 0 (Zcx (Zk9 (ZeM fr 0 (i.b.toNat*8)) (Zhs fr (0+i.b.toNat*8+1)) (Zhu fr i.b.toNat) (Zhv fr i.b.toNat) (Zhw fr i.b.toNat) (Zhx fr i.b.toNat) (Zhy fr i.b.toNat) (ZbD fr i.b.toNat)) (XH (0+i.a.toNat*8) r.C r.E r.B r.T r.P r.Y r.R r.V nx)) 0) frZ 0) (Kz (WH (0+Qv (V6 (Zcx (Zk9 (ZeM fr 0 (i.b.toNat*8)) (Zhs fr (0+i.b.toNat*8+1)) (Zhu fr i.b.toNat) (Zhv fr i.b.toNat) (Zhw fr i.b.toNat) (Zhx fr i.b.toNat) (Zhy fr i.b.toNat) (ZbD fr i.b.toNat)) (XH (0+i.a.toNat*8) r.C r.E r.B r.T r.P r.Y r.R r.V nx)) 0)) frZ&&ZfE (V6 (Zcx (Zk9 (ZeM fr 0 (i.b.toNat*8)) (Zhs fr (0+i.b.toNat*8+1)) (Zhu fr i.b.toNat) (Zhv fr i.b.toNat) (Zhw fr i.b.toNat) (Zhx fr i.b.toNat) (Zhy fr i.b.toNat) (ZbD fr i.b.toNat)) (XH (0+i.a.toNat*8) r.C r.E r.B r.T r.P r.Y r.R r.V nx)) 0)) (YH 136 (Zcx (Zk9 (ZeM fr 0 (i.b.toNat*8)) (Zhs fr (0+i.b.toNat*8+1)) (Zhu fr i.b.toNat) (Zhv fr i.b.toNat) (Zhw fr i.b.toNat) (Zhx fr i.b.toNat) (Zhy fr i.b.toNat) (ZbD fr i.b.toNat)) (XH (0+i.a.toNat*8) r.C r.E r.B r.T r.P r.Y r.R r.V nx)) frZ 0) (QK (Vb (XQ (Zcd 136 (XH (0+i.a.toNat*8) r.C r.E r.B r.T r.P r.Y r.R r.V nx))) (ZbC (ZfT (0+i.b.toNat*8+8) fr (0+i.b.toNat*8)) i.b i.b (XQ (ZbG (0+i.a.toNat*8+8) nx)) i.a i.a (XS (XS (K4 (ZfT (0+i.b.toNat*8+8) fr (0+i.b.toNat*8)) (U3 i.b i.b) (V1 (ZiF (Zdk (KM (W4 fr (V5 i.op i.a i.b i.c i.m) Zh (rc.all (Zu (fun l=>l.blt 64))=true) rc 73 rc)) (JU i.op) (Wh i.op)) (Wh i.op) (YW i.op) (ZJ i.op 52)) (ZJ i.op 29) (ZJ i.op 30=true))) (Uo fr fr) (Qw JO)) (ZM fr (0+i.b.toNat*8) (0+i.b.toNat*8+1) i.b.toNat=ZI cB.C cB.E cB.B cB.T cB.P cB.Y cB.R cB.V) (Qw (Zrx 4))))) (YJ t)))):=by kernel_rfl
def ZCS:=Bx.mk (by have h := @Zu6; simp(maxSteps:=99999999) only[ZL.v, ZZ.v, ZN.v, Z3.v, Qb.v, UF.v, QH.v, ZR.v, Qc.v, Zh6.v, ZD.v, Ql.v, QY.v, Qz.v, QV.v, Y9.v, JI.v, QN.v, Z8.v, Zz.v, Uq.v, ZW.v, Yk.v, Q7.v, ZdW.v, ZeX.v, Zfz.v, ZeZ.v, -eq_self] at h; exact h)
theorem Zu7 (i:In) (fr:Nat→Cp) (nx:Nat→Cp) (rc:List Value) (zs:List UInt8) (f:Nat→Bool) (N:Nat) (m:Nat) (n:Nat) (r:Cp) (cB:Cp) (t:Nat):obs (evF Tryz.prog (Zs 3 (Zb (JV i fr nx rc [(73,34,ZeK fr JO r.val,[]),(73,35,JP cB.val (Zrx 4) (Vc t),[])])) Zg) Zf 100 20 13 (mvA fr i) (Jv (VB zs f N m n) rc N n 17 98304))=ZbE frZ (Vc t) (Vb (XQ (Zcd 136 (XH (0+i.a.toNat*8) r.C r.E r.B r.T r.P r.Y r.R r.V nx))) (ZbC (ZfT (0+i.b.toNat*8+8) fr (0+i.b.toNat*8)) i.b i.b (XQ (ZbG (0+i.a.toNat*8+8) nx)) i.a i.a (XS (XS (K4 (ZfT (0+i.b.toNat*8+8) fr (0+i.b.toNat*8)) (U3 i.b i.b) (V1 (ZiF (Zdk (KM (W4 fr (V5 i.op i.a i.b i.c i.m) Zh (rc.all (Zu (fun l=>l.blt 64))=true) rc 73 rc)) (JU i.op) (Wh i.op)) (Wh i.op) (YW i.op) (ZJ i.op 52)) (ZJ i.op 29) (ZJ i.op 30=true))) (Uo fr fr) (Qw JO)) (ZM fr (0+i.b.toNat*8) (0+i.b.toNat*8+1) i.b.toNat=ZI cB.C cB.E cB.B cB.T cB.P cB.Y cB.R cB.V) (Qw (Zrx 4))))) (YJ t=true):=by kernel_rfl
def ZCT:=Bx.mk (by have h := @Zu7; simp(maxSteps:=99999999) only[ZL.v, ZZ.v, ZN.v, Z3.v, Qb.v, UF.v, QH.v, ZR.v, Qc.v, Zh6.v, ZD.v, Ql.v, QY.v, Qz.v, QV.v, Y9.v, JI.v, QN.v, Z8.v, Zz.v, Uq.v, ZW.v, Yk.v, Q7.v, ZdW.v, ZeX.v, Zfz.v, ZeZ.v, -eq_self] at h; exact h)
def Zlu (a:Nat→Cp) (b c d e f:Int) (g:Prop):=Wz (Uo a a) (V5 b c d e f) g
def Zbm (a:Prop) (b:Int):=VA a (Y7 b)
def YX:=Bx.mk (And.intro @Zlu.eq_1 @Zbm.eq_1)
theorem Zy4 (i:In) (fr:Nat→Cp) (nx:Nat→Cp) (rc:List Value) (zs:List UInt8) (f:Nat→Bool) (N:Nat) (m:Nat) (n:Nat) (w:Nat) (t:Nat) (r:Cp):obs (evF Tryz.prog (Zs 3 (Zb (JV i fr nx rc (wdL i w++[(73,37,VF fr i r t zs f N m n,[64,65,66,67])]))) Zg) Zf 100 20 13 (mvA fr i) (Jv (VB zs f N m n) rc N n 18 196608))=ZbE frZ (Vc t) (Kz (ZbG (0+i.a.toNat*8+8) nx) (U3 i.a i.a) (Yj (Zbm (QK (ZrG (QK (Zdk (KM (W4 fr (V5 i.op i.a i.b i.c i.m) Zh (rc.all (Zu (fun l=>l.blt 64))=true) rc 73 rc)) (JU i.op) (Wh i.op)) (Wh i.op)) (YW i.op) (YW i.op) (ZJ i.op 52) (ZJ i.op 29)) (ZJ i.op 30)) i.op∧Uj (ZP w) ZS=true) (Zlu fr i.op i.a i.b i.c i.m Yo) (QZ N m n f n (fun l=>l.blt 68) 73 zs 73) n N)) (YJ t=true):=by kernel_rfl
def ZFA:=Bx.mk (by have h := @Zy4; simp(maxSteps:=99999999) only[ZL.v, ZZ.v, ZN.v, Z3.v, Qb.v, UF.v, QH.v, ZR.v, Qc.v, ZD.v, Ql.v, QY.v, Qz.v, QV.v, JI.v, Z8.v, Zz.v, Uq.v, ZW.v, Yk.v, Q7.v, ZdW.v, ZeX.v, Zfz.v, ZeZ.v, YX.v, -eq_self] at h; exact h)
theorem Zy5 (i:In) (fr:Nat→Cp) (nx:Nat→Cp) (rc:List Value) (zs:List UInt8) (f:Nat→Bool) (N:Nat) (m:Nat) (n:Nat) (w:Nat) (t:Nat) (r:Cp):obs (evF Tryz.prog (Zs 3 (Zb (JV i fr nx rc (wdL i w++[(73,37,VF fr i r t zs f N m n,[64,65,66,67])]))) Zg) Zf 100 20 13 (mvA fr i) (Jv (VB zs f N m n) rc N n 18 65536))=Wg [Zhk (V6 (ZaO 0 (XH (0+i.a.toNat*8) r.C r.E r.B r.T r.P r.Y r.R r.V nx) 0) 0),YQ] (Vb (YH 136 (ZaO 0 (XH (0+i.a.toNat*8) r.C r.E r.B r.T r.P r.Y r.R r.V nx) 0) frZ 0) (Kz (WH (0+Qv (V6 (XH (0+i.a.toNat*8) r.C r.E r.B r.T r.P r.Y r.R r.V nx) 0)) frZ&&ZfE (V6 (XH (0+i.a.toNat*8) r.C r.E r.B r.T r.P r.Y r.R r.V nx) 0)) (YH 136 (XH (0+i.a.toNat*8) r.C r.E r.B r.T r.P r.Y r.R r.V nx) frZ 0) (QK (Kz (ZbG (0+i.a.toNat*8+8) nx) (U3 i.a i.a) (Yj (Zbm (Zcn (Zdk (KM (W4 fr (V5 i.op i.a i.b i.c i.m) Zh (rc.all (Zu (fun l=>l.blt 64))=true) rc 73 rc)) (JU i.op) (Wh i.op)) (Wh i.op) (YW i.op) (ZJ i.op 52) (ZJ i.op 29) (ZJ i.op 30)) i.op∧Uj (ZP w) ZS=true) (Zlu fr i.op i.a i.b i.c i.m Yo) (QZ N m n f n (fun l=>l.blt 68) 73 zs 73) n N)) (YJ t)))):=by kernel_rfl
def ZFB:=Bx.mk (by have h := @Zy5; simp(maxSteps:=99999999) only[ZL.v, ZZ.v, ZN.v, Z3.v, Qb.v, UF.v, QH.v, ZR.v, Qc.v, ZD.v, Ql.v, Qz.v, QV.v, JI.v, Z8.v, Zz.v, Uq.v, ZW.v, Yk.v, Q7.v, ZdW.v, ZeX.v, Zfz.v, ZeZ.v, YX.v, -eq_self] at h; exact h)
theorem Zy6 (i:In) (fr:Nat→Cp) (nx:Nat→Cp) (rc:List Value) (zs:List UInt8) (f:Nat→Bool) (N:Nat) (m:Nat) (n:Nat) (w:Nat) (r:Cp) (zs2:List UInt8) (f2:Nat→Bool):evF Tryz.prog (Zs 3 (Zb (JV i fr nx rc (wdL i w++[(73,37,ZjW (mvA fr i) (ZbQ [r.val,YQ]) zs zs2 f f2 N m n,[64,65,66,67])]))) Zg) Zf 100 20 13 (mvA fr i) (Jv (arW true zs f N m n) rc N n 18 65536)=XP (ZbQ [Zhk (V6 (ZaO 0 (XH (0+i.a.toNat*8) r.C r.E r.B r.T r.P r.Y r.R r.V nx) 0) 0),YQ]) 74 [(67,ZaC N),(66,Zbw m n),(65,Kp 65 f2 n),(64,U4 zs2),(0,ZnQ rc)] [(65,n),(64,N),(65,n),(64,N)] 18 (Vb (YH 136 (ZaO 0 (XH (0+i.a.toNat*8) r.C r.E r.B r.T r.P r.Y r.R r.V nx) 0) frZ 0) (Kz (WH (0+Qv (V6 (XH (0+i.a.toNat*8) r.C r.E r.B r.T r.P r.Y r.R r.V nx) 0)) frZ&&ZfE (V6 (XH (0+i.a.toNat*8) r.C r.E r.B r.T r.P r.Y r.R r.V nx) 0)) (YH 136 (XH (0+i.a.toNat*8) r.C r.E r.B r.T r.P r.Y r.R r.V nx) frZ 0) (YI (Kz (ZbG (0+i.a.toNat*8+8) nx) (U3 i.a i.a) (Yj (Zbm (UI (Zcn (KM (W4 fr (V5 i.op i.a i.b i.c i.m) Zh (rc.all (Zu (fun l=>l.blt 64))=true) rc 73 rc)) (JU i.op) (Wh i.op) (YW i.op) (YW i.op) (YW i.op)) (YW i.op) (ZJ i.op 52) (ZJ i.op 29) (ZJ i.op 30)) i.op∧Uj (ZP w) ZS=true) (Zlu fr i.op i.a i.b i.c i.m Yo) (QZ N m n f n (fun l=>l.blt 68) 73 zs 73) n N))))):=by kernel_rfl
def ZFC:=Bx.mk (by have h := @Zy6; simp(maxSteps:=99999999) only[ZL.v, ZN.v, Z3.v, Qb.v, UF.v, QH.v, ZR.v, Qc.v, ZD.v, Ql.v, QV.v, Z8.v, Zz.v, Ku.v, ZW.v, Yk.v, Q7.v, ZdW.v, ZeX.v, Zfz.v, ZeZ.v, YX.v, -eq_self] at h; exact h)
def Zdn (a b c d:Prop):=ZnM a (Wz b c d)
def Zsw (a:Nat) (b:Nat→Cp) (c:List Value) (d:Nat→Cp) (e:Nat):=Zn7 a b (Zyf c d e)
def Zlv:=[ZeQ]
def Jw (a:Nat) (b c:Nat→Cp) (d:Nat):=Zsw a b Zlv c d
def Wr:=Bx.mk (And.intro @Zdn.eq_1 (And.intro @Zsw.eq_1 (And.intro @Zlv.eq_1 @Jw.eq_1)))
theorem Zu8 (i:In) (fr:Nat→Cp) (nx:Nat→Cp) (rc:List Value) (zs:List UInt8) (f:Nat→Bool) (N:Nat) (m:Nat) (n:Nat) (cA:Cp) (cB:Cp) (k:Bool) (is:Bool) (p:Cp):obs (evF Tryz.prog (Zs 3 (Zb (JV i fr nx rc (wdL i 0++tkL i cA cB k is++[(73,34,ZeK fr (JM i.m) p.val,[])]))) Zg) Zf 100 20 13 (mvA fr i) (Jv (VB zs f N m n) rc N n 20 393216))=Wg [Zhk (frQ nx (Xo p.C p.E p.B p.T p.P p.Y p.R p.V)),YQ] (YI (XS ((Zdn (ZbC (Jw (0+i.b.toNat*8+0+1) fr fr (0+i.b.toNat*8+0)) i.b i.b (Jw (0+i.a.toNat*8+0+1) fr fr (0+i.a.toNat*8+0)) i.a i.a (YI (Zbm (UI (Zcn (KM (W4 fr (V5 i.op i.a i.b i.c i.m) Zh (rc.all (Zu (fun l=>l.blt 64))=true) rc 73 rc)) (JU i.op) (Wh i.op) (YW i.op) (YW i.op) (YW i.op)) (YW i.op) (ZJ i.op 52) (ZJ i.op 29) (ZJ i.op 30)) i.op))) (Y7 i.op) (WQ fr (0+i.a.toNat*8) 0 cA.C) (WQ fr (0+i.b.toNat*8) 0 cB.C)∧is=true)∧k=true) (Uo fr fr) (Y7 i.m))):=by kernel_rfl
def ZCU:=Bx.mk (by have h := @Zu8; simp(maxSteps:=99999999) only[ZL.v, ZZ.v, ZN.v, Z3.v, Qb.v, UF.v, QH.v, ZR.v, Qc.v, ZD.v, Ql.v, QV.v, Y9.v, QN.v, Z8.v, Zz.v, Ku.v, ZW.v, Xl.v, Yk.v, Q7.v, ZdW.v, ZeX.v, Zfz.v, YX.v, Wr.v, -eq_self] at h; exact h)
theorem Zu9 (i:In) (fr:Nat→Cp) (nx:Nat→Cp) (rc:List Value) (zs:List UInt8) (f:Nat→Bool) (N:Nat) (m:Nat) (n:Nat) (cA:Cp) (cB:Cp) (k:Bool) (is:Bool):obs (evF Tryz.prog (Zs 3 (Zb (JV i fr nx rc (wdL i 0++tkL i cA cB k is))) Zg) Zf 100 20 13 (mvA fr i) (Jv (VB zs f N m n) rc N n 20 131072))=Wg [Zmy nx,YQ] (YI (QK (Zdn (ZbC (Jw (0+i.b.toNat*8+0+1) fr fr (0+i.b.toNat*8+0)) i.b i.b (Jw (0+i.a.toNat*8+0+1) fr fr (0+i.a.toNat*8+0)) i.a i.a (YI (Zbm (Zcn (Zdk (KM (W4 fr (V5 i.op i.a i.b i.c i.m) Zh (rc.all (Zu (fun l=>l.blt 64))=true) rc 73 rc)) (JU i.op) (Wh i.op)) (Wh i.op) (YW i.op) (ZJ i.op 52) (ZJ i.op 29) (ZJ i.op 30)) i.op))) (Y7 i.op) (WQ fr (0+i.a.toNat*8) 0 cA.C) (WQ fr (0+i.b.toNat*8) 0 cB.C)∧is=true) k)):=by kernel_rfl
def ZCV:=Bx.mk (by have h := @Zu9; simp(maxSteps:=99999999) only[ZL.v, ZZ.v, ZN.v, Z3.v, Qb.v, UF.v, QH.v, ZR.v, Qc.v, ZD.v, Ql.v, QV.v, JI.v, Z8.v, Zz.v, Uq.v, Ku.v, ZW.v, Xl.v, Yk.v, Q7.v, ZdW.v, ZeX.v, Zfz.v, YX.v, Wr.v, -eq_self] at h; exact h)
theorem Zva (i:In) (fr:Nat→Cp) (nx:Nat→Cp) (rc:List Value) (zs:List UInt8) (f:Nat→Bool) (N:Nat) (m:Nat) (n:Nat) (cA:Cp) (cB:Cp) (cC:Cp) (v:Nat) (t:Nat) (is:Bool):obs (evF Tryz.prog (Zs 3 (Zb (JV i fr nx rc (wdL i 0++tkL i cA cB false false++rkL i cB cC v t is))) Zg) Zf 100 20 13 (mvA fr i) (Jv (VB zs f N m n) rc N n 20 262144))=Wg [Zhk (V6 (ZaO 0 (ZeY (0+i.a.toNat*8) (Kt ↑v 0 0) nx) 0) 0),YQ] (Vb (YH 136 (ZaO 0 (ZeY (0+i.a.toNat*8) (Kt ↑v 0 0) nx) 0) frZ 0) (Kz (WH (0+Qv (V6 (ZeY (0+i.a.toNat*8) (Kt ↑v 0 0) nx) 0)) frZ&&ZfE (V6 (ZeY (0+i.a.toNat*8) (Kt ↑v 0 0) nx) 0)) (YH 136 (ZeY (0+i.a.toNat*8) (Kt ↑v 0 0) nx) frZ 0) (QK (Kz (ZbG (0+i.a.toNat*8+8) nx) (U3 i.a i.a) (Zdn (ZbC (Jw (0+i.c.toNat*8+0+1) fr fr (0+i.c.toNat*8+0)) i.c i.c (Jw (0+i.b.toNat*8+0+1) fr fr (0+i.b.toNat*8+0)) i.b i.b (YI (Zdn (ZbC (Jw (0+i.b.toNat*8+0+1) fr fr (0+i.b.toNat*8+0)) i.b i.b (Jw (0+i.a.toNat*8+0+1) fr fr (0+i.a.toNat*8+0)) i.a i.a (YI (Zbm (UI (Zcn (KM (W4 fr (V5 i.op i.a i.b i.c i.m) Zh (rc.all (Zu (fun l=>l.blt 64))=true) rc 73 rc)) (JU i.op) (Wh i.op) (YW i.op) (YW i.op) (YW i.op)) (YW i.op) (ZJ i.op 52) (ZJ i.op 29) (ZJ i.op 30)) i.op))) (Y7 i.op) (WQ fr (0+i.a.toNat*8) 0 cA.C) (WQ fr (0+i.b.toNat*8) 0 cB.C)))) (Y7 i.op) (WQ fr (0+i.b.toNat*8) 0 cB.C) (WQ fr (0+i.c.toNat*8) 0 cC.C)∧is=true)) (YJ t)))):=by kernel_rfl
def ZCW:=Bx.mk (by have h := @Zva; simp(maxSteps:=99999999) only[ZL.v, ZZ.v, ZN.v, Z3.v, Qb.v, UF.v, QH.v, ZR.v, Qc.v, ZD.v, Ql.v, Qz.v, QV.v, Z8.v, Zz.v, Ku.v, ZW.v, Xl.v, Yk.v, Q7.v, ZdW.v, ZeX.v, Zfz.v, ZeZ.v, YX.v, Wr.v, -eq_self] at h; exact h)
theorem Zvb (i:In) (fr:Nat→Cp) (nx:Nat→Cp) (rc:List Value) (zs:List UInt8) (f:Nat→Bool) (N:Nat) (m:Nat) (n:Nat) (cA:Cp) (cB:Cp) (cC:Cp) (v:Nat) (t:Nat) (is:Bool):obs (evF Tryz.prog (Zs 3 (Zb (JV i fr nx rc (wdL i 0++tkL i cA cB false false++rkL i cB cC v t is))) Zg) Zf 100 20 13 (mvA fr i) (Jv (VB zs f N m n) rc N n 20 786432))=ZbE frZ (Vc t) (Kz (ZbG (0+i.a.toNat*8+8) nx) (U3 i.a i.a) (Zdn (ZbC (Jw (0+i.c.toNat*8+0+1) fr fr (0+i.c.toNat*8+0)) i.c i.c (Jw (0+i.b.toNat*8+0+1) fr fr (0+i.b.toNat*8+0)) i.b i.b (YI (Zdn (ZbC (Jw (0+i.b.toNat*8+0+1) fr fr (0+i.b.toNat*8+0)) i.b i.b (Jw (0+i.a.toNat*8+0+1) fr fr (0+i.a.toNat*8+0)) i.a i.a (YI (Zbm (UI (Zcn (KM (W4 fr (V5 i.op i.a i.b i.c i.m) Zh (rc.all (Zu (fun l=>l.blt 64))=true) rc 73 rc)) (JU i.op) (Wh i.op) (YW i.op) (YW i.op) (YW i.op)) (YW i.op) (ZJ i.op 52) (ZJ i.op 29) (ZJ i.op 30)) i.op))) (Y7 i.op) (WQ fr (0+i.a.toNat*8) 0 cA.C) (WQ fr (0+i.b.toNat*8) 0 cB.C)))) (Y7 i.op) (WQ fr (0+i.b.toNat*8) 0 cB.C) (WQ fr (0+i.c.toNat*8) 0 cC.C)∧is=true)) (YJ t=true):=by kernel_rfl
def ZCX:=Bx.mk (by have h := @Zvb; simp(maxSteps:=99999999) only[ZL.v, ZZ.v, ZN.v, Z3.v, Qb.v, UF.v, QH.v, ZR.v, Qc.v, ZD.v, Ql.v, Qz.v, QV.v, Z8.v, Zz.v, Ku.v, ZW.v, Xl.v, Yk.v, Q7.v, ZdW.v, ZeX.v, Zfz.v, ZeZ.v, YX.v, Wr.v, -eq_self] at h; exact h)
theorem Zy7 (i:In) (fr:Nat→Cp) (nx:Nat→Cp) (rc:List Value) (zs:List UInt8) (f:Nat→Bool) (N:Nat) (m:Nat) (n:Nat) (cA:Cp) (cB:Cp) (cC:Cp) (v:Nat) (t:Nat) (is:Bool) (r:Cp):obs (evF Tryz.prog (Zs 3 (Zb (JV i fr nx rc (wdL i 0++tkL i cA cB false false++rkL i cB cC v t is++[(73,40,ZeK fr i.val r.val,[])]))) Zg) Zf 100 20 13 (mvA fr i) (Jv (VB zs f N m n) rc N n 20 0))=Wg [Zhk (V6 (ZaO 0 (XH (0+i.a.toNat*8) r.C r.E r.B r.T r.P r.Y r.R r.V nx) 0) 0),YQ] (Vb (YH 136 (ZaO 0 (XH (0+i.a.toNat*8) r.C r.E r.B r.T r.P r.Y r.R r.V nx) 0) frZ 0) (Kz (WH (0+Qv (V6 (XH (0+i.a.toNat*8) r.C r.E r.B r.T r.P r.Y r.R r.V nx) 0)) frZ&&ZfE (V6 (XH (0+i.a.toNat*8) r.C r.E r.B r.T r.P r.Y r.R r.V nx) 0)) (YH 136 (XH (0+i.a.toNat*8) r.C r.E r.B r.T r.P r.Y r.R r.V nx) frZ 0) (YI (Kz (ZbG (0+i.a.toNat*8+8) nx) (U3 i.a i.a) (XS (QK (Zdn (ZbC (Jw (0+i.c.toNat*8+0+1) fr fr (0+i.c.toNat*8+0)) i.c i.c (Jw (0+i.b.toNat*8+0+1) fr fr (0+i.b.toNat*8+0)) i.b i.b (YI (Zdn (ZbC (Jw (0+i.b.toNat*8+0+1) fr fr (0+i.b.toNat*8+0)) i.b i.b (Jw (0+i.a.toNat*8+0+1) fr fr (0+i.a.toNat*8+0)) i.a i.a (YI (Zbm (Zcn (Zdk (KT (YI (W4 fr (V5 i.op i.a i.b i.c i.m) Zh (rc.all (Zu (fun l=>l.blt 64))=true) rc 73 rc))) (JU i.op) (Wh i.op)) (Wh i.op) (YW i.op) (ZJ i.op 52) (ZJ i.op 29) (ZJ i.op 30)) i.op))) (Y7 i.op) (WQ fr (0+i.a.toNat*8) 0 cA.C) (WQ fr (0+i.b.toNat*8) 0 cB.C)))) (Y7 i.op) (WQ fr (0+i.b.toNat*8) 0 cB.C) (WQ fr (0+i.c.toNat*8) 0 cC.C)) is) (Uo fr fr) (V5 i.op i.a i.b i.c i.m)))))):=by kernel_rfl
def ZFD:=Bx.mk (by have h := @Zy7; simp(maxSteps:=99999999) only[ZL.v, ZZ.v, ZN.v, Z3.v, Qb.v, UF.v, QH.v, ZR.v, Qc.v, ZD.v, Ql.v, QV.v, Y9.v, JI.v, QN.v, Z8.v, Zz.v, Uq.v, Ku.v, ZW.v, Xl.v, Yk.v, Q7.v, ZdW.v, ZeX.v, Zfz.v, ZeZ.v, YX.v, Wr.v, -eq_self] at h; exact h)
end Go.Proofs.YtagacmljbgkmoaaGreatDoor
