/-
  CoreDoesCard: the proof's last part: the statement holds, with no condition.
-/
import Derived.ChangeSlices
import Derived.OpenShut
import Derived.Test.YtagacmljbgkmoaaGreatDoorCards
import Derived.Test.YtagacmljbgkmoaaGreatDoorQCoreDoesCardE
import Derived.Test.YtagacmljbgkmoaaGreatDoorTie
set_option linter.unusedSimpArgs false
set_option linter.unusedVariables false
set_option linter.unusedSectionVars false
namespace Go.Proofs.YtagacmljbgkmoaaGreatDoor
open Go.IntKind (u8 u16 u32 u64 i64)
open Go.RowKit
open Sy
set_option maxRecDepth 100000
theorem ZJ1 (fr:Nat→Cp) (i:In) (lo:Nat) (hi:Nat):obs (evF Tryz.prog (Zk 3 (Za [(69,111,Zbz (fr i.b.toNat) lo hi,[])]) Zc) Zb 100 20 62 (Zd1 fr (Zmp Yg i.a i.b i.c i.m)) (Vk [KR]))=Up (Zed i.m 0) (ZL (Yd (0+i.c.toNat*8+8) fr (0+i.c.toNat*8) i.c (0+i.b.toNat*8+8) (0+i.b.toNat*8) i.b (Qu fr (0+i.b.toNat*8) (0+i.b.toNat*8+1) i.b.toNat (fr i.b.toNat)))):=by kernel_rfl
def dd_1:=Bx.mk (by have h:=@ZJ1;simp(maxSteps:=99999999) only[Zx.v,ZF.v,ZD.v,ZO.v,X0.v,ZR.v,Zw.v,Zl.v,Zq.v,Z2.v,Z5.v,ZA.v,Ye.v,Zkk.v,ZeX.v,Qa.v,X8.v,-eq_self] at h;exact h)
theorem ZJ2 (fr:Nat→Cp) (i:In) (lo:Nat) (hi:Nat):obs (evF Tryz.prog (Zk 3 (Za [(69,111,Zbz (fr i.b.toNat) lo hi,[])]) Zc) Zb 100 20 62 (Zd1 fr (Zmp ZW i.a i.b i.c i.m)) (Vk [W1,Zc9]))=Up (Zed (u32.wrap i.m*(4096:Int)) 0) (Yt (Yd (0+i.c.toNat*8+8) fr (0+i.c.toNat*8) i.c (0+i.b.toNat*8+8) (0+i.b.toNat*8) i.b (Qu fr (0+i.b.toNat*8) (0+i.b.toNat*8+1) i.b.toNat (fr i.b.toNat)))):=by kernel_rfl
def dd_2:=Bx.mk (by have h:=@ZJ2;simp(maxSteps:=99999999) only[Zx.v,ZF.v,V7.v,ZD.v,ZO.v,ZU.v,X0.v,ZR.v,Zw.v,Zl.v,Zq.v,Ym.v,Z2.v,Z5.v,ZA.v,Ye.v,Zkk.v,Zbw.v,ZeX.v,Qa.v,X8.v,-eq_self] at h;exact h)
theorem ZDQ (fr:Nat→Cp) (i:In) (lo:Nat) (hi:Nat):obs (evF Tryz.prog (Zk 3 (Za [(69,111,Zbz (fr i.b.toNat) lo hi,[])]) Zc) Zb 100 20 62 (Zd1 fr (Zmp YD i.a i.b i.c i.m)) (Vk [W1,ZbS,ZgB 2]))=Up (Zff (ZqJ fr (0+i.b.toNat*8) i.m) 0) (XU (Yd (0+i.c.toNat*8+8) fr (0+i.c.toNat*8) i.c (0+i.b.toNat*8+8) (0+i.b.toNat*8) i.b (Qu fr (0+i.b.toNat*8) (0+i.b.toNat*8+1) i.b.toNat (fr i.b.toNat)))):=by kernel_rfl
def ZNI:=Bx.mk (by have h:=@ZDQ;simp(maxSteps:=99999999) only[Zx.v,ZF.v,ZD.v,ZO.v,ZU.v,X0.v,ZR.v,Zw.v,Zl.v,ZB.v,Zq.v,Z2.v,Z5.v,ZA.v,QX.v,Ye.v,Js.v,ZeX.v,Qa.v,X8.v,-eq_self] at h;exact h)
theorem ZDR (fr:Nat→Cp) (i:In) (lo:Nat) (hi:Nat):obs (evF Tryz.prog (Zk 3 (Za [(69,111,Zbz (fr i.b.toNat) lo hi,[])]) Zc) Zb 100 20 62 (YT fr 31 i.a i.b i.c i.m) (Zu 4 8))=Zb0 (ZI fr (0+i.b.toNat*8) (0+i.b.toNat*8+1) i.b.toNat) (WC (Yd (0+i.c.toNat*8+8) fr (0+i.c.toNat*8) i.c (0+i.b.toNat*8+8) (0+i.b.toNat*8) i.b (Qu fr (0+i.b.toNat*8) (0+i.b.toNat*8+1) i.b.toNat (fr i.b.toNat)))):=by kernel_rfl
def ZNJ:=Bx.mk (by have h:=@ZDR;simp(maxSteps:=99999999) only[Zx.v,ZF.v,ZD.v,ZO.v,ZU.v,ZR.v,Zw.v,Zl.v,ZB.v,Zq.v,Z5.v,ZA.v,Ye.v,Z8.v,Qa.v,X8.v,-eq_self] at h;exact h)
theorem ZDS (fr:Nat→Cp) (i:In) (lo:Nat) (hi:Nat):obs (evF Tryz.prog (Zk 3 (Za [(69,111,Zbz (fr i.b.toNat) lo hi,[])]) Zc) Zb 100 20 62 (YT fr 42 i.a i.b i.c i.m) (Zu 15 16384))=Up (Zff (WQ fr 0 (i.b.toNat*8)) 0) (VI (Vp (0+i.c.toNat*8+8) fr fr (0+i.c.toNat*8) i.c i.c (WF (0+i.b.toNat*8+8) fr (0+i.b.toNat*8)) i.b i.b (Qu fr (0+i.b.toNat*8) (0+i.b.toNat*8+1) i.b.toNat (fr i.b.toNat)))):=by kernel_rfl
def ZNK:=Bx.mk (by have h:=@ZDS;simp(maxSteps:=99999999) only[Zx.v,ZF.v,ZD.v,ZO.v,ZU.v,ZR.v,Zw.v,Zl.v,ZB.v,Zo.v,Zq.v,YV.v,Z5.v,ZA.v,Ye.v,Z8.v,U5.v,ZeX.v,Qa.v,X8.v,-eq_self] at h;exact h)
theorem ZDT (fr:Nat→Cp) (i:In) (lo:Nat) (hi:Nat):obs (evF Tryz.prog (Zk 3 (Za [(69,111,Zbz (fr i.b.toNat) lo hi,[])]) Zc) Zb 100 20 62 (YT fr 43 i.a i.b i.c i.m) (Zu 16 32768))=Up (ZhY lo 0) (Zax (Vp (0+i.c.toNat*8+8) fr fr (0+i.c.toNat*8) i.c i.c (WF (0+i.b.toNat*8+8) fr (0+i.b.toNat*8)) i.b i.b (Qu fr (0+i.b.toNat*8) (0+i.b.toNat*8+1) i.b.toNat (fr i.b.toNat)))):=by kernel_rfl
def ZNL:=Bx.mk (by have h:=@ZDT;simp(maxSteps:=99999999) only[Zx.v,ZF.v,ZD.v,ZO.v,ZU.v,ZR.v,Zw.v,Zl.v,ZB.v,Zo.v,Zq.v,YV.v,Z5.v,ZA.v,Zdn.v,ZjN.v,Ye.v,Z8.v,Zkl.v,U5.v,ZeX.v,Qa.v,X8.v,-eq_self] at h;exact h)
theorem ZDU (fr:Nat→Cp) (i:In) (lo:Nat) (hi:Nat):obs (evF Tryz.prog (Zk 3 (Za [(69,111,Zbz (fr i.b.toNat) lo hi,[])]) Zc) Zb 100 20 62 (YT fr 44 i.a i.b i.c i.m) (Zu 17 65536))=Up (Zed (ZhF ZnW (Zvg (QW hi) (Qv lo)) ZnW) 0) (ZL (X5 (Vp (0+i.c.toNat*8+8) fr fr (0+i.c.toNat*8) i.c i.c (WF (0+i.b.toNat*8+8) fr (0+i.b.toNat*8)) i.b i.b (Qu fr (0+i.b.toNat*8) (0+i.b.toNat*8+1) i.b.toNat (fr i.b.toNat))))):=by kernel_rfl
def ZNM:=Bx.mk (by have h:=@ZDU;simp(maxSteps:=99999999) only[Zx.v,ZF.v,ZD.v,ZO.v,ZU.v,ZR.v,Zw.v,Zl.v,ZB.v,Zo.v,Zq.v,YV.v,Z2.v,Xh.v,Z5.v,ZA.v,Ye.v,Zkk.v,Z8.v,U5.v,ZGS.v,ZeX.v,Qa.v,X8.v,-eq_self] at h;exact h)
theorem ZDV (fr:Nat→Cp) (i:In) (lo:Nat) (hi:Nat):obs (evF Tryz.prog (Zk 3 (Za [(69,111,Zbz (fr i.b.toNat) lo hi,[])]) Zc) Zb 100 20 62 (YT fr 45 i.a i.b i.c i.m) (Zu 18 131072))=Up (Zed (KV fr (0+i.b.toNat*8+1+1+1+1)) 0) (Yt (X5 (Vp (0+i.c.toNat*8+8) fr fr (0+i.c.toNat*8) i.c i.c (WF (0+i.b.toNat*8+8) fr (0+i.b.toNat*8)) i.b i.b (Qu fr (0+i.b.toNat*8) (0+i.b.toNat*8+1) i.b.toNat (fr i.b.toNat))))):=by kernel_rfl
def ZNN:=Bx.mk (by have h:=@ZDV;simp(maxSteps:=99999999) only[Zx.v,ZF.v,ZD.v,ZO.v,ZU.v,ZR.v,Zw.v,Zl.v,ZB.v,Zo.v,Zq.v,YV.v,Z2.v,Z5.v,ZA.v,Ye.v,Zkk.v,Zbw.v,Z8.v,U5.v,ZeX.v,Qa.v,X8.v,-eq_self] at h;exact h)
theorem ZDW (fr:Nat→Cp) (i:In) (lo:Nat) (hi:Nat):obs (evF Tryz.prog (Zk 3 (Za [(69,111,Zbz (fr i.b.toNat) lo hi,[])]) Zc) Zb 100 20 62 (YT fr 46 i.a i.b i.c i.m) (Zu 19 262144))=Up (Zed (KV fr (0+i.b.toNat*8+1+1+1+1+1)) 0) (XU (X5 (Vp (0+i.c.toNat*8+8) fr fr (0+i.c.toNat*8) i.c i.c (WF (0+i.b.toNat*8+8) fr (0+i.b.toNat*8)) i.b i.b (Qu fr (0+i.b.toNat*8) (0+i.b.toNat*8+1) i.b.toNat (fr i.b.toNat))))):=by kernel_rfl
def ZNO:=Bx.mk (by have h:=@ZDW;simp(maxSteps:=99999999) only[Zx.v,ZF.v,ZD.v,ZO.v,ZU.v,ZR.v,Zw.v,Zl.v,ZB.v,Zo.v,Zq.v,YV.v,Z2.v,Z5.v,ZA.v,QX.v,Ye.v,Zkk.v,Js.v,Z8.v,U5.v,ZeX.v,Qa.v,X8.v,-eq_self] at h;exact h)
theorem ZDX (fr:Nat→Cp) (i:In) (lo:Nat) (hi:Nat) (r:Cp):obs (evF Tryz.prog (Zk 3 (Za [(69,111,Zbz (fr i.b.toNat) lo hi,[]),(69,112,ZjQ (fr i.b.toNat).val r.val,[])]) Zc) Zb 100 20 62 (YT fr 41 i.a i.b i.c i.m) (Zu 5 16))=Zb0 (Z6 r.C r.E r.B r.T r.P r.Y r.R r.V) (XQ (JP (Yd (0+i.c.toNat*8+8) fr (0+i.c.toNat*8) i.c (0+i.b.toNat*8+8) (0+i.b.toNat*8) i.b (Qu fr (0+i.b.toNat*8) (0+i.b.toNat*8+1) i.b.toNat (fr i.b.toNat)))) (Qu fr (0+i.b.toNat*8) (0+i.b.toNat*8+1) i.b.toNat (fr i.b.toNat))):=by kernel_rfl
def ZNP:=Bx.mk (by have h:=@ZDX;simp(maxSteps:=99999999) only[Zx.v,ZF.v,ZD.v,ZO.v,ZU.v,ZR.v,Zw.v,Zl.v,ZB.v,Zo.v,Zq.v,Z5.v,ZA.v,UA.v,Ye.v,Z8.v,Qa.v,X8.v,-eq_self] at h;exact h)
theorem ZDY (fr:Nat→Cp) (i:In) (lo:Nat) (hi:Nat) (u:Nat) (r:Cp):obs (evF Tryz.prog (Zk 3 (Za [(69,111,Zbz (fr i.b.toNat) lo hi,[]),(69,105,Za9 (fr i.b.toNat) (ZX u) r.val,[])]) Zc) Zb 100 20 62 (YT fr 32 i.a i.b i.c i.m) (Zu 6 32))=Zcj (Z6 r.C r.E r.B r.T r.P r.Y r.R r.V) (ZgX (Yd (0+i.c.toNat*8+8) fr (0+i.c.toNat*8) i.c (0+i.b.toNat*8+8) (0+i.b.toNat*8) i.b (Qu fr (0+i.b.toNat*8) (0+i.b.toNat*8+1) i.b.toNat (fr i.b.toNat))) Ze) (Qu fr (0+i.b.toNat*8) (0+i.b.toNat*8+1) i.b.toNat (fr i.b.toNat)) (Zao (U3 (KV fr (0+i.b.toNat*8)+KV fr (0+i.c.toNat*8))) u):=by kernel_rfl
def ZNQ:=Bx.mk (by have h:=@ZDY;simp(maxSteps:=99999999) only[Zx.v,ZF.v,ZD.v,ZO.v,ZU.v,ZR.v,Zp.v,Zw.v,Zl.v,ZB.v,Zo.v,Zq.v,Z2.v,Z5.v,ZA.v,Ye.v,Z8.v,ZnV.v,Zhr.v,Qa.v,X8.v,-eq_self] at h;exact h)
theorem ZDZ (fr:Nat→Cp) (i:In) (lo:Nat) (hi:Nat) (u:Nat) (r:Cp):obs (evF Tryz.prog (Zk 3 (Za [(69,111,Zbz (fr i.b.toNat) lo hi,[]),(69,105,Za9 (fr i.b.toNat) (ZX u) r.val,[])]) Zc) Zb 100 20 62 (YT fr 33 i.a i.b i.c i.m) (Zu 7 64))=Zcj (Z6 r.C r.E r.B r.T r.P r.Y r.R r.V) (VI (Yd (0+i.c.toNat*8+8) fr (0+i.c.toNat*8) i.c (0+i.b.toNat*8+8) (0+i.b.toNat*8) i.b (Qu fr (0+i.b.toNat*8) (0+i.b.toNat*8+1) i.b.toNat (fr i.b.toNat)))) (Qu fr (0+i.b.toNat*8) (0+i.b.toNat*8+1) i.b.toNat (fr i.b.toNat)) (V2 fr (0+i.b.toNat*8) i.m u):=by kernel_rfl
def ZNR:=Bx.mk (by have h:=@ZDZ;simp(maxSteps:=99999999) only[Zx.v,ZF.v,ZD.v,ZO.v,ZU.v,ZR.v,Zp.v,Zw.v,Zl.v,ZB.v,Zo.v,Zq.v,Z2.v,Z5.v,ZA.v,Ye.v,Z8.v,Zhr.v,Qa.v,X8.v,-eq_self] at h;exact h)
theorem ZD0 (fr:Nat→Cp) (i:In) (lo:Nat) (hi:Nat) (u:Nat) (r:Cp):obs (evF Tryz.prog (Zk 3 (Za [(69,111,Zbz (fr i.b.toNat) lo hi,[]),(69,105,Za9 (fr i.b.toNat) (ZX u) r.val,[])]) Zc) Zb 100 20 62 (YT fr 34 i.a i.b i.c i.m) (Zu 8 128))=Zcj (Z6 r.C r.E r.B r.T r.P r.Y r.R r.V) (Zax (Yd (0+i.c.toNat*8+8) fr (0+i.c.toNat*8) i.c (0+i.b.toNat*8+8) (0+i.b.toNat*8) i.b (Qu fr (0+i.b.toNat*8) (0+i.b.toNat*8+1) i.b.toNat (fr i.b.toNat)))) (Qu fr (0+i.b.toNat*8) (0+i.b.toNat*8+1) i.b.toNat (fr i.b.toNat)) (Vo fr 0 (i.c.toNat*8) u):=by kernel_rfl
def ZNS:=Bx.mk (by have h:=@ZD0;simp(maxSteps:=99999999) only[Zx.v,ZF.v,ZD.v,ZO.v,ZU.v,ZR.v,Zp.v,Zw.v,Zl.v,ZB.v,Zo.v,Zq.v,Z2.v,Z5.v,ZA.v,Zhp.v,ZjN.v,Ye.v,Z8.v,Zkl.v,Zhr.v,Qa.v,X8.v,-eq_self] at h;exact h)
theorem ZD1 (fr:Nat→Cp) (i:In) (lo:Nat) (hi:Nat) (r:Cp):obs (evF Tryz.prog (Zk 3 (Za [(69,111,Zbz (fr i.b.toNat) lo hi,[]),(69,113,Za9 (fr i.b.toNat) (Ys (fr i.c.toNat)) r.val,[])]) Zc) Zb 100 20 62 (YT fr 35 i.a i.b i.c i.m) (Zu 9 256))=Zcj (Z6 r.C r.E r.B r.T r.P r.Y r.R r.V) (ZL (Vp (0+i.c.toNat*8+8) fr fr (0+i.c.toNat*8) i.c i.c (WF (0+i.b.toNat*8+8) fr (0+i.b.toNat*8)) i.b i.b (Qu fr (0+i.b.toNat*8) (0+i.b.toNat*8+1) i.b.toNat (fr i.b.toNat)))) (Qu fr (0+i.b.toNat*8) (0+i.b.toNat*8+1) i.b.toNat (fr i.b.toNat)) (WQ fr 0 (i.c.toNat*8)=Ys (fr i.c.toNat)):=by kernel_rfl
def ZNT:=Bx.mk (by have h:=@ZD1;simp(maxSteps:=99999999) only[Zx.v,ZF.v,ZD.v,ZO.v,ZU.v,ZR.v,Zp.v,Zw.v,Zl.v,ZB.v,Zo.v,Zq.v,YV.v,Z2.v,Z5.v,ZA.v,Ye.v,Z8.v,U5.v,Zhr.v,Qa.v,Zet.v,X8.v,-eq_self] at h;exact h)
theorem ZD2 (fr:Nat→Cp) (i:In) (lo:Nat) (hi:Nat) (r:Cp):obs (evF Tryz.prog (Zk 3 (Za [(69,111,Zbz (fr i.b.toNat) lo hi,[]),(69,114,Za9 (fr i.b.toNat) (Ys (fr i.c.toNat)) r.val,[])]) Zc) Zb 100 20 62 (YT fr 36 i.a i.b i.c i.m) (Zu 10 512))=Zcj (Z6 r.C r.E r.B r.T r.P r.Y r.R r.V) (Yt (Vp (0+i.c.toNat*8+8) fr fr (0+i.c.toNat*8) i.c i.c (WF (0+i.b.toNat*8+8) fr (0+i.b.toNat*8)) i.b i.b (Qu fr (0+i.b.toNat*8) (0+i.b.toNat*8+1) i.b.toNat (fr i.b.toNat)))) (Qu fr (0+i.b.toNat*8) (0+i.b.toNat*8+1) i.b.toNat (fr i.b.toNat)) (WQ fr 0 (i.c.toNat*8)=Ys (fr i.c.toNat)):=by kernel_rfl
def ZNU:=Bx.mk (by have h:=@ZD2;simp(maxSteps:=99999999) only[Zx.v,ZF.v,ZD.v,ZO.v,ZU.v,ZR.v,Zp.v,Zw.v,Zl.v,ZB.v,Zo.v,Zq.v,YV.v,Z2.v,Z5.v,ZA.v,Ye.v,Zbw.v,Z8.v,U5.v,Zhr.v,Qa.v,Zet.v,X8.v,-eq_self] at h;exact h)
theorem ZD3 (fr:Nat→Cp) (i:In) (lo:Nat) (hi:Nat) (r:Cp):obs (evF Tryz.prog (Zk 3 (Za [(69,111,Zbz (fr i.b.toNat) lo hi,[]),(69,115,Za9 (fr i.b.toNat) (Ys (fr i.c.toNat)) r.val,[])]) Zc) Zb 100 20 62 (YT fr 37 i.a i.b i.c i.m) (Zu 11 1024))=Zcj (Z6 r.C r.E r.B r.T r.P r.Y r.R r.V) (XU (Vp (0+i.c.toNat*8+8) fr fr (0+i.c.toNat*8) i.c i.c (WF (0+i.b.toNat*8+8) fr (0+i.b.toNat*8)) i.b i.b (Qu fr (0+i.b.toNat*8) (0+i.b.toNat*8+1) i.b.toNat (fr i.b.toNat)))) (Qu fr (0+i.b.toNat*8) (0+i.b.toNat*8+1) i.b.toNat (fr i.b.toNat)) (WQ fr 0 (i.c.toNat*8)=Ys (fr i.c.toNat)):=by kernel_rfl
def ZNV:=Bx.mk (by have h:=@ZD3;simp(maxSteps:=99999999) only[Zx.v,ZF.v,ZD.v,ZO.v,ZU.v,ZR.v,Zp.v,Zw.v,Zl.v,ZB.v,Zo.v,Zq.v,YV.v,Z2.v,Z5.v,ZA.v,QX.v,Ye.v,Js.v,Z8.v,U5.v,Zhr.v,Qa.v,Zet.v,X8.v,-eq_self] at h;exact h)
theorem ZD4 (fr:Nat→Cp) (i:In) (lo:Nat) (hi:Nat) (r:Cp):obs (evF Tryz.prog (Zk 3 (Za [(69,111,Zbz (fr i.b.toNat) lo hi,[]),(69,116,Za9 (fr i.b.toNat) (fr i.c.toNat).val r.val,[])]) Zc) Zb 100 20 62 (YT fr 38 i.a i.b i.c i.m) (Zu 12 2048))=Zcj (Z6 r.C r.E r.B r.T r.P r.Y r.R r.V) (WC (Vp (0+i.c.toNat*8+8) fr fr (0+i.c.toNat*8) i.c i.c (WF (0+i.b.toNat*8+8) fr (0+i.b.toNat*8)) i.b i.b (Qu fr (0+i.b.toNat*8) (0+i.b.toNat*8+1) i.b.toNat (fr i.b.toNat)))) (Qu fr (0+i.b.toNat*8) (0+i.b.toNat*8+1) i.b.toNat (fr i.b.toNat)) (Qu fr (0+i.c.toNat*8) (0+i.c.toNat*8+1) i.c.toNat (fr i.c.toNat)):=by kernel_rfl
def ZNW:=Bx.mk (by have h:=@ZD4;simp(maxSteps:=99999999) only[Zx.v,ZF.v,ZD.v,ZO.v,ZU.v,ZR.v,Zp.v,Zw.v,Zl.v,ZB.v,Zo.v,Zq.v,YV.v,Z2.v,Z5.v,ZA.v,Ye.v,Z8.v,U5.v,Zhr.v,Qa.v,X8.v,-eq_self] at h;exact h)
theorem ZD5 (fr:Nat→Cp) (i:In) (lo:Nat) (hi:Nat) (r:Cp):obs (evF Tryz.prog (Zk 3 (Za [(69,111,Zbz (fr i.b.toNat) lo hi,[]),(69,117,Za9 (fr i.b.toNat) (fr i.c.toNat).val r.val,[])]) Zc) Zb 100 20 62 (YT fr 39 i.a i.b i.c i.m) (Zu 13 4096))=Zcj (Z6 r.C r.E r.B r.T r.P r.Y r.R r.V) (JP (Vp (0+i.c.toNat*8+8) fr fr (0+i.c.toNat*8) i.c i.c (WF (0+i.b.toNat*8+8) fr (0+i.b.toNat*8)) i.b i.b (Qu fr (0+i.b.toNat*8) (0+i.b.toNat*8+1) i.b.toNat (fr i.b.toNat)))) (Qu fr (0+i.b.toNat*8) (0+i.b.toNat*8+1) i.b.toNat (fr i.b.toNat)) (Qu fr (0+i.c.toNat*8) (0+i.c.toNat*8+1) i.c.toNat (fr i.c.toNat)):=by kernel_rfl
def ZNX:=Bx.mk (by have h:=@ZD5;simp(maxSteps:=99999999) only[Zx.v,ZF.v,ZD.v,ZO.v,ZU.v,ZR.v,Zp.v,Zw.v,Zl.v,ZB.v,Zo.v,Zq.v,YV.v,Z2.v,Z5.v,ZA.v,UA.v,Ye.v,Z8.v,U5.v,Zhr.v,Qa.v,X8.v,-eq_self] at h;exact h)
theorem ZD6 (fr:Nat→Cp) (i:In) (lo:Nat) (hi:Nat) (r:Cp):obs (evF Tryz.prog (Zk 3 (Za [(69,111,Zbz (fr i.b.toNat) lo hi,[]),(69,118,Za9 (fr i.c.toNat) (fr i.b.toNat).val r.val,[])]) Zc) Zb 100 20 62 (YT fr 40 i.a i.b i.c i.m) (Zu 14 8192))=Zcj (Z6 r.C r.E r.B r.T r.P r.Y r.R r.V) (ZgX (Vp (0+i.c.toNat*8+8) fr fr (0+i.c.toNat*8) i.c i.c (WF (0+i.b.toNat*8+8) fr (0+i.b.toNat*8)) i.b i.b (Qu fr (0+i.b.toNat*8) (0+i.b.toNat*8+1) i.b.toNat (fr i.b.toNat))) Ze) (Qu fr (0+i.c.toNat*8) (0+i.c.toNat*8+1) i.c.toNat (fr i.c.toNat)) (Qu fr (0+i.b.toNat*8) (0+i.b.toNat*8+1) i.b.toNat (fr i.b.toNat)):=by kernel_rfl
def ZNY:=Bx.mk (by have h:=@ZD6;simp(maxSteps:=99999999) only[Zx.v,ZF.v,ZD.v,ZO.v,ZU.v,ZR.v,Zp.v,Zw.v,Zl.v,ZB.v,Zo.v,Zq.v,YV.v,Z2.v,Z5.v,ZA.v,Ye.v,Z8.v,ZnV.v,U5.v,Zhr.v,Qa.v,X8.v,-eq_self] at h;exact h)
theorem Zzt (fr:Nat→Cp) (i:In) (lo:Nat) (hi:Nat):obs (evF Tryz.prog (Zk 3 (Za [(69,111,Zbz (fr i.b.toNat) lo hi,[])]) Zc) Zb 100 20 62 (YT fr 47 i.a i.b i.c i.m) (Zu 21 1572864))=Up (Zff Zaz 0) (ZnU (X5 (Vp (0+i.c.toNat*8+8) fr fr (0+i.c.toNat*8) i.c i.c (WF (0+i.b.toNat*8+8) fr (0+i.b.toNat*8)) i.b i.b (Qu fr (0+i.b.toNat*8) (0+i.b.toNat*8+1) i.b.toNat (fr i.b.toNat)))) Ze (VL fr i.b.toNat=true)):=by kernel_rfl
def ZJ3:=Bx.mk (by have h:=@Zzt;simp(maxSteps:=99999999) only[Zx.v,ZF.v,ZD.v,ZO.v,ZU.v,ZR.v,Zw.v,Zl.v,ZB.v,Zo.v,Zq.v,YV.v,Z5.v,ZA.v,Z7.v,Ye.v,Z8.v,U5.v,ZjR.v,ZeX.v,Qa.v,X8.v,-eq_self] at h;exact h)
theorem Zzu (fr:Nat→Cp) (i:In) (lo:Nat) (hi:Nat):obs (evF Tryz.prog (Zk 3 (Za [(69,111,Zbz (fr i.b.toNat) lo hi,[])]) Zc) Zb 100 20 62 (YT fr 47 i.a i.b i.c i.m) (Zu 21 524288))=Up ZnP (QF (Zax (X5 (Ka (Yd (0+i.c.toNat*8+8) fr (0+i.c.toNat*8) i.c (0+i.b.toNat*8+8) (0+i.b.toNat*8) i.b (Qu fr (0+i.b.toNat*8) (0+i.b.toNat*8+1) i.b.toNat (fr i.b.toNat)))))) (VL fr i.b.toNat)):=by kernel_rfl
def ZJ4:=Bx.mk (by have h:=@Zzu;simp(maxSteps:=99999999) only[Zx.v,ZF.v,ZD.v,ZO.v,ZU.v,ZR.v,Zw.v,Zl.v,ZB.v,Zo.v,Zq.v,YV.v,Z5.v,ZA.v,ZjN.v,Ye.v,Z8.v,Zkl.v,ZeX.v,Qa.v,X8.v,-eq_self] at h;exact h)
theorem Zzv (fr:Nat→Cp) (i:In) (lo:Nat) (hi:Nat) (k:Bool):obs (evF Tryz.prog (Zk 3 (Za [(69,111,Zbz (fr i.b.toNat) lo hi,[]),(69,120,XV (fr i.b.toNat).val k,[])]) Zc) Zb 100 20 62 (YT fr 48 i.a i.b i.c i.m) (Zu 22 3145728))=Up (Zff Zaz 0) (XQ (XU (X5 (V9 (Vp (0+i.c.toNat*8+8) fr fr (0+i.c.toNat*8) i.c i.c (WF (0+i.b.toNat*8+8) fr (0+i.b.toNat*8)) i.b i.b (Qu fr (0+i.b.toNat*8) (0+i.b.toNat*8+1) i.b.toNat (fr i.b.toNat)))))) (Qu fr (0+i.b.toNat*8) (0+i.b.toNat*8+1) i.b.toNat (fr i.b.toNat))∧k=true):=by kernel_rfl
def ZJ5:=Bx.mk (by have h:=@Zzv;simp(maxSteps:=99999999) only[Zx.v,ZF.v,ZD.v,ZO.v,ZU.v,ZR.v,Zw.v,Zl.v,ZB.v,Zo.v,Zq.v,YV.v,Z5.v,ZA.v,QX.v,Ye.v,Js.v,Z8.v,U5.v,WY.v,ZjR.v,ZeX.v,Qa.v,X8.v,-eq_self] at h;exact h)
theorem Zzw (fr:Nat→Cp) (i:In) (lo:Nat) (hi:Nat) (k:Bool):obs (evF Tryz.prog (Zk 3 (Za [(69,111,Zbz (fr i.b.toNat) lo hi,[]),(69,120,XV (fr i.b.toNat).val k,[])]) Zc) Zb 100 20 62 (YT fr 48 i.a i.b i.c i.m) (Zu 22 1048576))=Up ZnP (QF (XQ (JP (X5 (Vp (0+i.c.toNat*8+8) fr fr (0+i.c.toNat*8) i.c i.c (WF (0+i.b.toNat*8+8) fr (0+i.b.toNat*8)) i.b i.b (Qu fr (0+i.b.toNat*8) (0+i.b.toNat*8+1) i.b.toNat (fr i.b.toNat))))) (Qu fr (0+i.b.toNat*8) (0+i.b.toNat*8+1) i.b.toNat (fr i.b.toNat))) k):=by kernel_rfl
def ZJ6:=Bx.mk (by have h:=@Zzw;simp(maxSteps:=99999999) only[Zx.v,ZF.v,ZD.v,ZO.v,ZU.v,ZR.v,Zw.v,Zl.v,ZB.v,Zo.v,Zq.v,YV.v,Z5.v,ZA.v,UA.v,Ye.v,Z8.v,U5.v,WY.v,ZeX.v,Qa.v,X8.v,-eq_self] at h;exact h)
theorem ZD7 (fr:Nat→Cp) (i:In) (lo:Nat) (hi:Nat) (r:Cp):obs (evF Tryz.prog (Zk 3 (Za [(69,111,Zbz (fr i.b.toNat) lo hi,[]),(69,55,Zb3 fr (VD i.m) r.val,[])]) Zc) Zb 100 20 62 (YT fr 49 i.a i.b i.c i.m) (Zu 22 2097152))=Zcj (Z6 r.C r.E r.B r.T r.P r.Y r.R r.V) (Zax (X5 (Za4 (Yd (0+i.c.toNat*8+8) fr (0+i.c.toNat*8) i.c (0+i.b.toNat*8+8) (0+i.b.toNat*8) i.b (Qu fr (0+i.b.toNat*8) (0+i.b.toNat*8+1) i.b.toNat (fr i.b.toNat)))))) (Uj fr fr) (WR i.m):=by kernel_rfl
def ZNZ:=Bx.mk (by have h:=@ZD7;simp(maxSteps:=99999999) only[Zx.v,ZF.v,ZD.v,ZO.v,ZU.v,ZR.v,Zp.v,Zw.v,Zl.v,ZB.v,Zo.v,Zq.v,Zy.v,YV.v,Z2.v,Z5.v,Xn.v,ZA.v,ZjN.v,Ye.v,Z8.v,Zkl.v,Zhr.v,Qa.v,X8.v,-eq_self] at h;exact h)
def Uq:=(23:Int)
def Zic:=Bx.mk @Uq.eq_1
theorem ZJ7 (fr:Nat→Cp) (i:In) (k:Bool) (a:Nat) (t:Nat) (zs:List UInt8) (f:Nat→Bool) (N:Nat) (m:Nat):obs (evF Tryz.prog Zc Zb 100 20 22 (VC fr i.val) (Yv zs f N m N m 5 31))=UK Yk Xe (ZL (WM ((i.op !=Uq)=true)∧(i.op !=Uq)=true)):=by kernel_rfl
def to_n:=Bx.mk (by have h:=@ZJ7;simp(maxSteps:=99999999) only[Zx.v,ZF.v,ZD.v,ZO.v,ZU.v,Zp.v,Zq.v,XN.v,Qa.v,Zic.v,-eq_self] at h;exact h)
theorem ZJ8 (fr:Nat→Cp) (i:In) (k:Bool) (a:Nat) (t:Nat) (zs:List UInt8) (f:Nat→Bool) (N:Nat) (m:Nat):obs (evF Tryz.prog (Zk 3 (Za [(69,53,XV i.val k,[]),(70,54,ZJM (fr i.b.toNat) a 16 1 t zs f N m,[64,65,66])]) Zc) Zb 100 20 22 (VC fr i.val) (Yv zs f N m N m 5 16))=UK Yk Xe (XR (XQ (Zel (i.op !=Uq)) (WS i.op i.a i.b i.c i.m)) (i.op !=Uq)∧(!k)=true):=by kernel_rfl
def to_m:=Bx.mk (by have h:=@ZJ8;simp(maxSteps:=99999999) only[Zx.v,ZF.v,ZD.v,ZU.v,Zp.v,Zw.v,Zl.v,Zq.v,YE.v,Xq.v,WY.v,Zpn.v,XN.v,Qa.v,Zic.v,-eq_self] at h;exact h)
def ZaI:=QR Zd3
def Zj3:=Bx.mk @ZaI.eq_1
theorem ZJ9 (fr:Nat→Cp) (i:In) (k:Bool) (a:Nat) (t:Nat) (zs:List UInt8) (f:Nat→Bool) (N:Nat) (m:Nat):obs (evF Tryz.prog (Zk 3 (Za [(69,53,XV i.val k,[]),(70,54,ZJM (fr i.b.toNat) a 16 1 t zs f N m,[64,65,66])]) Zc) Zb 100 20 22 (VC fr i.val) (Yv zs f N m N m 6 32))=UK Yk Xe (Qg (V4 (0+i.b.toNat*8+8) fr fr (0+i.b.toNat*8) i.b i.b (JE (XQ (Zel (i.op !=Uq)) (WS i.op i.a i.b i.c i.m)) (i.op !=Uq) (!k))) (Vc (Qu fr (0+i.b.toNat*8) (0+i.b.toNat*8+1) i.b.toNat (fr i.b.toNat)) fr (0+i.b.toNat*8) i.m a ZaI JI Qc) (Yr N m) (Wz f m (fun l=>l.blt 67) 70 f m) zs (fun l=>l.blt 67) 70 [64,65,66] m N∧YS t=true):=by kernel_rfl
def to_t:=Bx.mk (by have h:=@ZJ9;simp(maxSteps:=99999999) only[Zx.v,ZF.v,ZD.v,ZO.v,ZU.v,X0.v,ZR.v,Zp.v,Zw.v,ZH.v,Zl.v,Zq.v,Ym.v,YE.v,Z2.v,Z5.v,ZeU.v,ZA.v,Xq.v,WY.v,Xr.v,WU.v,Zpn.v,XN.v,Qa.v,X8.v,Zic.v,Zj3.v,-eq_self] at h;exact h)
theorem ZKa (fr:Nat→Cp) (i:In) (k:Bool) (a:Nat) (t:Nat) (zs:List UInt8) (f:Nat→Bool) (N:Nat) (m:Nat):obs (evF Tryz.prog (Zk 3 (Za [(69,53,XV i.val k,[]),(70,54,ZJM (fr i.b.toNat) a 16 1 t zs f N m,[64,65,66])]) Zc) Zb 100 20 22 (VC fr i.val) (Yv zs f N m N m 6 0))=Zb0 (VD (i64.wrap (Zul (u32.wrap (ZqF (KV fr (0+i.b.toNat*8)) i.m)) Yz))) (VA (Qg (V4 (0+i.b.toNat*8+8) fr fr (0+i.b.toNat*8) i.b i.b (JE (XQ (Zel (i.op !=Uq)) (WS i.op i.a i.b i.c i.m)) (i.op !=Uq) (!k))) (Vc (Qu fr (0+i.b.toNat*8) (0+i.b.toNat*8+1) i.b.toNat (fr i.b.toNat)) fr (0+i.b.toNat*8) i.m a ZaI JI Qc) (Yr N m) (Wz f m (fun l=>l.blt 67) 70 f m) zs (fun l=>l.blt 67) 70 [64,65,66] m N) t):=by kernel_rfl
def to_k:=Bx.mk (by have h:=@ZKa;simp(maxSteps:=99999999) only[Zx.v,ZF.v,ZD.v,ZO.v,X0.v,ZR.v,Zp.v,Zw.v,ZH.v,Zl.v,Zq.v,Ym.v,YE.v,Z2.v,Z5.v,ZeU.v,ZA.v,Xq.v,WY.v,Xr.v,WU.v,Zpn.v,XN.v,Qa.v,X8.v,Zic.v,Zj3.v,-eq_self] at h;exact h)
theorem ZKb (op:Int):obs (evF Tryz.prog Zc Zb 100 20 57 [VD op] (Zu 8 0))=Wj Yk (Zc6 True (ZQ op 17) (Wp op) (ZQ op 18) (KU op) (ZQ op 19) (ZQ op 22) (ZQ op 23) (W3 op)):=by kernel_rfl
def dw_n:=Bx.mk (by have h:=@ZKb;simp(maxSteps:=99999999) only[Zx.v,ZF.v,YA.v,Zy.v,QA.v,ZcO.v,ZgQ.v,Zd4.v,-eq_self] at h;exact h)
def Jv (a b c d e f g h i j:Int):=JJ (Zvc a b c d e f g h i j)
def JM:=Bx.mk @Jv.eq_1
theorem ZKc (fr:Nat→Cp) (i:In) (k:Bool) (nx:Nat→Cp) (zs:List UInt8) (f:Nat→Bool) (N:Nat) (m:Nat):obs (evF Tryz.prog (Zk 3 (Za [(70,53,XV i.val k,[])]) Zc) Zb 100 20 23 (VC fr i.val) (Yv zs f N m N m 9 511))=Zd5 frZ (ZcC 6) (ZL (WA ((((Jv i.op i.a i.b i.c i.m i.op i.a i.b i.c i.m∧(!k)=true)∧(!k)=true)∧(!k)=true)∧(!k)=true))):=by kernel_rfl
def ro_b:=Bx.mk (by have h:=@ZKc;simp(maxSteps:=99999999) only[Zx.v,ZF.v,ZD.v,ZO.v,Zp.v,Zw.v,ZH.v,Zl.v,Zq.v,Yi.v,YE.v,ZA.v,Xq.v,WY.v,Xd.v,XN.v,Qa.v,JM.v,-eq_self] at h;exact h)
theorem ZKd (fr:Nat→Cp) (i:In) (k:Bool) (nx:Nat→Cp) (zs:List UInt8) (f:Nat→Bool) (N:Nat) (m:Nat):obs (evF Tryz.prog (Zk 3 (Za [(70,53,XV i.val k,[])]) Zc) Zb 100 20 23 (VC fr i.val) (Yv zs f N m N m 9 256))=Zd5 frZ (ZcC 6) (ZfU (Jv i.op i.a i.b i.c i.m i.op i.a i.b i.c i.m) (!k) (i.op==Zr)∧JK i.op=true):=by kernel_rfl
def ro_t:=Bx.mk (by have h:=@ZKd;simp(maxSteps:=99999999) only[Zx.v,ZF.v,ZD.v,YA.v,Zp.v,Zw.v,ZH.v,Zq.v,Zy.v,Yi.v,QA.v,YE.v,ZA.v,Xq.v,WY.v,Xd.v,Kq.v,VO.v,XH.v,XN.v,Qa.v,JM.v,-eq_self] at h;exact h)
def Ur (a b:Nat→Cp):=ZjQ (Xu a) (Xu b)
def ZvW (a:Prop) (b:Int) (c d:Nat→Cp):=Zju a (JK b) (Uj c d)
def Ke (a:Prop) (b c:Bool) (d:Int) (e f:Nat→Cp):=ZvW (ZfU a b c) d e f
def UV:=Bx.mk (aI @Ur.eq_1 (aI @ZvW.eq_1 @Ke.eq_1))
theorem Zzx (fr:Nat→Cp) (i:In) (k:Bool) (nx:Nat→Cp) (zs:List UInt8) (f:Nat→Bool) (N:Nat) (m:Nat):obs (evF Tryz.prog (Zk 3 (Za [(70,53,XV i.val k,[]),(70,28,Ur fr nx,[])]) Zc) Zb 100 20 23 (VC fr i.val) (Yv zs f N m N m 11 1536))=ZgY fr ((Ke (Jv i.op i.a i.b i.c i.m i.op i.a i.b i.c i.m) (!k) (i.op==Zr) i.op fr fr∧Y1 i.op=true)∧Y1 i.op=true):=by kernel_rfl
def ZKe:=Bx.mk (by have h:=@Zzx;simp(maxSteps:=99999999) only[Zx.v,ZF.v,ZD.v,YA.v,Zp.v,Zw.v,ZH.v,Zl.v,Zq.v,Zy.v,Yi.v,QA.v,YE.v,Xn.v,Zd7.v,Xq.v,Z8.v,WY.v,Xd.v,Kq.v,K3.v,VO.v,XH.v,XN.v,Qa.v,JM.v,UV.v,-eq_self] at h;exact h)
theorem Zzy (fr:Nat→Cp) (i:In) (k:Bool) (nx:Nat→Cp) (zs:List UInt8) (f:Nat→Bool) (N:Nat) (m:Nat):obs (evF Tryz.prog (Zk 3 (Za [(70,53,XV i.val k,[]),(70,28,Ur fr nx,[])]) Zc) Zb 100 20 23 (VC fr i.val) (Yv zs f N m N m 12 3072))=ZgY fr (KP (Ke (Jv i.op i.a i.b i.c i.m i.op i.a i.b i.c i.m) (!k) (i.op==Zr) i.op fr fr) (Y1 i.op) (QU i.op=true)∧QU i.op=true):=by kernel_rfl
def ZKf:=Bx.mk (by have h:=@Zzy;simp(maxSteps:=99999999) only[Zx.v,ZF.v,ZD.v,YA.v,Zp.v,Zw.v,ZH.v,Zl.v,Zq.v,Zy.v,Yi.v,QA.v,YE.v,Xn.v,Zd7.v,Xq.v,Z8.v,WY.v,Xd.v,Kq.v,K3.v,Jx.v,VO.v,XH.v,XN.v,Qa.v,JM.v,UV.v,-eq_self] at h;exact h)
theorem Zzz (fr:Nat→Cp) (i:In) (k:Bool) (nx:Nat→Cp) (zs:List UInt8) (f:Nat→Bool) (N:Nat) (m:Nat):obs (evF Tryz.prog (Zk 3 (Za [(70,53,XV i.val k,[]),(70,28,Ur fr nx,[])]) Zc) Zb 100 20 23 (VC fr i.val) (Yv zs f N m N m 12 2048))=ZgY fr (J5 (Ke (Jv i.op i.a i.b i.c i.m i.op i.a i.b i.c i.m) (!k) (i.op==Zr) i.op fr fr) (Y1 i.op) (QU i.op)∧WT i.op=true):=by kernel_rfl
def ZKg:=Bx.mk (by have h:=@Zzz;simp(maxSteps:=99999999) only[Zx.v,ZF.v,ZD.v,YA.v,Zp.v,Zw.v,ZH.v,Zl.v,Zq.v,Zy.v,Yi.v,QA.v,YE.v,Xn.v,Zd7.v,Xq.v,Z8.v,WY.v,Xd.v,Kq.v,K3.v,Jx.v,VO.v,XH.v,XN.v,Qa.v,JM.v,UV.v,-eq_self] at h;exact h)
theorem ZD8 (fr:Nat→Cp) (i:In) (k:Bool) (nx:Nat→Cp) (u:Nat) (v:Nat) (r:Cp) (q:Cp) (zs:List UInt8) (f:Nat→Bool) (N:Nat) (m:Nat):obs (evF Tryz.prog (Zk 3 (Za [(70,53,XV i.val k,[]),(70,28,Ur fr nx,[]),(73,105,Za9 (fr 16) (ZX u) r.val,[]),(75,105,Za9 (fr 16) (ZX v) q.val,[])]) Zc) Zb 100 20 23 (VC fr i.val) (Yv zs f N m N m 13 4096))=Zef (Kr (ZdR q.C ↑q.E q.B q.T q.P q.Y q.R q.V) (QJ (0+i.a.toNat*8) r.C r.E r.B r.T r.P r.Y r.R r.V nx)) (ZdJ (Zcb (Kr (ZdR q.C ↑q.E q.B q.T q.P q.Y q.R q.V) (QJ (0+i.a.toNat*8) r.C r.E r.B r.T r.P r.Y r.R r.V nx)) 0) (Zb9 (0+Zb8 (Kr (ZdR q.C ↑q.E q.B q.T q.P q.Y q.R q.V) (QJ (0+i.a.toNat*8) r.C r.E r.B r.T r.P r.Y r.R r.V nx))) (Kr (ZdR q.C ↑q.E q.B q.T q.P q.Y q.R q.V) (QJ (0+i.a.toNat*8) r.C r.E r.B r.T r.P r.Y r.R r.V nx))) (Zca (Kr (ZdR q.C ↑q.E q.B q.T q.P q.Y q.R q.V) (QJ (0+i.a.toNat*8) r.C r.E r.B r.T r.P r.Y r.R r.V nx)) 0) (ZbR 136 (QJ (0+i.a.toNat*8) r.C r.E r.B r.T r.P r.Y r.R r.V nx)) (Xl (Zbf (UP (0+i.a.toNat*8+8) nx) i.a i.a (Xl (ZdF (Ke (Jv i.op i.a i.b i.c i.m i.op i.a i.b i.c i.m) (!k) (i.op==Zr) i.op fr fr) (Y1 i.op) (QU i.op) (WT i.op)∧Ks i.op=true) (QR (ZkS (fr 16))) (Zao (U3 (QW (fr 16).C+VY)) u))) (QR (ZkS (fr 16))) (Zao (ZkR (QW (fr 16).C) (ZhX VY i.m)) v))):=by kernel_rfl
def ZN0:=Bx.mk (by have h:=@ZD8;simp(maxSteps:=99999999) only[Zx.v,ZF.v,V7.v,ZD.v,YA.v,ZR.v,Zp.v,Zw.v,ZH.v,Zl.v,Zq.v,Zy.v,Yi.v,QA.v,YE.v,Z2.v,Z5.v,Xn.v,ZA.v,Zdn.v,Xq.v,Z8.v,WY.v,Xd.v,Kq.v,K3.v,Jx.v,VO.v,Xr.v,XH.v,XN.v,Qa.v,JM.v,UV.v,-eq_self] at h;exact h)
theorem ZzA (fr:Nat→Cp) (i:In) (k:Bool) (nx:Nat→Cp) (zs:List UInt8) (f:Nat→Bool) (N:Nat) (m:Nat):obs (evF Tryz.prog (Zk 3 (Za [(70,53,XV i.val k,[]),(70,28,Ur fr nx,[])]) Zc) Zb 100 20 23 (VC fr i.val) (Yv zs f N m N m 16 57344))=Zd5 frZ Wm (ZL (V4 (0+i.b.toNat*8+8) fr fr (0+i.b.toNat*8) i.b i.b (V0 (Ke (Jv i.op i.a i.b i.c i.m i.op i.a i.b i.c i.m) (!k) (i.op==Zr) i.op fr fr) (Y1 i.op) (QU i.op) (WT i.op) i.op 29∧Jt i.op=true)∧(!VL fr i.b.toNat)=true)):=by kernel_rfl
def ZKh:=Bx.mk (by have h:=@ZzA;simp(maxSteps:=99999999) only[Zx.v,ZF.v,ZD.v,ZO.v,YA.v,ZR.v,Zp.v,Zw.v,ZH.v,Zl.v,Zq.v,Zy.v,Yi.v,QA.v,YE.v,Xn.v,Zdl.v,ZA.v,Xq.v,Z8.v,WY.v,Xd.v,Kq.v,K3.v,Jx.v,VO.v,Xr.v,WU.v,XH.v,XN.v,Qa.v,JM.v,UV.v,-eq_self] at h;exact h)
theorem ZzB (fr:Nat→Cp) (i:In) (k:Bool) (nx:Nat→Cp) (zs:List UInt8) (f:Nat→Bool) (N:Nat) (m:Nat):obs (evF Tryz.prog (Zk 3 (Za [(70,53,XV i.val k,[]),(70,28,Ur fr nx,[])]) Zc) Zb 100 20 23 (VC fr i.val) (Yv zs f N m N m 17 106496))=Zd5 frZ Jl (ZL (KP (V4 (0+i.b.toNat*8+8) fr fr (0+i.b.toNat*8) i.b i.b (V0 (ZvW (ZkQ (XR (Jv i.op i.a i.b i.c i.m i.op i.a i.b i.c i.m) (!k)) (!k) (i.op==Zr)) i.op fr fr) (Y1 i.op) (QU i.op) (WT i.op) i.op 29∧Jt i.op=true)) (!VL fr i.b.toNat) ((KV fr (0+i.b.toNat*8+1+1+1+1+1) !=Zr)=true))):=by kernel_rfl
def ZKi:=Bx.mk (by have h:=@ZzB;simp(maxSteps:=99999999) only[Zx.v,ZF.v,ZD.v,ZO.v,YA.v,ZR.v,Zp.v,Zw.v,ZH.v,XB.v,Zl.v,Zq.v,Zy.v,Yi.v,Yj.v,YE.v,Xh.v,Xn.v,Zdl.v,ZA.v,Xq.v,Z8.v,WY.v,Xd.v,Kq.v,K3.v,Jx.v,VO.v,Xr.v,WU.v,XN.v,Qa.v,JM.v,UV.v,-eq_self] at h;exact h)
theorem ZzC (fr:Nat→Cp) (i:In) (k:Bool) (nx:Nat→Cp) (zs:List UInt8) (f:Nat→Bool) (N:Nat) (m:Nat):obs (evF Tryz.prog (Zk 3 (Za [(70,53,XV i.val k,[]),(70,28,Ur fr nx,[])]) Zc) Zb 100 20 23 (VC fr i.val) (Yv zs f N m N m 18 204800))=Zd5 frZ (ZcC 3) (ZL (J5 (V4 (0+i.b.toNat*8+8) fr fr (0+i.b.toNat*8) i.b i.b (V0 (Ke (Jv i.op i.a i.b i.c i.m i.op i.a i.b i.c i.m) (!k) (i.op==Zr) i.op fr fr) (Y1 i.op) (QU i.op) (WT i.op) i.op 29∧Jt i.op=true)) (!VL fr i.b.toNat) (KV fr (0+i.b.toNat*8+1+1+1+1+1) !=Zr)∧(ZjC (KV fr (0+i.b.toNat*8+1+1+1+1)) VY==Zr)=true)):=by kernel_rfl
def ZKj:=Bx.mk (by have h:=@ZzC;simp(maxSteps:=99999999) only[Zx.v,ZF.v,V7.v,ZD.v,ZO.v,YA.v,ZR.v,Zp.v,Zw.v,ZH.v,Zl.v,Zq.v,Zy.v,Yi.v,QA.v,Zb2.v,YE.v,Xn.v,Zdl.v,ZA.v,Xq.v,Z8.v,WY.v,Xd.v,Kq.v,K3.v,Jx.v,VO.v,Xr.v,WU.v,XH.v,XN.v,Qa.v,JM.v,UV.v,-eq_self] at h;exact h)
theorem ZzD (fr:Nat→Cp) (i:In) (k:Bool) (nx:Nat→Cp) (r:Cp) (zs:List UInt8) (f:Nat→Bool) (N:Nat) (m:Nat):obs (evF Tryz.prog (Zk 3 (Za [(70,53,XV i.val k,[]),(70,28,Ur fr nx,[]),(72,55,Zb3 fr Wm r.val,[])]) Zc) Zb 100 20 23 (VC fr i.val) (Yv zs f N m N m 18 8192))=Zef (Kr (Zda fr (0+i.b.toNat*8) fr (0+i.b.toNat*8+1) (Zdb fr i.b.toNat) (Zdc fr i.b.toNat) (Zdd fr i.b.toNat) (Zde fr i.b.toNat) (Zdf fr i.b.toNat) (VL fr i.b.toNat)) (QJ (0+i.a.toNat*8) r.C r.E r.B r.T r.P r.Y r.R r.V nx)) (ZdJ (Zcb (Kr (Zda fr (0+i.b.toNat*8) fr (0+i.b.toNat*8+1) (Zdb fr i.b.toNat) (Zdc fr i.b.toNat) (Zdd fr i.b.toNat) (Zde fr i.b.toNat) (Zdf fr i.b.toNat) (VL fr i.b.toNat)) (QJ (0+i.a.toNat*8) r.C r.E r.B r.T r.P r.Y r.R r.V nx)) 0) (Zb9 (0+Zb8 (Kr (Zda fr (0+i.b.toNat*8) fr (0+i.b.toNat*8+1) (Zdb fr i.b.toNat) (Zdc fr i.b.toNat) (Zdd fr i.b.toNat) (Zde fr i.b.toNat) (Zdf fr i.b.toNat) (VL fr i.b.toNat)) (QJ (0+i.a.toNat*8) r.C r.E r.B r.T r.P r.Y r.R r.V nx))) (Kr (Zda fr (0+i.b.toNat*8) fr (0+i.b.toNat*8+1) (Zdb fr i.b.toNat) (Zdc fr i.b.toNat) (Zdd fr i.b.toNat) (Zde fr i.b.toNat) (Zdf fr i.b.toNat) (VL fr i.b.toNat)) (QJ (0+i.a.toNat*8) r.C r.E r.B r.T r.P r.Y r.R r.V nx))) (Zca (Kr (Zda fr (0+i.b.toNat*8) fr (0+i.b.toNat*8+1) (Zdb fr i.b.toNat) (Zdc fr i.b.toNat) (Zdd fr i.b.toNat) (Zde fr i.b.toNat) (Zdf fr i.b.toNat) (VL fr i.b.toNat)) (QJ (0+i.a.toNat*8) r.C r.E r.B r.T r.P r.Y r.R r.V nx)) 0) (ZbR 136 (QJ (0+i.a.toNat*8) r.C r.E r.B r.T r.P r.Y r.R r.V nx)) (ZnO (0+i.b.toNat*8+8) fr fr (0+i.b.toNat*8) i.b i.b (UP (0+i.a.toNat*8+8) nx) i.a i.a (UB (Y5 (ZdF (V4 (0+i.b.toNat*8+8) fr fr (0+i.b.toNat*8) i.b i.b (V0 (Ke (Jv i.op i.a i.b i.c i.m i.op i.a i.b i.c i.m) (!k) (i.op==Zr) i.op fr fr) (Y1 i.op) (QU i.op) (WT i.op) i.op 29∧Jt i.op=true)) (!VL fr i.b.toNat) (KV fr (0+i.b.toNat*8+1+1+1+1+1) !=Zr) (ZjC (KV fr (0+i.b.toNat*8+1+1+1+1)) VY==Zr))) (Uj fr fr) Wm))):=by kernel_rfl
def ZKk:=Bx.mk (by have h:=@ZzD;simp(maxSteps:=99999999) only[Zx.v,ZF.v,V7.v,ZD.v,ZU.v,YA.v,ZR.v,Zp.v,Zw.v,ZH.v,Zl.v,Zq.v,Zy.v,Yi.v,QA.v,Zb2.v,YE.v,Z2.v,Z5.v,Xn.v,Zdl.v,ZA.v,Zdn.v,Xq.v,Z8.v,WY.v,Xd.v,Kq.v,K3.v,Jx.v,VO.v,Xr.v,WU.v,XH.v,XN.v,Qa.v,JM.v,UV.v,-eq_self] at h;exact h)
def Zg3 (a:Int) (b:Nat):=ZvT a (Z1 b)
def Zid:=Bx.mk @Zg3.eq_1
theorem ZD9 (fr:Nat→Cp) (i:In) (k:Bool) (nx:Nat→Cp) (w:Nat) (x:Cp) (t:Nat) (zs:List UInt8) (f:Nat→Bool) (N:Nat) (m:Nat):obs (evF Tryz.prog (Zk 3 (Za [(70,53,XV i.val k,[]),(70,28,Ur fr nx,[]),(71,57,Zg3 i.op w,[]),(71,58,Zds fr i x t zs f N m,[64,65,66])]) Zc) Zb 100 20 23 (VC fr i.val) (Yv zs f N m N m 16 49152))=Zfe frZ t (Qg (Zfp (Ke (Jv i.op i.a i.b i.c i.m i.op i.a i.b i.c i.m) (!k) (i.op==Zr) i.op fr fr) (Y1 i.op) (QU i.op) (WT i.op) (Ks i.op) (Jt i.op) i.op i.op∧Zdg w=true) (YL fr i.op i.a i.b i.c i.m Qc) (Yr N m) (Wz f m (fun l=>l.blt 67) 71 f m) zs (fun l=>l.blt 67) 71 [64,65,66] m N∧YS t=true):=by kernel_rfl
def ZN1:=Bx.mk (by have h:=@ZD9;simp(maxSteps:=99999999) only[Zx.v,ZF.v,ZD.v,ZO.v,YA.v,X0.v,Zp.v,Zw.v,ZH.v,Zl.v,Zo.v,Zq.v,Zy.v,Yi.v,QA.v,Ym.v,YE.v,Xn.v,ZA.v,Xq.v,Z8.v,WY.v,Xd.v,Kq.v,K3.v,Jx.v,VO.v,Xr.v,WU.v,Jy.v,XH.v,XN.v,Yc.v,Qa.v,JM.v,UV.v,Zid.v,-eq_self] at h;exact h)
theorem ZEa (fr:Nat→Cp) (i:In) (k:Bool) (nx:Nat→Cp) (w:Nat) (x:Cp) (t:Nat) (zs:List UInt8) (f:Nat→Bool) (N:Nat) (m:Nat):obs (evF Tryz.prog (Zk 3 (Za [(70,53,XV i.val k,[]),(70,28,Ur fr nx,[]),(71,57,Zg3 i.op w,[]),(71,58,Zds fr i x t zs f N m,[64,65,66])]) Zc) Zb 100 20 23 (VC fr i.val) (Yv zs f N m N m 16 16384))=Zef (QJ (0+i.a.toNat*8) x.C x.E x.B x.T x.P x.Y x.R x.V nx) (W8 (Zcb (QJ (0+i.a.toNat*8) x.C x.E x.B x.T x.P x.Y x.R x.V nx) 0) (ZkV (Zb9 (0+Zb8 (QJ (0+i.a.toNat*8) x.C x.E x.B x.T x.P x.Y x.R x.V nx)) (QJ (0+i.a.toNat*8) x.C x.E x.B x.T x.P x.Y x.R x.V nx)) (Zca (QJ (0+i.a.toNat*8) x.C x.E x.B x.T x.P x.Y x.R x.V nx) 0) (UP (0+i.a.toNat*8+8) nx) i.a i.a (VA (Qg (Zfp (Ke (Jv i.op i.a i.b i.c i.m i.op i.a i.b i.c i.m) (!k) (i.op==Zr) i.op fr fr) (Y1 i.op) (QU i.op) (WT i.op) (Ks i.op) (Jt i.op) i.op i.op∧Zdg w=true) (YL fr i.op i.a i.b i.c i.m Qc) (Yr N m) (Wz f m (fun l=>l.blt 67) 71 f m) zs (fun l=>l.blt 67) 71 [64,65,66] m N) t))):=by kernel_rfl
def ZN2:=Bx.mk (by have h:=@ZEa;simp(maxSteps:=99999999) only[Zx.v,ZF.v,ZD.v,ZO.v,YA.v,X0.v,ZR.v,Zp.v,Zw.v,ZH.v,Zl.v,Zo.v,Zq.v,Zy.v,Yi.v,QA.v,Ym.v,YE.v,Z2.v,Xn.v,ZA.v,Zdn.v,Xq.v,Z8.v,WY.v,Xd.v,Kq.v,K3.v,Jx.v,VO.v,Xr.v,WU.v,Jy.v,XH.v,XN.v,Yc.v,Qa.v,JM.v,UV.v,Zid.v,-eq_self] at h;exact h)
theorem ZEb (fr:Nat→Cp) (i:In) (k:Bool) (nx:Nat→Cp) (w:Nat) (x:Cp) (z2:List UInt8) (f2:Nat→Bool) (zs:List UInt8) (f:Nat→Bool) (N:Nat) (m:Nat):evF Tryz.prog (Zk 3 (Za [(70,53,XV i.val k,[]),(70,28,Ur fr nx,[]),(71,57,Zg3 i.op w,[]),(71,58,ZmJ (Zkn fr i) (ZfK [x.val,Yk]) zs z2 f f2 N m,[64,65,66])]) Zc) Zb 100 20 23 (VC fr i.val) (ZdK 67 (arR true zs f N m) N m 16 16384)=JD [ZaJ (ZqW (QJ (0+i.a.toNat*8) x.C x.E x.B x.T x.P x.Y x.R x.V nx)),Yk] 72 [(66,UG N m),(65,Jg 65 f2 m),(64,KS z2)] [(65,m),(64,N),(65,m),(64,N)] 16 (W8 (Zcb (QJ (0+i.a.toNat*8) x.C x.E x.B x.T x.P x.Y x.R x.V nx) 0) (ZkV (Zb9 (0+Zb8 (QJ (0+i.a.toNat*8) x.C x.E x.B x.T x.P x.Y x.R x.V nx)) (QJ (0+i.a.toNat*8) x.C x.E x.B x.T x.P x.Y x.R x.V nx)) (Zca (QJ (0+i.a.toNat*8) x.C x.E x.B x.T x.P x.Y x.R x.V nx) 0) (UP (0+i.a.toNat*8+8) nx) i.a i.a (Y5 (Qg (Zfp (Ke (Jv i.op i.a i.b i.c i.m i.op i.a i.b i.c i.m) (!k) (i.op==Zr) i.op fr fr) (Y1 i.op) (QU i.op) (WT i.op) (Ks i.op) (Jt i.op) i.op i.op∧Zdg w=true) (YL fr i.op i.a i.b i.c i.m Qc) (Yr N m) (Wz f m (fun l=>l.blt 67) 71 f m) zs (fun l=>l.blt 67) 71 [64,65,66] m N)))):=by kernel_rfl
def ZN3:=Bx.mk (by have h:=@ZEb;simp(maxSteps:=99999999) only[Zx.v,ZD.v,ZO.v,ZU.v,YA.v,X0.v,ZR.v,Ud.v,Zp.v,Zw.v,ZH.v,Zl.v,Zo.v,Zy.v,Yi.v,QA.v,YE.v,Xn.v,ZA.v,Xq.v,Z8.v,WY.v,Xd.v,Kq.v,K3.v,Jx.v,VO.v,Xr.v,WU.v,Jy.v,XH.v,Yc.v,Qa.v,JM.v,UV.v,Zid.v,-eq_self] at h;exact h)
def Zld (a b:List Value):=Con.pure a (ZfK b)
def Zoh:=Bx.mk @Zld.eq_1
theorem ZzE (fr:Nat→Cp) (i:In) (k:Bool) (nx:Nat→Cp) (w:Nat) (tk:Bool) (ti:Bool) (r:Cp) (zs:List UInt8) (f:Nat→Bool) (N:Nat) (m:Nat):obs (evF Tryz.prog (Zk 3 (Za [(70,53,XV i.val k,[]),(70,28,Ur fr nx,[]),(71,57,Zg3 i.op w,[]),(71,59,Zld [VD i.op,Ys (fr i.a.toNat),Ys (fr i.b.toNat)] [Value.bool tk,Value.bool ti],[]),(71,55,Zb3 fr (VD i.m) r.val,[])]) Zc) Zb 100 20 23 (VC fr i.val) (Yv zs f N m N m 17 98304))=ZnQ (frQ nx (ZdR r.C ↑r.E r.B r.T r.P r.Y r.R r.V)) (Xl ((VP (JH (Yu (0+i.b.toNat*8+0+1) fr (0+i.b.toNat*8+0)) i.b i.b (Yu (0+i.a.toNat*8+0+1) fr (0+i.a.toNat*8+0)) i.a i.a (QF (Zfp (Ke (Jv i.op i.a i.b i.c i.m i.op i.a i.b i.c i.m) (!k) (i.op==Zr) i.op fr fr) (Y1 i.op) (QU i.op) (WT i.op) (Ks i.op) (Jt i.op) i.op i.op) (Zdg w))) i.op (WQ fr (0+i.a.toNat*8) 0=Ys (fr i.a.toNat)) (WQ fr (0+i.b.toNat*8) 0=Ys (fr i.b.toNat))∧ti=true)∧tk=true) (Uj fr fr) (WR i.m)):=by kernel_rfl
def ZKl:=Bx.mk (by have h:=@ZzE;simp(maxSteps:=99999999) only[Zx.v,ZF.v,ZD.v,YA.v,ZR.v,Zp.v,Zw.v,ZH.v,Zl.v,Zo.v,Zq.v,Zy.v,Yi.v,QA.v,YE.v,Z2.v,Z5.v,Xn.v,ZA.v,Zdn.v,Xq.v,Z8.v,WY.v,Xd.v,Kq.v,K3.v,Jx.v,VO.v,Xr.v,WU.v,Jy.v,ZcV.v,XH.v,XN.v,Yc.v,Qa.v,Zet.v,JM.v,UV.v,Zid.v,Zoh.v,-eq_self] at h;exact h)
theorem ZzF (fr:Nat→Cp) (i:In) (k:Bool) (nx:Nat→Cp) (w:Nat) (tk:Bool) (ti:Bool) (zs:List UInt8) (f:Nat→Bool) (N:Nat) (m:Nat):obs (evF Tryz.prog (Zk 3 (Za [(70,53,XV i.val k,[]),(70,28,Ur fr nx,[]),(71,57,Zg3 i.op w,[]),(71,59,Zld [VD i.op,Ys (fr i.a.toNat),Ys (fr i.b.toNat)] [Value.bool tk,Value.bool ti],[])]) Zc) Zb 100 20 23 (VC fr i.val) (Yv zs f N m N m 17 32768))=ZgY nx (QF (VP (JH (Yu (0+i.b.toNat*8+0+1) fr (0+i.b.toNat*8+0)) i.b i.b (Yu (0+i.a.toNat*8+0+1) fr (0+i.a.toNat*8+0)) i.a i.a (QF (Zfp (Ke (Jv i.op i.a i.b i.c i.m i.op i.a i.b i.c i.m) (!k) (i.op==Zr) i.op fr fr) (Y1 i.op) (QU i.op) (WT i.op) (Ks i.op) (Jt i.op) i.op i.op) (Zdg w))) i.op (WQ fr (0+i.a.toNat*8) 0=Ys (fr i.a.toNat)) (WQ fr (0+i.b.toNat*8) 0=Ys (fr i.b.toNat))∧ti=true) tk):=by kernel_rfl
def ZKm:=Bx.mk (by have h:=@ZzF;simp(maxSteps:=99999999) only[Zx.v,ZF.v,ZD.v,YA.v,ZR.v,Zp.v,Zw.v,ZH.v,Zl.v,Zo.v,Zq.v,Zy.v,Yi.v,QA.v,YE.v,Xn.v,ZA.v,Zd7.v,Xq.v,Z8.v,WY.v,Xd.v,Kq.v,K3.v,Jx.v,VO.v,Xr.v,WU.v,Jy.v,ZcV.v,XH.v,XN.v,Yc.v,Qa.v,Zet.v,JM.v,UV.v,Zid.v,Zoh.v,-eq_self] at h;exact h)
theorem ZzG (fr:Nat→Cp) (i:In) (k:Bool) (nx:Nat→Cp) (w:Nat) (tk:Bool) (ti:Bool) (v:Nat) (t:Nat) (ri:Bool) (zs:List UInt8) (f:Nat→Bool) (N:Nat) (m:Nat):obs (evF Tryz.prog (Zk 3 (Za [(70,53,XV i.val k,[]),(70,28,Ur fr nx,[]),(71,57,Zg3 i.op w,[]),(71,59,Zld [VD i.op,Ys (fr i.a.toNat),Ys (fr i.b.toNat)] [Value.bool tk,Value.bool ti],[]),(71,60,Con.pure [VD i.op,Ys (fr i.b.toNat),Ys (fr i.c.toNat)] (Zbx (QW v) (QW t) ri),[])]) Zc) Zb 100 20 23 (VC fr i.val) (Yv zs f N m N m 18 65536))=Zef (Zeg (0+i.a.toNat*8) v 0 nx) (W8 (Zcb (Zeg (0+i.a.toNat*8) v 0 nx) 0) (ZkV (Zb9 (0+Zb8 (Zeg (0+i.a.toNat*8) v 0 nx)) (Zeg (0+i.a.toNat*8) v 0 nx)) (Zca (Zeg (0+i.a.toNat*8) v 0 nx) 0) (UP (0+i.a.toNat*8+8) nx) i.a i.a (VA (VP (JH (Yu (0+i.c.toNat*8+0+1) fr (0+i.c.toNat*8+0)) i.c i.c (Yu (0+i.b.toNat*8+0+1) fr (0+i.b.toNat*8+0)) i.b i.b (QF (VP (JH (Yu (0+i.b.toNat*8+0+1) fr (0+i.b.toNat*8+0)) i.b i.b (Yu (0+i.a.toNat*8+0+1) fr (0+i.a.toNat*8+0)) i.a i.a (QF (Zfp (Ke (Jv i.op i.a i.b i.c i.m i.op i.a i.b i.c i.m) (!k) (i.op==Zr) i.op fr fr) (Y1 i.op) (QU i.op) (WT i.op) (Ks i.op) (Jt i.op) i.op i.op) (Zdg w))) i.op (WQ fr (0+i.a.toNat*8) 0=Ys (fr i.a.toNat)) (WQ fr (0+i.b.toNat*8) 0=Ys (fr i.b.toNat))) ti)) i.op (WQ fr (0+i.b.toNat*8) 0=Ys (fr i.b.toNat)) (WQ fr (0+i.c.toNat*8) 0=Ys (fr i.c.toNat))∧ri=true) t))):=by kernel_rfl
def ZKn:=Bx.mk (by have h:=@ZzG;simp(maxSteps:=99999999) only[Zx.v,ZF.v,ZD.v,YA.v,ZR.v,Zp.v,Zw.v,ZH.v,Zl.v,Zo.v,Zq.v,Zy.v,Yi.v,QA.v,Ym.v,YE.v,Z2.v,Xn.v,ZA.v,Zdn.v,Xq.v,Z8.v,WY.v,Xd.v,Kq.v,K3.v,Jx.v,VO.v,Xr.v,WU.v,Jy.v,ZcV.v,ZHd.v,XH.v,XN.v,Yc.v,Qa.v,Zet.v,JM.v,UV.v,Zid.v,Zoh.v,-eq_self] at h;exact h)
theorem ZzH (fr:Nat→Cp) (i:In) (k:Bool) (nx:Nat→Cp) (w:Nat) (tk:Bool) (ti:Bool) (v:Nat) (t:Nat) (ri:Bool) (zs:List UInt8) (f:Nat→Bool) (N:Nat) (m:Nat):obs (evF Tryz.prog (Zk 3 (Za [(70,53,XV i.val k,[]),(70,28,Ur fr nx,[]),(71,57,Zg3 i.op w,[]),(71,59,Zld [VD i.op,Ys (fr i.a.toNat),Ys (fr i.b.toNat)] [Value.bool tk,Value.bool ti],[]),(71,60,Con.pure [VD i.op,Ys (fr i.b.toNat),Ys (fr i.c.toNat)] (Zbx (QW v) (QW t) ri),[])]) Zc) Zb 100 20 23 (VC fr i.val) (Yv zs f N m N m 18 196608))=Zfe frZ t ((VP (JH (Yu (0+i.c.toNat*8+0+1) fr (0+i.c.toNat*8+0)) i.c i.c (Yu (0+i.b.toNat*8+0+1) fr (0+i.b.toNat*8+0)) i.b i.b (QF (VP (JH (Yu (0+i.b.toNat*8+0+1) fr (0+i.b.toNat*8+0)) i.b i.b (Yu (0+i.a.toNat*8+0+1) fr (0+i.a.toNat*8+0)) i.a i.a (QF (Zfp (Ke (Jv i.op i.a i.b i.c i.m i.op i.a i.b i.c i.m) (!k) (i.op==Zr) i.op fr fr) (Y1 i.op) (QU i.op) (WT i.op) (Ks i.op) (Jt i.op) i.op i.op) (Zdg w))) i.op (WQ fr (0+i.a.toNat*8) 0=Ys (fr i.a.toNat)) (WQ fr (0+i.b.toNat*8) 0=Ys (fr i.b.toNat))) ti)) i.op (WQ fr (0+i.b.toNat*8) 0=Ys (fr i.b.toNat)) (WQ fr (0+i.c.toNat*8) 0=Ys (fr i.c.toNat))∧ri=true)∧YS t=true):=by kernel_rfl
def ZKo:=Bx.mk (by have h:=@ZzH;simp(maxSteps:=99999999) only[Zx.v,ZF.v,ZD.v,YA.v,ZR.v,Zp.v,Zw.v,ZH.v,Zl.v,Zo.v,Zq.v,Zy.v,Yi.v,QA.v,Ym.v,YE.v,Xn.v,ZA.v,Xq.v,Z8.v,WY.v,Xd.v,Kq.v,K3.v,Jx.v,VO.v,Xr.v,WU.v,Jy.v,ZcV.v,XH.v,XN.v,Yc.v,Qa.v,Zet.v,JM.v,UV.v,Zid.v,Zoh.v,-eq_self] at h;exact h)
theorem ZEc (fr:Nat→Cp) (i:In) (k:Bool) (nx:Nat→Cp) (w:Nat) (tk:Bool) (ti:Bool) (v:Nat) (t:Nat) (ri:Bool) (r:Cp) (zs:List UInt8) (f:Nat→Bool) (N:Nat) (m:Nat):obs (evF Tryz.prog (Zk 3 (Za [(70,53,XV i.val k,[]),(70,28,Ur fr nx,[]),(71,57,Zg3 i.op w,[]),(71,59,Zld [VD i.op,Ys (fr i.a.toNat),Ys (fr i.b.toNat)] [Value.bool tk,Value.bool ti],[]),(71,60,Con.pure [VD i.op,Ys (fr i.b.toNat),Ys (fr i.c.toNat)] (Zbx (QW v) (QW t) ri),[]),(71,62,ZqZ (Xu fr) i.val [r.val,QB],[])]) Zc) Zb 100 20 23 (VC fr i.val) (Yv zs f N m N m 17 0))=Zef (QJ (0+i.a.toNat*8) r.C r.E r.B r.T r.P r.Y r.R r.V nx) (W8 (Zcb (QJ (0+i.a.toNat*8) r.C r.E r.B r.T r.P r.Y r.R r.V nx) 0) (ZkV (Zb9 (0+Zb8 (QJ (0+i.a.toNat*8) r.C r.E r.B r.T r.P r.Y r.R r.V nx)) (QJ (0+i.a.toNat*8) r.C r.E r.B r.T r.P r.Y r.R r.V nx)) (Zca (QJ (0+i.a.toNat*8) r.C r.E r.B r.T r.P r.Y r.R r.V nx) 0) (UP (0+i.a.toNat*8+8) nx) i.a i.a (Xl (QF (VP (JH (Yu (0+i.c.toNat*8+0+1) fr (0+i.c.toNat*8+0)) i.c i.c (Yu (0+i.b.toNat*8+0+1) fr (0+i.b.toNat*8+0)) i.b i.b (QF (VP (JH (Yu (0+i.b.toNat*8+0+1) fr (0+i.b.toNat*8+0)) i.b i.b (Yu (0+i.a.toNat*8+0+1) fr (0+i.a.toNat*8+0)) i.a i.a (QF (Zfp (Ke (Jv i.op i.a i.b i.c i.m i.op i.a i.b i.c i.m) (!k) (i.op==Zr) i.op fr fr) (Y1 i.op) (QU i.op) (WT i.op) (Ks i.op) (Jt i.op) i.op i.op) (Zdg w))) i.op (WQ fr (0+i.a.toNat*8) 0=Ys (fr i.a.toNat)) (WQ fr (0+i.b.toNat*8) 0=Ys (fr i.b.toNat))) ti)) i.op (WQ fr (0+i.b.toNat*8) 0=Ys (fr i.b.toNat)) (WQ fr (0+i.c.toNat*8) 0=Ys (fr i.c.toNat))) ri) (Uj fr fr) (WS i.op i.a i.b i.c i.m)))):=by kernel_rfl
def ZN4:=Bx.mk (by have h:=@ZEc;simp(maxSteps:=99999999) only[Zx.v,ZF.v,ZD.v,ZO.v,YA.v,ZR.v,Zp.v,Zw.v,ZH.v,Zl.v,Zo.v,Zq.v,Zy.v,Yi.v,QA.v,YE.v,Z2.v,Z5.v,Xn.v,ZA.v,Zdn.v,Xq.v,Z8.v,WY.v,Xd.v,Kq.v,K3.v,Jx.v,VO.v,Xr.v,WU.v,Jy.v,ZcV.v,XH.v,Zmt.v,XN.v,Yc.v,Qa.v,Zet.v,JM.v,UV.v,Zid.v,Zoh.v,-eq_self] at h;exact h)
def tpL (fr:Nat→Cp) (i:In) (k:Bool) (rc:List Value) (a t:Nat) (zs:List UInt8) (f:Nat→Bool) (N m n:Nat):Sy.Steps :=
 [(70,33,gwC [i.val] rc (.bool k),[]),(71,33,gwC [i.val] rc (.bool k),[]),(71,52,ZGq (fr i.b.toNat) a 16 1 t zs f N m n,[64,65,66,67]),(72,52,ZGq (fr i.b.toNat) a 16 1 t zs f N m n,[64,65,66,67])]
theorem ZKp (fr:Nat→Cp) (i:In) (k:Bool) (rc:List Value) (a:Nat) (t:Nat) (zs:List UInt8) (f:Nat→Bool) (N:Nat) (m:Nat) (n:Nat):obs (evF Tryz.prog Zc Zb 100 20 21 (Zdh fr i.val QG) (KW zs f N m n rc N n 5 31))=UK Yk Xe (ZL (WM ((i.op !=Uq)=true)∧(i.op !=Uq)=true)):=by kernel_rfl
def pt_n:=Bx.mk (by have h:=@ZKp;simp(maxSteps:=99999999) only[Zx.v,ZF.v,ZD.v,ZO.v,ZU.v,Zo.v,Zq.v,Xd.v,Qa.v,Zic.v,-eq_self] at h;exact h)
theorem ZKq (fr:Nat→Cp) (i:In) (k:Bool) (rc:List Value) (a:Nat) (t:Nat) (zs:List UInt8) (f:Nat→Bool) (N:Nat) (m:Nat) (n:Nat):obs (evF Tryz.prog (Zk 3 (Za (tpL fr i k rc a t zs f N m n)) Zc) Zb 100 20 21 (Zdh fr i.val QG) (KW zs f N m n rc N n 5 16))=UK Yk Xe (XR (Zn0 (Zel (i.op !=Uq)) (WS i.op i.a i.b i.c i.m) Ze (rc.all (ZZ (fun l=>l.blt 64))=true) (rc=Zb4 70 rc)) (i.op !=Uq)∧(!k)=true):=by kernel_rfl
def pt_m:=Bx.mk (by have h:=@ZKq;simp(maxSteps:=99999999) only[Zx.v,ZF.v,ZD.v,ZO.v,ZU.v,Zp.v,Zw.v,ZH.v,Zl.v,Zo.v,Zq.v,YE.v,Z7.v,Xq.v,Xd.v,Zpn.v,Qa.v,Zic.v,-eq_self] at h;exact h)
theorem ZKr (fr:Nat→Cp) (i:In) (k:Bool) (rc:List Value) (a:Nat) (t:Nat) (zs:List UInt8) (f:Nat→Bool) (N:Nat) (m:Nat) (n:Nat):obs (evF Tryz.prog (Zk 3 (Za (tpL fr i k rc a t zs f N m n)) Zc) Zb 100 20 21 (Zdh fr i.val QG) (KW zs f N m n rc N n 6 32))=UK Yk Xe (Qz (V4 (0+i.b.toNat*8+8) fr fr (0+i.b.toNat*8) i.b i.b (JE (Zn0 (Zel (i.op !=Uq)) (WS i.op i.a i.b i.c i.m) Ze (rc.all (ZZ (fun l=>l.blt 64))=true) (rc=Zb4 70 rc)) (i.op !=Uq) (!k))) (Vc (Qu fr (0+i.b.toNat*8) (0+i.b.toNat*8+1) i.b.toNat (fr i.b.toNat)) fr (0+i.b.toNat*8) i.m a ZaI JI Yq) (YK N m n (QP f n (fun l=>l.blt 68) 71) zs (fun l=>l.blt 68) 71 [64,65,66,67]) n N∧YS t=true):=by kernel_rfl
def pt_t:=Bx.mk (by have h:=@ZKr;simp(maxSteps:=99999999) only[Zx.v,ZF.v,ZD.v,ZO.v,ZU.v,ZR.v,Zp.v,Zw.v,ZH.v,Zl.v,Zo.v,Zq.v,Ym.v,YE.v,Z2.v,Z5.v,ZeU.v,ZA.v,Z7.v,Xq.v,Xd.v,Xr.v,WU.v,Zpn.v,Qa.v,X8.v,Zic.v,Zj3.v,-eq_self] at h;exact h)
theorem ZKs (fr:Nat→Cp) (i:In) (k:Bool) (rc:List Value) (a:Nat) (t:Nat) (zs:List UInt8) (f:Nat→Bool) (N:Nat) (m:Nat) (n:Nat):obs (evF Tryz.prog (Zk 3 (Za (tpL fr i k rc a t zs f N m n)) Zc) Zb 100 20 21 (Zdh fr i.val QG) (KW zs f N m n rc N n 6 0))=Zb0 (VD (Znk (i64.wrap (u32.wrap (ZqF (KV fr (0+i.b.toNat*8)) i.m))) Yz)) (VA (Qz (V4 (0+i.b.toNat*8+8) fr fr (0+i.b.toNat*8) i.b i.b (JE (Zn0 (Zel (i.op !=Uq)) (WS i.op i.a i.b i.c i.m) Ze (rc.all (ZZ (fun l=>l.blt 64))=true) (rc=Zb4 70 rc)) (i.op !=Uq) (!k))) (Vc (Qu fr (0+i.b.toNat*8) (0+i.b.toNat*8+1) i.b.toNat (fr i.b.toNat)) fr (0+i.b.toNat*8) i.m a ZaI JI Yq) (YK N m n (QP f n (fun l=>l.blt 68) 71) zs (fun l=>l.blt 68) 71 [64,65,66,67]) n N) t):=by kernel_rfl
def pt_k:=Bx.mk (by have h:=@ZKs;simp(maxSteps:=99999999) only[Zx.v,ZF.v,ZD.v,ZO.v,ZR.v,Zp.v,Zw.v,ZH.v,Zl.v,Zo.v,Zq.v,Ym.v,YE.v,Z2.v,Z5.v,ZeU.v,ZA.v,Z7.v,Xq.v,Xd.v,Xr.v,WU.v,Zpn.v,Qa.v,X8.v,Zic.v,Zj3.v,-eq_self] at h;exact h)
theorem ZN5 (fr:Nat→Cp) (a b c:Nat) (k:Int) (hfr:YR fr) (b0:b<16) (c0:c<16):Qi 62 [Xu fr,(inS 1 a b c k).val] (.tuple ⟨[(JQ fr 1 b c k).val,.bool true]⟩):=by
 have hb:b<17:=by omega
 have hc:c<17:=by omega
 have z0:=qD0 b
 have z1:=qD1 b (by omega)
 have z2:=qD0 c
 have z3:=qD1 c (by omega)
 have hrg:=XI (fr b) (hfr b)
 have hr:=dd_1.v fr (inS 1 a b c k) (fr b).lo (fr b).hi
 simp only[inS,(qFS fr b hb).v,(qFS fr c hc).v,Z9,z0,z1,z2,z3,tN,qT5.v,cond_true] at hr
 exact Zi (Z3 hrg) hr rfl trivial rfl rfl
theorem ZN6 (fr:Nat→Cp) (a b c:Nat) (k:Int) (hfr:YR fr) (b0:b<16) (c0:c<16):Qi 62 [Xu fr,(inS 2 a b c k).val] (.tuple ⟨[(JQ fr 2 b c k).val,.bool true]⟩):=by
 have hb:b<17:=by omega
 have hc:c<17:=by omega
 have z0:=qD0 b
 have z1:=qD1 b (by omega)
 have z2:=qD0 c
 have z3:=qD1 c (by omega)
 have hrg:=XI (fr b) (hfr b)
 have hr:=dd_2.v fr (inS 2 a b c k) (fr b).lo (fr b).hi
 simp only[inS,(qFS fr b hb).v,(qFS fr c hc).v,Z9,z0,z1,z2,z3,tN,qT5.v,cond_true] at hr
 exact Zi (Z3 hrg) hr rfl trivial rfl rfl
theorem ZKt (fr:Nat→Cp) (a b c:Nat) (k:Int) (hfr:YR fr) (b0:b<16) (c0:c<16):Qi 62 [Xu fr,(inS 16 a b c k).val] (.tuple ⟨[(JQ fr 16 b c k).val,.bool true]⟩):=by
 have hb:b<17:=by omega
 have hc:c<17:=by omega
 have z0:=qD0 b
 have z1:=qD1 b (by omega)
 have z2:=qD0 c
 have z3:=qD1 c (by omega)
 have hrg:=XI (fr b) (hfr b)
 have hr:=ZNI.v fr (inS 16 a b c k) (fr b).lo (fr b).hi
 simp only[inS,(qFS fr b hb).v,(qFS fr c hc).v,Z9,z0,z1,z2,z3,tN,qT5.v,cond_true] at hr
 exact Zi (Z3 hrg) hr rfl trivial rfl rfl
theorem ZKu (fr:Nat→Cp) (a b c:Nat) (k:Int) (hfr:YR fr) (b0:b<16) (c0:c<16):Qi 62 [Xu fr,(inS 31 a b c k).val] (.tuple ⟨[(JQ fr 31 b c k).val,.bool true]⟩):=by
 have hb:b<17:=by omega
 have hc:c<17:=by omega
 have z0:=qD0 b
 have z1:=qD1 b (by omega)
 have z2:=qD0 c
 have z3:=qD1 c (by omega)
 have hrg:=XI (fr b) (hfr b)
 have hr:=ZNJ.v fr (inS 31 a b c k) (fr b).lo (fr b).hi
 simp only[inS,(qFS fr b hb).v,(qFS fr c hc).v,Z9,z0,z1,z2,z3,tN,qT5.v,cond_true] at hr
 exact Zi (Z3 hrg) hr rfl trivial rfl rfl
theorem ZKv (fr:Nat→Cp) (a b c:Nat) (k:Int) (hfr:YR fr) (b0:b<16) (c0:c<16):Qi 62 [Xu fr,(inS 42 a b c k).val] (.tuple ⟨[(JQ fr 42 b c k).val,.bool true]⟩):=by
 have hb:b<17:=by omega
 have hc:c<17:=by omega
 have z0:=qD0 b
 have z1:=qD1 b (by omega)
 have z2:=qD0 c
 have z3:=qD1 c (by omega)
 have hrg:=XI (fr b) (hfr b)
 have hr:=ZNK.v fr (inS 42 a b c k) (fr b).lo (fr b).hi
 simp only[inS,(qFS fr b hb).v,(qFS fr c hc).v,Z9,z0,z1,z2,z3,tN,qT5.v,cond_true] at hr
 exact Zi (Z3 hrg) hr rfl trivial rfl rfl
theorem ZKw (fr:Nat→Cp) (a b c:Nat) (k:Int) (hfr:YR fr) (b0:b<16) (c0:c<16):Qi 62 [Xu fr,(inS 43 a b c k).val] (.tuple ⟨[(JQ fr 43 b c k).val,.bool true]⟩):=by
 have hb:b<17:=by omega
 have hc:c<17:=by omega
 have z0:=qD0 b
 have z1:=qD1 b (by omega)
 have z2:=qD0 c
 have z3:=qD1 c (by omega)
 have hrg:=XI (fr b) (hfr b)
 have hr:=ZNL.v fr (inS 43 a b c k) (fr b).lo (fr b).hi
 simp only[inS,(qFS fr b hb).v,(qFS fr c hc).v,Z9,z0,z1,z2,z3,tN,qT5.v,cond_true] at hr
 exact Zi (Z3 hrg) hr rfl trivial rfl rfl
theorem ZKx (fr:Nat→Cp) (a b c:Nat) (k:Int) (hfr:YR fr) (b0:b<16) (c0:c<16):Qi 62 [Xu fr,(inS 44 a b c k).val] (.tuple ⟨[(JQ fr 44 b c k).val,.bool true]⟩):=by
 have hb:b<17:=by omega
 have hc:c<17:=by omega
 have z0:=qD0 b
 have z1:=qD1 b (by omega)
 have z2:=qD0 c
 have z3:=qD1 c (by omega)
 have hrg:=XI (fr b) (hfr b)
 have hr:=ZNM.v fr (inS 44 a b c k) (fr b).lo (fr b).hi
 simp only[inS,(qFS fr b hb).v,(qFS fr c hc).v,Z9,z0,z1,z2,z3,tN,qT5.v,cond_true] at hr
 exact Zi (Z3 hrg) hr rfl trivial rfl rfl
theorem ZKy (fr:Nat→Cp) (a b c:Nat) (k:Int) (hfr:YR fr) (b0:b<16) (c0:c<16):Qi 62 [Xu fr,(inS 45 a b c k).val] (.tuple ⟨[(JQ fr 45 b c k).val,.bool true]⟩):=by
 have hb:b<17:=by omega
 have hc:c<17:=by omega
 have z0:=qD0 b
 have z1:=qD1 b (by omega)
 have z2:=qD0 c
 have z3:=qD1 c (by omega)
 have hrg:=XI (fr b) (hfr b)
 have hr:=ZNN.v fr (inS 45 a b c k) (fr b).lo (fr b).hi
 simp only[inS,(qFS fr b hb).v,(qFS fr c hc).v,Z9,z0,z1,z2,z3,tN,qT5.v,cond_true] at hr
 exact Zi (Z3 hrg) hr rfl trivial rfl rfl
theorem ZKz (fr:Nat→Cp) (a b c:Nat) (k:Int) (hfr:YR fr) (b0:b<16) (c0:c<16):Qi 62 [Xu fr,(inS 46 a b c k).val] (.tuple ⟨[(JQ fr 46 b c k).val,.bool true]⟩):=by
 have hb:b<17:=by omega
 have hc:c<17:=by omega
 have z0:=qD0 b
 have z1:=qD1 b (by omega)
 have z2:=qD0 c
 have z3:=qD1 c (by omega)
 have hrg:=XI (fr b) (hfr b)
 have hr:=ZNO.v fr (inS 46 a b c k) (fr b).lo (fr b).hi
 simp only[inS,(qFS fr b hb).v,(qFS fr c hc).v,Z9,z0,z1,z2,z3,tN,qT5.v,cond_true] at hr
 exact Zi (Z3 hrg) hr rfl trivial rfl rfl
theorem ZKA (fr:Nat→Cp) (a b c:Nat) (k:Int) (hfr:YR fr) (b0:b<16) (c0:c<16):Qi 62 [Xu fr,(inS 41 a b c k).val] (.tuple ⟨[(JQ fr 41 b c k).val,.bool true]⟩):=by
 have hb:b<17:=by omega
 have hc:c<17:=by omega
 have z0:=qD0 b
 have z1:=qD1 b (by omega)
 have z2:=qD0 c
 have z3:=qD1 c (by omega)
 have hrg:=XI (fr b) (hfr b)
 have hr:=ZNP.v fr (inS 41 a b c k) (fr b).lo (fr b).hi (Ze9 (fr b))
 simp only[inS,(qFS fr b hb).v,(qFS fr c hc).v,Z9,z0,z1,z2,z3,tN,qT5.v,cond_true] at hr
 exact Zi (WV hrg (Zpq (fr b))) hr rfl trivial rfl rfl
theorem ZKB (fr:Nat→Cp) (a b c:Nat) (k:Int) (hfr:YR fr) (b0:b<16) (c0:c<16):Qi 62 [Xu fr,(inS 32 a b c k).val] (.tuple ⟨[(JQ fr 32 b c k).val,.bool true]⟩):=by
 have hb:b<17:=by omega
 have hc:c<17:=by omega
 have z0:=qD0 b
 have z1:=qD1 b (by omega)
 have z2:=qD0 c
 have z3:=qD1 c (by omega)
 have hrg:=XI (fr b) (hfr b)
 have hr:=ZNQ.v fr (inS 32 a b c k) (fr b).lo (fr b).hi (toU (((fr b).C:Int)+(fr c).C)) (ZbV (fr b) (toU (((fr b).C:Int)+(fr c).C)))
 simp only[inS,(qFS fr b hb).v,(qFS fr c hc).v,Z9,z0,z1,z2,z3,tN,qT5.v,cond_true] at hr
 exact Zi (WV hrg (U7 (fr b) _ (hfr b) (ZqT _))) hr rfl trivial rfl rfl
theorem ZKC (fr:Nat→Cp) (a b c:Nat) (k:Int) (hfr:YR fr) (b0:b<16) (c0:c<16):Qi 62 [Xu fr,(inS 33 a b c k).val] (.tuple ⟨[(JQ fr 33 b c k).val,.bool true]⟩):=by
 have hb:b<17:=by omega
 have hc:c<17:=by omega
 have z0:=qD0 b
 have z1:=qD1 b (by omega)
 have z2:=qD0 c
 have z3:=qD1 c (by omega)
 have hrg:=XI (fr b) (hfr b)
 have hr:=ZNR.v fr (inS 33 a b c k) (fr b).lo (fr b).hi (toU (((fr b).C:Int)+(toU k:Nat))) (ZbV (fr b) (toU (((fr b).C:Int)+(toU k:Nat))))
 simp only[inS,(qFS fr b hb).v,(qFS fr c hc).v,Z9,z0,z1,z2,z3,tN,qT5.v,cond_true] at hr
 exact Zi (WV hrg (U7 (fr b) _ (hfr b) (ZqT _))) hr rfl trivial rfl rfl
theorem ZKD (fr:Nat→Cp) (a b c:Nat) (k:Int) (hfr:YR fr) (b0:b<16) (c0:c<16):Qi 62 [Xu fr,(inS 34 a b c k).val] (.tuple ⟨[(JQ fr 34 b c k).val,.bool true]⟩):=by
 have hb:b<17:=by omega
 have hc:c<17:=by omega
 have z0:=qD0 b
 have z1:=qD1 b (by omega)
 have z2:=qD0 c
 have z3:=qD1 c (by omega)
 have hrg:=XI (fr b) (hfr b)
 have hr:=ZNS.v fr (inS 34 a b c k) (fr b).lo (fr b).hi (fr c).C (ZbV (fr b) (fr c).C)
 simp only[inS,(qFS fr b hb).v,(qFS fr c hc).v,Z9,z0,z1,z2,z3,tN,qT5.v,cond_true] at hr
 exact Zi (WV hrg (U7 (fr b) (fr c).C (hfr b) (hfr c).1)) hr rfl trivial rfl rfl
theorem ZKE (fr:Nat→Cp) (a b c:Nat) (k:Int) (hfr:YR fr) (b0:b<16) (c0:c<16):Qi 62 [Xu fr,(inS 35 a b c k).val] (.tuple ⟨[(JQ fr 35 b c k).val,.bool true]⟩):=by
 have hb:b<17:=by omega
 have hc:c<17:=by omega
 have z0:=qD0 b
 have z1:=qD1 b (by omega)
 have z2:=qD0 c
 have z3:=qD1 c (by omega)
 have hrg:=XI (fr b) (hfr b)
 have hr:=ZNT.v fr (inS 35 a b c k) (fr b).lo (fr b).hi (ZiC (fr b) (fr c).C false)
 simp only[inS,(qFS fr b hb).v,(qFS fr c hc).v,Z9,z0,z1,z2,z3,tN,qT5.v,cond_true] at hr
 exact Zi (WV hrg (ZvD (fr b) (fr c).C (hfr b) (hfr c).1)) hr rfl trivial rfl rfl
theorem ZKF (fr:Nat→Cp) (a b c:Nat) (k:Int) (hfr:YR fr) (b0:b<16) (c0:c<16):Qi 62 [Xu fr,(inS 36 a b c k).val] (.tuple ⟨[(JQ fr 36 b c k).val,.bool true]⟩):=by
 have hb:b<17:=by omega
 have hc:c<17:=by omega
 have z0:=qD0 b
 have z1:=qD1 b (by omega)
 have z2:=qD0 c
 have z3:=qD1 c (by omega)
 have hrg:=XI (fr b) (hfr b)
 have hr:=ZNU.v fr (inS 36 a b c k) (fr b).lo (fr b).hi (ZiC (fr b) (fr c).C true)
 simp only[inS,(qFS fr b hb).v,(qFS fr c hc).v,Z9,z0,z1,z2,z3,tN,qT5.v,cond_true] at hr
 exact Zi (WV hrg (Zps (fr b) (fr c).C (hfr b) (hfr c).1)) hr rfl trivial rfl rfl
theorem ZKG (fr:Nat→Cp) (a b c:Nat) (k:Int) (hfr:YR fr) (b0:b<16) (c0:c<16):Qi 62 [Xu fr,(inS 37 a b c k).val] (.tuple ⟨[(JQ fr 37 b c k).val,.bool true]⟩):=by
 have hb:b<17:=by omega
 have hc:c<17:=by omega
 have z0:=qD0 b
 have z1:=qD1 b (by omega)
 have z2:=qD0 c
 have z3:=qD1 c (by omega)
 have hrg:=XI (fr b) (hfr b)
 have hr:=ZNV.v fr (inS 37 a b c k) (fr b).lo (fr b).hi (Zwm (fr b) (fr c).C)
 simp only[inS,(qFS fr b hb).v,(qFS fr c hc).v,Z9,z0,z1,z2,z3,tN,qT5.v,cond_true] at hr
 exact Zi (WV hrg (ZvC (fr b) (fr c).C (hfr b) (hfr c).1)) hr rfl trivial rfl rfl
theorem ZKH (fr:Nat→Cp) (a b c:Nat) (k:Int) (hfr:YR fr) (b0:b<16) (c0:c<16):Qi 62 [Xu fr,(inS 38 a b c k).val] (.tuple ⟨[(JQ fr 38 b c k).val,.bool true]⟩):=by
 have hb:b<17:=by omega
 have hc:c<17:=by omega
 have z0:=qD0 b
 have z1:=qD1 b (by omega)
 have z2:=qD0 c
 have z3:=qD1 c (by omega)
 have hrg:=XI (fr b) (hfr b)
 have hr:=ZNW.v fr (inS 38 a b c k) (fr b).lo (fr b).hi (Zjs (fr b) (fr c))
 simp only[inS,(qFS fr b hb).v,(qFS fr c hc).v,Z9,z0,z1,z2,z3,tN,qT5.v,cond_true] at hr
 exact Zi (WV hrg (Zsp (fr b) (fr c) (hfr c))) hr rfl trivial rfl rfl
theorem ZKI (fr:Nat→Cp) (a b c:Nat) (k:Int) (hfr:YR fr) (b0:b<16) (c0:c<16):Qi 62 [Xu fr,(inS 39 a b c k).val] (.tuple ⟨[(JQ fr 39 b c k).val,.bool true]⟩):=by
 have hb:b<17:=by omega
 have hc:c<17:=by omega
 have z0:=qD0 b
 have z1:=qD1 b (by omega)
 have z2:=qD0 c
 have z3:=qD1 c (by omega)
 have hrg:=XI (fr b) (hfr b)
 have hr:=ZNX.v fr (inS 39 a b c k) (fr b).lo (fr b).hi (Zip (fr b) (fr c))
 simp only[inS,(qFS fr b hb).v,(qFS fr c hc).v,Z9,z0,z1,z2,z3,tN,qT5.v,cond_true] at hr
 exact Zi (WV hrg (Zsq (fr b) (fr c) (hfr b) (hfr c))) hr rfl trivial rfl rfl
theorem ZKJ (fr:Nat→Cp) (a b c:Nat) (k:Int) (hfr:YR fr) (b0:b<16) (c0:c<16):Qi 62 [Xu fr,(inS 40 a b c k).val] (.tuple ⟨[(JQ fr 40 b c k).val,.bool true]⟩):=by
 have hb:b<17:=by omega
 have hc:c<17:=by omega
 have z0:=qD0 b
 have z1:=qD1 b (by omega)
 have z2:=qD0 c
 have z3:=qD1 c (by omega)
 have hrg:=XI (fr b) (hfr b)
 have hr:=ZNY.v fr (inS 40 a b c k) (fr b).lo (fr b).hi (ZdQ (fr c) (fr b))
 simp only[inS,(qFS fr b hb).v,(qFS fr c hc).v,Z9,z0,z1,z2,z3,tN,qT5.v,cond_true] at hr
 exact Zi (WV hrg (Zpr (fr c) (fr b) (hfr c) (hfr b))) hr rfl trivial rfl rfl
theorem ZKK (fr:Nat→Cp) (a b c:Nat) (k:Int) (hfr:YR fr) (b0:b<16) (c0:c<16):Qi 62 [Xu fr,(inS 47 a b c k).val] (.tuple ⟨[(JQ fr 47 b c k).val,.bool true]⟩):=by
 have hb:b<17:=by omega
 have hc:c<17:=by omega
 have z0:=qD0 b
 have z1:=qD1 b (by omega)
 have z2:=qD0 c
 have z3:=qD1 c (by omega)
 have hrg:=XI (fr b) (hfr b)
 have e:JQ fr 47 b c k=ZxR (fr b).V:=rfl
 rw[e]
 cases hV:(fr b).V
 ·have hr:=ZJ4.v fr (inS 47 a b c k) (fr b).lo (fr b).hi
  simp only[inS,(qFS fr b hb).v,(qFS fr c hc).v,Z9,z0,z1,z2,z3,tN,qT5.v,cond_true,hV] at hr
  exact Zi (Z3 hrg) hr rfl trivial rfl rfl
 ·have hr:=ZJ3.v fr (inS 47 a b c k) (fr b).lo (fr b).hi
  simp only[inS,(qFS fr b hb).v,(qFS fr c hc).v,Z9,z0,z1,z2,z3,tN,qT5.v,cond_true,hV] at hr
  exact Zi (Z3 hrg) hr rfl trivial rfl rfl
theorem ZKL (fr:Nat→Cp) (a b c:Nat) (k:Int) (hfr:YR fr) (b0:b<16) (c0:c<16):Qi 62 [Xu fr,(inS 48 a b c k).val] (.tuple ⟨[(JQ fr 48 b c k).val,.bool true]⟩):=by
 have hb:b<17:=by omega
 have hc:c<17:=by omega
 have z0:=qD0 b
 have z1:=qD1 b (by omega)
 have z2:=qD0 c
 have z3:=qD1 c (by omega)
 have hrg:=XI (fr b) (hfr b)
 have e:JQ fr 48 b c k=ZxR (ZhN (fr b)):=rfl
 rw[e]
 have hn:=Zsl (fr b)
 cases hV:ZhN (fr b)
 ·rw[hV] at hn
  have hr:=ZJ6.v fr (inS 48 a b c k) (fr b).lo (fr b).hi false
  simp only[inS,(qFS fr b hb).v,(qFS fr c hc).v,Z9,z0,z1,z2,z3,tN,qT5.v,cond_true] at hr
  exact Zi (WV hrg hn) hr rfl trivial rfl rfl
 ·rw[hV] at hn
  have hr:=ZJ5.v fr (inS 48 a b c k) (fr b).lo (fr b).hi true
  simp only[inS,(qFS fr b hb).v,(qFS fr c hc).v,Z9,z0,z1,z2,z3,tN,qT5.v,cond_true] at hr
  exact Zi (WV hrg hn) hr rfl trivial rfl rfl
theorem ZKM (fr:Nat→Cp) (a b c:Nat) (k:Int) (hfr:YR fr) (b0:b<16) (c0:c<16):Qi 62 [Xu fr,(inS 49 a b c k).val] (.tuple ⟨[(JQ fr 49 b c k).val,.bool true]⟩):=by
 have hb:b<17:=by omega
 have hc:c<17:=by omega
 have z0:=qD0 b
 have z1:=qD1 b (by omega)
 have z2:=qD0 c
 have z3:=qD1 c (by omega)
 have hrg:=XI (fr b) (hfr b)
 have hr:=ZNZ.v fr (inS 49 a b c k) (fr b).lo (fr b).hi (Zdm fr k)
 simp only[inS,(qFS fr b hb).v,(qFS fr c hc).v,Z9,z0,z1,z2,z3,tN,qT5.v,cond_true] at hr
 exact Zi (WV hrg (ZiD fr k hfr)) hr rfl trivial rfl rfl
theorem ZzI (fr:Nat→Cp) (op:Int) (a b c:Nat) (k:Int) (hfr:YR fr) (b0:b<16) (c0:c<16) (h:op=1∨op=2∨op=16∨op=31∨op=42∨op=43∨op=44∨op=45∨op=46∨op=41∨op=32∨op=33∨op=34∨op=35∨op=36∨op=37∨op=38∨op=39∨op=40∨op=47∨op=48∨op=49):Qi 62 [Xu fr,(inS op a b c k).val] (.tuple ⟨[(JQ fr op b c k).val,.bool true]⟩):=by
 rcases h with rfl|rfl|rfl|rfl|rfl|rfl|rfl|rfl|rfl|rfl|rfl|rfl|rfl|rfl|rfl|rfl|rfl|rfl|rfl|rfl|rfl|rfl
 ·exact ZN5 fr a b c k hfr b0 c0
 ·exact ZN6 fr a b c k hfr b0 c0
 ·exact ZKt fr a b c k hfr b0 c0
 ·exact ZKu fr a b c k hfr b0 c0
 ·exact ZKv fr a b c k hfr b0 c0
 ·exact ZKw fr a b c k hfr b0 c0
 ·exact ZKx fr a b c k hfr b0 c0
 ·exact ZKy fr a b c k hfr b0 c0
 ·exact ZKz fr a b c k hfr b0 c0
 ·exact ZKA fr a b c k hfr b0 c0
 ·exact ZKB fr a b c k hfr b0 c0
 ·exact ZKC fr a b c k hfr b0 c0
 ·exact ZKD fr a b c k hfr b0 c0
 ·exact ZKE fr a b c k hfr b0 c0
 ·exact ZKF fr a b c k hfr b0 c0
 ·exact ZKG fr a b c k hfr b0 c0
 ·exact ZKH fr a b c k hfr b0 c0
 ·exact ZKI fr a b c k hfr b0 c0
 ·exact ZKJ fr a b c k hfr b0 c0
 ·exact ZKK fr a b c k hfr b0 c0
 ·exact ZKL fr a b c k hfr b0 c0
 ·exact ZKM fr a b c k hfr b0 c0
def ZsC (fr:Nat→Cp) (i:In) (N:Nat):Bool:=decide (i.op=23)&&(XC i&&decide (V1 (fr i.b.toNat) (atS fr i.b.toNat i.m) 16 1 N=0))
def ZLN (fr:Nat→Cp) (i:In) (N:Nat):Nat:=if ZsC fr i N=true then atS fr i.b.toNat i.m/256 else 0
def ZA0 (fr:Nat→Cp) (i:In) (N:Nat):Value:=.tuple ⟨[.int .i64 (ZLN fr i N:Nat),.bool (ZsC fr i N)]⟩
theorem Zle {fr:Nat→Cp} {i:In} {N:Nat} (h:ZsC fr i N=false):Value.tuple ⟨[.int .i64 0,.bool false]⟩=ZA0 fr i N:=by
 unfold ZA0 ZLN
 rw[h,if_neg (by decide)]
 rfl
theorem ZvX {fr:Nat→Cp} {i:In} {N:Nat} (h:ZsC fr i N=true):Value.tuple ⟨[.int .i64 ((atS fr i.b.toNat i.m/256:Nat):Int),.bool true]⟩=ZA0 fr i N:=by
 unfold ZA0 ZLN
 rw[h,if_pos rfl]
def rtcC (fr:Nat→Cp) (i:In) (zs:List UInt8) (f:Nat→Bool) (N m:Nat):Con:=Zsr (Zkn fr i) (ZA0 fr i N) zs f N m
def ZLO (fr:Nat→Cp) (i:In) (zs:List UInt8) (f:Nat→Bool) (N m n:Nat):Con:=⟨mvA fr i,68,arW false zs f N m n++Y3 ZK,arO N n,ZA0 fr i N,68,[],[]⟩
theorem Zg4 (fr:Nat→Cp) (i:In) (N:Nat):XD (ZA0 fr i N)=true:=rfl
theorem ZmA {call:QM} (hc:Zs Tryz.prog call) {fr:Nat→Cp} {i:In} {v:Value} {zs:List UInt8} {f:Nat→Bool} {N m n:Nat} {T:List (Nat×Bool)} {q:Prop} (h:obs (call 21 [Xu fr,i.val,.pointer (some ⟨67,0,none⟩)] ⟨68,arW false zs f N m n++Y3 ZK,arO N n,0,T,0,True⟩)=some (v,q)) (hv:v=ZA0 fr i N) (hq:q):ConOk Tryz.prog 21 3 (ZLO fr i zs f N m n)∧FlatC (ZLO fr i zs f N m n):=by
 subst hv
 unfold obs at h
 obtain⟨⟨v',s'⟩,h1,h2⟩:=oM h
 simp only[Prod.mk.injEq] at h2
 obtain⟨rfl,rfl⟩:=h2
 have hv:=Zg4 fr i N
 refine⟨Qn hc ⟨by show 64≤68; omega,Nat.le_refl _,Zmr ZhC false zs f N m n,rfl,rfl,rfl,by rfl,Q8 hv 1,fun x hx=>by cases hx⟩ h1 hq (p:=fun l=>Nat.blt l 68) (σ:=id) ?_,⟨fun x hx=>by cases hx⟩⟩
 exact⟨fun _ _=>rfl,trivial,rfl,trivial,⟨Q8 hv 1,by rw[JB]; rfl⟩,rfl,trivial,rfl,Xk _ hv,fun x hx=>by cases hx⟩
theorem ZEd (fr:Nat→Cp) (b:Nat) (k:Int):i64.wrap (u32.wrap (((atS fr b k:Nat):Int).tdiv (256:Int)))=((atS fr b k/256:Nat):Int):=by
 have h:=Xf fr b k
 rw[show((atS fr b k:Nat):Int).tdiv (256:Int)=((atS fr b k/256:Nat):Int) from(Int.ofNat_tdiv _ 256).symm,Kw _ (by omega),XL _ (by omega)]
theorem ZzJ (fr:Nat→Cp) (b:Nat) (k:Int):i64.wrap ((i64.wrap ((atS fr b k:Nat):Int)).tdiv (256:Int))=((atS fr b k/256:Nat):Int):=by
 have h:=Xf fr b k
 rw[XL _ (by omega),show((atS fr b k:Nat):Int).tdiv (256:Int)=((atS fr b k/256:Nat):Int) from(Int.ofNat_tdiv _ 256).symm,XL _ (by omega)]
theorem ZEe (fr:Nat→Cp) (i:In) (zs:List UInt8) (f:Nat→Bool) (N m:Nat) (hN:N≤262144) (hfr:YR fr):ConOk Tryz.prog 22 3 (rtcC fr i zs f N m)∧FlatC (rtcC fr i zs f N m):=by
 by_cases h:i.op=23
 ·have h1:(i.op !=(23:Int))=false:=by rw[h]; rfl
  have hmay:=Ws i
  cases hm:XC i
  ·rw[hm] at hmay
   have hr:=to_m.v fr i false 0 (V1 (fr i.b.toNat) 0 16 1 N) zs f N m
   refine Qt (Zm (L:=100) Zg (Zn (Zj fun x hx => ?_) (Zf _)) (Zh _) 20) (QQ _ _) (Zg4 _ _ _) rfl hr (Zle (by unfold ZsC; rw[hm]; simp)) (by simp only[h1,Bool.not_false,and_self,and_true,true_and])
   rcases List.mem_cons.1 hx with rfl|hx
   ·exact hmay
   ·obtain rfl:=List.mem_singleton.1 hx
    exact Xx (fr i.b.toNat) 0 16 1 zs f N m (hfr _) (by omega) (by omega) (by omega) (by omega) hN
  ·rw[hm] at hmay
   obtain⟨_,_,r3,r4,_,_,_,_⟩:=ZgW hm
   obtain⟨op,a,b,c,k⟩:=i
   simp only at h r3 r4 h1
   obtain⟨b,rfl⟩:=Int.eq_ofNat_of_zero_le r3
   subst h
   have b0:b<16:=by omega
   have hb:b<17:=by omega
   have z0:=qD0 b
   have z1:=qD1 b (by omega)
   have b1:=qB1 m
   have b2:=qB2 m
   have u1:=qU1
   have u2:=qU2
   have hwy:=Xx (fr b) (atS fr b k) 16 1 zs f N m (hfr b) (Xf _ _ _) (by omega) (by omega) (by omega) hN
   have hbase:=WV (n:=69) (n2:=70) (ls:=[]) (ls2:=[64,65,66]) hmay hwy
   by_cases ht:V1 (fr b) (atS fr b k) 16 1 N=0
   ·have hr:=to_k.v fr ⟨23,a,b,c,k⟩ true (atS fr b k) (V1 (fr b) (atS fr b k) 16 1 N) zs f N m
    simp only[(qFS fr b hb).v,Yb,z0,z1,tN,ZEd] at hr
    exact Qt hbase (QQ _ _) (Zg4 _ _ _) rfl hr (ZvX (fr:=fr) (i:=⟨23,a,b,c,k⟩) (N:=N) (by unfold ZsC; rw[hm]; simp only[tN,ht]; rfl)) (by simp only[(qFS fr b hb).v,Yb,z0,z1,b1,b2,u1,u2,tN,qT5.v,cond_true,ZmK ht,h1])
   ·have hr:=to_t.v fr ⟨23,a,b,c,k⟩ true (atS fr b k) (V1 (fr b) (atS fr b k) 16 1 N) zs f N m
    exact Qt hbase (QQ _ _) (Zg4 _ _ _) rfl hr (Zle (by unfold ZsC; simp only[tN,dF ht,Bool.and_false])) (by simp only[(qFS fr b hb).v,Yb,z0,z1,b1,b2,u1,u2,tN,qT5.v,cond_true,Zou ht,h1])
 ·exact Qt QH (QQ _ _) (Zg4 _ _ _) rfl (to_n.v fr i true 0 0 zs f N m) (Zle (by unfold ZsC; rw[dF h]; rfl)) (by simp only[bne_iff_ne.2 h,and_self])
theorem ZEf (fr:Nat→Cp) (i:In) (zs:List UInt8) (f:Nat→Bool) (N m n:Nat) (har:ArOk zs N m n) (hfr:YR fr):ConOk Tryz.prog 21 3 (ZLO fr i zs f N m n)∧FlatC (ZLO fr i zs f N m n):=by
 by_cases h:i.op=23
 ·have h1:(i.op !=(23:Int))=false:=by rw[h]; rfl
  have hmay:=Zve i
  have hstep:∀ (c:Cp) (a t:Nat),c=fr i.b.toNat→t=V1 c a 16 1 N→a<4294967296→Zs Tryz.prog (evF Tryz.prog (Zk 3 (Za (tpL fr i (XC i) ZK a t zs f N m n)) Zc) Zb 100 20):=fun c a t hc ht ha=>by
   subst hc; subst ht
   refine Zm (L:=100) Zg (Zn (Zj fun x hx => ?_) (Zf _)) (Zh _) 20
   simp only[tpL,List.mem_cons,List.not_mem_nil,or_false] at hx
   rcases hx with rfl|rfl|rfl|rfl
   ·exact hmay
   ·exact hmay
   ·exact Zo7 (fr i.b.toNat) a 16 1 zs f N m n har (hfr _) (by omega) ha (by omega) (by omega)
   ·exact Zo7 (fr i.b.toNat) a 16 1 zs f N m n har (hfr _) (by omega) ha (by omega) (by omega)
  cases hm:XC i
  ·have hb:=hstep (fr i.b.toNat) 0 _ rfl rfl (by omega)
   rw[hm] at hb
   have hr:=pt_m.v fr i false ZK 0 (V1 (fr i.b.toNat) 0 16 1 N) zs f N m n
   exact ZmA hb hr (Zle (by unfold ZsC; rw[hm]; simp)) (by simp only[h1,ZT,ZC,Bool.not_false,and_self,and_true,true_and])
  ·obtain⟨_,_,r3,r4,_,_,_,_⟩:=ZgW hm
   obtain⟨op,a,b,c,k⟩:=i
   simp only at h r3 r4 h1
   obtain⟨b,rfl⟩:=Int.eq_ofNat_of_zero_le r3
   subst h
   have b0:b<16:=by omega
   have hb:b<17:=by omega
   have z0:=qD0 b
   have z1:=qD1 b (by omega)
   have v1:=qV1 n
   have v2:=qV2 n
   have u1:=qU1
   have u2:=qU2
   have hb:=hstep (fr b) (atS fr b k) _ (by simp) rfl (Xf _ _ _)
   rw[hm] at hb
   have hb7:b<17:=by omega
   by_cases ht:V1 (fr b) (atS fr b k) 16 1 N=0
   ·have hr:=pt_k.v fr ⟨23,a,b,c,k⟩ true ZK (atS fr b k) (V1 (fr b) (atS fr b k) 16 1 N) zs f N m n
    simp only[(qFS fr b hb7).v,Yb,z0,z1,tN,ZzJ] at hr
    exact ZmA hb hr (ZvX (fr:=fr) (i:=⟨23,a,b,c,k⟩) (N:=N) (by unfold ZsC; rw[hm]; simp only[tN,ht]; rfl)) (by simp only[(qFS fr b hb7).v,Yb,z0,z1,ZT,ZC,v1,v2,u1,u2,tN,qT5.v,cond_true,ZmK ht,h1])
   ·have hr:=pt_t.v fr ⟨23,a,b,c,k⟩ true ZK (atS fr b k) (V1 (fr b) (atS fr b k) 16 1 N) zs f N m n
    exact ZmA hb hr (Zle (by unfold ZsC; simp only[tN,dF ht,Bool.and_false])) (by simp only[(qFS fr b hb7).v,Yb,z0,z1,ZT,ZC,v1,v2,u1,u2,tN,qT5.v,cond_true,Zou ht,h1])
 ·exact ZmA QH (pt_n.v fr i true ZK 0 0 zs f N m n) (Zle (by unfold ZsC; rw[dF h]; rfl)) (by simp only[bne_iff_ne.2 h,and_self])
def wdC (n:Nat):Con:=Con.pure [.int .i64 ((n+17:Nat):Int)] (.int .i64 ((Xp ((n+17:Nat):Int):Nat):Int))
theorem ZKN:Zk7 (evF Tryz.prog Zc Zb 100 20) [(57,wdC 0),(57,wdC 1),(57,wdC 2),(57,wdC 3),(57,wdC 4),(57,wdC 5),(57,wdC 6),(57,wdC 7)]:=by repeat' (first|exact trivial|refine⟨by kernel_rfl,?_⟩)
theorem Zbj (op:Int):Qi 57 [.int .i64 op] (.int .i64 (Xp op:Nat)):=by
 by_cases h:17≤op∧op≤24
 ·obtain⟨n,rfl⟩:=Int.eq_ofNat_of_zero_le (show 0≤op by omega)
  have e:n=(n-17)+17:=by omega
  rw[e]
  exact ZjZ QH (show Zk7 _ ((List.range 8).map fun m=>(57,wdC m)) from ZKN) (57,wdC (n-17)) (List.mem_map.2 ⟨n-17,List.mem_range.2 (by omega),rfl⟩)
 ·have e:Xp op=0:=by unfold Xp; rw[if_neg (by omega),if_neg (by omega),if_neg (by omega),if_neg (by omega)]
  rw[e]
  exact Zi QH (dw_n.v op) rfl (by simp only[Qw (show ¬ op=17 by omega),Qw (show ¬ op=18 by omega),Qw (show ¬ op=19 by omega),Qw (show ¬ op=20 by omega),Qw (show ¬ op=21 by omega),Qw (show ¬ op=22 by omega),Qw (show ¬ op=23 by omega),Qw (show ¬ op=24 by omega),and_self]) rfl rfl
def VU (fr:Nat→Cp) (i:In) (fr':Nat→Cp) (t:Nat) (zs:List UInt8) (f:Nat→Bool) (N m:Nat):Con:=Zsr (Zkn fr i) (.tuple ⟨[Xu fr',.int .i64 (t:Nat)]⟩) zs f N m
def Zpw (fr:Nat→Cp) (i:In) (fr':Nat→Cp) (zs zs':List UInt8) (f f':Nat→Bool) (N m:Nat):Con:=ZmJ (Zkn fr i) (.tuple ⟨[Xu fr',.int .i64 0]⟩) zs zs' f f' N m
theorem Zdp (fr':Nat→Cp) (t:Nat):XD (.tuple ⟨[Xu fr',.int .i64 (t:Nat)]⟩)=true:=rfl
theorem UW {L:Sy.Steps} (h:∀ x∈L,ConOk Tryz.prog x.2.1 3 x.2.2.1∧FlatC x.2.2.1):Zs Tryz.prog (evF Tryz.prog (Zk 3 (Za L) Zc) Zb 100 20):=Zm (L:=100) Zg (Zn (Zj h) (Zf _)) (Zh _) 20
theorem Zht (fr:Nat→Cp) (b:Nat) (hb:b<17):Qd (Zt undef (frL fr) (0+b*8+0))=((fr b).C:Nat):=fr_0 fr b hb
theorem ZeY:∀ x∈([]:Sy.Steps),ConOk Tryz.prog x.2.1 3 x.2.2.1∧FlatC x.2.2.1:=fun x hx=>by cases hx
theorem Xi {x:Nat×FuncId×Con×List Nat} {L:Sy.Steps} (h:ConOk Tryz.prog x.2.1 3 x.2.2.1∧FlatC x.2.2.1) (hL:∀ x∈L,ConOk Tryz.prog x.2.1 3 x.2.2.1∧FlatC x.2.2.1):∀ y∈x::L,ConOk Tryz.prog y.2.1 3 y.2.2.1∧FlatC y.2.2.1:=fun y hy=>by
 rcases List.mem_cons.1 hy with rfl|hy
 ·exact h
 ·exact hL y hy
theorem ZKO (fr:Nat→Cp) (i:In) (zs:List UInt8) (f:Nat→Bool) (N m:Nat) (hm:XC i=false):ConOk Tryz.prog 23 3 (VU fr i frN 6 zs f N m)∧FlatC (VU fr i frN 6 zs f N m):=by
 have hmay:=Ws i
 rw[hm] at hmay
 exact Qt (UW (Xi hmay ZeY)) (QQ _ _) (Zdp _ _) rfl (ro_b.v fr i false fr zs f N m) rfl (by simp only[Bool.not_false,and_self,and_true,true_and])
theorem ZzK (fr:Nat→Cp) (a b c:Nat) (k:Int) (zs:List UInt8) (f:Nat→Bool) (N m:Nat) (hfr:YR fr) (hm:XC (inS 53 a b c k)=true):ConOk Tryz.prog 23 3 (VU fr (inS 53 a b c k) frN 6 zs f N m)∧FlatC (VU fr (inS 53 a b c k) frN 6 zs f N m):=by
 have b1:=qB1 m
 have b2:=qB2 m
 have u1:=qU1
 have u2:=qU2
 have hmay:=Ws (inS 53 a b c k)
 rw[hm] at hmay
 have hnx:=XW fr hfr
 have e1:=@qE1
 have hr:=ro_t.v fr (inS 53 a b c k) true fr zs f N m
 simp only[inS,tN,Z9,qFL.v] at hr
 refine Qt (UW (Xi hmay ZeY)) (QQ _ _) (Zdp _ _) rfl hr rfl ?_
 simp(disch:=decide) only[inS,qFL.v,beq_self_eq_true,e1,Nat.add_zero,b1,b2,u1,u2,tN,qT6.v,cond_true]
theorem ZsD (fr:Nat→Cp) (a b c:Nat) (k:Int) (zs:List UInt8) (f:Nat→Bool) (N m:Nat) (hfr:YR fr) (hm:XC (inS 50 a b c k)=true):ConOk Tryz.prog 23 3 (VU fr (inS 50 a b c k) fr 0 zs f N m)∧FlatC (VU fr (inS 50 a b c k) fr 0 zs f N m):=by
 have b1:=qB1 m
 have b2:=qB2 m
 have u1:=qU1
 have u2:=qU2
 have hmay:=Ws (inS 50 a b c k)
 rw[hm] at hmay
 have hnx:=XW fr hfr
 have e1:=@qE1
 have hr:=ZKe.v fr (inS 50 a b c k) true (Yo fr) zs f N m
 simp only[inS,tN,Z9,qFL.v] at hr
 refine Qt (UW (Xi hmay (Xi hnx ZeY))) (QQ _ _) (Zdp _ _) rfl hr rfl ?_
 simp(disch:=decide) only[inS,qFL.v,beq_self_eq_true,e1,Nat.add_zero,b1,b2,u1,u2,tN,qT6.v,cond_true]
theorem ZsE (fr:Nat→Cp) (a b c:Nat) (k:Int) (zs:List UInt8) (f:Nat→Bool) (N m:Nat) (hfr:YR fr) (hm:XC (inS 51 a b c k)=true):ConOk Tryz.prog 23 3 (VU fr (inS 51 a b c k) fr 0 zs f N m)∧FlatC (VU fr (inS 51 a b c k) fr 0 zs f N m):=by
 have b1:=qB1 m
 have b2:=qB2 m
 have u1:=qU1
 have u2:=qU2
 have hmay:=Ws (inS 51 a b c k)
 rw[hm] at hmay
 have hnx:=XW fr hfr
 have e1:=@qE1
 have hr:=ZKf.v fr (inS 51 a b c k) true (Yo fr) zs f N m
 simp only[inS,tN,Z9,qFL.v] at hr
 refine Qt (UW (Xi hmay (Xi hnx ZeY))) (QQ _ _) (Zdp _ _) rfl hr rfl ?_
 simp(disch:=decide) only[inS,qFL.v,beq_self_eq_true,e1,Nat.add_zero,b1,b2,u1,u2,tN,qT6.v,cond_true]
theorem ZsF (fr:Nat→Cp) (a b c:Nat) (k:Int) (zs:List UInt8) (f:Nat→Bool) (N m:Nat) (hfr:YR fr) (hm:XC (inS 52 a b c k)=true):ConOk Tryz.prog 23 3 (VU fr (inS 52 a b c k) fr 0 zs f N m)∧FlatC (VU fr (inS 52 a b c k) fr 0 zs f N m):=by
 have b1:=qB1 m
 have b2:=qB2 m
 have u1:=qU1
 have u2:=qU2
 have hmay:=Ws (inS 52 a b c k)
 rw[hm] at hmay
 have hnx:=XW fr hfr
 have e1:=@qE1
 have hr:=ZKg.v fr (inS 52 a b c k) true (Yo fr) zs f N m
 simp only[inS,tN,Z9,qFL.v] at hr
 refine Qt (UW (Xi hmay (Xi hnx ZeY))) (QQ _ _) (Zdp _ _) rfl hr rfl ?_
 simp(disch:=decide) only[inS,qFL.v,beq_self_eq_true,e1,Nat.add_zero,b1,b2,u1,u2,tN,qT6.v,cond_true]
theorem ZEg (fr:Nat→Cp) (a b c:Nat) (k:Int) (zs:List UInt8) (f:Nat→Bool) (N m:Nat) (hfr:YR fr) (a0:a<16) (hm:XC (inS 29 a b c k)=true):ConOk Tryz.prog 23 3 (VU fr (inS 29 a b c k) (frS (frS (Yo fr) a (Zdm fr 1)) 16 (Zdm fr k)) 0 zs f N m)∧FlatC (VU fr (inS 29 a b c k) (frS (frS (Yo fr) a (Zdm fr 1)) 16 (Zdm fr k)) 0 zs f N m):=by
 have ha:a<17:=by omega
 have ya:=qD0 a
 have za:=qD1 a (by omega)
 have b1:=qB1 m
 have b2:=qB2 m
 have u1:=qU1
 have u2:=qU2
 have hmay:=Ws (inS 29 a b c k)
 rw[hm] at hmay
 have hnx:=XW fr hfr
 have e1:=@qE1
 have g1:=U7 (fr 16) (ZcP fr 1) (hfr 16) (Zj2 fr 1)
 have g2:=U7 (fr 16) (ZcP fr k) (hfr 16) (Zj2 fr k)
 have g3:u32.wrap (((fr 16).C:Int)+(4:Int))=((ZcP fr 1:Nat):Int):=by
  have h:=Zmz fr 1
  rw[← h]; simp only[Zyw]; omega
 have g4:=Zmz fr k
 have hr:=ZN0.v fr (inS 29 a b c k) true (Yo fr) (ZcP fr 1) (ZcP fr k) (Zdm fr 1) (Zdm fr k) zs f N m
 simp only[inS,tN,g3,g4,qFL.v,(qFS fr a ha).v,(qFT fr a ha).v] at hr
 refine Qt (UW (Xi hmay (Xi hnx (Xi g1 (Xi g2 ZeY))))) (QQ _ _) (Zdp _ _) rfl hr rfl ?_
 simp(disch:=decide) only[inS,qFL.v,(qFS fr a ha).v,(qFT fr a ha).v,ya,za,beq_self_eq_true,e1,g3,g4,Nat.add_zero,b1,b2,u1,u2,tN,qT6.v,cond_true]
theorem ZKP {c:Cp} (h:Vb c 4=0):c.V=true∧c.Y=0∧c.P&&&4=4:=by
 unfold Vb at h
 cases hV:c.V
 ·rw[if_pos hV] at h; cases h
 rw[if_neg (by rw[hV]; decide)] at h
 by_cases hY:c.Y=0
 ·rw[if_neg (by omega)] at h
  by_cases hP:c.P&&&4=4
  ·exact⟨rfl,hY,hP⟩
  ·rw[if_pos hP] at h; cases h
 ·rw[if_pos hY] at h; cases h
theorem and4 (p:Nat) (h:p&&&4≠4):p&&&4=0:=by
 have e:p&&&4=(p.testBit 2).toNat*4:=by
  apply Nat.eq_of_testBit_eq
  intro j
  rw[Nat.testBit_and]
  by_cases hj:j=2
  ·subst hj
   cases p.testBit 2<;>rfl
  ·have h4:(4:Nat).testBit j=false:=by
    rw[show(4:Nat)=2^2 from rfl,Nat.testBit_two_pow]
    exact dF (fun h=>hj h.symm)
   rw[h4,Bool.and_false]
   cases p.testBit 2
   ·show false=(0:Nat).testBit j
    rw[Nat.zero_testBit]
   ·show false=(4:Nat).testBit j
    rw[h4]
 cases hb:p.testBit 2
 ·rw[hb] at e; exact e
 ·rw[hb] at e; exact absurd e h
theorem ZzL (fr:Nat→Cp) (a b c:Nat) (k:Int) (zs:List UInt8) (f:Nat→Bool) (N m:Nat) (hfr:YR fr) (a0:a<16) (b0:b<16) (hm:XC (inS 30 a b c k)=true) (ht:Vb (fr b) 4=0):ConOk Tryz.prog 23 3 (VU fr (inS 30 a b c k) (frS (frS (Yo fr) a (Zdm fr 1)) 16 (fr b)) 0 zs f N m)∧FlatC (VU fr (inS 30 a b c k) (frS (frS (Yo fr) a (Zdm fr 1)) 16 (fr b)) 0 zs f N m):=by
 have ha:a<17:=by omega
 have ya:=qD0 a
 have za:=qD1 a (by omega)
 have hb:b<17:=by omega
 have yb:=qD0 b
 have zb:=qD1 b (by omega)
 have b1:=qB1 m
 have b2:=qB2 m
 have u1:=qU1
 have u2:=qU2
 have hmay:=Ws (inS 30 a b c k)
 rw[hm] at hmay
 have hnx:=XW fr hfr
 have e1:=@qE1
 have hx:=u16_and_nat (fr b).P 4 (hfr b).2.2.2.2.1 (by omega)
 obtain⟨hV,hY,hP⟩:=ZKP ht
 have p1:(bits BinOp.and u16 ((fr b).P:Int) (4:Int)==(0:Int))=false:=by rw[show(4:Int)=((4:Nat):Int) from rfl,hx,hP]; rfl
 have hr:=ZKk.v fr (inS 30 a b c k) true (Yo fr) (Zdm fr 1) zs f N m
 simp only[inS,tN,Z9,qFL.v,(qFS fr a ha).v,(qFS fr b hb).v,(qFT fr a ha).v,(qFT fr b hb).v] at hr
 refine Qt (UW (Xi hmay (Xi hnx (Xi (ZiD fr 1 hfr) ZeY)))) (QQ _ _) (Zdp _ _) rfl hr rfl ?_
 simp(disch:=decide) only[inS,qFL.v,(qFS fr a ha).v,(qFS fr b hb).v,(qFT fr a ha).v,(qFT fr b hb).v,ya,za,yb,zb,beq_self_eq_true,e1,hV,ZmK hY,p1,Nat.add_zero,b1,b2,u1,u2,tN,qT6.v,cond_true]
theorem ZzM (fr:Nat→Cp) (a b c:Nat) (k:Int) (zs:List UInt8) (f:Nat→Bool) (N m:Nat) (hfr:YR fr) (a0:a<16) (b0:b<16) (hm:XC (inS 30 a b c k)=true) (ht:Vb (fr b) 4≠0):ConOk Tryz.prog 23 3 (VU fr (inS 30 a b c k) frN (Vb (fr b) 4) zs f N m)∧FlatC (VU fr (inS 30 a b c k) frN (Vb (fr b) 4) zs f N m):=by
 have ha:a<17:=by omega
 have ya:=qD0 a
 have za:=qD1 a (by omega)
 have hb:b<17:=by omega
 have yb:=qD0 b
 have zb:=qD1 b (by omega)
 have b1:=qB1 m
 have b2:=qB2 m
 have u1:=qU1
 have u2:=qU2
 have hmay:=Ws (inS 30 a b c k)
 rw[hm] at hmay
 have hnx:=XW fr hfr
 have e1:=@qE1
 have hx:=u16_and_nat (fr b).P 4 (hfr b).2.2.2.2.1 (by omega)
 have hbs:Zs Tryz.prog (evF Tryz.prog (Zk 3 (Za [(70,53,Con.pure [(inS 30 a b c k).val] (.bool true),[]),(70,28,Con.pure [Xu fr] (Xu (Yo fr)),[])]) Zc) Zb 100 20):=UW (Xi hmay (Xi hnx ZeY))
 cases hV:(fr b).V
 ·have e:Vb (fr b) 4=1:=by unfold Vb; rw[if_pos hV]
  rw[e]
  have hr:=ZKh.v fr (inS 30 a b c k) true (Yo fr) zs f N m
  simp only[inS,tN,Z9,qFL.v,(qFS fr a ha).v,(qFS fr b hb).v,(qFT fr a ha).v,(qFT fr b hb).v] at hr
  refine Qt (hbs) (QQ _ _) (Zdp _ _) rfl hr rfl ?_
  simp(disch:=decide) only[inS,qFL.v,(qFS fr a ha).v,(qFS fr b hb).v,(qFT fr a ha).v,(qFT fr b hb).v,ya,za,yb,zb,beq_self_eq_true,e1,hV,Nat.add_zero,b1,b2,u1,u2,tN,qT6.v,cond_true]
 ·by_cases hY:(fr b).Y=0
  ·have hP:(fr b).P&&&4≠4:=fun hp=>ht (by unfold Vb; rw[if_neg (by rw[hV]; decide),if_neg (by omega),if_neg (by omega)])
   have e:Vb (fr b) 4=3:=by unfold Vb; rw[if_neg (by rw[hV]; decide),if_neg (by omega),if_pos hP]
   have hP0:(fr b).P&&&4=0:=and4 _ hP
   have p1:(bits BinOp.and u16 ((fr b).P:Int) (4:Int)==(0:Int))=true:=by rw[show(4:Int)=((4:Nat):Int) from rfl,hx,hP0]; rfl
   rw[e]
   have hr:=ZKj.v fr (inS 30 a b c k) true (Yo fr) zs f N m
   simp only[inS,tN,Z9,qFL.v,(qFS fr a ha).v,(qFS fr b hb).v,(qFT fr a ha).v,(qFT fr b hb).v] at hr
   refine Qt (hbs) (QQ _ _) (Zdp _ _) rfl hr rfl ?_
   simp(disch:=decide) only[inS,qFL.v,(qFS fr a ha).v,(qFS fr b hb).v,(qFT fr a ha).v,(qFT fr b hb).v,ya,za,yb,zb,beq_self_eq_true,e1,hV,ZmK hY,p1,Nat.add_zero,b1,b2,u1,u2,tN,qT6.v,cond_true]
  ·have e:Vb (fr b) 4=2:=by unfold Vb; rw[if_neg (by rw[hV]; decide),if_pos hY]
   rw[e]
   have hr:=ZKi.v fr (inS 30 a b c k) true (Yo fr) zs f N m
   simp only[inS,tN,Z9,qFL.v,(qFS fr a ha).v,(qFS fr b hb).v,(qFT fr a ha).v,(qFT fr b hb).v] at hr
   refine Qt (hbs) (QQ _ _) (Zdp _ _) rfl hr rfl ?_
   simp(disch:=decide) only[inS,qFL.v,(qFS fr a ha).v,(qFS fr b hb).v,(qFT fr a ha).v,(qFT fr b hb).v,ya,za,yb,zb,beq_self_eq_true,e1,hV,Zou hY,Nat.add_zero,b1,b2,u1,u2,tN,qT6.v,cond_true]
theorem ZEh (fr:Nat→Cp) (op:Int) (a b c:Nat) (k:Int) (zs:List UInt8) (f:Nat→Bool) (N m:Nat) (hfr:YR fr) (a0:a<16) (hm:XC (inS op a b c k)=true) (k0:¬ op=0) (k53:¬ op=53) (k50:¬ op=50) (k51:¬ op=51) (k52:¬ op=52) (k29:¬ op=29) (k30:¬ op=30) (hw:0<Xp op) (x:Cp) (t:Nat) (hmv:ConOk Tryz.prog 58 3 (Zds fr (inS op a b c k) x t zs f N m)∧FlatC (Zds fr (inS op a b c k) x t zs f N m)) (ht:t≠0):ConOk Tryz.prog 23 3 (VU fr (inS op a b c k) frN t zs f N m)∧FlatC (VU fr (inS op a b c k) frN t zs f N m):=by
 have ha:a<17:=by omega
 have ya:=qD0 a
 have za:=qD1 a (by omega)
 have b1:=qB1 m
 have b2:=qB2 m
 have u1:=qU1
 have u2:=qU2
 have hmay:=Ws (inS op a b c k)
 rw[hm] at hmay
 have hnx:=XW fr hfr
 have w1:decide (((Xp op:Nat):Int)>0)=true:=lR (by omega)
 have hr:=ZN1.v fr (inS op a b c k) true (Yo fr) (Xp op) x t zs f N m
 simp only[inS,tN,Z9,qFL.v,(qFS fr a ha).v,(qFT fr a ha).v] at hr
 refine Qt (UW (Xi hmay (Xi hnx (Xi (Zbj op) (Xi hmv ZeY))))) (QQ _ _) (Zdp _ _) rfl hr rfl ?_
 simp only[inS,qFL.v,(qFS fr a ha).v,(qFT fr a ha).v,ya,za,Qw k0,Qw k53,Qw k50,Qw k51,Qw k52,Qw k29,Qw k30,w1,Zou ht,Nat.add_zero,b1,b2,u1,u2,tN,qT6.v,cond_true]
theorem ZEi (fr:Nat→Cp) (op:Int) (a b c:Nat) (k:Int) (zs:List UInt8) (f:Nat→Bool) (N m:Nat) (hfr:YR fr) (a0:a<16) (hm:XC (inS op a b c k)=true) (k0:¬ op=0) (k53:¬ op=53) (k50:¬ op=50) (k51:¬ op=51) (k52:¬ op=52) (k29:¬ op=29) (k30:¬ op=30) (hw:0<Xp op) (r:Cp) (hmv:ConOk Tryz.prog 58 3 (Zds fr (inS op a b c k) r 0 zs f N m)∧FlatC (Zds fr (inS op a b c k) r 0 zs f N m)):ConOk Tryz.prog 23 3 (VU fr (inS op a b c k) (frS (Yo fr) a r) 0 zs f N m)∧FlatC (VU fr (inS op a b c k) (frS (Yo fr) a r) 0 zs f N m):=by
 have ha:a<17:=by omega
 have ya:=qD0 a
 have za:=qD1 a (by omega)
 have b1:=qB1 m
 have b2:=qB2 m
 have u1:=qU1
 have u2:=qU2
 have hmay:=Ws (inS op a b c k)
 rw[hm] at hmay
 have hnx:=XW fr hfr
 have w1:decide (((Xp op:Nat):Int)>0)=true:=lR (by omega)
 have hr:=ZN2.v fr (inS op a b c k) true (Yo fr) (Xp op) r 0 zs f N m
 simp only[inS,tN,Z9,qFL.v,(qFS fr a ha).v,(qFT fr a ha).v] at hr
 refine Qt (UW (Xi hmay (Xi hnx (Xi (Zbj op) (Xi hmv ZeY))))) (QQ _ _) (Zdp _ _) rfl hr rfl ?_
 simp only[inS,qFL.v,(qFS fr a ha).v,(qFT fr a ha).v,ya,za,Qw k0,Qw k53,Qw k50,Qw k51,Qw k52,Qw k29,Qw k30,w1,ZmK rfl,Nat.add_zero,b1,b2,u1,u2,tN,qT6.v,cond_true]
theorem ZEj (fr:Nat→Cp) (op:Int) (a b c:Nat) (k:Int) (zs:List UInt8) (f:Nat→Bool) (N m:Nat) (hfr:YR fr) (a0:a<16) (hm:XC (inS op a b c k)=true) (k0:¬ op=0) (k53:¬ op=53) (k50:¬ op=50) (k51:¬ op=51) (k52:¬ op=52) (k29:¬ op=29) (k30:¬ op=30) (hw:0<Xp op) (r:Cp) (z2:List UInt8) (f2:Nat→Bool) (hmv:ConOk Tryz.prog 58 3 (ZmJ (Zkn fr (inS op a b c k)) (.tuple ⟨[r.val,.int .i64 0]⟩) zs z2 f f2 N m)∧FlatC (ZmJ (Zkn fr (inS op a b c k)) (.tuple ⟨[r.val,.int .i64 0]⟩) zs z2 f f2 N m)):ConOk Tryz.prog 23 3 (Zpw fr (inS op a b c k) (frS (Yo fr) a r) zs z2 f f2 N m)∧FlatC (Zpw fr (inS op a b c k) (frS (Yo fr) a r) zs z2 f f2 N m):=by
 have ha:a<17:=by omega
 have ya:=qD0 a
 have za:=qD1 a (by omega)
 have b1:=qB1 m
 have b2:=qB2 m
 have u1:=qU1
 have u2:=qU2
 have hmay:=Ws (inS op a b c k)
 rw[hm] at hmay
 have hnx:=XW fr hfr
 have w1:decide (((Xp op:Nat):Int)>0)=true:=lR (by omega)
 have hr:=ZN3.v fr (inS op a b c k) true (Yo fr) (Xp op) r z2 f2 zs f N m
 simp only[inS,tN,qFL.v,(qFS fr a ha).v,(qFT fr a ha).v] at hr
 refine Zhs (UW (Xi hmay (Xi hnx (Xi (Zbj op) (Xi hmv ZeY))))) (QQ _ _) (Zdp _ 0) rfl hr rfl ?_ rfl rfl rfl rfl rfl ⟨Nat.le_refl _,Nat.le_refl _⟩
 simp only[inS,qFL.v,(qFS fr a ha).v,(qFT fr a ha).v,ya,za,Qw k0,Qw k53,Qw k50,Qw k51,Qw k52,Qw k29,Qw k30,w1,Nat.add_zero,b1,b2,u1,u2,tN,qT6.v,cond_true]
theorem ZEk (fr:Nat→Cp) (op:Int) (a b c:Nat) (k:Int) (zs:List UInt8) (f:Nat→Bool) (N m:Nat) (hfr:YR fr) (a0:a<16) (b0:b<16) (hm:XC (inS op a b c k)=true) (k0:¬ op=0) (k53:¬ op=53) (k50:¬ op=50) (k51:¬ op=51) (k52:¬ op=52) (k29:¬ op=29) (k30:¬ op=30) (hw:Xp op=0) (hi:tkI op=true) (hk:tkS op (fr a).C (fr b).C=true):ConOk Tryz.prog 23 3 (VU fr (inS op a b c k) (frS (Yo fr) 16 (Zdm fr k)) 0 zs f N m)∧FlatC (VU fr (inS op a b c k) (frS (Yo fr) 16 (Zdm fr k)) 0 zs f N m):=by
 have ha:a<17:=by omega
 have ya:=qD0 a
 have za:=qD1 a (by omega)
 have hb:b<17:=by omega
 have yb:=qD0 b
 have zb:=qD1 b (by omega)
 have b1:=qB1 m
 have b2:=qB2 m
 have u1:=qU1
 have u2:=qU2
 have hmay:=Ws (inS op a b c k)
 rw[hm] at hmay
 have hnx:=XW fr hfr
 have w1:decide (((Xp op:Nat):Int)>0)=false:=dF (by omega)
 have htk:=Zcn op (fr a).C (fr b).C (hfr a).1 (hfr b).1
 rw[hi,hk] at htk
 have hr:=ZKl.v fr (inS op a b c k) true (Yo fr) (Xp op) true true (Zdm fr k) zs f N m
 simp only[inS,tN,Z9,qFL.v,(qFS fr a ha).v,(qFS fr b hb).v,(qFT fr a ha).v,(qFT fr b hb).v] at hr
 refine Qt (UW (Xi hmay (Xi hnx (Xi (Zbj op) (Xi htk (Xi (ZiD fr k hfr) ZeY)))))) (QQ _ _) (Zdp _ _) rfl hr rfl ?_
 simp only[inS,qFL.v,(qFS fr a ha).v,(qFS fr b hb).v,(qFT fr a ha).v,(qFT fr b hb).v,ya,za,yb,zb,Qw k0,Qw k53,Qw k50,Qw k51,Qw k52,Qw k29,Qw k30,w1,Zht fr a ha,Zht fr b hb,Nat.add_zero,b1,b2,u1,u2,tN,qT6.v,cond_true]
theorem ZEl (fr:Nat→Cp) (op:Int) (a b c:Nat) (k:Int) (zs:List UInt8) (f:Nat→Bool) (N m:Nat) (hfr:YR fr) (a0:a<16) (b0:b<16) (hm:XC (inS op a b c k)=true) (k0:¬ op=0) (k53:¬ op=53) (k50:¬ op=50) (k51:¬ op=51) (k52:¬ op=52) (k29:¬ op=29) (k30:¬ op=30) (hw:Xp op=0) (hi:tkI op=true) (hk:tkS op (fr a).C (fr b).C=false):ConOk Tryz.prog 23 3 (VU fr (inS op a b c k) (Yo fr) 0 zs f N m)∧FlatC (VU fr (inS op a b c k) (Yo fr) 0 zs f N m):=by
 have ha:a<17:=by omega
 have ya:=qD0 a
 have za:=qD1 a (by omega)
 have hb:b<17:=by omega
 have yb:=qD0 b
 have zb:=qD1 b (by omega)
 have b1:=qB1 m
 have b2:=qB2 m
 have u1:=qU1
 have u2:=qU2
 have hmay:=Ws (inS op a b c k)
 rw[hm] at hmay
 have hnx:=XW fr hfr
 have w1:decide (((Xp op:Nat):Int)>0)=false:=dF (by omega)
 have htk:=Zcn op (fr a).C (fr b).C (hfr a).1 (hfr b).1
 rw[hi,hk] at htk
 have hr:=ZKm.v fr (inS op a b c k) true (Yo fr) (Xp op) false true zs f N m
 simp only[inS,tN,Z9,qFL.v,(qFS fr a ha).v,(qFS fr b hb).v,(qFT fr a ha).v,(qFT fr b hb).v] at hr
 refine Qt (UW (Xi hmay (Xi hnx (Xi (Zbj op) (Xi htk ZeY))))) (QQ _ _) (Zdp _ _) rfl hr rfl ?_
 simp only[inS,qFL.v,(qFS fr a ha).v,(qFS fr b hb).v,(qFT fr a ha).v,(qFT fr b hb).v,ya,za,yb,zb,Qw k0,Qw k53,Qw k50,Qw k51,Qw k52,Qw k29,Qw k30,w1,Zht fr a ha,Zht fr b hb,Nat.add_zero,b1,b2,u1,u2,tN,qT6.v,cond_true]
theorem ZEm (fr:Nat→Cp) (op:Int) (a b c:Nat) (k:Int) (zs:List UInt8) (f:Nat→Bool) (N m:Nat) (hfr:YR fr) (a0:a<16) (b0:b<16) (c0:c<16) (hm:XC (inS op a b c k)=true) (k0:¬ op=0) (k53:¬ op=53) (k50:¬ op=50) (k51:¬ op=51) (k52:¬ op=52) (k29:¬ op=29) (k30:¬ op=30) (hw:Xp op=0) (hi:tkI op=false) (hj:rkI op=true) (ht:rkT op (fr c).C=0):ConOk Tryz.prog 23 3 (VU fr (inS op a b c k) (frS (Yo fr) a (Zdk (rkN op (fr b).C (fr c).C))) 0 zs f N m)∧FlatC (VU fr (inS op a b c k) (frS (Yo fr) a (Zdk (rkN op (fr b).C (fr c).C))) 0 zs f N m):=by
 have ha:a<17:=by omega
 have ya:=qD0 a
 have za:=qD1 a (by omega)
 have hb:b<17:=by omega
 have yb:=qD0 b
 have zb:=qD1 b (by omega)
 have hc:c<17:=by omega
 have yc:=qD0 c
 have zc:=qD1 c (by omega)
 have b1:=qB1 m
 have b2:=qB2 m
 have u1:=qU1
 have u2:=qU2
 have hmay:=Ws (inS op a b c k)
 rw[hm] at hmay
 have hnx:=XW fr hfr
 have w1:decide (((Xp op:Nat):Int)>0)=false:=dF (by omega)
 have htk:=Zcn op (fr a).C (fr b).C (hfr a).1 (hfr b).1
 have hrk:=ZjY op (fr b).C (fr c).C (hfr b).1 (hfr c).1
 rw[hi] at htk
 rw[hj,ht] at hrk
 have hr:=ZKn.v fr (inS op a b c k) true (Yo fr) (Xp op) (tkS op (fr a).C (fr b).C) false (rkN op (fr b).C (fr c).C) 0 true zs f N m
 simp only[inS,tN,Z9,qFL.v,(qFS fr a ha).v,(qFS fr b hb).v,(qFS fr c hc).v,(qFT fr a ha).v,(qFT fr b hb).v,(qFT fr c hc).v] at hr
 refine Qt (UW (Xi hmay (Xi hnx (Xi (Zbj op) (Xi htk (Xi hrk ZeY)))))) (QQ _ _) (Zdp _ _) rfl hr rfl ?_
 simp only[inS,qFL.v,(qFS fr a ha).v,(qFS fr b hb).v,(qFS fr c hc).v,(qFT fr a ha).v,(qFT fr b hb).v,(qFT fr c hc).v,ya,za,yb,zb,yc,zc,Qw k0,Qw k53,Qw k50,Qw k51,Qw k52,Qw k29,Qw k30,w1,ZmK rfl,Zht fr a ha,Zht fr b hb,Zht fr c hc,Nat.add_zero,b1,b2,u1,u2,tN,qT6.v,cond_true]
theorem ZEn (fr:Nat→Cp) (op:Int) (a b c:Nat) (k:Int) (zs:List UInt8) (f:Nat→Bool) (N m:Nat) (hfr:YR fr) (a0:a<16) (b0:b<16) (c0:c<16) (hm:XC (inS op a b c k)=true) (k0:¬ op=0) (k53:¬ op=53) (k50:¬ op=50) (k51:¬ op=51) (k52:¬ op=52) (k29:¬ op=29) (k30:¬ op=30) (hw:Xp op=0) (hi:tkI op=false) (hj:rkI op=true) (ht:rkT op (fr c).C≠0):ConOk Tryz.prog 23 3 (VU fr (inS op a b c k) frN (rkT op (fr c).C) zs f N m)∧FlatC (VU fr (inS op a b c k) frN (rkT op (fr c).C) zs f N m):=by
 have ha:a<17:=by omega
 have ya:=qD0 a
 have za:=qD1 a (by omega)
 have hb:b<17:=by omega
 have yb:=qD0 b
 have zb:=qD1 b (by omega)
 have hc:c<17:=by omega
 have yc:=qD0 c
 have zc:=qD1 c (by omega)
 have b1:=qB1 m
 have b2:=qB2 m
 have u1:=qU1
 have u2:=qU2
 have hmay:=Ws (inS op a b c k)
 rw[hm] at hmay
 have hnx:=XW fr hfr
 have w1:decide (((Xp op:Nat):Int)>0)=false:=dF (by omega)
 have htk:=Zcn op (fr a).C (fr b).C (hfr a).1 (hfr b).1
 have hrk:=ZjY op (fr b).C (fr c).C (hfr b).1 (hfr c).1
 rw[hi] at htk
 rw[hj] at hrk
 have hr:=ZKo.v fr (inS op a b c k) true (Yo fr) (Xp op) (tkS op (fr a).C (fr b).C) false (rkN op (fr b).C (fr c).C) (rkT op (fr c).C) true zs f N m
 simp only[inS,tN,Z9,qFL.v,(qFS fr a ha).v,(qFS fr b hb).v,(qFS fr c hc).v,(qFT fr a ha).v,(qFT fr b hb).v,(qFT fr c hc).v] at hr
 refine Qt (UW (Xi hmay (Xi hnx (Xi (Zbj op) (Xi htk (Xi hrk ZeY)))))) (QQ _ _) (Zdp _ _) rfl hr rfl ?_
 simp only[inS,qFL.v,(qFS fr a ha).v,(qFS fr b hb).v,(qFS fr c hc).v,(qFT fr a ha).v,(qFT fr b hb).v,(qFT fr c hc).v,ya,za,yb,zb,yc,zc,Qw k0,Qw k53,Qw k50,Qw k51,Qw k52,Qw k29,Qw k30,w1,Zou ht,Zht fr a ha,Zht fr b hb,Zht fr c hc,Nat.add_zero,b1,b2,u1,u2,tN,qT6.v,cond_true]
theorem ZEo (fr:Nat→Cp) (op:Int) (a b c:Nat) (k:Int) (zs:List UInt8) (f:Nat→Bool) (N m:Nat) (hfr:YR fr) (a0:a<16) (b0:b<16) (c0:c<16) (hm:XC (inS op a b c k)=true) (k0:¬ op=0) (k53:¬ op=53) (k50:¬ op=50) (k51:¬ op=51) (k52:¬ op=52) (k29:¬ op=29) (k30:¬ op=30) (hw:Xp op=0) (hi:tkI op=false) (hj:rkI op=false) (ho:op=1∨op=2∨op=16∨op=31∨op=42∨op=43∨op=44∨op=45∨op=46∨op=41∨op=32∨op=33∨op=34∨op=35∨op=36∨op=37∨op=38∨op=39∨op=40∨op=47∨op=48∨op=49):ConOk Tryz.prog 23 3 (VU fr (inS op a b c k) (frS (Yo fr) a (JQ fr op b c k)) 0 zs f N m)∧FlatC (VU fr (inS op a b c k) (frS (Yo fr) a (JQ fr op b c k)) 0 zs f N m):=by
 have ha:a<17:=by omega
 have ya:=qD0 a
 have za:=qD1 a (by omega)
 have hb:b<17:=by omega
 have yb:=qD0 b
 have zb:=qD1 b (by omega)
 have hc:c<17:=by omega
 have yc:=qD0 c
 have zc:=qD1 c (by omega)
 have b1:=qB1 m
 have b2:=qB2 m
 have u1:=qU1
 have u2:=qU2
 have hmay:=Ws (inS op a b c k)
 rw[hm] at hmay
 have hnx:=XW fr hfr
 have w1:decide (((Xp op:Nat):Int)>0)=false:=dF (by omega)
 have htk:=Zcn op (fr a).C (fr b).C (hfr a).1 (hfr b).1
 have hrk:=ZjY op (fr b).C (fr c).C (hfr b).1 (hfr c).1
 rw[hi] at htk
 rw[hj] at hrk
 have hdr:=ZzI fr op a b c k hfr b0 c0 ho
 have hr:=ZN4.v fr (inS op a b c k) true (Yo fr) (Xp op) (tkS op (fr a).C (fr b).C) false (rkN op (fr b).C (fr c).C) (rkT op (fr c).C) false (JQ fr op b c k) zs f N m
 simp only[inS,tN,Z9,qFL.v,(qFS fr a ha).v,(qFS fr b hb).v,(qFS fr c hc).v,(qFT fr a ha).v,(qFT fr b hb).v,(qFT fr c hc).v] at hr
 refine Qt (UW (Xi hmay (Xi hnx (Xi (Zbj op) (Xi htk (Xi hrk (Xi hdr ZeY))))))) (QQ _ _) (Zdp _ _) rfl hr rfl ?_
 simp only[inS,qFL.v,(qFS fr a ha).v,(qFS fr b hb).v,(qFS fr c hc).v,(qFT fr a ha).v,(qFT fr b hb).v,(qFT fr c hc).v,ya,za,yb,zb,yc,zc,Qw k0,Qw k53,Qw k50,Qw k51,Qw k52,Qw k29,Qw k30,w1,Zht fr a ha,Zht fr b hb,Zht fr c hc,Nat.add_zero,b1,b2,u1,u2,tN,qT6.v,cond_true]
def rtE (g:Nat) (out:Value) (k:Nat):List (Nat×Value):=[(0,.pointer (some ⟨66,0,none⟩)),(1,.int .i64 (g:Nat)),(4,.slice none 0 0),(5,out),(6,.int .i64 (k:Nat))]
def rtN (g:Nat) (zs:List UInt8) (f:Nat→Bool) (N m:Nat) (k:Nat):Sf:=⟨67,rtE g (.slice none 0 0) k,arR false zs f N m,Zf2 N m⟩
def rtO (l:List Nat):Sy.Blk:=⟨true,some (67,1),ZcB l,none⟩
def rtY (g:Nat) (zs:List UInt8) (f:Nat→Bool) (N m:Nat) (l:List Nat) (k:Nat):Sf:=⟨68,rtE g (.slice (some ⟨67,0,none⟩) l.length (big+67)) k,(67,rtO l)::arR false zs f N m,(67,l.length)::Zf2 N m⟩
def Y9 (a:Nat→Bool) (b c:Nat):=ZvJ a b (Zuv 0 c)
def Zdi (a:Nat×Nat) (b:Nat→Bool) (c:Nat):=KX a (bls b c)
def Zfr (a b:Nat):=Zjf (Yr a b)
def Zeu:=Bx.mk (aI @Y9.eq_1 (aI @Zdi.eq_1 @Zfr.eq_1))
theorem ZzN (g:Nat) (zs:List UInt8) (f:Nat→Bool) (N:Nat) (m:Nat) (k:Nat):evC Tryz.prog (evF Tryz.prog Zc Zb 100 20) (Zb 63) 36 100 (Qe Tryz.prog 63 0) (Sf.frT 36 (rtN g zs f N m k) (tb 7 1))=ZaC 36 [(0,ZN),Ql 1 g,(4,W2),(5,W2),VQ 6 k,Ql 7 k,(8,ZN),(9,ZN),(10,UH),(11,J6 m),Ql 12 m,X3 13 (Xw k m),Ql 14 k,VQ 15 k,(16,ZN),(17,ZN),(18,UH),(19,J6 m),Ql 20 k,(21,Zi9 65 (YZ k)),X3 22 (Y9 f m k),X3 23 (Y9 f m k),(24,undef),(25,undef),(26,undef),(27,undef),(28,Xe)] 67 [(66,Zfr N m),(65,Zdi (65,1) f m),(64,Ku (64,1) zs)] [(65,m),(64,N)] 7 (Y5 (QF (Ya (ZaM (Jd (YZ k+1) (bls f m) Zam (YZ k)) (KQ k&&Xw k m) (Vt (Xw k m=true))) (Y9 f m k)) (Y9 f m k))):=by kernel_rfl
def ZKQ:=Bx.mk (by have h:=@ZzN;simp(maxSteps:=99999999) only[Zx.v,ZD.v,ZU.v,X0.v,ZR.v,Ud.v,Zo.v,Zy.v,Xm.v,Xy.v,Uo.v,Zmv.v,UT.v,Zeu.v,-eq_self] at h;exact h)
def Us (a:Nat):=ZaY (QW a)
def Zq8:=Bx.mk @Us.eq_1
theorem ZzO (g:Nat) (zs:List UInt8) (f:Nat→Bool) (N:Nat) (m:Nat) (k:Nat):evC Tryz.prog (evF Tryz.prog Zc Zb 100 20) (Zb 63) 36 100 (Qe Tryz.prog 63 0) (Sf.frT 36 (rtN g zs f N m k) (tb 7 63))=ZaC 36 [(0,ZN),Ql 1 g,(4,W2),(5,W2),VQ 6 k,Ql 7 k,(8,ZN),(9,ZN),(10,UH),(11,J6 m),Ql 12 m,X3 13 (Xw k m),Ql 14 k,VQ 15 k,(16,ZN),(17,ZN),(18,UH),(19,J6 m),Ql 20 k,(21,Zi9 65 (YZ k)),X3 22 (Y9 f m k),X3 23 (Y9 f m k),Ql 24 k,(25,VD (Us k)),Ql 26 g,X3 27 (Us k==QW g),X3 28 (Us k==QW g)] 67 [(66,Zfr N m),(65,Zdi (65,1) f m),(64,Ku (64,1) zs)] [(65,m),(64,N)] 7 (QF (((((ZaM (Jd (YZ k+1) (bls f m) Zam (YZ k)) (KQ k&&Xw k m) (Vt (Xw k m=true))∧Y9 f m k=true)∧Y9 f m k=true)∧Y9 f m k=true)∧Y9 f m k=true)∧Y9 f m k=true) (Us k==QW g)):=by kernel_rfl
def ZKR:=Bx.mk (by have h:=@ZzO;simp(maxSteps:=99999999) only[Zx.v,ZD.v,ZU.v,X0.v,ZR.v,Ud.v,Zo.v,Zy.v,Uo.v,Zmv.v,UT.v,Zeu.v,Zq8.v,-eq_self] at h;exact h)
theorem ZzP (g:Nat) (zs:List UInt8) (f:Nat→Bool) (N:Nat) (m:Nat) (k:Nat):evC Tryz.prog (evF Tryz.prog Zc Zb 100 20) (Zb 63) 36 100 (Qe Tryz.prog 63 0) (Sf.frT 36 (rtN g zs f N m k) (tb 8 127))=Znu { e:=[[ZN,Z1 g,unk,unk,W2,Zcf 1,ZhI k,Z1 k,ZN,ZN,UH,J6 m,Z1 m,Value.bool (Xw k m),Z1 k,ZhI k],[ZN,ZN,UH,J6 m,Z1 k,Zi9 65 (YZ k),Value.bool (Y9 f m k),Value.bool (Y9 f m k),Z1 k,VD (Us k),Z1 g,ZgV (Us k) (QW g),ZgV (Us k) (QW g),W2,Z1 k,VD (Zkg YD (QW k))],[Zce YD (QW k),ZfJ 67 0 1 1,Zcf 1,unk,unk,unk,unk,unk,unk,unk,unk,unk,unk,unk,unk,unk]],s:=ZkD 69 [(68,ZbN 68 [Zce YD (QW k)]),(67,Vi [Zce YD (QW k)]),(66,Zfr N m),(65,Zdi (65,1) f m),(64,Ku (64,1) zs)] [(68,1),(65,m),(64,N)] 8 (ZuJ (((((ZaM (Jd (YZ k+1) (bls f m) Zam (YZ k)) (KQ k&&Xw k m) (Vt (Xw k m=true))∧Y9 f m k=true)∧Y9 f m k=true)∧Y9 f m k=true)∧Y9 f m k=true)∧Y9 f m k=true) ((Us k==QW g)=true)):Fr }:=by kernel_rfl
def ZKS:=Bx.mk (by have h:=@ZzP;simp(maxSteps:=99999999) only[Zx.v,ZF.v,ZD.v,ZU.v,X0.v,ZR.v,Zo.v,Zy.v,ZA.v,Xq.v,Uo.v,ZfV.v,Zdo.v,Zmv.v,UT.v,Zeu.v,Zq8.v,-eq_self] at h;exact h)
theorem ZzQ (g:Nat) (zs:List UInt8) (f:Nat→Bool) (N:Nat) (m:Nat) (k:Nat):evC Tryz.prog (evF Tryz.prog Zc Zb 100 20) (Zb 63) 36 100 (Qe Tryz.prog 63 0) (Sf.frT 36 (rtN g zs f N m k) [W1])=some (Ze7,Zc1 36 [(0,ZN),Ql 1 g,(4,W2),(5,W2),Ql 6 k,Ql 7 k,(8,ZN),(9,ZN),(10,UH),(11,J6 m),Ql 12 m,X3 13 (Xw k m)] 67 [(66,Zfr N m),(65,Zdi (65,1) f m),(64,Ku (64,1) zs)] [(65,m),(64,N)] 1 (Uc (Xw k m))):=by kernel_rfl
def ZKT:=Bx.mk (by have h:=@ZzQ;simp(maxSteps:=99999999) only[Zx.v,ZD.v,X0.v,ZR.v,Ud.v,Zy.v,Uo.v,UT.v,Zeu.v,-eq_self] at h;exact h)
def Zlf (a:Nat):=ZfJ 67 0 a 9223372036854775875
def Zfs:=Bx.mk @Zlf.eq_1
theorem ZzR (g:Nat) (zs:List UInt8) (f:Nat→Bool) (N:Nat) (m:Nat) (l:List Nat) (k:Nat):evC Tryz.prog (evF Tryz.prog Zc Zb 100 20) (Zb 63) 36 100 (Qe Tryz.prog 63 0) (Sf.frT 36 (rtY g zs f N m l k) (tb 7 1))=ZaC 36 [(0,ZN),Ql 1 g,(4,W2),(5,Zlf l.length),VQ 6 k,Ql 7 k,(8,ZN),(9,ZN),(10,UH),(11,J6 m),Ql 12 m,X3 13 (Xw k m),Ql 14 k,VQ 15 k,(16,ZN),(17,ZN),(18,UH),(19,J6 m),Ql 20 k,(21,Zi9 65 (YZ k)),X3 22 (Y9 f m k),X3 23 (Y9 f m k),(24,undef),(25,undef),(26,undef),(27,undef),(28,Xe)] 68 [(67,Zh7 67 l),(66,Zfr N m),(65,Zdi (65,1) f m),(64,Ku (64,1) zs)] [(67,l.length),(65,m),(64,N)] 7 (Y5 (QF (Ya (ZaM (Jd (YZ k+1) (bls f m) Zam (YZ k)) (KQ k&&Xw k m) (Vt (Xw k m=true))) (Y9 f m k)) (Y9 f m k))):=by kernel_rfl
def ZKU:=Bx.mk (by have h:=@ZzR;simp(maxSteps:=99999999) only[Zx.v,ZD.v,ZU.v,X0.v,ZR.v,Ud.v,Zo.v,Zy.v,Xm.v,Xy.v,Uo.v,Zdo.v,Zmv.v,UT.v,Zeu.v,Zfs.v,-eq_self] at h;exact h)
theorem ZzS (g:Nat) (zs:List UInt8) (f:Nat→Bool) (N:Nat) (m:Nat) (l:List Nat) (k:Nat):evC Tryz.prog (evF Tryz.prog Zc Zb 100 20) (Zb 63) 36 100 (Qe Tryz.prog 63 0) (Sf.frT 36 (rtY g zs f N m l k) (tb 7 63))=ZaC 36 [(0,ZN),Ql 1 g,(4,W2),(5,Zlf l.length),VQ 6 k,Ql 7 k,(8,ZN),(9,ZN),(10,UH),(11,J6 m),Ql 12 m,X3 13 (Xw k m),Ql 14 k,VQ 15 k,(16,ZN),(17,ZN),(18,UH),(19,J6 m),Ql 20 k,(21,Zi9 65 (YZ k)),X3 22 (Y9 f m k),X3 23 (Y9 f m k),Ql 24 k,(25,VD (Us k)),Ql 26 g,X3 27 (Us k==QW g),X3 28 (Us k==QW g)] 68 [(67,Zh7 67 l),(66,Zfr N m),(65,Zdi (65,1) f m),(64,Ku (64,1) zs)] [(67,l.length),(65,m),(64,N)] 7 (QF (((((ZaM (Jd (YZ k+1) (bls f m) Zam (YZ k)) (KQ k&&Xw k m) (Vt (Xw k m=true))∧Y9 f m k=true)∧Y9 f m k=true)∧Y9 f m k=true)∧Y9 f m k=true)∧Y9 f m k=true) (Us k==QW g)):=by kernel_rfl
def ZKV:=Bx.mk (by have h:=@ZzS;simp(maxSteps:=99999999) only[Zx.v,ZD.v,ZU.v,X0.v,ZR.v,Ud.v,Zo.v,Zy.v,Uo.v,Zdo.v,Zmv.v,UT.v,Zeu.v,Zq8.v,Zfs.v,-eq_self] at h;exact h)
theorem ZzT (g:Nat) (zs:List UInt8) (f:Nat→Bool) (N:Nat) (m:Nat) (l:List Nat) (k:Nat):evC Tryz.prog (evF Tryz.prog Zc Zb 100 20) (Zb 63) 36 100 (Qe Tryz.prog 63 0) (Sf.frT 36 (rtY g zs f N m l k) (tb 7 127))=Znu { e:=[[ZN,Z1 g,unk,unk,W2,Kv (l.length+1),ZhI k,Z1 k,ZN,ZN,UH,J6 m,Z1 m,Value.bool (Xw k m),Z1 k,ZhI k],[ZN,ZN,UH,J6 m,Z1 k,Zi9 65 (YZ k),Value.bool (Y9 f m k),Value.bool (Y9 f m k),Z1 k,VD (Us k),Z1 g,ZgV (Us k) (QW g),ZgV (Us k) (QW g),Zlf l.length,Z1 k,VD (Zkg YD (QW k))],[Zce YD (QW k),ZfJ 68 0 1 1,Kv (l.length+1),unk,unk,unk,unk,unk,unk,unk,unk,unk,unk,unk,unk,unk]],s:=ZkD 70 [(69,ZbN 69 (ZcB l++[Zce YD (QW k)])),(68,Vi [Zce YD (QW k)]),(66,Zfr N m),(65,Zdi (65,1) f m),(64,Ku (64,1) zs)] [(69,l.length+1),(67,l.length),(65,m),(64,N)] 7 (ZaM ((Yf (ZcB l)).beq (l.length*1)) (((l.length+1)*4).ble 1099511627776&&(l.length+1).blt 4611686018427387904) ((((((ZaM (Jd (YZ k+1) (bls f m) Zam (YZ k)) (KQ k&&Xw k m) (Vt (Xw k m=true))∧Y9 f m k=true)∧Y9 f m k=true)∧Y9 f m k=true)∧Y9 f m k=true)∧Y9 f m k=true)∧(Us k==QW g)=true)):Fr }:=by kernel_rfl
def ZKW:=Bx.mk (by have h:=@ZzT;simp(maxSteps:=99999999) only[Zx.v,ZF.v,ZD.v,ZU.v,X0.v,ZR.v,Zo.v,Zy.v,Xq.v,Uo.v,ZfV.v,Zmv.v,UT.v,Zeu.v,Zq8.v,Zfs.v,-eq_self] at h;exact h)
theorem ZzU (g:Nat) (zs:List UInt8) (f:Nat→Bool) (N:Nat) (m:Nat) (l:List Nat) (k:Nat):evC Tryz.prog (evF Tryz.prog Zc Zb 100 20) (Zb 63) 36 100 (Qe Tryz.prog 63 0) (Sf.frT 36 (rtY g zs f N m l k) [W1])=some (Ze7,Zc1 36 [(0,ZN),Ql 1 g,(4,W2),(5,Zlf l.length),Ql 6 k,Ql 7 k,(8,ZN),(9,ZN),(10,UH),(11,J6 m),Ql 12 m,X3 13 (Xw k m)] 68 [(67,Zh7 67 l),(66,Zfr N m),(65,Zdi (65,1) f m),(64,Ku (64,1) zs)] [(67,l.length),(65,m),(64,N)] 1 (Uc (Xw k m))):=by kernel_rfl
def ZKX:=Bx.mk (by have h:=@ZzU;simp(maxSteps:=99999999) only[Zx.v,ZD.v,X0.v,ZR.v,Ud.v,Zy.v,Uo.v,Zdo.v,UT.v,Zeu.v,Zfs.v,-eq_self] at h;exact h)
def rtK (f:Nat→Bool) (g:Nat):Nat→List Nat
 | 0=>[]
 | k+1=>bif f k&&decide (k/16=g) then rtK f g k++[16*k] else rtK f g k
theorem ZvY (f:Nat→Bool) (g:Nat):∀ k,(rtK f g k).length≤k
 | 0=>Nat.le_refl _
 | k+1=>by
  have:=ZvY f g k
  unfold rtK
  cases f k&&decide (k/16=g)
  ·show(rtK f g k).length≤k+1; omega
  ·show(rtK f g k++[_]).length≤k+1; rw[List.length_append]; simp; omega
theorem Zlg (f:Nat→Bool) (g:Nat):∀ k,k≤16*g→rtK f g k=[]
 | 0,_=>rfl
 | k+1,h=>by
  show(bif f k&&decide (k/16=g) then rtK f g k++[16*k] else rtK f g k)=[]
  rw[dF (by omega),Bool.and_false]
  exact Zlg f g k (by omega)
theorem ZA1 (f:Nat→Bool) (g:Nat):∀ k,k≤16→rtK f g (16*g+k)=tgK f g k
 | 0,_=>Zlg f g _ (Nat.le_refl _)
 | k+1,h=>by
  show(bif f (16*g+k)&&decide ((16*g+k)/16=g) then rtK f g (16*g+k)++[16*(16*g+k)] else rtK f g (16*g+k))=_
  rw[lR (by omega),Bool.and_true,ZA1 f g k (by omega),Nat.mul_comm 16 (16*g+k)]
  rfl
theorem ZA2 (f:Nat→Bool) (g:Nat):∀ k,rtK f g (16*g+16+k)=tgK f g 16
 | 0=>ZA1 f g 16 (Nat.le_refl _)
 | k+1=>by
  show(bif f (16*g+16+k)&&decide ((16*g+16+k)/16=g) then rtK f g (16*g+16+k)++[16*(16*g+16+k)] else rtK f g (16*g+16+k))=_
  rw[dF (by omega),Bool.and_false]
  exact ZA2 f g k
def rtS (g:Nat) (zs:List UInt8) (f:Nat→Bool) (N m:Nat):List Nat→Nat→Sf
 | [],k=>rtN g zs f N m k
 | x::l,k=>rtY g zs f N m (x::l) k
theorem ZzV (g:Nat) (zs:List UInt8) (f:Nat→Bool) (N m:Nat) (l:List Nat) (k:Nat) (h:l≠[]):rtS g zs f N m l k=rtY g zs f N m l k:=by
 cases l with
 | nil=>exact absurd rfl h
 | cons x l=>rfl
def rtP (l:List Nat):Sy.Blk:=⟨true,some (68,1),ZcB l,none⟩
def rtF:List Nat→Sf
 | []=>⟨67,[(5,.slice none 0 0)],[],[]⟩
 | x::l=>⟨69,[(5,.slice (some ⟨68,0,none⟩) (x::l).length (big+68))],[(68,rtP (x::l))],[(68,(x::l).length)]⟩
theorem Zie (l:List Nat) (a:Nat) (ha:a≤68) (σ:Nat→Nat) (p:Nat→Bool):(rtF l).Ok (XP a (rtF l).n σ p):=by
 cases l with
 | nil=>exact Sf.Ok.mk' 3 trivial rfl (fun x hx=>by obtain rfl:=List.mem_singleton.1 hx; rfl)
 | cons x l =>
  have hq:XP a 69 σ p 68=true:=by
   show(Nat.blt 68 NG||(bif Nat.blt 68 a then(Nat.beq (σ 68) 68&&p 68) else Nat.blt 68 69))=true
   rw[QD (show a≤68 from ha)]; rfl
  refine Sf.Ok.mk' 3 ⟨⟨hq,hq,ZY (Z4 _)⟩,trivial⟩ (by show(XP a 69 σ p 68&&true)=true; rw[hq]; rfl) (fun y hy => ?_)
  obtain rfl:=List.mem_singleton.1 hy
  show okV (XP a 69 σ p) 3 (.slice (some ⟨68,0,none⟩) (x::l).length (big+68))=true
  simp[okV,Ut,hq,big]
theorem ZiE {q:Nat→Bool} (h:∀ l,l<67→q l=true) (rw:Bool) (zs:List UInt8) (f:Nat→Bool) (N m:Nat):OkH q (arR rw zs f N m):=by
 have:=Zan h rw zs f N m (l:=[]) trivial
 rwa [List.append_nil] at this
theorem ZKY (g:Nat) (zs:List UInt8) (f:Nat→Bool) (N m:Nat) (l:List Nat) (k:Nat):(rtS g zs f N m l k).Wf:=by
 cases l with
 | nil=>exact⟨by show 64≤67; omega,Sf.Ok.mk' 3 (ZiE (ltZ 67) false zs f N m) rfl (fun x hx=>by
   simp only[rtS,rtN,rtE,List.mem_cons,List.not_mem_nil,or_false] at hx
   rcases hx with rfl|rfl|rfl|rfl|rfl<;>rfl)⟩
 | cons x l=>exact⟨by show 64≤68; omega,Sf.Ok.mk' 3 ⟨⟨rfl,rfl,ZY (Z4 _)⟩,ZiE (fun l hl=>by show Nat.blt l 68=true; exact YW (by omega)) false zs f N m⟩ rfl (fun x hx=>by
   simp only[rtS,rtY,rtE,List.mem_cons,List.not_mem_nil,or_false] at hx
   rcases hx with rfl|rfl|rfl|rfl|rfl<;>rfl)⟩
theorem Zcp {h1:Sy.Heap} {p:Nat→Bool} {σ:Nat→Nat} (hp:∀ l,l<67→p l=true) (hs:∀ l,l<67→σ l=l) (zs:List UInt8) (f:Nat→Bool) (N m:Nat) (h66:Sy.look h1 66=some ⟨false,none,[.slice (some ⟨64,0,none⟩) N (big+64),.slice (some ⟨65,0,none⟩) m (big+65)],none⟩)
  (h65:Sy.look h1 65=some ⟨false,some (65,1),bls f m,none⟩) (h64:Sy.look h1 64=some ⟨false,some (64,1),u8s zs,none⟩):Vr 3 p σ h1 (arR false zs f N m):=by
 have hr:∀ l:List Value,(∀ w∈l,okV (fun l=>Nat.blt l 67) 3 w=true)→l.map (rnV σ 3)=l:=fun l hl=>by
  rw[List.map_congr_left (g:=id) (fun w hw=>Znc (p:=fun l=>Nat.blt l 67) (fun l hl=>hs l (by simpa using hl)) 3 w (hl w hw))]
  simp
 refine⟨⟨hp 66 (by omega),List.all_eq_true.2 (ZgC (hp 64 (by omega)) (hp 65 (by omega)) N m),rfl,?_⟩,⟨hp 65 (by omega),ZE (Q4 f m),hp 65 (by omega),?_⟩,⟨hp 64 (by omega),ZE (ZS zs),hp 64 (by omega),?_⟩,trivial⟩
 ·show match Sy.look h1 (σ 66) with|none=>False|some k1=>_
  rw[hs 66 (by omega),h66]; exact⟨rfl,rfl,trivial,(hr _ (ZgC rfl rfl N m)).symm⟩
 ·show match Sy.look h1 (σ 65) with|none=>False|some k1=>_
  rw[hs 65 (by omega),h65]
  refine⟨rfl,?_,trivial,(ZP (Q4 f m)).symm⟩
  show(opB (some (65,1)) (some (σ 65,1))||_)=true
  rw[hs 65 (by omega)]; rfl
 ·show match Sy.look h1 (σ 64) with|none=>False|some k1=>_
  rw[hs 64 (by omega),h64]
  refine⟨rfl,?_,trivial,(ZP (ZS _)).symm⟩
  show(opB (some (64,1)) (some (σ 64,1))||_)=true
  rw[hs 64 (by omega)]; rfl
theorem ZzW (f:Nat→Bool) (m i:Nat) (h:i<m) (b:Bool):Zz [Value.bool b] (bls f m) i=true:=by
 simp only[Zz,ZoV f m i h]; rfl
theorem ZvZ (g:Nat) (zs:List UInt8) (f:Nat→Bool) (N m:Nat) (hm:m≤100000) (_hg:g≤100000) :
  ∀ k:{ k:Nat // k≤m },Vh Tryz.prog 36 (Qe Tryz.prog 63 0) ((rtS g zs f N m (rtK f g k.1) k.1).fr 36) (.exit 0) ((rtF (rtK f g m)).fr 36):=by
 refine Zgq (L:=100) (Xb _ _ 63) (fun _ h=>h) (X:={ k:Nat // k≤m }) (fun k=>rtS g zs f N m (rtK f g k.1) k.1) (fun _=>rtF (rtK f g m)) (fun _ => .exit 0) (fun k=>m-k.1) (fun k=>ZKY _ _ _ _ _ _ _) ?_
 rintro⟨k,hk⟩
 have hbase:=Zm (P:=Tryz.prog) (L:=100) Zg (Zf _) (Zh _) 20
 have hroR:∀ (σ:Nat→Nat),(∀ l,l<67→σ l=l)→∀ y∈arR false zs f N m,σ y.1=y.1:=fun σ hσ y hy=>by
  simp only[arR,List.mem_cons,List.not_mem_nil,or_false] at hy
  rcases hy with rfl|rfl|rfl
  ·exact hσ 66 (by omega)
  ·exact hσ 65 (by omega)
  ·exact hσ 64 (by omega)
 by_cases hlt:k<m
 ·have e5:i64.wrap ((k:Int)+(1:Int))=((k+1:Nat):Int):=QV k (by omega)
  have e6:u32.wrap (i64.wrap ((16:Int)*(k:Int)))=((16*k:Nat):Int):=by rw[show(16:Int)*(k:Int)=((16*k:Nat):Int) by omega,XL _ (by omega),Kw _ (by omega)]
  have e7:i64.wrap ((k:Int).tdiv (16:Int))=((k/16:Nat):Int):=by rw[Vj,XL _ (by omega)]
  have d0:decide ((0:Int)≤(k:Int))=true:=lR (by omega)
  have hd:decide ((k:Int)<(m:Int))=true:=lR (by omega)
  have fl:=ZzW f m k hlt false
  have fh:WK (k+1) (bls f m)=true:=by rw[ZfM]; exact lR (by omega)
  have gb:Z0 (Zt undef (bls f m) k)=f k:=by rw[ZoV f m k hlt]; rfl
  have hlen:=ZvY f g k
  by_cases hL:rtK f g k=[]
  ·have hI:rtS g zs f N m (rtK f g k) k=rtN g zs f N m k:=by rw[hL]; rfl
   show ∃ call T e g' d p σ,Zs Tryz.prog call∧evC Tryz.prog call _ 36 100 _ (Sf.frT 36 (rtS g zs f N m (rtK f g k) k) T)=some (e,g')∧_
   rw[hI]
   by_cases hf:f k=true
   ·by_cases hq:k/16=g
    ·have hnext:rtK f g (k+1)=[16*k]:=by
      show(bif f k&&decide (k/16=g) then rtK f g k++[16*k] else rtK f g k)=_
      rw[hf,lR hq,hL]; rfl
     have hr:=ZKS.v g zs f N m k
     simp only[e5,e6,e7,tN,Nat.zero_add,Nat.mul_one,gb] at hr
     refine⟨_,_,.normal,_,3,fun l=>Nat.blt l 68,toσ 67 68,hbase,hr,?_,.inl ⟨rfl,⟨k+1,by omega⟩,by show m-(k+1)<m-k; omega,rfl,rfl,?_⟩⟩
     ·simp only[hd,d0,fl,fh,hf,hq,beq_self_eq_true,Bool.and_self,cond_true,and_true,true_and,and_self]
     ·show Sf.Leads 3 _ _ _ _ (rtS g zs f N m (rtK f g (k+1)) (k+1)) _
      rw[hnext]
      refine⟨fun l hl=>if_neg (by have:NG=64:=rfl; omega),⟨⟨rfl,ZE (Z4 _),rfl,?_⟩,Zcp (fun l hl=>by show Nat.blt l 68=true; exact YW (by omega)) (fun l hl=>if_neg (by omega)) zs f N m rfl rfl rfl⟩,rfl,⟨⟨rfl,?_⟩,⟨rfl,Nat.le_refl _⟩,⟨rfl,Nat.le_refl _⟩,trivial⟩,?_,by show 67≤68; omega,fun l hl=>QD hl,Zie _ _ (by show 67≤68; omega) _ _,fun y hy hrw => ?_⟩
      ·exact⟨rfl,rfl,trivial,by show _=List.map _ (ZcB _); rw[ZP (Z4 _)]; try rfl⟩
      ·exact Nat.le_refl _
      ·exact⟨⟨by kernel_rfl,by kernel_rfl⟩,⟨by kernel_rfl,by kernel_rfl⟩,⟨by kernel_rfl,by kernel_rfl⟩,⟨by kernel_rfl,by kernel_rfl⟩,⟨by kernel_rfl,by kernel_rfl⟩,trivial⟩
      ·rcases List.mem_cons.1 hy with rfl|hy
       ·cases hrw
       ·left; exact hroR (toσ 67 68) (fun l hl=>if_neg (by omega)) y hy
    ·have hnext:rtK f g (k+1)=[]:=by
      show(bif f k&&decide (k/16=g) then rtK f g k++[16*k] else rtK f g k)=_
      rw[dF hq,Bool.and_false]; exact hL
     have hbq:(((k/16:Nat):Int)==(g:Int))=false:=by rw[beq_eq_false_iff_ne]; omega
     have hr:=ZKR.v g zs f N m k
     simp only[e5,e6,e7,tN,Nat.zero_add,Nat.mul_one,gb] at hr
     refine⟨_,_,.normal,_,3,fun l=>Nat.blt l 67,id,hbase,hr,?_,.inl ⟨rfl,⟨k+1,by omega⟩,by show m-(k+1)<m-k; omega,rfl,rfl,?_⟩⟩
     ·simp only[hd,d0,fl,fh,hf,hbq,Bool.and_self,cond_true,and_true,true_and,and_self]
     ·show Sf.Leads 3 _ _ _ _ (rtS g zs f N m (rtK f g (k+1)) (k+1)) _
      rw[hnext]
      exact⟨fun _ _=>rfl,Zcp (ltZ 67) (fun _ _=>rfl) zs f N m rfl rfl rfl,rfl,⟨⟨rfl,Nat.le_refl _⟩,⟨rfl,Nat.le_refl _⟩,trivial⟩,⟨⟨by kernel_rfl,by kernel_rfl⟩,⟨by kernel_rfl,by kernel_rfl⟩,⟨by kernel_rfl,by kernel_rfl⟩,⟨by kernel_rfl,by kernel_rfl⟩,⟨by kernel_rfl,by kernel_rfl⟩,trivial⟩,Nat.le_refl _,fun l hl=>QD hl,Zie _ _ (by show 67≤68; omega) _ _,fun x _ _ => .inl rfl⟩
   ·have hf':f k=false:=by simpa using hf
    have hnext:rtK f g (k+1)=[]:=by
     show(bif f k&&decide (k/16=g) then rtK f g k++[16*k] else rtK f g k)=_
     rw[hf',Bool.false_and]; exact hL
    have hr:=ZKQ.v g zs f N m k
    simp only[e5,e6,e7,tN,Nat.zero_add,Nat.mul_one,gb] at hr
    refine⟨_,_,.normal,_,3,fun l=>Nat.blt l 67,id,hbase,hr,?_,.inl ⟨rfl,⟨k+1,by omega⟩,by show m-(k+1)<m-k; omega,rfl,rfl,?_⟩⟩
    ·simp only[hd,d0,fl,fh,hf',Bool.and_self,cond_true,and_true,true_and,and_self]
    ·show Sf.Leads 3 _ _ _ _ (rtS g zs f N m (rtK f g (k+1)) (k+1)) _
     rw[hnext]
     exact⟨fun _ _=>rfl,Zcp (ltZ 67) (fun _ _=>rfl) zs f N m rfl rfl rfl,rfl,⟨⟨rfl,Nat.le_refl _⟩,⟨rfl,Nat.le_refl _⟩,trivial⟩,⟨⟨by kernel_rfl,by kernel_rfl⟩,⟨by kernel_rfl,by kernel_rfl⟩,⟨by kernel_rfl,by kernel_rfl⟩,⟨by kernel_rfl,by kernel_rfl⟩,⟨by kernel_rfl,by kernel_rfl⟩,trivial⟩,Nat.le_refl _,fun l hl=>QD hl,Zie _ _ (by show 67≤68; omega) _ _,fun x _ _ => .inl rfl⟩
  ·have hI:rtS g zs f N m (rtK f g k) k=rtY g zs f N m (rtK f g k) k:=ZzV _ _ _ _ _ _ _ hL
   show ∃ call T e g' d p σ,Zs Tryz.prog call∧evC Tryz.prog call _ 36 100 _ (Sf.frT 36 (rtS g zs f N m (rtK f g k) k) T)=some (e,g')∧_
   rw[hI]
   by_cases hf:f k=true
   ·by_cases hq:k/16=g
    ·have hnext:rtK f g (k+1)=rtK f g k++[16*k]:=by
      show(bif f k&&decide (k/16=g) then rtK f g k++[16*k] else rtK f g k)=_
      rw[hf,lR hq]; rfl
     have hn1:(rtK f g k).length+1=(rtK f g k++[16*k]).length:=by rw[List.length_append]; rfl
     have hr:=ZKW.v g zs f N m (rtK f g k) k
     simp only[e5,e6,e7,tN,Nat.zero_add,Nat.mul_one,gb,Zoc] at hr
     refine⟨_,_,.normal,_,3,fun l=>Nat.blt l 68,toσ 67 69,hbase,hr,?_,.inl ⟨rfl,⟨k+1,by omega⟩,by show m-(k+1)<m-k; omega,rfl,rfl,?_⟩⟩
     ·show cond _ _ _
      rw[Qr,Zod,Nat.beq_refl]
      show cond _ _ _
      rw[Nat.ble_eq_true_of_le (by omega),YW (by omega)]
      simp only[hd,d0,fl,fh,hf,hq,beq_self_eq_true,Bool.and_self,cond_true,and_true,true_and,and_self]
     ·show Sf.Leads 3 _ _ _ _ (rtS g zs f N m (rtK f g (k+1)) (k+1)) _
      rw[hnext,ZzV _ _ _ _ _ _ _ (by simp)]
      refine⟨fun l hl=>if_neg (by have:NG=64:=rfl; omega),⟨⟨rfl,ZE (Z4 _),rfl,?_⟩,Zcp (fun l hl=>by show Nat.blt l 68=true; exact YW (by omega)) (fun l hl=>if_neg (by omega)) zs f N m rfl rfl rfl⟩,rfl,⟨⟨rfl,?_⟩,⟨rfl,Nat.le_refl _⟩,⟨rfl,Nat.le_refl _⟩,trivial⟩,?_,by show 68≤68; omega,fun l hl=>QD hl,Zie _ _ (by show 68≤68; omega) _ _,fun y hy hrw => ?_⟩
      ·exact⟨rfl,rfl,trivial,by show _=List.map _ (ZcB _); rw[ZP (Z4 _)]; try rfl⟩
      ·exact Nat.le_of_eq hn1.symm
      ·rw[hn1]; exact⟨⟨by kernel_rfl,by kernel_rfl⟩,⟨by kernel_rfl,by kernel_rfl⟩,⟨by kernel_rfl,by kernel_rfl⟩,⟨by kernel_rfl,by kernel_rfl⟩,⟨by kernel_rfl,by kernel_rfl⟩,trivial⟩
      ·rcases List.mem_cons.1 hy with rfl|hy
       ·cases hrw
       ·left; exact hroR (toσ 67 69) (fun l hl=>if_neg (by omega)) y hy
    ·have hnext:rtK f g (k+1)=rtK f g k:=by
      show(bif f k&&decide (k/16=g) then rtK f g k++[16*k] else rtK f g k)=_
      rw[dF hq,Bool.and_false]; rfl
     have hbq:(((k/16:Nat):Int)==(g:Int))=false:=by rw[beq_eq_false_iff_ne]; omega
     have hr:=ZKV.v g zs f N m (rtK f g k) k
     simp only[e5,e6,e7,tN,Nat.zero_add,Nat.mul_one,gb] at hr
     refine⟨_,_,.normal,_,3,fun l=>Nat.blt l 68,toσ 67 67,hbase,hr,?_,.inl ⟨rfl,⟨k+1,by omega⟩,by show m-(k+1)<m-k; omega,rfl,rfl,?_⟩⟩
     ·simp only[hd,d0,fl,fh,hf,hbq,Bool.and_self,cond_true,and_true,true_and,and_self]
     ·show Sf.Leads 3 _ _ _ _ (rtS g zs f N m (rtK f g (k+1)) (k+1)) _
      rw[hnext,ZzV _ _ _ _ _ _ _ hL]
      refine⟨fun l hl=>if_neg (by have:NG=64:=rfl; omega),⟨⟨rfl,ZE (Z4 _),rfl,?_⟩,Zcp (fun l hl=>by show Nat.blt l 68=true; exact YW (by omega)) (fun l hl=>if_neg (by omega)) zs f N m rfl rfl rfl⟩,rfl,⟨⟨rfl,?_⟩,⟨rfl,Nat.le_refl _⟩,⟨rfl,Nat.le_refl _⟩,trivial⟩,?_,by show 68≤68; omega,fun l hl=>QD hl,Zie _ _ (by show 68≤68; omega) _ _,fun y hy hrw => ?_⟩
      ·exact⟨rfl,rfl,trivial,by show _=List.map _ (ZcB _); rw[ZP (Z4 _)]; try rfl⟩
      ·exact Nat.le_refl _
      ·exact⟨⟨by kernel_rfl,by kernel_rfl⟩,⟨by kernel_rfl,by kernel_rfl⟩,⟨by kernel_rfl,by kernel_rfl⟩,⟨by kernel_rfl,by kernel_rfl⟩,⟨by kernel_rfl,by kernel_rfl⟩,trivial⟩
      ·rcases List.mem_cons.1 hy with rfl|hy
       ·cases hrw
       ·left; exact hroR (toσ 67 67) (fun l hl=>if_neg (by omega)) y hy
   ·have hf':f k=false:=by simpa using hf
    have hnext:rtK f g (k+1)=rtK f g k:=by
     show(bif f k&&decide (k/16=g) then rtK f g k++[16*k] else rtK f g k)=_
     rw[hf',Bool.false_and]; rfl
    have hr:=ZKU.v g zs f N m (rtK f g k) k
    simp only[e5,e6,e7,tN,Nat.zero_add,Nat.mul_one,gb] at hr
    refine⟨_,_,.normal,_,3,fun l=>Nat.blt l 68,toσ 67 67,hbase,hr,?_,.inl ⟨rfl,⟨k+1,by omega⟩,by show m-(k+1)<m-k; omega,rfl,rfl,?_⟩⟩
    ·simp only[hd,d0,fl,fh,hf',Bool.and_self,cond_true,and_true,true_and,and_self]
    ·show Sf.Leads 3 _ _ _ _ (rtS g zs f N m (rtK f g (k+1)) (k+1)) _
     rw[hnext,ZzV _ _ _ _ _ _ _ hL]
     refine⟨fun l hl=>if_neg (by have:NG=64:=rfl; omega),⟨⟨rfl,ZE (Z4 _),rfl,?_⟩,Zcp (fun l hl=>by show Nat.blt l 68=true; exact YW (by omega)) (fun l hl=>if_neg (by omega)) zs f N m rfl rfl rfl⟩,rfl,⟨⟨rfl,?_⟩,⟨rfl,Nat.le_refl _⟩,⟨rfl,Nat.le_refl _⟩,trivial⟩,?_,by show 68≤68; omega,fun l hl=>QD hl,Zie _ _ (by show 68≤68; omega) _ _,fun y hy hrw => ?_⟩
     ·exact⟨rfl,rfl,trivial,by show _=List.map _ (ZcB _); rw[ZP (Z4 _)]; try rfl⟩
     ·exact Nat.le_refl _
     ·exact⟨⟨by kernel_rfl,by kernel_rfl⟩,⟨by kernel_rfl,by kernel_rfl⟩,⟨by kernel_rfl,by kernel_rfl⟩,⟨by kernel_rfl,by kernel_rfl⟩,⟨by kernel_rfl,by kernel_rfl⟩,trivial⟩
     ·rcases List.mem_cons.1 hy with rfl|hy
      ·cases hrw
      ·left; exact hroR (toσ 67 67) (fun l hl=>if_neg (by omega)) y hy
 ·have hkk:k=m:=by omega
  subst hkk
  show ∃ call T e g' d p σ,Zs Tryz.prog call∧evC Tryz.prog call _ 36 100 _ (Sf.frT 36 (rtS g zs f N k (rtK f g k) k) T)=some (e,g')∧g'.s.O∧(_∨(e ≠ .normal∧e = .exit 0∧Sf.Leads d p σ (rtS g zs f N k (rtK f g k) k) g' (rtF (rtK f g k)) (rtF (rtK f g k))))
  generalize rtK f g k=L
  have hx:decide ((k:Int)<(k:Int))=false:=dF (by omega)
  cases L with
  | nil =>
   have hr:=ZKT.v g zs f N k k
   exact⟨_,_,.exit 0,_,3,fun l=>Nat.blt l 67,id,hbase,hr,⟨trivial,hx⟩,.inr ⟨by simp,rfl,⟨fun _ _=>rfl,trivial,rfl,trivial,⟨⟨by kernel_rfl,by kernel_rfl⟩,trivial⟩,Nat.le_refl _,fun l hl=>QD hl,Zie _ _ (by show 67≤68; omega) _ _,fun x hx=>by cases hx⟩⟩⟩
  | cons x l =>
   have hr:=ZKX.v g zs f N k (x::l) k
   refine⟨_,_,.exit 0,_,3,fun l=>Nat.blt l 69,toσ 68 67,hbase,hr,⟨trivial,hx⟩,.inr ⟨by simp,rfl,⟨fun l hl=>if_neg (by have:NG=64:=rfl; omega),⟨⟨rfl,ZE (Z4 _),rfl,?_⟩,trivial⟩,rfl,⟨⟨rfl,Nat.le_refl _⟩,trivial⟩,⟨⟨by kernel_rfl,by kernel_rfl⟩,trivial⟩,by show 68≤69; omega,fun l hl=>QD hl,Zie _ _ (by show 68≤68; omega) _ _,fun y hy hrw => ?_⟩⟩⟩
   ·exact⟨rfl,rfl,trivial,(ZP (Z4 _)).symm⟩
   ·obtain rfl:=List.mem_singleton.1 hy; cases hrw
def rtFy (tl:List Nat):Sf:=⟨69,[(5,.slice (some ⟨68,0,none⟩) tl.length (big+68))],[(68,rtP tl)],[(68,tl.length)]⟩
def ZN7 (g:Nat) (zs:List UInt8) (f:Nat→Bool) (N m:Nat) (tl:List Nat) (hm:m≤100000) (hg:g≤100000) (ht:rtK f g m=tl) (hne:tl≠[]):Ent Tryz.prog :=
 ZoO Tryz.prog 63 0 36 (rtN g zs f N m 0) (.exit 0) (rtFy tl) (by kernel_rfl) (by kernel_rfl) (by
  have:=ZvZ g zs f N m hm hg ⟨0,by omega⟩
  have e:rtF (rtK f g m)=rtFy tl:=by
   rw[ht]
   cases tl with
   | nil=>exact absurd rfl hne
   | cons x l=>rfl
  rw[e] at this
  exact this)
def ZN8 (g:Nat) (zs:List UInt8) (f:Nat→Bool) (N m:Nat) (hm:m≤100000) (hg:g≤100000) (ht:rtK f g m=[]):Ent Tryz.prog :=
 ZoO Tryz.prog 63 0 36 (rtN g zs f N m 0) (.exit 0) (rtF []) (by kernel_rfl) (by kernel_rfl) (by
  have:=ZvZ g zs f N m hm hg ⟨0,by omega⟩
  rw[ht] at this
  exact this)
def rtYC (g:Nat) (zs:List UInt8) (f:Nat→Bool) (N m:Nat) (tl:List Nat):Con:=⟨[.pointer (some ⟨66,0,none⟩),.int .i64 (g:Nat)],67,arR false zs f N m,Zf2 N m,.slice (some ⟨67,0,none⟩) tl.length (big+67),68,[(67,⟨false,some (0,0),ZcB tl,none⟩)],[]⟩
def rtNC (g:Nat) (zs:List UInt8) (f:Nat→Bool) (N m:Nat):Con:=⟨[.pointer (some ⟨66,0,none⟩),.int .i64 (g:Nat)],67,arR false zs f N m,Zf2 N m,.slice none 0 0,67,[],[]⟩
theorem ZEp (g:Nat) (zs:List UInt8) (f:Nat→Bool) (N:Nat) (m:Nat) (tl:List Nat) (hm:m≤100000) (hg:g≤100000) (ht:rtK f g m=tl) (hne:tl≠[]):evF Tryz.prog Zc (ZbL [ZN7 g zs f N m tl hm hg ht hne]) 100 40 63 [ZN,Z1 g] (Zgt 67 (ZjX zs f N m) (Zf2 N m) [] 0)=JC (Zcf tl.length) 69 [(68,Zh7 68 tl),(66,Zfr N m),(65,Zdi (65,1) f m),(64,Ku (64,1) zs)] [(68,tl.length),(65,m),(64,N)] 0 (Vt (X4 (Za0 Qc (Xc g) ZcW ZcW ZcH) (X4 (Ux (Yr N m)) (Wy (Zjl f m (bls f m))) (Wy (ZhJ zs zs))) (JO (m≤m) (N≤N)))):=by kernel_rfl
def ZN9:=Bx.mk (by have h:=@ZEp;simp(maxSteps:=99999999) only[Zx.v,ZD.v,ZO.v,X0.v,Zp.v,Zy.v,ZA.v,Uo.v,Zdo.v,ZvE.v,XN.v,Zeu.v,-eq_self] at h;exact h)
theorem ZEq (g:Nat) (zs:List UInt8) (f:Nat→Bool) (N:Nat) (m:Nat) (hm:m≤100000) (hg:g≤100000) (ht:rtK f g m=[]):obs (evF Tryz.prog Zc (ZbL [ZN8 g zs f N m hm hg ht]) 100 40 63 [ZN,Z1 g] (Zgt 67 (ZjX zs f N m) (Zf2 N m) [] 0))=Wj W2 (Vt (X4 (Za0 Qc (Xc g) ZcW ZcW ZcH) (X4 (Ux (Yr N m)) (Wy (Zjl f m (bls f m))) (Wy (ZhJ zs zs))) (JO (m≤m) (N≤N)))):=by kernel_rfl
def ZOa:=Bx.mk (by have h:=@ZEq;simp(maxSteps:=99999999) only[Zx.v,ZF.v,ZD.v,ZO.v,X0.v,Zp.v,Zy.v,ZA.v,ZvE.v,XN.v,-eq_self] at h;exact h)
theorem ZzX (g:Nat) (zs:List UInt8) (f:Nat→Bool) (N m:Nat) (tl:List Nat) (hm:m≤100000) (hg:g≤100000) (ht:rtK f g m=tl) (hne:tl≠[]):ConOk Tryz.prog 63 3 (rtYC g zs f N m tl):=by
 have hr:=ZN9.v g zs f N m tl hm hg ht hne
 refine Qn (Zm (L:=100) Zg (Zf _) (Wh _) 40) ⟨by show 64≤67; omega,by show 67≤68; omega,ZiE (ltZ 67) false zs f N m,rfl,rfl,rfl,rfl,rfl,fun x hx v hv => ?_⟩ hr ?_ (p:=fun l=>Nat.blt l 68) (σ:=toσ 67 68) ⟨fun l hl=>if_neg (by have:NG=64:=rfl; omega),⟨⟨rfl,ZE (Z4 _),rfl,?_⟩,trivial⟩,rfl,trivial,⟨rfl,by kernel_rfl⟩,rfl,⟨⟨rfl,rfl,ZY (Z4 _)⟩,trivial⟩,rfl,Q5 3 _ rfl,fun x hx hrw => ?_⟩
 ·obtain rfl:=List.mem_singleton.1 hx
  exact Yy (Z4 _ v hv) 3
 ·simp only[and_true,true_and,and_self,Nat.le_refl]
 ·exact⟨rfl,rfl,trivial,(ZP (Z4 _)).symm⟩
 ·obtain rfl:=List.mem_singleton.1 hx
  right; rfl
theorem ZzY (g:Nat) (zs:List UInt8) (f:Nat→Bool) (N m:Nat) (hm:m≤100000) (hg:g≤100000) (ht:rtK f g m=[]):ConOk Tryz.prog 63 3 (rtNC g zs f N m):=by
 have hr:=ZOa.v g zs f N m hm hg ht
 unfold obs at hr
 obtain⟨⟨v',s'⟩,h1,h2⟩:=oM hr
 simp only[Prod.mk.injEq] at h2
 obtain⟨rfl,h2⟩:=h2
 refine Qn (Zm (L:=100) Zg (Zf _) (Wh _) 40) ⟨by show 64≤67; omega,Nat.le_refl _,ZiE (ltZ 67) false zs f N m,rfl,rfl,rfl,rfl,rfl,fun x hx=>by cases hx⟩ h1 ?_ (p:=fun l=>Nat.blt l 67) (σ:=id) ⟨fun _ _=>rfl,trivial,rfl,trivial,⟨rfl,rfl⟩,rfl,trivial,rfl,Q5 3 _ rfl,fun x hx=>by cases hx⟩
 rw[h2]
 simp only[and_true,true_and,and_self,Nat.le_refl]
end Go.Proofs.YtagacmljbgkmoaaGreatDoor
namespace Go.Proofs.YtagacmljbgkmoaaGreatDoor.Sy
open Go.IntKind (u8 u16 u32 u64 i64)
open Go.RowKit
theorem ZzZ {P:Program} {nt L:Nat} {c:Code} {X:Type} (I F:X→Sf) (ex:X→Exit) (μ:X→Nat) (hI:∀ x,(I x).Wf)
  (hround:∀ x,∃ (call:QM) (lp:Zfz) (S:List Code) (T:List (Nat×Bool)) (e:Exit) (g:Fr) (d:Nat) (p:Nat→Bool) (σ:Nat→Nat),Zs P call∧Wg P S lp∧(∀ c'∈Wa c,c'∈S)∧evC P call lp nt L c ((I x).frT nt T)=some (e,g)∧g.s.O ∧
   ((e = .normal∧∃ y,μ y<μ x∧F y=F x∧ex y=ex x∧Sf.Leads d p σ (I x) g (I y) (F x))∨(e ≠ .normal∧e=ex x∧Sf.Leads d p σ (I x) g (F x) (F x)))) :
  ∀ x,Vh P nt c ((I x).fr nt) (ex x) ((F x).fr nt):=by
 have key:∀ m x,μ x=m→Vh P nt c ((I x).fr nt) (ex x) ((F x).fr nt):=by
  intro m
  induction m using Nat.strongRecOn with
  | _ m ih =>
   intro x hm r a w Q hf hwf hg hfr hQ
   obtain⟨call,lp,S,T,e,g,d,p,σ,hcall,hlp,hS0,hev,hO,hcase⟩:=hround x
   have hx:=hI x
   have hgl:=hg.low hx.ok.s
   have hfl:=hf.low (hx.ok.t nt)
   refine UX ?_
   refine(ZbF hcall hlp (ZlK hcall) L c _ _ _ hS0 hev hO (r.low (I x).n) a w _ hfl hwf (hgl.same rfl rfl) (Zgp hx.ng) ?_).1
   intro r1 a1 w1 T0 hf1
   have T1:To (r.low (I x).n) (I x).st w r1 g.s w1:=T0.start rfl rfl rfl
   rcases hcase with⟨rfl,y,hy1,hy2,hy3,hL⟩|⟨hne,rfl,hL⟩
   ·have hy:=hI y
    have hS:=ZeK hL.h hL.inj hL.lo
    have hgy:=hS.good hL.σ0 T1.good
    have hfy:=hL.l.fits hL.σ0 hf1
    have hfrY:WL (r1.by σ p) (I y).n (F y).n:=fun l hl _=>by
     have h1:Nat.blt l NG=false:=by
      cases h:Nat.blt l NG
      ·rfl
      ·have:=hy.ng; simp at h; omega
     show(Nat.blt l NG||(p l&&r1.d (σ l)))=false
     rw[h1,hL.pn l hl]; rfl
    refine ih (μ y) (by omega) y rfl (r1.by σ p) a1 w1 Q hfy hy.wfn hgy hfrY ?_
    rw[hy2,hy3]
    intro r3 a3 w3 T2 hf3
    obtain⟨T3,hv⟩:=T1.behind hg hx.ng hL.σ0 hS T2 hL.n hfr hL.keep.s (fun g k hk=>hL.ro _ (Qb hk))
    refine hQ _ a3 w3 T3 ⟨hf3.size,hf3.defers,fun t => ?_⟩
    rcases hL.keep.t nt t with h|h
    ·exact .inl h
    ·exact hv _ _ h (hf3.tmps t)
   ·have hS:=ZeK hL.h hL.inj hL.lo
    have hgy:=hS.good hL.σ0 T1.good
    have hfy:=hL.l.fits hL.σ0 hf1
    obtain⟨T3,hv⟩:=T1.behind hg hx.ng hL.σ0 hS (To.refl hgy) hL.n hfr hL.keep.s (fun g k hk=>hL.ro _ (Qb hk))
    have:=hQ _ a1 w1 T3 ⟨hfy.size,hfy.defers,fun t=>by
     rcases hL.keep.t nt t with h|h
     ·exact .inl h
     ·exact hv _ _ h (hfy.tmps t)⟩
    cases hex:ex x with
    | normal=>exact absurd hex hne
    | _=>rw[hex] at this; exact this
 exact fun x=>key _ x rfl
theorem Zz0 (b:Code):∀ c,c∈Wa b→∀ c'∈Wa c,c'∈Wa b:=by
 induction b with
 | seq a b iha ihb =>
  intro c h c' h'
  rcases List.mem_append.1 (show c∈Wa a++Wa b from h) with h1|h1
  ·exact List.mem_append_left _ (iha c h1 c' h')
  ·exact List.mem_append_right _ (ihb c h1 c' h')
 | cond x a b iha ihb =>
  intro c h c' h'
  rcases List.mem_append.1 (show c∈Wa a++Wa b from h) with h1|h1
  ·exact List.mem_append_left _ (iha c h1 c' h')
  ·exact List.mem_append_right _ (ihb c h1 c' h')
 | block n a ih=>exact fun c h c' h'=>ih c h c' h'
 | loop a ih =>
  intro c h c' h'
  rcases List.mem_cons.1 (show c∈a::Wa a from h) with rfl|h1
  ·exact List.mem_cons_of_mem _ h'
  ·exact List.mem_cons_of_mem _ (ih c h1 c' h')
 | _=>intro c h; cases h
theorem Zoi {α:Type} (d:α):∀ (l:List α) (i:Nat),i<l.length→Zt d l i∈l
 | [],i,h=>by simp at h
 | x::l,0,_=>List.mem_cons_self ..
 | x::l,i+1,h=>List.mem_cons_of_mem _ (Zoi d l i (by simp at h; omega))
theorem ZEr {P:Program} {f:FuncId} {i:Nat} (h:Nat.blt i (Yf (Wa (KN P f)))=true) (l:List (Ent P)) :
  Wg P (Wa (KN P f)) (ZbL l f)∧∀ c'∈Wa (Qe P f i),c'∈Wa (KN P f):=by
 have hi:i<(Wa (KN P f)).length:=by rw[Qr] at h; simpa using h
 refine⟨?_,fun c' hc'=>Zz0 _ _ (Zoi _ _ i hi) c' hc'⟩
 cases h1:(P.funcs[f]?).bind (·.body) with
 | none =>
  have hb:KN P f = .skip:=by unfold KN; rw[h1]
  rw[hb] at hi
  exact absurd hi (by simp[Wa])
 | some c =>
  have hb:KN P f=c:=by unfold KN; rw[h1]
  obtain⟨fn,h2,h3⟩:=oB h1
  rw[hb]
  exact Wh l f fn c h2 h3
end Go.Proofs.YtagacmljbgkmoaaGreatDoor.Sy
namespace Go.Proofs.YtagacmljbgkmoaaGreatDoor
open Go.IntKind (u8 u16 u32 u64 i64)
open Go.RowKit
open Sy
set_option maxRecDepth 100000
theorem Zv0 (f:Nat→Bool) (g:Nat):∀ k,tgK f g k=[]→∀ i,i<k→f (16*g+i)=false
 | 0,_,_,h=>absurd h (Nat.not_lt_zero _)
 | k+1,h,i,hi=>by
  unfold tgK at h
  cases hf:f (16*g+k)
  ·rw[hf] at h
   rcases Nat.lt_or_ge i k with h1|h1
   ·exact Zv0 f g k h i h1
   ·rw[show i=k by omega]; exact hf
  ·rw[hf] at h
   have:tgK f g k++[(16*g+k)*16]=[]:=h
   simp at this
def arS (zs:List UInt8) (f:Nat→Bool) (N m:Nat):Sy.Heap:=[(70,⟨false,none,[.slice (some ⟨68,0,none⟩) N (big+68),.slice (some ⟨69,0,none⟩) m (big+69)],none⟩),(69,⟨false,some (69,1),bls f m,none⟩),(68,⟨false,some (68,1),u8s zs,none⟩)]
def saH (zs:List UInt8) (f:Nat→Bool) (N m n:Nat):Sy.Heap:=arW false zs f N m n++arS zs f N m
def saO (N m n:Nat):List (Nat×Nat):=arO N n++[(69,m),(68,N)]
def saE (g:Nat):List (Nat×Value):=[(0,.pointer (some ⟨67,0,none⟩)),(1,.pointer (some ⟨70,0,none⟩)),(4,.bool false),(7,.int .i64 (g:Nat))]
def sbI (g:Nat) (tl:List Nat) (k:Nat):Sf:=⟨73,saE g++[(8,.slice (some ⟨71,0,none⟩) tl.length (big+71)),(9,.slice (some ⟨72,0,none⟩) tl.length (big+72)),(10,.int .i64 (k:Nat))],[(71,⟨false,some (0,0),ZcB tl,none⟩),(72,⟨false,some (0,0),ZcB tl,none⟩)],[]⟩
def saI (zs:List UInt8) (f:Nat→Bool) (N m n:Nat) (k:Nat):Sf:=⟨71,saE k,saH zs f N m n,saO N m n⟩
def Zj4:=Ze1 70
def Zq9 (a:Nat):=ZfJ 71 0 a 9223372036854775879
def Zra (a:Nat):=ZfJ 72 0 a 9223372036854775880
def Zev:=Bx.mk (aI @Zj4.eq_1 (aI @Zq9.eq_1 @Zra.eq_1))
theorem ZKZ (g:Nat) (tl:List Nat) (k:Nat):Option.map (Zei 59 [0,1,4,7,8,9,10] [71,72]) (evC Tryz.prog (evF Tryz.prog Zc Zb 100 20) (Zb 24) 59 100 (Qe Tryz.prog 24 1) (Sf.frT 59 (sbI g tl k) [KR,ZbS]))=ZaC 59 [(0,QG),(1,Zj4),(4,Xe),Ql 7 g,(8,Zq9 tl.length),(9,Zra tl.length),VQ 10 k] 73 [(71,KX (0,0) (ZcB tl)),(72,KX (0,0) (ZcB tl))] [] 0 (QF (Zpu (Jd (YZ k+1) (ZcB tl) ZqX (YZ k)) (KQ k&&Xw k tl.length) (Vt (Xw k tl.length=true))) (JF (ZcB tl) (YZ k) !=JF (ZcB tl) (YZ k))):=by kernel_rfl
def q1_a:=Bx.mk (by have h:=@ZKZ;simp(maxSteps:=99999999) only[Zx.v,ZD.v,ZU.v,X0.v,ZR.v,Ud.v,Zo.v,ZA.v,ZcV.v,Uo.v,ZAW.v,UT.v,Zev.v,-eq_self] at h;exact h)
theorem ZK0 (g:Nat) (tl:List Nat) (k:Nat):Option.map (Zei 59 [0,1,4,7] []) (evC Tryz.prog (evF Tryz.prog Zc Zb 100 20) (Zb 24) 59 100 (Qe Tryz.prog 24 1) (Sf.frT 59 (sbI g tl k) [W1]))=some (Exit.exit 2,Zc1 59 [(0,QG),(1,Zj4),(4,Xe),Ql 7 g] 73 [] [] 0 (Uc (Xw k tl.length))):=by kernel_rfl
def q1_e:=Bx.mk (by have h:=@ZK0;simp(maxSteps:=99999999) only[Zx.v,ZD.v,ZU.v,X0.v,Ud.v,UT.v,Zev.v,-eq_self] at h;exact h)
theorem ZK1 (zs:List UInt8) (f:Nat→Bool) (N:Nat) (m:Nat) (n:Nat) (k:Nat):Option.map (Zei 59 [] []) (evC Tryz.prog (evF Tryz.prog Zc Zb 100 20) (Zb 24) 59 100 (Qe Tryz.prog 24 0) (Sf.frT 59 (saI zs f N m n k) [W1]))=some (Ze7,Zc1 59 [] 71 [] [(65,n),(64,N),(69,m),(68,N)] 0 (Uc (US k))):=by kernel_rfl
def q0_e:=Bx.mk (by have h:=@ZK1;simp(maxSteps:=99999999) only[Zx.v,ZD.v,X0.v,Ud.v,Uo.v,-eq_self] at h;exact h)
def XX:=QR Zj4
def Zg5:=Bx.mk @XX.eq_1
theorem ZK2 (zs:List UInt8) (f:Nat→Bool) (N:Nat) (m:Nat) (n:Nat) (k:Nat):Option.map (Zei 59 [0,1,4,7] [64,65,66,67,68,69,70]) (evC Tryz.prog (evF Tryz.prog (Zk 3 (Za [(71,47,ZLI k zs f N m n,[64,65,66,67]),(71,63,rtNC k zs f N m,[68,69,70])]) Zc) Zb 100 20) (Zb 24) 59 100 (Qe Tryz.prog 24 0) (Sf.frT 59 (saI zs f N m n k) [KR]))=ZaC 59 [(0,QG),(1,Zj4),(4,Xe),VQ 7 k] 71 [(67,Zfl N),(66,ZbQ m n),(65,KX (65,1) (ZdU f n)),(64,Ku (64,1) zs),(70,Zjf [Zcf N,Kv m]),(69,Zdi (69,1) f m),(68,Ku (68,1) zs)] [(65,n),(64,N),(69,m),(68,N)] 0 (Qg (Qz (Vt (US k=true)) (JO Yq (Xc k)) (YK N m n (QP f n (fun l=>l.blt 68) 71) zs (fun l=>l.blt 68) 71 [64,65,66,67]) n N) (JO XX (Xc k)) [Zcf N,Kv m] (XF f m (fun l=>l.blt 67) (JG 71 68 69 70 f m)) zs (fun l=>l.blt 67) 71 [68,69,70] m N):=by kernel_rfl
def q0_n:=Bx.mk (by have h:=@ZK2;simp(maxSteps:=99999999) only[Zx.v,ZD.v,ZO.v,ZU.v,ZR.v,Ud.v,Zp.v,ZH.v,Zl.v,Zo.v,ZA.v,Uo.v,ZfV.v,Zdo.v,Zeu.v,Zev.v,Zg5.v,-eq_self] at h;exact h)
namespace Sy
open Go.IntKind (u8 u16 u32 u64 i64)
theorem Zz1 {P:Program} {nt L:Nat} {c:Code} {X:Type} (I F:X→Sf) (ex:X→Exit) (μ:X→Nat) (hI:∀ x,(I x).Wf)
  (hround:∀ x,∃ (call:QM) (lp:Zfz) (S:List Code) (T:List (Nat×Bool)) (ts ls:List Nat) (e:Exit) (g:Fr) (d:Nat) (p:Nat→Bool) (σ:Nat→Nat),Zs P call∧Wg P S lp∧(∀ c'∈Wa c,c'∈S)∧(evC P call lp nt L c ((I x).frT nt T)).map (Zei nt ts ls)=some (e,g)∧g.s.O ∧
   ((e = .normal∧∃ y,μ y<μ x∧F y=F x∧ex y=ex x∧((I y).e.all fun z=>inN z.1 ts)=true∧Sf.Leads d p σ (I x) g (I y) (F x))∨(e ≠ .normal∧e=ex x∧((F x).e.all fun z=>inN z.1 ts)=true∧Sf.Leads d p σ (I x) g (F x) (F x)))) :
  ∀ x,Vh P nt c ((I x).fr nt) (ex x) ((F x).fr nt):=by
 refine ZzZ (L:=L) I F ex μ hI fun x => ?_
 obtain⟨call,lp,S,T,ts,ls,e,g,d,p,σ,hcall,hlp,hS,hev,hO,hc⟩:=hround x
 obtain⟨y,h1,h2⟩:=oM hev
 have e1:e=(Zei nt ts ls y).1:=by rw[h2]
 have e2:g=(Zei nt ts ls y).2:=by rw[h2]
 subst e1
 subst e2
 refine⟨call,lp,S,T,y.1,y.2,d,p,σ,hcall,hlp,hS,h1,hO,?_⟩
 rcases hc with⟨a,z,b1,b2,b3,b4,b5⟩|⟨a,b1,b4,b5⟩
 ·exact .inl ⟨a,z,b1,b2,b3,b5.uncut b4⟩
 ·exact .inr ⟨a,b1,b5.uncut b4⟩
end Sy
end Go.Proofs.YtagacmljbgkmoaaGreatDoor
namespace Go.Proofs.YtagacmljbgkmoaaGreatDoor
open Go.IntKind (u8 u16 u32 u64 i64)
open Go.RowKit
open Sy
set_option maxRecDepth 100000
def sbF (g:Nat):Sf:=⟨73,saE g,[],[]⟩
theorem Zv1 {q:Nat→Bool} (h:∀ l,l<71→q l=true) (g:Nat):∀ x∈saE g,okV q 3 x.2=true:=fun x hx=>by
 have h7:=h 67 (by omega)
 have h8:=h 70 (by omega)
 simp only[saE,List.mem_cons,List.not_mem_nil,or_false] at hx
 rcases hx with rfl|rfl|rfl|rfl<;>simp[okV,Ut,h7,h8,Qm]
theorem ZA3 (g:Nat):(sbF g).Ok (XP 73 73 id (fun l=>Nat.blt l 73)) :=
 Sf.Ok.mk' 3 trivial rfl (Zv1 (fun l hl=>Zjk 73 l (by omega)) g)
theorem ZEs (g:Nat) (tl:List Nat) (hl:tl.length≤16) :
  ∀ k:{ k:Nat // k≤tl.length },Vh Tryz.prog 59 (Qe Tryz.prog 24 1) ((sbI g tl k.1).fr 59) (.exit 2) ((sbF g).fr 59):=by
 refine Zbg (L:=100) (Xb _ _ 24) (fun _ h=>h) (X:={ k:Nat // k≤tl.length }) (fun k=>sbI g tl k.1) (fun _=>sbF g) (fun _ => .exit 2) (fun k=>tl.length-k.1) (fun k => ?_) ?_
 ·exact⟨by show 64≤73; omega,Sf.Ok.mk' 3 ⟨⟨rfl,rfl,ZY (Z4 tl)⟩,⟨rfl,rfl,ZY (Z4 tl)⟩,trivial⟩ rfl (fun x hx=>by
   rw[show(sbI g tl k.1).e=saE g++[(8,.slice (some ⟨71,0,none⟩) tl.length (big+71)),(9,.slice (some ⟨72,0,none⟩) tl.length (big+72)),(10,.int .i64 (k.1:Nat))] from rfl,List.mem_append] at hx
   rcases hx with hx|hx
   ·exact Zv1 (fun l hl=>by show Nat.blt l 73=true; exact YW (by omega)) g x hx
   ·simp only[List.mem_cons,List.not_mem_nil,or_false] at hx
    rcases hx with rfl|rfl|rfl<;>rfl)⟩
 rintro⟨k,hk⟩
 by_cases hlt:k<tl.length
 ·have hr:=q1_a.v g tl k
  have e5:i64.wrap ((k:Int)+(1:Int))=((k+1:Nat):Int):=QV k (by omega)
  simp only[e5,tN,Nat.zero_add,Nat.mul_one] at hr
  refine⟨_,_,_,_,.normal,_,3,fun l=>Nat.blt l 73,id,Zm (L:=100) Zg (Zf _) (Zh _) 20,hr,?_,.inl ⟨rfl,⟨k+1,by omega⟩,by show tl.length-(k+1)<tl.length-k; omega,rfl,rfl,rfl,?_⟩⟩
  ·simp(disch:=omega) only[ZwK,Zts,bne_self_eq_false,lR,Bool.and_self,cond_true,and_true,true_and,and_self]
  ·exact⟨fun _ _=>rfl,⟨⟨rfl,ZE (Z4 tl),rfl,rfl,rfl,trivial,(ZP (Z4 tl)).symm⟩,⟨rfl,ZE (Z4 tl),rfl,rfl,rfl,trivial,(ZP (Z4 tl)).symm⟩,trivial⟩,rfl,trivial,by repeat' (first|exact trivial|refine⟨⟨by kernel_rfl,by kernel_rfl⟩,?_⟩),Nat.le_refl _,fun l hl=>QD hl,ZA3 g,fun x _ _ => .inl rfl⟩
 ·have hkk:k=tl.length:=by omega
  subst hkk
  have hr:=q1_e.v g tl tl.length
  refine⟨_,_,_,_,.exit 2,_,3,fun l=>Nat.blt l 73,id,Zm (L:=100) Zg (Zf _) (Zh _) 20,hr,?_,.inr ⟨by simp,rfl,rfl,?_⟩⟩
  ·exact⟨trivial,dF (by omega)⟩
  ·exact⟨fun _ _=>rfl,trivial,rfl,trivial,by repeat' (first|exact trivial|refine⟨⟨by kernel_rfl,by kernel_rfl⟩,?_⟩),Nat.le_refl _,fun l hl=>QD hl,ZA3 g,fun x hx=>by cases hx⟩
def ZK3 (g:Nat) (tl:List Nat) (hl:tl.length≤16):Ent Tryz.prog :=
 ZoO Tryz.prog 24 1 59 (sbI g tl 0) (.exit 2) (sbF g) (by kernel_rfl) (by kernel_rfl) (ZEs g tl hl ⟨0,Nat.zero_le _⟩)
theorem ZK4 (zs:List UInt8) (f:Nat→Bool) (N:Nat) (m:Nat) (n:Nat) (k:Nat) (tl:List Nat) (hl:tl.length≤16):Option.map (Zei 59 [0,1,4,7] [64,65,66,67,68,69,70]) (evC Tryz.prog (evF Tryz.prog (Zk 3 (Za [(71,47,ZNf k zs f N m n tl,[64,65,66,67]),(72,63,rtYC k zs f N m tl,[68,69,70])]) Zc) Zb 100 20) (ZbL [ZK3 k tl hl] 24) 59 100 (Qe Tryz.prog 24 0) (Sf.frT 59 (saI zs f N m n k) [KR,ZbS]))=ZaC 59 [(0,QG),(1,Zj4),(4,Xe),VQ 7 k] 73 [(67,Zfl N),(66,ZbQ m n),(65,KX (65,1) (ZdU f n)),(64,Ku (64,1) zs),(70,Zjf [Zcf N,Kv m]),(69,Zdi (69,1) f m),(68,Ku (68,1) zs)] [(65,n),(64,N),(69,m),(68,N)] 0 (ZB4 (QF (Qg (Qz (Vt (US k=true)) (JO Yq (Xc k)) (YK N m n (QP f n (fun l=>l.blt 68) 71) zs (fun l=>l.blt 68) 71 [64,65,66,67]) n N) (JO XX (Xc k)) [Zcf N,Kv m] (XF f m (fun l=>l.blt 67) (JG 72 68 69 70 f m)) zs (fun l=>l.blt 67) 72 [68,69,70] m N) (ZnL tl.length (QW tl.length))) (Yq∧XX∧Za0 (QR Xe) (Xc k) (QR (Zq9 tl.length)) (QR (Zra tl.length)) ZcH) (JO (Ux (ZcB tl)) (Ux (ZcB tl))) True):=by kernel_rfl
def q0_y:=Bx.mk (by have h:=@ZK4;simp(maxSteps:=99999999) only[Zx.v,ZD.v,ZO.v,ZU.v,X0.v,ZR.v,Ud.v,Zp.v,ZH.v,Zl.v,Zo.v,Ym.v,ZA.v,Uo.v,ZfV.v,Zdo.v,Zeu.v,Zev.v,Zg5.v,-eq_self] at h;exact h)
def saF:Sf:=⟨71,[],[],[]⟩
theorem Zrb {q:Nat→Bool} (h4:q 68=true) (h5:q 69=true) (N m:Nat):∀ v∈([.slice (some ⟨68,0,none⟩) N (big+68),.slice (some ⟨69,0,none⟩) m (big+69)]:List Value),okV q 3 v=true:=by
 intro v hv
 simp only[List.mem_cons,List.not_mem_nil,or_false] at hv
 rcases hv with rfl|rfl<;>simp[okV,Ut,h4,h5,Qm,big]
theorem ZA4 {q:Nat→Bool} (h:∀ l,l<71→q l=true) (zs:List UInt8) (f:Nat→Bool) (N m n:Nat):OkH q (saH zs f N m n) :=
 have hc:=WI (q:=q) (fun l hl=>h l (by omega)) N m n
 ⟨⟨h 67 (by omega),rfl,fun v hv=>Q5 3 v (hc.1 v hv)⟩,⟨h 66 (by omega),rfl,fun v hv=>Q5 3 v (hc.2 v hv)⟩,⟨h 65 (by omega),h 65 (by omega),ZY (Qp _)⟩,⟨h 64 (by omega),h 64 (by omega),ZY (ZS zs)⟩,
  ⟨h 70 (by omega),rfl,fun v hv=>Q5 3 v (Zrb (h 68 (by omega)) (h 69 (by omega)) N m v hv)⟩,⟨h 69 (by omega),h 69 (by omega),ZY (Q4 f m)⟩,⟨h 68 (by omega),h 68 (by omega),ZY (ZS zs)⟩,trivial⟩
theorem Zrc (zs:List UInt8) (f:Nat→Bool) (N m n:Nat):Vr 3 (fun l=>Nat.blt l 71) id (saH zs f N m n) (saH zs f N m n):=by
 have hc:=WI (q:=fun l=>Nat.blt l 71) (fun l hl=>YW (by omega)) N m n
 have hm:∀ l:List Value,l=l.map (rnV id 3):=fun l=>(Wx _ rfl l).symm
 exact⟨⟨rfl,List.all_eq_true.2 hc.1,rfl,rfl,rfl,trivial,hm _⟩,⟨rfl,List.all_eq_true.2 hc.2,rfl,rfl,rfl,trivial,hm _⟩,⟨rfl,ZE (Qp _),rfl,rfl,rfl,trivial,hm _⟩,⟨rfl,ZE (ZS zs),rfl,rfl,rfl,trivial,hm _⟩,
  ⟨rfl,List.all_eq_true.2 (Zrb rfl rfl N m),rfl,rfl,rfl,trivial,hm _⟩,⟨rfl,ZE (Q4 f m),rfl,rfl,rfl,trivial,hm _⟩,⟨rfl,ZE (ZS zs),rfl,rfl,rfl,trivial,hm _⟩,trivial⟩
theorem Zv2:saF.Ok (XP 71 71 id (fun l=>Nat.blt l 71)):=Sf.Ok.mk' 3 trivial rfl (fun x hx=>by cases hx)
theorem ZEt (zs:List UInt8) (f:Nat→Bool) (N m n p:Nat) (h:ArOk zs N m n) (hN:N=p*256) (hm:m=p*16) (hp:p≤1024∧p=16) :
  ∀ k:{ k:Nat // k≤p },Vh Tryz.prog 59 (Qe Tryz.prog 24 0) ((saI zs f N m n k.1).fr 59) (.exit 0) (saF.fr 59):=by
 have f1:∀ p,(u8s zs).all (okV p 3)=true:=fun p=>ZE (ZS _)
 have f2:∀ σ,(u8s zs).map (rnV σ 3)=u8s zs:=fun σ=>ZP (ZS _)
 have f3:∀ (p:Nat→Bool),(bls f m).all (okV p 3)=true:=fun p=>ZE (Q4 f m)
 have f4:∀ (σ:Nat→Nat),(bls f m).map (rnV σ 3)=bls f m:=fun σ=>ZP (Q4 f m)
 have v1:∀ (σ:Nat→Nat),(v64 (Zd f n)).map (rnV σ 3)=v64 (Zd f n):=fun σ=>ZP (Qp _)
 have v2:∀ (p:Nat→Bool),(v64 (Zd f n)).all (okV p 3)=true:=fun p=>ZE (Qp _)
 have e6:i64.wrap ((N:Int).tdiv (256:Int))=(p:Int):=by rw[show(N:Int).tdiv (256:Int)=((N/256:Nat):Int) from(Int.ofNat_tdiv N 256).symm,XL _ (by omega)]; omega
 refine Zz1 (L:=100) (X:={ k:Nat // k≤p }) (fun k=>saI zs f N m n k.1) (fun _=>saF) (fun _ => .exit 0) (fun k=>p-k.1) (fun k => ?_) ?_
 ·exact⟨by show 64≤71; omega,Sf.Ok.mk' 3 (ZA4 (ltZ 71) zs f N m n) rfl (Zv1 (ltZ 71) _)⟩
 rintro⟨k,hk⟩
 by_cases hlt:k<p
 ·have e5:i64.wrap ((k:Int)+(1:Int))=((k+1:Nat):Int):=QV k (by omega)
  have hrt:rtK f k m=tgK f k 16:=by
   have:=ZA2 f k (m-(16*k+16))
   rwa [show 16*k+16+(m-(16*k+16))=m by omega] at this
  cases hL:tgK f k 16 with
  | nil =>
   have hr:=q0_n.v zs f N m n k
   simp only[e5,e6] at hr
   refine⟨_,_,Wa (Qe Tryz.prog 24 0),_,_,_,.normal,_,3,fun l=>Nat.blt l 71,id,Zm (L:=100) Zg (Zn (Zj fun x hx=>by
    simp only[List.mem_cons,List.not_mem_nil,or_false] at hx
    rcases hx with rfl|rfl
    ·exact Zuz k zs f N m n h (by omega) (Zv0 f k 16 hL)
    ·exact⟨ZzY k zs f N m (by omega) (by omega) (hrt.trans hL),⟨fun x hx=>by cases hx⟩⟩) (Zf _)) (Zh _) 20,Xb _ _ 24,fun _ h=>h,hr,?_,.inl ⟨rfl,⟨k+1,by omega⟩,by show p-(k+1)<p-k; omega,rfl,rfl,rfl,?_⟩⟩
   ·simp(disch:=omega) only[f1,f2,f3,f4,v1,v2,lR,dF,qT4.v,cond_true]
   ·exact⟨fun _ _=>rfl,Zrc zs f N m n,rfl,⟨⟨rfl,Nat.le_refl _⟩,⟨rfl,Nat.le_refl _⟩,⟨rfl,Nat.le_refl _⟩,⟨rfl,Nat.le_refl _⟩,trivial⟩,by repeat' (first|exact trivial|refine⟨⟨by kernel_rfl,by kernel_rfl⟩,?_⟩),Nat.le_refl _,fun l hl=>QD hl,Zv2,fun x _ _ => .inl rfl⟩
  | cons y tl =>
   have hl16:(y::tl).length≤16:=by rw[← hL]; exact ZjV _ _ _
   have hr:=q0_y.v zs f N m n k (y::tl) hl16
   simp only[e5,e6] at hr
   have hn:=ZEr (P:=Tryz.prog) (f:=24) (i:=0) (by kernel_rfl) [ZK3 k (y::tl) hl16]
   refine⟨_,_,_,_,_,_,.normal,_,3,fun l=>Nat.blt l 71,id,Zm (L:=100) Zg (Zn (Zj fun x hx=>by
    simp only[List.mem_cons,List.not_mem_nil,or_false] at hx
    rcases hx with rfl|rfl
    ·exact⟨ZvF k zs f N m n _ h (by omega) hL (by simp),⟨fun x hx _=>by obtain rfl:=List.mem_singleton.1 hx; exact Z4 _⟩⟩
    ·exact⟨ZzX k zs f N m _ (by omega) (by omega) (hrt.trans hL) (by simp),⟨fun x hx _=>by obtain rfl:=List.mem_singleton.1 hx; exact Z4 _⟩⟩) (Zf _)) (Zh _) 20,hn.1,hn.2,hr,?_,.inl ⟨rfl,⟨k+1,by omega⟩,by show p-(k+1)<p-k; omega,rfl,rfl,rfl,?_⟩⟩
   ·simp(disch:=omega) only[f1,f2,f3,f4,v1,v2,bne_self_eq_false,lR,dF,qT4.v,cond_true]
   ·exact⟨fun _ _=>rfl,Zrc zs f N m n,rfl,⟨⟨rfl,Nat.le_refl _⟩,⟨rfl,Nat.le_refl _⟩,⟨rfl,Nat.le_refl _⟩,⟨rfl,Nat.le_refl _⟩,trivial⟩,by repeat' (first|exact trivial|refine⟨⟨by kernel_rfl,by kernel_rfl⟩,?_⟩),Nat.le_refl _,fun l hl=>QD hl,Zv2,fun x _ _ => .inl rfl⟩
 ·have hkk:k=p:=by omega
  subst hkk
  have hr:=q0_e.v zs f N m n k
  refine⟨_,_,Wa (Qe Tryz.prog 24 0),_,_,_,.exit 0,_,3,fun l=>Nat.blt l 71,id,Zm (L:=100) Zg (Zf _) (Zh _) 20,Xb _ _ 24,fun _ h=>h,hr,?_,.inr ⟨by simp,rfl,rfl,?_⟩⟩
  ·exact⟨trivial,dF (by omega)⟩
  ·exact⟨fun _ _=>rfl,trivial,rfl,trivial,trivial,Nat.le_refl _,fun l hl=>QD hl,Zv2,fun x hx=>by cases hx⟩
def ZOb (zs:List UInt8) (f:Nat→Bool) (N m n p:Nat) (h:ArOk zs N m n) (hN:N=p*256) (hm:m=p*16) (hp:p≤1024∧p=16):Ent Tryz.prog :=
 ZoO Tryz.prog 24 0 59 (saI zs f N m n 0) (.exit 0) saF (by kernel_rfl) (by kernel_rfl) (ZEt zs f N m n p h hN hm hp ⟨0,Nat.zero_le _⟩)
def Zif (a b c d:Prop):=Za0 a b c d b
def Zj5:=Bx.mk @Zif.eq_1
theorem ZK5 (zs:List UInt8) (zs':List UInt8) (f:Nat→Bool) (N:Nat) (m:Nat) (n:Nat) (p:Nat) (h:ArOk zs N m n) (hN:N=p*256) (hm:m=p*16) (hp:p≤1024∧p=16):obs (evF Tryz.prog (Zk 3 (Za [(71,19,Zqz [QG,KC,Z1 N] (ZfK [YX zs',QB]) zs f N m n,[64,65,66,67])]) Zc) (ZbL [ZOb zs f N m n p h hN hm hp]) 100 40 24 [QG,Zj4] (Zgt 71 (saH zs f N m n) (saO N m n) [ZkI 15] 0))=Wj QB (Vl (QF (ZaM ((Jn N 0 (u8s zs)).all Zwj) (WK (0+N) (u8s zs)) (Zfa (Vl (X4 Yq (QR KC) (Xc N)) (YK N m n (QP f n (fun l=>l.blt 68) 71) zs (fun l=>l.blt 68) 71 [64,65,66,67]) (QO n) (QO N)))) (!Zv zs' (List.map ZAd (Jn N 0 (u8s zs))))) (Vl Yq XX (QR Xe) ZcH) (Wy (Zmk N)∧Wy (Zmj m n)∧Zif (Wy (ZnF f n (ZdU f n))) (Wy (ZhJ zs zs)) (Ux [Zcf N,Kv m]) (Wy (Zjl f m (bls f m)))) (Vl (n≤n) (N≤N) (m≤m) (N≤N))):=by kernel_rfl
def q0_s:=Bx.mk (by have h:=@ZK5;simp(maxSteps:=99999999) only[Zx.v,ZF.v,ZD.v,ZO.v,ZU.v,X0.v,ZR.v,Zp.v,ZH.v,Zo.v,ZA.v,ZfV.v,Zdo.v,Zev.v,Zg5.v,Zj5.v,-eq_self] at h;exact h)
def saC (zs:List UInt8) (f:Nat→Bool) (N m n:Nat):Con:=⟨[.pointer (some ⟨67,0,none⟩),.pointer (some ⟨70,0,none⟩)],71,saH zs f N m n,saO N m n,.bool true,71,[],[]⟩
theorem ZK6 (zs:List UInt8) (f:Nat→Bool) (N m n p:Nat) (h:ArOk zs N m n) (hN:N=p*256) (hm:m=p*16) (hp:p≤1024∧p=16) (hp1:1≤p):ConOk Tryz.prog 24 3 (saC zs f N m n)∧FlatC (saC zs f N m n):=by
 have hr:=q0_s.v zs zs f N m n p h hN hm hp
 have f1:∀ p,(u8s zs).all (okV p 3)=true:=fun p=>ZE (ZS _)
 have f2:∀ σ,(u8s zs).map (rnV σ 3)=u8s zs:=fun σ=>ZP (ZS _)
 have v1:∀ (σ:Nat→Nat),(v64 (Zd f n)).map (rnV σ 3)=v64 (Zd f n):=fun σ=>ZP (Qp _)
 have v2:∀ (p:Nat→Bool),(v64 (Zd f n)).all (okV p 3)=true:=fun p=>ZE (Qp _)
 have hl:(u8s zs).length=N:=by simp[u8s,h.len]
 have h1:List.take N (List.drop 0 (u8s zs))=u8s zs:=by rw[List.drop_zero,List.take_of_length_le (by omega)]
 have h2:Zv zs zs=true:=by rw[Zcu]; exact beq_self_eq_true zs
 have h3:WK (0+N) (u8s zs)=true:=by rw[Vx,hl]; omega
 simp only[h1,h2,h3,Zgx,ZdH] at hr
 unfold obs at hr
 obtain⟨⟨v',s'⟩,r1,r2⟩:=oM hr
 simp only[Prod.mk.injEq] at r2
 obtain⟨rfl,r2⟩:=r2
 have hcon:=ZAw 0 N zs f N m n h (by omega) (by omega)
 rw[rwC,List.drop_zero,show List.take N zs=zs from by rw[← h.len,List.take_length]] at hcon
 refine⟨Qn (Zm (L:=100) Zg (Zn (Zj fun x hx=>by
  obtain rfl:=List.mem_singleton.1 hx; exact hcon) (Zf _)) (Wh _) 40) ⟨by show 64≤71; omega,Nat.le_refl _,ZA4 (ltZ 71) zs f N m n,rfl,rfl,rfl,rfl,rfl,fun x hx=>by cases hx⟩ r1 ?_ (p:=fun l=>Nat.blt l 71) (σ:=id) ⟨fun _ _=>rfl,trivial,rfl,trivial,⟨rfl,rfl⟩,rfl,trivial,rfl,Q5 3 _ rfl,fun x hx=>by cases hx⟩,⟨fun x hx=>by cases hx⟩⟩
 rw[r2]
 simp(disch:=omega) only[f1,f2,v1,v2,lR,dF,Bool.not_true,qT4.v,cond_true]
structure Pt where
 a:Nat
 w:Bool
 v:Nat
 c:Cp
def Pt.cs (x:Pt):List Value:=[.int .u16 x.a,.bool x.w,.int .u32 x.v]++x.c.cs
def Yw (l:List Pt):List Value:=l.flatMap Pt.cs
def arM (rw:Bool) (zs:List UInt8) (f:Nat→Bool) (N m n:Nat):Sy.Heap:=[(68,⟨rw,none,[.pointer (some ⟨67,0,none⟩),.slice (some ⟨65,0,none⟩) N (big+65)],none⟩),(67,⟨rw,none,[.int .i64 (m:Nat),.slice (some ⟨66,0,none⟩) n (big+66)],none⟩),(66,⟨rw,some (66,1),v64 (Zd f n),none⟩),(65,⟨rw,some (65,1),u8s zs,none⟩)]
def arN (rw:Bool) (zs:List UInt8) (f:Nat→Bool) (N m:Nat):Sy.Heap:=[(71,⟨rw,none,[.slice (some ⟨69,0,none⟩) N (big+69),.slice (some ⟨70,0,none⟩) m (big+70)],none⟩),(70,⟨rw,some (70,1),bls f m,none⟩),(69,⟨rw,some (69,1),u8s zs,none⟩)]
def ZLP (N m n:Nat):List (Nat×Nat):=[(66,n),(65,N),(70,m),(69,N)]
def meE:List (Nat×Value):=[(4,.pointer (some ⟨68,0,none⟩)),(6,.pointer (some ⟨71,0,none⟩))]
def meX (n:Nat) (k:Nat):List (Nat×Value):=[(0,.slice (some ⟨64,0,none⟩) n (big+64)),(8,.int .i64 (k:Nat))]
def meI (l:List Pt) (zs:List UInt8) (f:Nat→Bool) (N m n:Nat) (k:Nat):Sf:=⟨72,meE++meX l.length k,arM true zs f N m n++(arN true zs f N m++[(64,⟨false,some (0,0),Yw l,none⟩)]),ZLP N m n⟩
def meF (zs:List UInt8) (f:Nat→Bool) (N m n:Nat):Sf:=⟨72,meE,arM true zs f N m n++arN true zs f N m,ZLP N m n⟩
def meLw (p v:Nat) (zs zs2:List UInt8) (f f2:Nat→Bool) (N m n:Nat):Sy.Steps:=[(73,42,Ziq [.pointer (some ⟨67,0,none⟩),.int .u32 (p:Nat),.int .i64 4,.int .u32 (v:Nat)] zs zs2 f f2 N m n,[65,66,67,68]),(73,43,ZeT [.pointer (some ⟨66,0,none⟩),.int .u32 (p:Nat),.int .i64 4,.int .u32 (v:Nat)] zs zs2 f f2 N m,[69,70,71])]
def meLc (p:Nat) (x:Cp) (zs zs2:List UInt8) (f f2:Nat→Bool) (N m n:Nat):Sy.Steps:=[(73,44,Ziq [.pointer (some ⟨67,0,none⟩),.int .u32 (p:Nat),x.val] zs zs2 f f2 N m n,[65,66,67,68]),(73,45,ZeT [.pointer (some ⟨66,0,none⟩),.int .u32 (p:Nat),x.val] zs zs2 f f2 N m,[69,70,71])]
def Zft (a:List Pt) (b:Nat):=ZBJ (Yw a) b
def Zv3 (a:Nat) (b:Value):=[Z1 a,b]
def Wt (a:Nat):=Zut a 11
def Zew:=Ze1 68
def Zex:=Ze1 71
def Zey (a b c d:Nat):=Zv3 a (ZfJ b c d 9223372036854775874)
def Zoj (a:Nat):=Znm QG a
def Zig (a:Nat):=Vi (Zoj a)
def Zcq:=Bx.mk (aI @Zft.eq_1 (aI @Zv3.eq_1 (aI @Wt.eq_1 (aI @Zew.eq_1 (aI @Zex.eq_1 (aI @Zey.eq_1 (aI @Zoj.eq_1 @Zig.eq_1)))))))
theorem ZK7 (l:List Pt) (zs:List UInt8) (f:Nat→Bool) (N:Nat) (m:Nat) (n:Nat) (k:Nat) (p:Nat) (v:Nat) (zs2:List UInt8) (f2:Nat→Bool):Option.map (Zei 70 [0,4,6,8] [64,65,66,67,68,69,70,71]) (evC Tryz.prog (evF Tryz.prog (Zk 3 (Za (meLw p v zs zs2 f f2 N m n)) Zc) Zb 100 20) (Zb 14) 70 100 (Qe Tryz.prog 14 0) (Sf.frT 70 (meI l zs f N m n k) (tb 5 31)))=ZaC 70 [(0,ZhB l.length),(4,Zew),(6,Zex),VQ 8 k] 73 [(71,Vi [Kv N,Zcg 0 m]),(70,Jg 70 f2 m),(69,UI 69 zs2),(68,Zig N),(67,Vi (Zey m 66 0 n)),(66,Jo 66 f2 n),(65,UI 65 zs2),(64,KX (0,0) (Yw l))] [(70,m),(69,N),(66,n),(65,N),(66,n),(65,N),(70,m),(69,N)] 0 (Qg (Qz (ZaM (Jd (0+Wt k+11) (Yw l) [U4,Xe,KC,KC,Zqc,U4,U4,U4,U4,KC,Xe] (0+Wt k)) (KQ k&&Xw k l.length) (WM (Xw k l.length=true)∧Zgs (QW k) 100=true)∧Zk6 (Yw l) (0+Wt k+1)=true) (Vl (QR Zew) (Zao (U3 (ZhX VY (Zh9 (JF (Yw l) (0+Wt k)) 1024))) p) (QR Kn) (Zao (ZnN (Zft l (0+Wt k+1+1))) v)) (ZqL Ze (ZgD (Zoj N)) (ZgD (Zey m 66 0 n)) (Wb f n (fun l=>l.blt 68) (UJ 73 65 66 67 68 f n)) (Kd zs (fun l=>l.blt 68) 73 [65,66,67,68])) n N) (Vl (QR Zex) (Zao (U3 (ZhX VY (Zh9 (JF (Yw l) (0+Wt k)) 1024))) p) (QR Kn) (Zao (ZnN (Zft l (0+Wt k+1+1))) v)) [Kv N,Zcg 0 m] (XF f m (fun l=>l.blt 67) (JG 73 69 70 71 f m)) zs (fun l=>l.blt 67) 73 [69,70,71] m N):=by kernel_rfl
def me_w:=Bx.mk (by have h:=@ZK7;simp(maxSteps:=99999999) only[Zx.v,ZF.v,V7.v,ZD.v,ZO.v,ZU.v,ZR.v,Ud.v,Zp.v,ZH.v,Zl.v,Zo.v,Z2.v,Z5.v,ZA.v,Uo.v,ZfV.v,Zob.v,Zmv.v,ZvK.v,UT.v,Zcq.v,-eq_self] at h;exact h)
def Zg6 (a:List Pt) (b:Nat):=ZCe (Zft a b)
def ZK9:=Bx.mk @Zg6.eq_1
theorem ZK8 (l:List Pt) (zs:List UInt8) (f:Nat→Bool) (N:Nat) (m:Nat) (n:Nat) (k:Nat) (p:Nat) (x:Cp) (zs2:List UInt8) (f2:Nat→Bool):Option.map (Zei 70 [0,4,6,8] [64,65,66,67,68,69,70,71]) (evC Tryz.prog (evF Tryz.prog (Zk 3 (Za (meLc p x zs zs2 f f2 N m n)) Zc) Zb 100 20) (Zb 14) 70 100 (Qe Tryz.prog 14 0) (Sf.frT 70 (meI l zs f N m n k) (tb 5 15)))=ZaC 70 [(0,ZhB l.length),(4,Zew),(6,Zex),VQ 8 k] 73 [(71,Vi [Kv N,Zcg 0 m]),(70,Jg 70 f2 m),(69,UI 69 zs2),(68,Zig N),(67,Vi (Zey m 66 0 n)),(66,Jo 66 f2 n),(65,UI 65 zs2),(64,KX (0,0) (Yw l))] [(70,m),(69,N),(66,n),(65,N),(66,n),(65,N),(70,m),(69,N)] 0 (Qg (Qz (QF (ZaM (Jd (0+Wt k+11) (Yw l) [U4,Xe,KC,KC,Zqc,U4,U4,U4,U4,KC,Xe] (0+Wt k)) (KQ k&&Xw k l.length) (WM (Xw k l.length=true)∧Zgs (QW k) 100=true)) (Zk6 (Yw l) (0+Wt k+1))) (X4 (QR Zew) (Zao (U3 (ZhX YD ((JF (Yw l) (0+Wt k)).tmod Yz))) p) (ZM (ZaJ (Zhn (ZnN (Zft l (0+Wt k+1+1+1))) (Zxj (Zft l (0+Wt k+1+1+1+1))) (Zg6 l (0+Wt k+1+1+1+1+1)) (Zg6 l (0+Wt k+1+1+1+1+1+1)) (Zg6 l (0+Wt k+1+1+1+1+1+1+1)) (Zg6 l (0+Wt k+1+1+1+1+1+1+1+1)) (ZnN (Zft l (0+Wt k+1+1+1+1+1+1+1+1+1))) (Zk6 (Yw l) (0+Wt k+1+1+1+1+1+1+1+1+1+1)))) x.C x.E x.B x.T x.P x.Y x.R x.V)) (ZqL Ze (ZgD (Zoj N)) (ZgD (Zey m 66 0 n)) (Wb f n (fun l=>l.blt 68) (UJ 73 65 66 67 68 f n)) (Kd zs (fun l=>l.blt 68) 73 [65,66,67,68])) n N) (X4 (QR Zex) (Zao (U3 (ZhX YD ((JF (Yw l) (0+Wt k)).tmod Yz))) p) (ZM (ZaJ (Zhn (ZnN (Zft l (0+Wt k+1+1+1))) (Zxj (Zft l (0+Wt k+1+1+1+1))) (Zg6 l (0+Wt k+1+1+1+1+1)) (Zg6 l (0+Wt k+1+1+1+1+1+1)) (Zg6 l (0+Wt k+1+1+1+1+1+1+1)) (Zg6 l (0+Wt k+1+1+1+1+1+1+1+1)) (ZnN (Zft l (0+Wt k+1+1+1+1+1+1+1+1+1))) (Zk6 (Yw l) (0+Wt k+1+1+1+1+1+1+1+1+1+1)))) x.C x.E x.B x.T x.P x.Y x.R x.V)) [Kv N,Zcg 0 m] (XF f m (fun l=>l.blt 67) (JG 73 69 70 71 f m)) zs (fun l=>l.blt 67) 73 [69,70,71] m N):=by kernel_rfl
def me_c:=Bx.mk (by have h:=@ZK8;simp(maxSteps:=99999999) only[Zx.v,ZF.v,ZD.v,ZO.v,ZU.v,ZR.v,Ud.v,Zp.v,Zw.v,ZH.v,Zl.v,Zo.v,Z2.v,Z5.v,ZA.v,Uo.v,ZfV.v,Zob.v,Zmv.v,UT.v,Zcq.v,ZK9.v,-eq_self] at h;exact h)
theorem ZLa (l:List Pt) (zs:List UInt8) (f:Nat→Bool) (N:Nat) (m:Nat) (n:Nat) (k:Nat):Option.map (Zei 70 [4,6] [64,65,66,67,68,69,70,71]) (evC Tryz.prog (evF Tryz.prog Zc Zb 100 20) (Zb 14) 70 100 (Qe Tryz.prog 14 0) (Sf.frT 70 (meI l zs f N m n k) (tb 4 0)))=some (Ze7,Zc1 70 [(4,Zew),(6,Zex)] 72 [(68,Zig N),(67,Vi (Zey m 66 0 n)),(66,Jo 66 f n),(65,UI 65 zs),(71,Vi [Kv N,Zcg 0 m]),(70,Jg 70 f m),(69,UI 69 zs),(64,KX (0,0) (Yw l))] [(66,n),(65,N),(70,m),(69,N)] 0 (Y5 (Zbp (Xw k l.length)))):=by kernel_rfl
def me_e:=Bx.mk (by have h:=@ZLa;simp(maxSteps:=99999999) only[Zx.v,ZD.v,ZU.v,Ud.v,Zl.v,Zo.v,Uo.v,ZfV.v,Zob.v,UT.v,Zcq.v,-eq_self] at h;exact h)
theorem ZLb (l:List Pt) (zs:List UInt8) (f:Nat→Bool) (N:Nat) (m:Nat) (n:Nat) (k:Nat):Option.map (Zei 70 [4,6] [64,65,66,67,68,69,70,71]) (evC Tryz.prog (evF Tryz.prog Zc Zb 100 20) (Zb 14) 70 100 (Qe Tryz.prog 14 0) (Sf.frT 70 (meI l zs f N m n k) (tb 4 7)))=some (Ze7,Zc1 70 [(4,Zew),(6,Zex)] 72 [(68,Zig N),(67,Vi (Zey m 66 0 n)),(66,Jo 66 f n),(65,UI 65 zs),(71,Vi [Kv N,Zcg 0 m]),(70,Jg 70 f m),(69,UI 69 zs),(64,KX (0,0) (Yw l))] [(66,n),(65,N),(70,m),(69,N)] 0 (QF (WM (Xw k l.length=true)) (Zgs (QW k) 100))):=by kernel_rfl
def me_h:=Bx.mk (by have h:=@ZLb;simp(maxSteps:=99999999) only[Zx.v,ZD.v,ZO.v,Ud.v,Zo.v,Uo.v,ZfV.v,Zob.v,UT.v,Zcq.v,-eq_self] at h;exact h)
def pt0:Pt:=⟨0,false,0,U1⟩
def ZEu (s:List UInt8×(Nat→Bool)) (x:Pt):List UInt8×(Nat→Bool) :=
 if x.w=true then(Xt (4*(x.a%1024)) (leW 4 x.v) s.1,YY s.2 (4*(x.a%1024)/16) false) else(Xt (16*(x.a%256)) x.c.bs s.1,YY s.2 (16*(x.a%256)/16) (x.c.V&&x.c.snd))
def Qx (l:List Pt) (k:Nat):List UInt8×(Nat→Bool):=(l.take k).foldl ZEu (List.replicate 4096 0,fun _=>false)
theorem Zv4 (l:List Pt) (k:Nat) (h:k<l.length):Qx l (k+1)=ZEu (Qx l k) (l.getD k pt0):=by
 unfold Qx
 rw[List.take_succ_eq_append_getElem h,List.foldl_append,List.getD_eq_getElem?_getD,List.getElem?_eq_getElem h]
 rfl
theorem Zz2 (s:List UInt8×(Nat→Bool)) (x:Pt) (h:s.1.length=4096):(ZEu s x).1.length=4096:=by
 unfold ZEu
 split
 ·show(Xt _ _ _).length=4096
  rw[ZcD _ _ _ (by rw[Vs,h]; omega),h]
 ·show(Xt _ _ _).length=4096
  rw[ZcD _ _ _ (by rw[show x.c.bs.length=16 from Zaq _ _ _ _ _ _ _,h]; omega),h]
theorem Zok:∀ (l:List Pt) (s:List UInt8×(Nat→Bool)),s.1.length=4096→(l.foldl ZEu s).1.length=4096
 | [],_,h=>h
 | x::l,s,h=>Zok l _ (Zz2 s x h)
theorem Zrd (l:List Pt) (k:Nat):(Qx l k).1.length=4096:=Zok _ _ List.length_replicate
def Pt.Ok (x:Pt):Prop:=x.a<65536∧x.v<4294967296∧x.c.Ok
theorem Zlh (x:Pt):x.cs.length=11:=rfl
theorem ZEv:∀ (l:List Pt) (k j:Nat),k<l.length→j<11→Zt undef (Yw l) (11*k+j)=Zt undef (l.getD k pt0).cs j
 | [],_,_,h,_=>absurd h (Nat.not_lt_zero _)
 | x::l,0,j,_,hj=>by
  show Zt undef (x.cs++Yw l) (11*0+j)=Zt undef x.cs j
  rw[Wn,Wn,Nat.mul_zero,Nat.zero_add,Zjw _ _ _ _ (by rw[Zlh]; exact hj)]
 | x::l,k+1,j,h,hj=>by
  show Zt undef (x.cs++Yw l) (11*(k+1)+j)=_
  rw[Wn,ZeO _ _ _ _ (by rw[Zlh]; omega),Zlh,show 11*(k+1)+j-11=11*k+j by omega,← Wn,ZEv l k j (by simpa using h) hj]
  simp
theorem ZeR:∀ l:List Pt,(Yw l).length=11*l.length
 | []=>rfl
 | x::l=>by
  show(x.cs++Yw l).length=_
  rw[List.length_append,ZeR l,Zlh,List.length_cons]; omega
theorem ZEw (x:Pt):∀ v∈x.cs,Qm v=true:=fun v hv=>List.all_eq_true.1 (show x.cs.all Qm=true from rfl) v hv
theorem Wu (l:List Pt):∀ v∈Yw l,Qm v=true:=fun v hv=>by
 obtain⟨x,_,h⟩:=List.mem_flatMap.1 hv
 exact ZEw x v h
theorem Zj7 (l:List Pt) (k j n:Nat) (h:k<l.length) (hj:j<11) (hn:n=11*k+j):Zt undef (Yw l) n=Zt undef (l.getD k pt0).cs j:=by rw[hn,ZEv l k j h hj]
theorem pu_0 (l:List Pt) (k:Nat) (h:k<l.length):Qd (Zt undef (Yw l) (0+k*11))=((l.getD k pt0).a:Nat):=by rw[Zj7 l k 0 _ h (by omega) (by omega)]; rfl
theorem pu_1 (l:List Pt) (k:Nat) (h:k<l.length):Z0 (Zt undef (Yw l) (0+k*11+1))=(l.getD k pt0).w:=by rw[Zj7 l k 1 _ h (by omega) (by omega)]; rfl
theorem pu_2 (l:List Pt) (k:Nat) (h:k<l.length):Qd (Zt undef (Yw l) (0+k*11+1+1))=((l.getD k pt0).v:Nat):=by rw[Zj7 l k 2 _ h (by omega) (by omega)]; rfl
theorem pu_3 (l:List Pt) (k:Nat) (h:k<l.length):Qd (Zt undef (Yw l) (0+k*11+1+1+1))=((l.getD k pt0).c.C:Nat):=by rw[Zj7 l k 3 _ h (by omega) (by omega)]; rfl
theorem pu_4 (l:List Pt) (k:Nat) (h:k<l.length):Qd (Zt undef (Yw l) (0+k*11+1+1+1+1))=((l.getD k pt0).c.E:Nat):=by rw[Zj7 l k 4 _ h (by omega) (by omega)]; rfl
theorem pu_5 (l:List Pt) (k:Nat) (h:k<l.length):Qd (Zt undef (Yw l) (0+k*11+1+1+1+1+1))=((l.getD k pt0).c.B:Nat):=by rw[Zj7 l k 5 _ h (by omega) (by omega)]; rfl
theorem pu_6 (l:List Pt) (k:Nat) (h:k<l.length):Qd (Zt undef (Yw l) (0+k*11+1+1+1+1+1+1))=((l.getD k pt0).c.T:Nat):=by rw[Zj7 l k 6 _ h (by omega) (by omega)]; rfl
theorem pu_7 (l:List Pt) (k:Nat) (h:k<l.length):Qd (Zt undef (Yw l) (0+k*11+1+1+1+1+1+1+1))=((l.getD k pt0).c.P:Nat):=by rw[Zj7 l k 7 _ h (by omega) (by omega)]; rfl
theorem pu_8 (l:List Pt) (k:Nat) (h:k<l.length):Qd (Zt undef (Yw l) (0+k*11+1+1+1+1+1+1+1+1))=((l.getD k pt0).c.Y:Nat):=by rw[Zj7 l k 8 _ h (by omega) (by omega)]; rfl
theorem pu_9 (l:List Pt) (k:Nat) (h:k<l.length):Qd (Zt undef (Yw l) (0+k*11+1+1+1+1+1+1+1+1+1))=((l.getD k pt0).c.R:Nat):=by rw[Zj7 l k 9 _ h (by omega) (by omega)]; rfl
theorem ZOc (l:List Pt) (k:Nat) (h:k<l.length):Z0 (Zt undef (Yw l) (0+k*11+1+1+1+1+1+1+1+1+1+1))=(l.getD k pt0).c.V:=by rw[Zj7 l k 10 _ h (by omega) (by omega)]; rfl
theorem ZLc (l:List Pt) (k:Nat) (h:k<l.length):WK (0+k*11+11) (Yw l)=true:=U2 _ _ (by rw[ZeR]; omega)
theorem ZEx (l:List Pt) (k:Nat) (h:k<l.length):Zz [Value.int u16 (0:Int),Value.bool false,Value.int u32 (0:Int),Value.int u32 (0:Int),Value.int u8 (0:Int),Value.int u16 (0:Int),Value.int u16 (0:Int),Value.int u16 (0:Int),Value.int u16 (0:Int),Value.int u32 (0:Int),Value.bool false] (Yw l) (0+k*11)=true:=by
 unfold Zz Zz Zz Zz Zz Zz Zz Zz Zz Zz Zz Zz
 rw[Zj7 l k 0 _ h (by omega) (by omega),Zj7 l k 1 _ h (by omega) (by omega),Zj7 l k 2 _ h (by omega) (by omega),Zj7 l k 3 _ h (by omega) (by omega),Zj7 l k 4 _ h (by omega) (by omega),Zj7 l k 5 _ h (by omega) (by omega),Zj7 l k 6 _ h (by omega) (by omega),Zj7 l k 7 _ h (by omega) (by omega),Zj7 l k 8 _ h (by omega) (by omega),Zj7 l k 9 _ h (by omega) (by omega),Zj7 l k 10 _ h (by omega) (by omega)]
 rfl
theorem Zpx {q:Nat→Bool} (h:∀ l,l<72→q l=true) (N m n:Nat):(∀ v∈([.pointer (some ⟨67,0,none⟩),.slice (some ⟨65,0,none⟩) N (big+65)]:List Value),okV q 3 v=true)∧(∀ v∈([.int .i64 (m:Nat),.slice (some ⟨66,0,none⟩) n (big+66)]:List Value),okV q 3 v=true)∧∀ v∈([.slice (some ⟨69,0,none⟩) N (big+69),.slice (some ⟨70,0,none⟩) m (big+70)]:List Value),okV q 3 v=true:=by
 have h5:=h 65 (by omega)
 have h6:=h 66 (by omega)
 have h7:=h 67 (by omega)
 have h9:=h 69 (by omega)
 have h10:=h 70 (by omega)
 refine⟨?_,?_,?_⟩<;>intro v hv<;>simp only[List.mem_cons,List.not_mem_nil,or_false] at hv<;>rcases hv with rfl|rfl<;>simp[okV,Ut,h5,h6,h7,h9,h10,Qm,big]
theorem Zpy {q:Nat→Bool} (h:∀ l,l<72→q l=true) (rw:Bool) (zs:List UInt8) (f:Nat→Bool) (N m n:Nat) {l:Sy.Heap} (hl:OkH q l):OkH q (arM rw zs f N m n++(arN rw zs f N m++l)):=by
 obtain⟨c1,c2,c3⟩:=Zpx h N m n
 exact⟨⟨h 68 (by omega),rfl,fun v hv=>Q5 3 v (c1 v hv)⟩,⟨h 67 (by omega),rfl,fun v hv=>Q5 3 v (c2 v hv)⟩,⟨h 66 (by omega),h 66 (by omega),ZY (Qp _)⟩,⟨h 65 (by omega),h 65 (by omega),ZY (ZS zs)⟩,⟨h 71 (by omega),rfl,fun v hv=>Q5 3 v (c3 v hv)⟩,⟨h 70 (by omega),h 70 (by omega),ZY (Q4 f m)⟩,⟨h 69 (by omega),h 69 (by omega),ZY (ZS zs)⟩,hl⟩
theorem ZA5 {q:Nat→Bool} (h:∀ l,l<72→q l=true):∀ x∈meE,okV q 3 x.2=true:=fun x hx=>by
 have h8:=h 68 (by omega)
 have h11:=h 71 (by omega)
 simp only[meE,List.mem_cons,List.not_mem_nil,or_false] at hx
 rcases hx with rfl|rfl<;>simp[okV,Ut,h8,h11]
theorem ZLd {q:Nat→Bool} (h:q 64=true) (n k:Nat):∀ x∈meX n k,okV q 3 x.2=true:=fun x hx=>by
 simp only[meX,List.mem_cons,List.not_mem_nil,or_false] at hx
 rcases hx with rfl|rfl<;>simp[okV,Ut,h,Qm,big]
theorem ZLe (l:List Pt) (zs:List UInt8) (f:Nat→Bool) (N m n k:Nat):(meI l zs f N m n k).Wf :=
 ⟨by show 64≤72; omega,Sf.Ok.mk' 3 (Zpy (ltZ 72) true zs f N m n ⟨⟨rfl,rfl,ZY (Wu l)⟩,trivial⟩) rfl (fun x hx=>by
  rcases List.mem_append.1 (show x∈meE++meX l.length k from hx) with hx|hx
  ·exact ZA5 (ltZ 72) x hx
  ·exact ZLd rfl _ _ x hx)⟩
theorem Zre (zs:List UInt8) (f:Nat→Bool) (N m n:Nat):(meF zs f N m n).Ok (XP 72 72 id (fun l=>Nat.blt l 72)) :=
 Sf.Ok.mk' 3 (by have:=Zpy (Zjk 72) true zs f N m n (l:=[]) trivial; rwa [List.append_nil] at this) rfl (ZA5 (Zjk 72))
theorem ZiF {h1:Sy.Heap} {q:Nat→Bool} (hq:∀ l,l<72→q l=true) (zs:List UInt8) (f:Nat→Bool) (N m n:Nat) {cs ws ds es:List Value} {l:Sy.Heap} (h68:Sy.look h1 68=some ⟨true,none,[.pointer (some ⟨67,0,none⟩),.slice (some ⟨65,0,none⟩) N (big+65)],none⟩) (h67:Sy.look h1 67=some ⟨true,none,[.int .i64 (m:Nat),.slice (some ⟨66,0,none⟩) n (big+66)],none⟩)
  (h66:Sy.look h1 66=some ⟨true,some (66,1),ws,none⟩) (h65:Sy.look h1 65=some ⟨true,some (65,1),cs,none⟩) (h71:Sy.look h1 71=some ⟨true,none,[.slice (some ⟨69,0,none⟩) N (big+69),.slice (some ⟨70,0,none⟩) m (big+70)],none⟩) (h70:Sy.look h1 70=some ⟨true,some (70,1),es,none⟩) (h69:Sy.look h1 69=some ⟨true,some (69,1),ds,none⟩)
  (hw:ws=v64 (Zd f n)) (hc:cs=u8s zs) (he:es=bls f m) (hd:ds=u8s zs) (hl:Vr 3 q id h1 l):Vr 3 q id h1 (arM true zs f N m n++(arN true zs f N m++l)):=by
 obtain⟨c1,c2,c3⟩:=Zpx hq N m n
 refine⟨⟨hq 68 (by omega),List.all_eq_true.2 c1,rfl,?_⟩,⟨hq 67 (by omega),List.all_eq_true.2 c2,rfl,?_⟩,⟨hq 66 (by omega),ZE (Qp _),hq 66 (by omega),?_⟩,⟨hq 65 (by omega),ZE (ZS zs),hq 65 (by omega),?_⟩,⟨hq 71 (by omega),List.all_eq_true.2 c3,rfl,?_⟩,⟨hq 70 (by omega),ZE (Q4 f m),hq 70 (by omega),?_⟩,⟨hq 69 (by omega),ZE (ZS zs),hq 69 (by omega),?_⟩,hl⟩
 ·simp only[id,h68]; exact⟨rfl,rfl,trivial,(Wx _ rfl _).symm⟩
 ·simp only[id,h67]; exact⟨rfl,rfl,trivial,(Wx _ rfl _).symm⟩
 ·simp only[id,h66]; exact⟨rfl,rfl,trivial,by rw[Wx _ rfl,hw]⟩
 ·simp only[id,h65]; exact⟨rfl,rfl,trivial,by rw[Wx _ rfl,hc]⟩
 ·simp only[id,h71]; exact⟨rfl,rfl,trivial,(Wx _ rfl _).symm⟩
 ·simp only[id,h70]; exact⟨rfl,rfl,trivial,by rw[Wx _ rfl,he]⟩
 ·simp only[id,h69]; exact⟨rfl,rfl,trivial,by rw[Wx _ rfl,hd]⟩
theorem Zv5 {h1:Sy.Heap} {q:Nat→Bool} (hq:∀ l,l<72→q l=true) (l:List Pt) (h64:Sy.look h1 64=some ⟨false,some (0,0),Yw l,none⟩):Vr 3 q id h1 [(64,⟨false,some (0,0),Yw l,none⟩)]:=by
 refine⟨⟨hq 64 (by omega),ZE (Wu l),hq 0 (by omega),?_⟩,trivial⟩
 simp only[id,h64]; exact⟨rfl,rfl,trivial,(Wx _ rfl _).symm⟩
def QC (l:List Pt):Nat:=min l.length 100
theorem Zol (l:List Pt) (k:Nat):ArOk (Qx l k).1 4096 256 4:=⟨Zrd l k,by omega,by omega,by omega,by omega⟩
theorem Zv6 (l:List Pt) (k:Nat):ArK (Qx l k).1 4096 256:=⟨Zrd l k,by omega,by omega,by omega⟩
theorem ZEy (l:List Pt) (hok:∀ x∈l,x.Ok) :
  ∀ k:{ k:Nat // k≤QC l },Vh Tryz.prog 70 (Qe Tryz.prog 14 0) ((meI l (Qx l k.1).1 (Qx l k.1).2 4096 256 4 k.1).fr 70) (.exit 0) ((meF (Qx l (QC l)).1 (Qx l (QC l)).2 4096 256 4).fr 70):=by
 refine Zbg (L:=100) (Xb _ _ 14) (fun _ h=>h) (X:={ k:Nat // k≤QC l }) (fun k=>meI l (Qx l k.1).1 (Qx l k.1).2 4096 256 4 k.1) (fun _=>meF (Qx l (QC l)).1 (Qx l (QC l)).2 4096 256 4) (fun _ => .exit 0) (fun k=>QC l-k.1) (fun k=>ZLe _ _ _ _ _ _ _) ?_
 rintro⟨k,hk⟩
 have hK:QC l≤l.length∧QC l≤100:=⟨Nat.min_le_left _ _,Nat.min_le_right _ _⟩
 have f1:=qU1
 have f2:=qU2
 have f3:∀ (f:Nat→Bool) (p:Nat→Bool),(bls f 256).all (okV p 3)=true:=fun f p=>ZE (Q4 f 256)
 have f4:∀ (f:Nat→Bool) (σ:Nat→Nat),(bls f 256).map (rnV σ 3)=bls f 256:=fun f σ=>ZP (Q4 f 256)
 have f5:=qV1 4
 have f6:=qV2 4
 by_cases hlt:k<QC l
 ·have hkl:k<l.length:=by omega
  have hkl2:decide ((k:Int)<(l.length:Int))=true:=lR (by omega)
  have hk100:decide ((k:Int)<(100:Int))=true:=lR (by omega)
  have hk0:decide ((0:Int)≤(k:Int))=true:=lR (by omega)
  have hx:(l.getD k pt0).Ok:=by
   rw[List.getD_eq_getElem?_getD,List.getElem?_eq_getElem hkl]; exact hok _ (List.getElem_mem hkl)
  have hs:=Zv4 l k hkl
  obtain⟨x1,x2,x3⟩:=hx
  have e4:i64.wrap ((k:Int)+(1:Int))=((k+1:Nat):Int):=QV k (by omega)
  have q0:=pu_0 l k hkl; have q1:=pu_1 l k hkl; have q2:=pu_2 l k hkl; have q3:=pu_3 l k hkl; have q4:=pu_4 l k hkl; have q5:=pu_5 l k hkl
  have q6:=pu_6 l k hkl; have q7:=pu_7 l k hkl; have q8:=pu_8 l k hkl; have q9:=pu_9 l k hkl; have q10:=ZOc l k hkl; have q11:=ZLc l k hkl; have q12:=ZEx l k hkl
  generalize hX:l.getD k pt0=X at *
  cases hw:X.w
  ·have hput:Qx l (k+1)=(Xt (16*(X.a%256)) X.c.bs (Qx l k).1,YY (Qx l k).2 (16*(X.a%256)/16) (X.c.V&&X.c.snd)):=by rw[hs]; unfold ZEu; rw[hw,if_neg (by decide)]
   have hcon:=Zo6 (16*(X.a%256)) X.c.C X.c.E X.c.B X.c.T X.c.P X.c.Y X.c.R X.c.V (Qx l k).1 (Qx l k).2 4096 256 4 (Zol l k) (by obtain⟨h1,h2,h3,h4,h5,h6,h7⟩:=x3; exact⟨h1,h2,h3,h4,h5,h6,h7⟩) (by omega) (by omega)
   have hcon2:=Zmb (16*(X.a%256)) X.c (Qx l k).1 (Qx l k).2 4096 256 (Zv6 l k) x3 (by omega) (by omega)
   have hr:=me_c.v l (Qx l k).1 (Qx l k).2 4096 256 4 k (16*(X.a%256)) X.c (Qx l (k+1)).1 (Qx l (k+1)).2
   have e1:u32.wrap ((16:Int)*u32.wrap (((X.a:Nat):Int).tmod (256:Int)))=((16*(X.a%256):Nat):Int):=by
    rw[show((X.a:Nat):Int).tmod (256:Int)=((X.a%256:Nat):Int) from(Int.ofNat_tmod X.a 256).symm,Kw (X.a%256) (by omega),show(16:Int)*((X.a%256:Nat):Int)=((16*(X.a%256):Nat):Int) by omega,Kw _ (by omega)]
   simp only[e4] at hr
   refine⟨_,_,_,_,.normal,_,3,fun l=>Nat.blt l 72,id,Zm (L:=100) Zg (Zn (Zj fun x hx=>by
    simp only[meLc,List.mem_cons,List.not_mem_nil,or_false] at hx
    rcases hx with rfl|rfl
    ·rw[hput]; exact hcon
    ·rw[hput]; exact hcon2) (Zf _)) (Zh _) 20,hr,?_,.inl ⟨rfl,⟨k+1,by omega⟩,by show QC l-(k+1)<QC l-k; omega,rfl,rfl,rfl,?_⟩⟩
   ·simp only[tN,e1,hkl2,hk100,hk0,q0,q1,q2,q3,q4,q5,q6,q7,q8,q9,q10,q11,q12,hw,f1,f2,f3,f4,f5,f6,qT4.v,cond_true]
   ·exact⟨fun _ _=>rfl,ZiF (ltZ 72) _ _ _ _ _ rfl rfl rfl rfl rfl rfl rfl rfl rfl rfl rfl (Zv5 (ltZ 72) l rfl),rfl,⟨⟨rfl,Nat.le_refl _⟩,⟨rfl,Nat.le_refl _⟩,⟨rfl,Nat.le_refl _⟩,⟨rfl,Nat.le_refl _⟩,trivial⟩,by repeat' (first|exact trivial|refine⟨⟨by kernel_rfl,by kernel_rfl⟩,?_⟩),Nat.le_refl _,fun l hl=>QD hl,Zre _ _ _ _ _,fun x _ _ => .inl rfl⟩
  ·have hput:Qx l (k+1)=(Xt (4*(X.a%1024)) (leW 4 X.v) (Qx l k).1,YY (Qx l k).2 (4*(X.a%1024)/16) false):=by rw[hs]; unfold ZEu; rw[hw,if_pos rfl]
   have hcon:=Zmg 4 (4*(X.a%1024)) X.v (Qx l k).1 (Qx l k).2 4096 256 4 (Zol l k) (by omega) x2 (by omega) (by omega)
   have hcon2:=Zma 4 (4*(X.a%1024)) X.v (Qx l k).1 (Qx l k).2 4096 256 (Zv6 l k) (by omega) x2 (by omega) (by omega)
   have hr:=me_w.v l (Qx l k).1 (Qx l k).2 4096 256 4 k (4*(X.a%1024)) X.v (Qx l (k+1)).1 (Qx l (k+1)).2
   have e1:u32.wrap ((4:Int)*u32.wrap (((X.a:Nat):Int).tmod (1024:Int)))=((4*(X.a%1024):Nat):Int):=by
    rw[show((X.a:Nat):Int).tmod (1024:Int)=((X.a%1024:Nat):Int) from(Int.ofNat_tmod X.a 1024).symm,Kw (X.a%1024) (by omega),show(4:Int)*((X.a%1024:Nat):Int)=((4*(X.a%1024):Nat):Int) by omega,Kw _ (by omega)]
   simp only[e4] at hr
   refine⟨_,_,_,_,.normal,_,3,fun l=>Nat.blt l 72,id,Zm (L:=100) Zg (Zn (Zj fun x hx=>by
    simp only[meLw,List.mem_cons,List.not_mem_nil,or_false] at hx
    rcases hx with rfl|rfl
    ·rw[hput]; exact hcon
    ·rw[hput]; exact hcon2) (Zf _)) (Zh _) 20,hr,?_,.inl ⟨rfl,⟨k+1,by omega⟩,by show QC l-(k+1)<QC l-k; omega,rfl,rfl,rfl,?_⟩⟩
   ·simp only[tN,e1,hkl2,hk100,hk0,q0,q1,q2,q11,q12,hw,f1,f2,f3,f4,f5,f6,qT4.v,cond_true]
   ·exact⟨fun _ _=>rfl,ZiF (ltZ 72) _ _ _ _ _ rfl rfl rfl rfl rfl rfl rfl rfl rfl rfl rfl (Zv5 (ltZ 72) l rfl),rfl,⟨⟨rfl,Nat.le_refl _⟩,⟨rfl,Nat.le_refl _⟩,⟨rfl,Nat.le_refl _⟩,⟨rfl,Nat.le_refl _⟩,trivial⟩,by repeat' (first|exact trivial|refine⟨⟨by kernel_rfl,by kernel_rfl⟩,?_⟩),Nat.le_refl _,fun l hl=>QD hl,Zre _ _ _ _ _,fun x _ _ => .inl rfl⟩
 ·have hkk:k=QC l:=by omega
  subst hkk
  have hsF:=fun {h1:Sy.Heap} (h68:Sy.look h1 68=_) (h67:Sy.look h1 67=_) (h66:Sy.look h1 66=_) (h65:Sy.look h1 65=_) (h71:Sy.look h1 71=_) (h70:Sy.look h1 70=_) (h69:Sy.look h1 69=_)=>ZiF (h1:=h1) (l:=[]) (ltZ 72) (Qx l (QC l)).1 (Qx l (QC l)).2 4096 256 4 h68 h67 h66 h65 h71 h70 h69 rfl rfl rfl rfl trivial
  simp only[List.append_nil] at hsF
  by_cases hle:l.length≤QC l
  ·have d1:decide (((QC l:Nat):Int)<(l.length:Int))=false:=dF (by omega)
   have hr:=me_e.v l (Qx l (QC l)).1 (Qx l (QC l)).2 4096 256 4 (QC l)
   refine⟨_,_,_,_,.exit 0,_,3,fun l=>Nat.blt l 72,id,Zm (L:=100) Zg (Zf _) (Zh _) 20,hr,?_,.inr ⟨by simp,rfl,rfl,?_⟩⟩
   ·simp only[d1,and_true,true_and,and_self]
   ·exact⟨fun _ _=>rfl,hsF rfl rfl rfl rfl rfl rfl rfl,rfl,⟨⟨rfl,Nat.le_refl _⟩,⟨rfl,Nat.le_refl _⟩,⟨rfl,Nat.le_refl _⟩,⟨rfl,Nat.le_refl _⟩,trivial⟩,by repeat' (first|exact trivial|refine⟨⟨by kernel_rfl,by kernel_rfl⟩,?_⟩),Nat.le_refl _,fun l hl=>QD hl,Zre _ _ _ _ _,fun x _ _ => .inl rfl⟩
  ·have h100:QC l=100:=by unfold QC at *; omega
   have d1:decide (((QC l:Nat):Int)<(l.length:Int))=true:=lR (by omega)
   have d2:decide (((QC l:Nat):Int)<(100:Int))=false:=dF (by omega)
   have hr:=me_h.v l (Qx l (QC l)).1 (Qx l (QC l)).2 4096 256 4 (QC l)
   refine⟨_,_,_,_,.exit 0,_,3,fun l=>Nat.blt l 72,id,Zm (L:=100) Zg (Zf _) (Zh _) 20,hr,?_,.inr ⟨by simp,rfl,rfl,?_⟩⟩
   ·simp only[d1,d2,and_true,true_and,and_self]
   ·exact⟨fun _ _=>rfl,hsF rfl rfl rfl rfl rfl rfl rfl,rfl,⟨⟨rfl,Nat.le_refl _⟩,⟨rfl,Nat.le_refl _⟩,⟨rfl,Nat.le_refl _⟩,⟨rfl,Nat.le_refl _⟩,trivial⟩,by repeat' (first|exact trivial|refine⟨⟨by kernel_rfl,by kernel_rfl⟩,?_⟩),Nat.le_refl _,fun l hl=>QD hl,Zre _ _ _ _ _,fun x _ _ => .inl rfl⟩
structure MeHyp (l:List Pt) (zs:List UInt8) (f:Nat→Bool) (zs2:List UInt8) (f2:Nat→Bool) (N m n:Nat):Prop where
 ok:∀ x∈l,x.Ok
 zs:zs=List.replicate 4096 0
 f:f=fun _=>false
 zs2:zs2=(Qx l (QC l)).1
 f2:f2=(Qx l (QC l)).2
 N:N=4096
 m:m=256
 n:n=4
def ZOd (l:List Pt) (zs:List UInt8) (f:Nat→Bool) (zs2:List UInt8) (f2:Nat→Bool) (N m n:Nat) (h:MeHyp l zs f zs2 f2 N m n):Ent Tryz.prog :=
 ZoO Tryz.prog 14 0 70 (meI l zs f N m n 0) (.exit 0) (meF zs2 f2 N m n) (by kernel_rfl) (by kernel_rfl) (by
  obtain⟨h1,rfl,rfl,rfl,rfl,rfl,rfl,rfl⟩:=h
  exact ZEy l h1 ⟨0,Nat.zero_le _⟩)
def nwC (zs:List UInt8) (f:Nat→Bool) (N m n:Nat):Con:=⟨[.int .i64 16],64,[],[],.tuple ⟨[.pointer (some ⟨67,0,none⟩),.int .i64 0]⟩,68,arW true zs f N m n,arO N n⟩
def nrC (zs:List UInt8) (f:Nat→Bool) (N m:Nat):Con:=⟨[.int .i64 16],64,[],[],.tuple ⟨[.pointer (some ⟨66,0,none⟩),.int .i64 0]⟩,67,arR true zs f N m,Zf2 N m⟩
def mmL (zs:List UInt8) (f:Nat→Bool) (N m n:Nat):Sy.Steps:=[(65,9,nwC zs f N m n,[]),(69,41,nrC zs f N m,[])]
theorem ZLf (l:List Pt) (zs:List UInt8) (f:Nat→Bool) (zs2:List UInt8) (f2:Nat→Bool) (N:Nat) (m:Nat) (n:Nat) (h:MeHyp l zs f zs2 f2 N m n):evF Tryz.prog (Zk 3 (Za (mmL zs f N m n)) Zc) (ZbL [ZOd l zs f zs2 f2 N m n h]) 100 20 14 [ZfJ 64 0 l.length (big+64)] (Zqm 65 [(64,KX (0,0) (Yw l))] [] 0)=JD [Zew,Zex] 72 [(68,Zig N),(67,Vi (Zey m 66 0 n)),(66,Jo 66 f2 n),(65,UI 65 zs2),(71,Vi [Kv N,Zcg 0 m]),(70,Jg 70 f2 m),(69,UI 69 zs2),(64,KX (0,0) (Yw l))] [(66,n),(65,N),(70,m),(69,N),(70,m),(69,N),(66,n),(65,N)] 0 (Vl (XQ (JJ ZaI) ZaI) (Vl (QR Zew) (QR Zex) (QR (ZhB l.length)) ZcH) (Ux (Zoj N)∧Ux (Zey m 66 0 n)∧Wy (ZnF f n (ZdU f n))∧Za0 (Wy (ZhJ zs zs)) (Ux [Kv N,Zcg 0 m]) (Wy (Zjl f m (bls f m))) (Wy (ZhJ zs zs)) (Ux (Yw l))) (Vl (n≤n) (N≤N) (m≤m) (N≤N))):=by kernel_rfl
def mm_a:=Bx.mk (by have h:=@ZLf;simp(maxSteps:=99999999) only[Zx.v,ZD.v,ZO.v,X0.v,Ud.v,Zp.v,ZH.v,Zo.v,Yi.v,ZeU.v,Xd.v,Uo.v,ZfV.v,Zob.v,Zj3.v,Zcq.v,-eq_self] at h;exact h)
theorem ZLg (zs:List UInt8) (f:Nat→Bool) (N:Nat) (m:Nat) (n:Nat):evF Tryz.prog (Zk 3 (Za (mmL zs f N m n)) Zc) Zb 100 20 14 [W2] (Zqn 65 [] 0)=JD [Zew,Zex] 72 [(71,Vi [Kv N,Zcg 0 m]),(70,Jg 70 f m),(69,UI 69 zs),(68,Zig N),(67,Vi (Zey m 66 0 n)),(66,Jo 66 f n),(65,UI 65 zs)] [(70,m),(69,N),(66,n),(65,N)] 0 (XQ (JJ ZaI) ZaI):=by kernel_rfl
def mm_0:=Bx.mk (by have h:=@ZLg;simp(maxSteps:=99999999) only[Zx.v,ZD.v,X0.v,Ud.v,ZH.v,Zo.v,Zy.v,Yi.v,ZeU.v,Xd.v,ZfV.v,Zob.v,Zj3.v,Zcq.v,-eq_self] at h;exact h)
def Zrf (a b c:Nat):={ block:=a,off:=b,spot:=some c:Addr }
def Zv7:=Bx.mk @Zrf.eq_1
theorem ZLh (zs:List UInt8) (f:Nat→Bool) (N:Nat) (m:Nat) (n:Nat):evF Tryz.prog (Zk 3 (Za (mmL zs f N m n)) Zc) Zb 100 20 14 [Value.slice (some (Zrf 64 0 64)) 0 (big+64)] (Zqn 65 [] 0)=JD [Zew,Zex] 72 [(71,Vi [Kv N,Zcg 0 m]),(70,Jg 70 f m),(69,UI 69 zs),(68,Zig N),(67,Vi (Zey m 66 0 n)),(66,Jo 66 f n),(65,UI 65 zs)] [(70,m),(69,N),(66,n),(65,N)] 0 (XQ (JJ ZaI) ZaI):=by kernel_rfl
def mm_1:=Bx.mk (by have h:=@ZLh;simp(maxSteps:=99999999) only[Zx.v,ZD.v,X0.v,Ud.v,ZH.v,Zo.v,Yi.v,ZeU.v,Xd.v,ZfV.v,Zob.v,Zj3.v,Zcq.v,Zv7.v,-eq_self] at h;exact h)
theorem ZLi (n:Nat):v64 (Zd (fun _=>false) n)=z64 n:=by
 unfold v64 z64 Zd
 rw[List.map_map]
 have h0:∀ k:Nat,bn (fun _=>false) k=0:=fun k=>by induction k with
  | zero=>rfl
  | succ k ih=>simp[bn,ih]
 simp only[Function.comp_def,h0,List.map_const',List.length_range]
 rfl
theorem ZLj:ConOk Tryz.prog 9 3 (nwC (List.replicate 4096 0) (fun _=>false) 4096 256 4)∧FlatC (nwC (List.replicate 4096 0) (fun _=>false) 4096 256 4):=by
 have h:=ZwV 16 (by omega) (by omega)
 have e:ZFx 16=nwC (List.replicate 4096 0) (fun _=>false) 4096 256 4:=by
  unfold ZFx nwC arW arL
  rw[ZLi]
  rfl
 rw[e] at h
 exact h
theorem ZLk:ConOk Tryz.prog 41 3 (nrC (List.replicate 4096 0) (fun _=>false) 4096 256)∧FlatC (nrC (List.replicate 4096 0) (fun _=>false) 4096 256):=Zw3 16 (by omega) (by omega)
def ZFh (args:List Value) (h:Sy.Heap) (zs:List UInt8) (f:Nat→Bool) (N m n:Nat):Con:=⟨args,65,h,[],.tuple ⟨[.pointer (some ⟨68,0,none⟩),.pointer (some ⟨71,0,none⟩)]⟩,72,arM true zs f N m n++arN true zs f N m,ZLP N m n⟩
theorem Zz3:∀ l,l<72→XP 65 72 id (fun l=>Nat.blt l 72) l=true:=fun l hl=>by
 show(Nat.blt l NG||(bif Nat.blt l 65 then(Nat.beq l l&&Nat.blt l 72) else Nat.blt l 72))=true
 rw[YW hl,Nat.beq_refl]
 cases Nat.blt l NG<;>cases Nat.blt l 65<;>rfl
theorem ZEz {q:Nat→Bool} (h:∀ l,l<72→q l=true) (zs:List UInt8) (f:Nat→Bool) (N m n:Nat):∀ x∈arM true zs f N m n++arN true zs f N m,∀ v∈x.2.cells,okV q 3 v=true:=fun x hx v hv=>by
 obtain⟨c1,c2,c3⟩:=Zpx h N m n
 simp only[arM,arN,List.cons_append,List.nil_append,List.mem_cons,List.not_mem_nil,or_false] at hx
 rcases hx with rfl|rfl|rfl|rfl|rfl|rfl|rfl
 ·exact c1 v hv
 ·exact c2 v hv
 ·exact Yy (Qp _ v hv) 3
 ·exact Yy (ZS zs v hv) 3
 ·exact c3 v hv
 ·exact Yy (Q4 f m v hv) 3
 ·exact Yy (ZS zs v hv) 3
theorem Zz4 (zs:List UInt8) (f:Nat→Bool) (N m n:Nat):∀ x∈arM true zs f N m n++arN true zs f N m,x.2.op≠none→∀ v∈x.2.cells,Qm v=true:=fun x hx hne=>by
 simp only[arM,arN,List.cons_append,List.nil_append,List.mem_cons,List.not_mem_nil,or_false] at hx
 rcases hx with rfl|rfl|rfl|rfl|rfl|rfl|rfl
 ·exact absurd rfl hne
 ·exact absurd rfl hne
 ·exact Qp _
 ·exact ZS zs
 ·exact absurd rfl hne
 ·exact Q4 f m
 ·exact ZS zs
theorem Zpz {call:QM} (hc:Zs Tryz.prog call) {args:List Value} {h:Sy.Heap} {zs:List UInt8} {f:Nat→Bool} {N m n:Nat} {s':Sy.St} (ha:args.all (okV (fun l=>Nat.blt l 65) 3)=true) (hh:OkH (fun l=>Nat.blt l 65) h)
  (hr:call 14 args ⟨65,h,[],0,[],0,True⟩=some (.tuple ⟨[.pointer (some ⟨68,0,none⟩),.pointer (some ⟨71,0,none⟩)]⟩,s')) (hO:s'.O) (hs:Vr 3 (fun l=>Nat.blt l 72) id s'.h (arM true zs f N m n++arN true zs f N m)) (hlo:ZbK (fun l=>Nat.blt l 72) id s'.lo (ZLP N m n)) (hro:∀ x∈h,x.2.rw=false) :
  ConOk Tryz.prog 14 3 (ZFh args h zs f N m n)∧FlatC (ZFh args h zs f N m n):=by
 have hres:okV (fun l=>Nat.blt l 72) 3 (.tuple ⟨[.pointer (some ⟨68,0,none⟩),.pointer (some ⟨71,0,none⟩)]⟩)=true:=rfl
 have hk:=Zpy Zz3 true zs f N m n (l:=[]) trivial
 rw[List.append_nil] at hk
 refine⟨Qn hc ⟨by show 64≤65; omega,by show 65≤72; omega,hh,rfl,rfl,rfl,ha,hres,ZEz (ltZ 72) zs f N m n⟩ hr hO (p:=fun l=>Nat.blt l 72) (σ:=id) ?_,⟨Zz4 zs f N m n⟩⟩
 exact⟨fun _ _=>rfl,hs,rfl,hlo,⟨hres,by rw[JB]; rfl⟩,rfl,hk,rfl,Q5 3 _ rfl,fun x hx hrw => .inl rfl⟩
theorem Zv8 (k:Nat) (l:List Pt) (hk:ZjS k l.length) (hok:∀ x∈l,x.Ok):ConOk Tryz.prog 14 3 (ZFh [sl1 k 64 l.length] (Uu k 64 (Yw l)) (Qx l (QC l)).1 (Qx l (QC l)).2 4096 256 4)∧FlatC (ZFh [sl1 k 64 l.length] (Uu k 64 (Yw l)) (Qx l (QC l)).1 (Qx l (QC l)).2 4096 256 4):=by
 have hb:∀ x∈mmL (List.replicate 4096 0) (fun _=>false) 4096 256 4,ConOk Tryz.prog x.2.1 3 x.2.2.1∧FlatC x.2.2.1:=fun x hx=>by
  simp only[mmL,List.mem_cons,List.not_mem_nil,or_false] at hx
  rcases hx with rfl|rfl
  ·exact ZLj
  ·exact ZLk
 have hseen:=fun(zs:List UInt8) (f:Nat→Bool) {h1:Sy.Heap} (h68:Sy.look h1 68=_) (h67:Sy.look h1 67=_) (h66:Sy.look h1 66=_) (h65:Sy.look h1 65=_) (h71:Sy.look h1 71=_) (h70:Sy.look h1 70=_) (h69:Sy.look h1 69=_)=>ZiF (h1:=h1) (l:=[]) (ltZ 72) zs f 4096 256 4 h68 h67 h66 h65 h71 h70 h69 rfl rfl rfl rfl trivial
 simp only[List.append_nil] at hseen
 obtain⟨hk2,hk0⟩:=hk
 by_cases h2:k=2
 ·subst h2
  have hr:=mm_a.v l (List.replicate 4096 0) (fun _=>false) (Qx l (QC l)).1 (Qx l (QC l)).2 4096 256 4 ⟨hok,rfl,rfl,rfl,rfl,rfl,rfl,rfl⟩
  refine Zpz (Zm (L:=100) Zg (Zn (Zj hb) (Zf _)) (Wh _) 20) rfl ⟨⟨rfl,rfl,ZY (Wu l)⟩,trivial⟩ hr ?_ (hseen _ _ rfl rfl rfl rfl rfl rfl rfl) ⟨⟨rfl,Nat.le_refl _⟩,⟨rfl,Nat.le_refl _⟩,⟨rfl,Nat.le_refl _⟩,⟨rfl,Nat.le_refl _⟩,trivial⟩ (fun x hx=>by obtain rfl:=List.mem_singleton.1 hx; rfl)
  simp only[and_true,true_and,and_self,Nat.le_refl]
 ·have hl:l=[]:=List.length_eq_zero_iff.1 (hk0 (by omega))
  subst hl
  have h01:k=0∨k=1:=by omega
  rcases h01 with rfl|rfl
  ·have hr:=mm_0.v (List.replicate 4096 0) (fun _=>false) 4096 256 4
   refine Zpz (Zm (L:=100) Zg (Zn (Zj hb) (Zf _)) (Zh _) 20) rfl trivial hr ?_ (hseen _ _ rfl rfl rfl rfl rfl rfl rfl) ⟨⟨rfl,Nat.le_refl _⟩,⟨rfl,Nat.le_refl _⟩,⟨rfl,Nat.le_refl _⟩,⟨rfl,Nat.le_refl _⟩,trivial⟩ (fun x hx=>by cases hx)
   simp only[and_true,true_and,and_self,Nat.le_refl]
  ·have hr:=mm_1.v (List.replicate 4096 0) (fun _=>false) 4096 256 4
   refine Zpz (Zm (L:=100) Zg (Zn (Zj hb) (Zf _)) (Zh _) 20) rfl trivial hr ?_ (hseen _ _ rfl rfl rfl rfl rfl rfl rfl) ⟨⟨rfl,Nat.le_refl _⟩,⟨rfl,Nat.le_refl _⟩,⟨rfl,Nat.le_refl _⟩,⟨rfl,Nat.le_refl _⟩,trivial⟩ (fun x hx=>by cases hx)
   simp only[and_true,true_and,and_self,Nat.le_refl]
def Zko (rc:List Value) (args:List Value) (fr':Nat→Cp) (t:Nat) (zs:List UInt8) (f:Nat→Bool) (N m n:Nat):Con:=⟨args,68,arW false zs f N m n++Y3 rc,arO N n,.tuple ⟨[Xu fr',.int .i64 (t:Nat)]⟩,68,[],[]⟩
def ZsL (rc:List Value) (args:List Value) (fr':Nat→Cp) (zs zs':List UInt8) (f f':Nat→Bool) (N m n:Nat):Con:=⟨args,68,arW true zs f N m n++Y3 rc,arO N n,.tuple ⟨[Xu fr',.int .i64 0]⟩,68,arW true zs' f' N m n,arO N n⟩
def ptV (rc:List Value) (args:List Value) (v:Value) (zs:List UInt8) (f:Nat→Bool) (N m n:Nat):Con:=⟨args,68,arW false zs f N m n++Y3 rc,arO N n,v,68,[],[]⟩
def tpV (p:Nat) (b:Bool):Value:=.tuple ⟨[.int .i64 (p:Nat),.bool b]⟩
def dpL (k:Nat) (l:List Pt) (rc:List Value) (fr:Nat→Cp) (i:In) (p:Nat) (b:Bool) (dc rd sm:Con) (zs:List UInt8) (f:Nat→Bool) (N m n:Nat):Sy.Steps :=
 [(67,14,ZFh [sl1 k 64 l.length] (Uu k 64 (Yw l)) zs f N m n,[64]),(74,21,ptV rc (mvA fr i) (tpV p b) zs f N m n,[67,68,69,70]),(74,22,Zsr (Zkn fr i) (tpV p b) zs f N m,[71,72,73]),
   (74,13,dc,[67,68,69,70]),(75,23,rd,[71,72,73]),(76,24,sm,[67,68,69,70,71,72,73]),(76,10,gwC [] rc (.bool true),[])]
def Zv9 (a b:Nat) (c:Bool):=Zpl a b&&c
def Zkp (a b c d:Nat) (e:Bool):=Zv9 a b (Zv9 c d e)
def Zom (a b c d e f g h:Nat) (i:Bool):=Zkp a b c d (Zkp e f g h i)
def Zz5 (a b c d e f:Nat) (g:Bool):=Zv9 a b (Zkp c d e f g)
def Zwa (a b c d e f:Cp) (g h:Bool):=Zz5 a.C b.C c.E d.E e.B f.B g&&h
def Jw (a b:Nat):=[Zq9 a,Zra b]
def Zon (a:Cp):=Zom a.T a.T a.P a.P a.Y a.Y a.R a.R (a.V==a.V&&true)
def ZfY (a b c d:Prop):=Za0 a b c d c
def Q7 (a:Nat):=Zpl a a
def Zhu (a b:Cp) (c:Bool):=Zwa a a a a a a (Zon b) c
def Zez (a b c d:Cp) (e:Bool):=Zhu a b (Zhu c d e)
def ZpA (a b c d e f g h:Cp) (i:Bool):=Zez a b c d (Zez e f g h i)
def ZpB (a b:Cp):=Zwa a a a a a a (Zon b) true
def ZcX (a:List Value):=ZkO Ze Ze Ze (ZgD a)
def Vd:=QR (Ze1 73)
def ZeA (a:Nat):=ZcX [Ze1 69,Zlf a]
def Ve (a b:Nat):=ZcX (Zv3 a (Zcf b))
def JT (a:Nat) (b c d e:Prop):=Za0 (ZeA a) b c d e
def JU (a:Bool) (b:Prop):=ZkN a Ze Ze Ze b
def ZfZ (a b c d:Cp) (e:Bool):=ZpA a a b b c c d d e
def ZpC (a b c d e:Cp):=ZpA a a b b c c d d (ZpB e e)
def Zhv (a b c:Cp) (d:Bool):=Zhu a a (Zez b b c c d)
def XK (a b c d e f g h i:Cp):=ZfZ a b c d (ZpC e f g h i)
def ZeB (a:Bool) (b:Cp):=a&&ZpB b b
def Vf (a b c d e f g:Cp) (h:Bool) (i:Cp):=ZeB (Zhv a b c (ZfZ d e f g h)) i
def Zli:=Bx.mk (aI @Zv9.eq_1 (aI @Zkp.eq_1 (aI @Zom.eq_1 (aI @Zz5.eq_1 (aI @Zwa.eq_1 (aI @Jw.eq_1 (aI @Zon.eq_1 (aI @ZfY.eq_1 (aI @Q7.eq_1 (aI @Zhu.eq_1 (aI @Zez.eq_1 (aI @ZpA.eq_1 (aI @ZpB.eq_1 (aI @ZcX.eq_1 (aI @Vd.eq_1 (aI @ZeA.eq_1 (aI @Ve.eq_1 (aI @JT.eq_1 (aI @JU.eq_1 (aI @ZfZ.eq_1 (aI @ZpC.eq_1 (aI @Zhv.eq_1 (aI @XK.eq_1 (aI @ZeB.eq_1 @Vf.eq_1))))))))))))))))))))))))
theorem ZEA (i:In) (fr:Nat→Cp) (gr:Nat→Cp) (l:List Pt) (rc:List Value) (p:Nat) (b:Bool) (t:Nat) (zs:List UInt8) (f:Nat→Bool) (N:Nat) (m:Nat) (n:Nat):obs (evF Tryz.prog (Zk 3 (Za (dpL 0 l rc fr i p b (Zko rc (mvA fr i) gr t zs f N m n) (VU fr i gr t zs f N m) (saC zs f N m n) zs f N m n)) Zc) Zb 100 20 6 (Zdh fr i.val (sl1 0 64 l.length)) (Zhz 65 (Zh3 (Uu 0 64 (Yw l)) rc) 19 524286))=Kc QB (Jp (Jp ((((((((((((((Qg (Qz (Qg (Qz (Y5 (JJ ZcW)) (YL fr i.op i.a i.b i.c i.m XX) (JT N (Ve m n) (Wb f n (fun l=>l.blt 68) (UJ 74 67 68 69 70 f n)) (Kd zs (fun l=>l.blt 68) 74 [67,68,69,70]) (JU (rc.all (ZZ (fun l=>l.blt 68))) (rc=Jk 68 74 [67,68,69,70] rc))) n N) (YL fr i.op i.a i.b i.c i.m Vd) (Jw N m) (XF f m (fun l=>l.blt 67) (JG 74 71 72 73 f m)) zs (fun l=>l.blt 67) 74 [71,72,73] m N) (YL fr i.op i.a i.b i.c i.m XX) (JT N (Ve m n) (Wb f n (fun l=>l.blt 68) (UJ 74 67 68 69 70 f n)) (Kd zs (fun l=>l.blt 68) 74 [67,68,69,70]) (JU (rc.all (ZZ (fun l=>l.blt 68))) (rc=Jk 68 74 [67,68,69,70] rc))) n N) (YL fr i.op i.a i.b i.c i.m Vd) (Jw N m) (XF f m (fun l=>l.blt 67) (JG 75 71 72 73 f m)) zs (fun l=>l.blt 67) 75 [71,72,73] m N∧Q7 p=true)∧Q7 p=true)∧Q7 p=true)∧Q7 p=true)∧(b==b)=true)∧(b==b)=true)∧(b==b)=true)∧(b==b)=true)∧Vf (gr 0) (gr 1) (gr 2) (gr 3) (gr 4) (gr 5) (gr 6) (XK (gr 7) (gr 8) (gr 9) (gr 10) (gr 11) (gr 12) (gr 13) (gr 14) (gr 15)) (gr 16)=true)∧Vf (gr 0) (gr 1) (gr 2) (gr 3) (gr 4) (gr 5) (gr 6) (XK (gr 7) (gr 8) (gr 9) (gr 10) (gr 11) (gr 12) (gr 13) (gr 14) (gr 15)) (gr 16)=true)∧Vf (gr 0) (gr 1) (gr 2) (gr 3) (gr 4) (gr 5) (gr 6) (XK (gr 7) (gr 8) (gr 9) (gr 10) (gr 11) (gr 12) (gr 13) (gr 14) (gr 15)) (gr 16)=true)∧Vf (gr 0) (gr 1) (gr 2) (gr 3) (gr 4) (gr 5) (gr 6) (XK (gr 7) (gr 8) (gr 9) (gr 10) (gr 11) (gr 12) (gr 13) (gr 14) (gr 15)) (gr 16)=true)∧Q7 t=true)∧Q7 t=true) (Q7 t=true) (JO XX Vd∧ZfY (ZeA N∧Ve m n∧Zif (Wb f n (fun l=>l.blt 71) (ZhR 71 76 [67,68,69,70,71,72,73] f n)) (ZgK zs (fun l=>l.blt 71) Ze Ze Ze zs (ZgJ 71 76 [67,68,69,70,71,72,73] zs)) (ZcX (Jw N m)) (XF f m (fun l=>l.blt 71) (ZhO 71 76 [67,68,69,70,71,72,73] f m))) (QO n) (QO N) (QO m))∧Q7 t=true) Ze (Vt (Zhj (ZhZ Ze (rc.all (ZZ (fun l=>l.blt 64))=true) Ze Ze Ze (rc=Zb4 76 rc))))):=by kernel_rfl
def ZOe:=Bx.mk (by have h:=@ZEA;simp(maxSteps:=99999999) only[Zx.v,ZF.v,ZD.v,ZO.v,ZU.v,YA.v,Zp.v,Zw.v,ZH.v,Zl.v,Zo.v,Zy.v,Yi.v,YE.v,Z2.v,Xn.v,ZA.v,Z7.v,Xq.v,Yn.v,Xd.v,Jy.v,Zdo.v,ZvE.v,Qa.v,Zfs.v,Zev.v,Zg5.v,Zj5.v,Zcq.v,Zli.v,-eq_self] at h;exact h)
theorem ZEB (i:In) (fr:Nat→Cp) (gr:Nat→Cp) (l:List Pt) (rc:List Value) (p:Nat) (b:Bool) (zs:List UInt8) (z2:List UInt8) (f:Nat→Bool) (f2:Nat→Bool) (N:Nat) (m:Nat) (n:Nat):obs (evF Tryz.prog (Zk 3 (Za (dpL 0 l rc fr i p b (ZsL rc (mvA fr i) gr zs z2 f f2 N m n) (Zpw fr i gr zs z2 f f2 N m) (saC z2 f2 N m n) zs f N m n)) Zc) Zb 100 20 6 (Zdh fr i.val (sl1 0 64 l.length)) (Zhz 65 (Zh3 (Uu 0 64 (Yw l)) rc) 19 524286))=Kc QB (Jp (ZL (Jp (Q6 ((((((((((((Qg (Qz (Qg (Qz (Y5 (JJ ZcW)) (YL fr i.op i.a i.b i.c i.m XX) (JT N (Ve m n) (Wb f n (fun l=>l.blt 68) (UJ 74 67 68 69 70 f n)) (Kd zs (fun l=>l.blt 68) 74 [67,68,69,70]) (JU (rc.all (ZZ (fun l=>l.blt 68))) (rc=Jk 68 74 [67,68,69,70] rc))) n N) (YL fr i.op i.a i.b i.c i.m Vd) (Jw N m) (XF f m (fun l=>l.blt 67) (JG 74 71 72 73 f m)) zs (fun l=>l.blt 67) 74 [71,72,73] m N) (YL fr i.op i.a i.b i.c i.m XX) (JT N (Ve m n) (Wb f n (fun l=>l.blt 68) (UJ 74 67 68 69 70 f n)) (Kd zs (fun l=>l.blt 68) 74 [67,68,69,70]) (JU (rc.all (ZZ (fun l=>l.blt 68))) (rc=Jk 68 74 [67,68,69,70] rc))) n N) (YL fr i.op i.a i.b i.c i.m Vd) (Jw N m) (XF f m (fun l=>l.blt 67) (JG 75 71 72 73 f m)) zs (fun l=>l.blt 67) 75 [71,72,73] m N∧Q7 p=true)∧Q7 p=true)∧Q7 p=true)∧Q7 p=true)∧(b==b)=true)∧(b==b)=true)∧(b==b)=true)∧(b==b)=true)∧Vf (gr 0) (gr 1) (gr 2) (gr 3) (gr 4) (gr 5) (gr 6) (XK (gr 7) (gr 8) (gr 9) (gr 10) (gr 11) (gr 12) (gr 13) (gr 14) (gr 15)) (gr 16)=true)∧ZeB (Zhu (gr 0) (gr 0) (ZfZ (gr 1) (gr 2) (gr 3) (gr 4) (Zez (gr 5) (gr 5) (gr 6) (gr 6) (XK (gr 7) (gr 8) (gr 9) (gr 10) (gr 11) (gr 12) (gr 13) (gr 14) (gr 15))))) (gr 16)=true)∧Vf (gr 0) (gr 1) (gr 2) (gr 3) (gr 4) (gr 5) (gr 6) (XK (gr 7) (gr 8) (gr 9) (gr 10) (gr 11) (gr 12) (gr 13) (gr 14) (gr 15)) (gr 16)=true)∧Vf (gr 0) (gr 1) (gr 2) (gr 3) (gr 4) (gr 5) (gr 6) (XK (gr 7) (gr 8) (gr 9) (gr 10) (gr 11) (gr 12) (gr 13) (gr 14) (gr 15)) (gr 16)=true)) Ze (JO XX Vd∧ZfY (ZeA N∧Ve m n∧Zif (Wb f2 n (fun l=>l.blt 71) (ZhR 71 76 [67,68,69,70,71,72,73] f2 n)) (ZgK z2 (fun l=>l.blt 71) Ze Ze Ze z2 (ZgJ 71 76 [67,68,69,70,71,72,73] z2)) (ZcX (Jw N m)) (XF f2 m (fun l=>l.blt 71) (ZhO 71 76 [67,68,69,70,71,72,73] f2 m))) (QO n) (QO N) (QO m)))) Ze (Vt (Zhj (ZhZ Ze (rc.all (ZZ (fun l=>l.blt 64))=true) Ze Ze Ze (rc=Zb4 76 rc))))):=by kernel_rfl
def ZOf:=Bx.mk (by have h:=@ZEB;simp(maxSteps:=99999999) only[Zx.v,ZF.v,ZD.v,ZO.v,ZU.v,YA.v,Zp.v,Zw.v,ZH.v,Zl.v,Zo.v,Zy.v,Yi.v,YE.v,Z2.v,Xn.v,ZA.v,Z7.v,Xq.v,Yn.v,Xd.v,Jy.v,Zdo.v,ZvE.v,Qa.v,Zfs.v,Zev.v,Zg5.v,Zj5.v,Zcq.v,Zli.v,-eq_self] at h;exact h)
def Zwb (a:Option Addr) (b:Nat):=Value.slice a b 9223372036854775872
def ZA6:=Bx.mk @Zwb.eq_1
theorem ZEC (i:In) (fr:Nat→Cp) (gr:Nat→Cp) (l:List Pt) (rc:List Value) (p:Nat) (b:Bool) (t:Nat) (zs:List UInt8) (f:Nat→Bool) (N:Nat) (m:Nat) (n:Nat):obs (evF Tryz.prog (Zk 3 (Za (dpL 1 l rc fr i p b (Zko rc (mvA fr i) gr t zs f N m n) (VU fr i gr t zs f N m) (saC zs f N m n) zs f N m n)) Zc) Zb 100 20 6 (Zdh fr i.val (sl1 1 64 l.length)) (Zhz 65 (Zh3 (Uu 1 64 (Yw l)) rc) 19 524286))=Kc QB (Jp (Jp ((((((((((((((Qg (Qz (Qg (Qz (Y5 (JJ (QR (Zwb (some (Zrf 64 0 64)) 0)))) (YL fr i.op i.a i.b i.c i.m XX) (JT N (Ve m n) (Wb f n (fun l=>l.blt 68) (UJ 74 67 68 69 70 f n)) (Kd zs (fun l=>l.blt 68) 74 [67,68,69,70]) (JU (rc.all (ZZ (fun l=>l.blt 68))) (rc=Jk 68 74 [67,68,69,70] rc))) n N) (YL fr i.op i.a i.b i.c i.m Vd) (Jw N m) (XF f m (fun l=>l.blt 67) (JG 74 71 72 73 f m)) zs (fun l=>l.blt 67) 74 [71,72,73] m N) (YL fr i.op i.a i.b i.c i.m XX) (JT N (Ve m n) (Wb f n (fun l=>l.blt 68) (UJ 74 67 68 69 70 f n)) (Kd zs (fun l=>l.blt 68) 74 [67,68,69,70]) (JU (rc.all (ZZ (fun l=>l.blt 68))) (rc=Jk 68 74 [67,68,69,70] rc))) n N) (YL fr i.op i.a i.b i.c i.m Vd) (Jw N m) (XF f m (fun l=>l.blt 67) (JG 75 71 72 73 f m)) zs (fun l=>l.blt 67) 75 [71,72,73] m N∧Q7 p=true)∧Q7 p=true)∧Q7 p=true)∧Q7 p=true)∧(b==b)=true)∧(b==b)=true)∧(b==b)=true)∧(b==b)=true)∧Vf (gr 0) (gr 1) (gr 2) (gr 3) (gr 4) (gr 5) (gr 6) (XK (gr 7) (gr 8) (gr 9) (gr 10) (gr 11) (gr 12) (gr 13) (gr 14) (gr 15)) (gr 16)=true)∧Vf (gr 0) (gr 1) (gr 2) (gr 3) (gr 4) (gr 5) (gr 6) (XK (gr 7) (gr 8) (gr 9) (gr 10) (gr 11) (gr 12) (gr 13) (gr 14) (gr 15)) (gr 16)=true)∧Vf (gr 0) (gr 1) (gr 2) (gr 3) (gr 4) (gr 5) (gr 6) (XK (gr 7) (gr 8) (gr 9) (gr 10) (gr 11) (gr 12) (gr 13) (gr 14) (gr 15)) (gr 16)=true)∧Vf (gr 0) (gr 1) (gr 2) (gr 3) (gr 4) (gr 5) (gr 6) (XK (gr 7) (gr 8) (gr 9) (gr 10) (gr 11) (gr 12) (gr 13) (gr 14) (gr 15)) (gr 16)=true)∧Q7 t=true)∧Q7 t=true) (Q7 t=true) (JO XX Vd∧ZfY (ZeA N∧Ve m n∧Zif (Wb f n (fun l=>l.blt 71) (ZhR 71 76 [67,68,69,70,71,72,73] f n)) (ZgK zs (fun l=>l.blt 71) Ze Ze Ze zs (ZgJ 71 76 [67,68,69,70,71,72,73] zs)) (ZcX (Jw N m)) (XF f m (fun l=>l.blt 71) (ZhO 71 76 [67,68,69,70,71,72,73] f m))) (QO n) (QO N) (QO m))∧Q7 t=true) Ze (Vt (Zhj (ZhZ Ze (rc.all (ZZ (fun l=>l.blt 64))=true) Ze Ze Ze (rc=Zb4 76 rc))))):=by kernel_rfl
def ZOg:=Bx.mk (by have h:=@ZEC;simp(maxSteps:=99999999) only[Zx.v,ZF.v,ZD.v,ZO.v,ZU.v,YA.v,Zp.v,Zw.v,ZH.v,Zl.v,Zo.v,Yi.v,YE.v,Z2.v,Xn.v,ZA.v,Z7.v,Xq.v,Yn.v,Xd.v,Jy.v,Zdo.v,Qa.v,Zfs.v,Zev.v,Zg5.v,Zj5.v,Zcq.v,Zv7.v,Zli.v,ZA6.v,-eq_self] at h;exact h)
def Zf0 (a:Nat) (b:Bool):=Zv9 a a b
def Zwc:=Bx.mk @Zf0.eq_1
theorem ZED (i:In) (fr:Nat→Cp) (gr:Nat→Cp) (l:List Pt) (rc:List Value) (p:Nat) (b:Bool) (zs:List UInt8) (z2:List UInt8) (f:Nat→Bool) (f2:Nat→Bool) (N:Nat) (m:Nat) (n:Nat):obs (evF Tryz.prog (Zk 3 (Za (dpL 1 l rc fr i p b (ZsL rc (mvA fr i) gr zs z2 f f2 N m n) (Zpw fr i gr zs z2 f f2 N m) (saC z2 f2 N m n) zs f N m n)) Zc) Zb 100 20 6 (Zdh fr i.val (sl1 1 64 l.length)) (Zhz 65 (Zh3 (Uu 1 64 (Yw l)) rc) 19 524286))=Kc QB (Jp (ZL (Jp (Q6 ((((((((((((Qg (Qz (Qg (Qz (Y5 (JJ (QR (Zwb (some (Zrf 64 0 64)) 0)))) (YL fr i.op i.a i.b i.c i.m XX) (JT N (Ve m n) (Wb f n (fun l=>l.blt 68) (UJ 74 67 68 69 70 f n)) (Kd zs (fun l=>l.blt 68) 74 [67,68,69,70]) (JU (rc.all (ZZ (fun l=>l.blt 68))) (rc=Jk 68 74 [67,68,69,70] rc))) n N) (YL fr i.op i.a i.b i.c i.m Vd) (Jw N m) (XF f m (fun l=>l.blt 67) (JG 74 71 72 73 f m)) zs (fun l=>l.blt 67) 74 [71,72,73] m N) (YL fr i.op i.a i.b i.c i.m XX) (JT N (Ve m n) (Wb f n (fun l=>l.blt 68) (UJ 74 67 68 69 70 f n)) (Kd zs (fun l=>l.blt 68) 74 [67,68,69,70]) (JU (rc.all (ZZ (fun l=>l.blt 68))) (rc=Jk 68 74 [67,68,69,70] rc))) n N) (YL fr i.op i.a i.b i.c i.m Vd) (Jw N m) (XF f m (fun l=>l.blt 67) (JG 75 71 72 73 f m)) zs (fun l=>l.blt 67) 75 [71,72,73] m N∧Q7 p=true)∧Q7 p=true)∧Q7 p=true)∧Q7 p=true)∧(b==b)=true)∧(b==b)=true)∧(b==b)=true)∧(b==b)=true)∧ZeB (Zkp (gr 0).C (gr 0).C (gr 0).E (gr 0).E (Zom (gr 0).B (gr 0).B (gr 0).T (gr 0).T (gr 0).P (gr 0).P (gr 0).Y (gr 0).Y (Zf0 (gr 0).R (VE ((gr 0).V==(gr 0).V))))&&Zhu (gr 1) (gr 1) (ZfZ (gr 2) (gr 3) (gr 4) (gr 5) (Zom (gr 6).C (gr 6).C (gr 6).E (gr 6).E (gr 6).B (gr 6).B (gr 6).T (gr 6).T (Zz5 (gr 6).P (gr 6).P (gr 6).Y (gr 6).Y (gr 6).R (gr 6).R (VE ((gr 6).V==(gr 6).V)))&&XK (gr 7) (gr 8) (gr 9) (gr 10) (gr 11) (gr 12) (gr 13) (gr 14) (gr 15)))) (gr 16)=true)∧ZeB (Zhv (gr 0) (gr 1) (gr 2) (Zkp (gr 3).C (gr 3).C (gr 3).E (gr 3).E (Zom (gr 3).B (gr 3).B (gr 3).T (gr 3).T (gr 3).P (gr 3).P (gr 3).Y (gr 3).Y (Zf0 (gr 3).R (VE ((gr 3).V==(gr 3).V))))&&Zhv (gr 4) (gr 5) (gr 6) (XK (gr 7) (gr 8) (gr 9) (gr 10) (gr 11) (gr 12) (gr 13) (gr 14) (gr 15)))) (gr 16)=true)∧Vf (gr 0) (gr 1) (gr 2) (gr 3) (gr 4) (gr 5) (gr 6) (XK (gr 7) (gr 8) (gr 9) (gr 10) (gr 11) (gr 12) (gr 13) (gr 14) (gr 15)) (gr 16)=true)∧Vf (gr 0) (gr 1) (gr 2) (gr 3) (gr 4) (gr 5) (gr 6) (XK (gr 7) (gr 8) (gr 9) (gr 10) (gr 11) (gr 12) (gr 13) (gr 14) (gr 15)) (gr 16)=true)) Ze (JO XX Vd∧ZfY (ZeA N∧Ve m n∧Zif (Wb f2 n (fun l=>l.blt 71) (ZhR 71 76 [67,68,69,70,71,72,73] f2 n)) (ZgK z2 (fun l=>l.blt 71) Ze Ze Ze z2 (ZgJ 71 76 [67,68,69,70,71,72,73] z2)) (ZcX (Jw N m)) (XF f2 m (fun l=>l.blt 71) (ZhO 71 76 [67,68,69,70,71,72,73] f2 m))) (QO n) (QO N) (QO m)))) Ze (Vt (Zhj (ZhZ Ze (rc.all (ZZ (fun l=>l.blt 64))=true) Ze Ze Ze (rc=Zb4 76 rc))))):=by kernel_rfl
def ZOh:=Bx.mk (by have h:=@ZED;simp(maxSteps:=99999999) only[Zx.v,ZF.v,ZD.v,ZO.v,ZU.v,YA.v,Zp.v,Zw.v,ZH.v,Zl.v,Zo.v,Yi.v,YE.v,Z2.v,Xn.v,ZA.v,Z7.v,Xq.v,Yn.v,Xd.v,Jy.v,Zdo.v,Qa.v,Zfs.v,Zev.v,Zg5.v,Zj5.v,Zcq.v,Zv7.v,Zli.v,ZA6.v,Zwc.v,-eq_self] at h;exact h)
theorem ZEE (i:In) (fr:Nat→Cp) (gr:Nat→Cp) (l:List Pt) (rc:List Value) (p:Nat) (b:Bool) (t:Nat) (zs:List UInt8) (f:Nat→Bool) (N:Nat) (m:Nat) (n:Nat):obs (evF Tryz.prog (Zk 3 (Za (dpL 2 l rc fr i p b (Zko rc (mvA fr i) gr t zs f N m n) (VU fr i gr t zs f N m) (saC zs f N m n) zs f N m n)) Zc) Zb 100 20 6 (Zdh fr i.val (sl1 2 64 l.length)) (Zhz 65 (Zh3 (Uu 2 64 (Yw l)) rc) 19 524286))=Kc QB (Jp (Jp ((((((((((((((Qg (Qz (Qg (Qz (Y5 (Zfa (ZkY (QR (ZhB l.length)) Ze (ZrV (Yw l) (fun l=>l.blt 65) 3=true) Ze Ze Ze (Yw l=Jk 65 67 [64] (Yw l))))) (YL fr i.op i.a i.b i.c i.m XX) (JT N (Ve m n) (Wb f n (fun l=>l.blt 68) (UJ 74 67 68 69 70 f n)) (Kd zs (fun l=>l.blt 68) 74 [67,68,69,70]) (JU (rc.all (ZZ (fun l=>l.blt 68))) (rc=Jk 68 74 [67,68,69,70] rc))) n N) (YL fr i.op i.a i.b i.c i.m Vd) (Jw N m) (XF f m (fun l=>l.blt 67) (JG 74 71 72 73 f m)) zs (fun l=>l.blt 67) 74 [71,72,73] m N) (YL fr i.op i.a i.b i.c i.m XX) (JT N (Ve m n) (Wb f n (fun l=>l.blt 68) (UJ 74 67 68 69 70 f n)) (Kd zs (fun l=>l.blt 68) 74 [67,68,69,70]) (JU (rc.all (ZZ (fun l=>l.blt 68))) (rc=Jk 68 74 [67,68,69,70] rc))) n N) (YL fr i.op i.a i.b i.c i.m Vd) (Jw N m) (XF f m (fun l=>l.blt 67) (JG 75 71 72 73 f m)) zs (fun l=>l.blt 67) 75 [71,72,73] m N∧Q7 p=true)∧Q7 p=true)∧Q7 p=true)∧Q7 p=true)∧(b==b)=true)∧(b==b)=true)∧(b==b)=true)∧(b==b)=true)∧ZeB (Zez (gr 0) (gr 0) (gr 1) (gr 1) (Zkp (gr 2).C (gr 2).C (gr 2).E (gr 2).E (Zf0 (gr 2).B (Zon (gr 2)))&&(Zkp (gr 3).C (gr 3).C (gr 3).E (gr 3).E (Zom (gr 3).B (gr 3).B (gr 3).T (gr 3).T (gr 3).P (gr 3).P (gr 3).Y (gr 3).Y (Zf0 (gr 3).R (VE ((gr 3).V==(gr 3).V))))&&Zhv (gr 4) (gr 5) (gr 6) (Zkp (gr 7).C (gr 7).C (gr 7).E (gr 7).E (Zf0 (gr 7).B (Zon (gr 7)))&&Zhv (gr 8) (gr 9) (gr 10) (ZpC (gr 11) (gr 12) (gr 13) (gr 14) (gr 15)))))) (gr 16)=true)∧ZeB (Zez (gr 0) (gr 0) (gr 1) (gr 1) (Zom (gr 2).C (gr 2).C (gr 2).E (gr 2).E (gr 2).B (gr 2).B (gr 2).T (gr 2).T (Zz5 (gr 2).P (gr 2).P (gr 2).Y (gr 2).Y (gr 2).R (gr 2).R (VE ((gr 2).V==(gr 2).V)))&&ZfZ (gr 3) (gr 4) (gr 5) (gr 6) (XK (gr 7) (gr 8) (gr 9) (gr 10) (gr 11) (gr 12) (gr 13) (gr 14) (gr 15)))) (gr 16)=true)∧Vf (gr 0) (gr 1) (gr 2) (gr 3) (gr 4) (gr 5) (gr 6) (XK (gr 7) (gr 8) (gr 9) (gr 10) (gr 11) (gr 12) (gr 13) (gr 14) (gr 15)) (gr 16)=true)∧Vf (gr 0) (gr 1) (gr 2) (gr 3) (gr 4) (gr 5) (gr 6) (XK (gr 7) (gr 8) (gr 9) (gr 10) (gr 11) (gr 12) (gr 13) (gr 14) (gr 15)) (gr 16)=true)∧Q7 t=true)∧Q7 t=true) (Q7 t=true) (JO XX Vd∧ZfY (ZeA N∧Ve m n∧Zif (Wb f n (fun l=>l.blt 71) (ZhR 71 76 [67,68,69,70,71,72,73] f n)) (ZgK zs (fun l=>l.blt 71) Ze Ze Ze zs (ZgJ 71 76 [67,68,69,70,71,72,73] zs)) (ZcX (Jw N m)) (XF f m (fun l=>l.blt 71) (ZhO 71 76 [67,68,69,70,71,72,73] f m))) (QO n) (QO N) (QO m))∧Q7 t=true) Ze (Vt (Zhj (ZhZ Ze (rc.all (ZZ (fun l=>l.blt 64))=true) Ze Ze Ze (rc=Zb4 76 rc))))):=by kernel_rfl
def ZOi:=Bx.mk (by have h:=@ZEE;simp(maxSteps:=99999999) only[Zx.v,ZF.v,ZD.v,ZO.v,ZU.v,YA.v,Zp.v,Zw.v,ZH.v,Zl.v,Zo.v,YE.v,Z2.v,Xn.v,ZA.v,Z7.v,Xq.v,Yn.v,Xd.v,Jy.v,Zdo.v,Qa.v,Zfs.v,Zev.v,Zg5.v,Zj5.v,Zcq.v,Zli.v,Zwc.v,-eq_self] at h;exact h)
theorem ZEF (i:In) (fr:Nat→Cp) (gr:Nat→Cp) (l:List Pt) (rc:List Value) (p:Nat) (b:Bool) (zs:List UInt8) (z2:List UInt8) (f:Nat→Bool) (f2:Nat→Bool) (N:Nat) (m:Nat) (n:Nat):obs (evF Tryz.prog (Zk 3 (Za (dpL 2 l rc fr i p b (ZsL rc (mvA fr i) gr zs z2 f f2 N m n) (Zpw fr i gr zs z2 f f2 N m) (saC z2 f2 N m n) zs f N m n)) Zc) Zb 100 20 6 (Zdh fr i.val (sl1 2 64 l.length)) (Zhz 65 (Zh3 (Uu 2 64 (Yw l)) rc) 19 524286))=Kc QB (Jp (ZL (Jp (Q6 ((((((((((((Qg (Qz (Qg (Qz (Y5 (Zfa (ZkY (QR (ZhB l.length)) Ze (ZrV (Yw l) (fun l=>l.blt 65) 3=true) Ze Ze Ze (Yw l=Jk 65 67 [64] (Yw l))))) (YL fr i.op i.a i.b i.c i.m XX) (JT N (Ve m n) (Wb f n (fun l=>l.blt 68) (UJ 74 67 68 69 70 f n)) (Kd zs (fun l=>l.blt 68) 74 [67,68,69,70]) (JU (rc.all (ZZ (fun l=>l.blt 68))) (rc=Jk 68 74 [67,68,69,70] rc))) n N) (YL fr i.op i.a i.b i.c i.m Vd) (Jw N m) (XF f m (fun l=>l.blt 67) (JG 74 71 72 73 f m)) zs (fun l=>l.blt 67) 74 [71,72,73] m N) (YL fr i.op i.a i.b i.c i.m XX) (JT N (Ve m n) (Wb f n (fun l=>l.blt 68) (UJ 74 67 68 69 70 f n)) (Kd zs (fun l=>l.blt 68) 74 [67,68,69,70]) (JU (rc.all (ZZ (fun l=>l.blt 68))) (rc=Jk 68 74 [67,68,69,70] rc))) n N) (YL fr i.op i.a i.b i.c i.m Vd) (Jw N m) (XF f m (fun l=>l.blt 67) (JG 75 71 72 73 f m)) zs (fun l=>l.blt 67) 75 [71,72,73] m N∧Q7 p=true)∧Q7 p=true)∧Q7 p=true)∧Q7 p=true)∧(b==b)=true)∧(b==b)=true)∧(b==b)=true)∧(b==b)=true)∧Vf (gr 0) (gr 1) (gr 2) (gr 3) (gr 4) (gr 5) (gr 6) (XK (gr 7) (gr 8) (gr 9) (gr 10) (gr 11) (gr 12) (gr 13) (gr 14) (gr 15)) (gr 16)=true)∧Vf (gr 0) (gr 1) (gr 2) (gr 3) (gr 4) (gr 5) (gr 6) (XK (gr 7) (gr 8) (gr 9) (gr 10) (gr 11) (gr 12) (gr 13) (gr 14) (gr 15)) (gr 16)=true)∧Vf (gr 0) (gr 1) (gr 2) (gr 3) (gr 4) (gr 5) (gr 6) (XK (gr 7) (gr 8) (gr 9) (gr 10) (gr 11) (gr 12) (gr 13) (gr 14) (gr 15)) (gr 16)=true)∧ZeB (ZfZ (gr 0) (gr 1) (gr 2) (gr 3) (Zf0 (gr 4).C (Zom (gr 4).E (gr 4).E (gr 4).B (gr 4).B (gr 4).T (gr 4).T (gr 4).P (gr 4).P (Zkp (gr 4).Y (gr 4).Y (gr 4).R (gr 4).R (VE ((gr 4).V==(gr 4).V))))&&Zez (gr 5) (gr 5) (gr 6) (gr 6) (XK (gr 7) (gr 8) (gr 9) (gr 10) (gr 11) (gr 12) (gr 13) (gr 14) (gr 15)))) (gr 16)=true)) Ze (JO XX Vd∧ZfY (ZeA N∧Ve m n∧Zif (Wb f2 n (fun l=>l.blt 71) (ZhR 71 76 [67,68,69,70,71,72,73] f2 n)) (ZgK z2 (fun l=>l.blt 71) Ze Ze Ze z2 (ZgJ 71 76 [67,68,69,70,71,72,73] z2)) (ZcX (Jw N m)) (XF f2 m (fun l=>l.blt 71) (ZhO 71 76 [67,68,69,70,71,72,73] f2 m))) (QO n) (QO N) (QO m)))) Ze (Vt (Zhj (ZhZ Ze (rc.all (ZZ (fun l=>l.blt 64))=true) Ze Ze Ze (rc=Zb4 76 rc))))):=by kernel_rfl
def ZOj:=Bx.mk (by have h:=@ZEF;simp(maxSteps:=99999999) only[Zx.v,ZF.v,ZD.v,ZO.v,ZU.v,YA.v,Zp.v,Zw.v,ZH.v,Zl.v,Zo.v,YE.v,Z2.v,Xn.v,ZA.v,Z7.v,Xq.v,Yn.v,Xd.v,Jy.v,Zdo.v,Qa.v,Zfs.v,Zev.v,Zg5.v,Zj5.v,Zcq.v,Zli.v,Zwc.v,-eq_self] at h;exact h)
theorem ZmB:ZfH Tryz.prog=true:=by kernel_rfl
def ZOk (code a b:Int):Value:=.tuple (if code=3 then #[.int .u32 ((a+b)%4294967296),.int .i64 0,.bool true] else if code=6 then #[.int .u32 0,.int .i64 7,.bool true] else #[.int .u32 0,.int .i64 0,.bool false])
def ZLQ (code a b:Int):Bool:=((decide (code<3)||decide (15<code))||decide (code=3)||(decide (code=6)&&decide (b=0)))&&decide (0≤a)&&decide (0≤b)
def Zrg:Znb:=fun f args _=>bif Nat.beq f 39 then
 match args with
 | [.int .i64 code,.int .u32 a,.int .u32 b]=>some (Con.pure [.int .i64 code,.int .u32 a,.int .u32 b] (ZOk code a b),[],ZLQ code a b=true)
 | _=>none
 else none
theorem Zoo:Zi5 Tryz.prog 3 Zrg:=by
 intro f args s c ρ q h hq
 unfold Zrg at h
 obtain⟨h2,h3⟩:=Qy h
 clear h
 have h2:=eB h2
 subst h2
 split at h3
 ·rename_i code a b
  cases h3
  unfold ZLQ at hq
  simp only[Bool.and_eq_true,Bool.or_eq_true,decide_eq_true_eq] at hq
  obtain⟨⟨hx,ha⟩,hb⟩:=hq
  obtain⟨x,rfl⟩:=Int.eq_ofNat_of_zero_le ha
  obtain⟨y,rfl⟩:=Int.eq_ofNat_of_zero_le hb
  refine QE (d:=1) (Q9 ZmB (by kernel_rfl)) (fun u hu => ?_) ?_ fun w => ?_
  ·simp only[List.mem_cons,List.not_mem_nil,or_false] at hu
   rcases hu with rfl|rfl|rfl<;>rfl
  ·unfold ZOk
   split
   ·rfl
   ·split<;>rfl
  ·exact Zsg code x y w (hx.elim (fun hx=>hx.elim .inl fun h => .inr (.inl h)) fun hx => .inr (.inr ⟨hx.1,by have:=hx.2; omega⟩))
 ·cases h3
def Jz:Sy.Heap:=[(0,⟨false,none,ZK,none⟩)]
def YM (a b c d e f g:Int) (v:Bool):List Value:=[.int .u32 a,.int .u8 b,.int .u16 c,.int .u16 d,.int .u16 e,.int .u16 f,.int .u32 g,.bool v]
def atN {α:Type} (d:α) (i:Nat):List (Nat×α)→α
 | []=>d
 | x::l=>bif Nat.beq x.1 i then x.2 else atN d i l
def frLk (l:List (Nat×List Value)):Nat→Nat→List Value
 | _,0=>[]
 | i,n+1=>atN (YM 0 0 0 0 0 0 0 false) i l++frLk l (i+1) n
def frV (l:List (Nat×List Value)):Value:=.agg ⟨frLk l 0 17⟩
def ZLl (k:IntKind):List (Nat×Int)→Nat→Nat→List Value
 | _,_,0=>[]
 | [],i,n+1 => .int k 0::ZLl k [] (i+1) n
 | x::l,i,n+1=>bif Nat.beq x.1 i then .int k x.2::ZLl k l (i+1) n else .int k 0::ZLl k (x::l) (i+1) n
def arC (rw:Bool) (by' tg:List (Nat×Int)):Sy.Heap:=[(67,⟨rw,none,[.pointer (some ⟨66,0,none⟩),.slice (some ⟨64,0,none⟩) 4096 (big+64)],none⟩),(66,⟨rw,none,[.int .i64 256,.slice (some ⟨65,0,none⟩) 4 (big+65)],none⟩),(65,⟨rw,some (65,1),ZLl .u64 tg 0 4,none⟩),(64,⟨rw,some (64,1),ZLl .u8 by' 0 4096,none⟩)]
def Zrh:List (Nat×Nat):=[(65,4),(64,4096)]
def ZLm:FuncId→List Value→Option Con:=fun f args=>bif Nat.beq f 39 then
 match args with
 | [.int .i64 code,.int .u32 a,.int .u32 b]=>bif ZLQ code a b then some (Con.pure [.int .i64 code,.int .u32 a,.int .u32 b] (ZOk code a b)) else none
 | _=>none
 else none
theorem Zwd:∀ f args c,ZLm f args=some c→ConOk Tryz.prog f 3 c∧FlatC c:=by
 intro f args c h
 unfold ZLm at h
 obtain⟨h2,h3⟩:=Qy h
 split at h3
 ·rename_i code a b
  obtain⟨h4,h5⟩:=Qy h3
  cases h5
  refine⟨Zoo f [.int .i64 code,.int .u32 a,.int .u32 b] ⟨64,[],[],0,[],0,True⟩ _ [] (ZLQ code a b=true) ?_ h4,⟨fun x hx=>by cases hx⟩⟩
  unfold Zrg
  rw[h2]
  rfl
 ·cases h3
def Zf3 (f:FuncId) (c:Con):Prop:=Znj 3 (evF Tryz.prog (Ztx 3 ZLm Zc) Zb 1000 40) f c
theorem Y2 {f:FuncId} {c:Con} (h:Zf3 f c=True):ConOk Tryz.prog f 3 c∧FlatC c:=Zi8 (Zm ZmB (Zqa Zwd (Zf _)) (Zh _) 40) h
def newC:Con:=⟨[.int .i64 16],64,[],[],.tuple ⟨[.pointer (some ⟨67,0,none⟩),.int .i64 0]⟩,68,arC true [] [],Zrh⟩
theorem ZEG:Zf3 9 newC=True:=by kernel_rfl
def k0C:Con:=⟨[(frV [(1,YM 256 0 256 320 27 0 0 true),(16,YM 0 0 0 64 5 0 0 true)]),(.agg ⟨[.int .i64 1,.int .i64 3,.int .i64 0,.int .i64 0,.int .i64 (-7)]⟩),.pointer (some ⟨67,0,none⟩)],68,Jz,[],(.tuple ⟨[(frV [(1,YM 256 0 256 320 27 0 0 true),(3,YM 4294967289 0 0 0 0 0 0 false),(16,YM 4 0 0 64 5 0 0 true)]),.int .i64 0]⟩),68,[],[]⟩
theorem ZLn:Zf3 13 k0C=True:=by kernel_rfl
def k1C:Con:=⟨[(frV [(1,YM 256 0 256 320 27 0 0 true),(3,YM 4294967289 0 0 0 0 0 0 false),(16,YM 4 0 0 64 5 0 0 true)]),(.agg ⟨[.int .i64 3,.int .i64 3,.int .i64 3,.int .i64 3,.int .i64 0]⟩),.pointer (some ⟨67,0,none⟩)],68,Jz,[],(.tuple ⟨[(frV [(1,YM 256 0 256 320 27 0 0 true),(3,YM 4294967282 0 0 0 0 0 0 false),(16,YM 8 0 0 64 5 0 0 true)]),.int .i64 0]⟩),68,[],[]⟩
theorem ZLo:Zf3 13 k1C=True:=by kernel_rfl
def k2C:Con:=⟨[(frV [(1,YM 256 0 256 320 27 0 0 true),(3,YM 4294967282 0 0 0 0 0 0 false),(16,YM 8 0 0 64 5 0 0 true)]),(.agg ⟨[.int .i64 22,.int .i64 3,.int .i64 1,.int .i64 0,.int .i64 2]⟩),.pointer (some ⟨67,0,none⟩)],68,arC false [] []++Jz,Zrh,(.tuple ⟨[(frV []),.int .i64 5]⟩),68,[],[]⟩
theorem ZLp:Zf3 13 k2C=True:=by kernel_rfl
def k3C:Con:=⟨[(frV [(1,YM 256 0 256 320 27 0 0 true),(3,YM 4294967282 0 0 0 0 0 0 false),(16,YM 8 0 0 64 5 0 0 true)]),(.agg ⟨[.int .i64 22,.int .i64 3,.int .i64 3,.int .i64 0,.int .i64 0]⟩),.pointer (some ⟨67,0,none⟩)],68,Jz,[],(.tuple ⟨[(frV []),.int .i64 1]⟩),68,[],[]⟩
theorem ZLq:Zf3 13 k3C=True:=by kernel_rfl
def k4C:Con:=⟨[(frV [(1,YM 256 0 256 320 27 0 0 true),(3,YM 4294967282 0 0 0 0 0 0 false),(16,YM 8 0 0 64 5 0 0 true)]),(.agg ⟨[.int .i64 24,.int .i64 1,.int .i64 1,.int .i64 0,.int .i64 16]⟩),.pointer (some ⟨67,0,none⟩)],68,arC true [] []++Jz,Zrh,(.tuple ⟨[(frV [(1,YM 256 0 256 320 27 0 0 true),(3,YM 4294967282 0 0 0 0 0 0 false),(16,YM 12 0 0 64 5 0 0 true)]),.int .i64 0]⟩),68,arC true [(273,1),(278,1),(279,64),(280,1),(281,27)] [(0,131072)],Zrh⟩
theorem ZLr:Zf3 13 k4C=True:=by kernel_rfl
def k5C:Con:=⟨[(frV [(1,YM 256 0 256 320 27 0 0 true),(3,YM 4294967282 0 0 0 0 0 0 false),(16,YM 8 0 0 64 5 0 0 true)]),(.agg ⟨[.int .i64 23,.int .i64 4,.int .i64 1,.int .i64 0,.int .i64 16]⟩),.pointer (some ⟨67,0,none⟩)],68,arC false [(273,1),(278,1),(279,64),(280,1),(281,27)] [(0,131072)]++Jz,Zrh,(.tuple ⟨[.int .i64 1,.bool true]⟩),68,[],[]⟩
theorem ZLs:Zf3 21 k5C=True:=by kernel_rfl
def ZpD:List (FuncId×Con):=[(13,k0C),(13,k1C),(13,k2C),(13,k3C),(13,k4C),(21,k5C)]
theorem ZsG:∀ x∈ZpD,ConOk Tryz.prog x.1 3 x.2∧FlatC x.2:=by
 intro x hx
 simp only[ZpD,List.mem_cons,List.not_mem_nil,or_false] at hx
 rcases hx with rfl|rfl|rfl|rfl|rfl|rfl
 ·exact Y2 ZLn
 ·exact Y2 ZLo
 ·exact Y2 ZLp
 ·exact Y2 ZLq
 ·exact Y2 ZLr
 ·exact Y2 ZLs
def k6C:Con:=⟨[(frV [(1,YM 256 0 256 320 27 0 0 true),(3,YM 4294967282 0 0 0 0 0 0 false),(16,YM 8 0 0 64 5 0 0 true)]),(.agg ⟨[.int .i64 19,.int .i64 4,.int .i64 1,.int .i64 0,.int .i64 16]⟩),.pointer (some ⟨67,0,none⟩)],68,[],[],(.tuple ⟨[.int .i64 0,.bool false]⟩),68,[],[]⟩
theorem ZLt:Zf3 21 k6C=True:=by kernel_rfl
def k7C:Con:=⟨[(frV [(1,YM 256 0 256 320 27 0 0 true),(3,YM 4294967282 0 0 0 0 0 0 false),(16,YM 8 0 0 64 5 0 0 true)]),(.agg ⟨[.int .i64 23,.int .i64 4,.int .i64 1,.int .i64 0,.int .i64 8]⟩),.pointer (some ⟨67,0,none⟩)],68,arC false [(273,1),(278,1),(279,64),(280,1),(281,27)] [(0,131072)]++Jz,Zrh,(.tuple ⟨[.int .i64 0,.bool false]⟩),68,[],[]⟩
theorem ZLu:Zf3 21 k7C=True:=by kernel_rfl
def k8C:Con:=⟨[(frV [(1,YM 256 0 256 320 27 0 0 true),(3,YM 4294967282 0 0 0 0 0 0 false),(16,YM 8 0 0 64 5 0 0 true)]),(.agg ⟨[.int .i64 30,.int .i64 5,.int .i64 1,.int .i64 0,.int .i64 0]⟩),.pointer (some ⟨67,0,none⟩)],68,Jz,[],(.tuple ⟨[(frV []),.int .i64 3]⟩),68,[],[]⟩
theorem ZLv:Zf3 13 k8C=True:=by kernel_rfl
def k9C:Con:=⟨[(frV [(1,YM 256 0 256 320 27 0 0 true),(16,YM 0 0 0 64 5 0 0 true)]),(.agg ⟨[.int .i64 25,.int .i64 3,.int .i64 3,.int .i64 0,.int .i64 16]⟩),.pointer (some ⟨67,0,none⟩)],68,Jz,[],(.tuple ⟨[(frV [(1,YM 256 0 256 320 27 0 0 true),(16,YM 64 0 0 64 5 0 0 true)]),.int .i64 0]⟩),68,[],[]⟩
theorem ZLw:Zf3 13 k9C=True:=by kernel_rfl
def k10C:Con:=⟨[(frV [(1,YM 256 0 256 320 27 0 0 true),(16,YM 64 0 0 64 5 0 0 true)]),.pointer (some ⟨67,0,none⟩)],68,[],[],(.tuple ⟨[(.agg ⟨[.int .i64 0,.int .i64 0,.int .i64 0,.int .i64 0,.int .i64 0]⟩),.int .i64 4]⟩),68,[],[]⟩
theorem ZEH:Zf3 25 k10C=True:=by kernel_rfl
def k11C:Con:=⟨[(frV [(1,YM 256 0 256 320 27 0 0 true),(3,YM 4294967282 0 0 0 0 0 0 false),(16,YM 8 0 0 64 5 0 0 true)]),(.agg ⟨[.int .i64 1,.int .i64 16,.int .i64 0,.int .i64 0,.int .i64 0]⟩),.pointer (some ⟨67,0,none⟩)],68,Jz,[],(.tuple ⟨[(frV []),.int .i64 6]⟩),68,[],[]⟩
theorem ZEI:Zf3 13 k11C=True:=by kernel_rfl
def ZpE:List (FuncId×Con):=[(21,k6C),(21,k7C),(13,k8C),(13,k9C),(25,k10C),(13,k11C)]
theorem ZsH:∀ x∈ZpE,ConOk Tryz.prog x.1 3 x.2∧FlatC x.2:=by
 intro x hx
 simp only[ZpE,List.mem_cons,List.not_mem_nil,or_false] at hx
 rcases hx with rfl|rfl|rfl|rfl|rfl|rfl
 ·exact Y2 ZLt
 ·exact Y2 ZLu
 ·exact Y2 ZLv
 ·exact Y2 ZLw
 ·exact Y2 ZEH
 ·exact Y2 ZEI
def k12C:Con:=⟨[(frV [(1,YM 256 0 256 320 27 0 0 true),(3,YM 4294967282 0 0 0 0 0 0 false),(16,YM 8 0 0 64 5 0 0 true)]),(.agg ⟨[.int .i64 6,.int .i64 3,.int .i64 3,.int .i64 0,.int .i64 0]⟩),.pointer (some ⟨67,0,none⟩)],68,Jz,[],(.tuple ⟨[(frV []),.int .i64 7]⟩),68,[],[]⟩
theorem ZEJ:Zf3 13 k12C=True:=by kernel_rfl
def k13C:Con:=⟨[(frV [(1,YM 256 0 256 320 3 0 0 true),(3,YM 4294967282 0 0 0 0 0 0 false),(16,YM 8 0 0 64 5 0 0 true)]),(.agg ⟨[.int .i64 24,.int .i64 1,.int .i64 1,.int .i64 0,.int .i64 0]⟩),.pointer (some ⟨67,0,none⟩)],68,Jz,[],(.tuple ⟨[(frV []),.int .i64 3]⟩),68,[],[]⟩
theorem ZEK:Zf3 13 k13C=True:=by kernel_rfl
def k14C:Con:=⟨[(frV [(1,YM 256 0 256 320 3 0 0 true),(3,YM 4294967282 0 0 0 0 0 0 false),(16,YM 8 0 0 64 5 0 0 true)]),(.agg ⟨[.int .i64 23,.int .i64 4,.int .i64 1,.int .i64 0,.int .i64 16]⟩),.pointer (some ⟨67,0,none⟩)],68,arC false [(273,1),(278,1),(279,64),(280,1),(281,27)] [(0,131072)]++Jz,Zrh,(.tuple ⟨[(frV [(1,YM 256 0 256 320 3 0 0 true),(3,YM 4294967282 0 0 0 0 0 0 false),(4,YM 256 0 256 320 27 0 0 false),(16,YM 12 0 0 64 5 0 0 true)]),.int .i64 0]⟩),68,[],[]⟩
theorem ZEL:Zf3 13 k14C=True:=by kernel_rfl
def k15C:Con:=⟨[(frV [(1,YM 256 0 256 320 27 0 0 true),(3,YM 4294967282 0 0 0 0 0 0 false),(16,YM 8 0 0 64 5 0 0 true)]),(.agg ⟨[.int .i64 29,.int .i64 2,.int .i64 0,.int .i64 0,.int .i64 3]⟩),.pointer (some ⟨67,0,none⟩)],68,Jz,[],(.tuple ⟨[(frV [(1,YM 256 0 256 320 27 0 0 true),(2,YM 12 0 0 64 5 0 0 true),(3,YM 4294967282 0 0 0 0 0 0 false),(16,YM 20 0 0 64 5 0 0 true)]),.int .i64 0]⟩),68,[],[]⟩
theorem ZEM:Zf3 13 k15C=True:=by kernel_rfl
def k16C:Con:=⟨[(frV [(1,YM 256 0 256 320 27 0 0 true),(3,YM 4294967282 0 0 0 0 0 0 false),(16,YM 8 0 0 64 5 0 0 true)]),(.agg ⟨[.int .i64 52,.int .i64 0,.int .i64 0,.int .i64 0,.int .i64 3]⟩),.pointer (some ⟨67,0,none⟩)],68,Jz,[],(.tuple ⟨[(frV [(1,YM 256 0 256 320 27 0 0 true),(3,YM 4294967282 0 0 0 0 0 0 false),(16,YM 8 0 0 64 5 0 0 true)]),.int .i64 0]⟩),68,[],[]⟩
theorem ZEN:Zf3 13 k16C=True:=by kernel_rfl
def k17C:Con:=⟨[(frV [(1,YM 256 0 256 320 27 0 0 true),(16,YM 0 0 0 64 5 0 0 true)]),.pointer (some ⟨67,0,none⟩)],68,arC false [(273,1),(278,1),(279,64),(280,1),(281,27)] [(0,131072)]++Jz,Zrh,(.tuple ⟨[(.agg ⟨[.int .i64 0,.int .i64 0,.int .i64 0,.int .i64 0,.int .i64 0]⟩),.int .i64 0]⟩),68,[],[]⟩
theorem ZEO:Zf3 25 k17C=True:=by kernel_rfl
def ZpF:List (FuncId×Con):=[(13,k12C),(13,k13C),(13,k14C),(13,k15C),(13,k16C),(25,k17C)]
theorem ZsI:∀ x∈ZpF,ConOk Tryz.prog x.1 3 x.2∧FlatC x.2:=by
 intro x hx
 simp only[ZpF,List.mem_cons,List.not_mem_nil,or_false] at hx
 rcases hx with rfl|rfl|rfl|rfl|rfl|rfl
 ·exact Y2 ZEJ
 ·exact Y2 ZEK
 ·exact Y2 ZEL
 ·exact Y2 ZEM
 ·exact Y2 ZEN
 ·exact Y2 ZEO
def k18C:Con:=⟨[(frV [(1,YM 256 0 256 320 27 0 0 true),(3,YM 4294967282 0 0 0 0 0 0 false),(16,YM 8 0 0 64 5 0 0 true)]),(.agg ⟨[.int .i64 44,.int .i64 7,.int .i64 1,.int .i64 0,.int .i64 0]⟩),.pointer (some ⟨67,0,none⟩)],68,Jz,[],(.tuple ⟨[(frV [(1,YM 256 0 256 320 27 0 0 true),(3,YM 4294967282 0 0 0 0 0 0 false),(7,YM 64 0 0 0 0 0 0 false),(16,YM 12 0 0 64 5 0 0 true)]),.int .i64 0]⟩),68,[],[]⟩
theorem ZEP:Zf3 13 k18C=True:=by kernel_rfl
def k19C:Con:=⟨[(frV [(1,YM 0 21 0 2048 1 0 0 true),(3,YM 4294967282 0 0 0 0 0 0 false),(16,YM 8 0 0 64 5 0 0 true)]),(.agg ⟨[.int .i64 44,.int .i64 7,.int .i64 1,.int .i64 0,.int .i64 0]⟩),.pointer (some ⟨67,0,none⟩)],68,Jz,[],(.tuple ⟨[(frV [(1,YM 0 21 0 2048 1 0 0 true),(3,YM 4294967282 0 0 0 0 0 0 false),(7,YM 4294967295 0 0 0 0 0 0 false),(16,YM 12 0 0 64 5 0 0 true)]),.int .i64 0]⟩),68,[],[]⟩
theorem ZEQ:Zf3 13 k19C=True:=by kernel_rfl
def k20C:Con:=⟨[(frV [(1,YM 65536 21 0 2048 1 0 0 true),(3,YM 4294967282 0 0 0 0 0 0 false),(16,YM 8 0 0 64 5 0 0 true)]),(.agg ⟨[.int .i64 19,.int .i64 7,.int .i64 1,.int .i64 0,.int .i64 0]⟩),.pointer (some ⟨67,0,none⟩)],68,arC false [(273,1),(278,1),(279,64),(280,1),(281,27)] [(0,131072)]++Jz,Zrh,(.tuple ⟨[(frV []),.int .i64 4]⟩),68,[],[]⟩
theorem ZER:Zf3 13 k20C=True:=by kernel_rfl
def k21C:Con:=⟨[(frV [(1,YM 256 0 256 320 27 0 0 true),(3,YM 4294967282 0 0 0 0 0 0 false),(5,YM 32 0 0 256 4 0 0 true),(16,YM 8 0 0 64 5 0 0 true)]),(.agg ⟨[.int .i64 30,.int .i64 5,.int .i64 5,.int .i64 0,.int .i64 0]⟩),.pointer (some ⟨67,0,none⟩)],68,Jz,[],(.tuple ⟨[(frV [(1,YM 256 0 256 320 27 0 0 true),(3,YM 4294967282 0 0 0 0 0 0 false),(5,YM 12 0 0 64 5 0 0 true),(16,YM 32 0 0 256 4 0 0 true)]),.int .i64 0]⟩),68,[],[]⟩
theorem ZES:Zf3 13 k21C=True:=by kernel_rfl
def k22C:Con:=⟨[(frV [(1,YM 256 0 256 320 27 0 0 true),(3,YM 4294967282 0 0 0 0 0 0 false),(5,YM 32 0 0 256 4 3 0 true),(16,YM 8 0 0 64 5 0 0 true)]),(.agg ⟨[.int .i64 30,.int .i64 6,.int .i64 5,.int .i64 0,.int .i64 0]⟩),.pointer (some ⟨67,0,none⟩)],68,Jz,[],(.tuple ⟨[(frV []),.int .i64 2]⟩),68,[],[]⟩
theorem ZET:Zf3 13 k22C=True:=by kernel_rfl
def k23C:Con:=⟨[(frV [(1,YM 256 0 256 320 27 0 0 true),(3,YM 4294967289 0 0 0 0 0 0 false),(16,YM 4 0 0 64 5 0 0 true)]),(.agg ⟨[.int .i64 22,.int .i64 3,.int .i64 1,.int .i64 0,.int .i64 4]⟩),.pointer (some ⟨67,0,none⟩)],68,arC true [] []++Jz,Zrh,(.tuple ⟨[(frV [(1,YM 256 0 256 320 27 0 0 true),(3,YM 4294967289 0 0 0 0 0 0 false),(16,YM 8 0 0 64 5 0 0 true)]),.int .i64 0]⟩),68,arC true [(260,249),(261,255),(262,255),(263,255)] [],Zrh⟩
theorem ZEU:Zf3 13 k23C=True:=by kernel_rfl
def ZpG:List (FuncId×Con):=[(13,k18C),(13,k19C),(13,k20C),(13,k21C),(13,k22C),(13,k23C)]
theorem ZsJ:∀ x∈ZpG,ConOk Tryz.prog x.1 3 x.2∧FlatC x.2:=by
 intro x hx
 simp only[ZpG,List.mem_cons,List.not_mem_nil,or_false] at hx
 rcases hx with rfl|rfl|rfl|rfl|rfl|rfl
 ·exact Y2 ZEP
 ·exact Y2 ZEQ
 ·exact Y2 ZER
 ·exact Y2 ZES
 ·exact Y2 ZET
 ·exact Y2 ZEU
def k24C:Con:=⟨[(frV [(1,YM 256 0 256 320 27 0 0 true),(3,YM 4294967289 0 0 0 0 0 0 false),(16,YM 8 0 0 64 5 0 0 true)]),(.agg ⟨[.int .i64 22,.int .i64 3,.int .i64 1,.int .i64 0,.int .i64 62]⟩),.pointer (some ⟨67,0,none⟩)],68,Jz,[],(.tuple ⟨[(frV []),.int .i64 4]⟩),68,[],[]⟩
theorem ZEV:Zf3 13 k24C=True:=by kernel_rfl
def k25C:Con:=⟨[(frV [(1,YM 256 0 256 320 27 0 0 true),(3,YM 4294967289 0 0 0 0 0 0 false),(16,YM 8 0 0 64 5 0 0 true)]),(.agg ⟨[.int .i64 53,.int .i64 0,.int .i64 0,.int .i64 0,.int .i64 0]⟩),.pointer (some ⟨67,0,none⟩)],68,Jz,[],(.tuple ⟨[(frV []),.int .i64 6]⟩),68,[],[]⟩
theorem ZEW:Zf3 13 k25C=True:=by kernel_rfl
def k26C:Con:=⟨[(frV [(1,YM 256 0 256 320 27 0 0 true),(3,YM 4294967289 0 0 0 0 0 0 false),(16,YM 8 0 0 64 5 0 0 true)]),(.agg ⟨[.int .i64 24,.int .i64 1,.int .i64 1,.int .i64 0,.int .i64 16]⟩),.pointer (some ⟨67,0,none⟩)],68,arC true [(260,249),(261,255),(262,255),(263,255)] []++Jz,Zrh,(.tuple ⟨[(frV [(1,YM 256 0 256 320 27 0 0 true),(3,YM 4294967289 0 0 0 0 0 0 false),(16,YM 12 0 0 64 5 0 0 true)]),.int .i64 0]⟩),68,arC true [(260,249),(261,255),(262,255),(263,255),(273,1),(278,1),(279,64),(280,1),(281,27)] [(0,131072)],Zrh⟩
theorem ZEX:Zf3 13 k26C=True:=by kernel_rfl
def k27C:Con:=⟨[(frV [(1,YM 256 0 256 320 27 0 0 true),(3,YM 4294967289 0 0 0 0 0 0 false),(16,YM 8 0 0 64 5 0 0 true)]),(.agg ⟨[.int .i64 23,.int .i64 4,.int .i64 1,.int .i64 0,.int .i64 16]⟩),.pointer (some ⟨67,0,none⟩)],68,arC false [(260,249),(261,255),(262,255),(263,255),(273,1),(278,1),(279,64),(280,1),(281,27)] [(0,131072)]++Jz,Zrh,(.tuple ⟨[(frV [(1,YM 256 0 256 320 27 0 0 true),(3,YM 4294967289 0 0 0 0 0 0 false),(4,YM 256 0 256 320 27 0 0 true),(16,YM 12 0 0 64 5 0 0 true)]),.int .i64 0]⟩),68,[],[]⟩
theorem ZEY:Zf3 13 k27C=True:=by kernel_rfl
def ZpH:List (FuncId×Con):=[(13,k24C),(13,k25C),(13,k26C),(13,k27C)]
theorem ZsK:∀ x∈ZpH,ConOk Tryz.prog x.1 3 x.2∧FlatC x.2:=by
 intro x hx
 simp only[ZpH,List.mem_cons,List.not_mem_nil,or_false] at hx
 rcases hx with rfl|rfl|rfl|rfl
 ·exact Y2 ZEV
 ·exact Y2 ZEW
 ·exact Y2 ZEX
 ·exact Y2 ZEY
def Zz6:List (FuncId×Con):=(9,newC)::(ZpD++(ZpE++(ZpF++(ZpG++ZpH))))
theorem Zri:∀ x∈Zz6,ConOk Tryz.prog x.1 3 x.2∧FlatC x.2:=by
 intro x hx
 simp only[Zz6,List.mem_cons,List.mem_append] at hx
 rcases hx with rfl|h|h|h|h|h
 ·exact Y2 ZEG
 ·exact ZsG x h
 ·exact ZsH x h
 ·exact ZsI x h
 ·exact ZsJ x h
 ·exact ZsK x h
def ZA7:Con:=⟨[],64,Jz,[],.bool true,64,[],[]⟩
def LRun (f:FuncId) (c:Con):Prop:=Znj 3 (evF Tryz.prog (ZwR 3 Zz6 (Ztx 3 ZLm Zc)) Zb 1000 40) f c
theorem Zwe {f:FuncId} {c:Con} (h:LRun f c=True):ConOk Tryz.prog f 3 c∧FlatC c:=Zi8 (Zm ZmB (ZwS Zri (Zqa Zwd (Zf _))) (Zh _) 40) h
theorem Zop:LRun 10 ZA7=True:=by kernel_rfl
theorem ZA8:ConOk Tryz.prog 10 3 (gwC [] ZK (.bool true))∧FlatC (gwC [] ZK (.bool true)):=Zwe Zop
theorem Zg7 {k n:Nat} (h:ZjS k n):k=0∨k=1∨k=2:=by obtain⟨h1,_⟩:=h; omega
theorem ZmC {op:Int} (h:0<Xp op):op=17∨op=18∨op=19∨op=20∨op=21∨op=22∨op=23∨op=24:=by
 unfold Xp at h
 split at h
 ·omega
 ·split at h
  ·omega
  ·split at h
   ·omega
   ·split at h
    ·omega
    ·omega
def ZmD (fr:Nat→Cp) (i:In) (k:Nat) (l:List Pt):Prop:=∃ (call:QM) (T:List (Nat×Bool)) (q:Prop),Zs Tryz.prog call∧obs (call 6 [Xu fr,i.val,sl1 k 64 l.length] ⟨65,Uu k 64 (Yw l)++Y3 ZK,[],0,T,0,True⟩)=some (.bool true,q)∧q
theorem Zwf {k:Nat} {l:List Pt} {fr:Nat→Cp} {i:In} {dc rd:Con} {zs2:List UInt8} {f2:Nat→Bool} (hfr:YR fr) (hk:ZjS k l.length) (hok:∀ x∈l,x.Ok) (hd:ConOk Tryz.prog 13 3 dc∧FlatC dc) (hrd:ConOk Tryz.prog 23 3 rd∧FlatC rd) (h2:ArOk zs2 4096 256 4) :
  Zs Tryz.prog (evF Tryz.prog (Zk 3 (Za (dpL k l ZK fr i (ZLN fr i 4096) (ZsC fr i 4096) dc rd (saC zs2 f2 4096 256 4) (Qx l (QC l)).1 (Qx l (QC l)).2 4096 256 4)) Zc) Zb 100 20):=by
 refine Zm (L:=100) Zg (Zn (Zj fun x hx => ?_) (Zf _)) (Zh _) 20
 have h1:=Zol l (QC l)
 simp only[dpL,List.mem_cons,List.not_mem_nil,or_false] at hx
 rcases hx with rfl|rfl|rfl|rfl|rfl|rfl|rfl
 ·exact Zv8 k l hk hok
 ·exact ZEf fr i _ _ 4096 256 4 h1 hfr
 ·exact ZEe fr i _ _ 4096 256 (by omega) hfr
 ·exact hd
 ·exact hrd
 ·exact ZK6 zs2 f2 4096 256 4 16 h2 rfl rfl (by omega) (by omega)
 ·exact ZA8
theorem ZLx (fr gr:Nat→Cp) (i:In) (k:Nat) (l:List Pt) (t:Nat) (hfr:YR fr) (hk:ZjS k l.length) (hok:∀ x∈l,x.Ok) (hd:ConOk Tryz.prog 13 3 (Zdr (mvA fr i) gr t (Qx l (QC l)).1 (Qx l (QC l)).2 4096 256 4)∧FlatC (Zdr (mvA fr i) gr t (Qx l (QC l)).1 (Qx l (QC l)).2 4096 256 4)) (hrd:ConOk Tryz.prog 23 3 (VU fr i gr t (Qx l (QC l)).1 (Qx l (QC l)).2 4096 256)∧FlatC (VU fr i gr t (Qx l (QC l)).1 (Qx l (QC l)).2 4096 256)):ZmD fr i k l:=by
 have p1:∀ (p:Nat→Bool),(Yw l).all (okV p 3)=true:=fun p=>ZE (Wu l)
 have p2:∀ (σ:Nat→Nat),(Yw l).map (rnV σ 3)=Yw l:=fun σ=>ZP (Wu l)
 have v1:=qV1 4
 have v2:=qV2 4
 have u1:=qU1
 have u2:=qU2
 have b1:∀ (f:Nat→Bool) (p:Nat→Bool),(bls f 256).all (okV p 3)=true:=fun f p=>ZE (Q4 f 256)
 have b2:∀ (f:Nat→Bool) (σ:Nat→Nat),(bls f 256).map (rnV σ 3)=bls f 256:=fun f σ=>ZP (Q4 f 256)
 have hb:=Zwf (i:=i) (f2:=(Qx l (QC l)).2) hfr hk hok hd hrd (Zol l (QC l))
 rcases Zg7 hk with rfl|rfl|rfl
 ·exact⟨_,_,_,hb,ZOe.v i fr gr l ZK _ _ t _ _ 4096 256 4,by simp only[p1,p2,v1,v2,u1,u2,b1,b2,ZT,ZC,beq_self_eq_true,qT5.v,cond_true]⟩
 ·exact⟨_,_,_,hb,ZOg.v i fr gr l ZK _ _ t _ _ 4096 256 4,by simp only[p1,p2,v1,v2,u1,u2,b1,b2,ZT,ZC,beq_self_eq_true,qT5.v,cond_true]⟩
 ·exact⟨_,_,_,hb,ZOi.v i fr gr l ZK _ _ t _ _ 4096 256 4,by simp only[p1,p2,v1,v2,u1,u2,b1,b2,ZT,ZC,beq_self_eq_true,qT5.v,cond_true]⟩
theorem ZLy (fr gr:Nat→Cp) (i:In) (k:Nat) (l:List Pt) (z2:List UInt8) (f2:Nat→Bool) (hfr:YR fr) (hk:ZjS k l.length) (hok:∀ x∈l,x.Ok) (h2:ArOk z2 4096 256 4) (hd:ConOk Tryz.prog 13 3 (ZAK (mvA fr i) gr (Qx l (QC l)).1 z2 (Qx l (QC l)).2 f2 4096 256 4)∧FlatC (ZAK (mvA fr i) gr (Qx l (QC l)).1 z2 (Qx l (QC l)).2 f2 4096 256 4)) (hrd:ConOk Tryz.prog 23 3 (Zpw fr i gr (Qx l (QC l)).1 z2 (Qx l (QC l)).2 f2 4096 256)∧FlatC (Zpw fr i gr (Qx l (QC l)).1 z2 (Qx l (QC l)).2 f2 4096 256)):ZmD fr i k l:=by
 have p1:∀ (p:Nat→Bool),(Yw l).all (okV p 3)=true:=fun p=>ZE (Wu l)
 have p2:∀ (σ:Nat→Nat),(Yw l).map (rnV σ 3)=Yw l:=fun σ=>ZP (Wu l)
 have v1:=qV1 4
 have v2:=qV2 4
 have u1:=qU1
 have u2:=qU2
 have b1:∀ (f:Nat→Bool) (p:Nat→Bool),(bls f 256).all (okV p 3)=true:=fun f p=>ZE (Q4 f 256)
 have b2:∀ (f:Nat→Bool) (σ:Nat→Nat),(bls f 256).map (rnV σ 3)=bls f 256:=fun f σ=>ZP (Q4 f 256)
 have hb:=Zwf (i:=i) (f2:=f2) hfr hk hok hd hrd h2
 rcases Zg7 hk with rfl|rfl|rfl
 ·exact⟨_,_,_,hb,ZOf.v i fr gr l ZK _ _ _ z2 _ f2 4096 256 4,by simp only[p1,p2,v1,v2,u1,u2,b1,b2,ZT,ZC,beq_self_eq_true,qT5.v,cond_true]⟩
 ·exact⟨_,_,_,hb,ZOh.v i fr gr l ZK _ _ _ z2 _ f2 4096 256 4,by simp only[p1,p2,v1,v2,u1,u2,b1,b2,ZT,ZC,beq_self_eq_true,qT5.v,cond_true]⟩
 ·exact⟨_,_,_,hb,ZOj.v i fr gr l ZK _ _ _ z2 _ f2 4096 256 4,by simp only[p1,p2,v1,v2,u1,u2,b1,b2,ZT,ZC,beq_self_eq_true,qT5.v,cond_true]⟩
theorem ZEZ {op:Int} (h:Xp op=0):¬ (17≤op∧op≤24):=by
 unfold Xp at h
 split at h
 ·cases h
 ·split at h
  ·cases h
  ·split at h
   ·cases h
   ·split at h
    ·cases h
    ·omega
theorem ZE0 {op:Int} (r7:1≤op) (r8:op≤53) (k53:¬ op=53) (k50:¬ op=50) (k51:¬ op=51) (k52:¬ op=52) (k29:¬ op=29) (k30:¬ op=30) (hw:Xp op=0) (hi:tkI op=false) (hj:rkI op=false) :
  op=1∨op=2∨op=16∨op=31∨op=42∨op=43∨op=44∨op=45∨op=46∨op=41∨op=32∨op=33∨op=34∨op=35∨op=36∨op=37∨op=38∨op=39∨op=40∨op=47∨op=48∨op=49:=by
 have h1:=ZEZ hw
 have h2:¬ (3≤op∧op≤15):=of_decide_eq_false hj
 simp only[tkI,Bool.or_eq_false_iff,decide_eq_false_iff_not] at hi
 omega
theorem Zz7 (fr:Nat→Cp) (hfr:YR fr) (i:In) (k:Nat) (l:List Pt) (hk:ZjS k l.length) (hok:∀ x∈l,x.Ok):ZmD fr i k l:=by
 have har:=Zol l (QC l)
 have hak:=Zv6 l (QC l)
 have hN:(4096:Nat)≤262144:=by omega
 have R:=fun(i:In) (gr:Nat→Cp) (t:Nat) hd hrd=>ZLx fr gr i k l t hfr hk hok hd hrd
 cases hm:XC i
 ·exact R i frN 6 (ZHk fr i _ _ 4096 256 4 hfr hm) (ZKO fr i _ _ 4096 256 hm)
 obtain⟨r1,r2,r3,r4,r5,r6,r7,r8⟩:=ZgW hm
 obtain⟨op,a,b,c,m⟩:=i
 simp only at r1 r2 r3 r4 r5 r6 r7 r8
 obtain⟨a,rfl⟩:=Int.eq_ofNat_of_zero_le r1
 obtain⟨b,rfl⟩:=Int.eq_ofNat_of_zero_le r3
 obtain⟨c,rfl⟩:=Int.eq_ofNat_of_zero_le r5
 have a0:a<16:=by omega
 have b0:b<16:=by omega
 have c0:c<16:=by omega
 have k0:¬ op=0:=by omega
 change XC (inS op a b c m)=true at hm
 show ZmD fr (inS op a b c m) k l
 by_cases k53:op=53
 ·subst k53; exact R _ frN 6 (Zvs fr a b c m _ _ 4096 256 4 hfr hm) (ZzK fr a b c m _ _ 4096 256 hfr hm)
 by_cases k50:op=50
 ·subst k50; exact R _ fr 0 (Zn4 fr a b c m _ _ 4096 256 4 hfr hm) (ZsD fr a b c m _ _ 4096 256 hfr hm)
 by_cases k51:op=51
 ·subst k51; exact R _ fr 0 (Zn5 fr a b c m _ _ 4096 256 4 hfr hm) (ZsE fr a b c m _ _ 4096 256 hfr hm)
 by_cases k52:op=52
 ·subst k52; exact R _ fr 0 (Zn6 fr a b c m _ _ 4096 256 4 hfr hm) (ZsF fr a b c m _ _ 4096 256 hfr hm)
 by_cases k29:op=29
 ·subst k29; exact R _ _ 0 (ZAL fr a b c m _ _ 4096 256 4 hfr a0 hm) (ZEg fr a b c m _ _ 4096 256 hfr a0 hm)
 by_cases k30:op=30
 ·subst k30
  by_cases ht:Vb (fr b) 4=0
  ·exact R _ _ 0 (Zvt fr a b c m _ _ 4096 256 4 hfr a0 b0 hm ht) (ZzL fr a b c m _ _ 4096 256 hfr a0 b0 hm ht)
  ·exact R _ frN _ (Zvu fr a b c m _ _ 4096 256 4 hfr a0 b0 hm ht) (ZzM fr a b c m _ _ 4096 256 hfr a0 b0 hm ht)
 by_cases hw:Xp op=0
 ·cases hi:tkI op
  ·cases hj:rkI op
   ·exact R _ _ 0 (ZAS fr op a b c m _ _ 4096 256 4 hfr a0 b0 c0 hm k53 k50 k51 k52 k29 k30 hw hi hj) (ZEo fr op a b c m _ _ 4096 256 hfr a0 b0 c0 hm k0 k53 k50 k51 k52 k29 k30 hw hi hj (ZE0 r7 r8 k53 k50 k51 k52 k29 k30 hw hi hj))
   ·by_cases ht:rkT op (fr c).C=0
    ·exact R _ _ 0 (ZAQ fr op a b c m _ _ 4096 256 4 hfr a0 b0 c0 hm k53 k50 k51 k52 k29 k30 hw hi hj ht) (ZEm fr op a b c m _ _ 4096 256 hfr a0 b0 c0 hm k0 k53 k50 k51 k52 k29 k30 hw hi hj ht)
    ·exact R _ frN _ (ZAR fr op a b c m _ _ 4096 256 4 hfr a0 b0 c0 hm k53 k50 k51 k52 k29 k30 hw hi hj ht) (ZEn fr op a b c m _ _ 4096 256 hfr a0 b0 c0 hm k0 k53 k50 k51 k52 k29 k30 hw hi hj ht)
  ·cases hkk:tkS op (fr a).C (fr b).C
   ·exact R _ _ 0 (ZAP fr op a b c m _ _ 4096 256 4 hfr a0 b0 hm k53 k50 k51 k52 k29 k30 hw hi hkk) (ZEl fr op a b c m _ _ 4096 256 hfr a0 b0 hm k0 k53 k50 k51 k52 k29 k30 hw hi hkk)
   ·exact R _ _ 0 (ZAO fr op a b c m _ _ 4096 256 4 hfr a0 b0 hm k53 k50 k51 k52 k29 k30 hw hi hkk) (ZEk fr op a b c m _ _ 4096 256 hfr a0 b0 hm k0 k53 k50 k51 k52 k29 k30 hw hi hkk)
 have hw:0<Xp op:=by omega
 have hT:=fun(hmv:ConOk Tryz.prog 37 3 (Kp fr (inS op a b c m) U1 (QL fr op a b m 4096) (Qx l (QC l)).1 (Qx l (QC l)).2 4096 256 4)∧FlatC (Kp fr (inS op a b c m) U1 (QL fr op a b m 4096) (Qx l (QC l)).1 (Qx l (QC l)).2 4096 256 4))
   (hrm:ConOk Tryz.prog 58 3 (Zds fr (inS op a b c m) U1 (QL fr op a b m 4096) (Qx l (QC l)).1 (Qx l (QC l)).2 4096 256)∧FlatC (Zds fr (inS op a b c m) U1 (QL fr op a b m 4096) (Qx l (QC l)).1 (Qx l (QC l)).2 4096 256)) (ht:QL fr op a b m 4096≠0) =>
  R _ frN _ (ZAM fr op a b c m _ _ 4096 256 4 hfr a0 hm k53 k50 k51 k52 k29 k30 hw _ _ hmv ht) (ZEh fr op a b c m _ _ 4096 256 hfr a0 hm k0 k53 k50 k51 k52 k29 k30 hw _ _ hrm ht)
 have hO:=fun(r:Cp) (hmv:ConOk Tryz.prog 37 3 (Kp fr (inS op a b c m) r 0 (Qx l (QC l)).1 (Qx l (QC l)).2 4096 256 4)∧FlatC (Kp fr (inS op a b c m) r 0 (Qx l (QC l)).1 (Qx l (QC l)).2 4096 256 4))
   (hrm:ConOk Tryz.prog 58 3 (Zds fr (inS op a b c m) r 0 (Qx l (QC l)).1 (Qx l (QC l)).2 4096 256)∧FlatC (Zds fr (inS op a b c m) r 0 (Qx l (QC l)).1 (Qx l (QC l)).2 4096 256)) =>
  R _ _ 0 (ZAN fr op a b c m _ _ 4096 256 4 hfr a0 hm k53 k50 k51 k52 k29 k30 hw r hmv) (ZEi fr op a b c m _ _ 4096 256 hfr a0 hm k0 k53 k50 k51 k52 k29 k30 hw r hrm)
 have hS:=fun(r:Cp) (zs2:List UInt8) (f2:Nat→Bool) (h2:ArOk zs2 4096 256 4)
   (hmv:ConOk Tryz.prog 37 3 (Zml (mvA fr (inS op a b c m)) (.tuple ⟨[r.val,.int .i64 0]⟩) (Qx l (QC l)).1 zs2 (Qx l (QC l)).2 f2 4096 256 4)∧FlatC (Zml (mvA fr (inS op a b c m)) (.tuple ⟨[r.val,.int .i64 0]⟩) (Qx l (QC l)).1 zs2 (Qx l (QC l)).2 f2 4096 256 4))
   (hrm:ConOk Tryz.prog 58 3 (ZmJ (Zkn fr (inS op a b c m)) (.tuple ⟨[r.val,.int .i64 0]⟩) (Qx l (QC l)).1 zs2 (Qx l (QC l)).2 f2 4096 256)∧FlatC (ZmJ (Zkn fr (inS op a b c m)) (.tuple ⟨[r.val,.int .i64 0]⟩) (Qx l (QC l)).1 zs2 (Qx l (QC l)).2 f2 4096 256)) =>
  ZLy fr _ (inS op a b c m) k l zs2 f2 hfr hk hok h2 (ZAT fr op a b c m _ _ 4096 256 4 hfr a0 hm k53 k50 k51 k52 k29 k30 hw r zs2 f2 hmv) (ZEj fr op a b c m _ _ 4096 256 hfr a0 hm k0 k53 k50 k51 k52 k29 k30 hw r zs2 f2 hrm)
 have hlen:∀ (i:Nat) (bs:List UInt8),i+bs.length≤4096→ArOk (Xt i bs (Qx l (QC l)).1) 4096 256 4:=fun i bs hi=>⟨by rw[ZcD _ _ _ (by rw[har.len]; exact hi),har.len],har.tags,har.words,har.few,har.big⟩
 by_cases ht:QL fr op a b m 4096=0
 ·obtain⟨hin,hal,_⟩:=VK (show V1 (fr b) (atS fr b m) (Xp op) (XT fr op a) 4096=0 from ht)
  rcases ZmC hw with rfl|rfl|rfl|rfl|rfl|rfl|rfl|rfl
  ·exact hO (Zdk (ZkT 1 (Qx l (QC l)).1 (atS fr b m))) (ZrX fr 17 a b c m _ _ 4096 256 4 har hfr a0 b0 (by omega) (by omega) (by omega) (by omega) hw (by omega) (by decide) ht) (ZJU fr a b c m _ _ 4096 256 hN hfr a0 b0 har.len ht)
  ·exact hO (Zdk (ZkT 2 (Qx l (QC l)).1 (atS fr b m))) (ZrX fr 18 a b c m _ _ 4096 256 4 har hfr a0 b0 (by omega) (by omega) (by omega) (by omega) hw (by omega) (by decide) ht) (ZJV fr a b c m _ _ 4096 256 hN hfr a0 b0 har.len ht)
  ·exact hO (Zdk (ZkT 4 (Qx l (QC l)).1 (atS fr b m))) (ZrX fr 19 a b c m _ _ 4096 256 4 har hfr a0 b0 (by omega) (by omega) (by omega) (by omega) hw (by omega) (by decide) ht) (ZJW fr a b c m _ _ 4096 256 hN hfr a0 b0 har.len ht)
  ·exact hS _ _ _ (hlen _ _ (by rw[Vs]; exact hin)) (ZAD fr a b c m _ _ 4096 256 4 har hfr a0 b0 ht) (ZJY fr a b c m _ _ 4096 256 hN hfr a0 b0 hak ht)
  ·exact hS _ _ _ (hlen _ _ (by rw[Vs]; exact hin)) (ZAE fr a b c m _ _ 4096 256 4 har hfr a0 b0 ht) (ZJZ fr a b c m _ _ 4096 256 hN hfr a0 b0 hak ht)
  ·exact hS _ _ _ (hlen _ _ (by rw[Vs]; exact hin)) (ZAF fr a b c m _ _ 4096 256 4 har hfr a0 b0 ht) (ZJ0 fr a b c m _ _ 4096 256 hN hfr a0 b0 hak ht)
  ·exact hO _ (ZGA fr a b c m _ _ 4096 256 4 har hfr a0 b0 _ (ZvI _ _ _ 4096 256 4 har hal hin) ht) (ZJX fr a b c m _ _ 4096 256 hN hfr a0 b0 har.len (by omega) ht)
  ·cases hV:(fr a).V
   ·exact hS _ _ _ (hlen _ _ (by rw[Zaq]; exact hin)) (ZGC fr a b c m _ _ 4096 256 4 har hfr a0 b0 hV ht) (ZDP fr a b c m _ _ 4096 256 hN hfr a0 b0 hV hak ht)
   ·exact hS _ _ _ (hlen _ _ (by rw[Zaq]; exact hin)) (ZGB fr a b c m _ _ 4096 256 4 har hfr a0 b0 hV ht) (ZDO fr a b c m _ _ 4096 256 hN hfr a0 b0 hV hak ht)
 ·rcases ZmC hw with rfl|rfl|rfl|rfl|rfl|rfl|rfl|rfl
  ·exact hT (ZnR fr 17 a b c m _ _ 4096 256 4 har hfr a0 b0 (by omega) (by omega) (by omega) (by omega) hw ht) (ZJN fr a b c m _ _ 4096 256 hN hfr a0 b0 ht) ht
  ·exact hT (ZnR fr 18 a b c m _ _ 4096 256 4 har hfr a0 b0 (by omega) (by omega) (by omega) (by omega) hw ht) (ZJO fr a b c m _ _ 4096 256 hN hfr a0 b0 ht) ht
  ·exact hT (ZnR fr 19 a b c m _ _ 4096 256 4 har hfr a0 b0 (by omega) (by omega) (by omega) (by omega) hw ht) (ZJP fr a b c m _ _ 4096 256 hN hfr a0 b0 ht) ht
  ·exact hT (ZAA fr a b c m _ _ 4096 256 4 har hfr a0 b0 ht) (ZJQ fr a b c m _ _ 4096 256 hN hfr a0 b0 ht) ht
  ·exact hT (ZAB fr a b c m _ _ 4096 256 4 har hfr a0 b0 ht) (ZJR fr a b c m _ _ 4096 256 hN hfr a0 b0 ht) ht
  ·exact hT (ZAC fr a b c m _ _ 4096 256 4 har hfr a0 b0 ht) (ZJS fr a b c m _ _ 4096 256 hN hfr a0 b0 ht) ht
  ·exact hT (ZnR fr 23 a b c m _ _ 4096 256 4 har hfr a0 b0 (by omega) (by omega) (by omega) (by omega) hw ht) (ZJT fr a b c m _ _ 4096 256 hN hfr a0 b0 ht) ht
  ·cases hV:(fr a).V
   ·exact hT (ZGz fr a b c m _ _ 4096 256 4 har hfr a0 b0 hV ht) (ZDN fr a b c m _ _ 4096 256 hN hfr a0 b0 hV ht) ht
   ·exact hT (ZGy fr a b c m _ _ 4096 256 4 har hfr a0 b0 hV ht) (ZDM fr a b c m _ _ 4096 256 hN hfr a0 b0 hV ht) ht
end Go.Proofs.YtagacmljbgkmoaaGreatDoor
namespace Go.Proofs.YtagacmljbgkmoaaGreatDoor
open Go.IntKind (u8 u16 u32 u64 i64)
open Go.ChangeShapes Go.WideShapes Go.Deep Go.RowKit
open Sy
set_option maxRecDepth 100000
structure S1Is (W:World) (v:Value) (k:Nat) (cells:List Value) (n B O C:Nat) (S:Option Nat):Prop where
 is:v=(match k with|0 => .slice none 0 0|1 => .slice (some ⟨B,O,S⟩) 0 C|_ => .slice (some ⟨B,O,none⟩) n C)
 ok:ZjS k n
 le:n≤C
 at_:2≤k→∃ arr ty fr,W.heap[B]? = some (.cells arr ty fr)∧O+cells.length≤arr.size∧∀ j v,cells[j]? = some v→arr[O+j]? = some v
section
variable {H:Type} {enc:TypeId×Value→H} {W:World} {base:Nat} {spare:Nat→Bool} {held:Bool}
theorem ZA9 {a:Addr} {v:Value} (h:W.cell? a=some v):∃ arr ty fr,W.heap[a.block]? = some (.cells arr ty fr)∧arr[a.off]? = some v∧a.spot=none:=by
 have hs:=World.cell?_spot h
 unfold World.cell? at h
 split at h
 ·rename_i c t f hb
  rw[hs] at h
  exact⟨c,t,f,hb,by simpa using h,hs⟩
 ·cases h
theorem ZOl {a:Addr} (h:a.spot=none) (i:Nat):(a.add i).block=a.block∧(a.add i).off=a.off+i:=by
 obtain⟨b,o,s⟩:=a
 subst h
 unfold Addr.add
 split<;>simp_all
theorem ZOm {a:Addr} {cells:List Value} (h0:0<cells.length) (h:∀ i v,cells[i]? = some v→W.cell? (a.add i)=some v):a.spot=none∧∃ arr ty fr,W.heap[a.block]? = some (.cells arr ty fr)∧a.off+cells.length≤arr.size∧∀ j v,cells[j]? = some v→arr[a.off+j]? = some v:=by
 have h1:=h 0 _ (List.getElem?_eq_getElem h0)
 rw[show a.add 0=a by unfold Addr.add; simp] at h1
 obtain⟨arr,ty,fr,q1,q2,q3⟩:=ZA9 h1
 have hat:∀ j v,cells[j]? = some v→arr[a.off+j]? = some v:=fun j v hj=>by
  obtain⟨arr',ty',fr',p1,p2,_⟩:=ZA9 (h j v hj)
  obtain⟨e1,e2⟩:=ZOl q3 j
  rw[e1,q1] at p1
  cases p1
  rw[e2] at p2
  exact p2
 refine⟨q3,arr,ty,fr,q1,?_,hat⟩
 have:=hat (cells.length-1) _ (List.getElem?_eq_getElem (by omega))
 have:=(Array.getElem?_eq_some_iff.1 this).1
 omega
theorem ZE1 {n:Nat} {u:Value} {y} (h:DataW.trod enc Tryz.prog W base spare held n 22 [u]=some y):∃ a:Nat,u = .int .u32 a∧a<4294967296:=by
 obtain⟨a,e,_,hw⟩:=DataW.trod_int Tryz.underlying22 h
 simp at e; subst e
 have b:=ZGD hw
 obtain⟨a,rfl⟩:=Int.eq_ofNat_of_zero_le b.1
 exact⟨a,rfl,by omega⟩
theorem Zwg {n:Nat} {u:Value} {y} (h:DataW.trod enc Tryz.prog W base spare held n 28 [u]=some y):∃ a:Nat,u = .int .u16 a∧a<65536:=by
 obtain⟨a,e,_,hw⟩:=DataW.trod_int Tryz.underlying28 h
 simp at e; subst e
 have b:=ZGE hw
 obtain⟨a,rfl⟩:=Int.eq_ofNat_of_zero_le b.1
 exact⟨a,rfl,by omega⟩
theorem k_u8 {n:Nat} {u:Value} {y} (h:DataW.trod enc Tryz.prog W base spare held n 5 [u]=some y):∃ a:Nat,u = .int .u8 a∧a<256:=by
 obtain⟨a,e,_,hw⟩:=DataW.trod_int Tryz.underlying5 h
 simp at e; subst e
 have b:=ZMq hw
 obtain⟨a,rfl⟩:=Int.eq_ofNat_of_zero_le b.1
 exact⟨a,rfl,by omega⟩
theorem Zwh {n:Nat} {u:Value} {y} (h:DataW.trod enc Tryz.prog W base spare held n 3 [u]=some y):∃ a:Int,u = .int .i64 a:=by
 obtain⟨a,e,_,hw⟩:=DataW.trod_int Tryz.underlying3 h
 simp at e; subst e
 exact⟨a,rfl⟩
theorem ZBa {n:Nat} {u:Value} {y} (h:DataW.trod enc Tryz.prog W base spare held n 4 [u]=some y):∃ a:Bool,u = .bool a:=by
 obtain⟨a,e,_⟩:=DataW.trod_bool Tryz.underlying4 h
 simp at e; subst e
 exact⟨a,rfl⟩
theorem ZE2 {fuel:Nat} {cs:List Value} {x} (h:DataW.trod enc Tryz.prog W base spare held fuel 30 cs=some x) (hl:cs.length=8):∃ c:Cp,cs=c.cs∧c.Ok:=by
 obtain⟨xs,n,_,_,_,hlen,hg⟩:=DataW.trod_struct Tryz.underlying30 h
 match cs,hl with
 | [u0,u1,u2,u3,u4,u5,u6,u7],_ =>
  have hx:∀ j,j<8→∃ y,xs[j]? = some y:=fun j hj=>⟨xs[j]'(by simp at hlen; omega),List.getElem?_eq_getElem _⟩
  obtain⟨y0,e0⟩:=hx 0 (by omega)
  obtain⟨y1,e1⟩:=hx 1 (by omega)
  obtain⟨y2,e2⟩:=hx 2 (by omega)
  obtain⟨y3,e3⟩:=hx 3 (by omega)
  obtain⟨y4,e4⟩:=hx 4 (by omega)
  obtain⟨y5,e5⟩:=hx 5 (by omega)
  obtain⟨y6,e6⟩:=hx 6 (by omega)
  obtain⟨y7,e7⟩:=hx 7 (by omega)
  have t0:=(hg 0 _ rfl).trans e0
  have t1:=(hg 1 _ rfl).trans e1
  have t2:=(hg 2 _ rfl).trans e2
  have t3:=(hg 3 _ rfl).trans e3
  have t4:=(hg 4 _ rfl).trans e4
  have t5:=(hg 5 _ rfl).trans e5
  have t6:=(hg 6 _ rfl).trans e6
  have t7:=(hg 7 _ rfl).trans e7
  have c22:Tryz.prog.cellsOf 22=1:=by kernel_rfl
  have c23:Tryz.prog.cellsOf 28=1:=by kernel_rfl
  have c24:Tryz.prog.cellsOf 5=1:=by kernel_rfl
  have c25:Tryz.prog.cellsOf 4=1:=by kernel_rfl
  replace t0:DataW.trod enc Tryz.prog W base spare held n 22 [u0]=some y0:=by simpa [c22,c23,c24,c25] using t0
  replace t1:DataW.trod enc Tryz.prog W base spare held n 5 [u1]=some y1:=by simpa [c22,c23,c24,c25] using t1
  replace t2:DataW.trod enc Tryz.prog W base spare held n 28 [u2]=some y2:=by simpa [c22,c23,c24,c25] using t2
  replace t3:DataW.trod enc Tryz.prog W base spare held n 28 [u3]=some y3:=by simpa [c22,c23,c24,c25] using t3
  replace t4:DataW.trod enc Tryz.prog W base spare held n 28 [u4]=some y4:=by simpa [c22,c23,c24,c25] using t4
  replace t5:DataW.trod enc Tryz.prog W base spare held n 28 [u5]=some y5:=by simpa [c22,c23,c24,c25] using t5
  replace t6:DataW.trod enc Tryz.prog W base spare held n 22 [u6]=some y6:=by simpa [c22,c23,c24,c25] using t6
  replace t7:DataW.trod enc Tryz.prog W base spare held n 4 [u7]=some y7:=by simpa [c22,c23,c24,c25] using t7
  obtain⟨cC,rfl,b0⟩:=ZE1 t0
  obtain⟨cE,rfl,b1⟩:=k_u8 t1
  obtain⟨cB,rfl,b2⟩:=Zwg t2
  obtain⟨cT,rfl,b3⟩:=Zwg t3
  obtain⟨cP,rfl,b4⟩:=Zwg t4
  obtain⟨cY,rfl,b5⟩:=Zwg t5
  obtain⟨cR,rfl,b6⟩:=ZE1 t6
  obtain⟨cV,rfl⟩:=ZBa t7
  exact⟨⟨cC,cE,cB,cT,cP,cY,cR,cV⟩,rfl,⟨b0,b1,b2,b3,b4,b5,b6⟩⟩
theorem ZOn {fuel:Nat} {cs:List Value} {x} (h:DataW.trod enc Tryz.prog W base spare held fuel 90 cs=some x) (hl:cs.length=11):∃ y:Pt,cs=y.cs∧y.Ok:=by
 obtain⟨xs,n,_,_,_,hlen,hg⟩:=DataW.trod_struct Tryz.underlying90 h
 match cs,hl with
 | [z0,z1,z2,z3,z4,z5,z6,z7,z8,z9,z10],_ =>
  have hx:∀ j,j<4→∃ y,xs[j]? = some y:=fun j hj=>⟨xs[j]'(by simp at hlen; omega),List.getElem?_eq_getElem _⟩
  obtain⟨y0,e0⟩:=hx 0 (by omega)
  obtain⟨y1,e1⟩:=hx 1 (by omega)
  obtain⟨y2,e2⟩:=hx 2 (by omega)
  obtain⟨y3,e3⟩:=hx 3 (by omega)
  have t0:=(hg 0 _ rfl).trans e0
  have t1:=(hg 1 _ rfl).trans e1
  have t2:=(hg 2 _ rfl).trans e2
  have t3:=(hg 3 _ rfl).trans e3
  have c22:Tryz.prog.cellsOf 22=1:=by kernel_rfl
  have c23:Tryz.prog.cellsOf 28=1:=by kernel_rfl
  have c24:Tryz.prog.cellsOf 4=1:=by kernel_rfl
  have c25:Tryz.prog.cellsOf 30=8:=by kernel_rfl
  replace t0:DataW.trod enc Tryz.prog W base spare held n 28 [z0]=some y0:=by simpa [c22,c23,c24,c25] using t0
  replace t1:DataW.trod enc Tryz.prog W base spare held n 4 [z1]=some y1:=by simpa [c22,c23,c24,c25] using t1
  replace t2:DataW.trod enc Tryz.prog W base spare held n 22 [z2]=some y2:=by simpa [c22,c23,c24,c25] using t2
  replace t3:DataW.trod enc Tryz.prog W base spare held n 30 [z3,z4,z5,z6,z7,z8,z9,z10]=some y3:=by simpa [c22,c23,c24,c25] using t3
  obtain⟨a,rfl,b0⟩:=Zwg t0
  obtain⟨w,rfl⟩:=ZBa t1
  obtain⟨v,rfl,b2⟩:=ZE1 t2
  obtain⟨c,he,hc⟩:=ZE2 t3 rfl
  exact⟨⟨a,w,v,c⟩,by rw[he]; rfl,b0,b2,hc⟩
theorem ZBb (fr:Nat→Cp):∀ (n k:Nat) (cs:List Value),cs.length=8*n→(∀ j,j<n→(cs.drop (8*j)).take 8=(fr (k+j)).cs)→cs=frK fr k n
 | 0,_,cs,h,_=>List.length_eq_zero_iff.1 (by omega)
 | n+1,k,cs,h,hj=>by
  have h0:=hj 0 (by omega)
  rw[Nat.mul_zero,List.drop_zero,Nat.add_zero] at h0
  have h1:=ZBb fr n (k+1) (cs.drop 8) (by rw[List.length_drop]; omega) (fun j hjn=>by
   have:=hj (j+1) (by omega)
   rw[List.drop_drop,show 8+8*j=8*(j+1) by omega,this,show k+1+j=k+(j+1) by omega])
  show cs=(fr k).cs++frK fr (k+1) n
  rw[← h0,← h1,List.take_append_drop]
theorem ZE3 {fuel:Nat} {cs:List Value} {x} (h:DataW.trod enc Tryz.prog W base spare held fuel 33 cs=some x) (hl:cs.length=136):∃ fr:Nat→Cp,cs=frL fr∧YR fr:=by
 obtain⟨xs,n,_,_,_,hlen,hg⟩:=DataW.trod_struct Tryz.underlying33 h
 have hx:∀ j,j<2→∃ y,xs[j]? = some y:=fun j hj=>⟨xs[j]'(by simp at hlen; omega),List.getElem?_eq_getElem _⟩
 obtain⟨y0,e0⟩:=hx 0 (by omega)
 obtain⟨y1,e1⟩:=hx 1 (by omega)
 have t0:=(hg 0 _ rfl).trans e0
 have t1:=(hg 1 _ rfl).trans e1
 have c25:Tryz.prog.cellsOf 30=8:=by kernel_rfl
 have c26:Tryz.prog.cellsOf 31=128:=by kernel_rfl
 replace t0:DataW.trod enc Tryz.prog W base spare held n 31 (cs.take 128)=some y0:=by simpa [c25,c26] using t0
 replace t1:DataW.trod enc Tryz.prog W base spare held n 30 ((cs.drop 128).take 8)=some y1:=by simpa [c25,c26] using t1
 obtain⟨zs,m,_,_,_,hzl,hzg⟩:=DataW.trod_array Tryz.underlying31 t0
 have hk:∀ j,j<17→∃ c:Cp,(cs.drop (8*j)).take 8=c.cs∧c.Ok:=fun j hj=>by
  by_cases h16:j<16
  ·have:=hzg j h16
   rw[c25] at this
   have e:((cs.take 128).drop (j*8)).take 8=(cs.drop (8*j)).take 8:=by
    rw[List.drop_take,List.take_take,Nat.mul_comm,Nat.min_eq_left (by omega)]
   rw[e,List.getElem?_eq_getElem (by omega:j<zs.length)] at this
   exact ZE2 this (by rw[List.length_take,List.length_drop,hl]; omega)
  ·have hj16:j=16:=by omega
   subst hj16
   exact ZE2 t1 (by rw[List.length_take,List.length_drop,hl]; rfl)
 have hfr:∃ fr:Nat→Cp,∀ j,j<17→(cs.drop (8*j)).take 8=(fr j).cs∧(fr j).Ok:=⟨fun j=>if h:j<17 then Classical.choose (hk j h) else U1,fun j hj=>by
  have:=Classical.choose_spec (hk j hj)
  simp only[hj,dif_pos]
  exact this⟩
 obtain⟨fr,hfr⟩:=hfr
 refine⟨fun j=>if j<17 then fr j else U1,?_,fun j => ?_⟩
 ·rw[Zfc]
  refine ZBb _ 17 0 cs (by rw[hl]) (fun j hj => ?_)
  rw[Nat.zero_add,if_pos hj]
  exact(hfr j hj).1
 ·show(if j<17 then fr j else U1).Ok
  split
  ·rename_i hj; exact(hfr j hj).2
  ·exact⟨by decide,by decide,by decide,by decide,by decide,by decide,by decide⟩
theorem ZE4 {fuel:Nat} {cs:List Value} {x} (h:DataW.trod enc Tryz.prog W base spare held fuel 40 cs=some x) (hl:cs.length=5):∃ i:In,cs=[.int .i64 i.op,.int .i64 i.a,.int .i64 i.b,.int .i64 i.c,.int .i64 i.m]:=by
 obtain⟨xs,n,_,_,_,hlen,hg⟩:=DataW.trod_struct Tryz.underlying40 h
 match cs,hl with
 | [u0,u1,u2,u3,u4],_ =>
  have hx:∀ j,j<5→∃ y,xs[j]? = some y:=fun j hj=>⟨xs[j]'(by simp at hlen; omega),List.getElem?_eq_getElem _⟩
  obtain⟨y0,e0⟩:=hx 0 (by omega)
  obtain⟨y1,e1⟩:=hx 1 (by omega)
  obtain⟨y2,e2⟩:=hx 2 (by omega)
  obtain⟨y3,e3⟩:=hx 3 (by omega)
  obtain⟨y4,e4⟩:=hx 4 (by omega)
  have t0:=(hg 0 _ rfl).trans e0
  have t1:=(hg 1 _ rfl).trans e1
  have t2:=(hg 2 _ rfl).trans e2
  have t3:=(hg 3 _ rfl).trans e3
  have t4:=(hg 4 _ rfl).trans e4
  have c23:Tryz.prog.cellsOf 3=1:=by kernel_rfl
  replace t0:DataW.trod enc Tryz.prog W base spare held n 3 [u0]=some y0:=by simpa [c23] using t0
  replace t1:DataW.trod enc Tryz.prog W base spare held n 3 [u1]=some y1:=by simpa [c23] using t1
  replace t2:DataW.trod enc Tryz.prog W base spare held n 3 [u2]=some y2:=by simpa [c23] using t2
  replace t3:DataW.trod enc Tryz.prog W base spare held n 3 [u3]=some y3:=by simpa [c23] using t3
  replace t4:DataW.trod enc Tryz.prog W base spare held n 3 [u4]=some y4:=by simpa [c23] using t4
  obtain⟨a0,rfl⟩:=Zwh t0
  obtain⟨a1,rfl⟩:=Zwh t1
  obtain⟨a2,rfl⟩:=Zwh t2
  obtain⟨a3,rfl⟩:=Zwh t3
  obtain⟨a4,rfl⟩:=Zwh t4
  exact⟨⟨a0,a1,a2,a3,a4⟩,rfl⟩
theorem Zz8 (l:List Pt) (q:Nat) (h:q<11*l.length):(Yw l)[q]? = ((l.getD (q/11) pt0).cs)[q%11]?:=by
 have h1:=ZEv l (q/11) (q%11) (by omega) (Nat.mod_lt _ (by omega))
 rw[Wn,Wn,show 11*(q/11)+q%11=q by omega] at h1
 rw[List.getElem?_eq_getElem (by rw[ZeR]; exact h),List.getElem?_eq_getElem (by rw[Zlh]; exact Nat.mod_lt _ (by omega))]
 rw[List.getD_eq_getElem?_getD,List.getD_eq_getElem?_getD,List.getElem?_eq_getElem (by rw[ZeR]; exact h),List.getElem?_eq_getElem (by rw[Zlh]; exact Nat.mod_lt _ (by omega))] at h1
 exact congrArg some h1
theorem Zwi {fuel:Nat} {u:Value} {x:DataW H×List MemPlace} (h:DataW.trod enc Tryz.prog W base spare held fuel 42 [u]=some x) :
  ∃ (k:Nat) (l:List Pt) (B O C:Nat) (S:Option Nat),S1Is W u k (Yw l) l.length B O C S∧∀ y∈l,y.Ok:=by
 have c0:Tryz.prog.cellsOf 90=11:=by kernel_rfl
 rcases open_slice Tryz.underlying42 h with⟨h1,_⟩|⟨a,len,cap,m,n,D,Pl,h1,_,hl,_,hm,_,hi⟩
 ·simp only[List.cons.injEq,and_true] at h1
  exact⟨0,[],0,0,0,none,⟨h1,⟨by omega,fun _=>rfl⟩,Nat.le_refl _,fun h=>by omega⟩,fun y hy=>by cases hy⟩
 ·simp only[List.cons.injEq,and_true] at h1
  subst h1
  have hlm:len≤m:=by rw[hm]; split<;>omega
  by_cases h0:len=0
  ·subst h0
   obtain⟨b,o,s⟩:=a
   exact⟨1,[],b,o,cap,s,⟨rfl,⟨by omega,fun _=>rfl⟩,Nat.zero_le _,fun h=>by omega⟩,fun y hy=>by cases hy⟩
  ·have hR:∀ i,i<len→∃ y:Pt,y.Ok∧∀ j v,y.cs[j]? = some v→W.cell? ((a.add (i*11)).add j)=some v:=fun i hil=>by
    obtain⟨cs',hc,ht'⟩:=hi i (by omega)
    rw[c0] at hc
    obtain⟨_,hcl,hat⟩:=World.cells?_some hc
    obtain⟨y,rfl,hy⟩:=ZOn ht' hcl
    exact⟨y,hy,fun j v hj=>by
     have hj11:j<11:=(List.getElem?_eq_some_iff.1 hj).1
     exact(hat j hj11).trans hj⟩
   have hR2:∃ R:Nat→Pt,∀ i,i<len→(R i).Ok∧∀ j v,(R i).cs[j]? = some v→W.cell? ((a.add (i*11)).add j)=some v:=⟨fun i=>if h:i<len then Classical.choose (hR i h) else pt0,fun i hil=>by
    have:=Classical.choose_spec (hR i hil)
    simp only[hil,dif_pos]
    exact this⟩
   obtain⟨R,hR⟩:=hR2
   have hlen:((List.range len).map R).length=len:=by simp
   have h0r:∀ i,i<len→((List.range len).map R).getD i pt0=R i:=fun i hil=>by
    rw[List.getD_eq_getElem?_getD,List.getElem?_map,List.getElem?_range hil]; rfl
   have hspot:a.spot=none:=by
    have:=(hR 0 (by omega)).2 0 _ rfl
    have hsp:=World.cell?_spot this
    simpa [Addr.add] using hsp
   have hget:∀ q v,(Yw ((List.range len).map R))[q]? = some v→W.cell? (a.add q)=some v:=by
    intro q v hv
    have hq:q<11*len:=by
     have:=(List.getElem?_eq_some_iff.1 hv).1
     rw[ZeR,hlen] at this; exact this
    rw[Zz8 _ _ (by rw[hlen]; exact hq),h0r _ (by omega)] at hv
    have:=(hR (q/11) (by omega)).2 _ _ hv
    obtain⟨b,o,s⟩:=a
    simp only at hspot
    subst hspot
    rw[Go.WideShapes.add_plain,Go.WideShapes.add_plain] at this
    rw[Go.WideShapes.add_plain,show o+q=o+q/11*11+q%11 by omega]
    exact this
   obtain⟨hs,hrow⟩:=ZOm (a:=a) (cells:=Yw ((List.range len).map R)) (by rw[ZeR,hlen]; omega) hget
   obtain⟨b,o,s⟩:=a
   simp only at hs
   subst hs
   refine⟨2,(List.range len).map R,b,o,cap,none,⟨by rw[hlen]; rfl,⟨by omega,fun h=>by omega⟩,by rw[hlen]; exact hl,fun _=>hrow⟩,fun y hy => ?_⟩
   obtain⟨i,hi',rfl⟩:=List.mem_map.1 hy
   exact(hR i (by simpa using hi')).1
end
end Go.Proofs.YtagacmljbgkmoaaGreatDoor
namespace Go.Proofs.YtagacmljbgkmoaaGreatDoor
open Go.IntKind (u8 u16 u32 u64 i64)
open Go.ChangeShapes Go.WideShapes Go.ChangeAt Go.RowKit
open Sy
set_option maxRecDepth 100000
def Zov (B O C:Nat) (S:Option Nat):Ren :=
 ⟨fun l=>if l<NG then l else B,fun l=>if l<NG then 0 else O,fun _=>(O,S),fun _=>C,fun l=>Nat.blt l 65,fun _ h=>if_pos h,fun _ h=>if_pos h,fun l h=>YW (Nat.lt_trans h (by decide))⟩
theorem Zrj (r:Ren) (g:Nat):r.cap (big+g)=r.c g:=KM r g
theorem ZLz {W:World} {v:Value} {k n B O C:Nat} {S:Option Nat} {cells:List Value} (h:S1Is W v k cells n B O C S):v=(Zov B O C S).val (sl1 k 64 n):=by
 have hb:(Zov B O C S).b 64=B:=rfl
 have hw:(Zov B O C S).w 64=O:=rfl
 have ho:(Zov B O C S).o 64=(O,S):=rfl
 have hc:(Zov B O C S).c 64=C:=rfl
 rw[h.is]
 rcases k with _|_|k
 ·show Value.slice none 0 0=(Zov B O C S).val (.slice none 0 0)
  rw[ZV]; simp only[Option.map_none,Ren.cap]; rfl
 ·show Value.slice (some ⟨B,O,S⟩) 0 C=(Zov B O C S).val (.slice (some ⟨64,0,some 64⟩) 0 (big+64))
  rw[ZV,Zrj,hc]; simp[Ren.addr,hb,ho]
 ·show Value.slice (some ⟨B,O,none⟩) n C=(Zov B O C S).val (.slice (some ⟨64,0,none⟩) n (big+64))
  rw[ZV,Zrj,hc]; simp[Ren.addr,hb,hw]
theorem ZLA {k n B O C:Nat} {S:Option Nat}:bnd (Zov B O C S).d (sl1 k 64 n)=true:=by
 unfold sl1
 split
 ·exact ZG _ rfl
 ·rw[QT]; rfl
 ·rw[QT]; rfl
theorem Zrk {k:Nat} {cells:List Value} (hf:∀ u∈cells,Qm u=true):∀ x∈Uu k 64 cells++Y3 ZK,(x.1=64∨x.1=0)∧x.2.rw=false∧(∀ p,x.2.op=some p→p=(0,0))∧∀ u∈x.2.cells,Qm u=true:=by
 intro x hx
 rcases List.mem_append.1 hx with hx|hx
 ·unfold Uu at hx
  split at hx
  ·cases hx
  ·cases hx
  ·obtain rfl:=List.mem_singleton.1 hx
   exact⟨.inl rfl,rfl,(fun p hp=>by cases hp; rfl),hf⟩
 ·obtain rfl:=List.mem_singleton.1 hx
  exact⟨.inr rfl,rfl,(fun p hp=>by cases hp),Zeb⟩
theorem ZE5 {W:World} {v:Value} {k n B O C:Nat} {S:Option Nat} {cells:List Value} (h:S1Is W v k cells n B O C S) (hf:∀ u∈cells,Qm u=true) (hW:ZFd W 0 ZK) (T:List (Nat×Bool)) :
  Sy.Good (Zov B O C S) ⟨65,Uu k 64 cells++Y3 ZK,[],0,T,0,True⟩ W:=by
 refine⟨fun g kb hk => ?_,fun g g' k k' e1 e2 hrw _ => ?_,fun g kb hk => ?_,fun x hx=>by cases hx⟩
 ·have hm:=Qb hk
  rcases List.mem_append.1 hm with hx|hx
  ·unfold Uu at hx
   split at hx
   ·cases hx
   ·cases hx
   ·rename_i k0 k1
    have e:=List.mem_singleton.1 hx
    simp only[Prod.mk.injEq] at e
    obtain⟨rfl,rfl⟩:=e
    have hk2:2≤k:=by
     rcases Nat.lt_or_ge k 2 with h|h
     ·have:k=0∨k=1:=by omega
      rcases this with h|h
      ·exact absurd h k0
      ·exact absurd h k1
     ·exact h
    obtain⟨arr,ty,fr,p1,p2,p3⟩:=h.at_ hk2
    refine .inl ⟨rfl,arr,ty,fr,p1,⟨.inl rfl,p2⟩,fun j u hj => ?_,fun h=>by cases h⟩
    rw[Qq _ (hf u (List.mem_of_getElem? hj))]
    exact p3 j u hj
  ·have e:=List.mem_singleton.1 hx
   simp only[Prod.mk.injEq] at e
   obtain⟨rfl,rfl⟩:=e
   obtain⟨arr,ty,h1,h2⟩:=hW
   have hb:(Zov B O C S).b 0=0:=(Zov B O C S).hb _ (by decide)
   have hw:(Zov B O C S).w 0=0:=(Zov B O C S).hw _ (by decide)
   refine .inl ⟨rfl,arr,ty,(0,0),by rw[hb]; exact h1,?_,fun j v hj => ?_,fun hrw=>by cases hrw⟩
   ·refine⟨hw,?_⟩
    show arr.size=ZK.length
    rw[← h2]; simp
   ·have hv:v∈ZK:=List.mem_of_getElem? hj
    rw[Qq _ (Zeb v hv),← Array.getElem?_toList,h2,hw,Nat.zero_add]
    exact hj
 ·have:=(Zrk (k:=_) hf _ (Qb e1)).2.1
  simp only[] at this
  rw[this] at hrw; cases hrw
 ·obtain⟨q1,_,q3,q4⟩:=Zrk (k:=k) hf _ (Qb hk)
  have hg:g<65:=by
   rcases q1 with q1|q1
   ·have:g=64:=q1
    omega
   ·have:g=0:=q1
    omega
  exact⟨YW hg,fun p hp=>by rw[q3 p hp]; rfl,fun u hu=>⟨ZG _ (q4 u hu),W5 (q4 u hu)⟩⟩
theorem Zrl {call:QM} (hcall:Zs Tryz.prog call) {f:FuncId} {W:World} {v:Value} {k B O C:Nat} {S:Option Nat} {l:List Pt} {fr:Nat→Cp} {i:In} (h:S1Is W v k (Yw l) l.length B O C S) (hW:ZFd W 0 ZK) {T:List (Nat×Bool)} {q:Prop}
  (hr:obs (call f [Xu fr,i.val,sl1 k 64 l.length] ⟨65,Uu k 64 (Yw l)++Y3 ZK,[],0,T,0,True⟩)=some (.bool true,q)) (hq:q) :
  Calls Tryz.prog f #[Xu fr,i.val,v] W fun e W'=>e = .returned (.bool true)∧Below W.heap.size W W':=by
 have hb:∀ u∈[Xu fr,i.val,sl1 k 64 l.length],bnd (Zov B O C S).d u=true:=fun u hu=>by
  simp only[List.mem_cons,List.not_mem_nil,or_false] at hu
  rcases hu with rfl|rfl|rfl
  ·exact Xk _ rfl
  ·exact Xk _ rfl
  ·exact ZLA
 have hw:WFn ⟨65,Uu k 64 (Yw l)++Y3 ZK,[],0,T,0,True⟩:=⟨fun g kb hk=>by
  have q1:=(Zrk (k:=k) (Wu l) _ (Qb hk)).1
  show g<65
  rcases q1 with q1|q1
  ·have:g=64:=q1
   omega
  ·have:g=0:=q1
   omega,fun x hx=>by cases hx⟩
 have hro:(Uu k 64 (Yw l)++Y3 ZK).all (fun y => !y.2.rw)=true:=List.all_eq_true.2 fun x hx=>by rw[(Zrk (Wu l) x hx).2.1]; rfl
 have h1:=Ztt hcall hr hq hw hro (ZE5 h (Wu l) hW T) (fun l hl=>QD hl) hb
 have hm:[Xu fr,i.val,sl1 k 64 l.length].map (Zov B O C S).val=[Xu fr,i.val,v]:=by
  simp only[List.map_cons,List.map_nil,← ZLz h,List.cons.injEq,and_true]
  exact⟨Ki _ rfl,Ki _ rfl⟩
 rw[hm] at h1
 exact h1
section
variable {H:Type} {enc:TypeId×Value→H} {W:World} {base:Nat} {spare:Nat→Bool} {held:Bool}
theorem Zlj {rc:Reach} {b0:Nat} {v:Value} {d:DataW H} {p:List MemPlace} (hv:Value.okWide Tryz.prog W rc b0 33 v) (h:DataW.Trod enc Tryz.prog W base spare held 33 v d p):∃ fr:Nat→Cp,v=Xu fr∧YR fr:=by
 obtain⟨cs,rfl,hsz⟩:=okWide_struct Tryz.underlying33 hv
 obtain⟨cs⟩:=cs
 have c0:Tryz.prog.cellsOf 33=136:=by kernel_rfl
 obtain⟨fuel,hf⟩:=h
 obtain⟨fr,e,hfr⟩:=ZE3 hf (hsz.trans c0)
 have e':cs=frL fr:=e
 subst e'
 exact⟨fr,rfl,hfr⟩
theorem Zlk {rc:Reach} {b0:Nat} {v:Value} {d:DataW H} {p:List MemPlace} (hv:Value.okWide Tryz.prog W rc b0 40 v) (h:DataW.Trod enc Tryz.prog W base spare held 40 v d p):∃ i:In,v=i.val:=by
 obtain⟨cs,rfl,hsz⟩:=okWide_struct Tryz.underlying40 hv
 obtain⟨cs⟩:=cs
 have c0:Tryz.prog.cellsOf 40=5:=by kernel_rfl
 obtain⟨fuel,hf⟩:=h
 obtain⟨i,e⟩:=ZE4 hf (hsz.trans c0)
 have e':cs=[.int .i64 i.op,.int .i64 i.a,.int .i64 i.b,.int .i64 i.c,.int .i64 i.m]:=e
 subst e'
 exact⟨i,rfl⟩
theorem Zoq {rc:Reach} {b0:Nat} {v:Value} {d:DataW H} {p:List MemPlace} (hv:Value.okWide Tryz.prog W rc b0 42 v) (h:DataW.Trod enc Tryz.prog W base spare held 42 v d p) :
  ∃ (k:Nat) (l:List Pt) (B O C:Nat) (S:Option Nat),S1Is W v k (Yw l) l.length B O C S∧∀ y∈l,y.Ok:=by
 obtain⟨A,len,cap,rfl⟩:=okWide_slice Tryz.underlying42 hv
 obtain⟨fuel,hf⟩:=h
 exact Zwi hf
end
end Go.Proofs.YtagacmljbgkmoaaGreatDoor
namespace Go.Proofs.YtagacmljbgkmoaaGreatDoor
open Go.IntKind (u8 u16 u32 u64 i64)
open Go.ChangeShapes Go.WideShapes Go.ChangeAt Go.RowKit
open Sy
set_option maxRecDepth 100000
theorem Zor:Zmm 6 Tryz.f6:=by
 intro H enc W base args ds p hL hval hA
 rw[Tryz.params6] at hA hval
 obtain⟨v0,vs0,d0,ds0,p0,q0,hargs,rfl,rfl,h0,r0⟩:=trodAll_cons hA
 obtain⟨v1,vs1,d1,ds1,p1,q1,rfl,rfl,rfl,h1,r1⟩:=trodAll_cons r0
 obtain⟨v2,vs2,d2,ds2,p2,q2,rfl,rfl,rfl,h2,r2⟩:=trodAll_cons r1
 obtain⟨rfl,rfl,rfl⟩:=trodAll_nil r2
 obtain rfl:args = #[v0,v1,v2]:=by cases args; simp_all
 obtain⟨fr,rfl,hfr⟩:=Zlj (hval 0 _ v0 rfl rfl) h0
 obtain⟨i,rfl⟩:=Zlk (hval 1 _ v1 rfl rfl) h1
 obtain⟨k,l,B,O,C,S,hs,hok⟩:=Zoq (hval 2 _ v2 rfl rfl) h2
 obtain⟨call,T,q,hc,hr,hq⟩:=Zz7 fr hfr i k l hs.ok hok
 exact Zrl hc hs (ZnT hL) hr hq
set_option maxRecDepth 100000 in
theorem Zf1:Rows.CoreDoesSaid :=
 OpenClaim.holds_of_wide 6 Tryz.f6 rfl rfl rfl rfl rfl rfl rfl ⟨rfl,rfl,rfl,rfl,rfl⟩ rfl rfl rfl rfl rfl (by kernel_rfl) Tryz.func6 (by kernel_rfl)
  (of_decide_eq_true (by kernel_rfl)) (by unfold Func.isWrapper; first|(rw[if_pos (by decide +kernel)]; kernel_rfl)|(rw[if_neg (by decide +kernel)]; exact⟨rfl,rfl⟩))
  (fun os started H enc _=>ZjG 6 Tryz.f6 Rows.coreDoesSpec Rows.coreDoesRow.domain Tryz.func6 (by kernel_rfl) rfl rfl
   (fun H ds hd=>by match ds,hd with|[d0,d1,d2],_=>exact⟨rfl,rfl,rfl⟩) (by decide +kernel) Zor os started H enc
   (ChangeSpec.witness_shaped (enc:=enc) (C:=Tryz.checked) (os:=os) (X:=fun w _=>laidMetH Tryz.prog ZnS w) false (World.doorLaid Tryz.prog 400 os) #[.agg #[.int .u32 0,.int .u8 0,.int .u16 0,.int .u16 0,.int .u16 0,.int .u16 0,.int .u32 0,.bool false,.int .u32 0,.int .u8 0,.int .u16 0,.int .u16 0,.int .u16 0,.int .u16 0,.int .u32 0,.bool false,.int .u32 0,.int .u8 0,.int .u16 0,.int .u16 0,.int .u16 0,.int .u16 0,.int .u32 0,.bool false,.int .u32 0,.int .u8 0,.int .u16 0,.int .u16 0,.int .u16 0,.int .u16 0,.int .u32 0,.bool false,.int .u32 0,.int .u8 0,.int .u16 0,.int .u16 0,.int .u16 0,.int .u16 0,.int .u32 0,.bool false,.int .u32 0,.int .u8 0,.int .u16 0,.int .u16 0,.int .u16 0,.int .u16 0,.int .u32 0,.bool false,.int .u32 0,.int .u8 0,.int .u16 0,.int .u16 0,.int .u16 0,.int .u16 0,.int .u32 0,.bool false,.int .u32 0,.int .u8 0,.int .u16 0,.int .u16 0,.int .u16 0,.int .u16 0,.int .u32 0,.bool false,.int .u32 0,.int .u8 0,.int .u16 0,.int .u16 0,.int .u16 0,.int .u16 0,.int .u32 0,.bool false,.int .u32 0,.int .u8 0,.int .u16 0,.int .u16 0,.int .u16 0,.int .u16 0,.int .u32 0,.bool false,.int .u32 0,.int .u8 0,.int .u16 0,.int .u16 0,.int .u16 0,.int .u16 0,.int .u32 0,.bool false,.int .u32 0,.int .u8 0,.int .u16 0,.int .u16 0,.int .u16 0,.int .u16 0,.int .u32 0,.bool false,.int .u32 0,.int .u8 0,.int .u16 0,.int .u16 0,.int .u16 0,.int .u16 0,.int .u32 0,.bool false,.int .u32 0,.int .u8 0,.int .u16 0,.int .u16 0,.int .u16 0,.int .u16 0,.int .u32 0,.bool false,.int .u32 0,.int .u8 0,.int .u16 0,.int .u16 0,.int .u16 0,.int .u16 0,.int .u32 0,.bool false,.int .u32 0,.int .u8 0,.int .u16 0,.int .u16 0,.int .u16 0,.int .u16 0,.int .u32 0,.bool false,.int .u32 0,.int .u8 0,.int .u16 0,.int .u16 0,.int .u16 0,.int .u16 0,.int .u32 0,.bool false],.agg #[.int .i64 0,.int .i64 0,.int .i64 0,.int .i64 0,.int .i64 0],.slice none 0 0] 8 rfl (World.shaped_of_RefB (by kernel_rfl) (by kernel_rfl)) (by kernel_rfl) (by kernel_rfl) (by kernel_rfl) (ZqM os _)))
theorem coreDoes_proved:Rows.CoreDoesCardSaid :=
 Claim7.holds_tied_plain_at .later [] [.data] true Rows.coreDoesCard.stood.harness false
  Zf1 (fun _ h=>by cases h) (by kernel_rfl) (fun _ h=>by cases h) coreDoes_row_tie rfl ⟨rfl,rfl⟩ (by kernel_rfl) rfl
  (fun f fn hf hfn=>by
   obtain rfl:f=6:=Option.some.inj ((show Tryz.prog.funcNamed Rows.coreDoesRow.func=some 6 by kernel_rfl).symm.trans hf) |>.symm
   obtain rfl:fn=Tryz.f6:=(Option.some.inj (Tryz.func6.symm.trans hfn)).symm
   exact⟨by kernel_rfl,fun j t ht=>by
    rw[Tryz.params6] at ht
    have hm:t∈[33,40,42]:=by simpa using Array.mem_of_getElem? ht
    have hall:(([33,40,42]:List TypeId).all fun u => !Tryz.prog.wantsStandIn u)=true:=by kernel_rfl
    exact(show Tryz.prog.wantsStandIn t=false by simpa using List.all_eq_true.1 hall t hm)⟩)
  (by kernel_rfl)
end Go.Proofs.YtagacmljbgkmoaaGreatDoor
#print axioms Go.Proofs.YtagacmljbgkmoaaGreatDoor.coreDoes_proved
