/-
  CoreNoMoreCard: the proof's last part: the statement holds, with no condition.
-/
import Derived.ChangeSlices
import Derived.OpenShut
import Derived.Test.YtagacmljbgkmoaaGreatDoorCards
import Derived.Test.YtagacmljbgkmoaaGreatDoorQCoreNoMoreCardE
import Derived.Test.YtagacmljbgkmoaaGreatDoorTie
set_option linter.unusedSimpArgs false
set_option linter.unusedVariables false
set_option linter.unusedSectionVars false
namespace Go.Proofs.YtagacmljbgkmoaaGreatDoor
open Go.IntKind (u8 u16 u32 u64 i64)
open Go.RowKit
open Sy
set_option maxRecDepth 100000
def dnRV (rc:List Value) (args:List Value) (fr':Nat→Cp) (t:Nat) (zs:List UInt8) (f:Nat→Bool) (N m n:Nat):Con:=⟨args,68,arW false zs f N m n++Yq rc,arO N n,.tuple ⟨[WV fr',.int .i64 (t:Nat)]⟩,68,[],[]⟩
def Zgv (rc:List Value) (args:List Value) (fr':Nat→Cp) (zs zs':List UInt8) (f f':Nat→Bool) (N m n:Nat):Con:=⟨args,68,arW true zs f N m n++Yq rc,arO N n,.tuple ⟨[WV fr',.int .i64 0]⟩,68,arW true zs' f' N m n,arO N n⟩
def Zoy (fr gr:Nat→Cp) (l:List Cp):Prop:=∀ k,k<16→(gr k).V=true→Zia (gr k) (fr k)=false→(gr k).Ok∧VI (gr k) fr l=true
structure NaOk (fr gr:Nat→Cp) (l:List Cp):Prop where
 f:Wc fr
 few:l.length<4096
 from_:Zoy fr gr l
structure NbOk (fr:Nat→Cp) (l nl:List Cp):Prop where
 f:Wc fr
 few:l.length<4096
 few2:nl.length<4096
 ok:∀ c∈nl,c.Ok
 from_:∀ c∈nl,VI c fr l=true
def YB (fr gr:Nat→Cp) (h:NaOk fr gr []):Ent Tryz.prog :=
 Zke Tryz.prog 4 0 98 (ZsV fr gr 0) (.exit 0) (ZEi fr gr) (by kernel_rfl) (by kernel_rfl) (ZvD fr gr h.f h.from_ ⟨0,Nat.zero_le _⟩)
def YC (fr gr:Nat→Cp) (l:List Cp) (h:NaOk fr gr l):Ent Tryz.prog :=
 Zke Tryz.prog 4 0 98 (ZsW fr gr l 0) (.exit 0) (ZEj fr gr l) (by kernel_rfl) (by kernel_rfl) (ZvF fr gr l h.f h.few h.from_ ⟨0,Nat.zero_le _⟩)
def ZbO (fr:Nat→Cp) (nl:List Cp) (h:NbOk fr [] nl):Ent Tryz.prog :=
 Zke Tryz.prog 4 1 98 (ZzT fr nl 0) (.exit 2) (nbF 76) (by kernel_rfl) (by kernel_rfl) (ZvE fr nl h.f h.few2 h.ok h.from_ ⟨0,Nat.zero_le _⟩)
def WR (fr:Nat→Cp) (l nl:List Cp) (h:NbOk fr l nl):Ent Tryz.prog :=
 Zke Tryz.prog 4 1 98 (ZzU fr l nl 0) (.exit 2) (nbF 77) (by kernel_rfl) (by kernel_rfl) (ZvG fr l nl h.f h.few h.few2 h.ok h.from_ ⟨0,Nat.zero_le _⟩)
def nmL (k:Nat) (l:List Pt) (rc:List Value) (fr f1:Nat→Cp) (n0:Nat) (pc:Cp) (pb:Bool) (mo dc ho:Con) (zs:List UInt8) (f:Nat→Bool) (N m n:Nat):Sy.Steps :=
 [(67,14,ZA7 [sl1 k 64 l.length] (Uv k 64 (Qy l)) zs f N m n,[64]),(74,10,gwC [] rc (.bool true),[]),(74,15,Con.pure [WV fr] (WV f1),[]),(74,16,mo,[67,68,69,70]),
   (n0,13,dc,[67,68,69,70]),(n0+1,17,frC 0 pc f1 [] pb,[]),(n0+1,16,ho,[67,68,69,70])]
def Zs3 (a b:Nat):=ZnN a (Zgh 68 0 b)
def Zs4 (a:Nat):=[Zg3 69,ZkY 67 0 a 9223372036854775875]
def Zs5 (a b c d:Prop) (e f:Nat) (g:Prop) (h i:Nat):=ZrP a (Zk6 b) c d e f g h i
def Zoz (a:Nat) (b:Nat→Bool) (c:Nat):=Zlb a 67 68 69 70 b c
def Zs6 (a:Nat) (b:List UInt8):=Zlg a 67 68 69 70 b
def Zfa (a:Prop):=QG Vn a
def Zs7 (a b c d e f:Prop) (g h:List Value) (i j:Nat→Cp):=VA (ZrH (YI a) (KL (Zk6 (Zlo b c d e f (Zoa g 74 h))))) (Uo i j)
def Zs8 (a b:Nat):=Zs4 a=Zs4 b
def QT (a:Nat→Cp) (b:Value) (c d:Nat):=[WV a,b,ZiR c d]
def Wl (a:Nat) (b:List Pt) (c:List Value) (d e f:Nat):=Ziu 65 (Zsv (Uv a 64 (Qy b)) c) d e f
def Zs9 (a:Nat) (b:List Nat) (c:List Value):=Zuo a b 3 c
def KC (a:List Value) (b:Nat→Cp) (c:In) (d:Nat→Cp) (e:Nat) (f:List UInt8) (g:Nat→Bool) (h i j:Nat):=dnRV a (mvA b c) d e f g h i j
def Vj (a:List Nat) (b:List Value):=Zs9 74 a b
def KD (a:Nat) (b:List Pt) (c:List Value) (d e:Nat→Cp) (f:Nat) (g:Cp) (h:Bool) (i j:Sy.Con) (k:List UInt8) (l:Nat→Bool) (m n o:Nat):=nmL a b c d e f g h i j i k l m n o
def Zta (a b:Nat):=Zs3 a b=Zs3 a b
def Qf:=Qw Zib
def V7 (a b c:Nat) (d e:Prop):=Zlj Zh (Zs8 a a) (Zta b c) d e
def Ztb (a:List UInt8) (b:Nat→Bool):=Zlh a b Zh Zh Zh a (Zs6 74 a)
def QM (a:Nat→Bool) (b:Nat) (c:Nat→Bool):=ZiB a b c Zh Zh Zh a b (Zoz 74 a b)
def V8 (a:Prop) (b c d:Nat) (e f:Prop) (g h:Nat):=Zs5 a Qf (V7 b c d e f) Zh g g Zh h h
def QU (a:Prop) (b c d:Nat) (e:Prop) (f:List UInt8) (g:Nat→Bool) (h i:Nat):=V8 a b c d e (Ztb f g) h i
def ZmV (a b:Nat) (c d:Prop) (e:Bool) (f:Prop):=ZrN Zh Zh Zh Zh Zh (Zta a b) c d (Ze1 e Zh f)
def Xx (a b:Nat) (c:Nat→Bool) (d:Nat) (e:Nat→Bool) (f:List UInt8) (g:Bool) (h:Prop):=ZmV a b (QM c d e) (Ztb f e) g h
def ZmW (a b:Prop) (c:List Value) (d:Nat→Cp):=Zs7 (ZhJ a) Zh b Zh Zh Zh c c d d
def Qd (a:Prop) (b:Nat→Cp) (c d e f g:Int) (h:Nat) (i:Prop) (j:Nat):=Yj a (Zlu b c d e f g Qf) (Zcj Zh (Zs8 h h)∧i) j h
def VS (a:Prop) (b:List Value) (c:Nat→Cp):=ZmW YA a b c
def XY:=Bx.mk (And.intro @Zs3.eq_1 (And.intro @Zs4.eq_1 (And.intro @Zs5.eq_1 (And.intro @Zoz.eq_1 (And.intro @Zs6.eq_1 (And.intro @Zfa.eq_1 (And.intro @Zs7.eq_1 (And.intro @Zs8.eq_1 (And.intro @QT.eq_1 (And.intro @Wl.eq_1 (And.intro @Zs9.eq_1 (And.intro @KC.eq_1 (And.intro @Vj.eq_1 (And.intro @KD.eq_1 (And.intro @Zta.eq_1 (And.intro @Qf.eq_1 (And.intro @V7.eq_1 (And.intro @Ztb.eq_1 (And.intro @QM.eq_1 (And.intro @V8.eq_1 (And.intro @QU.eq_1 (And.intro @ZmV.eq_1 (And.intro @Xx.eq_1 (And.intro @ZmW.eq_1 (And.intro @Qd.eq_1 @VS.eq_1)))))))))))))))))))))))))
theorem ZvK (i:In) (fr:Nat→Cp) (f1:Nat→Cp) (gr:Nat→Cp) (l:List Pt) (rc:List Value) (zs:List UInt8) (f:Nat→Bool) (N:Nat) (m:Nat) (n:Nat) (pc:Cp) (pb:Bool) (t:Nat):obs (evF Tryz.prog (Zs 3 (Zb (KD 0 l rc fr f1 74 pc pb (hlN zs f N m n) (KC rc f1 i frN t zs f N m n) zs f N m n)) Zg) Zf 100 20 4 (QT fr i.val 0 l.length) (Wl 0 l rc 5 16 0))=Zfa (Qd (QU (VS (rc.all (Zu (fun l=>l.blt 64))=true) rc fr) N m n (QM f n (fun l=>l.blt 68)) zs (fun l=>l.blt 68) n N) f1 i.op i.a i.b i.c i.m N (Xx m n f n (fun l=>l.blt 68) zs (rc.all (Zu (fun l=>l.blt 68))) (rc=Vj [67,68,69,70] rc)) n∧YJ t=true):=by kernel_rfl
def ZDM:=Bx.mk (by have h := @ZvK; simp(maxSteps:=99999999) only[ZL.v, ZZ.v, ZN.v, Z3.v, Qb.v, QH.v, ZR.v, Qc.v, ZD.v, XN.v, Qz.v, QV.v, Z8.v, Zz.v, ZW.v, Yk.v, Q7.v, YX.v, Y3.v, YO.v, Wd.v, Xa.v, YY.v, XY.v, -eq_self] at h; exact h)
def Ztd (a b c d e f g:Prop):=Ze5 (YI a) (Zde b c d e f) g
def Zte (a:List UInt8) (b:Nat→Bool) (c d e:Prop) (f:List UInt8) (g:Nat) (h:List UInt8):=Zlh a b c d e f (Zs6 g h)
def KE (a:Nat) (b:List Pt) (c:List Value) (d e:Nat):=Wl a b c d 2016 e
def KF (a b c d e f:Prop) (g h i j:Nat→Cp):=Ztd a b c d e f (Zdq (Ze6 g h) i j)
def KG (a b c d:Prop) (e f g h:Nat):=Zfa (YI (Zs5 a b c d e f d g h))
def V9 (a:List UInt8) (b:Nat→Bool):=Zte a b Zh Zh Zh a 75 a
def Ws:=Qw ZiS
def Wt (a:Prop) (b:Cp) (c d:Nat→Cp) (e:Prop):=ZsY a (Zfx b) c d YA e
def X9 (a:Nat→Bool) (b:Nat) (c:Nat→Bool):=ZiB a b c Zh Zh Zh a b (Zoz 75 a b)
def Wu:=Bx.mk (And.intro @Ztd.eq_1 (And.intro @Zte.eq_1 (And.intro @KE.eq_1 (And.intro @KF.eq_1 (And.intro @KG.eq_1 (And.intro @V9.eq_1 (And.intro @Ws.eq_1 (And.intro @Wt.eq_1 @X9.eq_1))))))))
theorem Ztc (i:In) (fr:Nat→Cp) (f1:Nat→Cp) (gr:Nat→Cp) (l:List Pt) (rc:List Value) (zs:List UInt8) (f:Nat→Bool) (N:Nat) (m:Nat) (n:Nat) (ha:NaOk f1 gr []):obs (evF Tryz.prog (Zs 3 (Zb (KD 0 l rc fr f1 74 (gr 16) true (hlN zs f N m n) (KC rc f1 i gr 0 zs f N m n) zs f N m n)) Zg) (Yt [YB f1 gr ha]) 100 20 4 (QT fr i.val 0 l.length) (KE 0 l rc 13 0))=KG (Wt ((((KF (Qd (QU (VS (rc.all (Zu (fun l=>l.blt 64))=true) rc fr) N m n (QM f n (fun l=>l.blt 68)) zs (fun l=>l.blt 68) n N) f1 i.op i.a i.b i.c i.m N (Xx m n f n (fun l=>l.blt 68) zs (rc.all (Zu (fun l=>l.blt 68))) (rc=Vj [67,68,69,70] rc)) n) QJ Qf YA Ws Qp gr gr f1 f1∧(gr 16).V=true)∧(gr 16).V=true)∧(gr 16).V=true)∧(gr 16).V=true) (gr 16) f1 f1 ((gr 16).V=true)) Qf (V7 N m n (X9 f n (fun l=>l.blt 68)) (V9 zs (fun l=>l.blt 68))) Zh n n N N:=by kernel_rfl
def ZAe:=Bx.mk (by have h := @Ztc; simp(maxSteps:=99999999) only[ZL.v, ZZ.v, ZN.v, Z3.v, Qb.v, QH.v, ZR.v, Qc.v, ZD.v, XN.v, QV.v, QN.v, Z8.v, Zz.v, YN.v, ZW.v, Yk.v, Q7.v, YX.v, Wr.v, Qa.v, Y2.v, Y3.v, YO.v, Wd.v, Xa.v, ZaW.v, YY.v, ZaX.v, XY.v, Wu.v, -eq_self] at h; exact h)
theorem ZpD (i:In) (fr:Nat→Cp) (f1:Nat→Cp) (gr:Nat→Cp) (l:List Pt) (rc:List Value) (zs:List UInt8) (f:Nat→Bool) (N:Nat) (m:Nat) (n:Nat) (z2:List UInt8) (f2:Nat→Bool) (ha:NaOk f1 gr []):obs (evF Tryz.prog (Zs 3 (Zb (nmL 0 l rc fr f1 74 (gr 16) true (hlN zs f N m n) (Zgv rc (mvA f1 i) gr zs z2 f f2 N m n) (hlN z2 f2 N m n) zs f N m n)) Zg) (Yt [YB f1 gr ha]) 100 20 4 (QT fr i.val 0 l.length) (KE 0 l rc 13 0))=KG (Wt ((((KF (Qd (QU (VS (rc.all (Zu (fun l=>l.blt 64))=true) rc fr) N m n (QM f n (fun l=>l.blt 68)) zs (fun l=>l.blt 68) n N) f1 i.op i.a i.b i.c i.m N (Xx m n f n (fun l=>l.blt 68) zs (rc.all (Zu (fun l=>l.blt 68))) (rc=Vj [67,68,69,70] rc)) n) QJ Qf YA Ws Qp gr gr f1 f1∧(gr 16).V=true)∧(gr 16).V=true)∧(gr 16).V=true)∧(gr 16).V=true) (gr 16) f1 f1 ((gr 16).V=true)) Qf (V7 N m n (X9 f2 n (fun l=>l.blt 68)) (V9 z2 (fun l=>l.blt 68))) Zh n n N N:=by kernel_rfl
def ZvL:=Bx.mk (by have h := @ZpD; simp(maxSteps:=99999999) only[ZL.v, ZZ.v, ZN.v, Z3.v, Qb.v, QH.v, ZR.v, Qc.v, ZD.v, XN.v, QV.v, QN.v, Z8.v, Zz.v, YN.v, ZW.v, Yk.v, Q7.v, YX.v, Wr.v, Qa.v, Y2.v, Y3.v, YO.v, Wd.v, Xa.v, ZaW.v, YY.v, ZaX.v, XY.v, Wu.v, -eq_self] at h; exact h)
def ZcF (a b:Prop) (c:Value) (d:Prop):=Zfa (Ze5 a (JG QJ b (Qw c) Qp) d)
def ZbT:=Bx.mk @ZcF.eq_1
theorem ZpE (i:In) (fr:Nat→Cp) (f1:Nat→Cp) (gr:Nat→Cp) (l:List Pt) (rc:List Value) (zs:List UInt8) (f:Nat→Bool) (N:Nat) (m:Nat) (n:Nat) (z2:List UInt8) (f2:Nat→Bool) (nl:List Cp) (ha:NaOk f1 gr []) (hb:NbOk f1 [] nl):obs (evF Tryz.prog (Zs 3 (Zb (nmL 0 l rc fr f1 74 (gr 16) true (hlN zs f N m n) (Zgv rc (mvA f1 i) gr zs z2 f f2 N m n) (hlY nl z2 f2 N m n) zs f N m n)) Zg) (Yt [YB f1 gr ha,ZbO f1 nl hb]) 100 20 4 (QT fr i.val 0 l.length) (KE 0 l rc 12 0))=ZcF (V8 (Wt ((((KF (Qd (QU (VS (rc.all (Zu (fun l=>l.blt 64))=true) rc fr) N m n (QM f n (fun l=>l.blt 68)) zs (fun l=>l.blt 68) n N) f1 i.op i.a i.b i.c i.m N (Xx m n f n (fun l=>l.blt 68) zs (rc.all (Zu (fun l=>l.blt 68))) (rc=Vj [67,68,69,70] rc)) n) QJ Qf YA Ws Qp gr gr f1 f1∧(gr 16).V=true)∧(gr 16).V=true)∧(gr 16).V=true)∧(gr 16).V=true) (gr 16) f1 f1 ((gr 16).V=true)) N m n (X9 f2 n (fun l=>l.blt 68)) (V9 z2 (fun l=>l.blt 68)) n N) YA (Zf1 75 0 nl.length) (Zdq (ZaV nl) f1 f1):=by kernel_rfl
def ZvM:=Bx.mk (by have h := @ZpE; simp(maxSteps:=99999999) only[ZL.v, ZZ.v, ZN.v, Z3.v, Qb.v, QH.v, ZR.v, Qc.v, ZD.v, XN.v, QV.v, QN.v, Z8.v, Zz.v, YN.v, ZW.v, Yk.v, Q7.v, YX.v, Wr.v, Qa.v, Y2.v, Y3.v, YO.v, Wd.v, KA.v, Xa.v, ZaW.v, YY.v, ZaX.v, ZlP.v, XY.v, Wu.v, ZbT.v, -eq_self] at h; exact h)
def VT (a:Prop) (b:Cp):=Zoi a b.V
def Zfb:=Bx.mk @VT.eq_1
theorem Ztf (i:In) (fr:Nat→Cp) (f1:Nat→Cp) (gr:Nat→Cp) (l:List Pt) (rc:List Value) (zs:List UInt8) (f:Nat→Bool) (N:Nat) (m:Nat) (n:Nat) (pc:Cp) (pb:Bool) (ha:NaOk f1 gr []):obs (evF Tryz.prog (Zs 3 (Zb (KD 0 l rc fr f1 74 pc pb (hlN zs f N m n) (KC rc f1 i gr 0 zs f N m n) zs f N m n)) Zg) (Yt [YB f1 gr ha]) 100 20 4 (QT fr i.val 0 l.length) (Wl 0 l rc 13 0 0))=KG (VT (KF (Qd (QU (VS (rc.all (Zu (fun l=>l.blt 64))=true) rc fr) N m n (QM f n (fun l=>l.blt 68)) zs (fun l=>l.blt 68) n N) f1 i.op i.a i.b i.c i.m N (Xx m n f n (fun l=>l.blt 68) zs (rc.all (Zu (fun l=>l.blt 68))) (rc=Vj [67,68,69,70] rc)) n) QJ Qf YA Ws Qp gr gr f1 f1) (gr 16)) Qf (V7 N m n (X9 f n (fun l=>l.blt 68)) (V9 zs (fun l=>l.blt 68))) Zh n n N N:=by kernel_rfl
def ZAf:=Bx.mk (by have h := @Ztf; simp(maxSteps:=99999999) only[ZL.v, ZZ.v, ZN.v, Z3.v, Qb.v, QH.v, ZR.v, Qc.v, ZD.v, QY.v, XN.v, QV.v, Z8.v, Zz.v, ZW.v, Yk.v, Q7.v, YX.v, Qa.v, VG.v, Y2.v, Y3.v, YO.v, Wd.v, Xa.v, ZaW.v, YY.v, XY.v, Wu.v, Zfb.v, -eq_self] at h; exact h)
theorem ZpF (i:In) (fr:Nat→Cp) (f1:Nat→Cp) (gr:Nat→Cp) (l:List Pt) (rc:List Value) (zs:List UInt8) (f:Nat→Bool) (N:Nat) (m:Nat) (n:Nat) (pc:Cp) (pb:Bool) (z2:List UInt8) (f2:Nat→Bool) (ha:NaOk f1 gr []):obs (evF Tryz.prog (Zs 3 (Zb (nmL 0 l rc fr f1 74 pc pb (hlN zs f N m n) (Zgv rc (mvA f1 i) gr zs z2 f f2 N m n) (hlN z2 f2 N m n) zs f N m n)) Zg) (Yt [YB f1 gr ha]) 100 20 4 (QT fr i.val 0 l.length) (Wl 0 l rc 13 0 0))=KG (VT (KF (Qd (QU (VS (rc.all (Zu (fun l=>l.blt 64))=true) rc fr) N m n (QM f n (fun l=>l.blt 68)) zs (fun l=>l.blt 68) n N) f1 i.op i.a i.b i.c i.m N (Xx m n f n (fun l=>l.blt 68) zs (rc.all (Zu (fun l=>l.blt 68))) (rc=Vj [67,68,69,70] rc)) n) QJ Qf YA Ws Qp gr gr f1 f1) (gr 16)) Qf (V7 N m n (X9 f2 n (fun l=>l.blt 68)) (V9 z2 (fun l=>l.blt 68))) Zh n n N N:=by kernel_rfl
def ZvN:=Bx.mk (by have h := @ZpF; simp(maxSteps:=99999999) only[ZL.v, ZZ.v, ZN.v, Z3.v, Qb.v, QH.v, ZR.v, Qc.v, ZD.v, QY.v, XN.v, QV.v, Z8.v, Zz.v, ZW.v, Yk.v, Q7.v, YX.v, Qa.v, VG.v, Y2.v, Y3.v, YO.v, Wd.v, Xa.v, ZaW.v, YY.v, XY.v, Wu.v, Zfb.v, -eq_self] at h; exact h)
theorem ZpG (i:In) (fr:Nat→Cp) (f1:Nat→Cp) (gr:Nat→Cp) (l:List Pt) (rc:List Value) (zs:List UInt8) (f:Nat→Bool) (N:Nat) (m:Nat) (n:Nat) (pc:Cp) (pb:Bool) (z2:List UInt8) (f2:Nat→Bool) (nl:List Cp) (ha:NaOk f1 gr []) (hb:NbOk f1 [] nl):obs (evF Tryz.prog (Zs 3 (Zb (nmL 0 l rc fr f1 74 pc pb (hlN zs f N m n) (Zgv rc (mvA f1 i) gr zs z2 f f2 N m n) (hlY nl z2 f2 N m n) zs f N m n)) Zg) (Yt [YB f1 gr ha,ZbO f1 nl hb]) 100 20 4 (QT fr i.val 0 l.length) (Wl 0 l rc 12 0 0))=ZcF (V8 (VT (KF (Qd (QU (VS (rc.all (Zu (fun l=>l.blt 64))=true) rc fr) N m n (QM f n (fun l=>l.blt 68)) zs (fun l=>l.blt 68) n N) f1 i.op i.a i.b i.c i.m N (Xx m n f n (fun l=>l.blt 68) zs (rc.all (Zu (fun l=>l.blt 68))) (rc=Vj [67,68,69,70] rc)) n) QJ Qf YA Ws Qp gr gr f1 f1) (gr 16)) N m n (X9 f2 n (fun l=>l.blt 68)) (V9 z2 (fun l=>l.blt 68)) n N) YA (Zf1 75 0 nl.length) (Zdq (ZaV nl) f1 f1):=by kernel_rfl
def ZvO:=Bx.mk (by have h := @ZpG; simp(maxSteps:=99999999) only[ZL.v, ZZ.v, ZN.v, Z3.v, Qb.v, QH.v, ZR.v, Qc.v, ZD.v, QY.v, XN.v, QV.v, Z8.v, Zz.v, ZW.v, Yk.v, Q7.v, YX.v, Qa.v, VG.v, Y2.v, Y3.v, YO.v, Wd.v, KA.v, Xa.v, ZaW.v, YY.v, ZlP.v, XY.v, Wu.v, ZbT.v, Zfb.v, -eq_self] at h; exact h)
def Vk (a:List Nat) (b:List Value):=Zs9 75 a b
def Xy (a b:Nat) (c:Nat→Bool) (d:Nat) (e:Nat→Bool) (f:List UInt8) (g:Bool) (h:Prop):=ZmV a b (X9 c d e) (V9 f e) g h
def Zap:=Bx.mk (And.intro @Vk.eq_1 @Xy.eq_1)
theorem ZvP (i:In) (fr:Nat→Cp) (f1:Nat→Cp) (gr:Nat→Cp) (l:List Pt) (rc:List Value) (zs:List UInt8) (f:Nat→Bool) (N:Nat) (m:Nat) (n:Nat) (ml:List Cp) (pc:Cp) (pb:Bool) (t:Nat):obs (evF Tryz.prog (Zs 3 (Zb (KD 0 l rc fr f1 75 pc pb (hlY ml zs f N m n) (KC rc f1 i frN t zs f N m n) zs f N m n)) Zg) Zf 100 20 4 (QT fr i.val 0 l.length) (Wl 0 l rc 5 16 0))=Zfa (Qd (QU (VS (rc.all (Zu (fun l=>l.blt 64))=true) rc fr) N m n (QM f n (fun l=>l.blt 68)) zs (fun l=>l.blt 68) n N) f1 i.op i.a i.b i.c i.m N (Xy m n f n (fun l=>l.blt 68) zs (rc.all (Zu (fun l=>l.blt 68))) (rc=Vk [67,68,69,70] rc)) n∧YJ t=true):=by kernel_rfl
def ZDN:=Bx.mk (by have h := @ZvP; simp(maxSteps:=99999999) only[ZL.v, ZZ.v, ZN.v, Z3.v, Qb.v, QH.v, ZR.v, Qc.v, ZD.v, XN.v, Qz.v, QV.v, Z8.v, Zz.v, ZW.v, Yk.v, Q7.v, YX.v, Y3.v, YO.v, Wd.v, Xa.v, YY.v, XY.v, Wu.v, Zap.v, -eq_self] at h; exact h)
def Zth (a:Prop) (b c:Nat→Cp) (d:Prop):=ZlE a (Ze6 b c) d
def KH (a b c d:Nat→Cp) (e f:List Cp):=Zth (Ze6 a b) c d (Zot e f)
def KI (a:Nat→Bool) (b:Nat) (c:Nat→Bool) (d:Prop) (e:Nat→Bool) (f:Nat) (g:Nat→Bool) (h:Nat):=ZiB a b c d d d e f (Zoz 76 g h)
def Wv:=Qw ZiT
def Ww (a b c:Prop) (d:Nat) (e f g:Prop):=Ztd a b c (ZlQ d) e f g
def Jb (a:Prop) (b c:Nat) (d:Prop):=ZcF a (ZlQ b) (ZsZ c) d
def Wx (a:List UInt8) (b:Nat→Bool) (c:List UInt8) (d:Nat) (e:List UInt8):=Zte a b Zh Zh Zh c d e
def Jc (a b:List Cp) (c d:Nat→Cp) (e:List Cp):=Zth (Zot a b) c d (ZaV e)
def ZbU:=Bx.mk (And.intro @Zth.eq_1 (And.intro @KH.eq_1 (And.intro @KI.eq_1 (And.intro @Wv.eq_1 (And.intro @Ww.eq_1 (And.intro @Jb.eq_1 (And.intro @Wx.eq_1 @Jc.eq_1)))))))
theorem Ztg (i:In) (fr:Nat→Cp) (f1:Nat→Cp) (gr:Nat→Cp) (l:List Pt) (rc:List Value) (zs:List UInt8) (f:Nat→Bool) (N:Nat) (m:Nat) (n:Nat) (ml:List Cp) (ha:NaOk f1 gr ml) (hb:NbOk f1 ml ml):obs (evF Tryz.prog (Zs 3 (Zb (KD 0 l rc fr f1 75 (gr 16) true (hlY ml zs f N m n) (KC rc f1 i gr 0 zs f N m n) zs f N m n)) Zg) (Yt [YC f1 gr ml ha,WR f1 ml ml hb]) 100 20 4 (QT fr i.val 0 l.length) (KE 0 l rc 12 0))=Jb (V8 (Wt ((((Ww (Qd (QU (VS (rc.all (Zu (fun l=>l.blt 64))=true) rc fr) N m n (QM f n (fun l=>l.blt 68)) zs (fun l=>l.blt 68) n N) f1 i.op i.a i.b i.c i.m N (Xy m n f n (fun l=>l.blt 68) zs (rc.all (Zu (fun l=>l.blt 68))) (rc=Vk [67,68,69,70] rc)) n) QJ Qf ml.length Wv Qp (KH gr gr f1 f1 ml ml)∧(gr 16).V=true)∧(gr 16).V=true)∧(gr 16).V=true)∧(gr 16).V=true) (gr 16) f1 f1 ((gr 16).V=true)) N m n (KI f n (fun l=>l.blt 68) Zh f n f n) (Wx zs (fun l=>l.blt 68) zs 76 zs) n N) ml.length ml.length (Jc ml ml f1 f1 ml):=by kernel_rfl
def ZAg:=Bx.mk (by have h := @Ztg; simp(maxSteps:=99999999) only[ZL.v, ZZ.v, ZN.v, Z3.v, Qb.v, QH.v, ZR.v, Qc.v, ZD.v, XN.v, QV.v, QN.v, Z8.v, Zz.v, YN.v, ZW.v, Yk.v, Q7.v, YX.v, Wr.v, Qa.v, Y2.v, Y3.v, YO.v, Wd.v, KA.v, Xa.v, YY.v, ZaX.v, UB.v, ZaY.v, ZfC.v, XY.v, Wu.v, ZbT.v, Zap.v, ZbU.v, -eq_self] at h; exact h)
theorem ZpH (i:In) (fr:Nat→Cp) (f1:Nat→Cp) (gr:Nat→Cp) (l:List Pt) (rc:List Value) (zs:List UInt8) (f:Nat→Bool) (N:Nat) (m:Nat) (n:Nat) (ml:List Cp) (z2:List UInt8) (f2:Nat→Bool) (ha:NaOk f1 gr ml):obs (evF Tryz.prog (Zs 3 (Zb (nmL 0 l rc fr f1 75 (gr 16) true (hlY ml zs f N m n) (Zgv rc (mvA f1 i) gr zs z2 f f2 N m n) (hlN z2 f2 N m n) zs f N m n)) Zg) (Yt [YC f1 gr ml ha]) 100 20 4 (QT fr i.val 0 l.length) (KE 0 l rc 13 0))=KG (Wt ((((Ww (Qd (QU (VS (rc.all (Zu (fun l=>l.blt 64))=true) rc fr) N m n (QM f n (fun l=>l.blt 68)) zs (fun l=>l.blt 68) n N) f1 i.op i.a i.b i.c i.m N (Xy m n f n (fun l=>l.blt 68) zs (rc.all (Zu (fun l=>l.blt 68))) (rc=Vk [67,68,69,70] rc)) n) QJ Qf ml.length Wv Qp (KH gr gr f1 f1 ml ml)∧(gr 16).V=true)∧(gr 16).V=true)∧(gr 16).V=true)∧(gr 16).V=true) (gr 16) f1 f1 ((gr 16).V=true)) Qf (V7 N m n (KI f2 n (fun l=>l.blt 68) Zh f2 n f2 n) (Wx z2 (fun l=>l.blt 68) z2 76 z2)) Zh n n N N:=by kernel_rfl
def ZvQ:=Bx.mk (by have h := @ZpH; simp(maxSteps:=99999999) only[ZL.v, ZZ.v, ZN.v, Z3.v, Qb.v, QH.v, ZR.v, Qc.v, ZD.v, XN.v, QV.v, QN.v, Z8.v, Zz.v, YN.v, ZW.v, Yk.v, Q7.v, YX.v, Wr.v, Qa.v, Y2.v, Y3.v, YO.v, Wd.v, KA.v, Xa.v, YY.v, ZaX.v, UB.v, ZaY.v, XY.v, Wu.v, Zap.v, ZbU.v, -eq_self] at h; exact h)
theorem ZpI (i:In) (fr:Nat→Cp) (f1:Nat→Cp) (gr:Nat→Cp) (l:List Pt) (rc:List Value) (zs:List UInt8) (f:Nat→Bool) (N:Nat) (m:Nat) (n:Nat) (ml:List Cp) (z2:List UInt8) (f2:Nat→Bool) (nl:List Cp) (ha:NaOk f1 gr ml) (hb:NbOk f1 ml nl):obs (evF Tryz.prog (Zs 3 (Zb (nmL 0 l rc fr f1 75 (gr 16) true (hlY ml zs f N m n) (Zgv rc (mvA f1 i) gr zs z2 f f2 N m n) (hlY nl z2 f2 N m n) zs f N m n)) Zg) (Yt [YC f1 gr ml ha,WR f1 ml nl hb]) 100 20 4 (QT fr i.val 0 l.length) (KE 0 l rc 12 0))=Jb (V8 (Wt ((((Ww (Qd (QU (VS (rc.all (Zu (fun l=>l.blt 64))=true) rc fr) N m n (QM f n (fun l=>l.blt 68)) zs (fun l=>l.blt 68) n N) f1 i.op i.a i.b i.c i.m N (Xy m n f n (fun l=>l.blt 68) zs (rc.all (Zu (fun l=>l.blt 68))) (rc=Vk [67,68,69,70] rc)) n) QJ Qf ml.length Wv Qp (KH gr gr f1 f1 ml ml)∧(gr 16).V=true)∧(gr 16).V=true)∧(gr 16).V=true)∧(gr 16).V=true) (gr 16) f1 f1 ((gr 16).V=true)) N m n (KI f2 n (fun l=>l.blt 68) Zh f2 n f2 n) (Wx z2 (fun l=>l.blt 68) z2 76 z2) n N) ml.length nl.length (Jc nl nl f1 f1 ml):=by kernel_rfl
def ZvR:=Bx.mk (by have h := @ZpI; simp(maxSteps:=99999999) only[ZL.v, ZZ.v, ZN.v, Z3.v, Qb.v, QH.v, ZR.v, Qc.v, ZD.v, XN.v, QV.v, QN.v, Z8.v, Zz.v, YN.v, ZW.v, Yk.v, Q7.v, YX.v, Wr.v, Qa.v, Y2.v, Y3.v, YO.v, Wd.v, KA.v, Xa.v, YY.v, ZaX.v, UB.v, ZaY.v, ZfC.v, XY.v, Wu.v, ZbT.v, Zap.v, ZbU.v, -eq_self] at h; exact h)
theorem Zti (i:In) (fr:Nat→Cp) (f1:Nat→Cp) (gr:Nat→Cp) (l:List Pt) (rc:List Value) (zs:List UInt8) (f:Nat→Bool) (N:Nat) (m:Nat) (n:Nat) (ml:List Cp) (pc:Cp) (pb:Bool) (ha:NaOk f1 gr ml) (hb:NbOk f1 ml ml):obs (evF Tryz.prog (Zs 3 (Zb (KD 0 l rc fr f1 75 pc pb (hlY ml zs f N m n) (KC rc f1 i gr 0 zs f N m n) zs f N m n)) Zg) (Yt [YC f1 gr ml ha,WR f1 ml ml hb]) 100 20 4 (QT fr i.val 0 l.length) (Wl 0 l rc 12 0 0))=Jb (V8 (VT (Ww (Qd (QU (VS (rc.all (Zu (fun l=>l.blt 64))=true) rc fr) N m n (QM f n (fun l=>l.blt 68)) zs (fun l=>l.blt 68) n N) f1 i.op i.a i.b i.c i.m N (Xy m n f n (fun l=>l.blt 68) zs (rc.all (Zu (fun l=>l.blt 68))) (rc=Vk [67,68,69,70] rc)) n) QJ Qf ml.length Wv Qp (KH gr gr f1 f1 ml ml)) (gr 16)) N m n (KI f n (fun l=>l.blt 68) Zh f n f n) (Wx zs (fun l=>l.blt 68) zs 76 zs) n N) ml.length ml.length (Jc ml ml f1 f1 ml):=by kernel_rfl
def ZAh:=Bx.mk (by have h := @Zti; simp(maxSteps:=99999999) only[ZL.v, ZZ.v, ZN.v, Z3.v, Qb.v, QH.v, ZR.v, Qc.v, ZD.v, QY.v, XN.v, QV.v, Z8.v, Zz.v, ZW.v, Yk.v, Q7.v, YX.v, Qa.v, VG.v, Y2.v, Y3.v, YO.v, Wd.v, KA.v, Xa.v, YY.v, UB.v, ZaY.v, ZfC.v, XY.v, Wu.v, ZbT.v, Zfb.v, Zap.v, ZbU.v, -eq_self] at h; exact h)
theorem ZpJ (i:In) (fr:Nat→Cp) (f1:Nat→Cp) (gr:Nat→Cp) (l:List Pt) (rc:List Value) (zs:List UInt8) (f:Nat→Bool) (N:Nat) (m:Nat) (n:Nat) (ml:List Cp) (pc:Cp) (pb:Bool) (z2:List UInt8) (f2:Nat→Bool) (ha:NaOk f1 gr ml):obs (evF Tryz.prog (Zs 3 (Zb (nmL 0 l rc fr f1 75 pc pb (hlY ml zs f N m n) (Zgv rc (mvA f1 i) gr zs z2 f f2 N m n) (hlN z2 f2 N m n) zs f N m n)) Zg) (Yt [YC f1 gr ml ha]) 100 20 4 (QT fr i.val 0 l.length) (Wl 0 l rc 13 0 0))=KG (VT (Ww (Qd (QU (VS (rc.all (Zu (fun l=>l.blt 64))=true) rc fr) N m n (QM f n (fun l=>l.blt 68)) zs (fun l=>l.blt 68) n N) f1 i.op i.a i.b i.c i.m N (Xy m n f n (fun l=>l.blt 68) zs (rc.all (Zu (fun l=>l.blt 68))) (rc=Vk [67,68,69,70] rc)) n) QJ Qf ml.length Wv Qp (KH gr gr f1 f1 ml ml)) (gr 16)) Qf (V7 N m n (KI f2 n (fun l=>l.blt 68) Zh f2 n f2 n) (Wx z2 (fun l=>l.blt 68) z2 76 z2)) Zh n n N N:=by kernel_rfl
def ZvS:=Bx.mk (by have h := @ZpJ; simp(maxSteps:=99999999) only[ZL.v, ZZ.v, ZN.v, Z3.v, Qb.v, QH.v, ZR.v, Qc.v, ZD.v, QY.v, XN.v, QV.v, Z8.v, Zz.v, ZW.v, Yk.v, Q7.v, YX.v, Qa.v, VG.v, Y2.v, Y3.v, YO.v, Wd.v, KA.v, Xa.v, YY.v, UB.v, ZaY.v, XY.v, Wu.v, Zfb.v, Zap.v, ZbU.v, -eq_self] at h; exact h)
theorem ZpK (i:In) (fr:Nat→Cp) (f1:Nat→Cp) (gr:Nat→Cp) (l:List Pt) (rc:List Value) (zs:List UInt8) (f:Nat→Bool) (N:Nat) (m:Nat) (n:Nat) (ml:List Cp) (pc:Cp) (pb:Bool) (z2:List UInt8) (f2:Nat→Bool) (nl:List Cp) (ha:NaOk f1 gr ml) (hb:NbOk f1 ml nl):obs (evF Tryz.prog (Zs 3 (Zb (nmL 0 l rc fr f1 75 pc pb (hlY ml zs f N m n) (Zgv rc (mvA f1 i) gr zs z2 f f2 N m n) (hlY nl z2 f2 N m n) zs f N m n)) Zg) (Yt [YC f1 gr ml ha,WR f1 ml nl hb]) 100 20 4 (QT fr i.val 0 l.length) (Wl 0 l rc 12 0 0))=Jb (V8 (VT (Ww (Qd (QU (VS (rc.all (Zu (fun l=>l.blt 64))=true) rc fr) N m n (QM f n (fun l=>l.blt 68)) zs (fun l=>l.blt 68) n N) f1 i.op i.a i.b i.c i.m N (Xy m n f n (fun l=>l.blt 68) zs (rc.all (Zu (fun l=>l.blt 68))) (rc=Vk [67,68,69,70] rc)) n) QJ Qf ml.length Wv Qp (KH gr gr f1 f1 ml ml)) (gr 16)) N m n (KI f2 n (fun l=>l.blt 68) Zh f2 n f2 n) (Wx z2 (fun l=>l.blt 68) z2 76 z2) n N) ml.length nl.length (Jc nl nl f1 f1 ml):=by kernel_rfl
def ZvT:=Bx.mk (by have h := @ZpK; simp(maxSteps:=99999999) only[ZL.v, ZZ.v, ZN.v, Z3.v, Qb.v, QH.v, ZR.v, Qc.v, ZD.v, QY.v, XN.v, QV.v, Z8.v, Zz.v, ZW.v, Yk.v, Q7.v, YX.v, Qa.v, VG.v, Y2.v, Y3.v, YO.v, Wd.v, KA.v, Xa.v, YY.v, UB.v, ZaY.v, ZfC.v, XY.v, Wu.v, ZbT.v, Zfb.v, Zap.v, ZbU.v, -eq_self] at h; exact h)
def VU (a:Prop) (b:List Value) (c:Nat→Cp):=ZmW (Qw (Value.slice (some (Zs2 64 0 64)) 0 9223372036854775872)) a b c
def Zac:=Bx.mk @VU.eq_1
theorem ZvU (i:In) (fr:Nat→Cp) (f1:Nat→Cp) (gr:Nat→Cp) (l:List Pt) (rc:List Value) (zs:List UInt8) (f:Nat→Bool) (N:Nat) (m:Nat) (n:Nat) (pc:Cp) (pb:Bool) (t:Nat):obs (evF Tryz.prog (Zs 3 (Zb (KD 1 l rc fr f1 74 pc pb (hlN zs f N m n) (KC rc f1 i frN t zs f N m n) zs f N m n)) Zg) Zf 100 20 4 (QT fr i.val 1 l.length) (Wl 1 l rc 5 16 0))=Zfa (Qd (QU (VU (rc.all (Zu (fun l=>l.blt 64))=true) rc fr) N m n (QM f n (fun l=>l.blt 68)) zs (fun l=>l.blt 68) n N) f1 i.op i.a i.b i.c i.m N (Xx m n f n (fun l=>l.blt 68) zs (rc.all (Zu (fun l=>l.blt 68))) (rc=Vj [67,68,69,70] rc)) n∧YJ t=true):=by kernel_rfl
def ZDO:=Bx.mk (by have h := @ZvU; simp(maxSteps:=99999999) only[ZL.v, ZZ.v, ZN.v, Z3.v, Qb.v, QH.v, ZR.v, Qc.v, ZD.v, XN.v, Qz.v, QV.v, Z8.v, Zz.v, ZW.v, Yk.v, Q7.v, YX.v, Y3.v, YO.v, Xa.v, YY.v, Zd1.v, XY.v, Zac.v, -eq_self] at h; exact h)
theorem Ztj (i:In) (fr:Nat→Cp) (f1:Nat→Cp) (gr:Nat→Cp) (l:List Pt) (rc:List Value) (zs:List UInt8) (f:Nat→Bool) (N:Nat) (m:Nat) (n:Nat) (ha:NaOk f1 gr []):obs (evF Tryz.prog (Zs 3 (Zb (KD 1 l rc fr f1 74 (gr 16) true (hlN zs f N m n) (KC rc f1 i gr 0 zs f N m n) zs f N m n)) Zg) (Yt [YB f1 gr ha]) 100 20 4 (QT fr i.val 1 l.length) (KE 1 l rc 13 0))=KG (Wt ((((KF (Qd (QU (VU (rc.all (Zu (fun l=>l.blt 64))=true) rc fr) N m n (QM f n (fun l=>l.blt 68)) zs (fun l=>l.blt 68) n N) f1 i.op i.a i.b i.c i.m N (Xx m n f n (fun l=>l.blt 68) zs (rc.all (Zu (fun l=>l.blt 68))) (rc=Vj [67,68,69,70] rc)) n) QJ Qf YA Ws Qp gr gr f1 f1∧(gr 16).V=true)∧(gr 16).V=true)∧(gr 16).V=true)∧(gr 16).V=true) (gr 16) f1 f1 ((gr 16).V=true)) Qf (V7 N m n (X9 f n (fun l=>l.blt 68)) (V9 zs (fun l=>l.blt 68))) Zh n n N N:=by kernel_rfl
def ZAi:=Bx.mk (by have h := @Ztj; simp(maxSteps:=99999999) only[ZL.v, ZZ.v, ZN.v, Z3.v, Qb.v, QH.v, ZR.v, Qc.v, ZD.v, XN.v, QV.v, QN.v, Z8.v, Zz.v, YN.v, ZW.v, Yk.v, Q7.v, YX.v, Wr.v, Qa.v, Y2.v, Y3.v, YO.v, Wd.v, Xa.v, ZaW.v, YY.v, ZaX.v, Zd1.v, XY.v, Wu.v, Zac.v, -eq_self] at h; exact h)
theorem ZpL (i:In) (fr:Nat→Cp) (f1:Nat→Cp) (gr:Nat→Cp) (l:List Pt) (rc:List Value) (zs:List UInt8) (f:Nat→Bool) (N:Nat) (m:Nat) (n:Nat) (z2:List UInt8) (f2:Nat→Bool) (ha:NaOk f1 gr []):obs (evF Tryz.prog (Zs 3 (Zb (nmL 1 l rc fr f1 74 (gr 16) true (hlN zs f N m n) (Zgv rc (mvA f1 i) gr zs z2 f f2 N m n) (hlN z2 f2 N m n) zs f N m n)) Zg) (Yt [YB f1 gr ha]) 100 20 4 (QT fr i.val 1 l.length) (KE 1 l rc 13 0))=KG (Wt ((((KF (Qd (QU (VU (rc.all (Zu (fun l=>l.blt 64))=true) rc fr) N m n (QM f n (fun l=>l.blt 68)) zs (fun l=>l.blt 68) n N) f1 i.op i.a i.b i.c i.m N (Xx m n f n (fun l=>l.blt 68) zs (rc.all (Zu (fun l=>l.blt 68))) (rc=Vj [67,68,69,70] rc)) n) QJ Qf YA Ws Qp gr gr f1 f1∧(gr 16).V=true)∧(gr 16).V=true)∧(gr 16).V=true)∧(gr 16).V=true) (gr 16) f1 f1 ((gr 16).V=true)) Qf (V7 N m n (X9 f2 n (fun l=>l.blt 68)) (V9 z2 (fun l=>l.blt 68))) Zh n n N N:=by kernel_rfl
def ZvV:=Bx.mk (by have h := @ZpL; simp(maxSteps:=99999999) only[ZL.v, ZZ.v, ZN.v, Z3.v, Qb.v, QH.v, ZR.v, Qc.v, ZD.v, XN.v, QV.v, QN.v, Z8.v, Zz.v, YN.v, ZW.v, Yk.v, Q7.v, YX.v, Wr.v, Qa.v, Y2.v, Y3.v, YO.v, Wd.v, Xa.v, ZaW.v, YY.v, ZaX.v, Zd1.v, XY.v, Wu.v, Zac.v, -eq_self] at h; exact h)
theorem ZpM (i:In) (fr:Nat→Cp) (f1:Nat→Cp) (gr:Nat→Cp) (l:List Pt) (rc:List Value) (zs:List UInt8) (f:Nat→Bool) (N:Nat) (m:Nat) (n:Nat) (z2:List UInt8) (f2:Nat→Bool) (nl:List Cp) (ha:NaOk f1 gr []) (hb:NbOk f1 [] nl):obs (evF Tryz.prog (Zs 3 (Zb (nmL 1 l rc fr f1 74 (gr 16) true (hlN zs f N m n) (Zgv rc (mvA f1 i) gr zs z2 f f2 N m n) (hlY nl z2 f2 N m n) zs f N m n)) Zg) (Yt [YB f1 gr ha,ZbO f1 nl hb]) 100 20 4 (QT fr i.val 1 l.length) (KE 1 l rc 12 0))=ZcF (V8 (Wt ((((KF (Qd (QU (VU (rc.all (Zu (fun l=>l.blt 64))=true) rc fr) N m n (QM f n (fun l=>l.blt 68)) zs (fun l=>l.blt 68) n N) f1 i.op i.a i.b i.c i.m N (Xx m n f n (fun l=>l.blt 68) zs (rc.all (Zu (fun l=>l.blt 68))) (rc=Vj [67,68,69,70] rc)) n) QJ Qf YA Ws Qp gr gr f1 f1∧(gr 16).V=true)∧(gr 16).V=true)∧(gr 16).V=true)∧(gr 16).V=true) (gr 16) f1 f1 ((gr 16).V=true)) N m n (X9 f2 n (fun l=>l.blt 68)) (V9 z2 (fun l=>l.blt 68)) n N) YA (Zf1 75 0 nl.length) (Zdq (ZaV nl) f1 f1):=by kernel_rfl
def ZvW:=Bx.mk (by have h := @ZpM; simp(maxSteps:=99999999) only[ZL.v, ZZ.v, ZN.v, Z3.v, Qb.v, QH.v, ZR.v, Qc.v, ZD.v, XN.v, QV.v, QN.v, Z8.v, Zz.v, YN.v, ZW.v, Yk.v, Q7.v, YX.v, Wr.v, Qa.v, Y2.v, Y3.v, YO.v, Wd.v, KA.v, Xa.v, ZaW.v, YY.v, ZaX.v, ZlP.v, Zd1.v, XY.v, Wu.v, ZbT.v, Zac.v, -eq_self] at h; exact h)
theorem Ztk (i:In) (fr:Nat→Cp) (f1:Nat→Cp) (gr:Nat→Cp) (l:List Pt) (rc:List Value) (zs:List UInt8) (f:Nat→Bool) (N:Nat) (m:Nat) (n:Nat) (pc:Cp) (pb:Bool) (ha:NaOk f1 gr []):obs (evF Tryz.prog (Zs 3 (Zb (KD 1 l rc fr f1 74 pc pb (hlN zs f N m n) (KC rc f1 i gr 0 zs f N m n) zs f N m n)) Zg) (Yt [YB f1 gr ha]) 100 20 4 (QT fr i.val 1 l.length) (Wl 1 l rc 13 0 0))=KG (VT (KF (Qd (QU (VU (rc.all (Zu (fun l=>l.blt 64))=true) rc fr) N m n (QM f n (fun l=>l.blt 68)) zs (fun l=>l.blt 68) n N) f1 i.op i.a i.b i.c i.m N (Xx m n f n (fun l=>l.blt 68) zs (rc.all (Zu (fun l=>l.blt 68))) (rc=Vj [67,68,69,70] rc)) n) QJ Qf YA Ws Qp gr gr f1 f1) (gr 16)) Qf (V7 N m n (X9 f n (fun l=>l.blt 68)) (V9 zs (fun l=>l.blt 68))) Zh n n N N:=by kernel_rfl
def ZAj:=Bx.mk (by have h := @Ztk; simp(maxSteps:=99999999) only[ZL.v, ZZ.v, ZN.v, Z3.v, Qb.v, QH.v, ZR.v, Qc.v, ZD.v, QY.v, XN.v, QV.v, Z8.v, Zz.v, ZW.v, Yk.v, Q7.v, YX.v, Qa.v, VG.v, Y2.v, Y3.v, YO.v, Wd.v, Xa.v, ZaW.v, YY.v, Zd1.v, XY.v, Wu.v, Zfb.v, Zac.v, -eq_self] at h; exact h)
theorem ZpN (i:In) (fr:Nat→Cp) (f1:Nat→Cp) (gr:Nat→Cp) (l:List Pt) (rc:List Value) (zs:List UInt8) (f:Nat→Bool) (N:Nat) (m:Nat) (n:Nat) (pc:Cp) (pb:Bool) (z2:List UInt8) (f2:Nat→Bool) (ha:NaOk f1 gr []):obs (evF Tryz.prog (Zs 3 (Zb (nmL 1 l rc fr f1 74 pc pb (hlN zs f N m n) (Zgv rc (mvA f1 i) gr zs z2 f f2 N m n) (hlN z2 f2 N m n) zs f N m n)) Zg) (Yt [YB f1 gr ha]) 100 20 4 (QT fr i.val 1 l.length) (Wl 1 l rc 13 0 0))=KG (VT (KF (Qd (QU (VU (rc.all (Zu (fun l=>l.blt 64))=true) rc fr) N m n (QM f n (fun l=>l.blt 68)) zs (fun l=>l.blt 68) n N) f1 i.op i.a i.b i.c i.m N (Xx m n f n (fun l=>l.blt 68) zs (rc.all (Zu (fun l=>l.blt 68))) (rc=Vj [67,68,69,70] rc)) n) QJ Qf YA Ws Qp gr gr f1 f1) (gr 16)) Qf (V7 N m n (X9 f2 n (fun l=>l.blt 68)) (V9 z2 (fun l=>l.blt 68))) Zh n n N N:=by kernel_rfl
def ZvX:=Bx.mk (by have h := @ZpN; simp(maxSteps:=99999999) only[ZL.v, ZZ.v, ZN.v, Z3.v, Qb.v, QH.v, ZR.v, Qc.v, ZD.v, QY.v, XN.v, QV.v, Z8.v, Zz.v, ZW.v, Yk.v, Q7.v, YX.v, Qa.v, VG.v, Y2.v, Y3.v, YO.v, Wd.v, Xa.v, ZaW.v, YY.v, Zd1.v, XY.v, Wu.v, Zfb.v, Zac.v, -eq_self] at h; exact h)
theorem ZpO (i:In) (fr:Nat→Cp) (f1:Nat→Cp) (gr:Nat→Cp) (l:List Pt) (rc:List Value) (zs:List UInt8) (f:Nat→Bool) (N:Nat) (m:Nat) (n:Nat) (pc:Cp) (pb:Bool) (z2:List UInt8) (f2:Nat→Bool) (nl:List Cp) (ha:NaOk f1 gr []) (hb:NbOk f1 [] nl):obs (evF Tryz.prog (Zs 3 (Zb (nmL 1 l rc fr f1 74 pc pb (hlN zs f N m n) (Zgv rc (mvA f1 i) gr zs z2 f f2 N m n) (hlY nl z2 f2 N m n) zs f N m n)) Zg) (Yt [YB f1 gr ha,ZbO f1 nl hb]) 100 20 4 (QT fr i.val 1 l.length) (Wl 1 l rc 12 0 0))=ZcF (V8 (VT (KF (Qd (QU (VU (rc.all (Zu (fun l=>l.blt 64))=true) rc fr) N m n (QM f n (fun l=>l.blt 68)) zs (fun l=>l.blt 68) n N) f1 i.op i.a i.b i.c i.m N (Xx m n f n (fun l=>l.blt 68) zs (rc.all (Zu (fun l=>l.blt 68))) (rc=Vj [67,68,69,70] rc)) n) QJ Qf YA Ws Qp gr gr f1 f1) (gr 16)) N m n (X9 f2 n (fun l=>l.blt 68)) (V9 z2 (fun l=>l.blt 68)) n N) YA (Zf1 75 0 nl.length) (Zdq (ZaV nl) f1 f1):=by kernel_rfl
def ZvY:=Bx.mk (by have h := @ZpO; simp(maxSteps:=99999999) only[ZL.v, ZZ.v, ZN.v, Z3.v, Qb.v, QH.v, ZR.v, Qc.v, ZD.v, QY.v, XN.v, QV.v, Z8.v, Zz.v, ZW.v, Yk.v, Q7.v, YX.v, Qa.v, VG.v, Y2.v, Y3.v, YO.v, Wd.v, KA.v, Xa.v, ZaW.v, YY.v, ZlP.v, Zd1.v, XY.v, Wu.v, ZbT.v, Zfb.v, Zac.v, -eq_self] at h; exact h)
theorem ZvZ (i:In) (fr:Nat→Cp) (f1:Nat→Cp) (gr:Nat→Cp) (l:List Pt) (rc:List Value) (zs:List UInt8) (f:Nat→Bool) (N:Nat) (m:Nat) (n:Nat) (ml:List Cp) (pc:Cp) (pb:Bool) (t:Nat):obs (evF Tryz.prog (Zs 3 (Zb (KD 1 l rc fr f1 75 pc pb (hlY ml zs f N m n) (KC rc f1 i frN t zs f N m n) zs f N m n)) Zg) Zf 100 20 4 (QT fr i.val 1 l.length) (Wl 1 l rc 5 16 0))=Zfa (Qd (QU (VU (rc.all (Zu (fun l=>l.blt 64))=true) rc fr) N m n (QM f n (fun l=>l.blt 68)) zs (fun l=>l.blt 68) n N) f1 i.op i.a i.b i.c i.m N (Xy m n f n (fun l=>l.blt 68) zs (rc.all (Zu (fun l=>l.blt 68))) (rc=Vk [67,68,69,70] rc)) n∧YJ t=true):=by kernel_rfl
def ZDP:=Bx.mk (by have h := @ZvZ; simp(maxSteps:=99999999) only[ZL.v, ZZ.v, ZN.v, Z3.v, Qb.v, QH.v, ZR.v, Qc.v, ZD.v, XN.v, Qz.v, QV.v, Z8.v, Zz.v, ZW.v, Yk.v, Q7.v, YX.v, Y3.v, YO.v, Xa.v, YY.v, Zd1.v, XY.v, Wu.v, Zap.v, Zac.v, -eq_self] at h; exact h)
theorem Ztl (i:In) (fr:Nat→Cp) (f1:Nat→Cp) (gr:Nat→Cp) (l:List Pt) (rc:List Value) (zs:List UInt8) (f:Nat→Bool) (N:Nat) (m:Nat) (n:Nat) (ml:List Cp) (ha:NaOk f1 gr ml) (hb:NbOk f1 ml ml):obs (evF Tryz.prog (Zs 3 (Zb (KD 1 l rc fr f1 75 (gr 16) true (hlY ml zs f N m n) (KC rc f1 i gr 0 zs f N m n) zs f N m n)) Zg) (Yt [YC f1 gr ml ha,WR f1 ml ml hb]) 100 20 4 (QT fr i.val 1 l.length) (KE 1 l rc 12 0))=Jb (V8 (Wt ((((Ww (Qd (QU (VU (rc.all (Zu (fun l=>l.blt 64))=true) rc fr) N m n (QM f n (fun l=>l.blt 68)) zs (fun l=>l.blt 68) n N) f1 i.op i.a i.b i.c i.m N (Xy m n f n (fun l=>l.blt 68) zs (rc.all (Zu (fun l=>l.blt 68))) (rc=Vk [67,68,69,70] rc)) n) QJ Qf ml.length Wv Qp (KH gr gr f1 f1 ml ml)∧(gr 16).V=true)∧(gr 16).V=true)∧(gr 16).V=true)∧(gr 16).V=true) (gr 16) f1 f1 ((gr 16).V=true)) N m n (KI f n (fun l=>l.blt 68) Zh f n f n) (Wx zs (fun l=>l.blt 68) zs 76 zs) n N) ml.length ml.length (Jc ml ml f1 f1 ml):=by kernel_rfl
def ZAk:=Bx.mk (by have h := @Ztl; simp(maxSteps:=99999999) only[ZL.v, ZZ.v, ZN.v, Z3.v, Qb.v, QH.v, ZR.v, Qc.v, ZD.v, XN.v, QV.v, QN.v, Z8.v, Zz.v, YN.v, ZW.v, Yk.v, Q7.v, YX.v, Wr.v, Qa.v, Y2.v, Y3.v, YO.v, Wd.v, KA.v, Xa.v, YY.v, ZaX.v, UB.v, ZaY.v, ZfC.v, Zd1.v, XY.v, Wu.v, ZbT.v, Zap.v, ZbU.v, Zac.v, -eq_self] at h; exact h)
theorem ZpP (i:In) (fr:Nat→Cp) (f1:Nat→Cp) (gr:Nat→Cp) (l:List Pt) (rc:List Value) (zs:List UInt8) (f:Nat→Bool) (N:Nat) (m:Nat) (n:Nat) (ml:List Cp) (z2:List UInt8) (f2:Nat→Bool) (ha:NaOk f1 gr ml):obs (evF Tryz.prog (Zs 3 (Zb (nmL 1 l rc fr f1 75 (gr 16) true (hlY ml zs f N m n) (Zgv rc (mvA f1 i) gr zs z2 f f2 N m n) (hlN z2 f2 N m n) zs f N m n)) Zg) (Yt [YC f1 gr ml ha]) 100 20 4 (QT fr i.val 1 l.length) (KE 1 l rc 13 0))=KG (Wt ((((Ww (Qd (QU (VU (rc.all (Zu (fun l=>l.blt 64))=true) rc fr) N m n (QM f n (fun l=>l.blt 68)) zs (fun l=>l.blt 68) n N) f1 i.op i.a i.b i.c i.m N (Xy m n f n (fun l=>l.blt 68) zs (rc.all (Zu (fun l=>l.blt 68))) (rc=Vk [67,68,69,70] rc)) n) QJ Qf ml.length Wv Qp (KH gr gr f1 f1 ml ml)∧(gr 16).V=true)∧(gr 16).V=true)∧(gr 16).V=true)∧(gr 16).V=true) (gr 16) f1 f1 ((gr 16).V=true)) Qf (V7 N m n (KI f2 n (fun l=>l.blt 68) Zh f2 n f2 n) (Wx z2 (fun l=>l.blt 68) z2 76 z2)) Zh n n N N:=by kernel_rfl
def Zv0:=Bx.mk (by have h := @ZpP; simp(maxSteps:=99999999) only[ZL.v, ZZ.v, ZN.v, Z3.v, Qb.v, QH.v, ZR.v, Qc.v, ZD.v, XN.v, QV.v, QN.v, Z8.v, Zz.v, YN.v, ZW.v, Yk.v, Q7.v, YX.v, Wr.v, Qa.v, Y2.v, Y3.v, YO.v, Wd.v, KA.v, Xa.v, YY.v, ZaX.v, UB.v, ZaY.v, Zd1.v, XY.v, Wu.v, Zap.v, ZbU.v, Zac.v, -eq_self] at h; exact h)
theorem ZpQ (i:In) (fr:Nat→Cp) (f1:Nat→Cp) (gr:Nat→Cp) (l:List Pt) (rc:List Value) (zs:List UInt8) (f:Nat→Bool) (N:Nat) (m:Nat) (n:Nat) (ml:List Cp) (z2:List UInt8) (f2:Nat→Bool) (nl:List Cp) (ha:NaOk f1 gr ml) (hb:NbOk f1 ml nl):obs (evF Tryz.prog (Zs 3 (Zb (nmL 1 l rc fr f1 75 (gr 16) true (hlY ml zs f N m n) (Zgv rc (mvA f1 i) gr zs z2 f f2 N m n) (hlY nl z2 f2 N m n) zs f N m n)) Zg) (Yt [YC f1 gr ml ha,WR f1 ml nl hb]) 100 20 4 (QT fr i.val 1 l.length) (KE 1 l rc 12 0))=Jb (V8 (Wt ((((Ww (Qd (QU (VU (rc.all (Zu (fun l=>l.blt 64))=true) rc fr) N m n (QM f n (fun l=>l.blt 68)) zs (fun l=>l.blt 68) n N) f1 i.op i.a i.b i.c i.m N (Xy m n f n (fun l=>l.blt 68) zs (rc.all (Zu (fun l=>l.blt 68))) (rc=Vk [67,68,69,70] rc)) n) QJ Qf ml.length Wv Qp (KH gr gr f1 f1 ml ml)∧(gr 16).V=true)∧(gr 16).V=true)∧(gr 16).V=true)∧(gr 16).V=true) (gr 16) f1 f1 ((gr 16).V=true)) N m n (KI f2 n (fun l=>l.blt 68) Zh f2 n f2 n) (Wx z2 (fun l=>l.blt 68) z2 76 z2) n N) ml.length nl.length (Jc nl nl f1 f1 ml):=by kernel_rfl
def Zv1:=Bx.mk (by have h := @ZpQ; simp(maxSteps:=99999999) only[ZL.v, ZZ.v, ZN.v, Z3.v, Qb.v, QH.v, ZR.v, Qc.v, ZD.v, XN.v, QV.v, QN.v, Z8.v, Zz.v, YN.v, ZW.v, Yk.v, Q7.v, YX.v, Wr.v, Qa.v, Y2.v, Y3.v, YO.v, Wd.v, KA.v, Xa.v, YY.v, ZaX.v, UB.v, ZaY.v, ZfC.v, Zd1.v, XY.v, Wu.v, ZbT.v, Zap.v, ZbU.v, Zac.v, -eq_self] at h; exact h)
theorem Ztm (i:In) (fr:Nat→Cp) (f1:Nat→Cp) (gr:Nat→Cp) (l:List Pt) (rc:List Value) (zs:List UInt8) (f:Nat→Bool) (N:Nat) (m:Nat) (n:Nat) (ml:List Cp) (pc:Cp) (pb:Bool) (ha:NaOk f1 gr ml) (hb:NbOk f1 ml ml):obs (evF Tryz.prog (Zs 3 (Zb (KD 1 l rc fr f1 75 pc pb (hlY ml zs f N m n) (KC rc f1 i gr 0 zs f N m n) zs f N m n)) Zg) (Yt [YC f1 gr ml ha,WR f1 ml ml hb]) 100 20 4 (QT fr i.val 1 l.length) (Wl 1 l rc 12 0 0))=Jb (V8 (VT (Ww (Qd (QU (VU (rc.all (Zu (fun l=>l.blt 64))=true) rc fr) N m n (QM f n (fun l=>l.blt 68)) zs (fun l=>l.blt 68) n N) f1 i.op i.a i.b i.c i.m N (Xy m n f n (fun l=>l.blt 68) zs (rc.all (Zu (fun l=>l.blt 68))) (rc=Vk [67,68,69,70] rc)) n) QJ Qf ml.length Wv Qp (KH gr gr f1 f1 ml ml)) (gr 16)) N m n (KI f n (fun l=>l.blt 68) Zh f n f n) (Wx zs (fun l=>l.blt 68) zs 76 zs) n N) ml.length ml.length (Jc ml ml f1 f1 ml):=by kernel_rfl
def ZAl:=Bx.mk (by have h := @Ztm; simp(maxSteps:=99999999) only[ZL.v, ZZ.v, ZN.v, Z3.v, Qb.v, QH.v, ZR.v, Qc.v, ZD.v, QY.v, XN.v, QV.v, Z8.v, Zz.v, ZW.v, Yk.v, Q7.v, YX.v, Qa.v, VG.v, Y2.v, Y3.v, YO.v, KA.v, Xa.v, YY.v, UB.v, ZaY.v, ZfC.v, Zd1.v, XY.v, Wu.v, ZbT.v, Zfb.v, Zap.v, ZbU.v, Zac.v, -eq_self] at h; exact h)
theorem ZpR (i:In) (fr:Nat→Cp) (f1:Nat→Cp) (gr:Nat→Cp) (l:List Pt) (rc:List Value) (zs:List UInt8) (f:Nat→Bool) (N:Nat) (m:Nat) (n:Nat) (ml:List Cp) (pc:Cp) (pb:Bool) (z2:List UInt8) (f2:Nat→Bool) (ha:NaOk f1 gr ml):obs (evF Tryz.prog (Zs 3 (Zb (nmL 1 l rc fr f1 75 pc pb (hlY ml zs f N m n) (Zgv rc (mvA f1 i) gr zs z2 f f2 N m n) (hlN z2 f2 N m n) zs f N m n)) Zg) (Yt [YC f1 gr ml ha]) 100 20 4 (QT fr i.val 1 l.length) (Wl 1 l rc 13 0 0))=KG (VT (Ww (Qd (QU (VU (rc.all (Zu (fun l=>l.blt 64))=true) rc fr) N m n (QM f n (fun l=>l.blt 68)) zs (fun l=>l.blt 68) n N) f1 i.op i.a i.b i.c i.m N (Xy m n f n (fun l=>l.blt 68) zs (rc.all (Zu (fun l=>l.blt 68))) (rc=Vk [67,68,69,70] rc)) n) QJ Qf ml.length Wv Qp (KH gr gr f1 f1 ml ml)) (gr 16)) Qf (V7 N m n (KI f2 n (fun l=>l.blt 68) Zh f2 n f2 n) (Wx z2 (fun l=>l.blt 68) z2 76 z2)) Zh n n N N:=by kernel_rfl
def Zv2:=Bx.mk (by have h := @ZpR; simp(maxSteps:=99999999) only[ZL.v, ZZ.v, ZN.v, Z3.v, Qb.v, QH.v, ZR.v, Qc.v, ZD.v, QY.v, XN.v, QV.v, Z8.v, Zz.v, ZW.v, Yk.v, Q7.v, YX.v, Qa.v, VG.v, Y2.v, Y3.v, YO.v, KA.v, Xa.v, YY.v, UB.v, ZaY.v, Zd1.v, XY.v, Wu.v, Zfb.v, Zap.v, ZbU.v, Zac.v, -eq_self] at h; exact h)
theorem ZpS (i:In) (fr:Nat→Cp) (f1:Nat→Cp) (gr:Nat→Cp) (l:List Pt) (rc:List Value) (zs:List UInt8) (f:Nat→Bool) (N:Nat) (m:Nat) (n:Nat) (ml:List Cp) (pc:Cp) (pb:Bool) (z2:List UInt8) (f2:Nat→Bool) (nl:List Cp) (ha:NaOk f1 gr ml) (hb:NbOk f1 ml nl):obs (evF Tryz.prog (Zs 3 (Zb (nmL 1 l rc fr f1 75 pc pb (hlY ml zs f N m n) (Zgv rc (mvA f1 i) gr zs z2 f f2 N m n) (hlY nl z2 f2 N m n) zs f N m n)) Zg) (Yt [YC f1 gr ml ha,WR f1 ml nl hb]) 100 20 4 (QT fr i.val 1 l.length) (Wl 1 l rc 12 0 0))=Jb (V8 (VT (Ww (Qd (QU (VU (rc.all (Zu (fun l=>l.blt 64))=true) rc fr) N m n (QM f n (fun l=>l.blt 68)) zs (fun l=>l.blt 68) n N) f1 i.op i.a i.b i.c i.m N (Xy m n f n (fun l=>l.blt 68) zs (rc.all (Zu (fun l=>l.blt 68))) (rc=Vk [67,68,69,70] rc)) n) QJ Qf ml.length Wv Qp (KH gr gr f1 f1 ml ml)) (gr 16)) N m n (KI f2 n (fun l=>l.blt 68) Zh f2 n f2 n) (Wx z2 (fun l=>l.blt 68) z2 76 z2) n N) ml.length nl.length (Jc nl nl f1 f1 ml):=by kernel_rfl
def Zv3:=Bx.mk (by have h := @ZpS; simp(maxSteps:=99999999) only[ZL.v, ZZ.v, ZN.v, Z3.v, Qb.v, QH.v, ZR.v, Qc.v, ZD.v, QY.v, XN.v, QV.v, Z8.v, Zz.v, ZW.v, Yk.v, Q7.v, YX.v, Qa.v, VG.v, Y2.v, Y3.v, YO.v, KA.v, Xa.v, YY.v, UB.v, ZaY.v, ZfC.v, Zd1.v, XY.v, Wu.v, ZbT.v, Zfb.v, Zap.v, ZbU.v, Zac.v, -eq_self] at h; exact h)
def UC (a:List Pt) (b:Nat→Bool) (c:Nat):=Zfv (Qy a) b c
def UD (a b:Nat) (c:List Nat) (d:Nat) (e:List Pt):=ZaH a b c d (Qy e)
def UE (a b c:Prop) (d e:List Value) (f g:Nat→Cp):=Zs7 a b c b b b d e f g
def VV (a:Nat) (b c:Prop):=Zsq (ZdZ a) Zh b c
def Zad:=Bx.mk (And.intro @UC.eq_1 (And.intro @UD.eq_1 (And.intro @UE.eq_1 @VV.eq_1)))
theorem Zv4 (i:In) (fr:Nat→Cp) (f1:Nat→Cp) (gr:Nat→Cp) (l:List Pt) (rc:List Value) (zs:List UInt8) (f:Nat→Bool) (N:Nat) (m:Nat) (n:Nat) (pc:Cp) (pb:Bool) (t:Nat):obs (evF Tryz.prog (Zs 3 (Zb (KD 2 l rc fr f1 74 pc pb (hlN zs f N m n) (KC rc f1 i frN t zs f N m n) zs f N m n)) Zg) Zf 100 20 4 (QT fr i.val 2 l.length) (Wl 2 l rc 5 16 0))=Zfa (Qd (QU (UE (VV l.length (UC l (fun l=>l.blt 65) 3=true) (Qy l=UD 65 67 [64] 3 l)) Zh (rc.all (Zu (fun l=>l.blt 64))=true) rc rc fr fr) N m n (QM f n (fun l=>l.blt 68)) zs (fun l=>l.blt 68) n N) f1 i.op i.a i.b i.c i.m N (Xx m n f n (fun l=>l.blt 68) zs (rc.all (Zu (fun l=>l.blt 68))) (rc=Vj [67,68,69,70] rc)) n∧YJ t=true):=by kernel_rfl
def ZDQ:=Bx.mk (by have h := @Zv4; simp(maxSteps:=99999999) only[ZL.v, ZZ.v, ZN.v, Z3.v, Qb.v, QH.v, ZR.v, Qc.v, ZD.v, XN.v, Qz.v, QV.v, Z8.v, Zz.v, ZW.v, Yk.v, Q7.v, YX.v, Y3.v, YO.v, Xa.v, ZcB.v, YY.v, XY.v, Zad.v, -eq_self] at h; exact h)
theorem Ztn (i:In) (fr:Nat→Cp) (f1:Nat→Cp) (gr:Nat→Cp) (l:List Pt) (rc:List Value) (zs:List UInt8) (f:Nat→Bool) (N:Nat) (m:Nat) (n:Nat) (ha:NaOk f1 gr []):obs (evF Tryz.prog (Zs 3 (Zb (KD 2 l rc fr f1 74 (gr 16) true (hlN zs f N m n) (KC rc f1 i gr 0 zs f N m n) zs f N m n)) Zg) (Yt [YB f1 gr ha]) 100 20 4 (QT fr i.val 2 l.length) (KE 2 l rc 13 0))=KG (Wt ((((KF (Qd (QU (UE (VV l.length (UC l (fun l=>l.blt 65) 3=true) (Qy l=UD 65 67 [64] 3 l)) Zh (rc.all (Zu (fun l=>l.blt 64))=true) rc rc fr fr) N m n (QM f n (fun l=>l.blt 68)) zs (fun l=>l.blt 68) n N) f1 i.op i.a i.b i.c i.m N (Xx m n f n (fun l=>l.blt 68) zs (rc.all (Zu (fun l=>l.blt 68))) (rc=Vj [67,68,69,70] rc)) n) QJ Qf YA Ws Qp gr gr f1 f1∧(gr 16).V=true)∧(gr 16).V=true)∧(gr 16).V=true)∧(gr 16).V=true) (gr 16) f1 f1 ((gr 16).V=true)) Qf (V7 N m n (X9 f n (fun l=>l.blt 68)) (V9 zs (fun l=>l.blt 68))) Zh n n N N:=by kernel_rfl
def ZAm:=Bx.mk (by have h := @Ztn; simp(maxSteps:=99999999) only[ZL.v, ZZ.v, ZN.v, Z3.v, Qb.v, QH.v, ZR.v, Qc.v, ZD.v, XN.v, QV.v, QN.v, Z8.v, Zz.v, YN.v, ZW.v, Yk.v, Q7.v, YX.v, Wr.v, Qa.v, Y2.v, Y3.v, YO.v, Wd.v, Xa.v, ZcB.v, ZaW.v, YY.v, ZaX.v, XY.v, Wu.v, Zad.v, -eq_self] at h; exact h)
theorem ZpT (i:In) (fr:Nat→Cp) (f1:Nat→Cp) (gr:Nat→Cp) (l:List Pt) (rc:List Value) (zs:List UInt8) (f:Nat→Bool) (N:Nat) (m:Nat) (n:Nat) (z2:List UInt8) (f2:Nat→Bool) (ha:NaOk f1 gr []):obs (evF Tryz.prog (Zs 3 (Zb (nmL 2 l rc fr f1 74 (gr 16) true (hlN zs f N m n) (Zgv rc (mvA f1 i) gr zs z2 f f2 N m n) (hlN z2 f2 N m n) zs f N m n)) Zg) (Yt [YB f1 gr ha]) 100 20 4 (QT fr i.val 2 l.length) (KE 2 l rc 13 0))=KG (Wt ((((KF (Qd (QU (UE (VV l.length (UC l (fun l=>l.blt 65) 3=true) (Qy l=UD 65 67 [64] 3 l)) Zh (rc.all (Zu (fun l=>l.blt 64))=true) rc rc fr fr) N m n (QM f n (fun l=>l.blt 68)) zs (fun l=>l.blt 68) n N) f1 i.op i.a i.b i.c i.m N (Xx m n f n (fun l=>l.blt 68) zs (rc.all (Zu (fun l=>l.blt 68))) (rc=Vj [67,68,69,70] rc)) n) QJ Qf YA Ws Qp gr gr f1 f1∧(gr 16).V=true)∧(gr 16).V=true)∧(gr 16).V=true)∧(gr 16).V=true) (gr 16) f1 f1 ((gr 16).V=true)) Qf (V7 N m n (X9 f2 n (fun l=>l.blt 68)) (V9 z2 (fun l=>l.blt 68))) Zh n n N N:=by kernel_rfl
def Zv5:=Bx.mk (by have h := @ZpT; simp(maxSteps:=99999999) only[ZL.v, ZZ.v, ZN.v, Z3.v, Qb.v, QH.v, ZR.v, Qc.v, ZD.v, XN.v, QV.v, QN.v, Z8.v, Zz.v, YN.v, ZW.v, Yk.v, Q7.v, YX.v, Wr.v, Qa.v, Y2.v, Y3.v, YO.v, Wd.v, Xa.v, ZcB.v, ZaW.v, YY.v, ZaX.v, XY.v, Wu.v, Zad.v, -eq_self] at h; exact h)
theorem ZpU (i:In) (fr:Nat→Cp) (f1:Nat→Cp) (gr:Nat→Cp) (l:List Pt) (rc:List Value) (zs:List UInt8) (f:Nat→Bool) (N:Nat) (m:Nat) (n:Nat) (z2:List UInt8) (f2:Nat→Bool) (nl:List Cp) (ha:NaOk f1 gr []) (hb:NbOk f1 [] nl):obs (evF Tryz.prog (Zs 3 (Zb (nmL 2 l rc fr f1 74 (gr 16) true (hlN zs f N m n) (Zgv rc (mvA f1 i) gr zs z2 f f2 N m n) (hlY nl z2 f2 N m n) zs f N m n)) Zg) (Yt [YB f1 gr ha,ZbO f1 nl hb]) 100 20 4 (QT fr i.val 2 l.length) (KE 2 l rc 12 0))=ZcF (V8 (Wt ((((KF (Qd (QU (UE (VV l.length (UC l (fun l=>l.blt 65) 3=true) (Qy l=UD 65 67 [64] 3 l)) Zh (rc.all (Zu (fun l=>l.blt 64))=true) rc rc fr fr) N m n (QM f n (fun l=>l.blt 68)) zs (fun l=>l.blt 68) n N) f1 i.op i.a i.b i.c i.m N (Xx m n f n (fun l=>l.blt 68) zs (rc.all (Zu (fun l=>l.blt 68))) (rc=Vj [67,68,69,70] rc)) n) QJ Qf YA Ws Qp gr gr f1 f1∧(gr 16).V=true)∧(gr 16).V=true)∧(gr 16).V=true)∧(gr 16).V=true) (gr 16) f1 f1 ((gr 16).V=true)) N m n (X9 f2 n (fun l=>l.blt 68)) (V9 z2 (fun l=>l.blt 68)) n N) YA (Zf1 75 0 nl.length) (Zdq (ZaV nl) f1 f1):=by kernel_rfl
def Zv6:=Bx.mk (by have h := @ZpU; simp(maxSteps:=99999999) only[ZL.v, ZZ.v, ZN.v, Z3.v, Qb.v, QH.v, ZR.v, Qc.v, ZD.v, XN.v, QV.v, QN.v, Z8.v, Zz.v, YN.v, ZW.v, Yk.v, Q7.v, YX.v, Wr.v, Qa.v, Y2.v, Y3.v, YO.v, Wd.v, KA.v, Xa.v, ZcB.v, ZaW.v, YY.v, ZaX.v, ZlP.v, XY.v, Wu.v, ZbT.v, Zad.v, -eq_self] at h; exact h)
theorem Zto (i:In) (fr:Nat→Cp) (f1:Nat→Cp) (gr:Nat→Cp) (l:List Pt) (rc:List Value) (zs:List UInt8) (f:Nat→Bool) (N:Nat) (m:Nat) (n:Nat) (pc:Cp) (pb:Bool) (ha:NaOk f1 gr []):obs (evF Tryz.prog (Zs 3 (Zb (KD 2 l rc fr f1 74 pc pb (hlN zs f N m n) (KC rc f1 i gr 0 zs f N m n) zs f N m n)) Zg) (Yt [YB f1 gr ha]) 100 20 4 (QT fr i.val 2 l.length) (Wl 2 l rc 13 0 0))=KG (VT (KF (Qd (QU (UE (VV l.length (UC l (fun l=>l.blt 65) 3=true) (Qy l=UD 65 67 [64] 3 l)) Zh (rc.all (Zu (fun l=>l.blt 64))=true) rc rc fr fr) N m n (QM f n (fun l=>l.blt 68)) zs (fun l=>l.blt 68) n N) f1 i.op i.a i.b i.c i.m N (Xx m n f n (fun l=>l.blt 68) zs (rc.all (Zu (fun l=>l.blt 68))) (rc=Vj [67,68,69,70] rc)) n) QJ Qf YA Ws Qp gr gr f1 f1) (gr 16)) Qf (V7 N m n (X9 f n (fun l=>l.blt 68)) (V9 zs (fun l=>l.blt 68))) Zh n n N N:=by kernel_rfl
def ZAn:=Bx.mk (by have h := @Zto; simp(maxSteps:=99999999) only[ZL.v, ZZ.v, ZN.v, Z3.v, Qb.v, QH.v, ZR.v, Qc.v, ZD.v, QY.v, XN.v, QV.v, Z8.v, Zz.v, ZW.v, Yk.v, Q7.v, YX.v, Qa.v, VG.v, Y2.v, Y3.v, YO.v, Wd.v, Xa.v, ZcB.v, ZaW.v, YY.v, XY.v, Wu.v, Zfb.v, Zad.v, -eq_self] at h; exact h)
theorem ZpV (i:In) (fr:Nat→Cp) (f1:Nat→Cp) (gr:Nat→Cp) (l:List Pt) (rc:List Value) (zs:List UInt8) (f:Nat→Bool) (N:Nat) (m:Nat) (n:Nat) (pc:Cp) (pb:Bool) (z2:List UInt8) (f2:Nat→Bool) (ha:NaOk f1 gr []):obs (evF Tryz.prog (Zs 3 (Zb (nmL 2 l rc fr f1 74 pc pb (hlN zs f N m n) (Zgv rc (mvA f1 i) gr zs z2 f f2 N m n) (hlN z2 f2 N m n) zs f N m n)) Zg) (Yt [YB f1 gr ha]) 100 20 4 (QT fr i.val 2 l.length) (Wl 2 l rc 13 0 0))=KG (YI (KU (Un (KF (Qd (QU (UE (VV l.length (UC l (fun l=>l.blt 65) 3=true) (Qy l=UD 65 67 [64] 3 l)) Zh (rc.all (Zu (fun l=>l.blt 64))=true) rc rc fr fr) N m n (QM f n (fun l=>l.blt 68)) zs (fun l=>l.blt 68) n N) f1 i.op i.a i.b i.c i.m N (Xx m n f n (fun l=>l.blt 68) zs (rc.all (Zu (fun l=>l.blt 68))) (rc=Vj [67,68,69,70] rc)) n) QJ Qf YA Ws Qp gr gr f1 f1) (gr 16).V) (gr 16).V)) Qf (V7 N m n (X9 f2 n (fun l=>l.blt 68)) (V9 z2 (fun l=>l.blt 68))) Zh n n N N:=by kernel_rfl
def Zv7:=Bx.mk (by have h := @ZpV; simp(maxSteps:=99999999) only[ZL.v, ZZ.v, ZN.v, Z3.v, Qb.v, QH.v, ZR.v, Qc.v, ZD.v, XN.v, QV.v, JI.v, Z8.v, Zz.v, Uq.v, ZW.v, Yk.v, Q7.v, YX.v, Qa.v, Y2.v, Y3.v, YO.v, Wd.v, Xa.v, ZcB.v, ZaW.v, YY.v, XY.v, Wu.v, Zad.v, -eq_self] at h; exact h)
theorem ZpW (i:In) (fr:Nat→Cp) (f1:Nat→Cp) (gr:Nat→Cp) (l:List Pt) (rc:List Value) (zs:List UInt8) (f:Nat→Bool) (N:Nat) (m:Nat) (n:Nat) (pc:Cp) (pb:Bool) (z2:List UInt8) (f2:Nat→Bool) (nl:List Cp) (ha:NaOk f1 gr []) (hb:NbOk f1 [] nl):obs (evF Tryz.prog (Zs 3 (Zb (nmL 2 l rc fr f1 74 pc pb (hlN zs f N m n) (Zgv rc (mvA f1 i) gr zs z2 f f2 N m n) (hlY nl z2 f2 N m n) zs f N m n)) Zg) (Yt [YB f1 gr ha,ZbO f1 nl hb]) 100 20 4 (QT fr i.val 2 l.length) (Wl 2 l rc 12 0 0))=ZcF (V8 (YI (ZeV (ZeV (KF (Qd (QU (UE (VV l.length (UC l (fun l=>l.blt 65) 3=true) (Qy l=UD 65 67 [64] 3 l)) Zh (rc.all (Zu (fun l=>l.blt 64))=true) rc rc fr fr) N m n (QM f n (fun l=>l.blt 68)) zs (fun l=>l.blt 68) n N) f1 i.op i.a i.b i.c i.m N (Xx m n f n (fun l=>l.blt 68) zs (rc.all (Zu (fun l=>l.blt 68))) (rc=Vj [67,68,69,70] rc)) n) QJ Qf YA Ws Qp gr gr f1 f1) (gr 16).V) (gr 16).V)) N m n (X9 f2 n (fun l=>l.blt 68)) (V9 z2 (fun l=>l.blt 68)) n N) YA (Zf1 75 0 nl.length) (Zdq (ZaV nl) f1 f1):=by kernel_rfl
def Zv8:=Bx.mk (by have h := @ZpW; simp(maxSteps:=99999999) only[ZL.v, ZZ.v, ZN.v, Z3.v, Qb.v, QH.v, ZR.v, Qc.v, ZD.v, XN.v, QV.v, Z8.v, Zz.v, Zfy.v, ZW.v, ZmN.v, Yk.v, Q7.v, YX.v, Qa.v, Y2.v, Y3.v, YO.v, Wd.v, KA.v, Xa.v, ZcB.v, ZaW.v, YY.v, ZlP.v, XY.v, Wu.v, ZbT.v, Zad.v, -eq_self] at h; exact h)
theorem Zv9 (i:In) (fr:Nat→Cp) (f1:Nat→Cp) (gr:Nat→Cp) (l:List Pt) (rc:List Value) (zs:List UInt8) (f:Nat→Bool) (N:Nat) (m:Nat) (n:Nat) (ml:List Cp) (pc:Cp) (pb:Bool) (t:Nat):obs (evF Tryz.prog (Zs 3 (Zb (KD 2 l rc fr f1 75 pc pb (hlY ml zs f N m n) (KC rc f1 i frN t zs f N m n) zs f N m n)) Zg) Zf 100 20 4 (QT fr i.val 2 l.length) (Wl 2 l rc 5 16 0))=Zfa (Qd (QU (UE (VV l.length (UC l (fun l=>l.blt 65) 3=true) (Qy l=UD 65 67 [64] 3 l)) Zh (rc.all (Zu (fun l=>l.blt 64))=true) rc rc fr fr) N m n (QM f n (fun l=>l.blt 68)) zs (fun l=>l.blt 68) n N) f1 i.op i.a i.b i.c i.m N (Xy m n f n (fun l=>l.blt 68) zs (rc.all (Zu (fun l=>l.blt 68))) (rc=Vk [67,68,69,70] rc)) n∧YJ t=true):=by kernel_rfl
def ZDR:=Bx.mk (by have h := @Zv9; simp(maxSteps:=99999999) only[ZL.v, ZZ.v, ZN.v, Z3.v, Qb.v, QH.v, ZR.v, Qc.v, ZD.v, XN.v, Qz.v, QV.v, Z8.v, Zz.v, ZW.v, Yk.v, Q7.v, YX.v, Y3.v, YO.v, Xa.v, ZcB.v, YY.v, XY.v, Wu.v, Zap.v, Zad.v, -eq_self] at h; exact h)
theorem Ztp (i:In) (fr:Nat→Cp) (f1:Nat→Cp) (gr:Nat→Cp) (l:List Pt) (rc:List Value) (zs:List UInt8) (f:Nat→Bool) (N:Nat) (m:Nat) (n:Nat) (ml:List Cp) (ha:NaOk f1 gr ml) (hb:NbOk f1 ml ml):obs (evF Tryz.prog (Zs 3 (Zb (KD 2 l rc fr f1 75 (gr 16) true (hlY ml zs f N m n) (KC rc f1 i gr 0 zs f N m n) zs f N m n)) Zg) (Yt [YC f1 gr ml ha,WR f1 ml ml hb]) 100 20 4 (QT fr i.val 2 l.length) (KE 2 l rc 12 0))=Jb (V8 (Wt ((((Ww (Qd (QU (UE (VV l.length (UC l (fun l=>l.blt 65) 3=true) (Qy l=UD 65 67 [64] 3 l)) Zh (rc.all (Zu (fun l=>l.blt 64))=true) rc rc fr fr) N m n (QM f n (fun l=>l.blt 68)) zs (fun l=>l.blt 68) n N) f1 i.op i.a i.b i.c i.m N (Xy m n f n (fun l=>l.blt 68) zs (rc.all (Zu (fun l=>l.blt 68))) (rc=Vk [67,68,69,70] rc)) n) QJ Qf ml.length Wv Qp (KH gr gr f1 f1 ml ml)∧(gr 16).V=true)∧(gr 16).V=true)∧(gr 16).V=true)∧(gr 16).V=true) (gr 16) f1 f1 ((gr 16).V=true)) N m n (KI f n (fun l=>l.blt 68) Zh f n f n) (Wx zs (fun l=>l.blt 68) zs 76 zs) n N) ml.length ml.length (Jc ml ml f1 f1 ml):=by kernel_rfl
def ZAo:=Bx.mk (by have h := @Ztp; simp(maxSteps:=99999999) only[ZL.v, ZZ.v, ZN.v, Z3.v, Qb.v, QH.v, ZR.v, Qc.v, ZD.v, XN.v, QV.v, QN.v, Z8.v, Zz.v, YN.v, ZW.v, Yk.v, Q7.v, YX.v, Wr.v, Qa.v, Y2.v, Y3.v, YO.v, Wd.v, KA.v, Xa.v, ZcB.v, YY.v, ZaX.v, UB.v, ZaY.v, ZfC.v, XY.v, Wu.v, ZbT.v, Zap.v, ZbU.v, Zad.v, -eq_self] at h; exact h)
theorem ZpX (i:In) (fr:Nat→Cp) (f1:Nat→Cp) (gr:Nat→Cp) (l:List Pt) (rc:List Value) (zs:List UInt8) (f:Nat→Bool) (N:Nat) (m:Nat) (n:Nat) (ml:List Cp) (z2:List UInt8) (f2:Nat→Bool) (ha:NaOk f1 gr ml):obs (evF Tryz.prog (Zs 3 (Zb (nmL 2 l rc fr f1 75 (gr 16) true (hlY ml zs f N m n) (Zgv rc (mvA f1 i) gr zs z2 f f2 N m n) (hlN z2 f2 N m n) zs f N m n)) Zg) (Yt [YC f1 gr ml ha]) 100 20 4 (QT fr i.val 2 l.length) (KE 2 l rc 13 0))=KG (Wt ((((Ww (Qd (QU (UE (VV l.length (UC l (fun l=>l.blt 65) 3=true) (Qy l=UD 65 67 [64] 3 l)) Zh (rc.all (Zu (fun l=>l.blt 64))=true) rc rc fr fr) N m n (QM f n (fun l=>l.blt 68)) zs (fun l=>l.blt 68) n N) f1 i.op i.a i.b i.c i.m N (Xy m n f n (fun l=>l.blt 68) zs (rc.all (Zu (fun l=>l.blt 68))) (rc=Vk [67,68,69,70] rc)) n) QJ Qf ml.length Wv Qp (KH gr gr f1 f1 ml ml)∧(gr 16).V=true)∧(gr 16).V=true)∧(gr 16).V=true)∧(gr 16).V=true) (gr 16) f1 f1 ((gr 16).V=true)) Qf (V7 N m n (KI f2 n (fun l=>l.blt 68) Zh f2 n f2 n) (Wx z2 (fun l=>l.blt 68) z2 76 z2)) Zh n n N N:=by kernel_rfl
def Zwa:=Bx.mk (by have h := @ZpX; simp(maxSteps:=99999999) only[ZL.v, ZZ.v, ZN.v, Z3.v, Qb.v, QH.v, ZR.v, Qc.v, ZD.v, XN.v, QV.v, QN.v, Z8.v, Zz.v, YN.v, ZW.v, Yk.v, Q7.v, YX.v, Wr.v, Qa.v, Y2.v, Y3.v, YO.v, Wd.v, KA.v, Xa.v, ZcB.v, YY.v, ZaX.v, UB.v, ZaY.v, XY.v, Wu.v, Zap.v, ZbU.v, Zad.v, -eq_self] at h; exact h)
theorem ZpY (i:In) (fr:Nat→Cp) (f1:Nat→Cp) (gr:Nat→Cp) (l:List Pt) (rc:List Value) (zs:List UInt8) (f:Nat→Bool) (N:Nat) (m:Nat) (n:Nat) (ml:List Cp) (z2:List UInt8) (f2:Nat→Bool) (nl:List Cp) (ha:NaOk f1 gr ml) (hb:NbOk f1 ml nl):obs (evF Tryz.prog (Zs 3 (Zb (nmL 2 l rc fr f1 75 (gr 16) true (hlY ml zs f N m n) (Zgv rc (mvA f1 i) gr zs z2 f f2 N m n) (hlY nl z2 f2 N m n) zs f N m n)) Zg) (Yt [YC f1 gr ml ha,WR f1 ml nl hb]) 100 20 4 (QT fr i.val 2 l.length) (KE 2 l rc 12 0))=Jb (V8 (Wt ((((Ww (Qd (QU (UE (VV l.length (UC l (fun l=>l.blt 65) 3=true) (Qy l=UD 65 67 [64] 3 l)) Zh (rc.all (Zu (fun l=>l.blt 64))=true) rc rc fr fr) N m n (QM f n (fun l=>l.blt 68)) zs (fun l=>l.blt 68) n N) f1 i.op i.a i.b i.c i.m N (Xy m n f n (fun l=>l.blt 68) zs (rc.all (Zu (fun l=>l.blt 68))) (rc=Vk [67,68,69,70] rc)) n) QJ Qf ml.length Wv Qp (KH gr gr f1 f1 ml ml)∧(gr 16).V=true)∧(gr 16).V=true)∧(gr 16).V=true)∧(gr 16).V=true) (gr 16) f1 f1 ((gr 16).V=true)) N m n (KI f2 n (fun l=>l.blt 68) Zh f2 n f2 n) (Wx z2 (fun l=>l.blt 68) z2 76 z2) n N) ml.length nl.length (Jc nl nl f1 f1 ml):=by kernel_rfl
def Zwb:=Bx.mk (by have h := @ZpY; simp(maxSteps:=99999999) only[ZL.v, ZZ.v, ZN.v, Z3.v, Qb.v, QH.v, ZR.v, Qc.v, ZD.v, XN.v, QV.v, QN.v, Z8.v, Zz.v, YN.v, ZW.v, Yk.v, Q7.v, YX.v, Wr.v, Qa.v, Y2.v, Y3.v, YO.v, Wd.v, KA.v, Xa.v, ZcB.v, YY.v, ZaX.v, UB.v, ZaY.v, ZfC.v, XY.v, Wu.v, ZbT.v, Zap.v, ZbU.v, Zad.v, -eq_self] at h; exact h)
theorem Ztq (i:In) (fr:Nat→Cp) (f1:Nat→Cp) (gr:Nat→Cp) (l:List Pt) (rc:List Value) (zs:List UInt8) (f:Nat→Bool) (N:Nat) (m:Nat) (n:Nat) (ml:List Cp) (pc:Cp) (pb:Bool) (ha:NaOk f1 gr ml) (hb:NbOk f1 ml ml):obs (evF Tryz.prog (Zs 3 (Zb (KD 2 l rc fr f1 75 pc pb (hlY ml zs f N m n) (KC rc f1 i gr 0 zs f N m n) zs f N m n)) Zg) (Yt [YC f1 gr ml ha,WR f1 ml ml hb]) 100 20 4 (QT fr i.val 2 l.length) (Wl 2 l rc 12 0 0))=Jb (V8 (VT (Ww (Qd (QU (UE (VV l.length (UC l (fun l=>l.blt 65) 3=true) (Qy l=UD 65 67 [64] 3 l)) Zh (rc.all (Zu (fun l=>l.blt 64))=true) rc rc fr fr) N m n (QM f n (fun l=>l.blt 68)) zs (fun l=>l.blt 68) n N) f1 i.op i.a i.b i.c i.m N (Xy m n f n (fun l=>l.blt 68) zs (rc.all (Zu (fun l=>l.blt 68))) (rc=Vk [67,68,69,70] rc)) n) QJ Qf ml.length Wv Qp (KH gr gr f1 f1 ml ml)) (gr 16)) N m n (KI f n (fun l=>l.blt 68) Zh f n f n) (Wx zs (fun l=>l.blt 68) zs 76 zs) n N) ml.length ml.length (Jc ml ml f1 f1 ml):=by kernel_rfl
def ZAp:=Bx.mk (by have h := @Ztq; simp(maxSteps:=99999999) only[ZL.v, ZZ.v, ZN.v, Z3.v, Qb.v, QH.v, ZR.v, Qc.v, ZD.v, QY.v, XN.v, QV.v, Z8.v, Zz.v, ZW.v, Yk.v, Q7.v, YX.v, Qa.v, VG.v, Y2.v, Y3.v, YO.v, KA.v, Xa.v, ZcB.v, YY.v, UB.v, ZaY.v, ZfC.v, XY.v, Wu.v, ZbT.v, Zfb.v, Zap.v, ZbU.v, Zad.v, -eq_self] at h; exact h)
theorem ZpZ (i:In) (fr:Nat→Cp) (f1:Nat→Cp) (gr:Nat→Cp) (l:List Pt) (rc:List Value) (zs:List UInt8) (f:Nat→Bool) (N:Nat) (m:Nat) (n:Nat) (ml:List Cp) (pc:Cp) (pb:Bool) (z2:List UInt8) (f2:Nat→Bool) (ha:NaOk f1 gr ml):obs (evF Tryz.prog (Zs 3 (Zb (nmL 2 l rc fr f1 75 pc pb (hlY ml zs f N m n) (Zgv rc (mvA f1 i) gr zs z2 f f2 N m n) (hlN z2 f2 N m n) zs f N m n)) Zg) (Yt [YC f1 gr ml ha]) 100 20 4 (QT fr i.val 2 l.length) (Wl 2 l rc 13 0 0))=KG (YI (KU (Un (Ww (Qd (QU (UE (VV l.length (UC l (fun l=>l.blt 65) 3=true) (Qy l=UD 65 67 [64] 3 l)) Zh (rc.all (Zu (fun l=>l.blt 64))=true) rc rc fr fr) N m n (QM f n (fun l=>l.blt 68)) zs (fun l=>l.blt 68) n N) f1 i.op i.a i.b i.c i.m N (Xy m n f n (fun l=>l.blt 68) zs (rc.all (Zu (fun l=>l.blt 68))) (rc=Vk [67,68,69,70] rc)) n) QJ Qf ml.length Wv Qp (KH gr gr f1 f1 ml ml)) (gr 16).V) (gr 16).V)) Qf (V7 N m n (KI f2 n (fun l=>l.blt 68) Zh f2 n f2 n) (Wx z2 (fun l=>l.blt 68) z2 76 z2)) Zh n n N N:=by kernel_rfl
def Zwc:=Bx.mk (by have h := @ZpZ; simp(maxSteps:=99999999) only[ZL.v, ZZ.v, ZN.v, Z3.v, Qb.v, QH.v, ZR.v, Qc.v, ZD.v, XN.v, QV.v, JI.v, Z8.v, Zz.v, Uq.v, ZW.v, Yk.v, Q7.v, YX.v, Qa.v, Y2.v, Y3.v, YO.v, KA.v, Xa.v, ZcB.v, YY.v, UB.v, ZaY.v, XY.v, Wu.v, Zap.v, ZbU.v, Zad.v, -eq_self] at h; exact h)
theorem Zp0 (i:In) (fr:Nat→Cp) (f1:Nat→Cp) (gr:Nat→Cp) (l:List Pt) (rc:List Value) (zs:List UInt8) (f:Nat→Bool) (N:Nat) (m:Nat) (n:Nat) (ml:List Cp) (pc:Cp) (pb:Bool) (z2:List UInt8) (f2:Nat→Bool) (nl:List Cp) (ha:NaOk f1 gr ml) (hb:NbOk f1 ml nl):obs (evF Tryz.prog (Zs 3 (Zb (nmL 2 l rc fr f1 75 pc pb (hlY ml zs f N m n) (Zgv rc (mvA f1 i) gr zs z2 f f2 N m n) (hlY nl z2 f2 N m n) zs f N m n)) Zg) (Yt [YC f1 gr ml ha,WR f1 ml nl hb]) 100 20 4 (QT fr i.val 2 l.length) (Wl 2 l rc 12 0 0))=Jb (V8 (YI (ZeV (ZeV (Ww (Qd (QU (UE (VV l.length (UC l (fun l=>l.blt 65) 3=true) (Qy l=UD 65 67 [64] 3 l)) Zh (rc.all (Zu (fun l=>l.blt 64))=true) rc rc fr fr) N m n (QM f n (fun l=>l.blt 68)) zs (fun l=>l.blt 68) n N) f1 i.op i.a i.b i.c i.m N (Xy m n f n (fun l=>l.blt 68) zs (rc.all (Zu (fun l=>l.blt 68))) (rc=Vk [67,68,69,70] rc)) n) QJ Qf ml.length Wv Qp (KH gr gr f1 f1 ml ml)) (gr 16).V) (gr 16).V)) N m n (KI f2 n (fun l=>l.blt 68) Zh f2 n f2 n) (Wx z2 (fun l=>l.blt 68) z2 76 z2) n N) ml.length nl.length (Jc nl nl f1 f1 ml):=by kernel_rfl
def Zwd:=Bx.mk (by have h := @Zp0; simp(maxSteps:=99999999) only[ZL.v, ZZ.v, ZN.v, Z3.v, Qb.v, QH.v, ZR.v, Qc.v, ZD.v, XN.v, QV.v, Z8.v, Zz.v, Zfy.v, ZW.v, ZmN.v, Yk.v, Q7.v, YX.v, Qa.v, Y2.v, Y3.v, YO.v, KA.v, Xa.v, ZcB.v, YY.v, UB.v, ZaY.v, ZfC.v, XY.v, Wu.v, ZbT.v, Zap.v, ZbU.v, Zad.v, -eq_self] at h; exact h)
theorem ZhT (c:Cp) (l:List Cp):∀ n,Zgt c l true n=true
 | 0=>rfl
 | n+1=>by
  show(Zgt c l true n||Zia (l.getD n V0) c)=true
  rw[ZhT c l n]; rfl
theorem Ztr (c:Cp) (l:List Cp) (b:Bool):∀ n j,j<n→Zia (l.getD j V0) c=true→Zgt c l b n=true
 | 0,_,h,_=>absurd h (Nat.not_lt_zero _)
 | n+1,j,h,hq=>by
  show(Zgt c l b n||Zia (l.getD n V0) c)=true
  rcases Nat.lt_or_ge j n with h1|h1
  ·rw[Ztr c l b n j h1 hq]; rfl
  ·rw[← show j=n by omega,hq,Bool.or_true]
theorem ZlU (c:Cp) (fr:Nat→Cp):∀ k,Uz c fr true k=true
 | 0=>rfl
 | k+1=>by
  show(Uz c fr true k||((fr k).V&&wit c (fr k)))=true
  rw[ZlU c fr k]; rfl
theorem Zts (c:Cp) (fr:Nat→Cp) (b:Bool):∀ k i,i<k→(fr i).V=true→wit c (fr i)=true→Uz c fr b k=true
 | 0,_,h,_,_=>absurd h (Nat.not_lt_zero _)
 | k+1,i,h,h1,h2=>by
  show(Uz c fr b k||((fr k).V&&wit c (fr k)))=true
  rcases Nat.lt_or_ge i k with h3|h3
  ·rw[Zts c fr b k i h3 h1 h2]; rfl
  ·rw[← show i=k by omega,h1,h2,Bool.and_self,Bool.or_true]
def Und (fr:Nat→Cp) (c:Cp):Prop:=∃ i,i≤16∧(fr i).V=true∧wit c (fr i)=true
theorem Zj5 {c:Cp} {fr:Nat→Cp} {l:List Cp} (h:Und fr c):VI c fr l=true:=by
 obtain⟨i,hi,hV,hw⟩:=h
 unfold VI
 rcases Nat.lt_or_ge i 16 with h1|h1
 ·rw[Zts _ _ _ 16 i h1 hV hw]; exact ZhT _ _ _
 ·have:i=16:=by omega
  subst this
  rw[hV,hw]
  show Zgt c l (Uz c fr true 16) l.length=true
  rw[ZlU]; exact ZhT _ _ _
theorem Zgw {c x:Cp} {fr:Nat→Cp} {l:List Cp} (h:x∈l) (hq:Zia x c=true):VI c fr l=true:=by
 obtain⟨j,hj,e⟩:=List.getElem_of_mem h
 exact Ztr _ _ _ _ j hj (by rw[List.getD_eq_getElem?_getD,List.getElem?_eq_getElem hj,e]; exact hq)
theorem Zfc (c:Cp):Zia c c=true:=by unfold Zia; simp only[beq_self_eq_true,Bool.and_self]
theorem ZoA (p:Nat):Zqa p p=true:=by simp[Zqa]
theorem ZAq (p q:Nat):Zqa (p&&&q) p=true:=by
 simp only[Zqa,decide_eq_true_eq]
 rw[Nat.and_assoc,Nat.and_comm q p,← Nat.and_assoc,Nat.and_self]
theorem Ztt (b t:Nat):inN b t b t=true:=by simp[inN]
theorem Zbo (p b t:Nat):Kl p p b t b t=true:=by
 unfold Kl; rw[ZoA,Ztt]; rfl
theorem ZmX (p q b t:Nat):Kl (p&&&q) p b t b t=true:=by
 unfold Kl; rw[ZAq,Ztt]; rfl
theorem Ztu {e b t c n:Nat} (h:Ui e b t c n=true):XL e b t n=XL e b t c:=by
 simp only[Ui,Bool.and_eq_true,decide_eq_true_eq] at h
 obtain⟨⟨h1,h2⟩,h3⟩:=h
 have h4:Xn e b t n=true:=by
  unfold Xn at h1 ⊢
  rw[← h2,← h3]; exact h1
 unfold XL
 rw[h1,h4,h2,h3]
theorem ZaZ {cY:Nat} {cV:Bool} (h:WI cY cV=true):cV=true:=by
 simp only[WI,Bool.and_eq_true] at h; exact h.1
theorem Zp1 {cC cP cY:Nat} {cV:Bool} {n x y:Nat} {ex:Bool} (hc:cC<4294967296) (hr:QF cC (cC+n)=true) (h:ZAY cC cY cV n ex x y=true) :
  cV=true∧Kl cP cP (XL (Zc6 cC (cC+n)) (ZdI cC (cC+n)) (ZdJ cC (cC+n)) cC).1 (XL (Zc6 cC (cC+n)) (ZdI cC (cC+n)) (ZdJ cC (cC+n)) cC).2 x y=true:=by
 obtain⟨r1,r2⟩:=K2 hr
 rw[ZBA (b:=cC) (t:=cC+n) (c:=cC) hc r1 r2 (Nat.le_refl _) r1]
 simp only[ZAY,inR,Bool.and_eq_true,decide_eq_true_eq] at h
 refine⟨ZaZ h.1.1,?_⟩
 unfold Kl inN
 rw[ZoA,decide_eq_true h.2.1,decide_eq_true h.2.2]
 simp
theorem ZDS {c:Cp} (h:c.Ok) {n:Nat} (hr:QF c.C (c.C+n)=true) (v:Bool):({ c with E:=Zc6 c.C (c.C+n),B:=ZdI c.C (c.C+n),T:=ZdJ c.C (c.C+n),V:=v }:Cp).Ok:=by
 have hk:=Zb9 c.C (c.C+n)
 refine⟨h.1,?_,?_,?_,h.2.2.2.2.1,h.2.2.2.2.2.1,h.2.2.2.2.2.2⟩
 ·show Zc6 c.C (c.C+n)<256
  unfold Zc6; rw[if_pos hr]; omega
 ·show ZdI c.C (c.C+n)<65536
  unfold ZdI; rw[if_pos hr]; omega
 ·show ZdJ c.C (c.C+n)<65536
  unfold ZdJ; rw[if_pos hr]; omega
theorem Zwe (c:Cp):wit c c=true:=Zbo _ _ _
section
variable {fr:Nat→Cp}
theorem Zfd (hfr:Wc fr) {i:Nat} (hi:i≤16) (hV:(fr i).V=true):(fr i).Ok∧Und fr (fr i):=⟨hfr i,i,hi,hV,Zwe _⟩
theorem Zgx (hfr:Wc fr) {i u:Nat} (hi:i≤16) (ht:u<4294967296) (hV:(ZdO (fr i) u).V=true):(ZdO (fr i) u).Ok∧Und fr (ZdO (fr i) u):=by
 refine⟨ZnK (hfr i) ht,i,hi,?_,?_⟩
 ·have h:(WI (fr i).Y (fr i).V&&Ui (fr i).E (fr i).B (fr i).T (fr i).C u)=true:=hV
  rw[Bool.and_eq_true] at h
  exact ZaZ h.1
 ·have h:(WI (fr i).Y (fr i).V&&Ui (fr i).E (fr i).B (fr i).T (fr i).C u)=true:=hV
  rw[Bool.and_eq_true] at h
  show Kl (fr i).P (fr i).P (XL (fr i).E (fr i).B (fr i).T u).1 (XL (fr i).E (fr i).B (fr i).T u).2 (XL (fr i).E (fr i).B (fr i).T (fr i).C).1 (XL (fr i).E (fr i).B (fr i).T (fr i).C).2=true
  rw[Ztu h.2]
  exact Zbo _ _ _
theorem ZAr (hfr:Wc fr) {i p:Nat} (hi:i≤16) (hV:(ZwI (fr i) p).V=true):(ZwI (fr i) p).Ok∧Und fr (ZwI (fr i) p) :=
 ⟨ZxY (hfr i) p,i,hi,ZaZ (cY:=(fr i).Y) hV,ZmX _ _ _ _⟩
theorem Ztv (hfr:Wc fr) {i n:Nat} {ex:Bool} (hi:i≤16) (hV:(ZnJ (fr i) n ex).V=true):(ZnJ (fr i) n ex).Ok∧Und fr (ZnJ (fr i) n ex):=by
 unfold ZnJ at hV ⊢
 by_cases hr:QF (fr i).C ((fr i).C+n)=true
 ·rw[if_pos hr] at hV ⊢
  obtain⟨h1,h2⟩:=Zp1 (cP:=(fr i).P) (hfr i).1 hr hV
  exact⟨ZDS (hfr i) hr _,i,hi,h1,h2⟩
 ·rw[if_neg hr] at hV
  cases hV
theorem Zwf (hfr:Wc fr) {i j:Nat} (hi:i≤16) (hV:(ZjE (fr i) (fr j)).V=true):(ZjE (fr i) (fr j)).Ok∧Und fr (ZjE (fr i) (fr j)):=by
 unfold ZjE at hV ⊢
 by_cases hr:(WI (fr i).Y (fr i).V&&Zca (fr j).C (fr j).P (fr j).Y (fr j).V 32 (fr j).lo (fr j).hi)=true
 ·rw[if_pos hr] at hV ⊢
  rw[Bool.and_eq_true] at hr
  have h2:=hr.2
  simp only[Zca,Bool.and_eq_true,decide_eq_true_eq] at h2
  obtain⟨q1,q2,q3,q4,q5,q6,q7⟩:=hfr i
  exact⟨⟨q1,q2,q3,q4,q5,by show(fr j).C<65536; omega,q7⟩,i,hi,ZaZ hr.1,Zbo _ _ _⟩
 ·rw[if_neg hr] at hV
  cases hV
theorem Zwg (hfr:Wc fr) {i j:Nat} (hi:i≤16) (hV:(ZjF (fr i) (fr j)).V=true):(ZjF (fr i) (fr j)).Ok∧Und fr (ZjF (fr i) (fr j)):=by
 unfold ZjF at hV ⊢
 by_cases hr:((fr i).V&&decide ((fr i).Y≠0)&&Zca (fr j).C (fr j).P (fr j).Y (fr j).V 64 (fr j).lo (fr j).hi&&decide ((fr j).C=(fr i).Y))=true
 ·rw[if_pos hr] at hV ⊢
  simp only[Bool.and_eq_true] at hr
  obtain⟨q1,q2,q3,q4,q5,q6,q7⟩:=hfr i
  exact⟨⟨q1,q2,q3,q4,q5,by show 0<65536; omega,q7⟩,i,hi,hr.1.1.1,Zbo _ _ _⟩
 ·rw[if_neg hr] at hV
  cases hV
theorem Ztw (hfr:Wc fr) {i j:Nat} (hj:j≤16) (hV:(Zhb (fr i) (fr j)).V=true):(Zhb (fr i) (fr j)).Ok∧Und fr (Zhb (fr i) (fr j)):=by
 have h:(WI (fr j).Y (fr j).V&&ZwF (fr i).E (fr i).B (fr i).T (fr i).P (fr i).Y (fr i).R (fr j).P (fr i).lo (fr i).hi (fr j).lo (fr j).hi)=true:=hV
 simp only[ZwF,Bool.and_eq_true] at h
 exact⟨hfr i,j,hj,ZaZ h.1,h.2.2.2⟩
theorem Ztx (fr:Nat→Cp) (k:Int):ZjS fr k<4294967296:=by
 have h:ZjS fr k=((((fr 16).C:Int)+4*k)%4294967296).toNat:=rfl
 rw[h]; omega
theorem ZfD (hfr:Wc fr) (k:Int) (hV:(Zge fr k).V=true):(Zge fr k).Ok∧Und fr (Zge fr k):=Zgx hfr (Nat.le_refl _) (Ztx fr k) hV
theorem ZcG {v:Nat} {p:Prop} (h:(Zff v).V=true):p:=by cases h
theorem Zxd {v:Bool} {p:Prop} (h:(Zu1 v).V=true):p:=by
 unfold Zu1 at h; exact ZcG h
theorem ZAs (hfr:Wc fr) (op:Int) (b c:Nat) (m:Int) (hb:b<16) (hc:c<16) (hV:(ZdV fr op b c m).V=true):(ZdV fr op b c m).Ok∧Und fr (ZdV fr op b c m):=by
 have hb6:b≤16:=by omega
 have hc6:c≤16:=by omega
 unfold ZdV at hV ⊢
 by_cases h1:op=1
 ·rw[if_pos h1] at hV ⊢; exact ZcG hV
 rw[if_neg h1] at hV ⊢
 by_cases h2:op=2
 ·rw[if_pos h2] at hV ⊢; exact ZcG hV
 rw[if_neg h2] at hV ⊢
 by_cases h16:op=16
 ·rw[if_pos h16] at hV ⊢; exact ZcG hV
 rw[if_neg h16] at hV ⊢
 by_cases h41:op=41
 ·rw[if_pos h41] at hV ⊢; exact by cases hV
 rw[if_neg h41] at hV ⊢
 by_cases h32:op=32
 ·rw[if_pos h32] at hV ⊢; exact Zgx hfr hb6 (Zof _) hV
 rw[if_neg h32] at hV ⊢
 by_cases h33:op=33
 ·rw[if_pos h33] at hV ⊢; exact Zgx hfr hb6 (Zof _) hV
 rw[if_neg h33] at hV ⊢
 by_cases h34:op=34
 ·rw[if_pos h34] at hV ⊢; exact Zgx hfr hb6 (hfr c).1 hV
 rw[if_neg h34] at hV ⊢
 by_cases h35:op=35
 ·rw[if_pos h35] at hV ⊢; exact Ztv hfr hb6 hV
 rw[if_neg h35] at hV ⊢
 by_cases h36:op=36
 ·rw[if_pos h36] at hV ⊢; exact Ztv hfr hb6 hV
 rw[if_neg h36] at hV ⊢
 by_cases h37:op=37
 ·rw[if_pos h37] at hV ⊢; exact ZAr hfr hb6 hV
 rw[if_neg h37] at hV ⊢
 by_cases h38:op=38
 ·rw[if_pos h38] at hV ⊢; exact Zwf hfr hb6 hV
 rw[if_neg h38] at hV ⊢
 by_cases h39:op=39
 ·rw[if_pos h39] at hV ⊢; exact Zwg hfr hb6 hV
 rw[if_neg h39] at hV ⊢
 by_cases h40:op=40
 ·rw[if_pos h40] at hV ⊢; exact Ztw hfr hb6 hV
 rw[if_neg h40] at hV ⊢
 by_cases h42:op=42
 ·rw[if_pos h42] at hV ⊢; exact ZcG hV
 rw[if_neg h42] at hV ⊢
 by_cases h43:op=43
 ·rw[if_pos h43] at hV ⊢; exact ZcG hV
 rw[if_neg h43] at hV ⊢
 by_cases h44:op=44
 ·rw[if_pos h44] at hV ⊢; exact ZcG hV
 rw[if_neg h44] at hV ⊢
 by_cases h45:op=45
 ·rw[if_pos h45] at hV ⊢; exact ZcG hV
 rw[if_neg h45] at hV ⊢
 by_cases h46:op=46
 ·rw[if_pos h46] at hV ⊢; exact ZcG hV
 rw[if_neg h46] at hV ⊢
 by_cases h47:op=47
 ·rw[if_pos h47] at hV ⊢; exact Zxd hV
 rw[if_neg h47] at hV ⊢
 by_cases h48:op=48
 ·rw[if_pos h48] at hV ⊢; exact Zxd hV
 rw[if_neg h48] at hV ⊢
 by_cases h49:op=49
 ·rw[if_pos h49] at hV ⊢; exact ZfD hfr m hV
 rw[if_neg h49] at hV ⊢
 exact Zfd hfr hb6 hV
end
def Za0 (fr:Nat→Cp) (l:List Cp) (gr:Nat→Cp):Prop:=∀ k,k≤16→(gr k).V=true→(gr k).Ok∧(Und fr (gr k)∨(k<16∧∃ x∈l,Zia x (gr k)=true))
section
variable {fr gr:Nat→Cp} {l:List Cp}
theorem ZcY (hfr:Wc fr) (l:List Cp):Za0 fr l fr:=fun k hk hV=>⟨hfr k,.inl (Zfd hfr hk hV).2⟩
theorem Ji (h:Za0 fr l gr) (a:Nat) {c:Cp} (hc:c.V=true→c.Ok∧Und fr c):Za0 fr l (frS gr a c):=fun k hk hV=>by
 by_cases hka:k=a
 ·have e:frS gr a c k=c:=by unfold frS; rw[if_pos hka]
  rw[e] at hV ⊢
  exact⟨(hc hV).1,.inl (hc hV).2⟩
 ·have e:frS gr a c k=gr k:=by unfold frS; rw[if_neg hka]
  rw[e] at hV ⊢
  exact h k hk hV
theorem Zwh (h:Za0 fr l gr) (a:Nat) (ha:a<16) {c:Cp} (hc:c.V=true→c.Ok∧∃ x∈l,Zia x c=true):Za0 fr l (frS gr a c):=fun k hk hV=>by
 by_cases hka:k=a
 ·have e:frS gr a c k=c:=by unfold frS; rw[if_pos hka]
  rw[e] at hV ⊢
  exact⟨(hc hV).1,.inr ⟨by omega,(hc hV).2⟩⟩
 ·have e:frS gr a c k=gr k:=by unfold frS; rw[if_neg hka]
  rw[e] at hV ⊢
  exact h k hk hV
theorem KJ (hfr:Wc fr) (l:List Cp):Za0 fr l (WE fr):=Ji (ZcY hfr l) 16 (ZfD hfr 1)
theorem Za0.regs (h:Za0 fr l gr):Zoy fr gr l:=fun k hk hV _=>by
 obtain⟨h1,h2⟩:=h k (by omega) hV
 refine⟨h1,?_⟩
 rcases h2 with h2|⟨_,x,hx,hq⟩
 ·exact Zj5 h2
 ·exact Zgw hx hq
theorem Za0.pc (h:Za0 fr l gr) (hV:(gr 16).V=true):(gr 16).Ok∧VI (gr 16) fr []=true:=by
 obtain⟨h1,h2⟩:=h 16 (Nat.le_refl _) hV
 rcases h2 with h2|⟨h3,_⟩
 ·exact⟨h1,Zj5 h2⟩
 ·omega
end
theorem Zp2 {fr:Nat→Cp} {k:Nat} (hk:k<17) (h:(Qx fr 17 k).V=true):(Qx fr 17 k).snd=true:=by
 have e:Qx fr 17 k=ZmP (fr k):=by unfold Qx; rw[if_pos hk]
 rw[e] at h ⊢
 have h:((fr k).V&&(fr k).snd)=true:=h
 rw[Bool.and_eq_true] at h
 exact h.2
theorem Zty (f:Nat→Bool) (g:Nat):∀ k j,j<k→f (16*g+j)=true→(16*g+j)*16∈tgK f g k
 | 0,_,h,_=>absurd h (Nat.not_lt_zero _)
 | k+1,j,h,hf=>by
  unfold tgK
  rcases Nat.lt_or_ge j k with h1|h1
  ·have ih:=Zty f g k j h1 hf
   cases f (16*g+k)
   ·exact ih
   ·exact List.mem_append_left _ ih
  ·have e:j=k:=by omega
   subst e
   rw[hf]
   exact List.mem_append_right _ (List.mem_singleton.2 rfl)
theorem Zj6 {zs:List UInt8} {f:Nat→Bool} {c:Cp}:∀ P,c∈QB zs f P→∃ g,g<16*P∧f g=true∧c=Kb zs f (g*16)
 | 0,h=>by cases h
 | P+1,h=>by
  rcases List.mem_append.1 (show c∈QB zs f P++(tgK f P 16).map (Kb zs f) from h) with h|h
  ·obtain⟨g,h1,h2⟩:=Zj6 P h
   exact⟨g,by omega,h2⟩
  ·obtain⟨a,h1,rfl⟩:=List.mem_map.1 h
   obtain⟨j,h2,rfl,h3⟩:=Zou f P 16 a h1
   exact⟨16*P+j,by omega,h3,rfl⟩
theorem Zj7 {zs:List UInt8} {f:Nat→Bool}:∀ P g,g<16*P→f g=true→Kb zs f (g*16)∈QB zs f P
 | 0,g,h,_=>by omega
 | P+1,g,h,hf=>by
  show _∈QB zs f P++(tgK f P 16).map (Kb zs f)
  rcases Nat.lt_or_ge g (16*P) with h1|h1
  ·exact List.mem_append_left _ (Zj7 P g h1 hf)
  ·have e:g=16*P+(g-16*P):=by omega
   rw[e]
   exact List.mem_append_right _ (List.mem_map.2 ⟨_,Zty f P 16 (g-16*P) (by omega) (by rw[← e]; exact hf),rfl⟩)
theorem Ztz {zs:List UInt8} {f:Nat→Bool} {c:Cp} {P:Nat} (h:c∈QB zs f P):c.Ok:=by
 obtain⟨g,_,_,rfl⟩:=Zj6 P h
 exact ZsR _ _
theorem ZDT {zs:List UInt8} {f:Nat→Bool} {a:Nat} (h:(Kb zs f a).V=true):f (a/16)=true:=by
 have h:(f (a/16)&&_)=true:=h
 rw[Bool.and_eq_true] at h
 exact h.1
theorem ZAt {i a:Nat} {bs zs:List UInt8} (h:i+bs.length≤zs.length) (ha:a+16≤i∨i+bs.length≤a):((Xc i bs zs).drop a).take 16=(zs.drop a).take 16:=by
 apply List.ext_getElem?
 intro j
 rw[List.getElem?_take,List.getElem?_take,List.getElem?_drop,List.getElem?_drop,ZcR i bs zs h]
 by_cases hj:j<16
 ·rw[if_pos hj,if_pos hj,if_neg (by omega)]
 ·rw[if_neg hj,if_neg hj]
theorem ZDU {a:Nat} {bs zs:List UInt8} (h:a+bs.length≤zs.length) (hl:bs.length=16):((Xc a bs zs).drop a).take 16=bs:=by
 apply List.ext_getElem?
 intro j
 rw[List.getElem?_take,List.getElem?_drop,ZcR a bs zs h]
 by_cases hj:j<16
 ·rw[if_pos hj,if_pos (by omega),show a+j-a=j by omega]
 ·rw[if_neg hj,List.getElem?_eq_none (by omega)]
theorem ZoB {zs bs:List UInt8} {f f2:Nat→Bool} {i a:Nat} (h:i+bs.length≤zs.length) (ha:a+16≤i∨i+bs.length≤a) (hf:f2 (a/16)=f (a/16)):Kb (Xc i bs zs) f2 a=Kb zs f a:=by
 unfold Kb
 rw[ZAt h ha,hf]
theorem Zp3 {zs bs:List UInt8} {f:Nat→Bool} {i:Nat} {c:Cp} (hz:zs.length=4096) (hi:i+bs.length≤4096) (hal:i%16+bs.length≤16) (hc:c∈QB (Xc i bs zs) (Yu f (i/16) false) 16):c∈QB zs f 16:=by
 obtain⟨g,h1,h2,rfl⟩:=Zj6 16 hc
 have hg:g≠i/16:=fun e=>by
  unfold Yu at h2
  rw[if_pos e] at h2
  cases h2
 have hf:Yu f (i/16) false g=f g:=by unfold Yu; rw[if_neg hg]
 rw[ZoB (f:=f) (by omega) (by omega) (by rw[Nat.mul_div_cancel g (by omega)]; exact hf)]
 exact Zj7 16 g h1 (by rw[← hf]; exact h2)
theorem ZAu (c:Cp) (h:c.Ok) (hs:c.snd=true):ofS (cbL c.C c.E c.B c.T c.P c.Y c.R) true={ c with V:=true }:=by
 obtain⟨C,E,B,T,P,Y,R,V⟩:=c
 obtain⟨h1,h2,h3,h4,h5,h6,h7⟩:=h
 simp only at h1 h2 h3 h4 h5 h6 h7
 have hs2:XD E B T P Y R=true:=hs
 have hs3:=hs2
 simp only[XD,Bool.and_eq_true,decide_eq_true_eq] at hs3
 obtain⟨⟨⟨⟨⟨s1,s2⟩,s3⟩,s4⟩,s5⟩,s6⟩:=hs3
 have b0:byA (cbL C E B T P Y R) 0=C%256:=by simp[byA,cbL,leW]
 have b1:byA (cbL C E B T P Y R) 1=C/256%256:=by simp[byA,cbL,leW]
 have b2:byA (cbL C E B T P Y R) 2=C/65536%256:=by simp[byA,cbL,leW,Nat.div_div_eq_div_mul]
 have b3:byA (cbL C E B T P Y R) 3=C/16777216%256:=by simp[byA,cbL,leW,Nat.div_div_eq_div_mul]
 have b4:byA (cbL C E B T P Y R) 4=E%256:=by simp[byA,cbL,leW]
 have b5:byA (cbL C E B T P Y R) 5=B%256:=by simp[byA,cbL,leW]
 have b6:byA (cbL C E B T P Y R) 6=B/256%256:=by simp[byA,cbL,leW]
 have b7:byA (cbL C E B T P Y R) 7=T%256:=by simp[byA,cbL,leW]
 have b8:byA (cbL C E B T P Y R) 8=T/256%256:=by simp[byA,cbL,leW]
 have b9:byA (cbL C E B T P Y R) 9=P%256:=by simp[byA,cbL,leW]
 have b10:byA (cbL C E B T P Y R) 10=P/256%256:=by simp[byA,cbL,leW]
 have b11:byA (cbL C E B T P Y R) 11=Y%256:=by simp[byA,cbL,leW]
 have b12:byA (cbL C E B T P Y R) 12=Y/256%256:=by simp[byA,cbL,leW]
 have b13:byA (cbL C E B T P Y R) 13=R%256:=by simp[byA,cbL,leW]
 have b14:byA (cbL C E B T P Y R) 14=R/256%256:=by simp[byA,cbL,leW]
 have b15:byA (cbL C E B T P Y R) 15=R/65536%256:=by simp[byA,cbL,leW]
 show ofS (cbL C E B T P Y R) true=⟨C,E,B,T,P,Y,R,true⟩
 have e1:ZxX (cbL C E B T P Y R) 0=C:=by unfold ZxX; simp only[Nat.zero_add,b0,b1,b2,b3]; omega
 have e2:byA (cbL C E B T P Y R) 4=E:=by rw[b4]; omega
 have e3:byA (cbL C E B T P Y R) 6*256+byA (cbL C E B T P Y R) 5=B:=by rw[b5,b6]; omega
 have e4:byA (cbL C E B T P Y R) 8*256+byA (cbL C E B T P Y R) 7=T:=by rw[b7,b8]; omega
 have e5:byA (cbL C E B T P Y R) 10*256+byA (cbL C E B T P Y R) 9=P:=by rw[b9,b10]; omega
 have e6:byA (cbL C E B T P Y R) 12*256+byA (cbL C E B T P Y R) 11=Y:=by rw[b11,b12]; omega
 have e7:byA (cbL C E B T P Y R) 14*256+byA (cbL C E B T P Y R) 13+byA (cbL C E B T P Y R) 15*65536=R:=by rw[b13,b14,b15]; omega
 unfold ofS
 rw[e1,e2,e3,e4,e5,e6,e7,hs2]
 rfl
theorem Zwi {zs:List UInt8} {f:Nat→Bool} {i:Nat} {x c:Cp} (hz:zs.length=4096) (hi:i+16≤4096) (hal:i%16=0) (hx:x.Ok) (hc:c∈QB (Xc i (cbL x.C x.E x.B x.T x.P x.Y x.R) zs) (Yu f (i/16) (x.V&&x.snd)) 16):c∈QB zs f 16∨(x.V=true∧c=x):=by
 obtain⟨g,h1,h2,rfl⟩:=Zj6 16 hc
 have hbl:(cbL x.C x.E x.B x.T x.P x.Y x.R).length=16:=Ko _ _ _ _ _ _ _
 by_cases hg:g=i/16
 ·right
  have h3:(x.V&&x.snd)=true:=by unfold Yu at h2; rw[if_pos hg] at h2; exact h2
  rw[Bool.and_eq_true] at h3
  refine⟨h3.1,?_⟩
  have e:g*16=i:=by omega
  unfold Kb
  rw[Nat.mul_div_cancel g (by omega),h2,e,ZDU (by omega) hbl,ZAu x hx h3.2]
  obtain⟨C,E,B,T,P,Y,R,V⟩:=x
  have hV:V=true:=h3.1
  rw[hV]
 ·left
  have hf:Yu f (i/16) (x.V&&x.snd) g=f g:=by unfold Yu; rw[if_neg hg]
  rw[ZoB (f:=f) (by omega) (by omega) (by rw[Nat.mul_div_cancel g (by omega)]; exact hf)]
  exact Zj7 16 g h1 (by rw[← hf]; exact h2)
theorem Zwj {zs:List UInt8} {f:Nat→Bool} {a p:Nat} (ha:a%16=0) (hi:a+16≤4096) (hV:(lcV (ofS ((zs.drop a).take 16) (f (a/16))) p).V=true):(lcV (ofS ((zs.drop a).take 16) (f (a/16))) p).Ok∧∃ x∈QB zs f 16,Zia x (lcV (ofS ((zs.drop a).take 16) (f (a/16))) p)=true:=by
 have h:((ofS ((zs.drop a).take 16) (f (a/16))).V&&decide (p&&&8≠0))=true:=hV
 rw[Bool.and_eq_true] at h
 have hf:f (a/16)=true:=ZDT (zs:=zs) h.1
 refine⟨ZsR ((zs.drop a).take 16) (f (a/16)),Kb zs f (a/16*16),Zj7 16 (a/16) (by omega) hf,?_⟩
 have e:a/16*16=a:=by omega
 have e2:lcV (ofS ((zs.drop a).take 16) (f (a/16))) p=Kb zs f a:=by
  show lcV (ofS ((zs.drop a).take 16) (f (a/16))) p=ofS ((zs.drop a).take 16) (f (a/16))
  have h1:=h.1
  have h2:=h.2
  generalize ofS ((zs.drop a).take 16) (f (a/16))=y at *
  obtain⟨C,E,B,T,P,Y,R,V⟩:=y
  have h1:V=true:=h1
  subst h1
  unfold lcV
  rw[h2]
  rfl
 rw[e,e2]
 exact Zfc _
theorem Zj8:ZdF Tryz.prog=true:=by kernel_rfl
def ZGq (code a b:Int):Value:=.tuple (if code=3 then #[.int .u32 ((a+b)%4294967296),.int .i64 0,.bool true] else if code=6 then #[.int .u32 0,.int .i64 7,.bool true] else #[.int .u32 0,.int .i64 0,.bool false])
def ZEl (code a b:Int):Bool:=((decide (code<3)||decide (15<code))||decide (code=3)||(decide (code=6)&&decide (b=0)))&&decide (0≤a)&&decide (0≤b)
def ZoC:ZkG:=fun f args _=>bif Nat.beq f 39 then
 match args with
 | [.int .i64 code,.int .u32 a,.int .u32 b]=>some (Con.pure [.int .i64 code,.int .u32 a,.int .u32 b] (ZGq code a b),[],ZEl code a b=true)
 | _=>none
 else none
theorem ZlV:ZgW Tryz.prog 3 ZoC:=by
 intro f args s c ρ q h hq
 unfold ZoC at h
 obtain⟨h2,h3⟩:=Z9 h
 clear h
 have h2:=eB h2
 subst h2
 split at h3
 ·rename_i code a b
  cases h3
  unfold ZEl at hq
  simp only[Bool.and_eq_true,Bool.or_eq_true,decide_eq_true_eq] at hq
  obtain⟨⟨hx,ha⟩,hb⟩:=hq
  obtain⟨x,rfl⟩:=Int.eq_ofNat_of_zero_le ha
  obtain⟨y,rfl⟩:=Int.eq_ofNat_of_zero_le hb
  refine Qj (d:=1) (Yr Zj8 (by kernel_rfl)) (fun u hu => ?_) ?_ fun w => ?_
  ·simp only[List.mem_cons,List.not_mem_nil,or_false] at hu
   rcases hu with rfl|rfl|rfl<;>rfl
  ·unfold ZGq
   split
   ·rfl
   ·split<;>rfl
  ·exact ZpC code x y w (hx.elim (fun hx=>hx.elim .inl fun h => .inr (.inl h)) fun hx => .inr (.inr ⟨hx.1,by have:=hx.2; omega⟩))
 ·cases h3
def KO:Sy.Heap:=[(0,⟨false,none,Zw,none⟩)]
def Q4 (a b c d e f g:Int) (v:Bool):List Value:=[.int .u32 a,.int .u8 b,.int .u16 c,.int .u16 d,.int .u16 e,.int .u16 f,.int .u32 g,.bool v]
def atN {α:Type} (d:α) (i:Nat):List (Nat×α)→α
 | []=>d
 | x::l=>bif Nat.beq x.1 i then x.2 else atN d i l
def frLk (l:List (Nat×List Value)):Nat→Nat→List Value
 | _,0=>[]
 | i,n+1=>atN (Q4 0 0 0 0 0 0 0 false) i l++frLk l (i+1) n
def frV (l:List (Nat×List Value)):Value:=.agg ⟨frLk l 0 17⟩
def ZDV (k:IntKind):List (Nat×Int)→Nat→Nat→List Value
 | _,_,0=>[]
 | [],i,n+1 => .int k 0::ZDV k [] (i+1) n
 | x::l,i,n+1=>bif Nat.beq x.1 i then .int k x.2::ZDV k l (i+1) n else .int k 0::ZDV k (x::l) (i+1) n
def arC (rw:Bool) (by' tg:List (Nat×Int)):Sy.Heap:=[(67,⟨rw,none,[.pointer (some ⟨66,0,none⟩),.slice (some ⟨64,0,none⟩) 4096 (big+64)],none⟩),(66,⟨rw,none,[.int .i64 256,.slice (some ⟨65,0,none⟩) 4 (big+65)],none⟩),(65,⟨rw,some (65,1),ZDV .u64 tg 0 4,none⟩),(64,⟨rw,some (64,1),ZDV .u8 by' 0 4096,none⟩)]
def ZoD:List (Nat×Nat):=[(65,4),(64,4096)]
def ZDW:FuncId→List Value→Option Con:=fun f args=>bif Nat.beq f 39 then
 match args with
 | [.int .i64 code,.int .u32 a,.int .u32 b]=>bif ZEl code a b then some (Con.pure [.int .i64 code,.int .u32 a,.int .u32 b] (ZGq code a b)) else none
 | _=>none
 else none
theorem ZtA:∀ f args c,ZDW f args=some c→ConOk Tryz.prog f 3 c∧FlatC c:=by
 intro f args c h
 unfold ZDW at h
 obtain⟨h2,h3⟩:=Z9 h
 split at h3
 ·rename_i code a b
  obtain⟨h4,h5⟩:=Z9 h3
  cases h5
  refine⟨ZlV f [.int .i64 code,.int .u32 a,.int .u32 b] ⟨64,[],[],0,[],0,True⟩ _ [] (ZEl code a b=true) ?_ h4,⟨fun x hx=>by cases hx⟩⟩
  unfold ZoC
  rw[h2]
  rfl
 ·cases h3
def Zd2 (f:FuncId) (c:Con):Prop:=Znw 3 (evF Tryz.prog (ZqV 3 ZDW Zg) Zf 1000 40) f c
theorem Yl {f:FuncId} {c:Con} (h:Zd2 f c=True):ConOk Tryz.prog f 3 c∧FlatC c:=ZkN (Zn Zj8 (Znx ZtA (Zc _)) (Zd _) 40) h
def newC:Con:=⟨[.int .i64 16],64,[],[],.tuple ⟨[.pointer (some ⟨67,0,none⟩),.int .i64 0]⟩,68,arC true [] [],ZoD⟩
theorem ZAv:Zd2 9 newC=True:=by kernel_rfl
def k0C:Con:=⟨[(frV [(1,Q4 256 0 256 320 27 0 0 true),(16,Q4 0 0 0 64 5 0 0 true)]),(.agg ⟨[.int .i64 1,.int .i64 3,.int .i64 0,.int .i64 0,.int .i64 (-7)]⟩),.pointer (some ⟨67,0,none⟩)],68,KO,[],(.tuple ⟨[(frV [(1,Q4 256 0 256 320 27 0 0 true),(3,Q4 4294967289 0 0 0 0 0 0 false),(16,Q4 4 0 0 64 5 0 0 true)]),.int .i64 0]⟩),68,[],[]⟩
theorem ZDX:Zd2 13 k0C=True:=by kernel_rfl
def k1C:Con:=⟨[(frV [(1,Q4 256 0 256 320 27 0 0 true),(3,Q4 4294967289 0 0 0 0 0 0 false),(16,Q4 4 0 0 64 5 0 0 true)]),(.agg ⟨[.int .i64 3,.int .i64 3,.int .i64 3,.int .i64 3,.int .i64 0]⟩),.pointer (some ⟨67,0,none⟩)],68,KO,[],(.tuple ⟨[(frV [(1,Q4 256 0 256 320 27 0 0 true),(3,Q4 4294967282 0 0 0 0 0 0 false),(16,Q4 8 0 0 64 5 0 0 true)]),.int .i64 0]⟩),68,[],[]⟩
theorem ZDY:Zd2 13 k1C=True:=by kernel_rfl
def k2C:Con:=⟨[(frV [(1,Q4 256 0 256 320 27 0 0 true),(3,Q4 4294967282 0 0 0 0 0 0 false),(16,Q4 8 0 0 64 5 0 0 true)]),(.agg ⟨[.int .i64 22,.int .i64 3,.int .i64 1,.int .i64 0,.int .i64 2]⟩),.pointer (some ⟨67,0,none⟩)],68,arC false [] []++KO,ZoD,(.tuple ⟨[(frV []),.int .i64 5]⟩),68,[],[]⟩
theorem ZDZ:Zd2 13 k2C=True:=by kernel_rfl
def k3C:Con:=⟨[(frV [(1,Q4 256 0 256 320 27 0 0 true),(3,Q4 4294967282 0 0 0 0 0 0 false),(16,Q4 8 0 0 64 5 0 0 true)]),(.agg ⟨[.int .i64 22,.int .i64 3,.int .i64 3,.int .i64 0,.int .i64 0]⟩),.pointer (some ⟨67,0,none⟩)],68,KO,[],(.tuple ⟨[(frV []),.int .i64 1]⟩),68,[],[]⟩
theorem ZD0:Zd2 13 k3C=True:=by kernel_rfl
def k4C:Con:=⟨[(frV [(1,Q4 256 0 256 320 27 0 0 true),(3,Q4 4294967282 0 0 0 0 0 0 false),(16,Q4 8 0 0 64 5 0 0 true)]),(.agg ⟨[.int .i64 24,.int .i64 1,.int .i64 1,.int .i64 0,.int .i64 16]⟩),.pointer (some ⟨67,0,none⟩)],68,arC true [] []++KO,ZoD,(.tuple ⟨[(frV [(1,Q4 256 0 256 320 27 0 0 true),(3,Q4 4294967282 0 0 0 0 0 0 false),(16,Q4 12 0 0 64 5 0 0 true)]),.int .i64 0]⟩),68,arC true [(273,1),(278,1),(279,64),(280,1),(281,27)] [(0,131072)],ZoD⟩
theorem ZD1:Zd2 13 k4C=True:=by kernel_rfl
def k5C:Con:=⟨[(frV [(1,Q4 256 0 256 320 27 0 0 true),(3,Q4 4294967282 0 0 0 0 0 0 false),(16,Q4 8 0 0 64 5 0 0 true)]),(.agg ⟨[.int .i64 23,.int .i64 4,.int .i64 1,.int .i64 0,.int .i64 16]⟩),.pointer (some ⟨67,0,none⟩)],68,arC false [(273,1),(278,1),(279,64),(280,1),(281,27)] [(0,131072)]++KO,ZoD,(.tuple ⟨[.int .i64 1,.bool true]⟩),68,[],[]⟩
theorem ZD2:Zd2 21 k5C=True:=by kernel_rfl
def ZmY:List (FuncId×Con):=[(13,k0C),(13,k1C),(13,k2C),(13,k3C),(13,k4C),(21,k5C)]
theorem Zp4:∀ x∈ZmY,ConOk Tryz.prog x.1 3 x.2∧FlatC x.2:=by
 intro x hx
 simp only[ZmY,List.mem_cons,List.not_mem_nil,or_false] at hx
 rcases hx with rfl|rfl|rfl|rfl|rfl|rfl
 ·exact Yl ZDX
 ·exact Yl ZDY
 ·exact Yl ZDZ
 ·exact Yl ZD0
 ·exact Yl ZD1
 ·exact Yl ZD2
def k6C:Con:=⟨[(frV [(1,Q4 256 0 256 320 27 0 0 true),(3,Q4 4294967282 0 0 0 0 0 0 false),(16,Q4 8 0 0 64 5 0 0 true)]),(.agg ⟨[.int .i64 19,.int .i64 4,.int .i64 1,.int .i64 0,.int .i64 16]⟩),.pointer (some ⟨67,0,none⟩)],68,[],[],(.tuple ⟨[.int .i64 0,.bool false]⟩),68,[],[]⟩
theorem ZD3:Zd2 21 k6C=True:=by kernel_rfl
def k7C:Con:=⟨[(frV [(1,Q4 256 0 256 320 27 0 0 true),(3,Q4 4294967282 0 0 0 0 0 0 false),(16,Q4 8 0 0 64 5 0 0 true)]),(.agg ⟨[.int .i64 23,.int .i64 4,.int .i64 1,.int .i64 0,.int .i64 8]⟩),.pointer (some ⟨67,0,none⟩)],68,arC false [(273,1),(278,1),(279,64),(280,1),(281,27)] [(0,131072)]++KO,ZoD,(.tuple ⟨[.int .i64 0,.bool false]⟩),68,[],[]⟩
theorem ZD4:Zd2 21 k7C=True:=by kernel_rfl
def k8C:Con:=⟨[(frV [(1,Q4 256 0 256 320 27 0 0 true),(3,Q4 4294967282 0 0 0 0 0 0 false),(16,Q4 8 0 0 64 5 0 0 true)]),(.agg ⟨[.int .i64 30,.int .i64 5,.int .i64 1,.int .i64 0,.int .i64 0]⟩),.pointer (some ⟨67,0,none⟩)],68,KO,[],(.tuple ⟨[(frV []),.int .i64 3]⟩),68,[],[]⟩
theorem ZD5:Zd2 13 k8C=True:=by kernel_rfl
def k9C:Con:=⟨[(frV [(1,Q4 256 0 256 320 27 0 0 true),(16,Q4 0 0 0 64 5 0 0 true)]),(.agg ⟨[.int .i64 25,.int .i64 3,.int .i64 3,.int .i64 0,.int .i64 16]⟩),.pointer (some ⟨67,0,none⟩)],68,KO,[],(.tuple ⟨[(frV [(1,Q4 256 0 256 320 27 0 0 true),(16,Q4 64 0 0 64 5 0 0 true)]),.int .i64 0]⟩),68,[],[]⟩
theorem ZD6:Zd2 13 k9C=True:=by kernel_rfl
def k10C:Con:=⟨[(frV [(1,Q4 256 0 256 320 27 0 0 true),(16,Q4 64 0 0 64 5 0 0 true)]),.pointer (some ⟨67,0,none⟩)],68,[],[],(.tuple ⟨[(.agg ⟨[.int .i64 0,.int .i64 0,.int .i64 0,.int .i64 0,.int .i64 0]⟩),.int .i64 4]⟩),68,[],[]⟩
theorem ZAw:Zd2 25 k10C=True:=by kernel_rfl
def k11C:Con:=⟨[(frV [(1,Q4 256 0 256 320 27 0 0 true),(3,Q4 4294967282 0 0 0 0 0 0 false),(16,Q4 8 0 0 64 5 0 0 true)]),(.agg ⟨[.int .i64 1,.int .i64 16,.int .i64 0,.int .i64 0,.int .i64 0]⟩),.pointer (some ⟨67,0,none⟩)],68,KO,[],(.tuple ⟨[(frV []),.int .i64 6]⟩),68,[],[]⟩
theorem ZAx:Zd2 13 k11C=True:=by kernel_rfl
def ZmZ:List (FuncId×Con):=[(21,k6C),(21,k7C),(13,k8C),(13,k9C),(25,k10C),(13,k11C)]
theorem Zp5:∀ x∈ZmZ,ConOk Tryz.prog x.1 3 x.2∧FlatC x.2:=by
 intro x hx
 simp only[ZmZ,List.mem_cons,List.not_mem_nil,or_false] at hx
 rcases hx with rfl|rfl|rfl|rfl|rfl|rfl
 ·exact Yl ZD3
 ·exact Yl ZD4
 ·exact Yl ZD5
 ·exact Yl ZD6
 ·exact Yl ZAw
 ·exact Yl ZAx
def k12C:Con:=⟨[(frV [(1,Q4 256 0 256 320 27 0 0 true),(3,Q4 4294967282 0 0 0 0 0 0 false),(16,Q4 8 0 0 64 5 0 0 true)]),(.agg ⟨[.int .i64 6,.int .i64 3,.int .i64 3,.int .i64 0,.int .i64 0]⟩),.pointer (some ⟨67,0,none⟩)],68,KO,[],(.tuple ⟨[(frV []),.int .i64 7]⟩),68,[],[]⟩
theorem ZAy:Zd2 13 k12C=True:=by kernel_rfl
def k13C:Con:=⟨[(frV [(1,Q4 256 0 256 320 3 0 0 true),(3,Q4 4294967282 0 0 0 0 0 0 false),(16,Q4 8 0 0 64 5 0 0 true)]),(.agg ⟨[.int .i64 24,.int .i64 1,.int .i64 1,.int .i64 0,.int .i64 0]⟩),.pointer (some ⟨67,0,none⟩)],68,KO,[],(.tuple ⟨[(frV []),.int .i64 3]⟩),68,[],[]⟩
theorem ZAz:Zd2 13 k13C=True:=by kernel_rfl
def k14C:Con:=⟨[(frV [(1,Q4 256 0 256 320 3 0 0 true),(3,Q4 4294967282 0 0 0 0 0 0 false),(16,Q4 8 0 0 64 5 0 0 true)]),(.agg ⟨[.int .i64 23,.int .i64 4,.int .i64 1,.int .i64 0,.int .i64 16]⟩),.pointer (some ⟨67,0,none⟩)],68,arC false [(273,1),(278,1),(279,64),(280,1),(281,27)] [(0,131072)]++KO,ZoD,(.tuple ⟨[(frV [(1,Q4 256 0 256 320 3 0 0 true),(3,Q4 4294967282 0 0 0 0 0 0 false),(4,Q4 256 0 256 320 27 0 0 false),(16,Q4 12 0 0 64 5 0 0 true)]),.int .i64 0]⟩),68,[],[]⟩
theorem ZAA:Zd2 13 k14C=True:=by kernel_rfl
def k15C:Con:=⟨[(frV [(1,Q4 256 0 256 320 27 0 0 true),(3,Q4 4294967282 0 0 0 0 0 0 false),(16,Q4 8 0 0 64 5 0 0 true)]),(.agg ⟨[.int .i64 29,.int .i64 2,.int .i64 0,.int .i64 0,.int .i64 3]⟩),.pointer (some ⟨67,0,none⟩)],68,KO,[],(.tuple ⟨[(frV [(1,Q4 256 0 256 320 27 0 0 true),(2,Q4 12 0 0 64 5 0 0 true),(3,Q4 4294967282 0 0 0 0 0 0 false),(16,Q4 20 0 0 64 5 0 0 true)]),.int .i64 0]⟩),68,[],[]⟩
theorem ZAB:Zd2 13 k15C=True:=by kernel_rfl
def k16C:Con:=⟨[(frV [(1,Q4 256 0 256 320 27 0 0 true),(3,Q4 4294967282 0 0 0 0 0 0 false),(16,Q4 8 0 0 64 5 0 0 true)]),(.agg ⟨[.int .i64 52,.int .i64 0,.int .i64 0,.int .i64 0,.int .i64 3]⟩),.pointer (some ⟨67,0,none⟩)],68,KO,[],(.tuple ⟨[(frV [(1,Q4 256 0 256 320 27 0 0 true),(3,Q4 4294967282 0 0 0 0 0 0 false),(16,Q4 8 0 0 64 5 0 0 true)]),.int .i64 0]⟩),68,[],[]⟩
theorem ZAC:Zd2 13 k16C=True:=by kernel_rfl
def k17C:Con:=⟨[(frV [(1,Q4 256 0 256 320 27 0 0 true),(16,Q4 0 0 0 64 5 0 0 true)]),.pointer (some ⟨67,0,none⟩)],68,arC false [(273,1),(278,1),(279,64),(280,1),(281,27)] [(0,131072)]++KO,ZoD,(.tuple ⟨[(.agg ⟨[.int .i64 0,.int .i64 0,.int .i64 0,.int .i64 0,.int .i64 0]⟩),.int .i64 0]⟩),68,[],[]⟩
theorem ZAD:Zd2 25 k17C=True:=by kernel_rfl
def Zm0:List (FuncId×Con):=[(13,k12C),(13,k13C),(13,k14C),(13,k15C),(13,k16C),(25,k17C)]
theorem Zp6:∀ x∈Zm0,ConOk Tryz.prog x.1 3 x.2∧FlatC x.2:=by
 intro x hx
 simp only[Zm0,List.mem_cons,List.not_mem_nil,or_false] at hx
 rcases hx with rfl|rfl|rfl|rfl|rfl|rfl
 ·exact Yl ZAy
 ·exact Yl ZAz
 ·exact Yl ZAA
 ·exact Yl ZAB
 ·exact Yl ZAC
 ·exact Yl ZAD
def k18C:Con:=⟨[(frV [(1,Q4 256 0 256 320 27 0 0 true),(3,Q4 4294967282 0 0 0 0 0 0 false),(16,Q4 8 0 0 64 5 0 0 true)]),(.agg ⟨[.int .i64 44,.int .i64 7,.int .i64 1,.int .i64 0,.int .i64 0]⟩),.pointer (some ⟨67,0,none⟩)],68,KO,[],(.tuple ⟨[(frV [(1,Q4 256 0 256 320 27 0 0 true),(3,Q4 4294967282 0 0 0 0 0 0 false),(7,Q4 64 0 0 0 0 0 0 false),(16,Q4 12 0 0 64 5 0 0 true)]),.int .i64 0]⟩),68,[],[]⟩
theorem ZAE:Zd2 13 k18C=True:=by kernel_rfl
def k19C:Con:=⟨[(frV [(1,Q4 0 21 0 2048 1 0 0 true),(3,Q4 4294967282 0 0 0 0 0 0 false),(16,Q4 8 0 0 64 5 0 0 true)]),(.agg ⟨[.int .i64 44,.int .i64 7,.int .i64 1,.int .i64 0,.int .i64 0]⟩),.pointer (some ⟨67,0,none⟩)],68,KO,[],(.tuple ⟨[(frV [(1,Q4 0 21 0 2048 1 0 0 true),(3,Q4 4294967282 0 0 0 0 0 0 false),(7,Q4 4294967295 0 0 0 0 0 0 false),(16,Q4 12 0 0 64 5 0 0 true)]),.int .i64 0]⟩),68,[],[]⟩
theorem ZAF:Zd2 13 k19C=True:=by kernel_rfl
def k20C:Con:=⟨[(frV [(1,Q4 65536 21 0 2048 1 0 0 true),(3,Q4 4294967282 0 0 0 0 0 0 false),(16,Q4 8 0 0 64 5 0 0 true)]),(.agg ⟨[.int .i64 19,.int .i64 7,.int .i64 1,.int .i64 0,.int .i64 0]⟩),.pointer (some ⟨67,0,none⟩)],68,arC false [(273,1),(278,1),(279,64),(280,1),(281,27)] [(0,131072)]++KO,ZoD,(.tuple ⟨[(frV []),.int .i64 4]⟩),68,[],[]⟩
theorem ZAG:Zd2 13 k20C=True:=by kernel_rfl
def k21C:Con:=⟨[(frV [(1,Q4 256 0 256 320 27 0 0 true),(3,Q4 4294967282 0 0 0 0 0 0 false),(5,Q4 32 0 0 256 4 0 0 true),(16,Q4 8 0 0 64 5 0 0 true)]),(.agg ⟨[.int .i64 30,.int .i64 5,.int .i64 5,.int .i64 0,.int .i64 0]⟩),.pointer (some ⟨67,0,none⟩)],68,KO,[],(.tuple ⟨[(frV [(1,Q4 256 0 256 320 27 0 0 true),(3,Q4 4294967282 0 0 0 0 0 0 false),(5,Q4 12 0 0 64 5 0 0 true),(16,Q4 32 0 0 256 4 0 0 true)]),.int .i64 0]⟩),68,[],[]⟩
theorem ZAH:Zd2 13 k21C=True:=by kernel_rfl
def k22C:Con:=⟨[(frV [(1,Q4 256 0 256 320 27 0 0 true),(3,Q4 4294967282 0 0 0 0 0 0 false),(5,Q4 32 0 0 256 4 3 0 true),(16,Q4 8 0 0 64 5 0 0 true)]),(.agg ⟨[.int .i64 30,.int .i64 6,.int .i64 5,.int .i64 0,.int .i64 0]⟩),.pointer (some ⟨67,0,none⟩)],68,KO,[],(.tuple ⟨[(frV []),.int .i64 2]⟩),68,[],[]⟩
theorem ZAI:Zd2 13 k22C=True:=by kernel_rfl
def k23C:Con:=⟨[(frV [(1,Q4 256 0 256 320 27 0 0 true),(3,Q4 4294967289 0 0 0 0 0 0 false),(16,Q4 4 0 0 64 5 0 0 true)]),(.agg ⟨[.int .i64 22,.int .i64 3,.int .i64 1,.int .i64 0,.int .i64 4]⟩),.pointer (some ⟨67,0,none⟩)],68,arC true [] []++KO,ZoD,(.tuple ⟨[(frV [(1,Q4 256 0 256 320 27 0 0 true),(3,Q4 4294967289 0 0 0 0 0 0 false),(16,Q4 8 0 0 64 5 0 0 true)]),.int .i64 0]⟩),68,arC true [(260,249),(261,255),(262,255),(263,255)] [],ZoD⟩
theorem ZAJ:Zd2 13 k23C=True:=by kernel_rfl
def Zm1:List (FuncId×Con):=[(13,k18C),(13,k19C),(13,k20C),(13,k21C),(13,k22C),(13,k23C)]
theorem Zp7:∀ x∈Zm1,ConOk Tryz.prog x.1 3 x.2∧FlatC x.2:=by
 intro x hx
 simp only[Zm1,List.mem_cons,List.not_mem_nil,or_false] at hx
 rcases hx with rfl|rfl|rfl|rfl|rfl|rfl
 ·exact Yl ZAE
 ·exact Yl ZAF
 ·exact Yl ZAG
 ·exact Yl ZAH
 ·exact Yl ZAI
 ·exact Yl ZAJ
def k24C:Con:=⟨[(frV [(1,Q4 256 0 256 320 27 0 0 true),(3,Q4 4294967289 0 0 0 0 0 0 false),(16,Q4 8 0 0 64 5 0 0 true)]),(.agg ⟨[.int .i64 22,.int .i64 3,.int .i64 1,.int .i64 0,.int .i64 62]⟩),.pointer (some ⟨67,0,none⟩)],68,KO,[],(.tuple ⟨[(frV []),.int .i64 4]⟩),68,[],[]⟩
theorem ZAK:Zd2 13 k24C=True:=by kernel_rfl
def k25C:Con:=⟨[(frV [(1,Q4 256 0 256 320 27 0 0 true),(3,Q4 4294967289 0 0 0 0 0 0 false),(16,Q4 8 0 0 64 5 0 0 true)]),(.agg ⟨[.int .i64 53,.int .i64 0,.int .i64 0,.int .i64 0,.int .i64 0]⟩),.pointer (some ⟨67,0,none⟩)],68,KO,[],(.tuple ⟨[(frV []),.int .i64 6]⟩),68,[],[]⟩
theorem ZAL:Zd2 13 k25C=True:=by kernel_rfl
def k26C:Con:=⟨[(frV [(1,Q4 256 0 256 320 27 0 0 true),(3,Q4 4294967289 0 0 0 0 0 0 false),(16,Q4 8 0 0 64 5 0 0 true)]),(.agg ⟨[.int .i64 24,.int .i64 1,.int .i64 1,.int .i64 0,.int .i64 16]⟩),.pointer (some ⟨67,0,none⟩)],68,arC true [(260,249),(261,255),(262,255),(263,255)] []++KO,ZoD,(.tuple ⟨[(frV [(1,Q4 256 0 256 320 27 0 0 true),(3,Q4 4294967289 0 0 0 0 0 0 false),(16,Q4 12 0 0 64 5 0 0 true)]),.int .i64 0]⟩),68,arC true [(260,249),(261,255),(262,255),(263,255),(273,1),(278,1),(279,64),(280,1),(281,27)] [(0,131072)],ZoD⟩
theorem ZAM:Zd2 13 k26C=True:=by kernel_rfl
def k27C:Con:=⟨[(frV [(1,Q4 256 0 256 320 27 0 0 true),(3,Q4 4294967289 0 0 0 0 0 0 false),(16,Q4 8 0 0 64 5 0 0 true)]),(.agg ⟨[.int .i64 23,.int .i64 4,.int .i64 1,.int .i64 0,.int .i64 16]⟩),.pointer (some ⟨67,0,none⟩)],68,arC false [(260,249),(261,255),(262,255),(263,255),(273,1),(278,1),(279,64),(280,1),(281,27)] [(0,131072)]++KO,ZoD,(.tuple ⟨[(frV [(1,Q4 256 0 256 320 27 0 0 true),(3,Q4 4294967289 0 0 0 0 0 0 false),(4,Q4 256 0 256 320 27 0 0 true),(16,Q4 12 0 0 64 5 0 0 true)]),.int .i64 0]⟩),68,[],[]⟩
theorem ZAN:Zd2 13 k27C=True:=by kernel_rfl
def Zm2:List (FuncId×Con):=[(13,k24C),(13,k25C),(13,k26C),(13,k27C)]
theorem Zp8:∀ x∈Zm2,ConOk Tryz.prog x.1 3 x.2∧FlatC x.2:=by
 intro x hx
 simp only[Zm2,List.mem_cons,List.not_mem_nil,or_false] at hx
 rcases hx with rfl|rfl|rfl|rfl
 ·exact Yl ZAK
 ·exact Yl ZAL
 ·exact Yl ZAM
 ·exact Yl ZAN
def Zwk:List (FuncId×Con):=(9,newC)::(ZmY++(ZmZ++(Zm0++(Zm1++Zm2))))
theorem ZoE:∀ x∈Zwk,ConOk Tryz.prog x.1 3 x.2∧FlatC x.2:=by
 intro x hx
 simp only[Zwk,List.mem_cons,List.mem_append] at hx
 rcases hx with rfl|h|h|h|h|h
 ·exact Yl ZAv
 ·exact Zp4 x h
 ·exact Zp5 x h
 ·exact Zp6 x h
 ·exact Zp7 x h
 ·exact Zp8 x h
def Zxe:Con:=⟨[],64,KO,[],.bool true,64,[],[]⟩
def LRun (f:FuncId) (c:Con):Prop:=Znw 3 (evF Tryz.prog (Zt8 3 Zwk (ZqV 3 ZDW Zg)) Zf 1000 40) f c
theorem ZtB {f:FuncId} {c:Con} (h:LRun f c=True):ConOk Tryz.prog f 3 c∧FlatC c:=ZkN (Zn Zj8 (Zt9 ZoE (Znx ZtA (Zc _))) (Zd _) 40) h
theorem ZlW:LRun 10 Zxe=True:=by kernel_rfl
theorem ZtC:ConOk Tryz.prog 10 3 (gwC [] Zw (.bool true))∧FlatC (gwC [] Zw (.bool true)):=ZtB ZlW
theorem VJ {k n:Nat} (h:ZfA k n):k=0∨k=1∨k=2:=by obtain⟨h1,_⟩:=h; omega
def ZtD (fr:Nat→Cp) (i:In) (k:Nat) (l:List Pt):Prop:=∃ (call:Qs) (T:List (Nat×Bool)) (q:Prop),Zv Tryz.prog call∧obs (call 4 [WV fr,i.val,sl1 k 64 l.length] ⟨65,Uv k 64 (Qy l)++Yq Zw,[],0,T,0,True⟩)=some (.bool true,q)∧q
theorem QC {fr:Nat→Cp} {k:Nat} {l:List Pt} {n0:Nat} {pc:Cp} {mo dc ho:Con} (es:List (Ent Tryz.prog)) (hfr:Wc fr) (hk:ZfA k l.length) (hok:∀ x∈l,x.Ok) (hpc:pc.Ok) (hm:ConOk Tryz.prog 16 3 mo∧FlatC mo) (hd:ConOk Tryz.prog 13 3 dc∧FlatC dc) (hh:ConOk Tryz.prog 16 3 ho∧FlatC ho) :
  Zv Tryz.prog (evF Tryz.prog (Zs 3 (Zb (nmL k l Zw fr (Qx fr 17) n0 pc (VI pc (Qx fr 17) []) mo dc ho (ZE l (ZG l)).1 (ZE l (ZG l)).2 4096 256 4)) Zg) (Yt es) 100 20):=by
 refine Zn (L:=100) Ze (Zo (Zi fun x hx => ?_) (Zc _)) (X0 es) 20
 simp only[nmL,List.mem_cons,List.not_mem_nil,or_false] at hx
 rcases hx with rfl|rfl|rfl|rfl|rfl|rfl|rfl
 ·exact ZmU k l hk hok
 ·exact ZtC
 ·exact ZlO fr hfr
 ·exact hm
 ·exact hd
 ·exact Ze7 pc _ hpc (ZhN hfr 17)
 ·exact hh
theorem ZcZ {fr:Nat→Cp} {k:Nat} {l:List Pt} {n0:Nat} {pc:Cp} {mo dc ho:Con} (hfr:Wc fr) (hk:ZfA k l.length) (hok:∀ x∈l,x.Ok) (hpc:pc.Ok) (hm:ConOk Tryz.prog 16 3 mo∧FlatC mo) (hd:ConOk Tryz.prog 13 3 dc∧FlatC dc) (hh:ConOk Tryz.prog 16 3 ho∧FlatC ho) :
  Zv Tryz.prog (evF Tryz.prog (Zs 3 (Zb (nmL k l Zw fr (Qx fr 17) n0 pc (VI pc (Qx fr 17) []) mo dc ho (ZE l (ZG l)).1 (ZE l (ZG l)).2 4096 256 4)) Zg) Zf 100 20):=by
 refine Zn (L:=100) Ze (Zo (Zi fun x hx => ?_) (Zc _)) (Zd _) 20
 simp only[nmL,List.mem_cons,List.not_mem_nil,or_false] at hx
 rcases hx with rfl|rfl|rfl|rfl|rfl|rfl|rfl
 ·exact ZmU k l hk hok
 ·exact ZtC
 ·exact ZlO fr hfr
 ·exact hm
 ·exact hd
 ·exact Ze7 pc _ hpc (ZhN hfr 17)
 ·exact hh
theorem Y4:V0.Ok:=⟨by decide,by decide,by decide,by decide,by decide,by decide,by decide⟩
theorem Zj9 (zs:List UInt8) (f:Nat→Bool):(QB zs f 16).length<4096:=by have:=Zj3 zs f 16; omega
theorem ZoF {zs:List UInt8} {f:Nat→Bool} (h:ArOk zs 4096 256 4) (he:QB zs f 16=[]):ConOk Tryz.prog 16 3 (hlN zs f 4096 256 4)∧FlatC (hlN zs f 4096 256 4):=ZzN zs f 4096 256 4 16 h rfl (by omega) he
theorem ZoG {zs:List UInt8} {f:Nat→Bool} {cs:List Cp} (h:ArOk zs 4096 256 4) (he:QB zs f 16=cs) (hne:cs≠[]):ConOk Tryz.prog 16 3 (hlY cs zs f 4096 256 4)∧FlatC (hlY cs zs f 4096 256 4):=ZzO zs f 4096 256 4 16 cs h rfl (by omega) he.symm hne
theorem ZD7 (fr:Nat→Cp) (i:In) (k:Nat) (l:List Pt) (hfr:Wc fr) (hk:ZfA k l.length) (hok:∀ x∈l,x.Ok) (t:Nat) (hd:ConOk Tryz.prog 13 3 (ZbH (mvA (Qx fr 17) i) frN t (ZE l (ZG l)).1 (ZE l (ZG l)).2 4096 256 4)∧FlatC (ZbH (mvA (Qx fr 17) i) frN t (ZE l (ZG l)).1 (ZE l (ZG l)).2 4096 256 4)) (ht:t≠0):ZtD fr i k l:=by
 have p1:∀ (p:Nat→Bool),(Qy l).all (okV p 3)=true:=fun p=>Zj (YZ l)
 have p2:∀ (σ:Nat→Nat),(Qy l).map (rnV σ 3)=Qy l:=fun σ=>Zk (YZ l)
 have v1:∀ (f:Nat→Bool) (σ:Nat→Nat),(v64 (Za f 4)).map (rnV σ 3)=v64 (Za f 4):=fun f σ=>Zk (Zm _)
 have v2:∀ (f:Nat→Bool) (p:Nat→Bool),(v64 (Za f 4)).all (okV p 3)=true:=fun f p=>Zj (Zm _)
 have u1:∀ (zs:List UInt8) (p:Nat→Bool),(u8s zs).all (okV p 3)=true:=fun zs p=>Zj (Zl _)
 have u2:∀ (zs:List UInt8) (σ:Nat→Nat),(u8s zs).map (rnV σ 3)=u8s zs:=fun zs σ=>Zk (Zl _)
 have har:=Zj4 l (ZG l)
 have t1:(((t:Nat):Int) !=(0:Int))=true:=bne_iff_ne.2 (by omega)
 have t2:(((t:Nat):Int)==(0:Int))=false:=beq_eq_false_iff_ne.2 (by omega)
 cases hm:QB (ZE l (ZG l)).1 (ZE l (ZG l)).2 16 with
 | nil =>
  have hn:=ZoF har hm
  rcases VJ hk with rfl|rfl|rfl
  ·exact⟨_,_,_,ZcZ hfr hk hok Y4 hn hd hn,ZDM.v i fr (Qx fr 17) frN l Zw (ZE l (ZG l)).1 (ZE l (ZG l)).2 4096 256 4 V0 _ t,by simp only[t1,t2,p1,p2,v1,v2,u1,u2,Zx,Zp,beq_self_eq_true,Bool.and_self,Bool.not_true,Bool.not_false,cond_true,and_true,true_and,and_self,Nat.le_refl]⟩
  ·exact⟨_,_,_,ZcZ hfr hk hok Y4 hn hd hn,ZDO.v i fr (Qx fr 17) frN l Zw (ZE l (ZG l)).1 (ZE l (ZG l)).2 4096 256 4 V0 _ t,by simp only[t1,t2,p1,p2,v1,v2,u1,u2,Zx,Zp,beq_self_eq_true,Bool.and_self,Bool.not_true,Bool.not_false,cond_true,and_true,true_and,and_self,Nat.le_refl]⟩
  ·exact⟨_,_,_,ZcZ hfr hk hok Y4 hn hd hn,ZDQ.v i fr (Qx fr 17) frN l Zw (ZE l (ZG l)).1 (ZE l (ZG l)).2 4096 256 4 V0 _ t,by simp only[t1,t2,p1,p2,v1,v2,u1,u2,Zx,Zp,beq_self_eq_true,Bool.and_self,Bool.not_true,Bool.not_false,cond_true,and_true,true_and,and_self,Nat.le_refl]⟩
 | cons x ml =>
  generalize hml:x::ml=ml' at hm
  have hy:=ZoG har hm (by rw[← hml]; simp)
  rcases VJ hk with rfl|rfl|rfl
  ·exact⟨_,_,_,ZcZ hfr hk hok Y4 hy hd hy,ZDN.v i fr (Qx fr 17) frN l Zw (ZE l (ZG l)).1 (ZE l (ZG l)).2 4096 256 4 ml' V0 _ t,by simp only[t1,t2,p1,p2,v1,v2,u1,u2,Zx,Zp,beq_self_eq_true,Bool.and_self,Bool.not_true,Bool.not_false,cond_true,and_true,true_and,and_self,Nat.le_refl]⟩
  ·exact⟨_,_,_,ZcZ hfr hk hok Y4 hy hd hy,ZDP.v i fr (Qx fr 17) frN l Zw (ZE l (ZG l)).1 (ZE l (ZG l)).2 4096 256 4 ml' V0 _ t,by simp only[t1,t2,p1,p2,v1,v2,u1,u2,Zx,Zp,beq_self_eq_true,Bool.and_self,Bool.not_true,Bool.not_false,cond_true,and_true,true_and,and_self,Nat.le_refl]⟩
  ·exact⟨_,_,_,ZcZ hfr hk hok Y4 hy hd hy,ZDR.v i fr (Qx fr 17) frN l Zw (ZE l (ZG l)).1 (ZE l (ZG l)).2 4096 256 4 ml' V0 _ t,by simp only[t1,t2,p1,p2,v1,v2,u1,u2,Zx,Zp,beq_self_eq_true,Bool.and_self,Bool.not_true,Bool.not_false,cond_true,and_true,true_and,and_self,Nat.le_refl]⟩
theorem ZtJ (fr gr:Nat→Cp) (i:In) (k:Nat) (l:List Pt) (hfr:Wc fr) (hk:ZfA k l.length) (hok:∀ x∈l,x.Ok) (hg:Za0 (Qx fr 17) (QB (ZE l (ZG l)).1 (ZE l (ZG l)).2 16) gr) (hd:ConOk Tryz.prog 13 3 (ZbH (mvA (Qx fr 17) i) gr 0 (ZE l (ZG l)).1 (ZE l (ZG l)).2 4096 256 4)∧FlatC (ZbH (mvA (Qx fr 17) i) gr 0 (ZE l (ZG l)).1 (ZE l (ZG l)).2 4096 256 4)):ZtD fr i k l:=by
 have p1:∀ (p:Nat→Bool),(Qy l).all (okV p 3)=true:=fun p=>Zj (YZ l)
 have p2:∀ (σ:Nat→Nat),(Qy l).map (rnV σ 3)=Qy l:=fun σ=>Zk (YZ l)
 have v1:∀ (f:Nat→Bool) (σ:Nat→Nat),(v64 (Za f 4)).map (rnV σ 3)=v64 (Za f 4):=fun f σ=>Zk (Zm _)
 have v2:∀ (f:Nat→Bool) (p:Nat→Bool),(v64 (Za f 4)).all (okV p 3)=true:=fun f p=>Zj (Zm _)
 have u1:∀ (zs:List UInt8) (p:Nat→Bool),(u8s zs).all (okV p 3)=true:=fun zs p=>Zj (Zl _)
 have u2:∀ (zs:List UInt8) (σ:Nat→Nat),(u8s zs).map (rnV σ 3)=u8s zs:=fun zs σ=>Zk (Zl _)
 have har:=Zj4 l (ZG l)
 have hf1:=ZhN hfr 17
 have few:=Zj9 (ZE l (ZG l)).1 (ZE l (ZG l)).2
 have hself:∀ c∈QB (ZE l (ZG l)).1 (ZE l (ZG l)).2 16,VI c (Qx fr 17) (QB (ZE l (ZG l)).1 (ZE l (ZG l)).2 16)=true:=fun c hc=>Zgw hc (Zfc c)
 have hoks:∀ c∈QB (ZE l (ZG l)).1 (ZE l (ZG l)).2 16,c.Ok:=fun c hc=>Ztz hc
 have ha:NaOk (Qx fr 17) gr (QB (ZE l (ZG l)).1 (ZE l (ZG l)).2 16):=⟨hf1,few,hg.regs⟩
 have hb:NbOk (Qx fr 17) (QB (ZE l (ZG l)).1 (ZE l (ZG l)).2 16) (QB (ZE l (ZG l)).1 (ZE l (ZG l)).2 16):=⟨hf1,few,few,hoks,hself⟩
 have hhn:=fun he=>ZoF (zs:=(ZE l (ZG l)).1) (f:=(ZE l (ZG l)).2) har he
 have hhy:=fun cs he=>ZoG (zs:=(ZE l (ZG l)).1) (f:=(ZE l (ZG l)).2) (cs:=cs) har he
 generalize QB (ZE l (ZG l)).1 (ZE l (ZG l)).2 16=ml at *
 cases ml with
 | nil =>
  have hn:=hhn rfl
  rcases VJ hk with rfl|rfl|rfl
  ·cases hV:(gr 16).V
   ·exact⟨_,_,_,QC [YB _ gr ha] hfr hk hok Y4 hn hd hn,ZAf.v i fr (Qx fr 17) gr l Zw (ZE l (ZG l)).1 (ZE l (ZG l)).2 4096 256 4 V0 _ ha,by simp only[hV,p1,p2,v1,v2,u1,u2,Zx,Zp,beq_self_eq_true,Bool.and_self,Bool.not_true,Bool.not_false,cond_true,and_true,true_and,and_self,Nat.le_refl]⟩
   ·have hp:=hg.pc hV
    have hb0:=QC (n0:=74) [YB _ gr ha] hfr hk hok hp.1 hn hd hn
    rw[hp.2] at hb0
    exact⟨_,_,_,hb0,ZAe.v i fr (Qx fr 17) gr l Zw (ZE l (ZG l)).1 (ZE l (ZG l)).2 4096 256 4 ha,by simp only[hV,p1,p2,v1,v2,u1,u2,Zx,Zp,beq_self_eq_true,Bool.and_self,Bool.not_true,Bool.not_false,cond_true,and_true,true_and,and_self,Nat.le_refl]⟩
  ·cases hV:(gr 16).V
   ·exact⟨_,_,_,QC [YB _ gr ha] hfr hk hok Y4 hn hd hn,ZAj.v i fr (Qx fr 17) gr l Zw (ZE l (ZG l)).1 (ZE l (ZG l)).2 4096 256 4 V0 _ ha,by simp only[hV,p1,p2,v1,v2,u1,u2,Zx,Zp,beq_self_eq_true,Bool.and_self,Bool.not_true,Bool.not_false,cond_true,and_true,true_and,and_self,Nat.le_refl]⟩
   ·have hp:=hg.pc hV
    have hb0:=QC (n0:=74) [YB _ gr ha] hfr hk hok hp.1 hn hd hn
    rw[hp.2] at hb0
    exact⟨_,_,_,hb0,ZAi.v i fr (Qx fr 17) gr l Zw (ZE l (ZG l)).1 (ZE l (ZG l)).2 4096 256 4 ha,by simp only[hV,p1,p2,v1,v2,u1,u2,Zx,Zp,beq_self_eq_true,Bool.and_self,Bool.not_true,Bool.not_false,cond_true,and_true,true_and,and_self,Nat.le_refl]⟩
  ·cases hV:(gr 16).V
   ·exact⟨_,_,_,QC [YB _ gr ha] hfr hk hok Y4 hn hd hn,ZAn.v i fr (Qx fr 17) gr l Zw (ZE l (ZG l)).1 (ZE l (ZG l)).2 4096 256 4 V0 _ ha,by simp only[hV,p1,p2,v1,v2,u1,u2,Zx,Zp,beq_self_eq_true,Bool.and_self,Bool.not_true,Bool.not_false,cond_true,and_true,true_and,and_self,Nat.le_refl]⟩
   ·have hp:=hg.pc hV
    have hb0:=QC (n0:=74) [YB _ gr ha] hfr hk hok hp.1 hn hd hn
    rw[hp.2] at hb0
    exact⟨_,_,_,hb0,ZAm.v i fr (Qx fr 17) gr l Zw (ZE l (ZG l)).1 (ZE l (ZG l)).2 4096 256 4 ha,by simp only[hV,p1,p2,v1,v2,u1,u2,Zx,Zp,beq_self_eq_true,Bool.and_self,Bool.not_true,Bool.not_false,cond_true,and_true,true_and,and_self,Nat.le_refl]⟩
 | cons x ml2 =>
  have hy:=hhy _ rfl (by simp)
  generalize x::ml2=ml at *
  rcases VJ hk with rfl|rfl|rfl
  ·cases hV:(gr 16).V
   ·exact⟨_,_,_,QC [YC _ gr ml ha,WR _ ml ml hb] hfr hk hok Y4 hy hd hy,ZAh.v i fr (Qx fr 17) gr l Zw (ZE l (ZG l)).1 (ZE l (ZG l)).2 4096 256 4 ml V0 _ ha hb,by simp only[hV,p1,p2,v1,v2,u1,u2,Zx,Zp,beq_self_eq_true,Bool.and_self,Bool.not_true,Bool.not_false,cond_true,and_true,true_and,and_self,Nat.le_refl]⟩
   ·have hp:=hg.pc hV
    have hb0:=QC (n0:=75) [YC _ gr ml ha,WR _ ml ml hb] hfr hk hok hp.1 hy hd hy
    rw[hp.2] at hb0
    exact⟨_,_,_,hb0,ZAg.v i fr (Qx fr 17) gr l Zw (ZE l (ZG l)).1 (ZE l (ZG l)).2 4096 256 4 ml ha hb,by simp only[hV,p1,p2,v1,v2,u1,u2,Zx,Zp,beq_self_eq_true,Bool.and_self,Bool.not_true,Bool.not_false,cond_true,and_true,true_and,and_self,Nat.le_refl]⟩
  ·cases hV:(gr 16).V
   ·exact⟨_,_,_,QC [YC _ gr ml ha,WR _ ml ml hb] hfr hk hok Y4 hy hd hy,ZAl.v i fr (Qx fr 17) gr l Zw (ZE l (ZG l)).1 (ZE l (ZG l)).2 4096 256 4 ml V0 _ ha hb,by simp only[hV,p1,p2,v1,v2,u1,u2,Zx,Zp,beq_self_eq_true,Bool.and_self,Bool.not_true,Bool.not_false,cond_true,and_true,true_and,and_self,Nat.le_refl]⟩
   ·have hp:=hg.pc hV
    have hb0:=QC (n0:=75) [YC _ gr ml ha,WR _ ml ml hb] hfr hk hok hp.1 hy hd hy
    rw[hp.2] at hb0
    exact⟨_,_,_,hb0,ZAk.v i fr (Qx fr 17) gr l Zw (ZE l (ZG l)).1 (ZE l (ZG l)).2 4096 256 4 ml ha hb,by simp only[hV,p1,p2,v1,v2,u1,u2,Zx,Zp,beq_self_eq_true,Bool.and_self,Bool.not_true,Bool.not_false,cond_true,and_true,true_and,and_self,Nat.le_refl]⟩
  ·cases hV:(gr 16).V
   ·exact⟨_,_,_,QC [YC _ gr ml ha,WR _ ml ml hb] hfr hk hok Y4 hy hd hy,ZAp.v i fr (Qx fr 17) gr l Zw (ZE l (ZG l)).1 (ZE l (ZG l)).2 4096 256 4 ml V0 _ ha hb,by simp only[hV,p1,p2,v1,v2,u1,u2,Zx,Zp,beq_self_eq_true,Bool.and_self,Bool.not_true,Bool.not_false,cond_true,and_true,true_and,and_self,Nat.le_refl]⟩
   ·have hp:=hg.pc hV
    have hb0:=QC (n0:=75) [YC _ gr ml ha,WR _ ml ml hb] hfr hk hok hp.1 hy hd hy
    rw[hp.2] at hb0
    exact⟨_,_,_,hb0,ZAo.v i fr (Qx fr 17) gr l Zw (ZE l (ZG l)).1 (ZE l (ZG l)).2 4096 256 4 ml ha hb,by simp only[hV,p1,p2,v1,v2,u1,u2,Zx,Zp,beq_self_eq_true,Bool.and_self,Bool.not_true,Bool.not_false,cond_true,and_true,true_and,and_self,Nat.le_refl]⟩
theorem no_w (fr gr:Nat→Cp) (i:In) (k:Nat) (l:List Pt) (z2:List UInt8) (f2:Nat→Bool) (hfr:Wc fr) (hk:ZfA k l.length) (hok:∀ x∈l,x.Ok) (hg:Za0 (Qx fr 17) (QB (ZE l (ZG l)).1 (ZE l (ZG l)).2 16) gr) (h2:ArOk z2 4096 256 4) (hn2:∀ c∈QB z2 f2 16,VI c (Qx fr 17) (QB (ZE l (ZG l)).1 (ZE l (ZG l)).2 16)=true) (hd:ConOk Tryz.prog 13 3 (ZwW (mvA (Qx fr 17) i) gr (ZE l (ZG l)).1 z2 (ZE l (ZG l)).2 f2 4096 256 4)∧FlatC (ZwW (mvA (Qx fr 17) i) gr (ZE l (ZG l)).1 z2 (ZE l (ZG l)).2 f2 4096 256 4)):ZtD fr i k l:=by
 have p1:∀ (p:Nat→Bool),(Qy l).all (okV p 3)=true:=fun p=>Zj (YZ l)
 have p2:∀ (σ:Nat→Nat),(Qy l).map (rnV σ 3)=Qy l:=fun σ=>Zk (YZ l)
 have v1:∀ (f:Nat→Bool) (σ:Nat→Nat),(v64 (Za f 4)).map (rnV σ 3)=v64 (Za f 4):=fun f σ=>Zk (Zm _)
 have v2:∀ (f:Nat→Bool) (p:Nat→Bool),(v64 (Za f 4)).all (okV p 3)=true:=fun f p=>Zj (Zm _)
 have u1:∀ (zs:List UInt8) (p:Nat→Bool),(u8s zs).all (okV p 3)=true:=fun zs p=>Zj (Zl _)
 have u2:∀ (zs:List UInt8) (σ:Nat→Nat),(u8s zs).map (rnV σ 3)=u8s zs:=fun zs σ=>Zk (Zl _)
 have har:=Zj4 l (ZG l)
 have hf1:=ZhN hfr 17
 have few:=Zj9 (ZE l (ZG l)).1 (ZE l (ZG l)).2
 have few2:=Zj9 z2 f2
 have hoks:∀ c∈QB z2 f2 16,c.Ok:=fun c hc=>Ztz hc
 have ha:NaOk (Qx fr 17) gr (QB (ZE l (ZG l)).1 (ZE l (ZG l)).2 16):=⟨hf1,few,hg.regs⟩
 have hb:NbOk (Qx fr 17) (QB (ZE l (ZG l)).1 (ZE l (ZG l)).2 16) (QB z2 f2 16):=⟨hf1,few,few2,hoks,hn2⟩
 have hhn:=fun he=>ZoF (zs:=(ZE l (ZG l)).1) (f:=(ZE l (ZG l)).2) har he
 have hhy:=fun cs he=>ZoG (zs:=(ZE l (ZG l)).1) (f:=(ZE l (ZG l)).2) (cs:=cs) har he
 have ghn:=fun he=>ZoF (zs:=z2) (f:=f2) h2 he
 have ghy:=fun cs he=>ZoG (zs:=z2) (f:=f2) (cs:=cs) h2 he
 generalize QB (ZE l (ZG l)).1 (ZE l (ZG l)).2 16=ml at *
 generalize QB z2 f2 16=nl at *
 cases ml with
 | nil =>
  have hn:=hhn rfl
  cases nl with
  | nil =>
   have gn:=ghn rfl
   rcases VJ hk with rfl|rfl|rfl
   ·cases hV:(gr 16).V
    ·exact⟨_,_,_,QC [YB _ gr ha] hfr hk hok Y4 hn hd gn,ZvN.v i fr (Qx fr 17) gr l Zw (ZE l (ZG l)).1 (ZE l (ZG l)).2 4096 256 4 V0 _ z2 f2 ha,by simp only[hV,p1,p2,v1,v2,u1,u2,Zx,Zp,beq_self_eq_true,Bool.and_self,Bool.not_true,Bool.not_false,cond_true,and_true,true_and,and_self,Nat.le_refl]⟩
    ·have hp:=hg.pc hV
     have hb0:=QC (n0:=74) [YB _ gr ha] hfr hk hok hp.1 hn hd gn
     rw[hp.2] at hb0
     exact⟨_,_,_,hb0,ZvL.v i fr (Qx fr 17) gr l Zw (ZE l (ZG l)).1 (ZE l (ZG l)).2 4096 256 4 z2 f2 ha,by simp only[hV,p1,p2,v1,v2,u1,u2,Zx,Zp,beq_self_eq_true,Bool.and_self,Bool.not_true,Bool.not_false,cond_true,and_true,true_and,and_self,Nat.le_refl]⟩
   ·cases hV:(gr 16).V
    ·exact⟨_,_,_,QC [YB _ gr ha] hfr hk hok Y4 hn hd gn,ZvX.v i fr (Qx fr 17) gr l Zw (ZE l (ZG l)).1 (ZE l (ZG l)).2 4096 256 4 V0 _ z2 f2 ha,by simp only[hV,p1,p2,v1,v2,u1,u2,Zx,Zp,beq_self_eq_true,Bool.and_self,Bool.not_true,Bool.not_false,cond_true,and_true,true_and,and_self,Nat.le_refl]⟩
    ·have hp:=hg.pc hV
     have hb0:=QC (n0:=74) [YB _ gr ha] hfr hk hok hp.1 hn hd gn
     rw[hp.2] at hb0
     exact⟨_,_,_,hb0,ZvV.v i fr (Qx fr 17) gr l Zw (ZE l (ZG l)).1 (ZE l (ZG l)).2 4096 256 4 z2 f2 ha,by simp only[hV,p1,p2,v1,v2,u1,u2,Zx,Zp,beq_self_eq_true,Bool.and_self,Bool.not_true,Bool.not_false,cond_true,and_true,true_and,and_self,Nat.le_refl]⟩
   ·cases hV:(gr 16).V
    ·exact⟨_,_,_,QC [YB _ gr ha] hfr hk hok Y4 hn hd gn,Zv7.v i fr (Qx fr 17) gr l Zw (ZE l (ZG l)).1 (ZE l (ZG l)).2 4096 256 4 V0 _ z2 f2 ha,by simp only[hV,p1,p2,v1,v2,u1,u2,Zx,Zp,beq_self_eq_true,Bool.and_self,Bool.not_true,Bool.not_false,cond_true,and_true,true_and,and_self,Nat.le_refl]⟩
    ·have hp:=hg.pc hV
     have hb0:=QC (n0:=74) [YB _ gr ha] hfr hk hok hp.1 hn hd gn
     rw[hp.2] at hb0
     exact⟨_,_,_,hb0,Zv5.v i fr (Qx fr 17) gr l Zw (ZE l (ZG l)).1 (ZE l (ZG l)).2 4096 256 4 z2 f2 ha,by simp only[hV,p1,p2,v1,v2,u1,u2,Zx,Zp,beq_self_eq_true,Bool.and_self,Bool.not_true,Bool.not_false,cond_true,and_true,true_and,and_self,Nat.le_refl]⟩
  | cons y nl2 =>
   have gy:=ghy _ rfl (by simp)
   generalize y::nl2=nl at *
   rcases VJ hk with rfl|rfl|rfl
   ·cases hV:(gr 16).V
    ·exact⟨_,_,_,QC [YB _ gr ha,ZbO _ nl hb] hfr hk hok Y4 hn hd gy,ZvO.v i fr (Qx fr 17) gr l Zw (ZE l (ZG l)).1 (ZE l (ZG l)).2 4096 256 4 V0 _ z2 f2 nl ha hb,by simp only[hV,p1,p2,v1,v2,u1,u2,Zx,Zp,beq_self_eq_true,Bool.and_self,Bool.not_true,Bool.not_false,cond_true,and_true,true_and,and_self,Nat.le_refl]⟩
    ·have hp:=hg.pc hV
     have hb0:=QC (n0:=74) [YB _ gr ha,ZbO _ nl hb] hfr hk hok hp.1 hn hd gy
     rw[hp.2] at hb0
     exact⟨_,_,_,hb0,ZvM.v i fr (Qx fr 17) gr l Zw (ZE l (ZG l)).1 (ZE l (ZG l)).2 4096 256 4 z2 f2 nl ha hb,by simp only[hV,p1,p2,v1,v2,u1,u2,Zx,Zp,beq_self_eq_true,Bool.and_self,Bool.not_true,Bool.not_false,cond_true,and_true,true_and,and_self,Nat.le_refl]⟩
   ·cases hV:(gr 16).V
    ·exact⟨_,_,_,QC [YB _ gr ha,ZbO _ nl hb] hfr hk hok Y4 hn hd gy,ZvY.v i fr (Qx fr 17) gr l Zw (ZE l (ZG l)).1 (ZE l (ZG l)).2 4096 256 4 V0 _ z2 f2 nl ha hb,by simp only[hV,p1,p2,v1,v2,u1,u2,Zx,Zp,beq_self_eq_true,Bool.and_self,Bool.not_true,Bool.not_false,cond_true,and_true,true_and,and_self,Nat.le_refl]⟩
    ·have hp:=hg.pc hV
     have hb0:=QC (n0:=74) [YB _ gr ha,ZbO _ nl hb] hfr hk hok hp.1 hn hd gy
     rw[hp.2] at hb0
     exact⟨_,_,_,hb0,ZvW.v i fr (Qx fr 17) gr l Zw (ZE l (ZG l)).1 (ZE l (ZG l)).2 4096 256 4 z2 f2 nl ha hb,by simp only[hV,p1,p2,v1,v2,u1,u2,Zx,Zp,beq_self_eq_true,Bool.and_self,Bool.not_true,Bool.not_false,cond_true,and_true,true_and,and_self,Nat.le_refl]⟩
   ·cases hV:(gr 16).V
    ·exact⟨_,_,_,QC [YB _ gr ha,ZbO _ nl hb] hfr hk hok Y4 hn hd gy,Zv8.v i fr (Qx fr 17) gr l Zw (ZE l (ZG l)).1 (ZE l (ZG l)).2 4096 256 4 V0 _ z2 f2 nl ha hb,by simp only[hV,p1,p2,v1,v2,u1,u2,Zx,Zp,beq_self_eq_true,Bool.and_self,Bool.not_true,Bool.not_false,cond_true,and_true,true_and,and_self,Nat.le_refl]⟩
    ·have hp:=hg.pc hV
     have hb0:=QC (n0:=74) [YB _ gr ha,ZbO _ nl hb] hfr hk hok hp.1 hn hd gy
     rw[hp.2] at hb0
     exact⟨_,_,_,hb0,Zv6.v i fr (Qx fr 17) gr l Zw (ZE l (ZG l)).1 (ZE l (ZG l)).2 4096 256 4 z2 f2 nl ha hb,by simp only[hV,p1,p2,v1,v2,u1,u2,Zx,Zp,beq_self_eq_true,Bool.and_self,Bool.not_true,Bool.not_false,cond_true,and_true,true_and,and_self,Nat.le_refl]⟩
 | cons x ml2 =>
  have hy:=hhy _ rfl (by simp)
  generalize x::ml2=ml at *
  cases nl with
  | nil =>
   have gn:=ghn rfl
   rcases VJ hk with rfl|rfl|rfl
   ·cases hV:(gr 16).V
    ·exact⟨_,_,_,QC [YC _ gr ml ha] hfr hk hok Y4 hy hd gn,ZvS.v i fr (Qx fr 17) gr l Zw (ZE l (ZG l)).1 (ZE l (ZG l)).2 4096 256 4 ml V0 _ z2 f2 ha,by simp only[hV,p1,p2,v1,v2,u1,u2,Zx,Zp,beq_self_eq_true,Bool.and_self,Bool.not_true,Bool.not_false,cond_true,and_true,true_and,and_self,Nat.le_refl]⟩
    ·have hp:=hg.pc hV
     have hb0:=QC (n0:=75) [YC _ gr ml ha] hfr hk hok hp.1 hy hd gn
     rw[hp.2] at hb0
     exact⟨_,_,_,hb0,ZvQ.v i fr (Qx fr 17) gr l Zw (ZE l (ZG l)).1 (ZE l (ZG l)).2 4096 256 4 ml z2 f2 ha,by simp only[hV,p1,p2,v1,v2,u1,u2,Zx,Zp,beq_self_eq_true,Bool.and_self,Bool.not_true,Bool.not_false,cond_true,and_true,true_and,and_self,Nat.le_refl]⟩
   ·cases hV:(gr 16).V
    ·exact⟨_,_,_,QC [YC _ gr ml ha] hfr hk hok Y4 hy hd gn,Zv2.v i fr (Qx fr 17) gr l Zw (ZE l (ZG l)).1 (ZE l (ZG l)).2 4096 256 4 ml V0 _ z2 f2 ha,by simp only[hV,p1,p2,v1,v2,u1,u2,Zx,Zp,beq_self_eq_true,Bool.and_self,Bool.not_true,Bool.not_false,cond_true,and_true,true_and,and_self,Nat.le_refl]⟩
    ·have hp:=hg.pc hV
     have hb0:=QC (n0:=75) [YC _ gr ml ha] hfr hk hok hp.1 hy hd gn
     rw[hp.2] at hb0
     exact⟨_,_,_,hb0,Zv0.v i fr (Qx fr 17) gr l Zw (ZE l (ZG l)).1 (ZE l (ZG l)).2 4096 256 4 ml z2 f2 ha,by simp only[hV,p1,p2,v1,v2,u1,u2,Zx,Zp,beq_self_eq_true,Bool.and_self,Bool.not_true,Bool.not_false,cond_true,and_true,true_and,and_self,Nat.le_refl]⟩
   ·cases hV:(gr 16).V
    ·exact⟨_,_,_,QC [YC _ gr ml ha] hfr hk hok Y4 hy hd gn,Zwc.v i fr (Qx fr 17) gr l Zw (ZE l (ZG l)).1 (ZE l (ZG l)).2 4096 256 4 ml V0 _ z2 f2 ha,by simp only[hV,p1,p2,v1,v2,u1,u2,Zx,Zp,beq_self_eq_true,Bool.and_self,Bool.not_true,Bool.not_false,cond_true,and_true,true_and,and_self,Nat.le_refl]⟩
    ·have hp:=hg.pc hV
     have hb0:=QC (n0:=75) [YC _ gr ml ha] hfr hk hok hp.1 hy hd gn
     rw[hp.2] at hb0
     exact⟨_,_,_,hb0,Zwa.v i fr (Qx fr 17) gr l Zw (ZE l (ZG l)).1 (ZE l (ZG l)).2 4096 256 4 ml z2 f2 ha,by simp only[hV,p1,p2,v1,v2,u1,u2,Zx,Zp,beq_self_eq_true,Bool.and_self,Bool.not_true,Bool.not_false,cond_true,and_true,true_and,and_self,Nat.le_refl]⟩
  | cons y nl2 =>
   have gy:=ghy _ rfl (by simp)
   generalize y::nl2=nl at *
   rcases VJ hk with rfl|rfl|rfl
   ·cases hV:(gr 16).V
    ·exact⟨_,_,_,QC [YC _ gr ml ha,WR _ ml nl hb] hfr hk hok Y4 hy hd gy,ZvT.v i fr (Qx fr 17) gr l Zw (ZE l (ZG l)).1 (ZE l (ZG l)).2 4096 256 4 ml V0 _ z2 f2 nl ha hb,by simp only[hV,p1,p2,v1,v2,u1,u2,Zx,Zp,beq_self_eq_true,Bool.and_self,Bool.not_true,Bool.not_false,cond_true,and_true,true_and,and_self,Nat.le_refl]⟩
    ·have hp:=hg.pc hV
     have hb0:=QC (n0:=75) [YC _ gr ml ha,WR _ ml nl hb] hfr hk hok hp.1 hy hd gy
     rw[hp.2] at hb0
     exact⟨_,_,_,hb0,ZvR.v i fr (Qx fr 17) gr l Zw (ZE l (ZG l)).1 (ZE l (ZG l)).2 4096 256 4 ml z2 f2 nl ha hb,by simp only[hV,p1,p2,v1,v2,u1,u2,Zx,Zp,beq_self_eq_true,Bool.and_self,Bool.not_true,Bool.not_false,cond_true,and_true,true_and,and_self,Nat.le_refl]⟩
   ·cases hV:(gr 16).V
    ·exact⟨_,_,_,QC [YC _ gr ml ha,WR _ ml nl hb] hfr hk hok Y4 hy hd gy,Zv3.v i fr (Qx fr 17) gr l Zw (ZE l (ZG l)).1 (ZE l (ZG l)).2 4096 256 4 ml V0 _ z2 f2 nl ha hb,by simp only[hV,p1,p2,v1,v2,u1,u2,Zx,Zp,beq_self_eq_true,Bool.and_self,Bool.not_true,Bool.not_false,cond_true,and_true,true_and,and_self,Nat.le_refl]⟩
    ·have hp:=hg.pc hV
     have hb0:=QC (n0:=75) [YC _ gr ml ha,WR _ ml nl hb] hfr hk hok hp.1 hy hd gy
     rw[hp.2] at hb0
     exact⟨_,_,_,hb0,Zv1.v i fr (Qx fr 17) gr l Zw (ZE l (ZG l)).1 (ZE l (ZG l)).2 4096 256 4 ml z2 f2 nl ha hb,by simp only[hV,p1,p2,v1,v2,u1,u2,Zx,Zp,beq_self_eq_true,Bool.and_self,Bool.not_true,Bool.not_false,cond_true,and_true,true_and,and_self,Nat.le_refl]⟩
   ·cases hV:(gr 16).V
    ·exact⟨_,_,_,QC [YC _ gr ml ha,WR _ ml nl hb] hfr hk hok Y4 hy hd gy,Zwd.v i fr (Qx fr 17) gr l Zw (ZE l (ZG l)).1 (ZE l (ZG l)).2 4096 256 4 ml V0 _ z2 f2 nl ha hb,by simp only[hV,p1,p2,v1,v2,u1,u2,Zx,Zp,beq_self_eq_true,Bool.and_self,Bool.not_true,Bool.not_false,cond_true,and_true,true_and,and_self,Nat.le_refl]⟩
    ·have hp:=hg.pc hV
     have hb0:=QC (n0:=75) [YC _ gr ml ha,WR _ ml nl hb] hfr hk hok hp.1 hy hd gy
     rw[hp.2] at hb0
     exact⟨_,_,_,hb0,Zwb.v i fr (Qx fr 17) gr l Zw (ZE l (ZG l)).1 (ZE l (ZG l)).2 4096 256 4 ml z2 f2 nl ha hb,by simp only[hV,p1,p2,v1,v2,u1,u2,Zx,Zp,beq_self_eq_true,Bool.and_self,Bool.not_true,Bool.not_false,cond_true,and_true,true_and,and_self,Nat.le_refl]⟩
theorem Zka {op:Int} (h:0<WK op):op=17∨op=18∨op=19∨op=20∨op=21∨op=22∨op=23∨op=24:=by
 unfold WK at h
 split at h
 ·omega
 ·split at h
  ·omega
  ·split at h
   ·omega
   ·split at h
    ·omega
    ·omega
theorem Zp9 (fr:Nat→Cp) (hfr:Wc fr) (i:In) (k:Nat) (l:List Pt) (hk:ZfA k l.length) (hok:∀ x∈l,x.Ok):ZtD fr i k l:=by
 have har:=Zj4 l (ZG l)
 have hf1:=ZhN hfr 17
 cases hm:J6 i
 ·exact ZD7 fr i k l hfr hk hok 6 (ZCY _ i _ _ 4096 256 4 hf1 hm) (by decide)
 obtain⟨r1,r2,r3,r4,r5,r6,_,_⟩:=Zlr hm
 obtain⟨op,a,b,c,m⟩:=i
 simp only at r1 r2 r3 r4 r5 r6
 obtain⟨a,rfl⟩:=Int.eq_ofNat_of_zero_le r1
 obtain⟨b,rfl⟩:=Int.eq_ofNat_of_zero_le r3
 obtain⟨c,rfl⟩:=Int.eq_ofNat_of_zero_le r5
 have a0:a<16:=by omega
 have b0:b<16:=by omega
 have c0:c<16:=by omega
 have b6:b≤16:=by omega
 change J6 (inS op a b c m)=true at hm
 show ZtD fr (inS op a b c m) k l
 by_cases k53:op=53
 ·subst k53; exact ZD7 fr _ k l hfr hk hok 6 (Zsz _ a b c m _ _ 4096 256 4 hf1 hm) (by decide)
 by_cases k50:op=50
 ·subst k50; exact ZtJ fr _ _ k l hfr hk hok (ZcY hf1 _) (Zly _ a b c m _ _ 4096 256 4 hf1 hm)
 by_cases k51:op=51
 ·subst k51; exact ZtJ fr _ _ k l hfr hk hok (ZcY hf1 _) (Zlz _ a b c m _ _ 4096 256 4 hf1 hm)
 by_cases k52:op=52
 ·subst k52; exact ZtJ fr _ _ k l hfr hk hok (ZcY hf1 _) (ZlA _ a b c m _ _ 4096 256 4 hf1 hm)
 by_cases k29:op=29
 ·subst k29; exact ZtJ fr _ _ k l hfr hk hok (Ji (Ji (KJ hf1 _) a (ZfD hf1 1)) 16 (ZfD hf1 m)) (ZwX _ a b c m _ _ 4096 256 4 hf1 a0 hm)
 by_cases k30:op=30
 ·subst k30
  by_cases ht:Zbg (Qx fr 17 b) 4=0
  ·exact ZtJ fr _ _ k l hfr hk hok (Ji (Ji (KJ hf1 _) a (ZfD hf1 1)) 16 (Zfd hf1 b6)) (ZsA _ a b c m _ _ 4096 256 4 hf1 a0 b0 hm ht)
  ·exact ZD7 fr _ k l hfr hk hok _ (ZsB _ a b c m _ _ 4096 256 4 hf1 a0 b0 hm ht) ht
 by_cases hw:WK op=0
 ·cases hi:tkI op
  ·cases hj:rkI op
   ·exact ZtJ fr _ _ k l hfr hk hok (Ji (KJ hf1 _) a (ZAs hf1 op b c m b0 c0)) (Zw4 _ op a b c m _ _ 4096 256 4 hf1 a0 b0 c0 hm k53 k50 k51 k52 k29 k30 hw hi hj)
   ·by_cases ht:rkT op (Qx fr 17 c).C=0
    ·exact ZtJ fr _ _ k l hfr hk hok (Ji (KJ hf1 _) a ZcG) (Zw2 _ op a b c m _ _ 4096 256 4 hf1 a0 b0 c0 hm k53 k50 k51 k52 k29 k30 hw hi hj ht)
    ·exact ZD7 fr _ k l hfr hk hok _ (Zw3 _ op a b c m _ _ 4096 256 4 hf1 a0 b0 c0 hm k53 k50 k51 k52 k29 k30 hw hi hj ht) ht
  ·cases hkk:tkS op (Qx fr 17 a).C (Qx fr 17 b).C
   ·exact ZtJ fr _ _ k l hfr hk hok (KJ hf1 _) (Zw1 _ op a b c m _ _ 4096 256 4 hf1 a0 b0 hm k53 k50 k51 k52 k29 k30 hw hi hkk)
   ·exact ZtJ fr _ _ k l hfr hk hok (Ji (KJ hf1 _) 16 (ZfD hf1 m)) (Zw0 _ op a b c m _ _ 4096 256 4 hf1 a0 b0 hm k53 k50 k51 k52 k29 k30 hw hi hkk)
 have hw:0<WK op:=by omega
 have hsn:=fun(hV:(Qx fr 17 a).V=true)=>Zp2 (fr:=fr) (k:=a) (by omega) hV
 have hT:=fun(hmv:ConOk Tryz.prog 37 3 (VF (Qx fr 17) (inS op a b c m) V0 (XU (Qx fr 17) op a b m 4096) (ZE l (ZG l)).1 (ZE l (ZG l)).2 4096 256 4)∧FlatC (VF (Qx fr 17) (inS op a b c m) V0 (XU (Qx fr 17) op a b m 4096) (ZE l (ZG l)).1 (ZE l (ZG l)).2 4096 256 4)) (ht:XU (Qx fr 17) op a b m 4096≠0) =>
  ZD7 fr _ k l hfr hk hok _ (ZwY (Qx fr 17) op a b c m _ _ 4096 256 4 hf1 a0 hm k53 k50 k51 k52 k29 k30 hw _ _ hmv ht) ht
 have hO:=fun(r:Cp) (hg:Za0 (Qx fr 17) (QB (ZE l (ZG l)).1 (ZE l (ZG l)).2 16) (frS (WE (Qx fr 17)) a r)) (hmv:ConOk Tryz.prog 37 3 (VF (Qx fr 17) (inS op a b c m) r 0 (ZE l (ZG l)).1 (ZE l (ZG l)).2 4096 256 4)∧FlatC (VF (Qx fr 17) (inS op a b c m) r 0 (ZE l (ZG l)).1 (ZE l (ZG l)).2 4096 256 4)) =>
  ZtJ fr _ _ k l hfr hk hok hg (ZwZ (Qx fr 17) op a b c m _ _ 4096 256 4 hf1 a0 hm k53 k50 k51 k52 k29 k30 hw r hmv)
 have hS:=fun(zs2:List UInt8) (f2:Nat→Bool) (h2:ArOk zs2 4096 256 4) (hc:∀ c∈QB zs2 f2 16,VI c (Qx fr 17) (QB (ZE l (ZG l)).1 (ZE l (ZG l)).2 16)=true)
   (hmv:ConOk Tryz.prog 37 3 (ZjW (mvA (Qx fr 17) (inS op a b c m)) (.tuple ⟨[((Qx fr 17) a).val,.int .i64 0]⟩) (ZE l (ZG l)).1 zs2 (ZE l (ZG l)).2 f2 4096 256 4)∧FlatC (ZjW (mvA (Qx fr 17) (inS op a b c m)) (.tuple ⟨[((Qx fr 17) a).val,.int .i64 0]⟩) (ZE l (ZG l)).1 zs2 (ZE l (ZG l)).2 f2 4096 256 4)) =>
  no_w fr _ _ k l zs2 f2 hfr hk hok (Ji (KJ hf1 _) a (Zfd hf1 (by omega))) h2 hc (Zw5 (Qx fr 17) op a b c m _ _ 4096 256 4 hf1 a0 hm k53 k50 k51 k52 k29 k30 hw ((Qx fr 17) a) zs2 f2 hmv)
 have hlen:∀ (i:Nat) (bs:List UInt8),i+bs.length≤4096→ArOk (Xc i bs (ZE l (ZG l)).1) 4096 256 4:=fun i bs hi=>⟨by rw[Zbc _ _ _ (by rw[har.len]; exact hi),har.len],har.tags,har.words,har.few,har.big⟩
 have hst:∀ (i:Nat) (bs:List UInt8),i+bs.length≤4096→i%16+bs.length≤16→∀ c∈QB (Xc i bs (ZE l (ZG l)).1) (Yu (ZE l (ZG l)).2 (i/16) false) 16,VI c (Qx fr 17) (QB (ZE l (ZG l)).1 (ZE l (ZG l)).2 16)=true:=fun i bs h1 h2 c hc=>Zgw (Zp3 har.len h1 h2 hc) (Zfc c)
 by_cases ht:XU (Qx fr 17) op a b m 4096=0
 ·obtain⟨hin,hal,_⟩:=Zcr (show ZhU ((Qx fr 17) b) (atS (Qx fr 17) b m) (WK op) (Kw (Qx fr 17) op a) 4096=0 from ht)
  have hN:=fun(v:Nat)=>Ji (KJ hf1 (QB (ZE l (ZG l)).1 (ZE l (ZG l)).2 16)) a (c:=Zff v) ZcG
  rcases Zka hw with rfl|rfl|rfl|rfl|rfl|rfl|rfl|rfl
  ·exact hO _ (hN _) (Zpg (Qx fr 17) 17 a b c m _ _ 4096 256 4 har hf1 a0 b0 (by omega) (by omega) (by omega) (by omega) hw (by omega) (by decide) ht)
  ·exact hO _ (hN _) (Zpg (Qx fr 17) 18 a b c m _ _ 4096 256 4 har hf1 a0 b0 (by omega) (by omega) (by omega) (by omega) hw (by omega) (by decide) ht)
  ·exact hO _ (hN _) (Zpg (Qx fr 17) 19 a b c m _ _ 4096 256 4 har hf1 a0 b0 (by omega) (by omega) (by omega) (by omega) hw (by omega) (by decide) ht)
  ·have hin:atS (Qx fr 17) b m+1≤4096:=hin
   exact hS _ _ (hlen _ _ (by rw[Y1]; exact hin)) (hst _ _ (by rw[Y1]; exact hin) (by rw[Y1]; omega)) (ZwP (Qx fr 17) a b c m _ _ 4096 256 4 har hf1 a0 b0 ht)
  ·have hin:atS (Qx fr 17) b m+2≤4096:=hin
   have hal:atS (Qx fr 17) b m%2=0:=hal
   exact hS _ _ (hlen _ _ (by rw[Y1]; exact hin)) (hst _ _ (by rw[Y1]; exact hin) (by rw[Y1]; omega)) (ZwQ (Qx fr 17) a b c m _ _ 4096 256 4 har hf1 a0 b0 ht)
  ·have hin:atS (Qx fr 17) b m+4≤4096:=hin
   have hal:atS (Qx fr 17) b m%4=0:=hal
   exact hS _ _ (hlen _ _ (by rw[Y1]; exact hin)) (hst _ _ (by rw[Y1]; exact hin) (by rw[Y1]; omega)) (ZwR (Qx fr 17) a b c m _ _ 4096 256 4 har hf1 a0 b0 ht)
  ·have hin:atS (Qx fr 17) b m+16≤4096:=hin
   have hal:atS (Qx fr 17) b m%16=0:=hal
   exact hO _ (Zwh (KJ hf1 _) a a0 (Zwj hal hin)) (ZCl (Qx fr 17) a b c m _ _ 4096 256 4 har hf1 a0 b0 _ (Zj2 _ _ _ 4096 256 4 har hal hin) ht)
  ·have hin:atS (Qx fr 17) b m+16≤4096:=hin
   have hal:atS (Qx fr 17) b m%16=0:=hal
   cases hV:((Qx fr 17) a).V
   ·have hmv:=ZCn (Qx fr 17) a b c m (ZE l (ZG l)).1 (ZE l (ZG l)).2 4096 256 4 har hf1 a0 b0 hV ht
    rw[hV,Bool.false_and] at hmv
    exact hS _ _ (hlen _ _ (by rw[Ko]; exact hin)) (hst _ _ (by rw[Ko]; exact hin) (by rw[Ko]; omega)) hmv
   ·refine hS _ _ (hlen _ _ (by rw[Ko]; exact hin)) (fun x hx => ?_) (ZCm (Qx fr 17) a b c m _ _ 4096 256 4 har hf1 a0 b0 hV ht)
    rcases Zwi har.len hin hal (hf1 a) hx with h|⟨h,rfl⟩
    ·exact Zgw h (Zfc x)
    ·exact Zj5 (Zfd hf1 (by omega) h).2
 ·rcases Zka hw with rfl|rfl|rfl|rfl|rfl|rfl|rfl|rfl
  ·exact hT (Zll (Qx fr 17) 17 a b c m _ _ 4096 256 4 har hf1 a0 b0 (by omega) (by omega) (by omega) (by omega) hw ht) ht
  ·exact hT (Zll (Qx fr 17) 18 a b c m _ _ 4096 256 4 har hf1 a0 b0 (by omega) (by omega) (by omega) (by omega) hw ht) ht
  ·exact hT (Zll (Qx fr 17) 19 a b c m _ _ 4096 256 4 har hf1 a0 b0 (by omega) (by omega) (by omega) (by omega) hw ht) ht
  ·exact hT (ZwM (Qx fr 17) a b c m _ _ 4096 256 4 har hf1 a0 b0 ht) ht
  ·exact hT (ZwN (Qx fr 17) a b c m _ _ 4096 256 4 har hf1 a0 b0 ht) ht
  ·exact hT (ZwO (Qx fr 17) a b c m _ _ 4096 256 4 har hf1 a0 b0 ht) ht
  ·exact hT (Zll (Qx fr 17) 23 a b c m _ _ 4096 256 4 har hf1 a0 b0 (by omega) (by omega) (by omega) (by omega) hw ht) ht
  ·cases hV:((Qx fr 17) a).V
   ·exact hT (ZCk (Qx fr 17) a b c m _ _ 4096 256 4 har hf1 a0 b0 hV ht) ht
   ·exact hT (ZCj (Qx fr 17) a b c m _ _ 4096 256 4 har hf1 a0 b0 hV ht) ht
end Go.Proofs.YtagacmljbgkmoaaGreatDoor
namespace Go.Proofs.YtagacmljbgkmoaaGreatDoor
open Go.IntKind (u8 u16 u32 u64 i64)
open Go.ChangeShapes Go.WideShapes Go.Deep Go.RowKit
open Sy
set_option maxRecDepth 100000
structure S1Is (W:World) (v:Value) (k:Nat) (cells:List Value) (n B O C:Nat) (S:Option Nat):Prop where
 is:v=(match k with|0 => .slice none 0 0|1 => .slice (some ⟨B,O,S⟩) 0 C|_ => .slice (some ⟨B,O,none⟩) n C)
 ok:ZfA k n
 le:n≤C
 at_:2≤k→∃ arr ty fr,W.heap[B]? = some (.cells arr ty fr)∧O+cells.length≤arr.size∧∀ j v,cells[j]? = some v→arr[O+j]? = some v
section
variable {H:Type} {enc:TypeId×Value→H} {W:World} {base:Nat} {spare:Nat→Bool} {held:Bool}
theorem Zxf {a:Addr} {v:Value} (h:W.cell? a=some v):∃ arr ty fr,W.heap[a.block]? = some (.cells arr ty fr)∧arr[a.off]? = some v∧a.spot=none:=by
 have hs:=World.cell?_spot h
 unfold World.cell? at h
 split at h
 ·rename_i c t f hb
  rw[hs] at h
  exact⟨c,t,f,hb,by simpa using h,hs⟩
 ·cases h
theorem ZGr {a:Addr} (h:a.spot=none) (i:Nat):(a.add i).block=a.block∧(a.add i).off=a.off+i:=by
 obtain⟨b,o,s⟩:=a
 subst h
 unfold Addr.add
 split<;>simp_all
theorem ZGs {a:Addr} {cells:List Value} (h0:0<cells.length) (h:∀ i v,cells[i]? = some v→W.cell? (a.add i)=some v):a.spot=none∧∃ arr ty fr,W.heap[a.block]? = some (.cells arr ty fr)∧a.off+cells.length≤arr.size∧∀ j v,cells[j]? = some v→arr[a.off+j]? = some v:=by
 have h1:=h 0 _ (List.getElem?_eq_getElem h0)
 rw[show a.add 0=a by unfold Addr.add; simp] at h1
 obtain⟨arr,ty,fr,q1,q2,q3⟩:=Zxf h1
 have hat:∀ j v,cells[j]? = some v→arr[a.off+j]? = some v:=fun j v hj=>by
  obtain⟨arr',ty',fr',p1,p2,_⟩:=Zxf (h j v hj)
  obtain⟨e1,e2⟩:=ZGr q3 j
  rw[e1,q1] at p1
  cases p1
  rw[e2] at p2
  exact p2
 refine⟨q3,arr,ty,fr,q1,?_,hat⟩
 have:=hat (cells.length-1) _ (List.getElem?_eq_getElem (by omega))
 have:=(Array.getElem?_eq_some_iff.1 this).1
 omega
theorem ZAO {n:Nat} {u:Value} {y} (h:DataW.trod enc Tryz.prog W base spare held n 22 [u]=some y):∃ a:Nat,u = .int .u32 a∧a<4294967296:=by
 obtain⟨a,e,_,hw⟩:=DataW.trod_int Tryz.underlying22 h
 simp at e; subst e
 have b:=ZCo hw
 obtain⟨a,rfl⟩:=Int.eq_ofNat_of_zero_le b.1
 exact⟨a,rfl,by omega⟩
theorem ZtE {n:Nat} {u:Value} {y} (h:DataW.trod enc Tryz.prog W base spare held n 28 [u]=some y):∃ a:Nat,u = .int .u16 a∧a<65536:=by
 obtain⟨a,e,_,hw⟩:=DataW.trod_int Tryz.underlying28 h
 simp at e; subst e
 have b:=ZCp hw
 obtain⟨a,rfl⟩:=Int.eq_ofNat_of_zero_le b.1
 exact⟨a,rfl,by omega⟩
theorem k_u8 {n:Nat} {u:Value} {y} (h:DataW.trod enc Tryz.prog W base spare held n 5 [u]=some y):∃ a:Nat,u = .int .u8 a∧a<256:=by
 obtain⟨a,e,_,hw⟩:=DataW.trod_int Tryz.underlying5 h
 simp at e; subst e
 have b:=ZEP hw
 obtain⟨a,rfl⟩:=Int.eq_ofNat_of_zero_le b.1
 exact⟨a,rfl,by omega⟩
theorem ZtF {n:Nat} {u:Value} {y} (h:DataW.trod enc Tryz.prog W base spare held n 3 [u]=some y):∃ a:Int,u = .int .i64 a:=by
 obtain⟨a,e,_,hw⟩:=DataW.trod_int Tryz.underlying3 h
 simp at e; subst e
 exact⟨a,rfl⟩
theorem Zxg {n:Nat} {u:Value} {y} (h:DataW.trod enc Tryz.prog W base spare held n 4 [u]=some y):∃ a:Bool,u = .bool a:=by
 obtain⟨a,e,_⟩:=DataW.trod_bool Tryz.underlying4 h
 simp at e; subst e
 exact⟨a,rfl⟩
theorem ZAP {fuel:Nat} {cs:List Value} {x} (h:DataW.trod enc Tryz.prog W base spare held fuel 30 cs=some x) (hl:cs.length=8):∃ c:Cp,cs=c.cs∧c.Ok:=by
 obtain⟨xs,n,_,_,_,hlen,hg⟩:=DataW.trod_struct Tryz.underlying30 h
 match cs,hl with
 | [u0,u1,u2,u3,u4,u5,u6,u7],_ =>
  have hx:∀ j,j<8→∃ y,xs[j]? = some y:=fun j hj=>⟨xs[j]'(by simp at hlen; omega),List.getElem?_eq_getElem _⟩
  obtain⟨y0,e0⟩:=hx 0 (by omega)
  obtain⟨y1,e1⟩:=hx 1 (by omega)
  obtain⟨y2,e2⟩:=hx 2 (by omega)
  obtain⟨y3,e3⟩:=hx 3 (by omega)
  obtain⟨y4,e4⟩:=hx 4 (by omega)
  obtain⟨y5,e5⟩:=hx 5 (by omega)
  obtain⟨y6,e6⟩:=hx 6 (by omega)
  obtain⟨y7,e7⟩:=hx 7 (by omega)
  have t0:=(hg 0 _ rfl).trans e0
  have t1:=(hg 1 _ rfl).trans e1
  have t2:=(hg 2 _ rfl).trans e2
  have t3:=(hg 3 _ rfl).trans e3
  have t4:=(hg 4 _ rfl).trans e4
  have t5:=(hg 5 _ rfl).trans e5
  have t6:=(hg 6 _ rfl).trans e6
  have t7:=(hg 7 _ rfl).trans e7
  have c22:Tryz.prog.cellsOf 22=1:=by kernel_rfl
  have c23:Tryz.prog.cellsOf 28=1:=by kernel_rfl
  have c24:Tryz.prog.cellsOf 5=1:=by kernel_rfl
  have c25:Tryz.prog.cellsOf 4=1:=by kernel_rfl
  replace t0:DataW.trod enc Tryz.prog W base spare held n 22 [u0]=some y0:=by simpa [c22,c23,c24,c25] using t0
  replace t1:DataW.trod enc Tryz.prog W base spare held n 5 [u1]=some y1:=by simpa [c22,c23,c24,c25] using t1
  replace t2:DataW.trod enc Tryz.prog W base spare held n 28 [u2]=some y2:=by simpa [c22,c23,c24,c25] using t2
  replace t3:DataW.trod enc Tryz.prog W base spare held n 28 [u3]=some y3:=by simpa [c22,c23,c24,c25] using t3
  replace t4:DataW.trod enc Tryz.prog W base spare held n 28 [u4]=some y4:=by simpa [c22,c23,c24,c25] using t4
  replace t5:DataW.trod enc Tryz.prog W base spare held n 28 [u5]=some y5:=by simpa [c22,c23,c24,c25] using t5
  replace t6:DataW.trod enc Tryz.prog W base spare held n 22 [u6]=some y6:=by simpa [c22,c23,c24,c25] using t6
  replace t7:DataW.trod enc Tryz.prog W base spare held n 4 [u7]=some y7:=by simpa [c22,c23,c24,c25] using t7
  obtain⟨cC,rfl,b0⟩:=ZAO t0
  obtain⟨cE,rfl,b1⟩:=k_u8 t1
  obtain⟨cB,rfl,b2⟩:=ZtE t2
  obtain⟨cT,rfl,b3⟩:=ZtE t3
  obtain⟨cP,rfl,b4⟩:=ZtE t4
  obtain⟨cY,rfl,b5⟩:=ZtE t5
  obtain⟨cR,rfl,b6⟩:=ZAO t6
  obtain⟨cV,rfl⟩:=Zxg t7
  exact⟨⟨cC,cE,cB,cT,cP,cY,cR,cV⟩,rfl,⟨b0,b1,b2,b3,b4,b5,b6⟩⟩
theorem ZGt {fuel:Nat} {cs:List Value} {x} (h:DataW.trod enc Tryz.prog W base spare held fuel 90 cs=some x) (hl:cs.length=11):∃ y:Pt,cs=y.cs∧y.Ok:=by
 obtain⟨xs,n,_,_,_,hlen,hg⟩:=DataW.trod_struct Tryz.underlying90 h
 match cs,hl with
 | [z0,z1,z2,z3,z4,z5,z6,z7,z8,z9,z10],_ =>
  have hx:∀ j,j<4→∃ y,xs[j]? = some y:=fun j hj=>⟨xs[j]'(by simp at hlen; omega),List.getElem?_eq_getElem _⟩
  obtain⟨y0,e0⟩:=hx 0 (by omega)
  obtain⟨y1,e1⟩:=hx 1 (by omega)
  obtain⟨y2,e2⟩:=hx 2 (by omega)
  obtain⟨y3,e3⟩:=hx 3 (by omega)
  have t0:=(hg 0 _ rfl).trans e0
  have t1:=(hg 1 _ rfl).trans e1
  have t2:=(hg 2 _ rfl).trans e2
  have t3:=(hg 3 _ rfl).trans e3
  have c22:Tryz.prog.cellsOf 22=1:=by kernel_rfl
  have c23:Tryz.prog.cellsOf 28=1:=by kernel_rfl
  have c24:Tryz.prog.cellsOf 4=1:=by kernel_rfl
  have c25:Tryz.prog.cellsOf 30=8:=by kernel_rfl
  replace t0:DataW.trod enc Tryz.prog W base spare held n 28 [z0]=some y0:=by simpa [c22,c23,c24,c25] using t0
  replace t1:DataW.trod enc Tryz.prog W base spare held n 4 [z1]=some y1:=by simpa [c22,c23,c24,c25] using t1
  replace t2:DataW.trod enc Tryz.prog W base spare held n 22 [z2]=some y2:=by simpa [c22,c23,c24,c25] using t2
  replace t3:DataW.trod enc Tryz.prog W base spare held n 30 [z3,z4,z5,z6,z7,z8,z9,z10]=some y3:=by simpa [c22,c23,c24,c25] using t3
  obtain⟨a,rfl,b0⟩:=ZtE t0
  obtain⟨w,rfl⟩:=Zxg t1
  obtain⟨v,rfl,b2⟩:=ZAO t2
  obtain⟨c,he,hc⟩:=ZAP t3 rfl
  exact⟨⟨a,w,v,c⟩,by rw[he]; rfl,b0,b2,hc⟩
theorem Zxh (fr:Nat→Cp):∀ (n k:Nat) (cs:List Value),cs.length=8*n→(∀ j,j<n→(cs.drop (8*j)).take 8=(fr (k+j)).cs)→cs=frK fr k n
 | 0,_,cs,h,_=>List.length_eq_zero_iff.1 (by omega)
 | n+1,k,cs,h,hj=>by
  have h0:=hj 0 (by omega)
  rw[Nat.mul_zero,List.drop_zero,Nat.add_zero] at h0
  have h1:=Zxh fr n (k+1) (cs.drop 8) (by rw[List.length_drop]; omega) (fun j hjn=>by
   have:=hj (j+1) (by omega)
   rw[List.drop_drop,show 8+8*j=8*(j+1) by omega,this,show k+1+j=k+(j+1) by omega])
  show cs=(fr k).cs++frK fr (k+1) n
  rw[← h0,← h1,List.take_append_drop]
theorem ZAQ {fuel:Nat} {cs:List Value} {x} (h:DataW.trod enc Tryz.prog W base spare held fuel 33 cs=some x) (hl:cs.length=136):∃ fr:Nat→Cp,cs=frL fr∧Wc fr:=by
 obtain⟨xs,n,_,_,_,hlen,hg⟩:=DataW.trod_struct Tryz.underlying33 h
 have hx:∀ j,j<2→∃ y,xs[j]? = some y:=fun j hj=>⟨xs[j]'(by simp at hlen; omega),List.getElem?_eq_getElem _⟩
 obtain⟨y0,e0⟩:=hx 0 (by omega)
 obtain⟨y1,e1⟩:=hx 1 (by omega)
 have t0:=(hg 0 _ rfl).trans e0
 have t1:=(hg 1 _ rfl).trans e1
 have c25:Tryz.prog.cellsOf 30=8:=by kernel_rfl
 have c26:Tryz.prog.cellsOf 31=128:=by kernel_rfl
 replace t0:DataW.trod enc Tryz.prog W base spare held n 31 (cs.take 128)=some y0:=by simpa [c25,c26] using t0
 replace t1:DataW.trod enc Tryz.prog W base spare held n 30 ((cs.drop 128).take 8)=some y1:=by simpa [c25,c26] using t1
 obtain⟨zs,m,_,_,_,hzl,hzg⟩:=DataW.trod_array Tryz.underlying31 t0
 have hk:∀ j,j<17→∃ c:Cp,(cs.drop (8*j)).take 8=c.cs∧c.Ok:=fun j hj=>by
  by_cases h16:j<16
  ·have:=hzg j h16
   rw[c25] at this
   have e:((cs.take 128).drop (j*8)).take 8=(cs.drop (8*j)).take 8:=by
    rw[List.drop_take,List.take_take,Nat.mul_comm,Nat.min_eq_left (by omega)]
   rw[e,List.getElem?_eq_getElem (by omega:j<zs.length)] at this
   exact ZAP this (by rw[List.length_take,List.length_drop,hl]; omega)
  ·have hj16:j=16:=by omega
   subst hj16
   exact ZAP t1 (by rw[List.length_take,List.length_drop,hl]; rfl)
 have hfr:∃ fr:Nat→Cp,∀ j,j<17→(cs.drop (8*j)).take 8=(fr j).cs∧(fr j).Ok:=⟨fun j=>if h:j<17 then Classical.choose (hk j h) else V0,fun j hj=>by
  have:=Classical.choose_spec (hk j hj)
  simp only[hj,dif_pos]
  exact this⟩
 obtain⟨fr,hfr⟩:=hfr
 refine⟨fun j=>if j<17 then fr j else V0,?_,fun j => ?_⟩
 ·rw[Zex]
  refine Zxh _ 17 0 cs (by rw[hl]) (fun j hj => ?_)
  rw[Nat.zero_add,if_pos hj]
  exact(hfr j hj).1
 ·show(if j<17 then fr j else V0).Ok
  split
  ·rename_i hj; exact(hfr j hj).2
  ·exact⟨by decide,by decide,by decide,by decide,by decide,by decide,by decide⟩
theorem ZAR {fuel:Nat} {cs:List Value} {x} (h:DataW.trod enc Tryz.prog W base spare held fuel 40 cs=some x) (hl:cs.length=5):∃ i:In,cs=[.int .i64 i.op,.int .i64 i.a,.int .i64 i.b,.int .i64 i.c,.int .i64 i.m]:=by
 obtain⟨xs,n,_,_,_,hlen,hg⟩:=DataW.trod_struct Tryz.underlying40 h
 match cs,hl with
 | [u0,u1,u2,u3,u4],_ =>
  have hx:∀ j,j<5→∃ y,xs[j]? = some y:=fun j hj=>⟨xs[j]'(by simp at hlen; omega),List.getElem?_eq_getElem _⟩
  obtain⟨y0,e0⟩:=hx 0 (by omega)
  obtain⟨y1,e1⟩:=hx 1 (by omega)
  obtain⟨y2,e2⟩:=hx 2 (by omega)
  obtain⟨y3,e3⟩:=hx 3 (by omega)
  obtain⟨y4,e4⟩:=hx 4 (by omega)
  have t0:=(hg 0 _ rfl).trans e0
  have t1:=(hg 1 _ rfl).trans e1
  have t2:=(hg 2 _ rfl).trans e2
  have t3:=(hg 3 _ rfl).trans e3
  have t4:=(hg 4 _ rfl).trans e4
  have c23:Tryz.prog.cellsOf 3=1:=by kernel_rfl
  replace t0:DataW.trod enc Tryz.prog W base spare held n 3 [u0]=some y0:=by simpa [c23] using t0
  replace t1:DataW.trod enc Tryz.prog W base spare held n 3 [u1]=some y1:=by simpa [c23] using t1
  replace t2:DataW.trod enc Tryz.prog W base spare held n 3 [u2]=some y2:=by simpa [c23] using t2
  replace t3:DataW.trod enc Tryz.prog W base spare held n 3 [u3]=some y3:=by simpa [c23] using t3
  replace t4:DataW.trod enc Tryz.prog W base spare held n 3 [u4]=some y4:=by simpa [c23] using t4
  obtain⟨a0,rfl⟩:=ZtF t0
  obtain⟨a1,rfl⟩:=ZtF t1
  obtain⟨a2,rfl⟩:=ZtF t2
  obtain⟨a3,rfl⟩:=ZtF t3
  obtain⟨a4,rfl⟩:=ZtF t4
  exact⟨⟨a0,a1,a2,a3,a4⟩,rfl⟩
theorem Zwl (l:List Pt) (q:Nat) (h:q<11*l.length):(Qy l)[q]? = ((l.getD (q/11) pt0).cs)[q%11]?:=by
 have h1:=Zz8 l (q/11) (q%11) (by omega) (Nat.mod_lt _ (by omega))
 rw[XF,XF,show 11*(q/11)+q%11=q by omega] at h1
 rw[List.getElem?_eq_getElem (by rw[ZcX]; exact h),List.getElem?_eq_getElem (by rw[ZiU]; exact Nat.mod_lt _ (by omega))]
 rw[List.getD_eq_getElem?_getD,List.getD_eq_getElem?_getD,List.getElem?_eq_getElem (by rw[ZcX]; exact h),List.getElem?_eq_getElem (by rw[ZiU]; exact Nat.mod_lt _ (by omega))] at h1
 exact congrArg some h1
theorem ZtG {fuel:Nat} {u:Value} {x:DataW H×List MemPlace} (h:DataW.trod enc Tryz.prog W base spare held fuel 42 [u]=some x) :
  ∃ (k:Nat) (l:List Pt) (B O C:Nat) (S:Option Nat),S1Is W u k (Qy l) l.length B O C S∧∀ y∈l,y.Ok:=by
 have c0:Tryz.prog.cellsOf 90=11:=by kernel_rfl
 rcases open_slice Tryz.underlying42 h with⟨h1,_⟩|⟨a,len,cap,m,n,D,Pl,h1,_,hl,_,hm,_,hi⟩
 ·simp only[List.cons.injEq,and_true] at h1
  exact⟨0,[],0,0,0,none,⟨h1,⟨by omega,fun _=>rfl⟩,Nat.le_refl _,fun h=>by omega⟩,fun y hy=>by cases hy⟩
 ·simp only[List.cons.injEq,and_true] at h1
  subst h1
  have hlm:len≤m:=by rw[hm]; split<;>omega
  by_cases h0:len=0
  ·subst h0
   obtain⟨b,o,s⟩:=a
   exact⟨1,[],b,o,cap,s,⟨rfl,⟨by omega,fun _=>rfl⟩,Nat.zero_le _,fun h=>by omega⟩,fun y hy=>by cases hy⟩
  ·have hR:∀ i,i<len→∃ y:Pt,y.Ok∧∀ j v,y.cs[j]? = some v→W.cell? ((a.add (i*11)).add j)=some v:=fun i hil=>by
    obtain⟨cs',hc,ht'⟩:=hi i (by omega)
    rw[c0] at hc
    obtain⟨_,hcl,hat⟩:=World.cells?_some hc
    obtain⟨y,rfl,hy⟩:=ZGt ht' hcl
    exact⟨y,hy,fun j v hj=>by
     have hj11:j<11:=(List.getElem?_eq_some_iff.1 hj).1
     exact(hat j hj11).trans hj⟩
   have hR2:∃ R:Nat→Pt,∀ i,i<len→(R i).Ok∧∀ j v,(R i).cs[j]? = some v→W.cell? ((a.add (i*11)).add j)=some v:=⟨fun i=>if h:i<len then Classical.choose (hR i h) else pt0,fun i hil=>by
    have:=Classical.choose_spec (hR i hil)
    simp only[hil,dif_pos]
    exact this⟩
   obtain⟨R,hR⟩:=hR2
   have hlen:((List.range len).map R).length=len:=by simp
   have h0r:∀ i,i<len→((List.range len).map R).getD i pt0=R i:=fun i hil=>by
    rw[List.getD_eq_getElem?_getD,List.getElem?_map,List.getElem?_range hil]; rfl
   have hspot:a.spot=none:=by
    have:=(hR 0 (by omega)).2 0 _ rfl
    have hsp:=World.cell?_spot this
    simpa [Addr.add] using hsp
   have hget:∀ q v,(Qy ((List.range len).map R))[q]? = some v→W.cell? (a.add q)=some v:=by
    intro q v hv
    have hq:q<11*len:=by
     have:=(List.getElem?_eq_some_iff.1 hv).1
     rw[ZcX,hlen] at this; exact this
    rw[Zwl _ _ (by rw[hlen]; exact hq),h0r _ (by omega)] at hv
    have:=(hR (q/11) (by omega)).2 _ _ hv
    obtain⟨b,o,s⟩:=a
    simp only at hspot
    subst hspot
    rw[Go.WideShapes.add_plain,Go.WideShapes.add_plain] at this
    rw[Go.WideShapes.add_plain,show o+q=o+q/11*11+q%11 by omega]
    exact this
   obtain⟨hs,hrow⟩:=ZGs (a:=a) (cells:=Qy ((List.range len).map R)) (by rw[ZcX,hlen]; omega) hget
   obtain⟨b,o,s⟩:=a
   simp only at hs
   subst hs
   refine⟨2,(List.range len).map R,b,o,cap,none,⟨by rw[hlen]; rfl,⟨by omega,fun h=>by omega⟩,by rw[hlen]; exact hl,fun _=>hrow⟩,fun y hy => ?_⟩
   obtain⟨i,hi',rfl⟩:=List.mem_map.1 hy
   exact(hR i (by simpa using hi')).1
end
end Go.Proofs.YtagacmljbgkmoaaGreatDoor
namespace Go.Proofs.YtagacmljbgkmoaaGreatDoor
open Go.IntKind (u8 u16 u32 u64 i64)
open Go.ChangeShapes Go.WideShapes Go.ChangeAt Go.RowKit
open Sy
set_option maxRecDepth 100000
def ZlZ (B O C:Nat) (S:Option Nat):Ren :=
 ⟨fun l=>if l<NG then l else B,fun l=>if l<NG then 0 else O,fun _=>(O,S),fun _=>C,fun l=>Nat.blt l 65,fun _ h=>if_pos h,fun _ h=>if_pos h,fun l h=>Qq (Nat.lt_trans h (by decide))⟩
theorem ZoH (r:Ren) (g:Nat):r.cap (big+g)=r.c g:=VX r g
theorem ZD8 {W:World} {v:Value} {k n B O C:Nat} {S:Option Nat} {cells:List Value} (h:S1Is W v k cells n B O C S):v=(ZlZ B O C S).val (sl1 k 64 n):=by
 have hb:(ZlZ B O C S).b 64=B:=rfl
 have hw:(ZlZ B O C S).w 64=O:=rfl
 have ho:(ZlZ B O C S).o 64=(O,S):=rfl
 have hc:(ZlZ B O C S).c 64=C:=rfl
 rw[h.is]
 rcases k with _|_|k
 ·show Value.slice none 0 0=(ZlZ B O C S).val (.slice none 0 0)
  rw[ZH]; simp only[Option.map_none,Ren.cap]; rfl
 ·show Value.slice (some ⟨B,O,S⟩) 0 C=(ZlZ B O C S).val (.slice (some ⟨64,0,some 64⟩) 0 (big+64))
  rw[ZH,ZoH,hc]; simp[Ren.addr,hb,ho]
 ·show Value.slice (some ⟨B,O,none⟩) n C=(ZlZ B O C S).val (.slice (some ⟨64,0,none⟩) n (big+64))
  rw[ZH,ZoH,hc]; simp[Ren.addr,hb,hw]
theorem ZD9 {k n B O C:Nat} {S:Option Nat}:bnd (ZlZ B O C S).d (sl1 k 64 n)=true:=by
 unfold sl1
 split
 ·exact Zy _ rfl
 ·rw[Qn]; rfl
 ·rw[Qn]; rfl
theorem ZoI {k:Nat} {cells:List Value} (hf:∀ u∈cells,Z4 u=true):∀ x∈Uv k 64 cells++Yq Zw,(x.1=64∨x.1=0)∧x.2.rw=false∧(∀ p,x.2.op=some p→p=(0,0))∧∀ u∈x.2.cells,Z4 u=true:=by
 intro x hx
 rcases List.mem_append.1 hx with hx|hx
 ·unfold Uv at hx
  split at hx
  ·cases hx
  ·cases hx
  ·obtain rfl:=List.mem_singleton.1 hx
   exact⟨.inl rfl,rfl,(fun p hp=>by cases hp; rfl),hf⟩
 ·obtain rfl:=List.mem_singleton.1 hx
  exact⟨.inr rfl,rfl,(fun p hp=>by cases hp),Zcu⟩
theorem ZAS {W:World} {v:Value} {k n B O C:Nat} {S:Option Nat} {cells:List Value} (h:S1Is W v k cells n B O C S) (hf:∀ u∈cells,Z4 u=true) (hW:ZA2 W 0 Zw) (T:List (Nat×Bool)) :
  Sy.Good (ZlZ B O C S) ⟨65,Uv k 64 cells++Yq Zw,[],0,T,0,True⟩ W:=by
 refine⟨fun g kb hk => ?_,fun g g' k k' e1 e2 hrw _ => ?_,fun g kb hk => ?_,fun x hx=>by cases hx⟩
 ·have hm:=ZQ hk
  rcases List.mem_append.1 hm with hx|hx
  ·unfold Uv at hx
   split at hx
   ·cases hx
   ·cases hx
   ·rename_i k0 k1
    have e:=List.mem_singleton.1 hx
    simp only[Prod.mk.injEq] at e
    obtain⟨rfl,rfl⟩:=e
    have hk2:2≤k:=by
     rcases Nat.lt_or_ge k 2 with h|h
     ·have:k=0∨k=1:=by omega
      rcases this with h|h
      ·exact absurd h k0
      ·exact absurd h k1
     ·exact h
    obtain⟨arr,ty,fr,p1,p2,p3⟩:=h.at_ hk2
    refine .inl ⟨rfl,arr,ty,fr,p1,⟨.inl rfl,p2⟩,fun j u hj => ?_,fun h=>by cases h⟩
    rw[Z5 _ (hf u (List.mem_of_getElem? hj))]
    exact p3 j u hj
  ·have e:=List.mem_singleton.1 hx
   simp only[Prod.mk.injEq] at e
   obtain⟨rfl,rfl⟩:=e
   obtain⟨arr,ty,h1,h2⟩:=hW
   have hb:(ZlZ B O C S).b 0=0:=(ZlZ B O C S).hb _ (by decide)
   have hw:(ZlZ B O C S).w 0=0:=(ZlZ B O C S).hw _ (by decide)
   refine .inl ⟨rfl,arr,ty,(0,0),by rw[hb]; exact h1,?_,fun j v hj => ?_,fun hrw=>by cases hrw⟩
   ·refine⟨hw,?_⟩
    show arr.size=Zw.length
    rw[← h2]; simp
   ·have hv:v∈Zw:=List.mem_of_getElem? hj
    rw[Z5 _ (Zcu v hv),← Array.getElem?_toList,h2,hw,Nat.zero_add]
    exact hj
 ·have:=(ZoI (k:=_) hf _ (ZQ e1)).2.1
  simp only[] at this
  rw[this] at hrw; cases hrw
 ·obtain⟨q1,_,q3,q4⟩:=ZoI (k:=k) hf _ (ZQ hk)
  have hg:g<65:=by
   rcases q1 with q1|q1
   ·have:g=64:=q1
    omega
   ·have:g=0:=q1
    omega
  exact⟨Qq hg,fun p hp=>by rw[q3 p hp]; rfl,fun u hu=>⟨Zy _ (q4 u hu),Wn (q4 u hu)⟩⟩
theorem ZoJ {call:Qs} (hcall:Zv Tryz.prog call) {f:FuncId} {W:World} {v:Value} {k B O C:Nat} {S:Option Nat} {l:List Pt} {fr:Nat→Cp} {i:In} (h:S1Is W v k (Qy l) l.length B O C S) (hW:ZA2 W 0 Zw) {T:List (Nat×Bool)} {q:Prop}
  (hr:obs (call f [WV fr,i.val,sl1 k 64 l.length] ⟨65,Uv k 64 (Qy l)++Yq Zw,[],0,T,0,True⟩)=some (.bool true,q)) (hq:q) :
  Calls Tryz.prog f #[WV fr,i.val,v] W fun e W'=>e = .returned (.bool true)∧Below W.heap.size W W':=by
 have hb:∀ u∈[WV fr,i.val,sl1 k 64 l.length],bnd (ZlZ B O C S).d u=true:=fun u hu=>by
  simp only[List.mem_cons,List.not_mem_nil,or_false] at hu
  rcases hu with rfl|rfl|rfl
  ·exact XA _ rfl
  ·exact XA _ rfl
  ·exact ZD9
 have hw:WFn ⟨65,Uv k 64 (Qy l)++Yq Zw,[],0,T,0,True⟩:=⟨fun g kb hk=>by
  have q1:=(ZoI (k:=k) (YZ l) _ (ZQ hk)).1
  show g<65
  rcases q1 with q1|q1
  ·have:g=64:=q1
   omega
  ·have:g=0:=q1
   omega,fun x hx=>by cases hx⟩
 have hro:(Uv k 64 (Qy l)++Yq Zw).all (fun y => !y.2.rw)=true:=List.all_eq_true.2 fun x hx=>by rw[(ZoI (YZ l) x hx).2.1]; rfl
 have h1:=ZqR hcall hr hq hw hro (ZAS h (YZ l) hW T) (fun l hl=>ZY hl) hb
 have hm:[WV fr,i.val,sl1 k 64 l.length].map (ZlZ B O C S).val=[WV fr,i.val,v]:=by
  simp only[List.map_cons,List.map_nil,← ZD8 h,List.cons.injEq,and_true]
  exact⟨Vu _ rfl,Vu _ rfl⟩
 rw[hm] at h1
 exact h1
section
variable {H:Type} {enc:TypeId×Value→H} {W:World} {base:Nat} {spare:Nat→Bool} {held:Bool}
theorem ZiV {rc:Reach} {b0:Nat} {v:Value} {d:DataW H} {p:List MemPlace} (hv:Value.okWide Tryz.prog W rc b0 33 v) (h:DataW.Trod enc Tryz.prog W base spare held 33 v d p):∃ fr:Nat→Cp,v=WV fr∧Wc fr:=by
 obtain⟨cs,rfl,hsz⟩:=okWide_struct Tryz.underlying33 hv
 obtain⟨cs⟩:=cs
 have c0:Tryz.prog.cellsOf 33=136:=by kernel_rfl
 obtain⟨fuel,hf⟩:=h
 obtain⟨fr,e,hfr⟩:=ZAQ hf (hsz.trans c0)
 have e':cs=frL fr:=e
 subst e'
 exact⟨fr,rfl,hfr⟩
theorem ZiW {rc:Reach} {b0:Nat} {v:Value} {d:DataW H} {p:List MemPlace} (hv:Value.okWide Tryz.prog W rc b0 40 v) (h:DataW.Trod enc Tryz.prog W base spare held 40 v d p):∃ i:In,v=i.val:=by
 obtain⟨cs,rfl,hsz⟩:=okWide_struct Tryz.underlying40 hv
 obtain⟨cs⟩:=cs
 have c0:Tryz.prog.cellsOf 40=5:=by kernel_rfl
 obtain⟨fuel,hf⟩:=h
 obtain⟨i,e⟩:=ZAR hf (hsz.trans c0)
 have e':cs=[.int .i64 i.op,.int .i64 i.a,.int .i64 i.b,.int .i64 i.c,.int .i64 i.m]:=e
 subst e'
 exact⟨i,rfl⟩
theorem ZlX {rc:Reach} {b0:Nat} {v:Value} {d:DataW H} {p:List MemPlace} (hv:Value.okWide Tryz.prog W rc b0 42 v) (h:DataW.Trod enc Tryz.prog W base spare held 42 v d p) :
  ∃ (k:Nat) (l:List Pt) (B O C:Nat) (S:Option Nat),S1Is W v k (Qy l) l.length B O C S∧∀ y∈l,y.Ok:=by
 obtain⟨A,len,cap,rfl⟩:=okWide_slice Tryz.underlying42 hv
 obtain⟨fuel,hf⟩:=h
 exact ZtG hf
end
end Go.Proofs.YtagacmljbgkmoaaGreatDoor
namespace Go.Proofs.YtagacmljbgkmoaaGreatDoor
open Go.IntKind (u8 u16 u32 u64 i64)
open Go.ChangeShapes Go.WideShapes Go.ChangeAt Go.RowKit
open Sy
set_option maxRecDepth 100000
theorem Zic:ZjX 4 Tryz.f4:=by
 intro H enc W base args ds p hL hval hA
 rw[Tryz.params4] at hA hval
 obtain⟨v0,vs0,d0,ds0,p0,q0,hargs,rfl,rfl,h0,r0⟩:=trodAll_cons hA
 obtain⟨v1,vs1,d1,ds1,p1,q1,rfl,rfl,rfl,h1,r1⟩:=trodAll_cons r0
 obtain⟨v2,vs2,d2,ds2,p2,q2,rfl,rfl,rfl,h2,r2⟩:=trodAll_cons r1
 obtain⟨rfl,rfl,rfl⟩:=trodAll_nil r2
 obtain rfl:args = #[v0,v1,v2]:=by cases args; simp_all
 obtain⟨fr,rfl,hfr⟩:=ZiV (hval 0 _ v0 rfl rfl) h0
 obtain⟨i,rfl⟩:=ZiW (hval 1 _ v1 rfl rfl) h1
 obtain⟨k,l,B,O,C,S,hs,hok⟩:=ZlX (hval 2 _ v2 rfl rfl) h2
 obtain⟨call,T,q,hc,hr,hq⟩:=Zp9 fr hfr i k l hs.ok hok
 exact ZoJ hc hs (Zln hL) hr hq
set_option maxRecDepth 100000 in
theorem ZcH:Rows.CoreNoMoreSaid :=
 OpenClaim.holds_of_wide 4 Tryz.f4 rfl rfl rfl rfl rfl rfl rfl ⟨rfl,rfl,rfl,rfl,rfl⟩ rfl rfl rfl rfl rfl (by kernel_rfl) Tryz.func4 (by kernel_rfl)
  (of_decide_eq_true (by kernel_rfl)) (by unfold Func.isWrapper; first|(rw[if_pos (by decide +kernel)]; kernel_rfl)|(rw[if_neg (by decide +kernel)]; exact⟨rfl,rfl⟩))
  (fun os started H enc _=>ZhE 4 Tryz.f4 Rows.coreNoMoreSpec Rows.coreNoMoreRow.domain Tryz.func4 (by kernel_rfl) rfl rfl
   (fun H ds hd=>by match ds,hd with|[d0,d1,d2],_=>exact⟨rfl,rfl,rfl⟩) (by decide +kernel) Zic os started H enc
   (ChangeSpec.witness_shaped (enc:=enc) (C:=Tryz.checked) (os:=os) (X:=fun w _=>laidMetH Tryz.prog Zlm w) false (World.doorLaid Tryz.prog 400 os) #[.agg #[.int .u32 0,.int .u8 0,.int .u16 0,.int .u16 0,.int .u16 0,.int .u16 0,.int .u32 0,.bool false,.int .u32 0,.int .u8 0,.int .u16 0,.int .u16 0,.int .u16 0,.int .u16 0,.int .u32 0,.bool false,.int .u32 0,.int .u8 0,.int .u16 0,.int .u16 0,.int .u16 0,.int .u16 0,.int .u32 0,.bool false,.int .u32 0,.int .u8 0,.int .u16 0,.int .u16 0,.int .u16 0,.int .u16 0,.int .u32 0,.bool false,.int .u32 0,.int .u8 0,.int .u16 0,.int .u16 0,.int .u16 0,.int .u16 0,.int .u32 0,.bool false,.int .u32 0,.int .u8 0,.int .u16 0,.int .u16 0,.int .u16 0,.int .u16 0,.int .u32 0,.bool false,.int .u32 0,.int .u8 0,.int .u16 0,.int .u16 0,.int .u16 0,.int .u16 0,.int .u32 0,.bool false,.int .u32 0,.int .u8 0,.int .u16 0,.int .u16 0,.int .u16 0,.int .u16 0,.int .u32 0,.bool false,.int .u32 0,.int .u8 0,.int .u16 0,.int .u16 0,.int .u16 0,.int .u16 0,.int .u32 0,.bool false,.int .u32 0,.int .u8 0,.int .u16 0,.int .u16 0,.int .u16 0,.int .u16 0,.int .u32 0,.bool false,.int .u32 0,.int .u8 0,.int .u16 0,.int .u16 0,.int .u16 0,.int .u16 0,.int .u32 0,.bool false,.int .u32 0,.int .u8 0,.int .u16 0,.int .u16 0,.int .u16 0,.int .u16 0,.int .u32 0,.bool false,.int .u32 0,.int .u8 0,.int .u16 0,.int .u16 0,.int .u16 0,.int .u16 0,.int .u32 0,.bool false,.int .u32 0,.int .u8 0,.int .u16 0,.int .u16 0,.int .u16 0,.int .u16 0,.int .u32 0,.bool false,.int .u32 0,.int .u8 0,.int .u16 0,.int .u16 0,.int .u16 0,.int .u16 0,.int .u32 0,.bool false,.int .u32 0,.int .u8 0,.int .u16 0,.int .u16 0,.int .u16 0,.int .u16 0,.int .u32 0,.bool false,.int .u32 0,.int .u8 0,.int .u16 0,.int .u16 0,.int .u16 0,.int .u16 0,.int .u32 0,.bool false],.agg #[.int .i64 0,.int .i64 0,.int .i64 0,.int .i64 0,.int .i64 0],.slice none 0 0] 8 rfl (World.shaped_of_RefB (by kernel_rfl) (by kernel_rfl)) (by kernel_rfl) (by kernel_rfl) (by kernel_rfl) (Zn9 os _)))
theorem coreNoMore_proved:Rows.CoreNoMoreCardSaid :=
 Claim7.holds_tied_plain_at .later [] [.data] true Rows.coreNoMoreCard.stood.harness false
  ZcH (fun _ h=>by cases h) (by kernel_rfl) (fun _ h=>by cases h) coreNoMore_row_tie rfl ⟨rfl,rfl⟩ (by kernel_rfl) rfl
  (fun f fn hf hfn=>by
   obtain rfl:f=4:=Option.some.inj ((show Tryz.prog.funcNamed Rows.coreNoMoreRow.func=some 4 by kernel_rfl).symm.trans hf) |>.symm
   obtain rfl:fn=Tryz.f4:=(Option.some.inj (Tryz.func4.symm.trans hfn)).symm
   exact⟨by kernel_rfl,fun j t ht=>by
    rw[Tryz.params4] at ht
    have hm:t∈[33,40,42]:=by simpa using Array.mem_of_getElem? ht
    have hall:(([33,40,42]:List TypeId).all fun u => !Tryz.prog.wantsStandIn u)=true:=by kernel_rfl
    exact(show Tryz.prog.wantsStandIn t=false by simpa using List.all_eq_true.1 hall t hm)⟩)
  (by kernel_rfl)
end Go.Proofs.YtagacmljbgkmoaaGreatDoor
#print axioms Go.Proofs.YtagacmljbgkmoaaGreatDoor.coreNoMore_proved
