/-
  LoaderBoots: the proof's last part: the statement holds, with no condition.
-/
import Derived.Below
import Derived.ChangeOld
import Derived.ChangeSame
import Derived.ChangeSlices
import Derived.Deep.Fields
import Derived.Deep.Slices
import Derived.Lib.SmallJoins
import Derived.OpenShut
import Derived.ProofKit
import Derived.ShutString
import Derived.Test.YtliidiceljdgmaaQLoaderBootsF
import Derived.Test.YtliidiceljdgmaaRows
import Derived.WalkKit
set_option linter.unusedSimpArgs false
set_option linter.unusedVariables false
set_option linter.unusedSectionVars false
namespace Go.Proofs.Ytliidiceljdgmaa
open Go.RowKit
open Sy
set_option maxRecDepth 100000
def lbL (v : Value) (hh : Sy.Heap) (l : List Cp) : Sy.Steps:=[(68,8,btC v hh l,[64,65,66]),(69,9,btC v hh l,[64,65,66]),(70,10,lbW,[])]
def lbEL (v : Value) (hh : Sy.Heap) (e : Int) : Sy.Steps:=[(68,8,btEC v hh e,[64,65,66]),(68,9,btEC v hh e,[64,65,66]),(68,10,lbW,[])]
def lbEX (v : Value) (hh h2 : Sy.Heap) (e : Int) : Sy.Steps:=[(68,8,btEC v hh e,[64,65,66]),(68,9,btEC v h2 e,[64,65,66]),(68,10,lbW,[])]
def lbEM (v : Value) (hh : Sy.Heap) (e : Int) : Sy.Steps:=[(68,8,btEC v hh e,[64,65,66]),(68,9,btEC v hh e,[64,65,66])]
def selLbW : SelC:=fun f _ _ => bif Nat.beq f 10 then some (lbW,[],True) else none
def selOneT (g : FuncId) (c : Con) (ρ : List Nat) : SelT:=fun f _ _ => bif Nat.beq f g then some (c,ρ,0,True) else none
theorem selOneT_ok {P : Program} {d : Nat} {g : FuncId} {c : Con} {ρ : List Nat} (h : ConOk P g d c) (h2 : InId d c) : SelTOk P d (selOneT g c ρ):=by
 intro f args s c' ρ' m q hs _
 unfold selOneT at hs
 obtain ⟨h3,h4⟩:=bif_some hs
 have h3:=eB h3
 subst h3
 cases h4
 exact ⟨h,h2⟩
theorem rly_e (p s t e : Int) (d : List UInt8) (a1 a2 a3 : Option Addr) (n1 n2 n3 c1 c2 c3 : Nat) (hh : Heap) : obs (evF Try.prog (baseT 3 (selOneT 56 { args:=(chkEC (genI p s t d a1 a2 a3 n1 n2 n3 c1 c2 c3) e).args,n:=(chkEC (genI p s t d a1 a2 a3 n1 n2 n3 c1 c2 c3) e).n,h:=hh,lo:=(chkEC (genI p s t d a1 a2 a3 n1 n2 n3 c1 c2 c3) e).lo,res:=(chkEC (genI p s t d a1 a2 a3 n1 n2 n3 c1 c2 c3) e).res,n':=(chkEC (genI p s t d a1 a2 a3 n1 n2 n3 c1 c2 c3) e).n',h':=(chkEC (genI p s t d a1 a2 a3 n1 n2 n3 c1 c2 c3) e).h',lo':=(chkEC (genI p s t d a1 a2 a3 n1 n2 n3 c1 c2 c3) e).lo' : Con } [64,65,66]) noBase) noLoop 100 20 30 [genI p s t d a1 a2 a3 n1 n2 n3 c1 c2 c3] ⟨67,hh,[],0,[(0,true)],0,True⟩) = some (Value.tuple { toList:=[Value.agg ⟨[.int .u32 0,.int .u32 0,.int .u32 0,.int .u32 0,.int .u32 0,.int .u32 0,.int .u32 0,.int .u32 0]⟩,.int .i64 e] },(True∧True∧rr [Value.agg ⟨[.int .i64 p,.int .i64 s,.int .i64 t,.slice a1 n1 c1,.string ⟨⟨d⟩⟩,.slice a2 n2 c2,.slice a3 n3 c3]⟩]∧hh = []∧True)∧(e != (0:Int)) = true):=by kernel_rfl
theorem lb_f (p s t nc : Nat) (d : List UInt8) (rs : List Rl) (so : List Nat) (l : List Cp) (hl : l.length ≤ 1000) : obs (evF Try.prog (baseF 3 (selSteps (lbL (genJ p s t d (some ⟨65,0,none⟩) nc rs.length so.length (big+65)) (btH rs so) l)) noBase) (lpEsc [lbEnt l hl]) 100 20 3 [genJ p s t d (some ⟨65,0,none⟩) nc rs.length so.length (big+65)] ⟨67,btH rs so,[],0,[(0,false),(1,false),(2,false),(3,false),(4,false),(5,false),(6,false)],0,True⟩) = some (Value.bool true,((((((((((True∧True∧(rr (Value.agg ⟨[.int .i64 (↑p),.int .i64 (↑s),.int .i64 (↑t),.slice (some ⟨64,0,none⟩) nc 9223372036854775872,.string ⟨⟨d⟩⟩,.slice (some ⟨65,0,none⟩) rs.length 9223372036854775873,.slice (some ⟨66,0,none⟩) so.length 9223372036854775874]⟩)∧True)∧((tt∧(rels rs).all (okV (fun l => l.blt 67) 3) = true∧tt∧tt∧tt∧True∧rels rs = List.map (rnV (lift 67 68 [64,65,66]) 3) (rels rs))∧(tt∧(u32s so).all (okV (fun l => l.blt 67) 3) = true∧tt∧tt∧tt∧True∧u32s so = List.map (rnV (lift 67 68 [64,65,66]) 3) (u32s so))∧True)∧True)∧True∧(rr (Value.agg ⟨[.int .i64 (↑p),.int .i64 (↑s),.int .i64 (↑t),.slice (some ⟨64,0,none⟩) nc 9223372036854775872,.string ⟨⟨d⟩⟩,.slice (some ⟨65,0,none⟩) rs.length 9223372036854775873,.slice (some ⟨66,0,none⟩) so.length 9223372036854775874]⟩)∧True)∧((tt∧(rels rs).all (okV (fun l => l.blt 67) 3) = true∧tt∧tt∧tt∧True∧rels rs = List.map (rnV (lift 67 69 [64,65,66]) 3) (rels rs))∧(tt∧(u32s so).all (okV (fun l => l.blt 67) 3) = true∧tt∧tt∧tt∧True∧u32s so = List.map (rnV (lift 67 69 [64,65,66]) 3) (u32s so))∧True)∧True)∧rr false)∧rr false)∧rr false)∧rr false)∧rr false)∧rr false)∧((↑l.length:Int) != (↑l.length:Int)) = false)∧(rr (Value.pointer (some ⟨67,0,none⟩))∧rr (Value.bool false)∧rr (Value.slice (some ⟨68,0,none⟩) l.length 9223372036854775876)∧rr (Value.int .i64 0)∧rr (Value.slice (some ⟨69,0,none⟩) l.length 9223372036854775877)∧rr (Value.int .i64 0)∧rr (Value.int .i64 0)∧True)∧((tt∧tt∧True∧rr (cpL l))∧(tt∧tt∧True∧rr (cpL l))∧True)∧True∧True)∧True∧True∧True∧True):=by kernel_rfl
theorem lb_y (p s t nc : Nat) (d : List UInt8) (a2 : Option Addr) (c2 : Nat) (so : List Nat) (l : List Cp) (hl : l.length ≤ 1000) : obs (evF Try.prog (baseF 3 (selSteps (lbL (genJ p s t d a2 nc 0 so.length c2) (btHY so) l)) noBase) (lpEsc [lbEnt l hl]) 100 20 3 [genJ p s t d a2 nc 0 so.length c2] ⟨67,btHY so,[],0,[(0,false),(1,false),(2,false),(3,false),(4,false),(5,false),(6,false)],0,True⟩) = some (Value.bool true,((((((((((True∧True∧(Value.agg ⟨[.int .i64 (↑p),.int .i64 (↑s),.int .i64 (↑t),.slice (some ⟨64,0,none⟩) nc 9223372036854775872,.string ⟨⟨d⟩⟩,.slice a2 0 c2,.slice (some ⟨66,0,none⟩) so.length 9223372036854775874]⟩ = Value.agg ⟨[.int .i64 (↑p),.int .i64 (↑s),.int .i64 (↑t),.slice (some ⟨64,0,none⟩) nc 9223372036854775872,.string ⟨⟨d⟩⟩,.slice (Option.map (rnA (lift 67 68 [64,65,66])) a2) 0 (rnC (lift 67 68 [64,65,66]) c2),.slice (some ⟨66,0,none⟩) so.length 9223372036854775874]⟩∧True)∧((tt∧(u32s so).all (okV (fun l => l.blt 67) 3) = true∧tt∧tt∧tt∧True∧u32s so = List.map (rnV (lift 67 68 [64,65,66]) 3) (u32s so))∧True)∧True)∧True∧(Value.agg ⟨[.int .i64 (↑p),.int .i64 (↑s),.int .i64 (↑t),.slice (some ⟨64,0,none⟩) nc 9223372036854775872,.string ⟨⟨d⟩⟩,.slice a2 0 c2,.slice (some ⟨66,0,none⟩) so.length 9223372036854775874]⟩ = Value.agg ⟨[.int .i64 (↑p),.int .i64 (↑s),.int .i64 (↑t),.slice (some ⟨64,0,none⟩) nc 9223372036854775872,.string ⟨⟨d⟩⟩,.slice (Option.map (rnA (lift 67 69 [64,65,66])) a2) 0 (rnC (lift 67 69 [64,65,66]) c2),.slice (some ⟨66,0,none⟩) so.length 9223372036854775874]⟩∧True)∧((tt∧(u32s so).all (okV (fun l => l.blt 67) 3) = true∧tt∧tt∧tt∧True∧u32s so = List.map (rnV (lift 67 69 [64,65,66]) 3) (u32s so))∧True)∧True)∧rr false)∧rr false)∧rr false)∧rr false)∧rr false)∧rr false)∧((↑l.length:Int) != (↑l.length:Int)) = false)∧(rr (Value.pointer (some ⟨67,0,none⟩))∧rr (Value.bool false)∧rr (Value.slice (some ⟨68,0,none⟩) l.length 9223372036854775876)∧rr (Value.int .i64 0)∧rr (Value.slice (some ⟨69,0,none⟩) l.length 9223372036854775877)∧rr (Value.int .i64 0)∧rr (Value.int .i64 0)∧True)∧((tt∧tt∧True∧rr (cpL l))∧(tt∧tt∧True∧rr (cpL l))∧True)∧True∧True)∧True∧True∧True∧True):=by kernel_rfl
theorem lb_e (p s t e : Int) (d : List UInt8) (a1 a2 a3 : Option Addr) (n1 n2 n3 c1 c2 c3 : Nat) (hh : Heap) : obs (evF Try.prog (baseT 3 (selStepsT (lbEM (genI p s t d a1 a2 a3 n1 n2 n3 c1 c2 c3) hh e)) (baseC 3 selLbW)) noLoop 100 20 3 [genI p s t d a1 a2 a3 n1 n2 n3 c1 c2 c3] ⟨67,hh,[],0,[(0,false),(1,false),(2,false),(3,false),(4,false),(5,false),(6,false)],0,True⟩) = some (Value.bool true,(((((((((True∧True∧rr [Value.agg ⟨[.int .i64 p,.int .i64 s,.int .i64 t,.slice a1 n1 c1,.string ⟨⟨d⟩⟩,.slice a2 n2 c2,.slice a3 n3 c3]⟩]∧hh = []∧True)∧True∧rr [Value.agg ⟨[.int .i64 p,.int .i64 s,.int .i64 t,.slice a1 n1 c1,.string ⟨⟨d⟩⟩,.slice a2 n2 c2,.slice a3 n3 c3]⟩]∧hh = []∧True)∧(e != e) = false)∧(e != e) = false)∧(e != e) = false)∧(e != e) = false)∧(e != e) = false)∧(e != e) = false)∧rr false)∧True∧True∧True∧True):=by kernel_rfl
theorem lb_ef (p s t e : Int) (d : List UInt8) (nc : Nat) (rs : List Rl) (so : List Nat) : obs (evF Try.prog (baseF 3 (selSteps (lbEL (genI p s t d (some ⟨64,0,none⟩) (some ⟨65,0,none⟩) (some ⟨66,0,none⟩) nc rs.length so.length (big+64) (big+65) (big+66)) (btH rs so) e)) noBase) noLoop 100 20 3 [genI p s t d (some ⟨64,0,none⟩) (some ⟨65,0,none⟩) (some ⟨66,0,none⟩) nc rs.length so.length (big+64) (big+65) (big+66)] ⟨67,btH rs so,[],0,[(0,false),(1,false),(2,false),(3,false),(4,false),(5,false),(6,false)],0,True⟩) = some (Value.bool true,(((((((((True∧True∧(rr (Value.agg ⟨[.int .i64 p,.int .i64 s,.int .i64 t,.slice (some ⟨64,0,none⟩) nc 9223372036854775872,.string ⟨⟨d⟩⟩,.slice (some ⟨65,0,none⟩) rs.length 9223372036854775873,.slice (some ⟨66,0,none⟩) so.length 9223372036854775874]⟩)∧True)∧((tt∧(rels rs).all (okV (fun l => l.blt 67) 3) = true∧tt∧tt∧tt∧True∧rels rs = List.map (rnV (lift 67 68 [64,65,66]) 3) (rels rs))∧(tt∧(u32s so).all (okV (fun l => l.blt 67) 3) = true∧tt∧tt∧tt∧True∧u32s so = List.map (rnV (lift 67 68 [64,65,66]) 3) (u32s so))∧True)∧True)∧True∧(rr (Value.agg ⟨[.int .i64 p,.int .i64 s,.int .i64 t,.slice (some ⟨64,0,none⟩) nc 9223372036854775872,.string ⟨⟨d⟩⟩,.slice (some ⟨65,0,none⟩) rs.length 9223372036854775873,.slice (some ⟨66,0,none⟩) so.length 9223372036854775874]⟩)∧True)∧((tt∧(rels rs).all (okV (fun l => l.blt 67) 3) = true∧tt∧tt∧tt∧True∧rels rs = List.map (rnV (lift 67 68 [64,65,66]) 3) (rels rs))∧(tt∧(u32s so).all (okV (fun l => l.blt 67) 3) = true∧tt∧tt∧tt∧True∧u32s so = List.map (rnV (lift 67 68 [64,65,66]) 3) (u32s so))∧True)∧True)∧(e != e) = false)∧(e != e) = false)∧(e != e) = false)∧(e != e) = false)∧(e != e) = false)∧(e != e) = false)∧rr false)∧True∧True∧True∧True):=by kernel_rfl
theorem lb_ey (p s t e : Int) (d : List UInt8) (a2 : Option Addr) (c2 nc : Nat) (so : List Nat) : obs (evF Try.prog (baseF 3 (selSteps (lbEL (genI p s t d (some ⟨64,0,none⟩) a2 (some ⟨66,0,none⟩) nc 0 so.length (big+64) c2 (big+66)) (btHY so) e)) noBase) noLoop 100 20 3 [genI p s t d (some ⟨64,0,none⟩) a2 (some ⟨66,0,none⟩) nc 0 so.length (big+64) c2 (big+66)] ⟨67,btHY so,[],0,[(0,false),(1,false),(2,false),(3,false),(4,false),(5,false),(6,false)],0,True⟩) = some (Value.bool true,(((((((((True∧True∧(Value.agg ⟨[.int .i64 p,.int .i64 s,.int .i64 t,.slice (some ⟨64,0,none⟩) nc 9223372036854775872,.string ⟨⟨d⟩⟩,.slice a2 0 c2,.slice (some ⟨66,0,none⟩) so.length 9223372036854775874]⟩ = Value.agg ⟨[.int .i64 p,.int .i64 s,.int .i64 t,.slice (some ⟨64,0,none⟩) nc 9223372036854775872,.string ⟨⟨d⟩⟩,.slice (Option.map (rnA (lift 67 68 [64,65,66])) a2) 0 (rnC (lift 67 68 [64,65,66]) c2),.slice (some ⟨66,0,none⟩) so.length 9223372036854775874]⟩∧True)∧((tt∧(u32s so).all (okV (fun l => l.blt 67) 3) = true∧tt∧tt∧tt∧True∧u32s so = List.map (rnV (lift 67 68 [64,65,66]) 3) (u32s so))∧True)∧True)∧True∧(Value.agg ⟨[.int .i64 p,.int .i64 s,.int .i64 t,.slice (some ⟨64,0,none⟩) nc 9223372036854775872,.string ⟨⟨d⟩⟩,.slice a2 0 c2,.slice (some ⟨66,0,none⟩) so.length 9223372036854775874]⟩ = Value.agg ⟨[.int .i64 p,.int .i64 s,.int .i64 t,.slice (some ⟨64,0,none⟩) nc 9223372036854775872,.string ⟨⟨d⟩⟩,.slice (Option.map (rnA (lift 67 68 [64,65,66])) a2) 0 (rnC (lift 67 68 [64,65,66]) c2),.slice (some ⟨66,0,none⟩) so.length 9223372036854775874]⟩∧True)∧((tt∧(u32s so).all (okV (fun l => l.blt 67) 3) = true∧tt∧tt∧tt∧True∧u32s so = List.map (rnV (lift 67 68 [64,65,66]) 3) (u32s so))∧True)∧True)∧(e != e) = false)∧(e != e) = false)∧(e != e) = false)∧(e != e) = false)∧(e != e) = false)∧(e != e) = false)∧rr false)∧True∧True∧True∧True):=by kernel_rfl
theorem lb_ex (p s t e : Int) (d : List UInt8) (a2 : Option Addr) (c2 nc : Nat) (so : List Nat) : obs (evF Try.prog (baseF 3 (selSteps (lbEX (genI p s t d (some ⟨64,0,none⟩) a2 (some ⟨66,0,none⟩) nc 0 so.length (big+64) c2 (big+66)) (btHY so) [] e)) noBase) noLoop 100 20 3 [genI p s t d (some ⟨64,0,none⟩) a2 (some ⟨66,0,none⟩) nc 0 so.length (big+64) c2 (big+66)] ⟨67,btHY so,[],0,[(0,false),(1,false),(2,false),(3,false),(4,false),(5,false),(6,false)],0,True⟩) = some (Value.bool true,(((((((((True∧True∧(Value.agg ⟨[.int .i64 p,.int .i64 s,.int .i64 t,.slice (some ⟨64,0,none⟩) nc 9223372036854775872,.string ⟨⟨d⟩⟩,.slice a2 0 c2,.slice (some ⟨66,0,none⟩) so.length 9223372036854775874]⟩ = Value.agg ⟨[.int .i64 p,.int .i64 s,.int .i64 t,.slice (some ⟨64,0,none⟩) nc 9223372036854775872,.string ⟨⟨d⟩⟩,.slice (Option.map (rnA (lift 67 68 [64,65,66])) a2) 0 (rnC (lift 67 68 [64,65,66]) c2),.slice (some ⟨66,0,none⟩) so.length 9223372036854775874]⟩∧True)∧((tt∧(u32s so).all (okV (fun l => l.blt 67) 3) = true∧tt∧tt∧tt∧True∧u32s so = List.map (rnV (lift 67 68 [64,65,66]) 3) (u32s so))∧True)∧True)∧True∧(Value.agg ⟨[.int .i64 p,.int .i64 s,.int .i64 t,.slice (some ⟨64,0,none⟩) nc 9223372036854775872,.string ⟨⟨d⟩⟩,.slice a2 0 c2,.slice (some ⟨66,0,none⟩) so.length 9223372036854775874]⟩ = Value.agg ⟨[.int .i64 p,.int .i64 s,.int .i64 t,.slice (some ⟨64,0,none⟩) nc 9223372036854775872,.string ⟨⟨d⟩⟩,.slice (Option.map (rnA (lift 67 68 [64,65,66])) a2) 0 (rnC (lift 67 68 [64,65,66]) c2),.slice (some ⟨66,0,none⟩) so.length 9223372036854775874]⟩∧True)∧True∧True)∧(e != e) = false)∧(e != e) = false)∧(e != e) = false)∧(e != e) = false)∧(e != e) = false)∧(e != e) = false)∧rr false)∧True∧True∧True∧True):=by kernel_rfl
end Go.Proofs.Ytliidiceljdgmaa
namespace Go.Proofs.Ytliidiceljdgmaa
open Go.RowKit
open Sy
set_option maxRecDepth 100000
def leB0 (a : Int) : Bool:=decide (0 ≤ a)
def ltB (a b : Int) : Bool:=decide (0 ≤ a) && decide (a < b)
def mkD : FuncId → List Value → Option Con:=fun f args => bif Nat.beq f 77 then
 match args with
 | [.agg ⟨[.int .u32 a,.int .u32 s]⟩,.int .u16 p] => bif ltB a 4294967296 && ltB s 4294967296 && leB0 p then some (makeZ a s p) else none
 | _ => none
 else bif Nat.beq f 65 then
 match args with
 | [.agg ⟨[.int .u32 c,.int .u8 e,.int .u16 b,.int .u16 t,.int .u16 p,.int .u16 y,.int .u32 r,.bool v]⟩,.int .u32 to] => bif ltB c 4294967296 && ltB e 256 && ltB b 65536 && ltB t 65536 && ltB p 65536 && ltB y 65536 && ltB r 4294967296 && ltB to 4294967296 then some (addrZ c e b t p y r v to) else none
 | _ => none
 else none
theorem ltB_is {a b : Int} (h : ltB a b = true) : 0 ≤ a ∧ a < b:=by simpa [ltB] using h
theorem mkD_ok : ∀ f args c,mkD f args = some c → ConOk Try.prog f 3 c ∧ FlatC c:=by
 intro f args c h
 unfold mkD at h
 cases h1 : Nat.beq f 77 <;> rw [h1] at h
 ·simp only [rr, tt, cond_false] at h
  obtain ⟨h2,h3⟩:=bif_some h
  have h2:=eB h2
  subst h2
  split at h3
  ·obtain ⟨h4,h5⟩:=bif_some h3
   cases h5
   simp only [rr, tt, Bool.and_eq_true] at h4
   obtain ⟨⟨⟨⟨⟨⟨⟨a1,a2⟩,a3⟩,a4⟩,a5⟩,a6⟩,a7⟩,a8⟩:=h4
   have a1:=ltB_is a1; have a2:=ltB_is a2; have a3:=ltB_is a3; have a4:=ltB_is a4
   have a5:=ltB_is a5; have a6:=ltB_is a6; have a7:=ltB_is a7; have a8:=ltB_is a8
   exact ⟨addr_con _ _ _ _ _ _ _ _ _ ⟨a1.1,a1.2,a2.1,a2.2,a3.1,a3.2,a4.1,a4.2,a5.1,a5.2,a6.1,a6.2,a7.1,a7.2,a8.1,a8.2⟩,⟨fun x hx => by cases hx⟩⟩
  ·cases h3
 ·have h2:=eB h1
  subst h2
  simp only [rr, tt, cond_true] at h
  split at h
  ·obtain ⟨h4,h5⟩:=bif_some h
   cases h5
   simp only [rr, tt, Bool.and_eq_true] at h4
   obtain ⟨⟨a1,a2⟩,a3⟩:=h4
   have a1:=ltB_is a1; have a2:=ltB_is a2
   exact ⟨make_con _ _ _ ⟨a1.1,a1.2,a2.1,a2.2,by simpa [leB0] using a3⟩,⟨fun x hx => by cases hx⟩⟩
  ·cases h
def lworksC : Con:=⟨[],64,[],[],.bool true,64,[],[]⟩
def WRun (f : FuncId) (c : Con) : Prop:=ConRun 3 (evF Try.prog (baseD 3 mkD noBase) noLoop 1000 40) f c
theorem wRun_ok {f : FuncId} {c : Con} (h : WRun f c = True) : ConOk Try.prog f 3 c ∧ FlatC c:=conRun_ok (run_ok ar_names (baseD_ok mkD_ok (noBase_ok _)) (noLoop_ok _) 40) h
theorem lworks_run : WRun 10 lworksC = True:=by kernel_rfl
end Go.Proofs.Ytliidiceljdgmaa
namespace Go.Proofs.Ytliidiceljdgmaa
open Go.RowKit
open Sy
def sl (k : Nat) (g n : Nat) : Value:=match k with | 0 => .slice none 0 0 | 1 => .slice (some ⟨g,0,some g⟩) 0 (big + g) | _ => .slice (some ⟨g,0,none⟩) n (big + g)
def slH (k : Nat) (g : Nat) (cells : List Value) : Sy.Heap:=match k with | 0 => [] | 1 => [] | _ => [(g,⟨false,some (0,0),cells,none⟩)]
def slOk (k n : Nat) : Prop:=k ≤ 2 ∧ (k < 2 → n = 0)
def inV (i j k : Nat) (pages stack types : Int) (data : List UInt8) (cs : List Nat) (rs : List Rl) (starts : List Nat) : Value :=
 .agg ⟨[.int .i64 pages,.int .i64 stack,.int .i64 types,sl i 64 cs.length,.string ⟨⟨data⟩⟩,sl j 65 rs.length,sl k 66 starts.length]⟩
def inH (i j k : Nat) (cs : List Nat) (rs : List Rl) (starts : List Nat) : Sy.Heap:=slH i 64 (u32s cs) ++ slH j 65 (rels rs) ++ slH k 66 (u32s starts)
def inLo (cs : List Nat) (rs : List Rl) (starts : List Nat) : List (Nat × Nat):=[(64,cs.length),(65,rs.length),(66,starts.length)]
end Go.Proofs.Ytliidiceljdgmaa
namespace Go.Proofs.Ytliidiceljdgmaa
open Go.ChangeShapes Go.WideShapes Go.ChangeAt Go.RowKit
open Go.ChangeMaps (open_string shut_string)
theorem own : ownKnob Try.prog.godebug = none:=by kernel_rfl
theorem laidOut : laidOutB Try.prog = true:=by kernel_rfl
section
variable {H : Type} {enc : TypeId × Value → H} {P : Program}
theorem post_of_below {f : Func} {s : ChangeSpec} {apart fresh handsOn again : Bool} {W W' : World} {args : Array Value} {v : Value} {ds gs : List (DataW H)} {before pa pv : List MemPlace}
  (hW : DataW.Whole enc P f.params.toList s.vars apart W args.toList ds gs before)
  (hres : ∀ (b : Nat) (sp : Nat → Bool) (hd : Bool),DataW.TrodAll enc P W' b sp hd f.resultTypes.toList (v.resultList f.resultTypes.size) (s.fn H (ds ++ gs)).results [])
  (hargs : ∀ sp : Nat → Bool,(∀ p ∈ before,sp p.block = true) → DataW.TrodAll enc P W' 0 sp true f.params.toList args.toList (s.fn H (ds ++ gs)).args pa)
  (hvars : ∀ sp : Nat → Bool,(∀ p ∈ before,sp p.block = true) → DataW.TrodVars enc P W' sp s.vars (s.fn H (ds ++ gs)).vars pv)
  (hps : before = pa ++ pv) (hb : Below W.heap.size W W')
  (hok : ∀ (j : Nat) (t : TypeId) (r : Value),f.resultTypes[j]? = some t → (v.resultList f.resultTypes.size)[j]? = some r → Value.okWide P W' .any 0 t r) :
  s.post enc P f apart fresh handsOn again W args v W':=by
 have hlt : ∀ p ∈ before,p.block < W.heap.size:=fun p hp => hW.lt p hp
 have hold : ∀ p ∈ before,(fun b => decide (b < W.heap.size)) p.block = true:=fun p hp => by simpa using hlt p hp
 refine ⟨ds,gs,before,[],pa,pv,hW,hres _ _ _,hargs _ hold,hvars _ hold,World.keptBut_mono (fun p hp => ⟨hp,?_⟩) (hb.frame (· ∈ before)),fun _ => ?_⟩
 ·rw [hps,List.mem_append] at hp
  exact Or.inr hp
 ·obtain ⟨_,_,_,_,_,hz,hn⟩:=hW
  refine ⟨hok,_,_,([] ++ pa) ++ pv,⟨[] ++ pa,pv,trodAll_append (hargs _ (fun _ _ => rfl)) (hres _ _ _),hvars _ (fun _ _ => rfl),rfl,?_,?_⟩,?_⟩
  ·intro b off hp
   have hin : MemPlace.cell b off ∈ before:=by rw [hps]; simpa using hp
   rw [hb.frozen (hlt _ hin)]
   exact hz b off hin
  ·intro ha
   have:=hn ha
   rw [hps] at this
   simpa using this
  ·intro p hp _
   rw [hps]
   simpa using hp
theorem below_trodAll (hl : laidOutB P = true) {W W' : World} (hb : Below W.heap.size W W') {sp : Nat → Bool} : ∀ (ts : List TypeId) (vs : List Value) (ds : List (DataW H)) (ps : List MemPlace),
  (∀ t ∈ ts,P.readableRec t = true ∧ t < P.types.size) → DataW.TrodAll enc P W 0 (fun _ => true) true ts vs ds ps → (∀ x ∈ ps,x.block < W.heap.size) → (∀ x ∈ ps,sp x.block = true) →
  DataW.TrodAll enc P W' 0 sp true ts vs ds ps
 | [],[],[],_,_,h,_,_ => h
 | t :: ts,v :: vs,d :: ds,ps,ht,h,hlt,hs => by
  obtain ⟨p,q,h1,h2,rfl⟩:=h
  refine ⟨p,q,?_,below_trodAll hl hb ts vs ds q (fun u hu => ht u (List.mem_cons_of_mem _ hu)) h2 (fun x hx => hlt x (List.mem_append_right _ hx)) (fun x hx => hs x (List.mem_append_right _ hx)),rfl⟩
  exact WideElems.Trod_stays hl (ht t (List.mem_cons_self ..)).1 (ht t (List.mem_cons_self ..)).2 h1 (fun x hx => hb.same (hlt x (List.mem_append_left _ hx))) (fun x hx => hs x (List.mem_append_left _ hx))
 | [],[],_ :: _,_,_,h,_,_ => h.elim
 | [],_ :: _,_,_,_,h,_,_ => h.elim
 | _ :: _,[],_,_,_,h,_,_ => h.elim
 | _ :: _,_ :: _,[],_,_,h,_,_ => h.elim
theorem trodAll_length {W : World} {base : Nat} {sp : Nat → Bool} {hd : Bool} : ∀ (ts : List TypeId) (vs : List Value) (ds : List (DataW H)) (ps : List MemPlace),DataW.TrodAll enc P W base sp hd ts vs ds ps → ds.length = ts.length
 | [],[],[],_,_ => rfl
 | _ :: ts,_ :: vs,_ :: ds,_,h => by
  obtain ⟨_,_,_,h2,_⟩:=h
  simp [trodAll_length ts vs ds _ h2]
 | [],[],_ :: _,_,h => h.elim
 | [],_ :: _,_,_,h => h.elim
 | _ :: _,[],_,_,h => h.elim
 | _ :: _,_ :: _,[],_,h => h.elim
end
theorem wf_u32 {n : Int} (h : (Lit.int .u32 n).wf = true) : 0 ≤ n ∧ n < 4294967296:=by
 have:=bounds_u32 h; omega
theorem wf_u16 {n : Int} (h : (Lit.int .u16 n).wf = true) : 0 ≤ n ∧ n < 65536:=by
 have:=bounds_u16 h; omega
def LawWalk (f : FuncId) (fn : Func) : Prop :=
 ∀ (H : Type) (enc : TypeId × Value → H) (W : World) (base : Nat) (args : Array Value) (ds : List (DataW H)) (p : List MemPlace),
  (∀ (j : Nat) t v,fn.params[j]? = some t → args[j]? = some v → Value.okWide Try.prog W .any base t v) →
  DataW.TrodAll enc Try.prog W 0 (fun _ => true) true fn.params.toList args.toList ds p →
  Calls Try.prog f args W fun e W' => e = .returned (.bool true) ∧ Below W.heap.size W W'
set_option maxRecDepth 100000 in
theorem law_lifted (f : FuncId) (fn : Func) (s : ChangeSpec) (conds : List PathCond) (hfn : Try.prog.funcs[f]? = some fn) (noInit : Try.prog.inits.idxOf? f = none)
  (hres : fn.resultTypes = #[4])
  (hvars : s.vars = []) (hspec : ∀ (H : Type) (ds : List (DataW H)),ds.length = fn.params.toList.length → (s.fn H (ds ++ [])).results = [.lit (.bool true)] ∧ (s.fn H (ds ++ [])).args = ds ∧ (s.fn H (ds ++ [])).vars = [])
  (hts : ∀ t ∈ fn.params.toList,Try.prog.readableRec t = true ∧ t < Try.prog.types.size)
  (walk : LawWalk f fn) (os : Os) (started : os.Started) (H : Type) (enc : TypeId × Value → H)
  (witness : ∃ (w : World) (tape : Tape) (i : Input),w.os = os ∧ (w.forCall tape i).Shaped Try.checked.prog ∧ i.vars = [] ∧ Input.okWide Try.checked.prog (w.forCall tape i) .any w.heap.size f i ∧
   s.pre6 enc Try.checked.prog fn conds false (w.forCall tape i).memory i.args ∧ ({} : Assume).holds Try.checked.prog (lone (Frame.enter Try.checked.prog f i.args .normal) [] (w.forCall tape i))) :
  ReturnsInHanded {} Try.checked os f .any (s.pre6 enc Try.prog fn conds false) (s.post enc Try.prog fn false true false false):=by
 refine returnsInHanded_of_change (C:=Try.checked) own started noInit hfn witness ?_
 intro W base args ds gs before hval0 hW _ _
 have hW':=hW
 obtain ⟨p,q,hA,hV,rfl,_,_⟩:=hW
 rw [hvars] at hV
 obtain ⟨rfl,rfl⟩:=trodVars_none hV
 obtain ⟨e1,e2,e3⟩:=hspec H ds (trodAll_length _ _ _ _ hA)
 refine (walk H enc W base args ds p hval0 hA).mono fun e W' ⟨he,hg⟩ => ?_
 subst he
 refine ⟨_,rfl,post_of_below (pa:=p) (pv:=[]) hW' (fun b sp hd => ?_) (fun sp hsp => ?_) (fun sp _ => ?_) rfl hg ?_⟩
 ·rw [e1,hres]
  exact trodAll_mk1 (shut_bool Try.underlying4 _)
 ·rw [e2]
  exact below_trodAll laidOut hg _ _ _ _ hts hA (fun x hx => hW'.lt x (List.mem_append_left _ hx)) (fun x hx => hsp x (List.mem_append_left _ hx))
 ·rw [e3,hvars]; rfl
 ·exact ok_one hres rfl (okWide_bool_mk Try.underlying4 _)
end Go.Proofs.Ytliidiceljdgmaa
namespace Go.Proofs.Ytliidiceljdgmaa
open Go.ChangeShapes Go.WideShapes Go.Deep
section
variable {H : Type} {enc : TypeId × Value → H} {P : Program} {w : World} {base : Nat} {spare : Nat → Bool} {held : Bool}
theorem open_slice_fields {t e : TypeId} {fs : Array Field} {fuel : Nat} {cs : List Value} {x : DataW H × List MemPlace} (ht : P.underlying t = some (.slice e)) (he : P.underlying e = some (.struct fs))
  (hone : oneCellFields P fs = true) (hC : P.cellsOf e = fs.size) (h : DataW.trod enc P w base spare held fuel t cs = some x) :
  (cs = [.slice none 0 0] ∧ x = (.nil,[])) ∨
  ∃ (a : Addr) (len cap m : Nat) (D : Nat → DataW H) (Pl : Nat → List MemPlace),cs = [.slice (some a) len cap] ∧ base ≤ a.block ∧ len ≤ cap ∧ cap ≤ maxLen ∧ m = (if spare a.block then cap else len) ∧
   x = (.slice ((List.range len).map D) ((List.range (m - len)).map fun j => D (len + j)),MemPlace.row a (m * fs.size) ++ (List.range m).flatMap Pl) ∧
   ∀ i,i < m → ∃ (ys : List (DataW H × List MemPlace)) (n : Nat),D i = .agg (ys.map (·.1)) ∧ Pl i = ys.flatMap (·.2) ∧ ys.length = fs.size ∧
    ∀ (j : Nat) (f : Field),fs[j]? = some f → ∃ (v : Value) (y : DataW H × List MemPlace),w.cell? (a.add (i * fs.size + j)) = some v ∧ ys[j]? = some y ∧ DataW.trod enc P w base spare held n f.type [v] = some y:=by
 rcases open_slice ht h with h0 | ⟨a,len,cap,m,n,D,Pl,hcs,hb,hl,hm,hmm,hx,hi⟩
 ·exact .inl h0
 ·refine .inr ⟨a,len,cap,m,D,Pl,hcs,hb,hl,hm,hmm,by rw [hC] at hx; exact hx,fun i him => ?_⟩
  obtain ⟨cs',hc,ht'⟩:=hi i him
  rw [hC] at hc
  obtain ⟨ys,n',hn',hy,hlen,hyl,hf⟩:=DataW.trod_struct he ht'
  obtain ⟨_,hcl,hat⟩:=World.cells?_some hc
  simp only [rr, tt, Prod.mk.injEq] at hy
  refine ⟨ys,n',hy.1,hy.2,hyl,fun j f hj => ?_⟩
  obtain ⟨ho,hk⟩:=hone_of hone j f hj
  have hjl : j < fs.size:=(Array.getElem?_eq_some_iff.1 hj).1
  have hcell:=hat j hjl
  have hv : cs'[j]? = some (cs'[j]'(by omega)):=List.getElem?_eq_getElem (by omega)
  have h1:=hf j f hj
  rw [ho,hk] at h1
  have hone' : (cs'.drop j).take 1 = [cs'[j]'(by omega)]:=by
   rw [List.drop_eq_getElem_cons (by omega)]
   rfl
  rw [hone'] at h1
  have hys : ys[j]? = some (ys[j]'(by omega)):=List.getElem?_eq_getElem (by omega)
  refine ⟨_,_,?_,hys,h1.trans hys⟩
  rw [← Go.Deep.add_add,hcell,hv]
end
end Go.Proofs.Ytliidiceljdgmaa
namespace Go.Proofs.Ytliidiceljdgmaa
open Go.ChangeShapes Go.WideShapes Go.Deep Go.RowKit
section
variable {H : Type} {enc : TypeId × Value → H} {P : Program} {w : World} {base : Nat} {spare : Nat → Bool} {held : Bool}
theorem open_agg_all {r : Reach} {b0 : Nat} {t : TypeId} {fs : Array Field} {v : Value} {d : DataW H} {p : List MemPlace} (hs : P.underlying t = some (.struct fs)) (hone : oneCellFields P fs = true) (hC : P.cellsOf t = fs.size)
  (hv : Value.okWide P w r b0 t v) (h : DataW.Trod enc P w base spare held t v d p) :
  ∃ cs : List Value,v = .agg cs.toArray ∧ cs.length = fs.size ∧ ∀ (j : Nat) (f : Field),fs[j]? = some f → ∃ (u : Value) (y : DataW H × List MemPlace) (n : Nat),cs[j]? = some u ∧ DataW.trod enc P w base spare held n f.type [u] = some y:=by
 obtain ⟨cs,rfl,hsz⟩:=okWide_struct hs hv
 obtain ⟨l⟩:=cs
 refine ⟨l,rfl,hsz.trans hC,fun j f hj => ?_⟩
 obtain ⟨fuel,hf⟩:=h
 obtain ⟨xs,n,_,hx,_,hlen,hg⟩:=DataW.trod_struct hs hf
 obtain ⟨o,k⟩:=hone_of hone j f hj
 have hjl : j < fs.size:=(Array.getElem?_eq_some_iff.1 hj).1
 have hl : l.length = fs.size:=hsz.trans hC
 have h1:=hg j f hj
 rw [o,k] at h1
 simp only [rr, tt, Value.cells] at h1
 have hone' : (l.drop j).take 1 = [l[j]'(by omega)]:=by
  rw [List.drop_eq_getElem_cons (by omega)]
  rfl
 rw [hone'] at h1
 exact ⟨l[j]'(by omega),xs[j]'(by omega),n,List.getElem?_eq_getElem (by omega),h1.trans (List.getElem?_eq_getElem (by omega))⟩
end
end Go.Proofs.Ytliidiceljdgmaa
namespace Go.Proofs.Ytliidiceljdgmaa
open Go.ChangeShapes Go.WideShapes Go.Deep Go.RowKit
open Sy
structure SlIs (W : World) (v : Value) (k : Nat) (cells : List Value) (n B O C : Nat) (S : Option Nat) : Prop where
 is : v = (match k with | 0 => .slice none 0 0 | 1 => .slice (some ⟨B,O,S⟩) 0 C | _ => .slice (some ⟨B,O,none⟩) n C)
 ok : slOk k n
 le : n ≤ C
 at_ : 2 ≤ k → ∃ arr ty fr,W.heap[B]? = some (.cells arr ty fr) ∧ O + cells.length ≤ arr.size ∧ ∀ j v,cells[j]? = some v → arr[O + j]? = some v
section
variable {H : Type} {enc : TypeId × Value → H} {P : Program} {W : World} {base : Nat} {spare : Nat → Bool} {held : Bool}
theorem cell_is {a : Addr} {v : Value} (h : W.cell? a = some v) : ∃ arr ty fr,W.heap[a.block]? = some (.cells arr ty fr) ∧ arr[a.off]? = some v ∧ a.spot = none:=by
 have hs:=World.cell?_spot h
 unfold World.cell? at h
 split at h
 ·rename_i c t f hb
  rw [hs] at h
  exact ⟨c,t,f,hb,by simpa using h,hs⟩
 ·cases h
theorem add_off {a : Addr} (h : a.spot = none) (i : Nat) : (a.add i).block = a.block ∧ (a.add i).off = a.off + i:=by
 obtain ⟨b,o,s⟩:=a
 subst h
 unfold Addr.add
 split <;> simp_all
theorem row_is {a : Addr} {cells : List Value} (h0 : 0 < cells.length) (h : ∀ i v,cells[i]? = some v → W.cell? (a.add i) = some v) : a.spot = none ∧ ∃ arr ty fr,W.heap[a.block]? = some (.cells arr ty fr) ∧ a.off + cells.length ≤ arr.size ∧ ∀ j v,cells[j]? = some v → arr[a.off + j]? = some v:=by
 have h1:=h 0 _ (List.getElem?_eq_getElem h0)
 rw [show a.add 0 = a by unfold Addr.add; simp] at h1
 obtain ⟨arr,ty,fr,q1,q2,q3⟩:=cell_is h1
 have hat : ∀ j v,cells[j]? = some v → arr[a.off + j]? = some v:=fun j v hj => by
  obtain ⟨arr',ty',fr',p1,p2,_⟩:=cell_is (h j v hj)
  obtain ⟨e1,e2⟩:=add_off q3 j
  rw [e1,q1] at p1
  cases p1
  rw [e2] at p2
  exact p2
 refine ⟨q3,arr,ty,fr,q1,?_,hat⟩
 have:=hat (cells.length - 1) _ (List.getElem?_eq_getElem (by omega))
 have:=(Array.getElem?_eq_some_iff.1 this).1
 omega
theorem u32_slice {t e : TypeId} {fuel : Nat} {u : Value} {x : DataW H × List MemPlace} (ht : P.underlying t = some (.slice e)) (he : P.underlying e = some (.int .u32)) (hc : P.cellsOf e = 1)
  (h : DataW.trod enc P W base spare held fuel t [u] = some x) : ∃ (k : Nat) (xs : List Nat) (B O C : Nat) (S : Option Nat),SlIs W u k (u32s xs) xs.length B O C S ∧ ∀ y ∈ xs,y < 4294967296:=by
 rcases open_ints ht he hc h with ⟨h1,_⟩ | ⟨a,len,cap,zs,h1,_,hl,_,hz,_,hcell,hw⟩
 ·simp only [rr, tt, List.cons.injEq,and_true] at h1
  exact ⟨0,[],0,0,0,none,⟨h1,⟨by omega,fun _ => rfl⟩,Nat.le_refl _,fun h => by omega⟩,fun y hy => by cases hy⟩
 ·simp only [rr, tt, List.cons.injEq,and_true] at h1
  subst h1
  have hlz : len ≤ zs.length:=by rw [hz]; split <;> omega
  by_cases h0 : len = 0
  ·subst h0
   obtain ⟨b,o,s⟩:=a
   exact ⟨1,[],b,o,cap,s,⟨rfl,⟨by omega,fun _ => rfl⟩,Nat.zero_le _,fun h => by omega⟩,fun y hy => by cases hy⟩
  ·have hlen : ((zs.take len).map Int.toNat).length = len:=by simp; omega
   have hget : ∀ i v,(u32s ((zs.take len).map Int.toNat))[i]? = some v → W.cell? (a.add i) = some v:=by
    intro i v hv
    unfold u32s at hv
    rw [List.getElem?_map,List.getElem?_map,List.getElem?_take] at hv
    split at hv
    ·rename_i hi
     rw [List.getElem?_eq_getElem (by omega)] at hv
     simp only [rr, tt, Option.map_some,Option.some.injEq] at hv
     have h2:=hcell i (by omega)
     have h3 : zs.getD i 0 = zs[i]'(by omega):=by rw [List.getD_eq_getElem?_getD,List.getElem?_eq_getElem (by omega)]; rfl
     rw [h3] at h2
     have h4:=wf_u32 (hw _ (List.getElem_mem (by omega : i < zs.length)))
     rw [h2,← hv]
     congr 2
     exact (Int.toNat_of_nonneg h4.1).symm
    ·cases hv
   have hul : (u32s ((zs.take len).map Int.toNat)).length = len:=by unfold u32s; rw [List.length_map]; exact hlen
   obtain ⟨hs,hrow⟩:=row_is (a:=a) (cells:=u32s ((zs.take len).map Int.toNat)) (by omega) hget
   obtain ⟨b,o,s⟩:=a
   simp only at hs
   subst hs
   refine ⟨2,(zs.take len).map Int.toNat,b,o,cap,none,⟨by rw [hlen]; rfl,⟨by omega,fun h => by omega⟩,by rw [hlen]; exact hl,fun _ => hrow⟩,fun y hy => ?_⟩
   obtain ⟨z,hz',rfl⟩:=List.mem_map.1 hy
   have h4:=wf_u32 (hw z (List.mem_of_mem_take hz'))
   omega
end
instance : Inhabited Rl:=⟨⟨0,false,0,0,0,0⟩⟩
theorem rels_at : ∀ (rs : List Rl) (i j : Nat),i < rs.length → j < 6 → (rels rs)[i * 6 + j]? = (relC (rl0 rs i))[j]?
 | [],i,j,h,_ => by simp at h
 | x :: rs,0,j,_,hj => by
  rw [rels_cons,List.getElem?_append_left (by simp only [rr, tt, relC,List.length_cons,List.length_nil]; omega)]
  simp [rl0]
 | x :: rs,i + 1,j,h,hj => by
  have hl : (relC x).length = 6:=rfl
  rw [rels_cons,List.getElem?_append_right (by rw [hl]; omega),hl,show (i + 1) * 6 + j - 6 = i * 6 + j by omega,rels_at rs i j (by simpa using h) hj]
  rfl
section
variable {H : Type} {enc : TypeId × Value → H} {W : World} {base : Nat} {spare : Nat → Bool} {held : Bool}
theorem rel_slice {fuel : Nat} {u : Value} {x : DataW H × List MemPlace} (h : DataW.trod enc Try.prog W base spare held fuel 23 [u] = some x) :
  ∃ (k : Nat) (rs : List Rl) (B O C : Nat) (S : Option Nat),SlIs W u k (rels rs) rs.length B O C S ∧ ∀ y ∈ rs,RlOk y:=by
 rcases open_slice_fields Try.underlying23 Try.underlying42 (by kernel_rfl) (by kernel_rfl) h with ⟨h1,_⟩ | ⟨a,len,cap,m,D,Pl,h1,_,hl,_,hm,_,hi⟩
 ·simp only [rr, tt, List.cons.injEq,and_true] at h1
  exact ⟨0,[],0,0,0,none,⟨h1,⟨by omega,fun _ => rfl⟩,Nat.le_refl _,fun h => by omega⟩,fun y hy => by cases hy⟩
 ·simp only [rr, tt, List.cons.injEq,and_true] at h1
  subst h1
  have hlm : len ≤ m:=by rw [hm]; split <;> omega
  by_cases h0 : len = 0
  ·subst h0
   obtain ⟨b,o,s⟩:=a
   exact ⟨1,[],b,o,cap,s,⟨rfl,⟨by omega,fun _ => rfl⟩,Nat.zero_le _,fun h => by omega⟩,fun y hy => by cases hy⟩
  ·obtain ⟨R,hR⟩:=choose_lt (n:=len) (α:=Rl) (p:=fun i r => RlOk r ∧ ∀ j v,(relC r)[j]? = some v → W.cell? (a.add (i * 6 + j)) = some v) (fun i hil => by
    obtain ⟨ys,n,_,_,_,hf⟩:=hi i (by omega)
    obtain ⟨v0,y0,c0,_,t0⟩:=hf 0 _ rfl
    obtain ⟨v1,y1,c1,_,t1⟩:=hf 1 _ rfl
    obtain ⟨v2,y2,c2,_,t2⟩:=hf 2 _ rfl
    obtain ⟨v3,y3,c3,_,t3⟩:=hf 3 _ rfl
    obtain ⟨v4,y4,c4,_,t4⟩:=hf 4 _ rfl
    obtain ⟨v5,y5,c5,_,t5⟩:=hf 5 _ rfl
    obtain ⟨n0,e0,_,w0⟩:=DataW.trod_int Try.underlying30 t0
    obtain ⟨n1,e1,_⟩:=DataW.trod_bool Try.underlying4 t1
    obtain ⟨n2,e2,_,w2⟩:=DataW.trod_int Try.underlying30 t2
    obtain ⟨n3,e3,_,w3⟩:=DataW.trod_int Try.underlying30 t3
    obtain ⟨n4,e4,_,w4⟩:=DataW.trod_int Try.underlying31 t4
    obtain ⟨n5,e5,_,w5⟩:=DataW.trod_int Try.underlying31 t5
    simp only [rr, tt, List.cons.injEq,and_true] at e0 e1 e2 e3 e4 e5
    subst e0 e1 e2 e3 e4 e5
    have b0:=wf_u32 w0
    have b2:=wf_u32 w2
    have b3:=wf_u32 w3
    have b4:=wf_u16 w4
    have b5:=wf_u16 w5
    refine ⟨⟨n0.toNat,n1,n2.toNat,n3.toNat,n4.toNat,n5.toNat⟩,⟨by show n0.toNat < _; omega,by show n2.toNat < _; omega,by show n3.toNat < _; omega,by show n4.toNat < _; omega,by show n5.toNat < _; omega⟩,fun j v hj => ?_⟩
    have hj6 : j < 6:=(List.getElem?_eq_some_iff.1 hj).1
    have cc : ∀ z : Int,0 ≤ z → ((z.toNat : Nat) : Int) = z:=fun z hz => Int.toNat_of_nonneg hz
    unfold relC at hj
    simp only [rr, tt, cc n0 b0.1,cc n2 b2.1,cc n3 b3.1,cc n4 b4.1,cc n5 b5.1] at hj
    obtain rfl | rfl | rfl | rfl | rfl | rfl : j = 0 ∨ j = 1 ∨ j = 2 ∨ j = 3 ∨ j = 4 ∨ j = 5:=by omega
    all_goals
     simp at hj
     subst hj
     assumption)
   have hlen : ((List.range len).map R).length = len:=by simp
   have h0r : ∀ i,i < len → rl0 ((List.range len).map R) i = R i:=fun i hil => by
    unfold rl0; rw [List.getD_eq_getElem?_getD,List.getElem?_map,List.getElem?_range hil]; rfl
   have hget : ∀ q v,(rels ((List.range len).map R))[q]? = some v → W.cell? (a.add q) = some v:=by
    intro q v hv
    have hq : q < len * 6:=by
     have:=(List.getElem?_eq_some_iff.1 hv).1
     rw [rels_len,hlen] at this; exact this
    have e : q = q / 6 * 6 + q % 6:=by omega
    rw [e,rels_at _ _ _ (by rw [hlen]; omega) (Nat.mod_lt _ (by omega)),h0r _ (by omega)] at hv
    rw [e]
    exact (hR (q / 6) (by omega)).2 _ _ hv
   obtain ⟨hs,hrow⟩:=row_is (a:=a) (cells:=rels ((List.range len).map R)) (by rw [rels_len,hlen]; omega) hget
   obtain ⟨b,o,s⟩:=a
   simp only at hs
   subst hs
   refine ⟨2,(List.range len).map R,b,o,cap,none,⟨by rw [hlen]; rfl,⟨by omega,fun h => by omega⟩,by rw [hlen]; exact hl,fun _ => hrow⟩,fun y hy => ?_⟩
   obtain ⟨i,hi',rfl⟩:=List.mem_map.1 hy
   exact (hR i (by simpa using hi')).1
end
def ren3 (B1 O1 C1 : Nat) (S1 : Option Nat) (B2 O2 C2 : Nat) (S2 : Option Nat) (B3 O3 C3 : Nat) (S3 : Option Nat) : Ren :=
 ⟨fun l => if l < NG then l else if l = 64 then B1 else if l = 65 then B2 else B3,fun l => if l < NG then 0 else if l = 64 then O1 else if l = 65 then O2 else O3,
  fun l => if l = 64 then (O1,S1) else if l = 65 then (O2,S2) else (O3,S3),fun l => if l = 64 then C1 else if l = 65 then C2 else C3,fun l => Nat.blt l 67,
  fun _ h => if_pos h,fun _ h => if_pos h,fun l h => blt_yes (Nat.lt_trans h (by decide))⟩
theorem cap_big (r : Ren) (g : Nat) : r.cap (big + g) = r.c g:=cap_letter r g
section
variable {r : Ren} {W : World} {v : Value} {k n B O C g : Nat} {S : Option Nat} {cells : List Value}
theorem sl_val (h : SlIs W v k cells n B O C S) (hb : r.b g = B) (hw : r.w g = O) (ho : r.o g = (O,S)) (hc : r.c g = C) : v = r.val (sl k g n):=by
 rw [h.is]
 rcases k with _ | _ | k
 ·show Value.slice none 0 0 = r.val (.slice none 0 0)
  rw [val_slice]; simp only [rr, tt, Option.map_none,Ren.cap]; rfl
 ·show Value.slice (some ⟨B,O,S⟩) 0 C = r.val (.slice (some ⟨g,0,some g⟩) 0 (big + g))
  rw [val_slice,cap_big,hc]; simp [Ren.addr,hb,ho]
 ·show Value.slice (some ⟨B,O,none⟩) n C = r.val (.slice (some ⟨g,0,none⟩) n (big + g))
  rw [val_slice,cap_big,hc]; simp [Ren.addr,hb,hw]
theorem sl_bnd {d : Nat → Bool} (hd : d g = true) : bnd d (sl k g n) = true:=by
 unfold sl
 split
 ·exact bnd_flat0 _ rfl
 ·rw [bnd_slice]; simp [bndA,hd]
 ·rw [bnd_slice]; simp [bndA,hd]
theorem sl_block (h : SlIs W v k cells n B O C S) (hb : r.b g = B) (hw : r.w g = O) (hf : ∀ u ∈ cells,flat0 u = true) : ∀ x ∈ slH k g cells,x.1 = g ∧ x.2.rw = false ∧ x.2.op = some (0,0) ∧ x.2.cells = cells ∧ Sy.Is r x.2 x.1 W:=by
 intro x hx
 unfold slH at hx
 split at hx
 ·cases hx
 ·cases hx
 ·rename_i k0 k1
  obtain rfl:=List.mem_singleton.1 hx
  refine ⟨rfl,rfl,rfl,rfl,.inl ⟨rfl,?_⟩⟩
  have hk2 : 2 ≤ k:=by
   rcases Nat.lt_or_ge k 2 with h | h
   ·have : k = 0 ∨ k = 1:=by omega
    rcases this with h | h
    ·exact absurd h k0
    ·exact absurd h k1
   ·exact h
  obtain ⟨arr,ty,fr,p1,p2,p3⟩:=h.at_ hk2
  refine ⟨arr,ty,fr,by rw [hb]; exact p1,⟨.inl rfl,by rw [hw]; exact p2⟩,fun j u hj => ?_,fun h => by cases h⟩
  rw [hw,val_flat0 r (hf u (List.mem_of_getElem? hj))]
  exact p3 j u hj
end
theorem in_good {W : World} {v1 v2 v3 : Value} {i j k : Nat} {cs : List Nat} {rs : List Rl} {starts : List Nat} {B1 O1 C1 B2 O2 C2 B3 O3 C3 : Nat} {S1 S2 S3 : Option Nat}
  (h1 : SlIs W v1 i (u32s cs) cs.length B1 O1 C1 S1) (h2 : SlIs W v2 j (rels rs) rs.length B2 O2 C2 S2) (h3 : SlIs W v3 k (u32s starts) starts.length B3 O3 C3 S3) (T : List (Nat × Bool)) :
  Sy.Good (ren3 B1 O1 C1 S1 B2 O2 C2 S2 B3 O3 C3 S3) ⟨67,inH i j k cs rs starts,inLo cs rs starts,0,T,0,True⟩ W:=by
 have key : ∀ x ∈ inH i j k cs rs starts,(x.1 = 64 ∨ x.1 = 65 ∨ x.1 = 66) ∧ x.2.rw = false ∧ x.2.op = some (0,0) ∧ (∀ u ∈ x.2.cells,flat0 u = true) ∧ Sy.Is (ren3 B1 O1 C1 S1 B2 O2 C2 S2 B3 O3 C3 S3) x.2 x.1 W:=by
  intro x hx
  unfold inH at hx
  rw [List.mem_append,List.mem_append] at hx
  rcases hx with (hx | hx) | hx
  ·obtain ⟨e1,e2,e3,e4,e5⟩:=sl_block (r:=ren3 B1 O1 C1 S1 B2 O2 C2 S2 B3 O3 C3 S3) (g:=64) h1 rfl rfl (u32s_flat cs) x hx
   exact ⟨.inl e1,e2,e3,by rw [e4]; exact u32s_flat cs,e5⟩
  ·obtain ⟨e1,e2,e3,e4,e5⟩:=sl_block (r:=ren3 B1 O1 C1 S1 B2 O2 C2 S2 B3 O3 C3 S3) (g:=65) h2 rfl rfl (rels_flat rs) x hx
   exact ⟨.inr (.inl e1),e2,e3,by rw [e4]; exact rels_flat rs,e5⟩
  ·obtain ⟨e1,e2,e3,e4,e5⟩:=sl_block (r:=ren3 B1 O1 C1 S1 B2 O2 C2 S2 B3 O3 C3 S3) (g:=66) h3 rfl rfl (u32s_flat starts) x hx
   exact ⟨.inr (.inr e1),e2,e3,by rw [e4]; exact u32s_flat starts,e5⟩
 refine ⟨fun g k hk => (key _ (look_mem hk)).2.2.2.2,fun g g' k k' e1 e2 hrw _ => ?_,fun g k hk => ?_,fun x hx => ?_⟩
 ·have:=(key _ (look_mem e1)).2.1
  simp only [] at this
  rw [this] at hrw; cases hrw
 ·obtain ⟨q1,_,q3,q4,_⟩:=key _ (look_mem hk)
  refine ⟨blt_yes (by simp only [] at q1; omega),fun p hp => ?_,fun u hu => ⟨bnd_flat0 _ (q4 u hu),flat0_oneCell (q4 u hu)⟩⟩
  simp only [] at q3
  rw [q3] at hp
  cases hp
  rfl
 ·simp only [rr, tt, inLo,List.mem_cons,List.not_mem_nil,or_false] at hx
  rcases hx with rfl | rfl | rfl
  ·exact ⟨h1.le,rfl⟩
  ·exact ⟨h2.le,rfl⟩
  ·exact ⟨h3.le,rfl⟩
theorem eq7 {l : List Value} {a b c d e f g : Value} (hl : l.length = 7) (h0 : l[0]? = some a) (h1 : l[1]? = some b) (h2 : l[2]? = some c) (h3 : l[3]? = some d) (h4 : l[4]? = some e) (h5 : l[5]? = some f) (h6 : l[6]? = some g) : l = [a,b,c,d,e,f,g]:=by
 match l,hl with
 | [x0,x1,x2,x3,x4,x5,x6],_ =>
  simp only [rr, tt, List.getElem?_cons_zero,List.getElem?_cons_succ,Option.some.injEq] at h0 h1 h2 h3 h4 h5 h6
  subst h0 h1 h2 h3 h4 h5 h6
  rfl
set_option maxRecDepth 100000 in
theorem open_img {H : Type} {enc : TypeId × Value → H} {W : World} {base b0 : Nat} {rc : Reach} {sp : Nat → Bool} {hd : Bool} {v : Value} {d : DataW H} {p : List MemPlace}
  (hv : Value.okWide Try.prog W rc b0 25 v) (h : DataW.Trod enc Try.prog W base sp hd 25 v d p) :
  ∃ (pages stack types : Int) (data : List UInt8) (cs : List Nat) (rs : List Rl) (starts : List Nat) (v1 v2 v3 : Value) (i j k B1 O1 C1 B2 O2 C2 B3 O3 C3 : Nat) (S1 S2 S3 : Option Nat),
   v = .agg ⟨[.int .i64 pages,.int .i64 stack,.int .i64 types,v1,.string ⟨⟨data⟩⟩,v2,v3]⟩ ∧ SlIs W v1 i (u32s cs) cs.length B1 O1 C1 S1 ∧ SlIs W v2 j (rels rs) rs.length B2 O2 C2 S2 ∧ SlIs W v3 k (u32s starts) starts.length B3 O3 C3 S3 ∧
   (∀ x ∈ cs,x < 4294967296) ∧ (∀ x ∈ rs,RlOk x) ∧ (∀ x ∈ starts,x < 4294967296):=by
 obtain ⟨l,rfl,hl,hf⟩:=open_agg_all Try.underlying25 (by kernel_rfl) (by kernel_rfl) hv h
 obtain ⟨u0,y0,m0,g0,t0⟩:=hf 0 _ rfl
 obtain ⟨u1,y1,m1,g1,t1⟩:=hf 1 _ rfl
 obtain ⟨u2,y2,m2,g2,t2⟩:=hf 2 _ rfl
 obtain ⟨u3,y3,m3,g3,t3⟩:=hf 3 _ rfl
 obtain ⟨u4,y4,m4,g4,t4⟩:=hf 4 _ rfl
 obtain ⟨u5,y5,m5,g5,t5⟩:=hf 5 _ rfl
 obtain ⟨u6,y6,m6,g6,t6⟩:=hf 6 _ rfl
 obtain ⟨pages,e0,_⟩:=DataW.trod_int Try.underlying3 t0
 obtain ⟨stack,e1,_⟩:=DataW.trod_int Try.underlying3 t1
 obtain ⟨types,e2,_⟩:=DataW.trod_int Try.underlying3 t2
 obtain ⟨str,e4,_⟩:=DataW.trod_string Try.underlying9 t4
 obtain ⟨i,cs,B1,O1,C1,S1,s1,n1⟩:=u32_slice Try.underlying22 Try.underlying30 (by kernel_rfl) t3
 obtain ⟨j,rs,B2,O2,C2,S2,s2,n2⟩:=rel_slice t5
 obtain ⟨k,starts,B3,O3,C3,S3,s3,n3⟩:=u32_slice Try.underlying22 Try.underlying30 (by kernel_rfl) t6
 simp only [rr, tt, List.cons.injEq,and_true] at e0 e1 e2 e4
 subst e0 e1 e2 e4
 obtain rfl:=eq7 hl g0 g1 g2 g3 g4 g5 g6
 obtain ⟨⟨data⟩⟩:=str
 exact ⟨pages,stack,types,data,cs,rs,starts,u3,u5,u6,i,j,k,B1,O1,C1,B2,O2,C2,B3,O3,C3,S1,S2,S3,rfl,s1,s2,s3,n1,n2,n3⟩
theorem sl_form {k g n : Nat} (h : slOk k n) : ∃ (a : Option Addr) (c : Nat),sl k g n = .slice a n c:=by
 obtain ⟨_,h2⟩:=h
 rcases k with _ | _ | k
 ·obtain rfl:=h2 (by omega); exact ⟨none,0,rfl⟩
 ·obtain rfl:=h2 (by omega); exact ⟨some ⟨g,0,some g⟩,big + g,rfl⟩
 ·exact ⟨some ⟨g,0,none⟩,big + g,rfl⟩
theorem inH_mem {i j k : Nat} {cs : List Nat} {rs : List Rl} {starts : List Nat} : ∀ x ∈ inH i j k cs rs starts,(x.1 = 64 ∨ x.1 = 65 ∨ x.1 = 66) ∧ x.2.rw = false ∧ x.2.op = some (0,0) ∧ ∀ u ∈ x.2.cells,flat0 u = true:=by
 have one : ∀ (k g : Nat) (cells : List Value),(∀ u ∈ cells,flat0 u = true) → ∀ x ∈ slH k g cells,x.1 = g ∧ x.2.rw = false ∧ x.2.op = some (0,0) ∧ ∀ u ∈ x.2.cells,flat0 u = true:=by
  intro k g cells hf x hx
  unfold slH at hx
  split at hx
  ·cases hx
  ·cases hx
  ·obtain rfl:=List.mem_singleton.1 hx
   exact ⟨rfl,rfl,rfl,hf⟩
 intro x hx
 unfold inH at hx
 rw [List.mem_append,List.mem_append] at hx
 rcases hx with (hx | hx) | hx
 ·obtain ⟨e1,e⟩:=one _ _ _ (u32s_flat cs) x hx; exact ⟨.inl e1,e⟩
 ·obtain ⟨e1,e⟩:=one _ _ _ (rels_flat rs) x hx; exact ⟨.inr (.inl e1),e⟩
 ·obtain ⟨e1,e⟩:=one _ _ _ (u32s_flat starts) x hx; exact ⟨.inr (.inr e1),e⟩
end Go.Proofs.Ytliidiceljdgmaa
namespace Go.Proofs.Ytliidiceljdgmaa
open Go.ChangeShapes Go.WideShapes Go.ChangeAt Go.RowKit
open Sy
set_option maxRecDepth 100000
theorem img_walkS {call : CallK} (hcall : SoundCall Try.prog call) {f : FuncId} {W : World} {v1 v2 v3 : Value} {i j k : Nat} {pages stack types : Int} {data : List UInt8} {cs : List Nat} {rs : List Rl} {starts : List Nat} {B1 O1 C1 B2 O2 C2 B3 O3 C3 : Nat} {S1 S2 S3 : Option Nat}
  (h1 : SlIs W v1 i (u32s cs) cs.length B1 O1 C1 S1) (h2 : SlIs W v2 j (rels rs) rs.length B2 O2 C2 S2) (h3 : SlIs W v3 k (u32s starts) starts.length B3 O3 C3 S3) {hs : Sy.Heap} (hsub : ∀ g b,Sy.look hs g = some b → Sy.look (inH i j k cs rs starts) g = some b) (hro : hs.all (fun y => !y.2.rw) = true)
  (run : ∃ (T : List (Nat × Bool)) (q : Prop),obs (call f [inV i j k pages stack types data cs rs starts] ⟨67,hs,[],0,T,0,True⟩) = some (.bool true,q) ∧ q) :
  Calls Try.prog f #[.agg ⟨[.int .i64 pages,.int .i64 stack,.int .i64 types,v1,.string ⟨⟨data⟩⟩,v2,v3]⟩] W fun e W' => e = .returned (.bool true) ∧ Below W.heap.size W W':=by
 obtain ⟨T,q,hr,hq⟩:=run
 have hb : ∀ u ∈ [inV i j k pages stack types data cs rs starts],bnd (ren3 B1 O1 C1 S1 B2 O2 C2 S2 B3 O3 C3 S3).d u = true:=fun u hu => by
  obtain rfl:=List.mem_singleton.1 hu
  unfold inV
  rw [bnd_agg]
  have e1 : bnd (ren3 B1 O1 C1 S1 B2 O2 C2 S2 B3 O3 C3 S3).d (sl i 64 cs.length) = true:=sl_bnd rfl
  have e2 : bnd (ren3 B1 O1 C1 S1 B2 O2 C2 S2 B3 O3 C3 S3).d (sl j 65 rs.length) = true:=sl_bnd rfl
  have e3 : bnd (ren3 B1 O1 C1 S1 B2 O2 C2 S2 B3 O3 C3 S3).d (sl k 66 starts.length) = true:=sl_bnd rfl
  rw [Array.all_eq_true_iff_forall_mem]
  intro u hu
  simp only [rr, tt, List.mem_toArray,List.mem_cons,List.not_mem_nil,or_false] at hu
  rcases hu with rfl | rfl | rfl | rfl | rfl | rfl | rfl
  ·exact bnd_flat0 _ rfl
  ·exact bnd_flat0 _ rfl
  ·exact bnd_flat0 _ rfl
  ·exact e1
  ·exact bnd_flat0 _ rfl
  ·exact e2
  ·exact e3
 have hw : WFn ⟨67,hs,[],0,T,0,True⟩:=⟨fun g kb hk => by
  have:=(inH_mem _ (look_mem (hsub g kb hk))).1
  show g < 67
  simp only [] at this
  omega,fun x hx => by cases hx⟩
 have hg : Sy.Good (ren3 B1 O1 C1 S1 B2 O2 C2 S2 B3 O3 C3 S3) ⟨67,hs,[],0,T,0,True⟩ W :=
  (in_good h1 h2 h3 T).sub' (fun g b hk => ⟨b,hsub g b hk,.inl rfl,rfl,rfl,id⟩) (fun x hx => by cases hx)
 have h:=yes_ok hcall hr hq hw hro hg (fun l hl => blt_no hl) hb
 have hv : (Value.agg ⟨[.int .i64 pages,.int .i64 stack,.int .i64 types,v1,.string ⟨⟨data⟩⟩,v2,v3]⟩) = (ren3 B1 O1 C1 S1 B2 O2 C2 S2 B3 O3 C3 S3).val (inV i j k pages stack types data cs rs starts):=by
  have e1:=sl_val (r:=ren3 B1 O1 C1 S1 B2 O2 C2 S2 B3 O3 C3 S3) (g:=64) h1 rfl rfl rfl rfl
  have e2:=sl_val (r:=ren3 B1 O1 C1 S1 B2 O2 C2 S2 B3 O3 C3 S3) (g:=65) h2 rfl rfl rfl rfl
  have e3:=sl_val (r:=ren3 B1 O1 C1 S1 B2 O2 C2 S2 B3 O3 C3 S3) (g:=66) h3 rfl rfl rfl rfl
  unfold inV
  rw [val_agg]
  simp only [rr, tt, List.map_toArray,List.map_cons,List.map_nil,val_int,val_string,← e1,← e2,← e3]
 rw [hv]
 exact h
theorem lw_con : ConOk Try.prog 10 3 lworksC ∧ FlatC lworksC:=wRun_ok lworks_run
theorem err_all {p s t : Int} {nc : Nat} {d : List UInt8} {rs : List Rl} {so : List Nat} (he : errOf p s t nc d rs so = 0) : isArg p s t nc so.length = false ∧ layBig p s nc so.length d.length = false:=by
 unfold errOf at he
 cases hl : isLong nc d.length rs.length so.length <;> rw [hl] at he <;> try (simp at he; done)
 cases ha : isArg p s t nc so.length <;> rw [ha] at he <;> try (simp at he; done)
 cases hf : isFar nc so <;> rw [hf] at he <;> try (simp at he; done)
 cases hg : layBig p s nc so.length d.length <;> rw [hg] at he <;> try (simp at he; done)
 exact ⟨rfl,rfl⟩
theorem r256_is (n : Nat) : n ≤ r256 n ∧ r256 n % 256 = 0 ∧ r256 n ≤ n + 255:=by unfold r256; omega
theorem sl_okV {q : Nat → Bool} {d k g n : Nat} (h : q g = true) : okV q d (sl k g n) = true:=by
 unfold sl
 split <;> cases d <;> simp [okV,bndA,h,flat0,big]
theorem rlayE_con (p s t e : Int) (d : List UInt8) (a1 a2 a3 : Option Addr) (n1 n2 n3 c1 c2 c3 : Nat) (hv : okV (fun l => Nat.blt l 67) 3 (genI p s t d a1 a2 a3 n1 n2 n3 c1 c2 c3) = true) (he : (e != 0) = true)
  (h : ConOk Try.prog 56 3 (chkEC (genI p s t d a1 a2 a3 n1 n2 n3 c1 c2 c3) e)) : ConOk Try.prog 30 3 (layEC (genI p s t d a1 a2 a3 n1 n2 n3 c1 c2 c3) e):=by
 have hr:=rly_e p s t e d a1 a2 a3 n1 n2 n3 c1 c2 c3 []
 unfold obs at hr
 obtain ⟨⟨v',s'⟩,h1,h2⟩:=oM hr
 simp only [rr, tt, Prod.mk.injEq] at h2
 obtain ⟨rfl,h3⟩:=h2
 refine conOk_run (run_ok (L:=100) ar_names (baseT_ok (selOneT_ok h ⟨fun x hx => (by cases hx),fun x hx => (by cases hx)⟩) (noBase_ok _)) (noLoop_ok _) 20) ⟨by show NG ≤ 67; decide,Nat.le_refl _,trivial,rfl,rfl,rfl,by show (okV _ 3 _ && true) = true; rw [Bool.and_true]; exact hv,rfl,fun x hx => by cases hx⟩ h1 ?_ (p:=fun l => Nat.blt l 67) (σ:=id) ⟨fun _ _ => rfl,trivial,rfl,trivial,⟨rfl,rfl⟩,rfl,trivial,rfl,okV_bnd 3 _ rfl,fun x hx => by cases hx⟩
 show s'.O
 rw [show s'.O = _ from h3]
 simp only [rr, tt, he,and_true,true_and,and_self]
theorem boots_run (i j k : Nat) (p s t : Int) (d : List UInt8) (cs : List Nat) (rs : List Rl) (so : List Nat) (h1 : slOk i cs.length) (h2 : slOk j rs.length) (h3 : slOk k so.length) (n2 : ∀ x ∈ rs,RlOk x) (n3 : ∀ x ∈ so,x < 4294967296) :
  ∃ (call : CallK) (hs : Sy.Heap),SoundCall Try.prog call ∧ (∀ g b,Sy.look hs g = some b → Sy.look (inH i j k cs rs so) g = some b) ∧ hs.all (fun y => !y.2.rw) = true ∧ ∃ (T : List (Nat × Bool)) (q : Prop),obs (call 3 [inV i j k p s t d cs rs so] ⟨67,hs,[],0,T,0,True⟩) = some (.bool true,q) ∧ q:=by
 obtain ⟨a1,c1,q1⟩:=sl_form (g:=64) h1
 obtain ⟨a2,c2,q2⟩:=sl_form (g:=65) h2
 obtain ⟨a3,c3,q3⟩:=sl_form (g:=66) h3
 have hne : ∀ e : Int,(e != e) = false:=fun e => by simp
 have f3 : ∀ (xs : List Nat) (p : Nat → Bool),(u32s xs).all (okV p 3) = true:=fun xs p => flat_all (u32s_flat _)
 have f4 : ∀ (xs : List Nat) (σ : Nat → Nat),(u32s xs).map (rnV σ 3) = u32s xs:=fun xs σ => flat_map (u32s_flat _)
 have f1 : ∀ (p : Nat → Bool),(rels rs).all (okV p 3) = true:=fun p => flat_all (rels_flat rs)
 have f2 : ∀ (σ : Nat → Nat),(rels rs).map (rnV σ 3) = rels rs:=fun σ => flat_map (rels_flat rs)
 by_cases h0 : isLong cs.length d.length rs.length so.length = true ∨ cs.length = 0 ∨ so.length = 0
 ·have hv : inV i j k p s t d cs rs so = genI p s t d a1 a2 a3 cs.length rs.length so.length c1 c2 c3:=by unfold inV genI; rw [q1,q2,q3]
  rw [hv]
  have hok : okV (fun l => Nat.blt l 67) 3 (genI p s t d a1 a2 a3 cs.length rs.length so.length c1 c2 c3) = true:=by
   have b1 : okV (fun l => Nat.blt l 67) 2 (.slice a1 cs.length c1) = true:=by rw [← q1]; exact sl_okV rfl
   have b2 : okV (fun l => Nat.blt l 67) 2 (.slice a2 rs.length c2) = true:=by rw [← q2]; exact sl_okV rfl
   have b3 : okV (fun l => Nat.blt l 67) 2 (.slice a3 so.length c3) = true:=by rw [← q3]; exact sl_okV rfl
   show List.all [Value.int .i64 p,.int .i64 s,.int .i64 t,.slice a1 cs.length c1,.string ⟨⟨d⟩⟩,.slice a2 rs.length c2,.slice a3 so.length c3] (okV (fun l => Nat.blt l 67) 2) = true
   simp only [rr, tt, List.all_cons,List.all_nil,b1,b2,b3,Bool.and_true,Bool.true_and]
   rfl
  have hl:=layE_con p s t d a1 a2 a3 cs.length rs.length so.length c1 c2 c3 h0 hok
  have hc:=chkE_con p s t d a1 a2 a3 cs.length rs.length so.length c1 c2 c3 hok (by
   rcases h0 with h | h | h
   ·exact .inl h
   ·right; unfold isArg; simp [h]
   ·right; unfold isArg; simp [h])
  obtain ⟨e,he⟩ : ∃ e : Int,(bif isLong cs.length d.length rs.length so.length then (3 : Int) else 2) = e:=⟨_,rfl⟩
  have h0' : (e != 0) = true:=by rw [← he]; cases isLong cs.length d.length rs.length so.length <;> rfl
  rw [he] at hl hc
  have hb1:=bootE_con p s t e d a1 a2 a3 cs.length rs.length so.length c1 c2 c3 hok h0' hl
  have hb2:=rbootE_con p s t e d a1 a2 a3 cs.length rs.length so.length c1 c2 c3 hok h0' (rlayE_con p s t e d a1 a2 a3 cs.length rs.length so.length c1 c2 c3 hok h0' hc)
  have hr:=lb_e p s t e d a1 a2 a3 cs.length rs.length so.length c1 c2 c3 []
  refine ⟨_,[],run_ok (L:=100) ar_names (baseT_ok (selStepsT_ok fun x hx => ?_) (baseC_ok fun f args s c ρ q h hq => ?_)) (noLoop_ok _) 20,fun g b hb => (by cases hb),rfl,_,_,hr,?_⟩
  ·simp only [rr, tt, lbEM,List.mem_cons,List.not_mem_nil,or_false] at hx
   rcases hx with rfl | rfl
   ·exact ⟨hb1,⟨fun x hx => (by cases hx),fun x hx => (by cases hx)⟩⟩
   ·exact ⟨hb2,⟨fun x hx => (by cases hx),fun x hx => (by cases hx)⟩⟩
  ·unfold selLbW at h
   obtain ⟨h3,h4⟩:=bif_some h
   have h3:=eB h3
   subst h3
   cases h4
   exact lw_con.1
  ·simp only [rr, tt, hne,and_true,true_and,and_self]
 ·have hi : i = 2:=by have:=h1.1; have:=h1.2; omega
  have hk : k = 2:=by have:=h3.1; have:=h3.2; omega
  subst hi hk
  have hlf : isLong cs.length d.length rs.length so.length = false:=by
   cases hb : isLong cs.length d.length rs.length so.length
   ·rfl
   ·exact absurd (.inl hb) h0
  have hs4 : cs.length ≤ 4096 ∧ d.length ≤ 16384 ∧ rs.length ≤ 256 ∧ so.length ≤ 4:=by
   simp [isLong] at hlf
   omega
  have hi : ImOk rs so:=⟨n2,n3,by omega⟩
  obtain ⟨r1,r2,r3⟩:=r256_is (4 * cs.length)
  obtain ⟨r4,r5,r6⟩:=r256_is d.length
  by_cases hrs : rs = []
  ·subst hrs
   have em : EmOk a2 c2:=fun q d hq => by
    have : sl j 65 0 = .slice a2 0 c2:=q2
    rw [← this]; exact sl_okV (hq 65 (by omega))
   have hv : inV 2 j 2 p s t d cs [] so = genI p s t d (some ⟨64,0,none⟩) a2 (some ⟨66,0,none⟩) cs.length 0 so.length (big + 64) c2 (big + 66):=by
    unfold inV genI; rw [q2]; rfl
   rw [hv]
   have look6 : ∀ g b,Sy.look (btHY so) g = some b → Sy.look (inH 2 j 2 cs [] so) g = some b:=fun g b hb => by
    unfold btHY at hb
    rw [look_cons] at hb
    split at hb
    ·rename_i hg; subst hg; rw [← hb]; unfold inH slH; rcases j with _ | _ | j <;> rfl
    ·cases hb
   have hlay:=(lay_conY a2 c2 em p s t cs.length d so hi).drop
   by_cases he : errOf p s t cs.length d [] so = 0
   ·obtain ⟨e2,e4⟩:=err_all he
    have hrl:=rlayY_con a2 c2 em p s t cs.length d so hi hlf e2
    have e2':=e2
    simp [isArg] at e2'
    obtain ⟨P,rfl⟩:=Int.eq_ofNat_of_zero_le (show 0 ≤ p by omega)
    obtain ⟨S,rfl⟩:=Int.eq_ofNat_of_zero_le (show 0 ≤ s by omega)
    obtain ⟨T,rfl⟩:=Int.eq_ofNat_of_zero_le (show 0 ≤ t by omega)
    have hbig : layFrom S cs.length so.length d.length + 256 ≤ P * 256:=by
     simp [layBig] at e4
     exact e4
    have hfrom : r256 (4 * cs.length) + r256 d.length ≤ layFrom S cs.length so.length d.length:=by unfold layFrom; exact Nat.le_add_right _ _
    have hL : ConOk Try.prog 16 3 (layG (genJ P S T d a2 cs.length 0 so.length c2) (btHY so) (r256 (4 * cs.length)) (r256 (4 * cs.length)) (r256 d.length) (r256 (4 * cs.length) + r256 d.length) (S * so.length) (layFrom S cs.length so.length d.length) (P * 256 - layFrom S cs.length so.length d.length)):=by
     have:=hlay
     unfold layRes layV at this
     rw [he] at this
     exact this
    have hR : ConOk Try.prog 30 3 (layG (genJ P S T d a2 cs.length 0 so.length c2) (btHY so) (r256 (4 * cs.length)) (r256 (4 * cs.length)) (r256 d.length) (r256 (4 * cs.length) + r256 d.length) (S * so.length) (layFrom S cs.length so.length d.length) (P * 256 - layFrom S cs.length so.length d.length)):=by
     have:=hrl
     unfold layRes layV at this
     rw [he] at this
     exact this
    have hb1:=bootY_con P S T cs.length d a2 c2 em so _ _ _ _ _ _ _ hs4.2.2.2 (by omega) (by omega) (by omega) (by omega) (by omega) (by omega) hL
    have hb2:=rbootY_con P S T cs.length d a2 c2 em so _ _ _ _ _ _ _ (by omega) hs4.2.2.2 (by omega) (by omega) (by omega) (by omega) (by omega) (by omega) hR
    obtain ⟨l,hl⟩ : ∃ l,l = bo3 (r256 (4 * cs.length)) (r256 (4 * cs.length)) (r256 d.length) (r256 (4 * cs.length) + r256 d.length) S T so.length:=⟨_,rfl⟩
    have hll : l.length ≤ 1000:=by rw [hl]; have:=bo3_len (r256 (4 * cs.length)) (r256 (4 * cs.length)) (r256 d.length) (r256 (4 * cs.length) + r256 d.length) S T so.length; omega
    rw [← hl] at hb1 hb2
    have hr:=lb_y P S T cs.length d a2 c2 so l hll
    refine ⟨_,btHY so,run_ok (L:=100) ar_names (baseF_ok (selSteps_ok fun x hx => ?_) (noBase_ok _)) (lpEsc_ok _) 20,look6,rfl,_,_,hr,?_⟩
    ·simp only [rr, tt, lbL,List.mem_cons,List.not_mem_nil,or_false] at hx
     rcases hx with rfl | rfl | rfl
     ·exact ⟨hb1,btC_flat _ _ _⟩
     ·exact ⟨hb2,btC_flat _ _ _⟩
     ·exact lw_con
    ·simp only [rr, tt, hne,em_rn em,f3,f4,cp_all,cp_map,and_true,true_and,and_self]
   ·obtain ⟨e,hE⟩ : ∃ e : Nat,errOf p s t cs.length d [] so = e:=⟨_,rfl⟩
    rw [hE] at he
    have hb0 : Nat.beq e 0 = false:=by
     cases hb : Nat.beq e 0
     ·rfl
     ·exact absurd (eB hb) he
    have h0' : ((e : Int) != 0) = true:=by simp; omega
    have hL : ConOk Try.prog 16 3 (layEH (genI p s t d (some ⟨64,0,none⟩) a2 (some ⟨66,0,none⟩) cs.length 0 so.length (big + 64) c2 (big + 66)) (btHY so) (e : Nat)):=by
     have:=hlay
     unfold layRes layV at this
     rw [hE] at this
     simp only [rr, tt, pe,hb0,cond_false] at this
     exact this
    have hb1:=bootEY_con p s t (e : Nat) d a2 c2 em cs.length so h0' hL
    by_cases ha : isArg p s t cs.length so.length = false
    ·have hR : ConOk Try.prog 30 3 (layEH (genI p s t d (some ⟨64,0,none⟩) a2 (some ⟨66,0,none⟩) cs.length 0 so.length (big + 64) c2 (big + 66)) (btHY so) (e : Nat)):=by
      have:=rlayY_con a2 c2 em p s t cs.length d so hi hlf ha
      unfold layRes layV at this
      rw [hE] at this
      simp only [rr, tt, pe,hb0,cond_false] at this
      exact this
     have hb2:=rbootEY_con p s t (e : Nat) d a2 c2 em cs.length so h0' hR
     have hr:=lb_ey p s t (e : Nat) d a2 c2 cs.length so
     refine ⟨_,btHY so,run_ok (L:=100) ar_names (baseF_ok (selSteps_ok fun x hx => ?_) (noBase_ok _)) (noLoop_ok _) 20,look6,rfl,_,_,hr,?_⟩
     ·simp only [rr, tt, lbEL,List.mem_cons,List.not_mem_nil,or_false] at hx
      rcases hx with rfl | rfl | rfl
      ·exact ⟨hb1,⟨fun x hx => (by cases hx)⟩⟩
      ·exact ⟨hb2,⟨fun x hx => (by cases hx)⟩⟩
      ·exact lw_con
     ·simp only [rr, tt, hne,em_rn em,f3,f4,and_true,true_and,and_self]
    ·have ha' : isArg p s t cs.length so.length = true:=by
      cases hb : isArg p s t cs.length so.length
      ·exact absurd hb ha
      ·rfl
     have h2e : (e : Int) = 2:=by
      rw [← hE]
      unfold errOf
      rw [show isLong cs.length d.length ([] : List Rl).length so.length = false from hlf,ha']
      rfl
     have hok : okV (fun l => Nat.blt l 67) 3 (genI p s t d (some ⟨64,0,none⟩) a2 (some ⟨66,0,none⟩) cs.length 0 so.length (big + 64) c2 (big + 66)) = true:=genJ_ok rfl rfl _ _ _ _ (em _ 2 fun l hl => blt_yes hl) _ _
     have hc:=chkE_con p s t d (some ⟨64,0,none⟩) a2 (some ⟨66,0,none⟩) cs.length 0 so.length (big + 64) c2 (big + 66) hok (.inr ha')
     rw [show isLong cs.length d.length 0 so.length = false from hlf,cond_false,← h2e] at hc
     have hb2:=rbootE_con p s t (e : Nat) d (some ⟨64,0,none⟩) a2 (some ⟨66,0,none⟩) cs.length 0 so.length (big + 64) c2 (big + 66) hok h0' (rlayE_con p s t (e : Nat) d (some ⟨64,0,none⟩) a2 (some ⟨66,0,none⟩) cs.length 0 so.length (big + 64) c2 (big + 66) hok h0' hc)
     have hr:=lb_ex p s t (e : Nat) d a2 c2 cs.length so
     refine ⟨_,btHY so,run_ok (L:=100) ar_names (baseF_ok (selSteps_ok fun x hx => ?_) (noBase_ok _)) (noLoop_ok _) 20,look6,rfl,_,_,hr,?_⟩
     ·simp only [rr, tt, lbEX,List.mem_cons,List.not_mem_nil,or_false] at hx
      rcases hx with rfl | rfl | rfl
      ·exact ⟨hb1,⟨fun x hx => (by cases hx)⟩⟩
      ·exact ⟨hb2,⟨fun x hx => (by cases hx)⟩⟩
      ·exact lw_con
     ·simp only [rr, tt, hne,em_rn em,f3,f4,and_true,true_and,and_self]
  ·have hj : j = 2:=by
    have hne0 : rs.length ≠ 0:=fun h => hrs (List.length_eq_zero_iff.1 h)
    have:=h2.1; have:=h2.2; omega
   subst hj
   have look6 : ∀ g b,Sy.look (btH rs so) g = some b → Sy.look (inH 2 2 2 cs rs so) g = some b:=fun g b hb => by
    unfold btH at hb
    rw [look_cons] at hb
    split at hb
    ·rename_i hg; subst hg; rw [← hb]; rfl
    ·rw [look_cons] at hb
     split at hb
     ·rename_i hg; subst hg; rw [← hb]; rfl
     ·cases hb
   have hlay:=(lay_con p s t cs.length d rs so hi).drop
   have hrl:=rlay_con p s t cs.length d rs so hi
   by_cases he : errOf p s t cs.length d rs so = 0
   ·obtain ⟨e2,e4⟩:=err_all he
    have e2':=e2
    simp [isArg] at e2'
    obtain ⟨P,rfl⟩:=Int.eq_ofNat_of_zero_le (show 0 ≤ p by omega)
    obtain ⟨S,rfl⟩:=Int.eq_ofNat_of_zero_le (show 0 ≤ s by omega)
    obtain ⟨T,rfl⟩:=Int.eq_ofNat_of_zero_le (show 0 ≤ t by omega)
    have hbig : layFrom S cs.length so.length d.length + 256 ≤ P * 256:=by
     simp [layBig] at e4
     exact e4
    have hfrom : r256 (4 * cs.length) + r256 d.length ≤ layFrom S cs.length so.length d.length:=by unfold layFrom; exact Nat.le_add_right _ _
    have hL : ConOk Try.prog 16 3 (layG (genJ P S T d (some ⟨65,0,none⟩) cs.length rs.length so.length (big + 65)) (btH rs so) (r256 (4 * cs.length)) (r256 (4 * cs.length)) (r256 d.length) (r256 (4 * cs.length) + r256 d.length) (S * so.length) (layFrom S cs.length so.length d.length) (P * 256 - layFrom S cs.length so.length d.length)):=by
     have:=hlay
     unfold layRes layV at this
     rw [he] at this
     exact this
    have hR : ConOk Try.prog 30 3 (layG (genJ P S T d (some ⟨65,0,none⟩) cs.length rs.length so.length (big + 65)) (btH rs so) (r256 (4 * cs.length)) (r256 (4 * cs.length)) (r256 d.length) (r256 (4 * cs.length) + r256 d.length) (S * so.length) (layFrom S cs.length so.length d.length) (P * 256 - layFrom S cs.length so.length d.length)):=by
     have:=hrl
     unfold layRes layV at this
     rw [he] at this
     exact this
    have hb1:=bootF_con P S T cs.length d rs so _ _ _ _ _ _ _ hs4.2.2.2 (by omega) (by omega) hs4.2.2.1 n2 (by omega) (by omega) (by omega) (by omega) hL
    have hb2:=rbootF_con P S T cs.length d rs so _ _ _ _ _ _ _ (by omega) hs4.2.2.2 (by omega) (by omega) hs4.2.2.1 n2 (by omega) (by omega) (by omega) (by omega) hR
    obtain ⟨l,hl⟩ : ∃ l,l = bootL (r256 (4 * cs.length)) (r256 (4 * cs.length)) (r256 d.length) (r256 (4 * cs.length) + r256 d.length) S T so.length rs:=⟨_,rfl⟩
    have hll : l.length ≤ 1000:=by
     rw [hl]; have:=bo3_len (r256 (4 * cs.length)) (r256 (4 * cs.length)) (r256 d.length) (r256 (4 * cs.length) + r256 d.length) S T so.length
     unfold bootL; rw [List.length_append,rlL_len]; omega
    rw [← hl] at hb1 hb2
    have hr:=lb_f P S T cs.length d rs so l hll
    refine ⟨_,btH rs so,run_ok (L:=100) ar_names (baseF_ok (selSteps_ok fun x hx => ?_) (noBase_ok _)) (lpEsc_ok _) 20,look6,rfl,_,_,hr,?_⟩
    ·simp only [rr, tt, lbL,List.mem_cons,List.not_mem_nil,or_false] at hx
     rcases hx with rfl | rfl | rfl
     ·exact ⟨hb1,btC_flat _ _ _⟩
     ·exact ⟨hb2,btC_flat _ _ _⟩
     ·exact lw_con
    ·simp only [rr, tt, hne,f1,f2,f3,f4,cp_all,cp_map,and_true,true_and,and_self]
   ·obtain ⟨e,hE⟩ : ∃ e : Nat,errOf p s t cs.length d rs so = e:=⟨_,rfl⟩
    rw [hE] at he
    have hb0 : Nat.beq e 0 = false:=by
     cases hb : Nat.beq e 0
     ·rfl
     ·exact absurd (eB hb) he
    have h0' : ((e : Int) != 0) = true:=by simp; omega
    have hL : ConOk Try.prog 16 3 (layEH (genI p s t d (some ⟨64,0,none⟩) (some ⟨65,0,none⟩) (some ⟨66,0,none⟩) cs.length rs.length so.length (big + 64) (big + 65) (big + 66)) (btH rs so) (e : Nat)):=by
     have:=hlay
     unfold layRes layV at this
     rw [hE] at this
     simp only [rr, tt, pe,hb0,cond_false] at this
     exact this
    have hR : ConOk Try.prog 30 3 (layEH (genI p s t d (some ⟨64,0,none⟩) (some ⟨65,0,none⟩) (some ⟨66,0,none⟩) cs.length rs.length so.length (big + 64) (big + 65) (big + 66)) (btH rs so) (e : Nat)):=by
     have:=hrl
     unfold layRes layV at this
     rw [hE] at this
     simp only [rr, tt, pe,hb0,cond_false] at this
     exact this
    have hb1:=bootEF_con p s t (e : Nat) d cs.length rs so h0' hL
    have hb2:=rbootEF_con p s t (e : Nat) d cs.length rs so h0' hR
    have hr:=lb_ef p s t (e : Nat) d cs.length rs so
    refine ⟨_,btH rs so,run_ok (L:=100) ar_names (baseF_ok (selSteps_ok fun x hx => ?_) (noBase_ok _)) (noLoop_ok _) 20,look6,rfl,_,_,hr,?_⟩
    ·simp only [rr, tt, lbEL,List.mem_cons,List.not_mem_nil,or_false] at hx
     rcases hx with rfl | rfl | rfl
     ·exact ⟨hb1,⟨fun x hx => (by cases hx)⟩⟩
     ·exact ⟨hb2,⟨fun x hx => (by cases hx)⟩⟩
     ·exact lw_con
    ·simp only [rr, tt, hne,f1,f2,f3,f4,and_true,true_and,and_self]
theorem loaderBoots_law : LawWalk 3 Try.f3:=by
 intro H enc W base args ds p hval hA
 rw [Try.params3] at hA hval
 obtain ⟨v0,vs0,d0,ds0,p0,q0,hargs,rfl,rfl,h0,r0⟩:=trodAll_cons hA
 obtain ⟨rfl,rfl,rfl⟩:=trodAll_nil r0
 obtain rfl : args = #[v0]:=by cases args; simp_all
 obtain ⟨pages,stack,types,data,cs,rs,starts,v1,v2,v3,i,j,k,B1,O1,C1,B2,O2,C2,B3,O3,C3,S1,S2,S3,rfl,s1,s2,s3,n1,n2,n3⟩:=open_img (hval 0 _ v0 rfl rfl) h0
 obtain ⟨call,hs,hc,hsub,hro,hr⟩:=boots_run i j k pages stack types data cs rs starts s1.ok s2.ok s3.ok n2 n3
 exact img_walkS hc s1 s2 s3 hsub hro hr
set_option maxRecDepth 100000 in
theorem loaderBoots_proved : Rows.LoaderBootsSaid :=
 OpenClaim.holds_of_wide 3 Try.f3 rfl rfl rfl rfl rfl rfl rfl ⟨rfl,rfl,rfl,rfl,rfl⟩ rfl rfl rfl rfl rfl (by kernel_rfl) Try.func3 (by kernel_rfl)
  (of_decide_eq_true (by kernel_rfl)) (by unfold Func.isWrapper; first | (rw [if_pos (by decide +kernel)]; kernel_rfl) | (rw [if_neg (by decide +kernel)]; exact ⟨rfl,rfl⟩))
  (fun os started H enc _ => law_lifted 3 Try.f3 Rows.loaderBootsSpec Rows.loaderBootsRow.domain Try.func3 (by kernel_rfl) rfl rfl
   (fun H ds hd => by match ds,hd with | [d0],_ => exact ⟨rfl,rfl,rfl⟩) (by decide +kernel) loaderBoots_law os started H enc
   (ChangeSpec.witness6 (enc:=enc) (C:=Try.checked) false ⟨#[],#[.agg #[.int .i64 0,.int .i64 0,.int .i64 0,.slice none 0 0,.string ByteArray.empty,.slice none 0 0,.slice none 0 0]],[]⟩ 8 (by kernel_rfl) (by kernel_rfl) (by kernel_rfl) (by kernel_rfl)))
end Go.Proofs.Ytliidiceljdgmaa
#print axioms Go.Proofs.Ytliidiceljdgmaa.loaderBoots_proved
