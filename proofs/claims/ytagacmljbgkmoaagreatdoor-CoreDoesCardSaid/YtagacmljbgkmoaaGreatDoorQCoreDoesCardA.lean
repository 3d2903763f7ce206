/-
  CoreDoesCard: part 1 of the proof.
-/
import Derived.Below
import Derived.IntWalk
import Derived.KernelRfl
import Derived.Laws.Append
import Derived.Laws.AppendOwn
import Derived.Laws.BytesString
import Derived.Laws.Cells
import Derived.Laws.Concat
import Derived.Laws.Entries
import Derived.Laws.IdiomStrings
import Derived.Laws.Sem
import Derived.Laws.Strings
import Derived.Laws.Strings2
import Derived.Laws.StructEq
import Derived.LoopN
import Derived.Orders
set_option linter.unusedSimpArgs false
set_option linter.unusedVariables false
set_option linter.unusedSectionVars false
namespace Go.Proofs.YtagacmljbgkmoaaGreatDoor
@[simp] abbrev rr {α : Sort _} (a : α) : Prop := a = a
@[simp] abbrev tt : Prop := true = true
structure Bx (p : Prop) : Type where
 v : p
theorem oB {α β : Type _} {o : Option α} {f : α → Option β} {b : β} (h : o.bind f = some b) : ∃ a, o = some a ∧ f a = some b := Option.bind_eq_some_iff.1 h
theorem oM {α β : Type _} {o : Option α} {f : α → β} {b : β} (h : o.map f = some b) : ∃ a, o = some a ∧ f a = b := Option.map_eq_some_iff.1 h
theorem eB {a b : Nat} (h : Nat.beq a b = true) : a = b := Nat.eq_of_beq_eq_true h
theorem aI {a b : Prop} (x : a) (y : b) : a ∧ b := ⟨x, y⟩
theorem lR {p : Prop} [Decidable p] (h : p) : decide p = true := decide_eq_true h
theorem dF {p : Prop} [Decidable p] (h : ¬ p) : decide p = false := decide_eq_false h
theorem tN (n : Nat) : (n : Int).toNat = n := rfl
def tb (n m : Nat) : List (Nat × Bool) := (List.range n).map fun i => (i, Nat.testBit m i)
end Go.Proofs.YtagacmljbgkmoaaGreatDoor
namespace Go.Proofs.YtagacmljbgkmoaaGreatDoor.Sy
open Go.IntKind (u8 u16 u32 u64 i64)
open Go.RowKit
def NG:Nat:=64
structure Ren where
 b:Nat→Nat
 w:Nat→Nat
 o:Nat→Nat×Option Nat
 c:Nat→Nat
 d:Nat→Bool
 hb:∀ g,g<NG→b g=g
 hw:∀ g,g<NG→w g=0
 hd:∀ g,g<NG→d g=true
def big:Nat:=9223372036854775808
def Ren.addr (r:Ren) (a:Addr):Addr :=
 ⟨r.b a.block,(match a.spot with|none=>r.w a.block+a.off|some k=>(r.o k).1),(match a.spot with|none=>none|some k=>(r.o k).2)⟩
def Ren.cap (r:Ren) (c:Nat):Nat:=bif Nat.blt c big then c else r.c (c-big)
def Ren.val (r:Ren):Value→Value
 | .pointer a => .pointer (a.map r.addr)
 | .slice a l c => .slice (a.map r.addr) l (r.cap c)
 | .func fn fs cs => .func fn (fs.map fun v=>Ren.val r v) (cs.map fun v=>Ren.val r v)
 | .iface t v => .iface t (Ren.val r v)
 | .agg cs => .agg (cs.map fun v=>Ren.val r v)
 | .tuple vs => .tuple (vs.map fun v=>Ren.val r v)
 | v=>v
termination_by v=>SizeOf.sizeOf v
def Ut (n:Nat→Bool) (a:Addr):Bool:=n a.block&&(match a.spot with|none=>true|some k=>n k)
def bnd (n:Nat→Bool):Value→Bool
 | .pointer (some a)=>Ut n a
 | .slice a _ c=>(match a with|some a=>Ut n a|none=>true)&&(Nat.blt c big||n (c-big))
 | .func fn fs cs=>(match fn with | .yield _=>false|_=>true)&&(fs.attach.all fun v=>bnd n v.1)&&(cs.attach.all fun v=>bnd n v.1)
 | .iface _ v=>bnd n v
 | .agg cs=>cs.attach.all fun v=>bnd n v.1
 | .tuple vs=>vs.attach.all fun v=>bnd n v.1
 | .map (some _)=>false
 | .chan (some _)=>false
 | _=>true
termination_by v=>SizeOf.sizeOf v
decreasing_by
 all_goals simp_wf
 all_goals (first|(have:=Array.sizeOf_lt_of_mem v.2; omega)|omega)
def ZFi {α:Type}:List α→Nat→Nat
 | [],n=>n
 | _::l,n=>bif Nat.beq n n then ZFi l (n+1) else 0
def Yf {α:Type} (l:List α):Nat:=ZFi l 0
def Qm:Value→Bool
 | .bool _=>true
 | .int _ _=>true
 | .float _ _=>true
 | .complex _ _ _=>true
 | .string _=>true
 | .nilFunc=>true
 | .nilIface=>true
 | .pointer none=>true
 | .map none=>true
 | .chan none=>true
 | .slice none _ c=>Nat.blt c big
 | _=>false
def Uv:Value→Bool
 | .agg cs=>cs.toList.all Qm
 | v=>Qm v
def XD:Value→Bool
 | .tuple vs=>vs.toList.all Uv
 | v=>Uv v
def Vq (P:Program) {α:Type}:Sem α→Option α
 | .pure a=>some a
 | .program k=>Vq P (k P)
 | .mark _ k=>Vq P k
 | _=>none
def Zt {α:Type} (d:α):List α→Nat→α
 | [],_=>d
 | x::_,0=>x
 | _::l,n+1=>Zt d l n
def Zg8 {α:Type} (d:α):List α→Nat→α→List α
 | [],0,v=>[v]
 | [],n+1,v=>d::Zg8 d [] n v
 | _::l,0,v=>v::l
 | x::l,n+1,v=>x::Zg8 d l n v
abbrev Env:=List (List Value)
def KL (e:Env) (t:Nat):Value:=Zt undef (Zt [] e (t/16)) (t%16)
def ZFj (e:Env) (t:Nat) (v:Value):Env:=Zg8 [] e (t/16) (Zg8 undef (Zt [] e (t/16)) (t%16) v)
structure Blk where
 rw:Bool
 op:Option (Nat×Nat)
 cells:List Value
 it:Option (ByteArray×Nat)
def Zow:Option (ByteArray×Nat)→Bool
 | none=>true
 | some _=>false
abbrev Heap:=List (Nat×Blk)
def look:Heap→Nat→Option Blk
 | [],_=>none
 | x::h,g=>bif Nat.beq x.1 g then some x.2 else look h g
def upd:Heap→Nat→List Value→Heap
 | [],_,_=>[]
 | x::h,g,cs=>bif Nat.beq x.1 g then(x.1,{ x.2 with cells:=cs })::h else x::upd h g cs
def Zz9:Heap→Nat→ByteArray×Nat→Heap
 | [],_,_=>[]
 | x::h,g,i=>bif Nat.beq x.1 g then(x.1,{ x.2 with it:=some i })::Zz9 h g i else x::Zz9 h g i
structure St where
 n:Nat
 h:Heap
 lo:List (Nat×Nat)
 esc:Nat
 T:List (Nat×Bool)
 k:Nat
 O:Prop
def test (t:Bool) (s:St):Bool×St :=
 match s.T with
 | []=>(t,s)
 | c::T=>bif Nat.beq c.1 s.k then(c.2,{ s with T:=T,k:=s.k+1,O:=s.O∧t=c.2 }) else(t,{ s with k:=s.k+1 })
def ask (t:Bool) (s:St):Bool×St:=(true,{ s with O:=bif t then s.O else False })
def WK:Nat→List Value→Bool
 | 0,_=>true
 | _+1,[]=>false
 | n+1,_::l=>WK n l
def YU:Nat→List Value→List Value→List Value
 | _,_,[]=>[]
 | 0,[],x::l=>x::l
 | 0,v::vs,_::l=>v::YU 0 vs l
 | n+1,vs,x::l=>x::YU n vs l
def ZFk:List (Nat×Nat)→Nat→Nat
 | [],_=>0
 | x::l,k=>bif Nat.beq x.1 k then x.2 else ZFk l k
def Zox (s:St) (c:Nat):Nat:=bif Nat.blt c big then c else ZFk s.lo (c-big)
def J0 (s:St) (op:Option (Nat×Nat)) (cells:List Value):St :=
 {s with n:=s.n+1,h:=(s.n,⟨true,op,cells,none⟩)::s.h }
def Zj8 (l:List Value):Bool:=l.all fun v=>v.oneCell'
def ptr (g o:Nat):Value:=.pointer (some ⟨g,o,none⟩)
abbrev Res:=Option (Value×St)
def Zbk (s:St) (a:Addr) (n:Nat):Option (List Value×St) :=
 match a.spot with
 | some _=>none
 | none=>(look s.h a.block).bind fun k=>bif Zow k.it then some ((k.cells.drop a.off).take n,(ask (WK (a.off+n) k.cells) s).2) else none
def Zcr (sc:Bool) (s:St) (a:Addr) (vs:List Value):Option St :=
 match a.spot with
 | some _=>none
 | none=>(look s.h a.block).bind fun k =>
  bif k.rw&&Zow k.it then
   some { (ask (WK (a.off+Yf vs) k.cells&&Zj8 vs&&(!sc||vs.all Qm)) s).2 with h:=upd s.h a.block (YU a.off vs k.cells),esc:=bif sc then s.esc else bif vs.all Qm then s.esc else Nat.min s.esc a.block }
  else none
def ZAa:Value→Bool
 | .int _ _=>true
 | .bool _=>true
 | .string _=>true
 | .float _ _=>true
 | _=>false
def aggD:TypeDesc→Bool
 | .struct _=>true
 | .array _ _=>true
 | _=>false
def ZpI (P:Program) (t:TypeId):Option Bool:=(P.underlying t).map aggD
def ZaL (P:Program) (t:TypeId):Option Nat:=(P.info? t).map fun i=>i.size
def ZpJ (P:Program) (t:TypeId):Option Nat:=(P.info? t).map fun i=>i.bytes
def Zj9 (P:Program) (t:TypeId):Option Value :=
 (P.info? t).bind fun i=>i.zero.bind fun z=>bif z.cells.toList.all Qm&&Uv z then some z else none
def Qd:Value→Int
 | .int _ n=>n
 | _=>0
def Z0:Value→Bool
 | .bool b=>b
 | _=>false
def ZmL:Value→ByteArray
 | .string b=>b
 | _=>⟨#[]⟩
def like:Value→Value→Value
 | .int k _,v => .int k (Qd v)
 | .bool _,v => .bool (Z0 v)
 | .string _,v => .string (ZmL v)
 | _,v=>v
def ZmM:Value→Value→Bool
 | .int k _,.int j _=>decide (k=j)
 | .int _ _,_=>false
 | .bool _,.bool _=>true
 | .bool _,_=>false
 | .string _,.string _=>true
 | .string _,_=>false
 | _,_=>true
def Zfu:List Value→List Value→Nat→List Value
 | [],_,_=>[]
 | z::zs,cs,o=>like z (Zt undef cs o)::Zfu zs cs (o+1)
def Zz:List Value→List Value→Nat→Bool
 | [],_,_=>true
 | z::zs,cs,o=>ZmM z (Zt undef cs o)&&Zz zs cs (o+1)
def ZeC (P:Program) (s:St) (t:TypeId) (a:Addr):Res :=
 (ZpI P t).bind fun g=>(Zj9 P t).bind fun z =>
  match a.spot with
  | some _=>none
  | none=>(look s.h a.block).bind fun k =>
   bif Zow k.it then
    bif g then(ZaL P t).bind fun n=>bif Nat.beq n (Yf z.cells.toList) then some (.agg ⟨Zfu z.cells.toList k.cells a.off⟩,(ask (WK (a.off+Yf z.cells.toList) k.cells&&Zz z.cells.toList k.cells a.off) s).2) else none
    else match Zfu z.cells.toList k.cells a.off with
     | [v]=>some (v,(ask (WK (a.off+Yf z.cells.toList) k.cells&&Zz z.cells.toList k.cells a.off) s).2)
     | _=>none
   else none
def Zdt (P:Program) (s:St) (t:TypeId) (a:Addr) (v:Value):Option St :=
 (ZaL P t).bind fun n=>bif Nat.beq v.cells.size n then Zcr false s a v.cells.toList else none
def Zih (P:Program) (t:TypeId) (cs:List Value) (off:Nat):Option Value :=
 (ZpI P t).bind fun g =>
  bif g then(ZaL P t).map fun n => .agg ⟨(cs.drop off).take n⟩
  else cs[off]?
def unk:Value:=.tuple #[.tuple #[]]
def isE:Value→Bool
 | .tuple vs=>match vs.toList with|[]=>true|_=>false
 | _=>false
def isU:Value→Bool
 | .tuple vs=>match vs.toList with|[x]=>isE x|_=>false
 | _=>false
def opd (e:Env):Operand→Option Value
 | .tmp t=>bif isU (KL e t) then none else some (KL e t)
 | .const v=>bif Uv v then some v else none
 | .func f=>some (.func (.func f) #[] #[])
 | .global g=>bif Nat.blt g NG then some (.pointer (some ⟨g,0,none⟩)) else none
def ZBc (e:Env):List Operand→Option (List Value)
 | []=>some []
 | x::l=>(opd e x).bind fun v=>(ZBc e l).map fun vs=>v::vs
def Zrm (e:Env):List (Nat×Operand)→Option (List (Nat×Value))
 | []=>some []
 | x::l=>(opd e x.2).bind fun v=>(Zrm e l).map fun vs=>(x.1,v)::vs
def ZE6 (e:Env):Option Operand→Option (Option Value)
 | none=>some none
 | some x=>(opd e x).map some
def opT (e:Env) (x:Operand):Value:=(opd e x).getD undef
def Zf4 (P:Program) (e:Env) (s:St) (o:Oper):Res :=
 bif o.op.operands.toList.all fun x=>match opd e x with|some v=>Uv v|none=>false then
  (Vq P (execOp (opT e) o)).bind fun x=>match x with
   | .value v=>bif Uv v then some (v,s) else none
   | _=>none
 else none
def Zoy (place:Nat→Option (Nat×Nat)):List Value→List (Nat×Value)→Option (List Value)
 | cells,[]=>some cells
 | cells,x::rest=>(place x.1).bind fun p =>
  bif Nat.beq x.2.cells.size p.2&&WK (p.1+p.2) cells&&Zj8 x.2.cells.toList then Zoy place (YU p.1 x.2.cells.toList cells) rest else none
def ZiG (P:Program):List Field→Option (List (Nat×Nat))
 | []=>some []
 | f::l=>(ZaL P f.type).bind fun n=>(ZiG P l).map fun r=>(f.offset,n)::r
def ZsM (P:Program) (t:TypeId) (parts:List (Nat×Value)):Option Value :=
 (Zj9 P t).bind fun z=>(P.underlying t).bind fun d=>match d with
  | .struct fields=>(ZiG P fields.toList).bind fun pl=>(Zoy (fun i=>pl[i]?) z.cells.toList parts).map fun l => .agg ⟨l⟩
  | .array _ elem=>(ZaL P elem).bind fun n=>(Zoy (fun i=>some (i*n,n)) z.cells.toList parts).map fun l => .agg ⟨l⟩
  | _=>none
def Zii:Nat→List Value→List Value
 | 0,_=>[]
 | n+1,z=>z++Zii n z
def U8 (P:Program) (t:TypeId):Option TypeId :=
 (P.underlying t).bind fun d=>match d with | .slice e=>some e|_=>none
def Zcs (P:Program) (s:St) (t:TypeId) (len:Nat) (parts:List (Nat×Value)):Res :=
 (U8 P t).bind fun elem=>(ZaL P elem).bind fun n=>(Zj9 P elem).bind fun z =>
  bif Nat.ble (len*n) 16777216&&Nat.beq z.cells.size n&&Nat.blt 0 n&&Nat.blt len big then
   (Zoy (fun i=>some (i*n,n)) (Zii len z.cells.toList) parts).map fun l =>
    (.slice (some ⟨s.n,0,none⟩) len len,J0 s none l)
  else none
def ZAb (a:Addr) (n:Nat):Addr:=⟨a.block,a.off+n,none⟩
def Zg9 (P:Program) (t:TypeId) (x:Value) (f:Nat):Option Value :=
 match x with
 | .pointer (some a)=>match a.spot with
  | some _=>none
  | none=>(P.underlying t).bind fun d=>match d with
   | .struct fields=>(fields.toList[f]?).bind fun fd=>(ZaL P fd.type).bind fun n =>
    bif Nat.beq n 0 then none else some (.pointer (some (ZAb a fd.offset)))
   | _=>none
 | _=>none
def Zij (i:Int) (n:Nat):Bool:=decide (0≤i)&&decide (i<n)
def Zrn (i:Int) (n:Nat):Bool:=decide (0≤i)&&decide (i≤n)
def ZeD (P:Program) (s:St) (t:TypeId) (x ix:Value):Res :=
 match ix with
 | .int _ i=>(P.underlying t).bind fun d=>match d,x with
  | .array len elem,.pointer (some a)=>match a.spot with
   | some _=>none
   | none=>(ZaL P elem).bind fun n=>bif (ask (Zij i len) s).1 then some (.pointer (some (ZAb a (i.toNat*n))),(ask (Zij i len) s).2) else none
  | .slice elem,.slice (some a) len _=>match a.spot with
   | some _=>none
   | none=>(ZaL P elem).bind fun n=>bif (ask (Zij i len) s).1 then some (.pointer (some (ZAb a (i.toNat*n))),(ask (Zij i len) s).2) else none
  | _,_=>none
 | _=>none
def ZpK (P:Program) (s:St) (t:TypeId) (x ix:Value):Res :=
 match ix with
 | .int _ i=>(P.underlying t).bind fun d=>match d,x with
  | .array len elem,.agg cs=>(ZaL P elem).bind fun n =>
   bif (ask (Zij i len) s).1 then(Zih P elem cs.toList (i.toNat*n)).map fun v=>(v,(ask (Zij i len) s).2) else none
  | .string,.string b =>
   some (.int .u8 ((b.data.toList.getD i.toNat 0).toNat:Nat),(ask (Zij i (Yf b.data.toList)) s).2)
  | _,_=>none
 | _=>none
def ZsN (P:Program) (t:TypeId) (x:Value) (f:Nat):Option Value :=
 match x with
 | .agg cs=>(P.underlying t).bind fun d=>match d with
  | .struct fields=>(fields.toList[f]?).bind fun fd=>Zih P fd.type cs.toList fd.offset
  | _=>none
 | _=>none
def Zll (x:Value) (i:Nat):Option Value :=
 match x with
 | .tuple vs=>vs.toList[i]?
 | _=>none
def ZmN (x:Value):Option Value :=
 match x with
 | .pointer (some a)=>some (.pointer (some a))
 | .func (.func f) a b=>some (.func (.func f) a b)
 | _=>none
def Zdu (s:St) (d:Nat) (top:Nat):Option Value→Option (Nat×St)
 | none=>some (d,s)
 | some (.int _ i)=>bif (ask (Zrn i top) s).1 then some (i.toNat,(ask (Zrn i top) s).2) else none
 | some _=>none
def Zws (s:St) (m:Nat):St:={ s with n:=s.n+1,lo:=(s.n,m)::s.lo }
def ZAc (s:St) (a:Addr) (from_:Bool) (l h top size:Nat):Res :=
 bif from_ then
  match a.spot with
  | some _=>some (.slice (some ⟨a.block,0,some s.n⟩) (h-l) (big+s.n),Zws s (top-l))
  | none=>bif (test (Nat.blt l top) s).1 then some (.slice (some (ZAb a (l*size))) (h-l) (big+s.n),Zws (test (Nat.blt l top) s).2 (top-l))
   else some (.slice (some ⟨a.block,0,some s.n⟩) (h-l) (big+s.n),Zws (test (Nat.blt l top) s).2 (top-l))
 else some (.slice (some a) h (big+s.n),Zws s top)
def Zha (s:St) (a:Option Addr) (len cap size:Nat) (lo hi mx:Option Value):Res :=
 match mx with
 | some m=>(Zdu s 0 (Zox s cap) (some m)).bind fun m=>(match hi with|none=>none|some h=>Zdu m.2 0 m.1 (some h)).bind fun h=>(Zdu h.2 0 h.1 lo).bind fun l =>
  match a with
  | none=>bif Nat.blt m.1 big then some (.slice none (h.1-l.1) (m.1-l.1),l.2) else none
  | some a=>ZAc l.2 a lo.isSome l.1 h.1 m.1 size
 | none=>(Zdu s len (Zox s cap) hi).bind fun h=>(Zdu h.2 0 h.1 lo).bind fun l =>
  match a with
  | none=>bif Nat.blt cap big then some (.slice none (h.1-l.1) (cap-l.1),l.2) else none
  | some a=>match lo with
   | none=>some (.slice (some a) h.1 cap,l.2)
   | some _=>ZAc l.2 a true l.1 h.1 (Zox s cap) size
def Zhb (s:St) (a:Addr) (n size:Nat) (lo hi mx:Option Value):Res :=
 match a.spot with
 | some _=>none
 | none=>bif Nat.blt n big then Zha s (some a) n n size lo hi mx else none
def ZiH (s:St) (b:ByteArray) (lo hi:Option Value):Res :=
 (Zdu s (Yf b.data.toList) (Yf b.data.toList) hi).bind fun h=>(Zdu h.2 0 h.1 lo).bind fun l =>
  some (.string ⟨⟨(b.data.toList.drop l.1).take (h.1-l.1)⟩⟩,l.2)
def ZmO (P:Program) (s:St) (t:TypeId) (x:Value) (lo hi mx:Option Value):Res :=
 (P.underlying t).bind fun d=>match d,x with
  | .array n elem,.pointer (some a)=>(ZaL P elem).bind fun size=>Zhb s a n size lo hi mx
  | .string,.string b=>match mx with|none=>ZiH s b lo hi|some _=>none
  | .slice elem,.slice a len cap=>(ZaL P elem).bind fun size=>Zha s a len cap size lo hi mx
  | .pointer arr,.pointer (some a)=>(P.underlying arr).bind fun d=>match d with
   | .array n elem=>(ZaL P elem).bind fun size=>Zhb s a n size lo hi mx
   | _=>none
  | _,_=>none
def ZeE (P:Program) (s:St) (t:TypeId) (l c:Value):Res :=
 match l,c with
 | .int _ l,.int _ c=>(U8 P t).bind fun elem=>(ZaL P elem).bind fun n=>(ZpJ P elem).bind fun by_=>(Zj9 P elem).bind fun z =>
  bif (ask (decide (0≤l)&&decide (l≤c)&&decide (by_*c≤140737488355328)&&decide (c<9223372036854775808)) s).1&&Nat.beq z.cells.size n&&Nat.blt 0 n then
   some (.slice (some ⟨s.n,0,none⟩) l.toNat (big+s.n),{ J0 (ask (decide (0≤l)&&decide (l≤c)&&decide (by_*c≤140737488355328)&&decide (c<9223372036854775808)) s).2 (some (s.n,n)) (Zii c.toNat z.cells.toList) with lo:=(s.n,c.toNat)::s.lo })
  else none
 | _,_=>none
def Zis (s:St) (b:ByteArray):Res :=
 some (.slice (some ⟨s.n,0,none⟩) (Yf b.data.toList) (big+s.n),
  {J0 s (some (s.n,1)) (b.data.toList.map fun c => .int .u8 (c.toNat:Nat)) with lo:=(s.n,Yf b.data.toList)::s.lo })
def Zwj:Value→Bool
 | .int .u8 _=>true
 | _=>false
def ZAd:Value→UInt8
 | .int .u8 n=>UInt8.ofNat n.toNat
 | _=>0
def Zf5 (s:St) (x:Value):Res :=
 match x with
 | .slice none _ _=>some (.string ⟨⟨[]⟩⟩,s)
 | .slice (some a) len _=>match Zbk s a len with
  | some l=>some (.string ⟨⟨l.1.map ZAd⟩⟩,(ask (l.1.all Zwj) l.2).2)
  | none=>bif Nat.beq len 0 then some (.string ⟨⟨[]⟩⟩,s) else none
 | _=>none
def Zit (P:Program) (e:Env) (s:St) (o:Oper) (src dst:TypeId) (x:Value):Res :=
 match x with
 | .string b=>(P.underlying src).bind fun d0=>(P.underlying dst).bind fun d=>match d0,d with
  | .string,.slice el=>(P.underlying el).bind fun(k:TypeDesc)=>match k with | .int .u8=>Zis s b|_=>none
  | .string,.string=>some (.string b,s)
  | _,_=>none
 | .slice _ _ _=>(P.underlying src).bind fun d=>(P.underlying dst).bind fun d'=>match d,d' with
  | .slice el,.string=>(P.underlying el).bind fun(k:TypeDesc)=>match k with | .int .u8=>Zf5 s x|_=>none
  | _,_=>none
 | .int _ _=>Zf4 P e s o
 | _=>none
def U9:Value→Option Bool
 | .pointer a=>some a.isNone
 | .slice a _ _=>some a.isNone
 | .nilFunc=>some true
 | .func _ _ _=>some false
 | _=>none
def JA:TypeDesc→Value→Bool
 | .pointer _,.pointer _=>true
 | .slice _,.slice _ _ _=>true
 | .func _ _ _,.nilFunc=>true
 | .func _ _ _,.func _ _ _=>true
 | _,_=>false
def Zkq (P:Program) (t:TypeId) (x y:Value):Option Bool :=
 (P.underlying t).bind fun d=>(U9 x).bind fun a=>(U9 y).bind fun b =>
  bif JA d x&&JA d y&&(a||b) then some (a&&b) else none
def Zv:List UInt8→List UInt8→Bool
 | [],[]=>true
 | a::x,b::y=>Nat.beq a.toNat b.toNat&&Zv x y
 | _,_=>false
def Zfv:List UInt8→List UInt8→Bool
 | _,[]=>false
 | [],_::_=>true
 | a::x,b::y=>Nat.blt a.toNat b.toNat||(Nat.beq a.toNat b.toNat&&Zfv x y)
def ZFl (s:St) (op:BinOp) (x y:List UInt8):Res :=
 match op with
 | .add=>some (.string ⟨⟨x++y⟩⟩,(ask (Nat.blt (Yf x+Yf y) big) s).2)
 | .eql=>some (.bool (Zv x y),s)
 | .neq=>some (.bool (!Zv x y),s)
 | .lss=>some (.bool (Zfv x y),s)
 | .leq=>some (.bool (Zfv x y||Zv x y),s)
 | .gtr=>some (.bool (!(Zfv x y||Zv x y)),s)
 | .geq=>some (.bool (!Zfv x y),s)
 | _=>none
def ZLR (P:Program) (e:Env) (s:St) (o:Oper) (op:BinOp) (i:IntKind) (a:Int) (j:IntKind) (b:Int):Res :=
 match op with
 | .quo=>bif decide (i=j) then some (.int i (i.wrap (a.tdiv b)),(ask (!decide (b=0)) s).2) else none
 | .rem=>bif decide (i=j) then some (.int i (a.tmod b),(ask (!decide (b=0)) s).2) else none
 | .shl=>some (.int i (i.wrap (a*(2:Int)^min b.toNat i.bits)),(ask (decide (0≤b)) s).2)
 | .shr=>some (.int i (a.fdiv ((2:Int)^min b.toNat i.bits)),(ask (decide (0≤b)) s).2)
 | _=>Zf4 P e s o
def Zfw (eq:TypeId→Value→Value→Option Bool) (xs ys:List Value) (P:Program):List (TypeId×Nat)→Option Bool
 | []=>some true
 | f::l=>(Zih P f.1 xs f.2).bind fun a=>(Zih P f.1 ys f.2).bind fun b=>(eq f.1 a b).bind fun c=>(Zfw eq xs ys P l).map fun d=>c&&d
def Zwt (P:Program):Nat→TypeId→Value→Value→Option Bool
 | 0,_,_,_=>none
 | d+1,t,x,y=>(P.underlying t).bind fun ty=>match ty,x,y with
  | .bool,.bool a,.bool b=>some (a==b)
  | .int _,.int k a,.int k' b=>bif decide (k=k') then some (a==b) else none
  | .string,.string a,.string b=>some (Zv a.data.toList b.data.toList)
  | .struct fs,.agg xs,.agg ys=>bif P.stoodInHeld t then none else
    Zfw (Zwt P d) xs.toList ys.toList P ((fs.toList.filter fun f => !(f.name == "_")).map fun f=>(f.type,f.offset))
  | .array n e,.agg xs,.agg ys=>(ZaL P e).bind fun z=>Zfw (Zwt P d) xs.toList ys.toList P ((List.range n).map fun i=>(e,i*z))
  | _,_,_=>none
def ZLS (P:Program) (s:St) (op:BinOp) (t:TypeId) (x y:Array Value):Res :=
 bif P.eqGuardType P.depth t || !(x.toList.all Qm) || !(y.toList.all Qm) then none else
 match op with
 | .eql=>(Zwt P 8 t (.agg x) (.agg y)).map fun b=>(.bool b,s)
 | .neq=>(Zwt P 8 t (.agg x) (.agg y)).map fun b=>(.bool (!b),s)
 | _=>none
def ZLB (P:Program) (e:Env) (s:St) (o:Oper) (op:BinOp) (t:TypeId) (x y:Value):Res :=
 match x,y with
 | .string a,.string b=>ZFl s op a.data.toList b.data.toList
 | .int i a,.int j b=>ZLR P e s o op i a j b
 | .bool _,.bool _=>Zf4 P e s o
 | .agg x,.agg y=>ZLS P s op t x y
 | _,_=>match op with
  | .eql=>(Zkq P t x y).map fun b=>(.bool b,s)
  | .neq=>(Zkq P t x y).map fun b=>(.bool (!b),s)
  | _=>none
def ZiI (s:St) (size n:Nat):Value→Option (List Value×St)
 | .slice (some a) _ _=>match Zbk s a (n*size) with
  | some l=>some l
  | none=>bif Nat.beq (n*size) 0 then some ([],s) else none
 | .slice none _ _=>some ([],s)
 | .string b=>some ((b.data.toList.take n).map fun c => .int .u8 (c.toNat:Nat),s)
 | _=>none
def ZFm:Value→Option Nat
 | .slice _ n _=>some n
 | .string b=>some (Yf b.data.toList)
 | _=>none
def kill (h:Heap) (g:Nat):Heap:=h.filter fun x => !Nat.beq x.1 g
def bare (s:St) (a:Addr):Bool :=
 match a.spot with
 | some _=>false
 | none=>match look s.h a.block with
  | none=>false
  | some k=>k.rw&&Zow k.it&&Nat.beq a.off 0&&(match k.op with|none=>true|some _=>false)&&(match k.cells with|[]=>true|_=>false)
def ZsO (s:St) (base:Option Addr) (len cap:Nat):Bool :=
 match base with
 | some a=>Nat.beq cap 0&&Nat.beq len 0&&bare s a
 | none=>false
def Zoz (s:St) (size:Nat) (sc:Bool) (base:Option Addr) (len cap n:Nat) (new:List Value):Res :=
 bif Nat.blt cap big then
  bif ZsO s base len cap then
   match base with
   | some a=>some (.slice (some ⟨s.n,0,none⟩) (len+n) (big+s.n),{ J0 { s with h:=kill s.h a.block } (some (s.n,size)) new with lo:=(s.n,len+n)::s.lo })
   | none=>none
  else bif (test (Nat.ble (len+n) cap) s).1 then
   match base with
   | some a=>bif Nat.beq n 0 then some (.slice base (len+n) cap,(test (Nat.ble (len+n) cap) s).2) else match a.spot with
    | some _=>none
    | none=>(Zcr sc (test (Nat.ble (len+n) cap) s).2 (ZAb a (len*size)) new).map fun s=>(.slice base (len+n) cap,s)
   | none=>some (.slice base (len+n) cap,(ask (Nat.beq n 0) (test (Nat.ble (len+n) cap) s).2).2)
  else
   (ZiI (test (Nat.ble (len+n) cap) s).2 size len (.slice base len cap)).map fun old =>
    (.slice (some ⟨s.n,0,none⟩) (len+n) (big+s.n),{ J0 (ask (Nat.beq (Yf old.1) (len*size)) old.2).2 (some (s.n,size)) (old.1++new) with lo:=(s.n,len+n)::s.lo })
 else
  match base with
  | some a=>match a.spot with
   | some _=>none
   | none=>(look s.h a.block).bind fun k=>match k.op with
    | none=>none
    | some p=>bif k.rw&&Nat.beq a.off 0&&Nat.beq (big+p.1) cap&&Nat.beq p.2 size then
      some (.slice (some ⟨s.n,0,none⟩) (len+n) (big+s.n),
       {J0 { (ask (Nat.beq (Yf k.cells) (len*size)) s).2 with h:=kill s.h a.block } (some (s.n,size)) (k.cells++new) with lo:=(s.n,len+n)::s.lo })
     else none
  | none=>none
def ZiJ (P:Program) (s:St) (t:TypeId) (t1:Option TypeId) (sl x:Value):Res :=
 match sl with
 | .slice base len cap=>(U8 P t).bind fun elem=>(ZaL P elem).bind fun size=>(ZpJ P elem).bind fun by_=>(Zj9 P elem).bind fun z =>
  (match t1 with|none=>some true|some t1=>(P.underlying t1).map fun(d:TypeDesc)=>match d with | .int _=>false|_=>true).bind fun ok =>
  (ZFm x).bind fun n=>(ZiI s size n x).bind fun new =>
  bif ok&&Nat.beq z.cells.size size&&Nat.blt 0 size then
   Zoz (ask (Nat.beq (Yf new.1) (n*size)&&Zj8 new.1&&Nat.ble ((len+n)*by_) 1099511627776&&Nat.blt (len+n) 4611686018427387904) new.2).2 size (z.cells.toList.all ZAa) base len cap n new.1
  else none
 | _=>none
def ZsP (P:Program) (s:St) (t:TypeId) (dst src:Value):Res :=
 match dst with
 | .slice base dlen _=>(U8 P t).bind fun elem=>(ZaL P elem).bind fun size=>(ZFm src).bind fun m =>
  (Zj9 P elem).bind fun z=>(ZiI s size (Nat.min m dlen) src).bind fun cells=>match base with
   | some a=>(Zcr (z.cells.toList.all ZAa) (ask (Nat.beq (Yf cells.1) (Nat.min m dlen*size)) cells.2).2 a cells.1).map fun s=>(.int .i64 (Nat.min m dlen:Nat),s)
   | none=>some (.int .i64 (Nat.min m dlen:Nat),(ask (Nat.beq (Nat.min m dlen*size) 0&&Nat.beq (Yf cells.1) 0) cells.2).2)
 | _=>none
def ZsQ (P:Program) (e:Env) (s:St) (o:Oper) (t:TypeId) (x:Value):Res :=
 match x with
 | .slice _ n _=>(U8 P t).map fun _=>(.int .i64 (n:Nat),s)
 | .string b=>(P.underlying t).bind fun d=>match d with | .string=>some (.int .i64 (Yf b.data.toList:Nat),s)|_=>none
 | _=>Zf4 P e s o
abbrev QM:=FuncId→List Value→St→Res
def ZsR (P:Program) (call:QM) (e:Env) (s:St) (o:Oper) (c:Call):Res :=
 match c.callee with
 | .builtin .append=>match c.args.toList,c.argTypes.toList with
  | [x,y],t::ts=>(opd e x).bind fun x=>(opd e y).bind fun y=>ZiJ P s t ts.head? x y
  | _,_=>none
 | .builtin .copy=>match c.args.toList,c.argTypes.toList with
  | [x,y],t::_=>(opd e x).bind fun x=>(opd e y).bind fun y=>ZsP P s t x y
  | _,_=>none
 | .builtin .len=>match c.args.toList,c.argTypes.toList with
  | [x],t::_=>(opd e x).bind fun x=>ZsQ P e s o t x
  | _,_=>none
 | .builtin .min=>Zf4 P e s o
 | .builtin .max=>Zf4 P e s o
 | .value f=>(opd e f).bind fun f=>match f with
  | .func (.func g) first captured=>(ZBc e c.args.toList).bind fun args=>call g (first.toList++args++captured.toList) s
  | _=>none
 | _=>none
def ZpL (P:Program) (s:St) (t:TypeId) (x:Value):Res :=
 (P.underlying t).bind fun d=>match d,x with
  | .string,.string b=>some (ptr s.n 0,{ s with n:=s.n+1,h:=(s.n,⟨true,none,[],some (b,0)⟩)::s.h })
  | _,_=>none
def Zwu (s:St) (isString:Bool) (x:Value):Res :=
 match isString,x with
 | true,.pointer (some a)=>match a.spot with
  | some _=>none
  | none=>bif Nat.beq a.off 0 then(look s.h a.block).bind fun k=>match k.it with
    | none=>none
    | some i=>bif k.rw then(bif (test (Nat.blt i.2 (Yf i.1.data.toList)) s).1 then
       some (.tuple #[.bool true,.int .i64 i.2,.int .i32 ((i.1.data.toList.getD i.2 0).toNat:Nat)],{ (ask (Nat.blt (i.1.data.toList.getD i.2 0).toNat 128) (test (Nat.blt i.2 (Yf i.1.data.toList)) s).2).2 with h:=Zz9 s.h a.block (i.1,i.2+1) })
      else some (.tuple #[.bool false],(test (Nat.blt i.2 (Yf i.1.data.toList)) s).2)) else none
   else none
 | _,_=>none
def xop (P:Program) (call:QM) (e:Env) (s:St) (o:Oper):Res :=
 match o.op with
 | .move x=>(opd e x).map fun v=>(v,s)
 | .assign x=>(opd e x).map fun v=>(v,s)
 | .pick c a b=>(opd e c).bind fun c=>match c with
  | .bool t=>(opd e (bif (test t s).1 then a else b)).map fun v=>(v,(test t s).2)
  | _=>none
 | .alloc t=>(Zj9 P t).map fun z=>(ptr s.n 0,J0 s none z.cells.toList)
 | .box _ x=>(opd e x).bind fun v=>bif Zj8 v.cells.toList then some (ptr s.n 0,J0 s none v.cells.toList) else none
 | .build t parts=>(Zrm e parts.toList).bind fun ps=>(ZsM P t ps).map fun v=>(v,s)
 | .buildSlice t len parts=>(Zrm e parts.toList).bind fun ps=>Zcs P s t len ps
 | .load t a=>(opd e a).bind fun a=>match a with
  | .pointer (some a)=>ZeC P s t a
  | _=>none
 | .store t a x=>(opd e a).bind fun a=>(opd e x).bind fun v=>match a with
  | .pointer (some a)=>(Zdt P s t a v).map fun s=>(undef,s)
  | _=>none
 | .nilCheck x=>(opd e x).bind fun v=>(ZmN v).map fun v=>(v,s)
 | .binOp op t x y _=>(opd e x).bind fun x=>(opd e y).bind fun y=>ZLB P e s o op t x y
 | .unOp _ _ _=>Zf4 P e s o
 | .convert src dst x=>(opd e x).bind fun x=>Zit P e s o src dst x
 | .makeFunc fn first captured=>match fn with
  | .func f=>(ZBc e first.toList).bind fun a=>(ZBc e captured.toList).map fun b=>(.func (.func f) ⟨a⟩ ⟨b⟩,s)
  | _=>none
 | .makeSlice t l c=>(opd e l).bind fun l=>(opd e c).bind fun c=>ZeE P s t l c
 | .slice t x lo hi mx=>(opd e x).bind fun x=>(ZE6 e lo).bind fun lo=>(ZE6 e hi).bind fun hi=>(ZE6 e mx).bind fun mx=>ZmO P s t x lo hi mx
 | .fieldAddr t x f=>(opd e x).bind fun x=>(Zg9 P t x f).map fun v=>(v,s)
 | .field t x f=>(opd e x).bind fun x=>(ZsN P t x f).map fun v=>(v,s)
 | .indexAddr t x i=>(opd e x).bind fun x=>(opd e i).bind fun i=>ZeD P s t x i
 | .index t x i=>(opd e x).bind fun x=>(opd e i).bind fun i=>ZpK P s t x i
 | .extract x i=>(opd e x).bind fun x=>(Zll x i).map fun v=>(v,s)
 | .call c=>ZsR P call e s o c
 | .range t x=>(opd e x).bind fun x=>ZpL P s t x
 | .next x b=>(opd e x).bind fun x=>Zwu s b x
 | _=>none
def UC (ops:Array Oper) (e:Env) (s:St) (o:Oper):Bool×St :=
 match o.guard with
 | none=>(true,s)
 | some (j,want)=>match (ops.toList[j]?).bind fun o=>o.dst with
  | none=>(false,s)
  | some d=>match KL e d with
   | .bool b=>(cond want (test b s).1 (!(test b s).1),(test b s).2)
   | _=>(false,s)
def ZpM (ops:Array Oper) (e:Env) (o:Oper):Bool :=
 match o.guard with
 | none=>false
 | some (j,_)=>match (ops.toList[j]?).bind fun o=>o.dst with
  | none=>false
  | some d=>isU (KL e d)
def JV (P:Program) (call:QM) (ops:Array Oper) (e:Env) (s:St) (o:Oper):Res :=
 bif ZpM ops e o then none else bif (UC ops e s o).1 then xop P call e (UC ops e s o).2 o else some (undef,(UC ops e s o).2)
structure Fr where
 e:Env
 s:St
def Zwv (nt:Nat) (e:Env) (dst:Option Tmp) (v:Value):Option Env :=
 match dst with
 | none=>some e
 | some d=>bif Nat.blt d nt then some (ZFj e d v) else none
def ZmP (P:Program) (call:QM) (nt:Nat) (ops:Array Oper):List Oper→Fr→Option Fr
 | [],f=>some f
 | o::l,f=>(JV P call ops f.e f.s o).bind fun r=>(Zwv nt f.e o.dst r.1).bind fun e=>ZmP P call nt ops l ⟨e,r.2⟩
def X1 (o:Oper):Bool :=
 match o.op with
 | .store _ _ _=>false
 | .next _ _=>false
 | .call c=>match c.callee with
  | .builtin .len=>true
  | .builtin .min=>true
  | .builtin .max=>true
  | _=>false
 | _=>true
def Zaa (o:Oper):List Nat:=(o.after.toList.filter fun x=>Region.binds .any x).map fun x=>x.on
def Zfx (ops:List Oper):List Nat :=
 (ops.foldl (fun(acc:List Nat×Nat) o=>(acc.1++[(Zaa o).foldl (fun s j=>s|||2^j|||Zt 0 acc.1 j) 0],acc.2+1)) ([],0)).1
def ZsS (i:Nat):List Nat→Bool
 | []=>false
 | x::l=>Nat.beq x i||ZsS i l
def ZBd (ops:List Oper) (done:List Nat):Nat→List Nat→Option Nat
 | _,[]=>none
 | k,i::l=>match ops[i]? with
  | none=>none
  | some o=>bif !ZsS i done&&(Zaa o).all (fun j=>ZsS j done)&&(Nat.beq k 1||X1 o) then some i else ZBd ops done k l
def ZmQ (ops:List Oper):Nat→List Nat→List Nat
 | 0,_=>[]
 | n+1,done=>match ZBd ops done 0 (List.range ops.length) with
  | some i=>i::ZmQ ops n (i::done)
  | none=>match ZBd ops done 1 (List.range ops.length) with
   | some i=>i::ZmQ ops n (i::done)
   | none=>[]
def Zct (ops:List Oper) (B:List Nat):List Nat→List Nat→Bool
 | [],done=>Nat.beq done.length ops.length
 | i::l,done=>match ops[i]? with
  | none=>false
  | some o => !ZsS i done&&(Zaa o).all (fun j=>ZsS j done)&&(X1 o||l.all fun j=>(Zt 0 B j).testBit i)&&Zct ops B l (i::done)
def Kf (ops:List Oper) (B:List Nat):Bool :=
 ops.zipIdx.all fun x=>(List.range ops.length).all fun k =>
  !(Zt 0 B x.2).testBit k||(Zaa x.1).any fun j=>Nat.blt j x.2&&(Nat.beq j k||(Zt 0 B j).testBit k)
def Zf6 (ops:List Oper) (B:List Nat):Bool :=
 ops.zipIdx.all fun x=>ops.zipIdx.all fun y=>Nat.beq x.2 y.2 ||
  match y.1.dst with
  | none=>true
  | some d=>(match x.1.dst with|some d' => !Nat.beq d d'|none=>true) &&
   (!ZsS d (x.1.looksAt ⟨ops⟩)||(Zt 0 B x.2).testBit y.2||(Zt 0 B y.2).testBit x.2)
def ZLT (ops:List Oper):Bool:=ops.all fun o=>match o.op with | .select _ _=>false|_=>true
def Zlm (ops:List Oper):Bool :=
 (ops.zipIdx.all fun x=>(Zaa x.1).all fun j=>Nat.blt j x.2)&&((List.range ops.length).all fun i=>ZsS i (ZmQ ops ops.length []))&&ZLT ops&&Kf ops (Zfx ops)&&Zf6 ops (Zfx ops)&&Zct ops (Zfx ops) (ZmQ ops ops.length []) []
structure Rec where
 i:Nat
 n0:Nat
 n1:Nat
 rd:List Nat
def Kg (B:Nat) (recs:List Rec) (g:Nat):Bool:=recs.any fun x => !B.testBit x.i&&Nat.ble x.n0 g&&Nat.blt g x.n1
def ZbA (B:Nat) (recs:List Rec) (g:Nat):Bool:=recs.any fun x => !B.testBit x.i&&ZsS g x.rd
def Zhc (e:Env) (o:Oper):List Nat :=
 let f (x:Operand):List Nat:=match opd e x with
  | some (.pointer (some a))=>[a.block]
  | some (.slice (some a) _ _)=>[a.block]
  | _=>[]
 match o.op with
 | .load _ x=>f x
 | .convert _ _ x=>f x
 | _=>[]
def ZBe (B:Nat) (recs:List Rec) (s:St):List Nat→Heap
 | []=>[]
 | g::l=>bif Kg B recs g then ZBe B recs s l else match look s.h g with
  | some k=>(g,{ k with rw:=false })::ZBe B recs s l
  | none=>ZBe B recs s l
def ZpN (B:Nat) (recs:List Rec) (e:Env) (s:St) (o:Oper):St :=
 bif X1 o then { s with h:=ZBe B recs s (Zhc e o),lo:=s.lo.filter fun x => !Kg B recs x.1 }
 else { s with
  h:=(s.h.filter fun x => !Kg B recs x.1).map fun x=>bif ZbA B recs x.1 then(x.1,{ x.2 with rw:=false }) else x,
  lo:=s.lo.filter fun x => !Kg B recs x.1 }
def Zfy (B:Nat) (recs:List Rec) (s:St) (o:Oper) (s':St):St :=
 bif X1 o then { s' with h:=s'.h.filter (fun x=>Nat.ble s.n x.1)++s.h,lo:=s'.lo.filter (fun x=>Nat.ble s.n x.1)++s.lo }
 else { s' with h:=s'.h.filter (fun x=>Nat.ble s.n x.1 || !(Kg B recs x.1||ZbA B recs x.1))++s.h.filter (fun x=>Kg B recs x.1||ZbA B recs x.1),lo:=s'.lo.filter (fun x=>Nat.ble s.n x.1)++s.lo }
def Zka (P:Program) (call:QM) (nt:Nat) (ops:Array Oper) (B:List Nat):List Nat→List Rec→Fr→Option Fr
 | [],_,f=>some f
 | i::l,recs,f=>match ops.toList[i]? with
  | none=>none
  | some o=>(JV P call ops f.e (ZpN (Zt 0 B i) recs f.e f.s o) o).bind fun r=>(Zwv nt f.e o.dst r.1).bind fun e =>
   Zka P call nt ops B l (⟨i,f.s.n,r.2.n,Zhc f.e o⟩::recs) ⟨e,Zfy (Zt 0 B i) recs f.s o r.2⟩
def ZsT (P:Program) (call:QM) (nt:Nat) (ops:Array Oper) (f:Fr):Option Fr :=
 bif Zlm ops.toList&&P.follows .mixedOrders then Zka P call nt ops (Zfx ops.toList) (ZmQ ops.toList ops.toList.length []) [] f else none
abbrev Zfz:=Nat→Code→Fr→Option (Exit×Fr)
def evC (P:Program) (call:QM) (lp:Zfz) (nt:Nat):Nat→Code→Fr→Option (Exit×Fr)
 | 0,_,_=>none
 | k+1,c,f=>match c with
  | .skip=>some (.normal,f)
  | .label _=>some (.normal,f)
  | .region _ ops draw=>(bif draw then ZsT P call nt ops f else ZmP P call nt ops ops.toList f).map fun f=>(.normal,f)
  | .seq a b=>match evC P call lp nt k a f with
   | some (.normal,f)=>evC P call lp nt k b f
   | x=>x
  | .cond x a b=>match opd f.e x with
   | some (.bool t)=>evC P call lp nt k (bif (test t f.s).1 then a else b) ⟨f.e,(test t f.s).2⟩
   | _=>none
  | .block id c=>match evC P call lp nt k c f with
   | some (.exit i,f)=>bif Nat.beq i id then some (.normal,f) else some (.exit i,f)
   | x=>x
  | .loop c=>match lp nt c f with
   | some x=>some x
   | none=>match evC P call lp nt k c f with
    | some (.normal,f)=>evC P call lp nt k (.loop c) f
    | x=>x
  | .exit id=>some (.exit id,f)
  | .ret=>some (.ret,f)
  | _=>none
def Vw (P:Program) (e:Env):List ResultVar→St→Option (List Value×St)
 | [],s=>some ([],s)
 | .tmp t::l,s=>bif isU (KL e t) then none else(Vw P e l s).map fun vs=>(KL e t::vs.1,vs.2)
 | .cell a t::l,s=>match KL e a with
  | .pointer (some a)=>(ZeC P s t a).bind fun v=>(Vw P e l v.2).map fun vs=>(v.1::vs.1,vs.2)
  | _=>none
def Zdv:List Value→Value
 | [v]=>v
 | vs => .tuple ⟨vs⟩
def Zkr (args:List Value):Nat→Env→Env
 | k,e=>match args with
  | []=>e
  | v::l=>Zkr l (k+1) (ZFj e k v)
def ZsU (n:Nat) (h:Heap):Heap:=h.filter fun x=>Nat.blt x.1 n
def Zik (s s':St) (v:Value):St :=
 bif XD v&&Nat.ble s.n s'.esc then { s' with h:=ZsU s.n s'.h,esc:=s.esc } else { s' with esc:=Nat.min s.esc s'.esc }
def evF (P:Program) (base:QM) (lp:FuncId→Zfz) (L:Nat):Nat→QM
 | 0,f,args,s=>base f args s
 | k+1,f,args,s=>match base f args s with
  | some r=>some r
  | none=>(P.funcs[f]?).bind fun fn=>fn.body.bind fun c =>
   bif Nat.ble args.length fn.ntmps then
    (evC P (evF P base lp L k) (lp f) fn.ntmps L c ⟨Zkr args 0 [],{ s with esc:=s.n }⟩).bind fun x=>match x.1 with
     | .normal=>(Vw P x.2.e fn.results.toList x.2.s).map fun vs=>(Zdv vs.1,Zik s vs.2 (Zdv vs.1))
     | .ret=>(Vw P x.2.e fn.results.toList x.2.s).map fun vs=>(Zdv vs.1,Zik s vs.2 (Zdv vs.1))
     | _=>none
   else none
end Go.Proofs.YtagacmljbgkmoaaGreatDoor.Sy
namespace Go.Proofs.YtagacmljbgkmoaaGreatDoor.Sy
open Go.IntKind (u8 u16 u32 u64 i64)
open Go.RowKit
section
variable (r:Ren)
theorem K4 (cs:Array Value):r.val (.agg cs) = .agg (cs.map r.val):=by rw[Ren.val]
theorem Xz (cs:Array Value):r.val (.tuple cs) = .tuple (cs.map r.val):=by rw[Ren.val]
theorem W4 (fn:Fn) (a b:Array Value):r.val (.func fn a b) = .func fn (a.map r.val) (b.map r.val):=by rw[Ren.val]
theorem J1 (t:TypeId) (v:Value):r.val (.iface t v) = .iface t (r.val v):=by rw[Ren.val]
theorem Y4 (a:Option Addr):r.val (.pointer a) = .pointer (a.map r.addr):=by rw[Ren.val]
theorem ZV (a:Option Addr) (l c:Nat):r.val (.slice a l c) = .slice (a.map r.addr) l (r.cap c):=by rw[Ren.val]
theorem YI (k:IntKind) (n:Int):r.val (.int k n) = .int k n:=by rw[Ren.val]<;>simp
theorem K5 (b:Bool):r.val (.bool b) = .bool b:=by rw[Ren.val]<;>simp
theorem Xs (b:ByteArray):r.val (.string b) = .string b:=by rw[Ren.val]<;>simp
theorem Zab:r.val .nilFunc = .nilFunc:=by rw[Ren.val]<;>simp
theorem Zf7:r.val undef=undef:=by simp[undef,Xz]
theorem Qq {v:Value} (h:Qm v=true):r.val v=v:=by
 unfold Qm at h
 split at h<;>first
  | (rw[Ren.val]; simp; done)
  | (rw[Ren.val]<;>simp; done)
  | (simp[ZV,Ren.cap,h]; done)
  | (cases h; done)
theorem Zdw {l:List Value} (h:l.all Qm=true):l.map r.val=l:=by
 rw[List.map_congr_left (g:=id)]
 ·simp
 ·intro v hv; exact Qq r (List.all_eq_true.1 h v hv)
theorem ZsV {l:Array Value} (h:l.toList.map r.val=l.toList):l.map r.val=l:=by
 apply Array.ext'; simpa using h
theorem Kh {v:Value} (h:Uv v=true):r.val v=v:=by
 unfold Uv at h
 split at h
 ·rw[K4,ZsV r (Zdw r h)]
 ·exact Qq r h
theorem Ki {v:Value} (h:XD v=true):r.val v=v:=by
 unfold XD at h
 split at h
 ·rename_i vs
  rw[Xz,ZsV r]
  rw[List.map_congr_left (g:=id)]
  ·simp
  ·intro v hv; exact Kh r (List.all_eq_true.1 h v hv)
 ·exact Kh r h
theorem Zf8 (v:Value):(r.val v).cells=v.cells.map r.val:=by
 cases v<;>(try (simp[K4,Value.cells]; done))<;>rw[Ren.val]<;>(try simp[Value.cells])<;>(rw[Ren.val]<;>simp)
theorem ZiK (v:Value):(r.val v).oneCell'=v.oneCell':=by
 cases v<;>(try (simp[K4,Xz,Value.oneCell']; done))<;>rw[Ren.val]<;>simp[Value.oneCell']
end
theorem Zf9 {n m:Nat→Bool} (h:∀ g,n g=true→m g=true) {a:Addr} (hb:Ut n a=true):Ut m a=true:=by
 unfold Ut at *
 simp only[Bool.and_eq_true] at *
 obtain⟨h1,h2⟩:=hb
 refine⟨h _ h1,?_⟩
 cases hs:a.spot with
 | none=>rfl
 | some k=>rw[hs] at h2; exact h k h2
theorem K6 (n:Nat→Bool) (cs:Array Value):bnd n (.agg cs)=cs.all (bnd n):=by rw[bnd]; simp
theorem Xj (n:Nat→Bool) (cs:Array Value):bnd n (.tuple cs)=cs.all (bnd n):=by rw[bnd]; simp
theorem JW (n:Nat→Bool) (fn:Fn) (a b:Array Value):bnd n (.func fn a b)=((match fn with | .yield _=>false|_=>true)&&a.all (bnd n)&&b.all (bnd n)):=by
 cases fn<;>(rw[bnd]<;>simp)
theorem X9 (n:Nat→Bool) (a:Addr):bnd n (.pointer (some a))=Ut n a:=by rw[bnd]
theorem QT (n:Nat→Bool) (a:Option Addr) (l c:Nat):bnd n (.slice a l c)=((match a with|some a=>Ut n a|none=>true)&&(Nat.blt c big||n (c-big))):=by
 cases a<;>(conv=>lhs; unfold bnd)<;>rfl
theorem Zac (n:Nat→Bool) (t:TypeId) (v:Value):bnd n (.iface t v)=bnd n v:=by rw[bnd]
theorem ZG (n:Nat→Bool) {v:Value} (h:Qm v=true):bnd n v=true:=by
 unfold Qm at h
 split at h<;>first
  | (rw[bnd]<;>simp; done)
  | (rw[QT]; simp[h]; done)
  | (cases h; done)
theorem Zga (n:Nat→Bool) {v:Value} (h:Uv v=true):bnd n v=true:=by
 unfold Uv at h
 split at h
 ·rw[K6,Array.all_eq_true_iff_forall_mem]
  intro v hv
  exact ZG n (List.all_eq_true.1 h v (by simpa using hv))
 ·exact ZG n h
theorem Xk (n:Nat→Bool) {v:Value} (h:XD v=true):bnd n v=true:=by
 unfold XD at h
 split at h
 ·rw[Xj,Array.all_eq_true_iff_forall_mem]
  intro v hv
  exact Zga n (List.all_eq_true.1 h v (by simpa using hv))
 ·exact Zga n h
theorem Uw (n:Nat→Bool) (k:IntKind) (i:Int):bnd n (.int k i)=true:=ZG n rfl
theorem ZeF (n:Nat→Bool) (b:Bool):bnd n (.bool b)=true:=ZG n rfl
theorem ZbB (n:Nat→Bool) (b:ByteArray):bnd n (.string b)=true:=ZG n rfl
theorem Zdx (n:Nat→Bool):bnd n undef=true:=Xk n rfl
theorem Zln {n:Nat→Bool} {g o:Nat} (h:n g=true):bnd n (ptr g o)=true:=by
 unfold ptr; rw[X9]; simp[Ut,h]
theorem VV {n m:Nat→Bool} (h:∀ g,n g=true→m g=true):∀ v:Value,bnd n v=true→bnd m v=true
 | .pointer (some a),hb=>by rw[X9] at *; exact Zf9 h hb
 | .pointer none,_=>ZG m rfl
 | .slice a l c,hb=>by
  rw[QT,Bool.and_eq_true] at *
  refine⟨?_,by
   have h2:=hb.2
   rw[Bool.or_eq_true] at h2 ⊢
   exact h2.imp id (h _)⟩
  cases a with
  | none=>rfl
  | some a=>exact Zf9 h hb.1
 | .func fn a b,hb=>by
  rw[JW,Bool.and_eq_true,Bool.and_eq_true] at *
  refine⟨⟨hb.1.1,?_⟩,?_⟩
  ·exact Array.all_eq_true_iff_forall_mem.2 fun v hv=>VV h v (Array.all_eq_true_iff_forall_mem.1 hb.1.2 v hv)
  ·exact Array.all_eq_true_iff_forall_mem.2 fun v hv=>VV h v (Array.all_eq_true_iff_forall_mem.1 hb.2 v hv)
 | .iface t v,hb=>by rw[Zac] at *; exact VV h v hb
 | .agg cs,hb=>by
  rw[K6,Array.all_eq_true_iff_forall_mem] at *
  exact fun v hv=>VV h v (hb v hv)
 | .tuple cs,hb=>by
  rw[Xj,Array.all_eq_true_iff_forall_mem] at *
  exact fun v hv=>VV h v (hb v hv)
 | .map (some _),hb=>by rw[bnd] at hb; cases hb
 | .map none,_=>ZG m rfl
 | .chan (some _),hb=>by rw[bnd] at hb; cases hb
 | .chan none,_=>ZG m rfl
 | .bool _,_=>ZG m rfl
 | .int _ _,_=>ZG m rfl
 | .float _ _,_=>ZG m rfl
 | .complex _ _ _,_=>ZG m rfl
 | .string _,_=>ZG m rfl
 | .nilFunc,_=>ZG m rfl
 | .nilIface,_=>ZG m rfl
termination_by v=>SizeOf.sizeOf v
decreasing_by
 all_goals simp_wf
 all_goals (first|omega|(have:=Array.sizeOf_lt_of_mem hv; omega))
structure Ext (r r':Ren):Prop where
 d:∀ g,r.d g=true→r'.d g=true
 b:∀ g,r.d g=true→r'.b g=r.b g
 w:∀ g,r.d g=true→r'.w g=r.w g
 o:∀ g,r.d g=true→r'.o g=r.o g
 c:∀ g,r.d g=true→r'.c g=r.c g
theorem Ext.refl (r:Ren):Ext r r:=⟨fun _ h=>h,fun _ _=>rfl,fun _ _=>rfl,fun _ _=>rfl,fun _ _=>rfl⟩
theorem Ext.trans {r s t:Ren} (h:Ext r s) (h':Ext s t):Ext r t :=
 ⟨fun g hg=>h'.d g (h.d g hg),fun g hg=>(h'.b g (h.d g hg)).trans (h.b g hg),fun g hg=>(h'.w g (h.d g hg)).trans (h.w g hg),fun g hg=>(h'.o g (h.d g hg)).trans (h.o g hg),fun g hg=>(h'.c g (h.d g hg)).trans (h.c g hg)⟩
theorem Ziu {r r':Ren} (h:Ext r r') {a:Addr} (hb:Ut r.d a=true):r'.addr a=r.addr a:=by
 unfold Ut at hb
 simp only[Bool.and_eq_true] at hb
 obtain⟨h1,h2⟩:=hb
 unfold Ren.addr
 rw[h.b _ h1,h.w _ h1]
 cases hs:a.spot with
 | none=>rfl
 | some k =>
  rw[hs] at h2
  simp only[]
  rw[h.o _ h2]
theorem ZBf {r r':Ren} (h:Ext r r') {c:Nat} (hc:(Nat.blt c big||r.d (c-big))=true):r'.cap c=r.cap c:=by
 unfold Ren.cap
 cases hb:Nat.blt c big
 ·rw[hb] at hc
  simp only[cond_false]
  exact h.c _ (by simpa using hc)
 ·rfl
theorem Zad {r r':Ren} (h:Ext r r'):∀ v:Value,bnd r.d v=true→r'.val v=r.val v
 | .pointer (some a),hb=>by rw[X9] at hb; rw[Y4,Y4,Option.map_some,Option.map_some,Ziu h hb]
 | .pointer none,_=>by rw[Y4,Y4]; rfl
 | .slice a l c,hb=>by
  rw[QT,Bool.and_eq_true] at hb
  rw[ZV,ZV,ZBf h hb.2]
  cases a with
  | none=>rfl
  | some a=>rw[Option.map_some,Option.map_some,Ziu h hb.1]
 | .func fn a b,hb=>by
  rw[JW,Bool.and_eq_true,Bool.and_eq_true] at hb
  rw[W4,W4,Array.map_congr_left fun v hv=>Zad h v (Array.all_eq_true_iff_forall_mem.1 hb.1.2 v hv),
   Array.map_congr_left fun v hv=>Zad h v (Array.all_eq_true_iff_forall_mem.1 hb.2 v hv)]
 | .iface t v,hb=>by rw[Zac] at hb; rw[J1,J1,Zad h v hb]
 | .agg cs,hb=>by
  rw[K6,Array.all_eq_true_iff_forall_mem] at hb
  rw[K4,K4,Array.map_congr_left fun v hv=>Zad h v (hb v hv)]
 | .tuple cs,hb=>by
  rw[Xj,Array.all_eq_true_iff_forall_mem] at hb
  rw[Xz,Xz,Array.map_congr_left fun v hv=>Zad h v (hb v hv)]
 | .map (some _),hb=>by rw[bnd] at hb; cases hb
 | .map none,_=>by rw[Qq r' rfl,Qq r rfl]
 | .chan (some _),hb=>by rw[bnd] at hb; cases hb
 | .chan none,_=>by rw[Qq r' rfl,Qq r rfl]
 | .bool _,_=>by rw[Qq r' rfl,Qq r rfl]
 | .int _ _,_=>by rw[Qq r' rfl,Qq r rfl]
 | .float _ _,_=>by rw[Qq r' rfl,Qq r rfl]
 | .complex _ _ _,_=>by rw[Qq r' rfl,Qq r rfl]
 | .string _,_=>by rw[Qq r' rfl,Qq r rfl]
 | .nilFunc,_=>by rw[Qq r' rfl,Qq r rfl]
 | .nilIface,_=>by rw[Qq r' rfl,Qq r rfl]
termination_by v=>SizeOf.sizeOf v
decreasing_by
 all_goals simp_wf
 all_goals (first|omega|(have:=Array.sizeOf_lt_of_mem hv; omega))
theorem ZfA {P:Program} {α:Type}:∀ (x:Sem α) (a:α),Vq P x=some a→∀ w,x.run P w = .ok a w
 | .pure b,a,h,w=>by simp only[Vq,Option.some.injEq] at h; subst h; rfl
 | .program k,a,h,w=>by simp only[Vq] at h; simp only[Sem.run]; exact ZfA (k P) a h w
 | .mark _ k,a,h,w=>by simp only[Vq] at h; simp only[Sem.run]; exact ZfA k a h w
 | .load ..,a,h,w=>by simp[Vq] at h
 | .store ..,a,h,w=>by simp[Vq] at h
 | .new ..,a,h,w=>by simp[Vq] at h
 | .shape ..,a,h,w=>by simp[Vq] at h
 | .freeze ..,a,h,w=>by simp[Vq] at h
 | .frozen ..,a,h,w=>by simp[Vq] at h
 | .getObj ..,a,h,w=>by simp[Vq] at h
 | .setObj ..,a,h,w=>by simp[Vq] at h
 | .choose ..,a,h,w=>by simp[Vq] at h
 | .sys ..,a,h,w=>by simp[Vq] at h
 | .halt _,a,h,w=>by simp[Vq] at h
theorem ZsW {α:Type}:∀ (l:List α) (n:Nat),ZFi l n=l.length+n
 | [],n=>by simp[ZFi]
 | _::l,n=>by rw[ZFi,Nat.beq_refl,cond_true,ZsW l (n+1),List.length_cons]; omega
theorem Qr {α:Type} (l:List α):Yf l=l.length:=by unfold Yf; rw[ZsW]; rfl
theorem Zlo {α:Type} (d:α) (j:Nat):Zt d [] j=d:=by cases j<;>rfl
theorem Zgb {α:Type} (d:α):∀ (l:List α) (i j:Nat) (v:α),Zt d (Zg8 d l i v) j=if j=i then v else Zt d l j
 | [],0,0,v=>by simp[Zg8,Zt]
 | [],0,j+1,v=>by simp[Zg8,Zt]
 | [],i+1,0,v=>by simp[Zg8,Zt]
 | [],i+1,j+1,v=>by simp[Zg8,Zt,Zgb d [] i j v]
 | x::l,0,0,v=>by simp[Zg8,Zt]
 | x::l,0,j+1,v=>by simp[Zg8,Zt]
 | x::l,i+1,0,v=>by simp[Zg8,Zt]
 | x::l,i+1,j+1,v=>by simp[Zg8,Zt,Zgb d l i j v]
theorem Zgc (e:Env) (t u:Nat) (v:Value):KL (ZFj e t v) u=if u=t then v else KL e u:=by
 unfold KL ZFj
 rw[Zgb]
 by_cases h:u/16=t/16
 ·rw[if_pos h,Zgb,h]
  by_cases h':u%16=t%16
  ·have:u=t:=by omega
   subst this; simp
  ·have:u≠t:=fun e=>h' (by rw[e])
   simp[h',this]
 ·have:u≠t:=fun e=>h (by rw[e])
  rw[if_neg h,if_neg this]
theorem Vx:∀ (n:Nat) (l:List Value),WK n l=true↔n≤l.length
 | 0,l=>by simp[WK]
 | n+1,[]=>by simp[WK]
 | n+1,x::l=>by simp[WK,Vx n l]
theorem ZaN:∀ (l:List Value) (n:Nat) (vs:List Value),(YU n vs l).length=l.length
 | [],n,vs=>by unfold YU; cases n<;>cases vs<;>rfl
 | x::l,0,[]=>by simp[YU]
 | x::l,0,v::vs=>by simp[YU,ZaN l 0 vs]
 | x::l,n+1,vs=>by simp[YU,ZaN l n vs]
theorem Kj:∀ (l:List Value) (n:Nat) (vs:List Value) (j:Nat),n+vs.length≤l.length →
  (YU n vs l)[j]? = if n≤j∧j<n+vs.length then vs[j-n]? else l[j]?
 | [],n,vs,j,h=>by
  have:vs=[]:=by cases vs with|nil=>rfl|cons=>simp at h
  subst this
  simp at h; subst h
  simp[YU]
 | x::l,0,[],j,h=>by simp[YU]
 | x::l,0,v::vs,0,h=>by simp[YU]
 | x::l,0,v::vs,j+1,h=>by
  simp only[YU,List.getElem?_cons_succ]
  rw[Kj l 0 vs j (by simp at h; omega)]
  simp
 | x::l,n+1,vs,0,h=>by simp[YU]
 | x::l,n+1,vs,j+1,h=>by
  simp only[YU,List.getElem?_cons_succ]
  rw[Kj l n vs j (by simp at h; omega)]
  by_cases hc:n≤j∧j<n+vs.length
  ·rw[if_pos hc,if_pos (by omega)]; congr 1; omega
  ·rw[if_neg hc,if_neg (by omega)]
theorem ZpO (h:Heap) (g:Nat) (cs:List Value) (g':Nat):look (upd h g cs) g'=if g'=g then(look h g).map (fun k=>{ k with cells:=cs }) else look h g':=by
 induction h with
 | nil=>simp[upd,look]
 | cons x h ih =>
  simp only[upd,look]
  cases hx:Nat.beq x.1 g
  ·simp only[cond_false,look]
   have hne:x.1≠g:=fun e=>by rw[e,Nat.beq_refl] at hx; cases hx
   cases hx':Nat.beq x.1 g'
   ·simp only[cond_false]; exact ih
   ·have:x.1=g':=eB hx'
    subst this
    simp[hne]
  ·have:x.1=g:=eB hx
   subst this
   simp only[cond_true,look]
   cases hx':Nat.beq x.1 g'
   ·have hne:g'≠x.1:=fun e=>by rw[e,hx] at hx'; cases hx'
    simp only[cond_false]; rw[if_neg hne]
   ·have:x.1=g':=eB hx'
    simp[this]
theorem Qs (x:Nat×Blk) (h:Heap) (g:Nat):look (x::h) g=if g=x.1 then some x.2 else look h g:=by
 simp only[look]
 cases hx:Nat.beq x.1 g
 ·have hne:g≠x.1:=fun e=>by rw[e,Nat.beq_refl] at hx; cases hx
  simp[hne]
 ·simp[eB hx]
theorem Zgd (h:Heap) (g g':Nat):look (kill h g) g'=if g'=g then none else look h g':=by
 induction h with
 | nil=>simp[kill,look]
 | cons x h ih =>
  unfold kill at *
  rw[List.filter_cons]
  cases hx:Nat.beq x.1 g
  ·have hne:x.1≠g:=fun e=>by rw[e,Nat.beq_refl] at hx; cases hx
   simp only[Bool.not_false,if_true]
   rw[Qs,Qs,ih]
   by_cases h1:g'=x.1
   ·subst h1; simp[hne]
   ·simp[h1]
  ·have:x.1=g:=eB hx
   simp only[Bool.not_true,Bool.false_eq_true,if_false]
   rw[Qs,ih]
   by_cases h1:g'=g
   ·simp[h1]
   ·simp[h1,this]
end Go.Proofs.YtagacmljbgkmoaaGreatDoor.Sy
namespace Go.Proofs.YtagacmljbgkmoaaGreatDoor.Sy
open Go.IntKind (u8 u16 u32 u64 i64)
open Go.RowKit
def IsC (r:Ren) (k:Blk) (g:Nat) (w:World):Prop :=
 ∃ (arr:Array Value) (ty:TypeId) (fr:Nat×Nat),w.heap[r.b g]? = some (.cells arr ty fr) ∧
  (match k.op with|none=>r.w g=0∧arr.size=k.cells.length|some p=>(k.rw=false∨(r.w g=0∧arr.size=r.c p.1*p.2))∧r.w g+k.cells.length≤arr.size) ∧
  (∀ (j:Nat) (v:Value),k.cells[j]? = some v→arr[r.w g+j]? = some (r.val v))∧(k.rw=true→∀ (j:Nat),j<arr.size→¬ (fr.1≤j∧j<fr.2))
def Is (r:Ren) (k:Blk) (g:Nat) (w:World):Prop :=
 (k.it=none∧IsC r k g w)∨∃ x,k.it=some x∧w.heap[r.b g]? = some (.stringIter x.1 x.2)∧k.cells=[]∧k.op=none∧r.w g=0
theorem Is.c {r:Ren} {k:Blk} {g:Nat} {w:World} (h:Is r k g w) (hk:k.it=none):IsC r k g w:=by
 rcases h with⟨_,h⟩|⟨x,h1,_⟩
 ·exact h
 ·rw[hk] at h1; cases h1
theorem Is.open {r:Ren} {k:Blk} {g:Nat} {w:World} (h:Is r k g w) {p:Nat×Nat} (hk:k.op=some p):IsC r k g w:=by
 rcases h with⟨_,h⟩|⟨x,_,_,_,h1,_⟩
 ·exact h
 ·rw[hk] at h1; cases h1
theorem ZbC {x:Option (ByteArray×Nat)} (h:Zow x=true):x=none:=by
 cases x with
 | none=>rfl
 | some _=>cases h
def ZE7 (n:Nat→Bool) (k:Blk):Prop:=(∀ p,k.op=some p→n p.1=true)∧∀ v∈k.cells,bnd n v=true∧v.oneCell'=true
def WL (r:Ren) (n n':Nat):Prop:=∀ g,n≤g→g<n'→r.d g=false
structure Good (r:Ren) (s:St) (w:World):Prop where
 is:∀ g k,look s.h g=some k→Is r k g w
 inj:∀ g g' k k',look s.h g=some k→look s.h g'=some k'→k.rw=true→r.b g=r.b g'→g=g'
 lt:∀ g k,look s.h g=some k→r.d g=true∧ZE7 r.d k
 lo:∀ x∈s.lo,x.2≤r.c x.1∧r.d x.1=true
theorem Good.inj' {r:Ren} {s:St} {w:World} (h:Good r s w) {g g':Nat} {k k':Blk} (h1:look s.h g=some k) (h2:look s.h g'=some k') (hrw:k'.rw=true) (e:r.b g=r.b g'):g=g' :=
 (h.inj g' g k' k h2 h1 hrw e.symm).symm
def WFn (s:St):Prop:=(∀ g k,look s.h g=some k→g<s.n)∧∀ x∈s.lo,x.1<s.n
def WX (s s':St):Prop:=s.n≤s'.n∧(s'.O→s.O)∧(WFn s→WFn s')
structure To (r:Ren) (s:St) (w:World) (r':Ren) (s':St) (w':World):Prop where
 ext:Ext r r'
 dom:∀ g,r'.d g=true→r.d g=true∨(s.n≤g∧g<s'.n)
 le:s.n≤s'.n
 good0:Good r s w
 good:Good r' s' w'
 os:w'.os=w.os
 tape:w'.tape=w.tape
 output:w'.output=w.output
 size:w.heap.size≤w'.heap.size
 frame:∀ b,b<w.heap.size→(∀ g k,look s.h g=some k→k.rw=true→r.b g≠b)→w'.heap[b]? = w.heap[b]?
 own:∀ g k,look s'.h g=some k→(∃ k0,look s.h g=some k0∧(k.rw=true→k0.rw=true))∨w.heap.size≤r'.b g∨∃ g0 k0,look s.h g0=some k0∧k0.rw=true∧r.b g0=r'.b g
section
variable {r r1 r2:Ren} {s s1 s2:St} {w w1 w2:World}
theorem To.refl (h:Good r s w):To r s w r s w :=
 ⟨Ext.refl _,fun _ h => .inl h,Nat.le_refl _,h,h,rfl,rfl,rfl,Nat.le_refl _,fun _ _ _=>rfl,fun _ k hg => .inl ⟨k,hg,id⟩⟩
theorem To.trans (h:To r s w r1 s1 w1) (h':To r1 s1 w1 r2 s2 w2):To r s w r2 s2 w2:=by
 refine⟨h.ext.trans h'.ext,fun g hg => ?_,Nat.le_trans h.le h'.le,h.good0,h'.good,h'.os.trans h.os,h'.tape.trans h.tape,h'.output.trans h.output,Nat.le_trans h.size h'.size,?_,?_⟩
 ·rcases h'.dom g hg with h1|h1
  ·rcases h.dom g h1 with h2|h2
   ·exact .inl h2
   ·have:=h'.le; exact .inr ⟨h2.1,by omega⟩
  ·have:=h.le; exact .inr ⟨by omega,h1.2⟩
 ·intro b hb hn
  refine(h'.frame b (Nat.lt_of_lt_of_le hb h.size) ?_).trans (h.frame b hb hn)
  intro g k hg hk e
  rcases h.own g k hg with⟨k0,h1,h2⟩|h1|⟨g0,k0,h1,h2,h3⟩
  ·exact hn g k0 h1 (h2 hk) ((h.ext.b g (h.good0.lt g k0 h1).1).symm.trans e)
  ·omega
  ·exact hn g0 k0 h1 h2 (h3.trans e)
 ·intro g k hg
  rcases h'.own g k hg with⟨k1,h1,h2⟩|h1|⟨g0,k0,h1,h2,h3⟩
  ·have he:r2.b g=r1.b g:=h'.ext.b g (h.good.lt g k1 h1).1
   rcases h.own g k1 h1 with⟨k0,h3,h4⟩|h3|⟨g0,k0,h3,h4,h5⟩
   ·exact .inl ⟨k0,h3,fun hk=>h4 (h2 hk)⟩
   ·exact .inr (.inl (by omega))
   ·exact .inr (.inr ⟨g0,k0,h3,h4,h5.trans he.symm⟩)
  ·exact .inr (.inl (Nat.le_trans h.size h1))
  ·rcases h.own g0 k0 h1 with⟨k00,h4,h5⟩|h4|⟨g00,k00,h4,h5,h6⟩
   ·exact .inr (.inr ⟨g0,k00,h4,h5 h2,(h.ext.b g0 (h.good0.lt g0 k00 h4).1).symm.trans h3⟩)
   ·exact .inr (.inl (by omega))
   ·exact .inr (.inr ⟨g00,k00,h4,h5,h6.trans h3⟩)
theorem Good.same (h:Good r s w) (hh:s1.h=s.h) (hl:s1.lo=s.lo):Good r s1 w :=
 ⟨by rw[hh]; exact h.is,by rw[hh]; exact h.inj,by rw[hh]; exact h.lt,by rw[hl]; exact h.lo⟩
theorem WL.sub {n m n' m':Nat} (h:WL r n m) (h1:n≤n') (h2:m'≤m):WL r n' m':=fun _ hg hl=>h _ (by omega) (by omega)
theorem To.fresh {n:Nat} (h:To r s w r1 s1 w1) (hf:WL r s.n n):WL r1 s1.n n:=fun g hg hl=>by
 cases hd:r1.d g
 ·rfl
 ·rcases h.dom g hd with h1|h1
  ·have:=h.le; rw[hf g (by omega) hl] at h1; cases h1
  ·omega
theorem To.same (h:Good r s w) (hn:s1.n=s.n) (hh:s1.h=s.h) (hl:s1.lo=s.lo):To r s w r s1 w :=
 ⟨Ext.refl _,fun _ h => .inl h,Nat.le_of_eq hn.symm,h,h.same hh hl,rfl,rfl,rfl,Nat.le_refl _,fun _ _ _=>rfl,fun g k hg => .inl ⟨k,by rw[← hh]; exact hg,id⟩⟩
theorem ZeG (t:Bool) (s:St):(test t s).2.n=s.n∧(test t s).2.h=s.h∧(test t s).2.lo=s.lo∧(test t s).2.esc=s.esc∧((test t s).2.O→s.O∧(test t s).1=t):=by
 unfold test
 split
 ·exact⟨rfl,rfl,rfl,rfl,fun h=>⟨h,rfl⟩⟩
 ·rename_i c T _
  cases Nat.beq c.1 s.k
  ·exact⟨rfl,rfl,rfl,rfl,fun h=>⟨h,rfl⟩⟩
  ·exact⟨rfl,rfl,rfl,rfl,fun h=>⟨h.1,h.2.symm⟩⟩
theorem ZaO (t:Bool) (s:St):(test t s).2.n=s.n:=(ZeG t s).1
theorem ZmR (t:Bool) (s:St):(test t s).2.h=s.h:=(ZeG t s).2.1
theorem ZiL (t:Bool) (s:St):(test t s).2.lo=s.lo:=(ZeG t s).2.2.1
theorem Zbl (t:Bool) (s:St) (h:(test t s).2.O):s.O:=((ZeG t s).2.2.2.2 h).1
theorem Zbm (t:Bool) (s:St) (h:(test t s).2.O):(test t s).1=t:=((ZeG t s).2.2.2.2 h).2
theorem To.test (h:Good r s w) (t:Bool):To r s w r (test t s).2 w:=.same h (ZaO t s) (ZmR t s) (ZiL t s)
theorem Zro (t:Bool) (s:St):(ask t s).2.n=s.n:=rfl
theorem ZLU (t:Bool) (s:St):(ask t s).2.h=s.h:=rfl
theorem WZ (t:Bool) (s:St) (h:(ask t s).2.O):s.O:=by
 cases t
 ·exact False.elim h
 ·exact h
theorem Zks (t:Bool) (s:St) (h:(ask t s).2.O):(ask t s).1=t:=by
 cases t
 ·exact False.elim h
 ·rfl
theorem UD (t:Bool) (s:St) (h:(ask t s).2.O):t=true:=(Zks t s h).symm
theorem To.ask (h:Good r s w) (t:Bool):To r s w r (ask t s).2 w:=.same h rfl rfl rfl
theorem Good.of_lo (h:Good r s w) (k:Nat):ZFk s.lo k≤r.c k:=by
 have hl:=h.lo
 generalize s.lo=l at hl
 induction l with
 | nil=>simp[ZFk]
 | cons x l ih =>
  simp only[ZFk]
  cases hx:Nat.beq x.1 k
  ·exact ih fun y hy=>hl y (List.mem_cons_of_mem _ hy)
  ·have:=eB hx
   subst this
   exact(hl x (List.mem_cons_self ..)).1
theorem Good.cap (h:Good r s w) (c:Nat):Zox s c≤r.cap c:=by
 unfold Zox Ren.cap
 cases Nat.blt c big
 ·exact h.of_lo _
 ·exact Nat.le_refl _
end
theorem add_plain (b o n:Nat):(⟨b,o,none⟩:Addr).add n=⟨b,o+n,none⟩:=by
 unfold Addr.add
 split
 ·rename_i h; subst h; rfl
 ·rfl
theorem Wd (r:Ren) (a:Addr) (h:a.spot=none):r.addr a=⟨r.b a.block,r.w a.block+a.off,none⟩:=by
 unfold Ren.addr; rw[h]
theorem Zww (r:Ren) (a:Addr) (n:Nat) (h:a.spot=none):r.addr (a.add n)=(r.addr a).add n:=by
 have:a=⟨a.block,a.off,none⟩:=by cases a; simp at h; subst h; rfl
 rw[this,add_plain,Wd r _ rfl,Wd r _ rfl,add_plain,Nat.add_assoc]
theorem ZpP (a:Addr) (n:Nat) (h:a.spot=none):ZAb a n=a.add n:=by
 have:a=⟨a.block,a.off,none⟩:=by cases a; simp at h; subst h; rfl
 rw[this,add_plain]; rfl
theorem Zdy (r:Ren) (a:Addr) (n:Nat) (h:a.spot=none):r.addr (ZAb a n)=(r.addr a).add n:=by rw[ZpP a n h,Zww r a n h]
section
variable {P:Program} {r:Ren} {s s':St} {w:World}
theorem Is.cell {k:Blk} {g:Nat} (h:Is r k g w) {j:Nat} {v:Value} (hv:k.cells[j]? = some v):w.cell? ⟨r.b g,r.w g+j,none⟩=some (r.val v):=by
 rcases h with⟨_,h⟩|⟨x,_,_,h,_⟩
 rotate_left
 ·rw[h] at hv; cases hv
 obtain⟨arr,ty,fr,h1,_,h3,_⟩:=h
 unfold World.cell?
 simp only[h1,Option.isSome_none,Bool.false_eq_true,if_false]
 exact h3 j v hv
theorem Is.heap {k:Blk} {g:Nat} {w':World} (h:Is r k g w) (hw:w'.heap[r.b g]? = w.heap[r.b g]?):Is r k g w':=by
 rcases h with⟨hi,arr,ty,fr,h1,h2⟩|⟨x,h1,h2,h3⟩
 ·exact .inl ⟨hi,arr,ty,fr,hw.trans h1,h2⟩
 ·exact .inr ⟨x,h1,hw.trans h2,h3⟩
theorem Is.lt {k:Blk} {g:Nat} (h:Is r k g w):r.b g<w.heap.size:=by
 have h1:∃ o,w.heap[r.b g]? = some o:=by
  rcases h with⟨_,arr,ty,fr,h1,_⟩|⟨x,_,h1,_⟩
  ·exact⟨_,h1⟩
  ·exact⟨_,h1⟩
 obtain⟨o,h1⟩:=h1
 rcases Nat.lt_or_ge (r.b g) w.heap.size with hl|hl
 ·exact hl
 ·rw[Array.getElem?_eq_none hl] at h1; cases h1
theorem ZeH {a:Addr} {n:Nat} {l:List Value} (h:Zbk s a n=some (l,s')) (hg:Good r s w) (hO:s'.O) :
  (loadCells (r.addr a) n).run P w = .ok (l.map r.val).toArray w∧l.length=n∧a.spot=none∧∀ v∈l,bnd r.d v=true∧v.oneCell'=true:=by
 unfold Zbk at h
 cases hs:a.spot with
 | some _=>rw[hs] at h; cases h
 | none =>
  rw[hs] at h
  simp only[] at h
  obtain⟨k,hk,h⟩:=oB h
  cases hit:Zow k.it
  ·rw[hit] at h; cases h
  rw[hit] at h
  simp only[cond_true,Option.some.injEq,Prod.mk.injEq] at h
  obtain⟨rfl,rfl⟩:=h
  have hn:=UD _ _ hO
  rw[Vx] at hn
  have hl:((k.cells.drop a.off).take n).length=n:=by simp; omega
  refine⟨?_,hl,rfl,?_⟩
  ·rw[Wd r a hs]
   have:=run_loadCells_list (P:=P) w ⟨r.b a.block,r.w a.block+a.off,none⟩ (((k.cells.drop a.off).take n).map r.val) (fun j v hj=>by
    rw[add_plain,Nat.add_assoc]
    rw[List.getElem?_map,Option.map_eq_some_iff] at hj
    obtain⟨u,hu,rfl⟩:=hj
    rw[List.getElem?_take] at hu
    split at hu
    ·rw[List.getElem?_drop] at hu
     exact(hg.is _ _ hk).cell hu
    ·cases hu)
   rw[List.length_map,hl] at this
   exact this
  ·intro v hv
   exact(hg.lt _ _ hk).2.2 v (List.mem_of_mem_drop (List.mem_of_mem_take hv))
def Ren.with (r:Ren) (n b c:Nat):Ren:=⟨fun g=>if g=n then(if g<NG then g else b) else r.b g,fun g=>if g=n then 0 else r.w g,r.o,fun g=>if g=n then c else r.c g,fun g=>Nat.beq g n||r.d g,
 fun g hg=>by
  by_cases h:g=n
  ·simp only[h,if_true]; rw[if_pos (h▸hg)]
  ·simp only[if_neg h]; exact r.hb g hg,
 fun g hg=>by
  by_cases h:g=n
  ·simp only[h,if_true]
  ·simp only[if_neg h]; exact r.hw g hg,
 fun g hg=>by simp[r.hd g hg]⟩
theorem Ren.far {r:Ren} {n:Nat} (h:r.d n=false):¬ n<NG:=fun hl=>by rw[r.hd n hl] at h; cases h
theorem Ren.with_b (r:Ren) (n b c:Nat) (h:r.d n=false):(r.with n b c).b n=b:=by simp[Ren.with,Ren.far h]
theorem Ren.with_c (r:Ren) (n b c:Nat):(r.with n b c).c n=c:=by simp[Ren.with]
theorem Ren.with_w (r:Ren) (n b c:Nat):(r.with n b c).w n=0:=by simp[Ren.with]
theorem Ren.with_d (r:Ren) (n b c:Nat):(r.with n b c).d n=true:=by simp[Ren.with]
theorem ZfB {r:Ren} {n g:Nat} (h:r.d n=false) (hg:r.d g=true):g≠n:=fun e=>by rw[e,h] at hg; cases hg
theorem Ren.with_ext {r:Ren} {n:Nat} (h:r.d n=false) (b c:Nat):Ext r (r.with n b c) :=
 ⟨fun g hg=>by simp[Ren.with,hg],fun g hg=>if_neg (ZfB h hg),fun g hg=>if_neg (ZfB h hg),fun g _=>rfl,fun g hg=>if_neg (ZfB h hg)⟩
theorem Ren.with_dom {r:Ren} {n b c g:Nat} (h:(r.with n b c).d g=true):r.d g=true∨(n≤g∧g<n+1):=by
 simp only[Ren.with,Bool.or_eq_true] at h
 rcases h with h|h
 ·have:=eB h; exact .inr (by omega)
 ·exact .inl h
theorem Is.ext {r':Ren} {k:Blk} {g:Nat} {w':World} (h:Is r k g w) (he:Ext r r') (hg:r.d g=true) (hk:ZE7 r.d k) (hw:w'.heap[r.b g]? = w.heap[r.b g]?):Is r' k g w':=by
 rcases h with⟨hi,h⟩|⟨x,h1,h2,h3⟩
 rotate_left
 ·exact .inr ⟨x,h1,by rw[he.b g hg,hw]; exact h2,h3.1,h3.2.1,by rw[he.w g hg]; exact h3.2.2⟩
 refine .inl ⟨hi,?_⟩
 obtain⟨arr,ty,fr,h1,h2,h3,h4⟩:=h
 refine⟨arr,ty,fr,?_,?_,?_,h4⟩
 ·rw[he.b g hg,hw]; exact h1
 ·cases hop:k.op with
  | none=>rw[hop] at h2; simp only[] at h2 ⊢; rw[he.w g hg]; exact h2
  | some p=>rw[hop] at h2; simp only[] at h2 ⊢; rw[he.c p.1 (hk.1 p hop),he.w g hg]; exact h2
 ·intro j v hj
  rw[he.w g hg,Zad he v (hk.2 v (List.mem_of_getElem? hj)).1]
  exact h3 j v hj
theorem ZE7.mono {n m:Nat→Bool} {k:Blk} (h:ZE7 n k) (hm:∀ g,n g=true→m g=true):ZE7 m k :=
 ⟨fun p hp=>hm _ (h.1 p hp),fun v hv=>⟨VV hm v (h.2 v hv).1,(h.2 v hv).2⟩⟩
theorem ZpQ (hg:Good r s w) (hfr:r.d s.n=false) (op:Option (Nat×Nat)) (cells:List Value) (arr:Array Value) (ty:TypeId) (fr:Nat×Nat) (c d:Nat)
  (lo:List (Nat×Nat)) (hlo:lo=s.lo∨∃ m,lo=(s.n,m)::s.lo∧m≤c)
  (hb:∀ v∈cells,bnd r.d v=true∧v.oneCell'=true)
  (hop:(op=none∧arr.size=cells.length)∨∃ sz,op=some (s.n,sz)∧arr.size=c*sz∧cells.length≤arr.size)
  (hc:∀ (j:Nat) (v:Value),cells[j]? = some v→arr[j]? = some (r.val v)) (hf:∀ (j:Nat),j<arr.size→¬ (fr.1≤j∧j<fr.2)) (esc:Nat) :
  To r s w (r.with s.n w.heap.size c) { J0 s op cells with lo:=lo,esc:=esc } { w with heap:=w.heap.push (.cells arr ty fr),drawn:=d }:=by
 have he:=Ren.with_ext hfr w.heap.size c
 have hold:∀ g k,look s.h g=some k→({ w with heap:=w.heap.push (.cells arr ty fr),drawn:=d }:World).heap[r.b g]? = w.heap[r.b g]?:=by
  intro g k hk
  have:=(hg.is g k hk).lt
  show(w.heap.push _)[r.b g]? = _
  rw[Array.getElem?_push,if_neg (by omega)]
 have hlk:∀ g k,look ((s.n,(⟨true,op,cells,none⟩:Blk))::s.h) g=some k→(g=s.n∧k=⟨true,op,cells,none⟩)∨(g≠s.n∧look s.h g=some k):=by
  intro g k hk
  rw[Qs] at hk
  split at hk
  ·rename_i e; exact .inl ⟨e,(Option.some.inj hk).symm⟩
  ·rename_i e; exact .inr ⟨e,hk⟩
 refine⟨he,fun g hg=>Ren.with_dom hg,Nat.le_succ _,hg,⟨?_,?_,?_,?_⟩,rfl,rfl,rfl,by simp,?_,?_⟩
 ·intro g k hk
  rcases hlk g k hk with⟨rfl,rfl⟩|⟨hne,hk⟩
  ·refine .inl ⟨rfl,arr,ty,fr,?_,?_,?_,fun _=>hf⟩
   ·rw[Ren.with_b _ _ _ _ hfr]
    show(w.heap.push _)[w.heap.size]? = _
    simp
   ·rcases hop with⟨rfl,h⟩|⟨sz,rfl,h1,h2⟩
    ·exact⟨Ren.with_w _ _ _ _,h⟩
    ·simp only[Ren.with_c,Ren.with_w]; exact⟨.inr ⟨trivial,h1⟩,by omega⟩
   ·intro j v hj
    rw[Ren.with_w,Nat.zero_add,Zad he v (hb v (List.mem_of_getElem? hj)).1]
    exact hc j v hj
  ·exact(hg.is g k hk).ext he (hg.lt g k hk).1 (hg.lt g k hk).2 (hold g k hk)
 ·intro g g' k k' h1 h2 hrw h3
  rcases hlk g k h1 with⟨rfl,rfl⟩|⟨hne,hk⟩<;>rcases hlk g' k' h2 with⟨rfl,rfl⟩|⟨hne',hk'⟩
  ·rfl
  ·rw[Ren.with_b _ _ _ _ hfr,he.b g' (hg.lt g' k' hk').1] at h3
   have:=(hg.is g' k' hk').lt
   omega
  ·rw[Ren.with_b _ _ _ _ hfr,he.b g (hg.lt g k hk).1] at h3
   have:=(hg.is g k hk).lt
   omega
  ·rw[he.b g (hg.lt g k hk).1,he.b g' (hg.lt g' k' hk').1] at h3
   exact hg.inj g g' k k' hk hk' hrw h3
 ·intro g k hk
  rcases hlk g k hk with⟨rfl,rfl⟩|⟨hne,hk⟩
  ·refine⟨Ren.with_d _ _ _ _,fun p hp => ?_,fun v hv=>⟨VV he.d v (hb v hv).1,(hb v hv).2⟩⟩
   rcases hop with⟨rfl,_⟩|⟨sz,rfl,_⟩
   ·cases hp
   ·cases hp; exact Ren.with_d _ _ _ _
  ·exact⟨he.d g (hg.lt g k hk).1,(hg.lt g k hk).2.mono he.d⟩
 ·intro x hx
  have hx':x∈s.lo→x.2≤(r.with s.n w.heap.size c).c x.1∧(r.with s.n w.heap.size c).d x.1=true:=fun h=>by
   have:=hg.lo x h
   rw[he.c x.1 this.2]
   exact⟨this.1,he.d _ this.2⟩
  rcases hlo with rfl|⟨m,rfl,hm⟩
  ·exact hx' hx
  ·rcases List.mem_cons.1 hx with rfl|hx
   ·exact⟨by rw[Ren.with_c]; exact hm,Ren.with_d _ _ _ _⟩
   ·exact hx' hx
 ·intro b hb _
  show(w.heap.push _)[b]? = _
  rw[Array.getElem?_push,if_neg (by omega)]
 ·intro g k hk
  rcases hlk g k hk with⟨rfl,rfl⟩|⟨hne,hk⟩
  ·exact .inr (.inl (by rw[Ren.with_b _ _ _ _ hfr]; exact Nat.le_refl _))
  ·exact .inl ⟨k,hk,id⟩
theorem ZBg (hg:Good r s w) (hfr:r.d s.n=false) (t:ByteArray) :
  To r s w (r.with s.n w.heap.size 0) { s with n:=s.n+1,h:=(s.n,⟨true,none,[],some (t,0)⟩)::s.h } { w with heap:=w.heap.push (.stringIter t 0) }:=by
 have he:=Ren.with_ext hfr w.heap.size 0
 have hold:∀ g k,look s.h g=some k→({ w with heap:=w.heap.push (.stringIter t 0) }:World).heap[r.b g]? = w.heap[r.b g]?:=by
  intro g k hk
  have:=(hg.is g k hk).lt
  show(w.heap.push _)[r.b g]? = _
  rw[Array.getElem?_push,if_neg (by omega)]
 have hlk:∀ g k,look ((s.n,(⟨true,none,[],some (t,0)⟩:Blk))::s.h) g=some k→(g=s.n∧k=⟨true,none,[],some (t,0)⟩)∨(g≠s.n∧look s.h g=some k):=by
  intro g k hk
  rw[Qs] at hk
  split at hk
  ·rename_i e; exact .inl ⟨e,(Option.some.inj hk).symm⟩
  ·rename_i e; exact .inr ⟨e,hk⟩
 refine⟨he,fun g hg=>Ren.with_dom hg,Nat.le_succ _,hg,⟨?_,?_,?_,?_⟩,rfl,rfl,rfl,by simp,?_,?_⟩
 ·intro g k hk
  rcases hlk g k hk with⟨rfl,rfl⟩|⟨hne,hk⟩
  ·refine .inr ⟨_,rfl,?_,rfl,rfl,Ren.with_w _ _ _ _⟩
   rw[Ren.with_b _ _ _ _ hfr]
   show(w.heap.push _)[w.heap.size]? = _
   simp
  ·exact(hg.is g k hk).ext he (hg.lt g k hk).1 (hg.lt g k hk).2 (hold g k hk)
 ·intro g g' k k' h1 h2 hrw h3
  rcases hlk g k h1 with⟨rfl,rfl⟩|⟨hne,hk⟩<;>rcases hlk g' k' h2 with⟨rfl,rfl⟩|⟨hne',hk'⟩
  ·rfl
  ·rw[Ren.with_b _ _ _ _ hfr,he.b g' (hg.lt g' k' hk').1] at h3
   have:=(hg.is g' k' hk').lt
   omega
  ·rw[Ren.with_b _ _ _ _ hfr,he.b g (hg.lt g k hk).1] at h3
   have:=(hg.is g k hk).lt
   omega
  ·rw[he.b g (hg.lt g k hk).1,he.b g' (hg.lt g' k' hk').1] at h3
   exact hg.inj g g' k k' hk hk' hrw h3
 ·intro g k hk
  rcases hlk g k hk with⟨rfl,rfl⟩|⟨hne,hk⟩
  ·have hB:ZE7 (r.with s.n w.heap.size 0).d ⟨true,none,[],some (t,0)⟩:=⟨fun p hp=>(by cases hp),fun v hv=>(by cases hv)⟩
   exact⟨Ren.with_d _ _ _ _,hB⟩
  ·exact⟨he.d g (hg.lt g k hk).1,(hg.lt g k hk).2.mono he.d⟩
 ·intro x hx
  have:=hg.lo x hx
  rw[he.c x.1 this.2]
  exact⟨this.1,he.d _ this.2⟩
 ·intro b hb _
  show(w.heap.push _)[b]? = _
  rw[Array.getElem?_push,if_neg (by omega)]
 ·intro g k hk
  rcases hlk g k hk with⟨rfl,rfl⟩|⟨hne,hk⟩
  ·exact .inr (.inl (by rw[Ren.with_b _ _ _ _ hfr]; exact Nat.le_refl _))
  ·exact .inl ⟨k,hk,id⟩
theorem ZmS (h:Heap) (g g':Nat) (i:ByteArray×Nat):look (Zz9 h g i) g'=if g'=g then(look h g).map fun k=>{ k with it:=some i } else look h g':=by
 induction h with
 | nil=>simp[Zz9,look]
 | cons x h ih =>
  simp only[Zz9]
  cases hb:Nat.beq x.1 g
  ·simp only[cond_false]
   have hx:x.1≠g:=fun e=>by rw[e,Nat.beq_refl] at hb; cases hb
   rw[Qs,Qs,ih,Qs]
   by_cases e:g'=g
   ·subst e
    rw[if_neg (Ne.symm hx),if_pos rfl,if_pos rfl,if_neg (Ne.symm hx)]
   ·rw[if_neg e,if_neg e]
  ·simp only[cond_true]
   have hx:=eB hb
   rw[Qs,Qs,ih,Qs]
   by_cases e:g'=g
   ·subst e; simp[hx]
   ·simp[e,hx]
theorem ZBh (hg:Good r s w) {g0:Nat} {k:Blk} {i:ByteArray×Nat} (hk:look s.h g0=some k) (hi:k.it=some i) (hrw:k.rw=true) (j:Nat) :
  To r s w r { s with h:=Zz9 s.h g0 (i.1,j) } { w with heap:=w.heap.setIfInBounds (r.b g0) (.stringIter i.1 j) }:=by
 have hlt:=(hg.is _ _ hk).lt
 have hcells:k.cells=[]∧k.op=none∧r.w g0=0:=by
  rcases hg.is _ _ hk with⟨h,_⟩|⟨x,_,_,h⟩
  ·rw[hi] at h; cases h
  ·exact h
 have hlk:∀ g k',look (Zz9 s.h g0 (i.1,j)) g=some k'→(g=g0∧k'={ k with it:=some (i.1,j) })∨(g≠g0∧look s.h g=some k'):=by
  intro g k' hk'
  rw[ZmS] at hk'
  split at hk'
  ·rename_i e; subst e; rw[hk] at hk'; exact .inl ⟨rfl,(Option.some.inj hk').symm⟩
  ·rename_i e; exact .inr ⟨e,hk'⟩
 have hfar:∀ b',b'≠r.b g0→(w.heap.setIfInBounds (r.b g0) (.stringIter i.1 j))[b']? = w.heap[b']?:=fun b' hb' =>
  Array.getElem?_setIfInBounds_ne (Ne.symm hb')
 refine⟨Ext.refl _,fun _ h => .inl h,Nat.le_refl _,hg,⟨?_,?_,?_,hg.lo⟩,rfl,rfl,rfl,by simp,?_,?_⟩
 ·intro g k' hk'
  rcases hlk g k' hk' with⟨rfl,rfl⟩|⟨hne,hk'⟩
  ·exact .inr ⟨_,rfl,by simp[hlt],hcells⟩
  ·exact(hg.is g k' hk').heap (hfar _ fun e=>hne (hg.inj' hk' hk hrw e))
 ·intro g g' k1 k2 h5 h6 h8 h7
  rcases hlk g k1 h5 with⟨e1,_⟩|⟨_,q5⟩<;>rcases hlk g' k2 h6 with⟨e2,_⟩|⟨_,q6⟩
  ·rw[e1,e2]
  ·rw[e1] at h7 ⊢; exact hg.inj _ _ k k2 hk q6 hrw h7
  ·rw[e2] at h7 ⊢; exact hg.inj _ _ k1 k q5 hk h8 h7
  ·exact hg.inj _ _ k1 k2 q5 q6 h8 h7
 ·intro g k' hk'
  rcases hlk g k' hk' with⟨rfl,rfl⟩|⟨hne,hk'⟩
  ·exact⟨(hg.lt _ _ hk).1,(hg.lt _ _ hk).2⟩
  ·exact hg.lt _ _ hk'
 ·intro b' _ hb'
  exact hfar _ fun e=>hb' g0 k hk hrw e.symm
 ·intro g k' hk'
  rcases hlk g k' hk' with⟨rfl,rfl⟩|⟨hne,hk'⟩
  ·exact .inl ⟨k,hk,id⟩
  ·exact .inl ⟨k',hk',id⟩
theorem ZoA (hg:Good r s w) (hfr:r.d s.n=false) (cells:List Value) (ty:TypeId) (hb:∀ v∈cells,bnd r.d v=true∧v.oneCell'=true) :
  To r s w (r.with s.n w.heap.size 0) (J0 s none cells) { w with heap:=w.heap.push (.cells (cells.map r.val).toArray ty) }:=by
 have:=ZpQ hg hfr none cells (cells.map r.val).toArray ty (0,0) 0 w.drawn s.lo (.inl rfl) hb (.inl ⟨rfl,by simp⟩) (fun j v hj=>by simp[hj]) (fun j _ h=>by simp at h) s.esc
 exact this
end
theorem ZpR (xs:Array Obj) (b:Nat) (o:Obj) (h:xs[b]? = some o):xs.setIfInBounds b o=xs:=by
 apply Array.ext_getElem?
 intro i
 rw[Array.getElem?_setIfInBounds]
 split
 ·rename_i e; subst e
  split
  ·exact h.symm
  ·rename_i hlt; rw[Array.getElem?_eq_none (by omega)] at h; cases h
 ·rfl
theorem ZoB (w:World) (b off:Nat) (v:Value) (arr:Array Value) (ty:TypeId) (fr:Nat×Nat) (h:w.heap[b]? = some (.cells arr ty fr)) :
  w.setCell ⟨b,off,none⟩ v={ w with heap:=w.heap.setIfInBounds b (.cells (arr.setIfInBounds off v) ty fr) }:=by
 unfold World.setCell
 congr 1
 apply Array.ext_getElem?
 intro i
 rw[Array.getElem?_modify,Array.getElem?_setIfInBounds]
 by_cases hi:b=i
 ·subst hi
  simp only[if_true,h,Option.map_some,Option.isSome_none,Bool.false_eq_true,if_false]
  split
  ·rfl
  ·rename_i hlt; rw[Array.getElem?_eq_none (by omega)] at h; cases h
 ·simp[hi]
theorem K7 (P:Program) (b off:Nat) (ty:TypeId) (fr:Nat×Nat):∀ (vs:List Value) (i:Nat) (arr:Array Value) (w:World),
  w.heap[b]? = some (.cells arr ty fr)→off+i+vs.length≤arr.size→(∀ v∈vs,v.oneCell'=true)→(∀ j,j<arr.size→¬ (fr.1≤j∧j<fr.2)) →
  ∃ arr':Array Value,(storeCells ⟨b,off,none⟩ vs i).run P w = .ok () { w with heap:=w.heap.setIfInBounds b (.cells arr' ty fr) }∧arr'.size=arr.size ∧
   ∀ j:Nat,arr'[j]? = if off+i≤j∧j<off+i+vs.length then vs[j-(off+i)]? else arr[j]?
 | [],i,arr,w,h,_,_,_=>⟨arr,by simp[storeCells,ZpR _ _ _ h],rfl,fun j=>by rw[if_neg (by simp)]⟩
 | v::vs,i,arr,w,h,hl,h1,hf=>by
  simp only[List.length_cons] at hl
  have hlt:off+i<arr.size:=by omega
  have hb:b<w.heap.size:=by
   rcases Nat.lt_or_ge b w.heap.size with hb|hb
   ·exact hb
   ·rw[Array.getElem?_eq_none hb] at h; cases h
  have hc:w.cell? ⟨b,off+i,none⟩=some arr[off+i]:=by
   unfold World.cell?
   simp[h,hlt]
  have hz:w.frozen? ⟨b,off+i,none⟩=false:=by
   unfold World.frozen?
   simp only[h]
   have:=hf (off+i) hlt
   cases h1:decide (fr.1≤off+i)<;>simp_all
  have hs:(store ((⟨b,off,none⟩:Addr).add i) v).run P w = .ok () (w.setCell ⟨b,off+i,none⟩ v):=by
   rw[add_plain,run_store P w _ v .plain (h1 v (List.mem_cons_self ..)),hc]
   simp only[hz,Bool.false_eq_true,if_false]
  rw[ZoB w b _ v arr ty fr h] at hs
  obtain⟨arr',e1,e2,e3⟩:=K7 P b off ty fr vs (i+1) (arr.setIfInBounds (off+i) v) { w with heap:=w.heap.setIfInBounds b (.cells (arr.setIfInBounds (off+i) v) ty fr) }
   (by simp[hb]) (by simp; omega) (fun u hu=>h1 u (List.mem_cons_of_mem _ hu)) (fun j hj=>hf j (by simpa using hj))
  refine⟨arr',?_,by rw[e2]; simp,fun j => ?_⟩
  ·simp only[storeCells,Sem.run_bind,hs,Result.andThen_ok,e1]
   simp
  ·rw[e3 j]
   by_cases hj:off+(i+1)≤j∧j<off+(i+1)+vs.length
   ·rw[if_pos hj,if_pos (by simp only[List.length_cons]; omega)]
    rw[show j-(off+i)=(j-(off+(i+1)))+1 by omega]
    simp
   ·rw[if_neg hj]
    by_cases hj':j=off+i
    ·subst hj'
     rw[if_pos (by simp only[List.length_cons]; omega)]
     simp[hlt]
    ·rw[if_neg (by simp only[List.length_cons]; omega),Array.getElem?_setIfInBounds_ne (by omega)]
theorem ZmT {n:Nat} {vs l:List Value} (h:n+vs.length≤l.length) {v:Value} (hv:v∈YU n vs l):v∈vs∨v∈l:=by
 obtain⟨j,hj,rfl⟩:=List.getElem_of_mem hv
 have:=Kj l n vs j h
 rw[List.getElem?_eq_getElem hj] at this
 split at this
 ·exact .inl (List.mem_of_getElem? this.symm)
 ·exact .inr (List.mem_of_getElem? this.symm)
section
variable {P:Program} {r:Ren} {s s':St} {w:World}
theorem Zge {sc:Bool} {a:Addr} {vs:List Value} (h:Zcr sc s a vs=some s') (hO:s'.O):s.O:=by
 unfold Zcr at h
 split at h
 ·cases h
 obtain⟨k,_,h⟩:=oB h
 cases hc:(k.rw&&Zow k.it)
 ·rw[hc] at h; cases h
 rw[hc] at h
 simp only[cond_true,Option.some.injEq] at h
 subst h
 exact WZ _ s hO
theorem Zhd {sc:Bool} {a:Addr} {vs:List Value} (h:Zcr sc s a vs=some s') (hg:Good r s w) (hv:∀ v∈vs,bnd r.d v=true) (hO:s'.O) :
  a.spot=none∧s.O∧∃ w',(storeCells (r.addr a) (vs.map r.val)).run P w = .ok () w'∧To r s w r s' w':=by
 unfold Zcr at h
 simp only[Qr] at h
 cases hs:a.spot with
 | some _=>rw[hs] at h; cases h
 | none =>
  rw[hs] at h
  simp only[] at h
  obtain⟨k,hk,h⟩:=oB h
  cases hc:(k.rw&&Zow k.it)
  ·rw[hc] at h; cases h
  rw[hc] at h
  simp only[cond_true,Option.some.injEq] at h
  subst h
  rw[Bool.and_eq_true] at hc
  obtain⟨hrw,hit⟩:=hc
  have hq:=UD _ s hO
  have hOs:=WZ _ s hO
  rw[Bool.and_eq_true,Bool.and_eq_true] at hq
  obtain⟨⟨hn,ho⟩,_⟩:=hq
  rw[Vx] at hn
  have ho':∀ v∈vs,v.oneCell'=true:=fun v hv=>List.all_eq_true.1 ho v hv
  refine⟨rfl,hOs,?_⟩
  obtain⟨arr,ty,fr,h1,h2,h3,h4⟩:=(hg.is _ _ hk).c (ZbC hit)
  have h4:=h4 hrw
  have hw0:r.w a.block=0:=by
   cases hop:k.op with
   | none=>rw[hop] at h2; exact h2.1
   | some p =>
    rw[hop] at h2
    rcases h2.1 with h|h
    ·rw[hrw] at h; cases h
    ·exact h.1
  have hsz:k.cells.length≤arr.size:=by
   cases hop:k.op with
   | none=>rw[hop] at h2; simp only[] at h2; omega
   | some p=>rw[hop] at h2; simp only[] at h2; omega
  rw[Wd r a hs,hw0,Nat.zero_add]
  obtain⟨arr',e1,e2,e3⟩:=K7 P (r.b a.block) a.off ty fr (vs.map r.val) 0 arr w h1 (by simp; omega) (fun v hv=>by
   obtain⟨u,hu,rfl⟩:=List.mem_map.1 hv
   rw[ZiK]; exact ho' u hu) h4
  have hlt:=(hg.is _ _ hk).lt
  have hlk:∀ g k',look (upd s.h a.block (YU a.off vs k.cells)) g=some k'→(g=a.block∧k'={ k with cells:=YU a.off vs k.cells })∨(g≠a.block∧look s.h g=some k'):=by
   intro g k' hk'
   rw[ZpO] at hk'
   split at hk'
   ·rename_i e; subst e; rw[hk] at hk'; exact .inl ⟨rfl,(Option.some.inj hk').symm⟩
   ·rename_i e; exact .inr ⟨e,hk'⟩
  have hfar:∀ b',b'≠r.b a.block→(w.heap.setIfInBounds (r.b a.block) (.cells arr' ty fr))[b']? = w.heap[b']?:=fun b' hb' =>
   Array.getElem?_setIfInBounds_ne (Ne.symm hb')
  refine⟨_,e1,⟨Ext.refl _,fun _ h => .inl h,Nat.le_refl _,hg,⟨?_,?_,?_,hg.lo⟩,rfl,rfl,rfl,by simp,?_,?_⟩⟩
  ·intro g k' hk'
   rcases hlk g k' hk' with⟨rfl,rfl⟩|⟨hne,hk'⟩
   ·refine .inl ⟨ZbC hit,arr',ty,fr,by simp[hlt],?_,?_,fun _ j hj=>h4 j (by omega)⟩
    ·cases hop:k.op with
     | none=>rw[hop] at h2; simp only[ZaN] at h2 ⊢; omega
     | some p =>
      rw[hop] at h2
      simp only[ZaN] at h2 ⊢
      rw[e2]; exact h2
    ·intro j v hj
     simp only[] at hj
     rw[Kj _ _ _ _ hn] at hj
     rw[hw0,Nat.zero_add,e3 j]
     rw[hw0] at h3
     simp only[Nat.zero_add] at h3
     simp only[Nat.add_zero,List.length_map]
     split at hj
     ·rename_i hc; rw[if_pos hc,List.getElem?_map,hj]; rfl
     ·rename_i hc; rw[if_neg hc]; exact h3 j v hj
   ·exact(hg.is g k' hk').heap (hfar _ fun e=>hne (hg.inj' hk' hk hrw e))
  ·intro g g' k1 k2 h5 h6 h8 h7
   rcases hlk g k1 h5 with⟨rfl,rfl⟩|⟨hne,h5⟩<;>rcases hlk g' k2 h6 with⟨rfl,rfl⟩|⟨hne',h6⟩
   ·rfl
   ·exact hg.inj _ _ k k2 hk h6 hrw h7
   ·exact hg.inj _ _ k1 k h5 hk h8 h7
   ·exact hg.inj _ _ k1 k2 h5 h6 h8 h7
  ·intro g k' hk'
   rcases hlk g k' hk' with⟨rfl,rfl⟩|⟨hne,hk'⟩
   ·refine⟨(hg.lt _ _ hk).1,(hg.lt _ _ hk).2.1,fun v hv' => ?_⟩
    rcases ZmT hn hv' with h8|h8
    ·exact⟨hv v h8,ho' v h8⟩
    ·exact(hg.lt _ _ hk).2.2 v h8
   ·exact hg.lt _ _ hk'
  ·intro b' _ hb'
   exact hfar _ fun e=>hb' a.block k hk hrw e.symm
  ·intro g k' hk'
   rcases hlk g k' hk' with⟨rfl,rfl⟩|⟨hne,hk'⟩
   ·exact .inl ⟨k,hk,fun _=>hrw⟩
   ·exact .inl ⟨k',hk',id⟩
end
end Go.Proofs.YtagacmljbgkmoaaGreatDoor.Sy
namespace Go.Proofs.YtagacmljbgkmoaaGreatDoor.Sy
open Go.IntKind (u8 u16 u32 u64 i64)
open Go.RowKit
section
variable {P:Program} {r:Ren} {s s':St} {w:World}
theorem ZeI {t:TypeId} {b:Bool} (h:ZpI P t=some b) (w:World):(isAgg t).run P w = .ok b w:=by
 unfold ZpI at h
 obtain⟨d,hd,rfl⟩:=oM h
 unfold isAgg
 simp only[Sem.run_bind,run_underlying hd,Result.andThen_ok]
 cases d<;>rfl
theorem J2 {t:TypeId} {i:TypeInfo} (h:P.info? t=some i) (w:World):(typeInfo t).run P w = .ok i w:=by
 unfold typeInfo
 simp only[Sem.run_bind,run_program,Result.andThen_ok,h]
 rfl
theorem YN {t:TypeId} {n:Nat} (h:ZaL P t=some n) (w:World):(sizeOf t).run P w = .ok n w:=by
 unfold ZaL at h
 obtain⟨i,hi,rfl⟩:=oM h
 unfold sizeOf
 simp only[Sem.run_bind,J2 hi,Result.andThen_ok]
 rfl
theorem Zgf {t:TypeId} {z:Value} (h:Zj9 P t=some z):(∀ w,(zeroValue t).run P w = .ok z w)∧(∀ v∈z.cells.toList,Qm v=true)∧Uv z=true:=by
 unfold Zj9 at h
 obtain⟨i,hi,h⟩:=oB h
 obtain⟨z',hz,h⟩:=oB h
 cases hc:(z'.cells.toList.all Qm&&Uv z')
 ·rw[hc] at h; cases h
 rw[hc] at h
 simp only[cond_true,Option.some.injEq] at h
 subst h
 simp only[Bool.and_eq_true] at hc
 refine⟨fun w => ?_,fun v hv=>List.all_eq_true.1 hc.1 v hv,hc.2⟩
 unfold zeroValue
 simp only[Sem.run_bind,J2 hi,Result.andThen_ok,hz]
 rfl
theorem W5 {v:Value} (h:Qm v=true):v.oneCell'=true:=by cases v<;>first|rfl|(simp[Qm] at h; done)
theorem J3 {n:Nat→Bool} {v:Value} (h:bnd n v=true):∀ u∈v.cells.toList,bnd n u=true:=by
 intro u hu
 cases v<;>(try (simp only[Value.cells,List.mem_singleton] at hu; subst hu; exact h))
 simp only[Value.cells] at hu
 rw[K6,Array.all_eq_true_iff_forall_mem] at h
 exact h u (by simpa using hu)
theorem ZaP {n:Nat→Bool} {l:List Value} (h:∀ v∈l,bnd n v=true):bnd n (.agg ⟨l⟩)=true:=by
 rw[K6,Array.all_eq_true_iff_forall_mem]
 exact fun v hv=>h v (by simpa using hv)
theorem ZaQ (r:Ren) (l:List Value):r.val (.agg ⟨l⟩) = .agg (l.map r.val).toArray:=by rw[K4]; simp
theorem ZBi {z v:Value} (h:ZmM z v=true):like z v=v:=by
 cases z<;>(try rfl)<;>cases v<;>(try rfl)<;>(try (cases h; done))
 rename_i k _ j _
 have:k=j:=of_decide_eq_true h
 subst this
 rfl
theorem Zlp {α:Type} (d:α):∀ (l:List α) (i:Nat),i<l.length→l[i]? = some (Zt d l i)
 | [],i,h=>by simp at h
 | x::l,0,_=>rfl
 | x::l,i+1,h=>by
  simp only[List.length_cons] at h
  rw[List.getElem?_cons_succ]
  exact Zlp d l i (by omega)
theorem ZpS:∀ (zs cs:List Value) (o:Nat),Zz zs cs o=true→o+zs.length≤cs.length→Zfu zs cs o=(cs.drop o).take zs.length
 | [],cs,o,_,_=>by simp[Zfu]
 | z::zs,cs,o,h,hl=>by
  simp only[Zz,Bool.and_eq_true] at h
  simp only[List.length_cons] at hl
  have hlt:o<cs.length:=by omega
  rw[Zfu,ZBi h.1,ZpS zs cs (o+1) h.2 (by omega)]
  have h1:=Zlp undef cs o hlt
  rw[List.getElem?_eq_getElem hlt] at h1
  rw[List.drop_eq_getElem_cons hlt,List.length_cons,List.take_succ_cons,Option.some.inj h1]
theorem ZiM {t:TypeId} {a:Addr} {v:Value} (h:ZeC P s t a=some (v,s')) (hg:Good r s w) (hO:s'.O):s.O∧(loadVar t (r.addr a)).run P w = .ok (r.val v) w∧bnd r.d v=true∧To r s w r s' w:=by
 unfold ZeC at h
 obtain⟨g,hgg,h⟩:=oB h
 obtain⟨z,hz,h⟩:=oB h
 split at h
 ·cases h
 rename_i hs
 obtain⟨k,hk,h⟩:=oB h
 cases hit:Zow k.it
 ·rw[hit] at h; cases h
 rw[hit] at h
 simp only[cond_true] at h
 rw[Qr] at h
 generalize hT:(WK (a.off+z.cells.toList.length) k.cells&&Zz z.cells.toList k.cells a.off)=T at h
 have key:∀ n,z.cells.toList.length=n→(ask T s).2.O→s.O∧(loadCells (r.addr a) n).run P w = .ok ((Zfu z.cells.toList k.cells a.off).map r.val).toArray w∧(Zfu z.cells.toList k.cells a.off).length=n ∧
   (∀ (j:Nat) (v:Value),(Zfu z.cells.toList k.cells a.off)[j]? = some v→w.cell? ((r.addr a).add j)=some (r.val v))∧∀ v∈Zfu z.cells.toList k.cells a.off,bnd r.d v=true∧v.oneCell'=true:=by
  intro n hn hO
  have hq:=UD _ _ hO
  rw[← hT,Bool.and_eq_true,Vx] at hq
  have he:=ZpS _ _ _ hq.2 hq.1
  have hrd:Zbk s a n=some (Zfu z.cells.toList k.cells a.off,(ask (WK (a.off+n) k.cells) s).2):=by
   unfold Zbk
   simp only[hs,hk,Option.bind_some,hit,cond_true]
   rw[he,hn]
  have hO':(ask (WK (a.off+n) k.cells) s).2.O:=by
   have:WK (a.off+n) k.cells=true:=by rw[Vx]; omega
   rw[this]; exact WZ _ _ hO
  obtain⟨h1,h2,_,h4⟩:=ZeH (P:=P) hrd hg hO'
  refine⟨WZ _ _ hO,h1,h2,fun j v hj => ?_,h4⟩
  rw[he] at hj
  rw[Wd r a hs,add_plain,Nat.add_assoc]
  rw[List.getElem?_take] at hj
  split at hj
  ·rw[List.getElem?_drop] at hj
   exact(hg.is _ _ hk).cell hj
  ·cases hj
 unfold loadVar
 cases g
 ·simp only[cond_false] at h
  split at h
  ·rename_i u hu
   simp only[Option.some.injEq,Prod.mk.injEq] at h
   obtain⟨rfl,rfl⟩:=h
   obtain⟨k1,_,k2,k3,k4⟩:=key _ rfl hO
   have hc:=k3 0 u (by rw[hu]; rfl)
   have:(r.addr a).add 0=r.addr a:=by simp[Addr.add]
   rw[this] at hc
   refine⟨k1,?_,(k4 u (by rw[hu]; simp)).1,To.ask hg _⟩
   simp only[Sem.run_bind,ZeI hgg,Result.andThen_ok,Bool.false_eq_true,if_false,run_load,hc]
  ·cases h
 ·simp only[cond_true] at h
  obtain⟨n,hn,h⟩:=oB h
  cases hb:Nat.beq n z.cells.toList.length
  ·rw[hb] at h; cases h
  rw[hb] at h
  simp only[cond_true,Option.some.injEq,Prod.mk.injEq] at h
  obtain⟨rfl,rfl⟩:=h
  obtain⟨k1,k2,_,_,k4⟩:=key n (eB hb).symm hO
  refine⟨k1,?_,ZaP fun v hv=>(k4 v hv).1,To.ask hg _⟩
  simp only[Sem.run_bind,ZeI hgg,Result.andThen_ok,if_true,YN hn,k2,Sem.run_pure]
  rw[ZaQ]
theorem ZmU {t:TypeId} {a:Addr} {v:Value} (h:Zdt P s t a v=some s') (hg:Good r s w) (hv:bnd r.d v=true) (hO:s'.O) :
  s.O∧∃ w',(storeVar t (r.addr a) (r.val v)).run P w = .ok () w'∧To r s w r s' w':=by
 unfold Zdt at h
 obtain⟨n,hn,h⟩:=oB h
 cases hc:Nat.beq v.cells.size n
 ·rw[hc] at h; cases h
 rw[hc] at h
 simp only[cond_true] at h
 obtain⟨_,h2,w',h3,h4⟩:=Zhd (P:=P) h hg (J3 hv) hO
 refine⟨h2,w',?_,h4⟩
 have hsz:((r.val v).cells.size≠n)=False:=by
  rw[Zf8]; simp[eB hc]
 have hcl:(r.val v).cells.toList=v.cells.toList.map r.val:=by rw[Zf8]; simp
 unfold storeVar
 simp only[Sem.run_bind,YN hn,Result.andThen_ok,hsz,if_false,hcl]
 simpa using h3
theorem Zlq {t:TypeId} {cs:List Value} {off:Nat} {v:Value} {n:Nat→Bool} (h:Zih P t cs off=some v) (hb:∀ u∈cs,bnd n u=true) (w:World) :
  (part t (cs.map r.val).toArray off).run P w = .ok (r.val v) w∧bnd n v=true:=by
 unfold Zih at h
 obtain⟨g,hg,h⟩:=oB h
 unfold part
 cases g
 ·simp only[cond_false] at h
  have:(cs.map r.val).toArray[off]? = some (r.val v):=by simp[h]
  simp only[Sem.run_bind,ZeI hg,Result.andThen_ok,Bool.false_eq_true,if_false,this,Sem.run_pure]
  exact⟨trivial,hb v (List.mem_of_getElem? h)⟩
 ·simp only[cond_true] at h
  obtain⟨n',hn,rfl⟩:=oM h
  simp only[Sem.run_bind,ZeI hg,Result.andThen_ok,if_true,YN hn,Sem.run_pure]
  refine⟨?_,ZaP fun u hu=>hb u (List.mem_of_mem_drop (List.mem_of_mem_take hu))⟩
  rw[ZaQ]
  congr 2
  apply Array.ext'
  simp[List.map_take,List.map_drop]
theorem Yld.to {x:Sem Value} {v:Value} (h:x.run P w = .ok (r.val v) w) (hb:bnd r.d v=true) (ht:To r s w r s' w):∃ r' w',x.run P w = .ok (r'.val v) w'∧To r s w r' s' w'∧bnd r'.d v=true:=⟨r,w,h,ht,hb⟩
def Yld (P:Program) (r:Ren) (s:St) (w:World) (x:Sem Value) (v:Value) (s':St):Prop :=
 ∃ r' w',x.run P w = .ok (r'.val v) w'∧To r s w r' s' w'∧bnd r'.d v=true
theorem Yld.same {x:Sem Value} {v:Value} (hg:Good r s w) (h:x.run P w = .ok (r.val v) w) (hb:bnd r.d v=true):Yld P r s w x v s:=⟨r,w,h,To.refl hg,hb⟩
theorem Yld.ask {x:Sem Value} {v:Value} (t:Bool) (hg:Good r s w) (h:x.run P w = .ok (r.val v) w) (hb:bnd r.d v=true):Yld P r s w x v (Sy.ask t s).2 :=
 ⟨r,w,h,To.ask hg t,hb⟩
theorem Yld.test {x:Sem Value} {v:Value} (t:Bool) (hg:Good r s w) (h:x.run P w = .ok (r.val v) w) (hb:bnd r.d v=true):Yld P r s w x v (Sy.test t s).2 :=
 ⟨r,w,h,To.test hg t,hb⟩
theorem ZfC (r:Ren) (n b c:Nat) (h:r.d n=false):(r.with n b c).val (ptr n 0) = .pointer (some ⟨b,0,none⟩):=by
 unfold ptr; rw[Y4,Option.map_some,Wd _ _ rfl]; simp[Ren.with,Ren.far h]
theorem Zlr (r:Ren) (n b c l k:Nat) (hk:k<big) (h:r.d n=false):(r.with n b c).val (.slice (some ⟨n,0,none⟩) l k) = .slice (some ⟨b,0,none⟩) l k:=by
 have hk':Nat.blt k big=true:=by simpa using hk
 rw[ZV,Option.map_some,Wd _ _ rfl]
 simp[Ren.with,Ren.cap,hk',Ren.far h]
theorem KM (r:Ren) (n:Nat):r.cap (big+n)=r.c n:=by
 unfold Ren.cap
 have:Nat.blt (big+n) big=false:=by
  cases h:Nat.blt (big+n) big
  ·rfl
  ·simp at h; omega
 rw[this]
 simp
theorem Kk (r:Ren) (n b c l:Nat) (h:r.d n=false):(r.with n b c).val (.slice (some ⟨n,0,none⟩) l (big+n)) = .slice (some ⟨b,0,none⟩) l c:=by
 rw[ZV,Option.map_some,Wd _ _ rfl,KM]
 simp[Ren.with,Ren.far h]
theorem Zls {n l k:Nat} {m:Nat→Bool} (hk:k<big) (hn:m n=true):bnd m (.slice (some ⟨n,0,none⟩) l k)=true:=by
 rw[QT]
 simp[Ut,hn,hk]
theorem Kl {n l:Nat} {m:Nat→Bool} (hn:m n=true):bnd m (.slice (some ⟨n,0,none⟩) l (big+n))=true:=by
 rw[QT]
 simp[Ut,hn]
theorem ZsX {t:TypeId} {z:Value} (h:Zj9 P t=some z) (hg:Good r s w) (hfr:r.d s.n=false) :
  Yld P r s w (Instr.alloc t true (.tuple #[])) (ptr s.n 0) (J0 s none z.cells.toList):=by
 obtain⟨h1,h2,_⟩:=Zgf h
 refine⟨_,_,?_,ZoA hg hfr z.cells.toList t fun v hv=>⟨ZG _ (h2 v hv),W5 (h2 v hv)⟩,Zln (Ren.with_d _ _ _ _)⟩
 rw[ZfC _ _ _ _ hfr,Zdw r (List.all_eq_true.2 h2)]
 simp only[Instr.alloc,Sem.run_bind,h1,Result.andThen_ok,newVar,newRow,run_newObj,Sem.run_pure]
theorem ZBj {t:TypeId} {v:Value} (h:Zj8 v.cells.toList=true) (hb:bnd r.d v=true) (hg:Good r s w) (hfr:r.d s.n=false) :
  Yld P r s w (Instr.box t (r.val v)) (ptr s.n 0) (J0 s none v.cells.toList):=by
 refine⟨_,_,?_,ZoA hg hfr v.cells.toList t fun u hu=>⟨J3 hb u hu,List.all_eq_true.1 h u hu⟩,Zln (Ren.with_d _ _ _ _)⟩
 have hcl:(r.val v).cells=(v.cells.toList.map r.val).toArray:=by rw[Zf8]; apply Array.ext'; simp
 rw[ZfC _ _ _ _ hfr]
 simp only[Instr.box,Sem.run_bind,Result.andThen_ok,newVar,newRow,run_newObj,Sem.run_pure,hcl]
theorem ZpT (off:Nat):∀ (vs:List Value) (k:Nat) (arr:Array Value),off+k+vs.length≤arr.size →
  ((vs.zipIdx k).foldl (fun cs x=>cs.setIfInBounds (off+x.2) x.1) arr).size=arr.size ∧
  ∀ j:Nat,((vs.zipIdx k).foldl (fun cs x=>cs.setIfInBounds (off+x.2) x.1) arr)[j]? = if off+k≤j∧j<off+k+vs.length then vs[j-(off+k)]? else arr[j]?
 | [],k,arr,h=>⟨rfl,fun j=>by rw[if_neg (by simp)]; rfl⟩
 | v::vs,k,arr,h=>by
  simp only[List.length_cons] at h
  obtain⟨h1,h2⟩:=ZpT off vs (k+1) (arr.setIfInBounds (off+k) v) (by simp; omega)
  simp only[List.zipIdx_cons,List.foldl_cons]
  refine⟨by rw[h1]; simp,fun j => ?_⟩
  rw[h2 j]
  by_cases hj:off+(k+1)≤j∧j<off+(k+1)+vs.length
  ·rw[if_pos hj,if_pos (by simp only[List.length_cons]; omega),show j-(off+k)=(j-(off+(k+1)))+1 by omega]
   simp
  ·rw[if_neg hj]
   by_cases hj':j=off+k
   ·subst hj'
    rw[if_pos (by simp only[List.length_cons]; omega)]
    have hlt:off+k<arr.size:=by omega
    simp[hlt]
   ·rw[if_neg (by simp only[List.length_cons]; omega),Array.getElem?_setIfInBounds_ne (by omega)]
theorem Zkb (off:Nat) (vs cells:List Value) (h:off+vs.length≤cells.length) :
  (vs.toArray.zipIdx.foldl (fun cs x=>cs.setIfInBounds (off+x.2) x.1) cells.toArray)=(YU off vs cells).toArray:=by
 rw[← Array.foldl_toList,Array.toList_zipIdx]
 obtain⟨h1,h2⟩:=ZpT off vs 0 cells.toArray (by simpa using h)
 apply Array.ext_getElem?
 intro j
 rw[h2 j]
 simp only[Nat.add_zero,List.getElem?_toArray]
 rw[Kj _ _ _ _ h]
theorem Zlt {n:Nat→Bool} (place:Nat→Option (Nat×Nat)):∀ (parts:List (Nat×Value)) (cells l:List Value),Zoy place cells parts=some l →
  (∀ x∈parts,bnd n x.2=true)→(∀ v∈cells,bnd n v=true∧v.oneCell'=true) →
  Instr.fill place (cells.map r.val).toArray (parts.map fun x=>(x.1,r.val x.2))=some (l.map r.val).toArray∧∀ v∈l,bnd n v=true∧v.oneCell'=true
 | [],cells,l,h,_,hc=>by simp only[Zoy,Option.some.injEq] at h; subst h; exact⟨rfl,hc⟩
 | (i,v)::rest,cells,l,h,hp,hc=>by
  simp only[Zoy] at h
  obtain⟨⟨off,size⟩,hpl,h⟩:=oB h
  cases hb:(Nat.beq v.cells.size size&&WK (off+size) cells&&Zj8 v.cells.toList)
  ·simp only[hb,cond_false] at h; cases h
  simp only[hb,cond_true] at h
  simp only[Bool.and_eq_true] at hb
  obtain⟨⟨hb1,hb2⟩,hb3⟩:=hb
  have hb1:=eB hb1
  rw[Vx] at hb2
  have hv:=hp (i,v) (List.mem_cons_self ..)
  have hlen:off+v.cells.toList.length≤cells.length:=by simpa [hb1] using hb2
  obtain⟨h1,h2⟩:=Zlt (n:=n) place rest (YU off v.cells.toList cells) l h (fun x hx=>hp x (List.mem_cons_of_mem _ hx)) (fun u hu=>by
   rcases ZmT hlen hu with h3|h3
   ·exact⟨J3 hv u h3,List.all_eq_true.1 hb3 u h3⟩
   ·exact hc u h3)
  refine⟨?_,h2⟩
  simp only[List.map_cons,Instr.fill,hpl]
  have hcl:(r.val v).cells=(v.cells.toList.map r.val).toArray:=by rw[Zf8]; apply Array.ext'; simp
  have hz:=Zkb off (v.cells.toList.map r.val) (cells.map r.val) (by simpa [hb1] using hb2)
  have hsm:(YU off v.cells.toList cells).map r.val=YU off (v.cells.toList.map r.val) (cells.map r.val):=by
   apply List.ext_getElem?
   intro j
   rw[List.getElem?_map,Kj _ _ _ _ hlen,Kj _ _ _ _ (by simpa [hb1] using hb2)]
   simp only[List.length_map,List.getElem?_map]
   split<;>rfl
  rw[hsm] at h1
  rw[if_neg (by simp[hcl,hb1]; omega),hcl]
  have:(fun(cs:Array Value) (x:Value×Nat)=>match x with|(c,j)=>cs.setIfInBounds (off+j) c)=fun cs x=>cs.setIfInBounds (off+x.2) x.1:=rfl
  rw[this,hz]
  exact h1
theorem ZpU (z:List Value) (hz:0<z.length):∀ (n i:Nat),(Zii n z)[i]? = if i<n*z.length then z[i%z.length]? else none
 | 0,i=>by simp[Zii]
 | n+1,i=>by
  simp only[Zii]
  rw[List.getElem?_append]
  split
  ·rename_i h
   rw[if_pos (by rw[Nat.add_mul]; omega),Nat.mod_eq_of_lt h]
  ·rename_i h
   rw[ZpU z hz n]
   rw[Nat.add_mul,Nat.one_mul]
   by_cases h2:i-z.length<n*z.length
   ·rw[if_pos h2,if_pos (by omega)]
    rw[Nat.mod_eq_sub_mod (a:=i) (by omega)]
   ·rw[if_neg h2,if_neg (by omega)]
theorem ZiN (z:List Value):∀ n,(Zii n z).length=n*z.length
 | 0=>by simp[Zii]
 | n+1=>by simp[Zii,ZiN z n,Nat.add_mul,Nat.add_comm]
theorem Zgg {z:List Value} {v:Value}:∀ n,v∈Zii n z→v∈z
 | 0,h=>by simp[Zii] at h
 | n+1,h=>by
  simp only[Zii,List.mem_append] at h
  exact h.elim id (Zgg n)
theorem Zkt (z:Array Value) (n:Nat) (hz:0<z.size):(Array.range (n*z.size)).map (z[· % z.size]!)=(Zii n z.toList).toArray:=by
 apply Array.ext_getElem?
 intro i
 simp only[Array.getElem?_map,List.getElem?_toArray]
 rw[ZpU _ (by simpa using hz)]
 by_cases h:i<n*z.size
 ·have hm:i%z.size<z.size:=Nat.mod_lt _ hz
  simp[h,hm,Array.getElem!_eq_getD,Array.getD]
 ·simp[h]
end
end Go.Proofs.YtagacmljbgkmoaaGreatDoor.Sy
namespace Go.Proofs.YtagacmljbgkmoaaGreatDoor.Sy
open Go.IntKind (u8 u16 u32 u64 i64)
open Go.RowKit
section
variable {P:Program} {r:Ren} {s s':St} {w:World}
theorem ZaR (a:Array Value):(a.toList.map r.val).toArray=a.map r.val:=by apply Array.ext'; simp
theorem Zdz (w:World):∀ (l:List Field) (pl:List (Nat×Nat)),ZiG P l=some pl →
  (l.mapM fun f=>do pure (f.offset,← sizeOf f.type):Sem (List (Nat×Nat))).run P w = .ok pl w
 | [],pl,h=>by simp only[ZiG,Option.some.injEq] at h; subst h; rfl
 | f::l,pl,h=>by
  simp only[ZiG] at h
  obtain⟨n,hn,h⟩:=oB h
  obtain⟨pl',hpl,rfl⟩:=oM h
  have ih:=Zdz w l pl' hpl
  simp only[List.mapM_cons,Sem.run_bind,YN hn,Result.andThen_ok,ih,Sem.run_pure]
theorem ZsY {t:TypeId} {parts:List (Nat×Value)} {v:Value} (h:ZsM P t parts=some v) (hp:∀ x∈parts,bnd r.d x.2=true) (hg:Good r s w) :
  Yld P r s w (Instr.build t (parts.map fun x=>(x.1,r.val x.2)).toArray) v s:=by
 unfold ZsM at h
 obtain⟨z,hz,h⟩:=oB h
 obtain⟨d,hd,h⟩:=oB h
 obtain⟨h1,h2,_⟩:=Zgf hz
 have hzc:z.cells=(z.cells.toList.map r.val).toArray:=by rw[Zdw r (List.all_eq_true.2 h2)]
 have hc:∀ v∈z.cells.toList,bnd r.d v=true∧v.oneCell'=true:=fun v hv=>⟨ZG _ (h2 v hv),W5 (h2 v hv)⟩
 split at h
 ·rename_i fields
  obtain⟨pl,hpl,h⟩:=oB h
  obtain⟨l,hl,rfl⟩:=oM h
  obtain⟨h3,h4⟩:=Zlt (r:=r) (n:=r.d) _ parts _ _ hl hp hc
  refine Yld.same hg ?_ (ZaP fun v hv=>(h4 v hv).1)
  rw[ZaQ]
  rw[← hzc] at h3
  have hm:=Zdz w fields.toList pl hpl
  simp only[Instr.build,Sem.run_bind,h1,Result.andThen_ok,run_underlying hd,Array.mapM_eq_mapM_toList,Sem.run_map,hm]
  simp only[List.getElem?_toArray,h3]
  rfl
 ·rename_i len elem
  obtain⟨n,hn,h⟩:=oB h
  obtain⟨l,hl,rfl⟩:=oM h
  obtain⟨h3,h4⟩:=Zlt (r:=r) (n:=r.d) _ parts _ _ hl hp hc
  refine Yld.same hg ?_ (ZaP fun v hv=>(h4 v hv).1)
  rw[ZaQ]
  rw[← hzc] at h3
  simp only[Instr.build,Sem.run_bind,h1,Result.andThen_ok,run_underlying hd,YN hn,h3]
  rfl
 ·cases h
theorem J4 {t elem:TypeId} (h:U8 P t=some elem):P.underlying t=some (.slice elem):=by
 unfold U8 at h
 obtain⟨d,hd,h⟩:=oB h
 split at h
 ·rename_i e; simp only[Option.some.injEq] at h; subst h; exact hd
 ·cases h
theorem Zkc {t:TypeId} {len:Nat} {parts:List (Nat×Value)} {v:Value} (h:Zcs P s t len parts=some (v,s')) (hp:∀ x∈parts,bnd r.d x.2=true) (hg:Good r s w) (hfr:WL r s.n s'.n) :
  s'.O=s.O∧Yld P r s w (Instr.buildSlice t len (parts.map fun x=>(x.1,r.val x.2)).toArray) v s':=by
 unfold Zcs at h
 obtain⟨elem,he,h⟩:=oB h
 obtain⟨n,hn,h⟩:=oB h
 obtain⟨z,hz,h⟩:=oB h
 obtain⟨h1,h2,_⟩:=Zgf hz
 cases hb:(Nat.ble (len*n) 16777216&&Nat.beq z.cells.size n&&Nat.blt 0 n&&Nat.blt len big)
 ·rw[hb] at h; cases h
 rw[hb] at h
 simp only[cond_true] at h
 obtain⟨l,hl,h⟩:=oM h
 simp only[Prod.mk.injEq] at h
 obtain⟨rfl,rfl⟩:=h
 simp only[Bool.and_eq_true,Nat.ble_eq,Nat.blt_eq] at hb
 obtain⟨⟨⟨hb1,hb2⟩,hb3⟩,hb4⟩:=hb
 have hb2:=eB hb2
 subst hb2
 have hc:∀ v∈Zii len z.cells.toList,bnd r.d v=true∧v.oneCell'=true:=fun v hv=>⟨ZG _ (h2 v (Zgg _ hv)),W5 (h2 v (Zgg _ hv))⟩
 obtain⟨h3,h4⟩:=Zlt (r:=r) (n:=r.d) _ parts _ _ hl hp hc
 have hr:(Zii len z.cells.toList).map r.val=Zii len z.cells.toList:=by
  rw[List.map_congr_left (g:=id)]
  ·simp
  ·intro v hv; exact Qq r (h2 v (Zgg _ hv))
 rw[hr,← Zkt z.cells len hb3] at h3
 refine⟨rfl,_,_,?_,ZoA hg (hfr s.n (Nat.le_refl _) (Nat.lt_succ_self _)) l elem h4,Zls hb4 (Ren.with_d _ _ _ _)⟩
 rw[Zlr _ _ _ _ _ _ hb4 (hfr s.n (Nat.le_refl _) (Nat.lt_succ_self _))]
 have h5:¬ (len*z.cells.size>2^24):=by omega
 simp only[Instr.buildSlice,Sem.run_bind,run_underlying (J4 he),Result.andThen_ok,YN hn,if_neg h5,Sem.run_ite,h1,Sem.run_pure]
 by_cases h0:len*z.cells.size=0
 ·have hl0:len=0:=by rcases Nat.mul_eq_zero.1 h0 with h|h<;>omega
  subst hl0
  have e0:∀ (g:Nat→Value),(Array.range (0*z.cells.size)).map g = #[]:=fun g=>by simp
  simp only[e0] at h3
  simp only[if_pos h0,e0,h3,Sem.run_bind,newRow,run_newObj,Result.andThen_ok,Sem.run_pure]
 ·simp only[if_neg h0]
  simp only[h3,Sem.run_bind,newRow,run_newObj,Result.andThen_ok,Sem.run_pure]
theorem Zlu {t:TypeId} {x v:Value} {f:Nat} (h:Zg9 P t x f=some v) (hx:bnd r.d x=true) (hg:Good r s w) :
  Yld P r s w (Instr.fieldAt t (r.val x) f) v s:=by
 unfold Zg9 at h
 split at h
 ·rename_i a
  split at h
  ·cases h
  rename_i hs
  obtain⟨d,hd,h⟩:=oB h
  split at h
  ·rename_i fields
   obtain⟨fd,hf,h⟩:=oB h
   obtain⟨n,hn,h⟩:=oB h
   cases hb:Nat.beq n 0
   ·rw[hb] at h
    simp only[cond_false,Option.some.injEq] at h
    subst h
    have hn0:n≠0:=fun e=>by subst e; cases hb
    rw[X9] at hx
    refine Yld.same hg ?_ ?_
    ·rw[Array.getElem?_toList] at hf
     rw[Y4,Y4,Option.map_some,Option.map_some,Zdy r a _ hs]
     simp only[Instr.fieldAt,Instr.sureAddr,Sem.run_bind,run_underlying hd,Result.andThen_ok,hf,Sem.run_pure,fieldPlace,YN hn,if_neg hn0]
    ·rw[X9]
     have:a=⟨a.block,a.off,none⟩:=by cases a; simp at hs; subst hs; rfl
     rw[this] at hx
     exact hx
   ·rw[hb] at h; cases h
  ·cases h
 ·cases h
theorem Zwx {n:Nat→Bool} {m:Nat} {a:Addr} (hs:a.spot=none) (h:Ut n a=true):Ut n (a.add m)=true:=by
 have:a=⟨a.block,a.off,none⟩:=by cases a; simp at hs; subst hs; rfl
 rw[this,add_plain]
 rw[this] at h
 exact h
theorem Zgh {n:Nat→Bool} {m:Nat} {a:Addr} (hs:a.spot=none) (h:Ut n a=true):Ut n (ZAb a m)=true:=by
 rw[ZpP a m hs]; exact Zwx hs h
theorem Zgi {i:Int} {n:Nat}:Zij i n=true↔0≤i∧i<n:=by unfold Zij; simp
theorem ZsZ {i:Int} {n:Nat}:Zrn i n=true↔0≤i∧i≤n:=by unfold Zrn; simp
theorem Zlv {t:TypeId} {x ix v:Value} (h:ZeD P s t x ix=some (v,s')) (hx:bnd r.d x=true) (hg:Good r s w) (hO:s'.O) :
  s.O∧Yld P r s w (Instr.indexAt t (r.val x) (r.val ix)) v s':=by
 unfold ZeD at h
 split at h
 ·rename_i k i
  obtain⟨d,hd,h⟩:=oB h
  split at h
  ·rename_i len elem a _
   split at h
   ·cases h
   rename_i hs
   obtain⟨n,hn,h⟩:=oB h
   cases hb:(ask (Zij i len) s).1
   ·rw[hb] at h; cases h
   rw[hb] at h
   simp only[cond_true,Option.some.injEq,Prod.mk.injEq] at h
   obtain⟨rfl,rfl⟩:=h
   rw[Zks _ _ hO,Zgi] at hb
   rw[X9] at hx
   refine⟨WZ _ _ hO,Yld.ask _ hg ?_ (by rw[X9]; exact Zgh hs hx)⟩
   rw[Y4,Y4,YI,Option.map_some,Option.map_some,Zdy r a _ hs]
   simp only[Instr.indexAt,Instr.sureAddr,asIntOf,Sem.run_bind,run_underlying hd,Result.andThen_ok,Sem.run_pure,if_pos hb,YN hn]
  ·rename_i elem a len cap _
   split at h
   ·cases h
   rename_i hs
   obtain⟨n,hn,h⟩:=oB h
   cases hb:(ask (Zij i len) s).1
   ·rw[hb] at h; cases h
   rw[hb] at h
   simp only[cond_true,Option.some.injEq,Prod.mk.injEq] at h
   obtain⟨rfl,rfl⟩:=h
   rw[Zks _ _ hO,Zgi] at hb
   rw[QT,Bool.and_eq_true] at hx
   refine⟨WZ _ _ hO,Yld.ask _ hg ?_ (by rw[X9]; exact Zgh hs hx.1)⟩
   rw[ZV,Y4,YI,Option.map_some,Option.map_some,Zdy r a _ hs]
   simp only[Instr.indexAt,Instr.sureAddr,asIntOf,Sem.run_bind,run_underlying hd,Result.andThen_ok,Sem.run_pure,if_pos hb,YN hn]
  ·cases h
 ·cases h
theorem Zs0 {t:TypeId} {x ix v:Value} (h:ZpK P s t x ix=some (v,s')) (hx:bnd r.d x=true) (hg:Good r s w) (hO:s'.O) :
  s.O∧Yld P r s w (Instr.index t (r.val x) (r.val ix)) v s':=by
 unfold ZpK at h
 simp only[Qr] at h
 split at h
 ·rename_i k i
  obtain⟨d,hd,h⟩:=oB h
  split at h
  ·rename_i len elem cs _
   obtain⟨n,hn,h⟩:=oB h
   cases hb:(ask (Zij i len) s).1
   ·rw[hb] at h; cases h
   rw[hb] at h
   simp only[cond_true] at h
   obtain⟨u,hu,h⟩:=oM h
   simp only[Prod.mk.injEq] at h
   obtain⟨rfl,rfl⟩:=h
   rw[Zks _ _ hO,Zgi] at hb
   obtain⟨h1,h2⟩:=Zlq (r:=r) hu (J3 (v:=.agg cs) hx) w
   refine⟨WZ _ _ hO,Yld.ask _ hg ?_ h2⟩
   rw[K4,YI]
   simp only[Instr.index,asIntOf,Sem.run_bind,run_underlying hd,Result.andThen_ok,Sem.run_pure,if_pos hb,YN hn]
   rw[ZaR] at h1
   exact h1
  ·rename_i b _
   simp only[Option.some.injEq,Prod.mk.injEq] at h
   obtain⟨rfl,rfl⟩:=h
   have hb:=UD _ _ hO
   rw[Zgi] at hb
   refine⟨WZ _ _ hO,Yld.ask _ hg ?_ (Uw _ _ _)⟩
   rw[Xs,YI,YI]
   have hlt:i.toNat<b.data.toList.length:=by omega
   have hc':b[i.toNat]? = some (b.data.toList.getD i.toNat 0):=by
    have hlt':i.toNat<b.size:=hlt
    rw[getElem?_pos b i.toNat hlt',ByteArray.getElem_eq_getElem_data,List.getD_eq_getElem?_getD,List.getElem?_eq_getElem hlt,Option.getD_some,Array.getElem_toList]
   simp only[Instr.index,asIntOf,Sem.run_bind,run_underlying hd,Result.andThen_ok,Sem.run_pure,if_pos hb.1,hc']
  ·cases h
 ·cases h
theorem Zs1 {t:TypeId} {x v:Value} {f:Nat} (h:ZsN P t x f=some v) (hx:bnd r.d x=true) (hg:Good r s w) :
  Yld P r s w (Instr.field t (r.val x) f) v s:=by
 unfold ZsN at h
 split at h
 ·rename_i cs
  obtain⟨d,hd,h⟩:=oB h
  split at h
  ·rename_i fields
   obtain⟨fd,hf,h⟩:=oB h
   obtain⟨h1,h2⟩:=Zlq (r:=r) h (J3 (v:=.agg cs) hx) w
   rw[Array.getElem?_toList] at hf
   refine Yld.same hg ?_ h2
   rw[K4]
   rw[ZaR] at h1
   simp only[Instr.field,asAgg,Sem.run_bind,run_underlying hd,Result.andThen_ok,Sem.run_pure,hf,h1]
  ·cases h
 ·cases h
theorem ZoC {x v:Value} {i:Nat} (h:Zll x i=some v) (hx:bnd r.d x=true) (hg:Good r s w) :
  Yld P r s w (Instr.extract (r.val x) i) v s:=by
 unfold Zll at h
 split at h
 ·rename_i vs
  rw[Array.getElem?_toList] at h
  refine Yld.same hg ?_ ?_
  ·rw[Xz]
   simp only[Instr.extract,Array.getElem?_map,h,Option.map_some,Sem.run_pure]
  ·rw[Xj,Array.all_eq_true_iff_forall_mem] at hx
   exact hx v (Array.mem_of_getElem? h)
 ·cases h
end
end Go.Proofs.YtagacmljbgkmoaaGreatDoor.Sy
namespace Go.Proofs.YtagacmljbgkmoaaGreatDoor.Sy
open Go.IntKind (u8 u16 u32 u64 i64)
open Go.RowKit
section
variable {P:Program} {r:Ren} {s s':St} {w:World}
def Yx (s s':St):Prop:=s'.n=s.n∧s'.h=s.h∧s'.lo=s.lo∧(s'.O→s.O)
theorem Yx.refl (s:St):Yx s s:=⟨rfl,rfl,rfl,id⟩
theorem Yx.trans {s1 s2 s3:St} (h:Yx s1 s2) (h':Yx s2 s3):Yx s1 s3 :=
 ⟨h'.1.trans h.1,h'.2.1.trans h.2.1,h'.2.2.1.trans h.2.2.1,fun x=>h.2.2.2 (h'.2.2.2 x)⟩
theorem Yx.test (t:Bool) (s:St):Yx s (test t s).2:=⟨ZaO t s,ZmR t s,ZiL t s,Zbl t s⟩
theorem Yx.ask (t:Bool) (s:St):Yx s (ask t s).2:=⟨rfl,rfl,rfl,WZ t s⟩
theorem Yx.good (h:Yx s s') (hg:Good r s w):Good r s' w:=hg.same h.2.1 h.2.2.1
theorem Yx.to (h:Yx s s') (hg:Good r s w):To r s w r s' w:=.same hg h.1 h.2.1 h.2.2.1
theorem Zae {d top n:Nat} {o:Option Value} (h:Zdu s d top o=some (n,s')) (hO:s'.O) :
  Yx s s'∧((o=none∧n=d)∨∃ k i,o=some (.int k i)∧0≤i∧i≤top∧n=i.toNat):=by
 unfold Zdu at h
 split at h
 ·simp only[Option.some.injEq,Prod.mk.injEq] at h
  obtain⟨rfl,rfl⟩:=h
  exact⟨.refl _,.inl ⟨rfl,rfl⟩⟩
 ·rename_i k i
  cases hb:(ask (Zrn i top) s).1
  ·rw[hb] at h; cases h
  rw[hb] at h
  simp only[cond_true,Option.some.injEq,Prod.mk.injEq] at h
  obtain⟨rfl,rfl⟩:=h
  rw[Zks _ _ hO,ZsZ] at hb
  exact⟨.ask _ _,.inr ⟨k,i,rfl,hb.1,hb.2,rfl⟩⟩
 ·cases h
theorem Wv {k:IntKind} {i:Int} {y:Nat} (h0:0≤i) (h1:i≤y) (c:BoundsCode) (w:World):(Instr.sliceBound (.int k i) y c).run P w = .ok i.toNat w:=by
 simp only[Instr.sliceBound,asIntOf,Sem.run_bind,Sem.run_pure,Result.andThen_ok,if_pos (aI h0 h1)]
def Ren.letter (r:Ren) (n o c:Nat):Ren:=⟨r.b,r.w,fun g=>if g=n then(o,none) else r.o g,fun g=>if g=n then c else r.c g,fun g=>Nat.beq g n||r.d g,r.hb,r.hw,fun g hg=>by simp[r.hd g hg]⟩
theorem Ren.letter_d (r:Ren) (n o c:Nat):(r.letter n o c).d n=true:=by simp[Ren.letter]
theorem Ren.letter_ext {r:Ren} {n:Nat} (h:r.d n=false) (o c:Nat):Ext r (r.letter n o c):=⟨fun g hg=>by simp[Ren.letter,hg],fun _ _=>rfl,fun _ _=>rfl,fun g hg=>if_neg (ZfB h hg),fun g hg=>if_neg (ZfB h hg)⟩
theorem Ren.letter_dom {r:Ren} {n o c g:Nat} (h:(r.letter n o c).d g=true):r.d g=true∨(n≤g∧g<n+1):=by
 simp only[Ren.letter,Bool.or_eq_true] at h
 rcases h with h|h
 ·have:=eB h; exact .inr (by omega)
 ·exact .inl h
theorem ZiO (hg:Good r s w) (hfr:r.d s.n=false) (o c m:Nat) (hm:m≤c):To r s w (r.letter s.n o c) { s with n:=s.n+1,lo:=(s.n,m)::s.lo } w:=by
 have he:=Ren.letter_ext hfr o c
 refine⟨he,fun g hg=>Ren.letter_dom hg,Nat.le_succ _,hg,⟨?_,?_,?_,?_⟩,rfl,rfl,rfl,Nat.le_refl _,fun _ _ _=>rfl,fun g k hk => .inl ⟨k,hk,id⟩⟩
 ·intro g k hk; exact(hg.is g k hk).ext he (hg.lt g k hk).1 (hg.lt g k hk).2 rfl
 ·intro g g' k k' h1 h2 h4 h3; exact hg.inj g g' k k' h1 h2 h4 h3
 ·intro g k hk; exact⟨he.d g (hg.lt g k hk).1,(hg.lt g k hk).2.mono he.d⟩
 ·intro x hx
  rcases List.mem_cons.1 hx with rfl|hx
  ·exact⟨by simpa [Ren.letter] using hm,Ren.letter_d _ _ _ _⟩
  ·have:=hg.lo x hx
   rw[he.c x.1 this.2]
   exact⟨this.1,he.d _ this.2⟩
def Ren.letterO (r:Ren) (n:Nat) (o:Nat×Option Nat) (c:Nat):Ren:=⟨r.b,r.w,fun g=>if g=n then o else r.o g,fun g=>if g=n then c else r.c g,fun g=>Nat.beq g n||r.d g,r.hb,r.hw,fun g hg=>by simp[r.hd g hg]⟩
theorem Ren.letterO_d (r:Ren) (n:Nat) (o:Nat×Option Nat) (c:Nat):(r.letterO n o c).d n=true:=by simp[Ren.letterO]
theorem Ren.letterO_ext {r:Ren} {n:Nat} (h:r.d n=false) (o:Nat×Option Nat) (c:Nat):Ext r (r.letterO n o c):=⟨fun g hg=>by simp[Ren.letterO,hg],fun _ _=>rfl,fun _ _=>rfl,fun g hg=>if_neg (ZfB h hg),fun g hg=>if_neg (ZfB h hg)⟩
theorem Ren.letterO_dom {r:Ren} {n c g:Nat} {o:Nat×Option Nat} (h:(r.letterO n o c).d g=true):r.d g=true∨(n≤g∧g<n+1):=by
 simp only[Ren.letterO,Bool.or_eq_true] at h
 rcases h with h|h
 ·have:=eB h; exact .inr (by omega)
 ·exact .inl h
theorem Zrp (hg:Good r s w) (hfr:r.d s.n=false) (o:Nat×Option Nat) (c m:Nat) (hm:m≤c):To r s w (r.letterO s.n o c) { s with n:=s.n+1,lo:=(s.n,m)::s.lo } w:=by
 have he:=Ren.letterO_ext hfr o c
 refine⟨he,fun g hg=>Ren.letterO_dom hg,Nat.le_succ _,hg,⟨?_,?_,?_,?_⟩,rfl,rfl,rfl,Nat.le_refl _,fun _ _ _=>rfl,fun g k hk => .inl ⟨k,hk,id⟩⟩
 ·intro g k hk; exact(hg.is g k hk).ext he (hg.lt g k hk).1 (hg.lt g k hk).2 rfl
 ·intro g g' k k' h1 h2 h4 h3; exact hg.inj g g' k k' h1 h2 h4 h3
 ·intro g k hk; exact⟨he.d g (hg.lt g k hk).1,(hg.lt g k hk).2.mono he.d⟩
 ·intro x hx
  rcases List.mem_cons.1 hx with rfl|hx
  ·exact⟨by simpa [Ren.letterO] using hm,Ren.letterO_d _ _ _ _⟩
  ·have:=hg.lo x hx
   rw[he.c x.1 this.2]
   exact⟨this.1,he.d _ this.2⟩
theorem ZiP {b:Bool} {len cap h l:Nat} {lo hi:Option Value} (w:World)
  (hh:(hi=none∧h=len)∨∃ k i,hi=some (.int k i)∧0≤i∧i≤(cap:Int)∧h=i.toNat)
  (hl:(lo=none∧l=0)∨∃ k i,lo=some (.int k i)∧0≤i∧i≤(h:Int)∧l=i.toNat) :
  (Instr.sliceBounds b len cap lo hi none).run P w = .ok (l,h,cap) w:=by
 unfold Instr.sliceBounds
 rcases hh with⟨rfl,rfl⟩|⟨k,i,rfl,h0,h1,rfl⟩<;>rcases hl with⟨rfl,rfl⟩|⟨k',i',rfl,h0',h1',rfl⟩ <;>
  simp only[Sem.run_bind,Sem.run_pure,Result.andThen_ok,Option.isSome_none,Bool.false_eq_true,if_false]
 ·rw[Wv h0' h1']; rfl
 ·rw[Wv h0 h1]; rfl
 ·rw[Wv h0 h1]; simp only[Result.andThen_ok]; rw[Wv h0' h1']; rfl
theorem ZoD {b:Bool} {len cap m h l:Nat} {lo hi mx:Option Value} (w:World)
  (hm:∃ k i,mx=some (.int k i)∧0≤i∧i≤(cap:Int)∧m=i.toNat)
  (hh:∃ k i,hi=some (.int k i)∧0≤i∧i≤(m:Int)∧h=i.toNat)
  (hl:(lo=none∧l=0)∨∃ k i,lo=some (.int k i)∧0≤i∧i≤(h:Int)∧l=i.toNat) :
  (Instr.sliceBounds b len cap lo hi mx).run P w = .ok (l,h,m) w:=by
 unfold Instr.sliceBounds
 obtain⟨k1,i1,rfl,h10,h11,rfl⟩:=hm
 obtain⟨k,i,rfl,h0,h1,rfl⟩:=hh
 rcases hl with⟨rfl,rfl⟩|⟨k',i',rfl,h0',h1',rfl⟩ <;>
  simp only[Sem.run_bind,Sem.run_pure,Result.andThen_ok,Option.isSome_some,if_true] <;>
  rw[Wv h10 h11]<;>simp only[Result.andThen_ok]<;>rw[Wv h0 h1] <;>
  simp only[Result.andThen_ok]
 rw[Wv h0' h1']; rfl
theorem Zaf {c:Nat}:(Nat.blt c big=true↔c<big):=by simp
theorem Zag {c:Nat} (h:c<big):r.cap c=c:=by
 unfold Ren.cap; rw[Zaf.2 h]; rfl
theorem Ziv {o:Option Value} {k:IntKind} {i:Int} (h:o=some (.int k i)):o.map r.val=some (.int k i):=by subst h; simp[YI]
theorem ZAe {a:Addr} {f:Bool} {l h top size:Nat} {v:Value} (hx:ZAc s a f l h top size=some (v,s')) (hO:s'.O):s.O:=by
 unfold ZAc Zws at hx
 cases f
 ·simp only[cond_false,Option.some.injEq,Prod.mk.injEq] at hx
  rw[← hx.2] at hO; exact hO
 ·simp only[cond_true] at hx
  split at hx
  ·simp only[Option.some.injEq,Prod.mk.injEq] at hx
   rw[← hx.2] at hO; exact hO
  cases hb:(test (Nat.blt l top) s).1<;>rw[hb] at hx<;>simp only[cond_true,cond_false,Option.some.injEq,Prod.mk.injEq] at hx<;>rw[← hx.2] at hO<;>exact Zbl _ _ hO
theorem Zs2 {a:Addr} {f:Bool} {l h top size:Nat} {v:Value} {rc:Nat} (hx:ZAc s a f l h top size=some (v,s')) (ha:Ut r.d a=true) (hg:Good r s w) (hfr:WL r s.n s'.n) (hO:s'.O)
  (ht:top≤rc) (hl0:f=false→l=0) :
  s.O∧∃ r',To r s w r' s' w∧bnd r'.d v=true∧r'.val v = .slice (some (if rc=l then r.addr a else(r.addr a).add (l*size))) (h-l) (rc-l):=by
 unfold ZAc Zws at hx
 cases f
 ·have:=hl0 rfl
  subst this
  simp only[cond_false,Option.some.injEq,Prod.mk.injEq] at hx
  obtain⟨rfl,rfl⟩:=hx
  have hf:r.d s.n=false:=hfr _ (Nat.le_refl _) (Nat.lt_succ_self _)
  refine⟨hO,r.letter s.n 0 rc,ZiO hg hf _ _ _ ht,?_,?_⟩
  ·rw[QT]
   have h1:=Zf9 (Ren.letter_ext hf 0 rc).d ha
   have hd:=Ren.letter_d r s.n 0 rc
   simp[h1,hd]
  ·rw[ZV,KM,Option.map_some,Ziu (Ren.letter_ext hf 0 rc) ha]
   simp[Ren.letter,Addr.add]
 ·simp only[cond_true] at hx
  cases hs:a.spot with
  | some k =>
   rw[hs] at hx
   simp only[Option.some.injEq,Prod.mk.injEq] at hx
   obtain⟨rfl,rfl⟩:=hx
   have hf:r.d s.n=false:=hfr _ (Nat.le_refl _) (Nat.lt_succ_self _)
   have hA:(if rc=l then r.addr a else(r.addr a).add (l*size)).block=r.b a.block:=by
    split
    ·rfl
    ·unfold Addr.add; split<;>rfl
   generalize (if rc=l then r.addr a else(r.addr a).add (l*size))=A at hA
   refine⟨hO,r.letterO s.n (A.off,A.spot) (rc-l),Zrp hg hf _ _ _ (by omega),?_,?_⟩
   ·rw[QT]
    have:Ut r.d a=true:=ha
    simp only[Ut,Bool.and_eq_true] at this
    have hd:=Ren.letterO_d r s.n (A.off,A.spot) (rc-l)
    have hb:=(Ren.letterO_ext hf (A.off,A.spot) (rc-l)).d _ this.1
    simp[Ut,hd,hb]
   ·rw[ZV,KM]
    simp only[Ren.letterO,if_true,Option.map_some,Ren.addr]
    rw[← hA]
  | none =>
  rw[hs] at hx
  simp only[] at hx
  have hf:r.d s.n=false:=hfr _ (Nat.le_refl _) (by
   have:s'.n=s.n+1:=by
    cases hb:(test (Nat.blt l top) s).1<;>rw[hb] at hx<;>simp only[cond_true,cond_false,Option.some.injEq,Prod.mk.injEq] at hx<;>rw[← hx.2]<;>simp only[ZaO]
   omega)
  have hsb:=Yx.test (Nat.blt l top) s
  have hg2:=hsb.good hg
  have hf2:r.d (test (Nat.blt l top) s).2.n=false:=by rw[ZaO]; exact hf
  cases hb:(test (Nat.blt l top) s).1
  ·rw[hb] at hx
   simp only[cond_false,Option.some.injEq,Prod.mk.injEq] at hx
   obtain⟨rfl,rfl⟩:=hx
   refine⟨hsb.2.2.2 hO,r.letter s.n (if rc=l then r.w a.block+a.off else r.w a.block+a.off+l*size) (rc-l),?_,?_,?_⟩
   ·have:=(hsb.to hg).trans (ZiO hg2 hf2 (if rc=l then r.w a.block+a.off else r.w a.block+a.off+l*size) (rc-l) (top-l) (by omega))
    rw[ZaO] at this ⊢
    exact this
   ·rw[QT]
    have:Ut r.d a=true:=ha
    simp only[Ut,Bool.and_eq_true] at this
    have hd:=Ren.letter_d r s.n (if rc=l then r.w a.block+a.off else r.w a.block+a.off+l*size) (rc-l)
    have hb:=(Ren.letter_ext hf (if rc=l then r.w a.block+a.off else r.w a.block+a.off+l*size) (rc-l)).d _ this.1
    simp[Ut,hd,hb]
   ·rw[ZV,KM]
    simp only[Ren.letter,if_true,Option.map_some,Ren.addr,hs]
    by_cases e:rc=l
    ·simp[e]
    ·simp only[e,if_false,add_plain]
  ·rw[hb] at hx
   simp only[cond_true,Option.some.injEq,Prod.mk.injEq] at hx
   obtain⟨rfl,rfl⟩:=hx
   have hlt:Nat.blt l top=true:=by rw[← Zbm _ _ hO]; exact hb
   have hlt:l<top:=by simpa using hlt
   refine⟨hsb.2.2.2 hO,r.letter s.n 0 (rc-l),?_,?_,?_⟩
   ·have:=(hsb.to hg).trans (ZiO hg2 hf2 0 (rc-l) (top-l) (by omega))
    rw[ZaO] at this ⊢
    exact this
   ·rw[QT]
    have h1:=Zf9 (Ren.letter_ext hf 0 (rc-l)).d (Zgh (m:=l*size) hs ha)
    have hd:=Ren.letter_d r s.n 0 (rc-l)
    simp[h1,hd]
   ·rw[ZV,KM,if_neg (by omega),Option.map_some,Ziu (Ren.letter_ext hf 0 (rc-l)) (Zgh hs ha),Zdy r a _ hs]
    simp[Ren.letter]
theorem Zku {a:Option Addr} {len cap size:Nat} {lo hi mx:Option Value} {v:Value} (b:Bool) (h:Zha s a len cap size lo hi mx=some (v,s')) (hx:bnd r.d (.slice a len cap)=true)
  (hg:Good r s w) (hfr:WL r s.n s'.n) (hO:s'.O) :
  s.O∧∃ r' l h m,(Instr.sliceBounds b len (r.cap cap) (lo.map r.val) (hi.map r.val) (mx.map r.val)).run P w = .ok (l,h,m) w∧To r s w r' s' w∧bnd r'.d v=true ∧
   r'.val v = .slice (if m=l then a.map r.addr else(a.map r.addr).map (·.add (l*size))) (h-l) (m-l):=by
 rw[QT,Bool.and_eq_true] at hx
 obtain⟨hxa,hxc⟩:=hx
 unfold Zha at h
 split at h
 ·rename_i m0
  replace h:=oB h
  obtain⟨⟨m,s1⟩,e1,h⟩:=h
  simp only[] at h
  replace h:=oB h
  obtain⟨⟨hh,s2⟩,e2,h⟩:=h
  simp only[] at h
  replace h:=oB h
  obtain⟨⟨l,s3⟩,e3,h⟩:=h
  simp only[] at h
  cases hi with
  | none=>cases e2
  | some hi0 =>
  simp only[] at e2
  have key:s3.O→Yx s s3∧(∃ k i,m0 = .int k i∧0≤i∧i≤(Zox s cap:Int)∧m=i.toNat)∧(∃ k i,hi0 = .int k i∧0≤i∧i≤(m:Int)∧hh=i.toNat)∧((lo=none∧l=0)∨∃ k i,lo=some (.int k i)∧0≤i∧i≤(hh:Int)∧l=i.toNat):=by
   intro h3
   obtain⟨b3,c3⟩:=Zae e3 h3
   have hO2:=b3.2.2.2 h3
   obtain⟨b2,c2⟩:=Zae e2 hO2
   obtain⟨b1,c1⟩:=Zae e1 (b2.2.2.2 hO2)
   refine⟨(b1.trans b2).trans b3,?_,?_,c3⟩
   ·rcases c1 with⟨c1,_⟩|⟨k,i,q,q1⟩
    ·cases c1
    ·exact⟨k,i,Option.some.inj q,q1⟩
   ·rcases c2 with⟨c2,_⟩|⟨k,i,q,q1⟩
    ·cases c2
    ·exact⟨k,i,Option.some.inj q,q1⟩
  have hcap:=hg.cap cap
  have run:s3.O→(Instr.sliceBounds b len (r.cap cap) (lo.map r.val) ((some hi0).map r.val) ((some m0).map r.val)).run P w = .ok (l,hh,m) w∧l≤m:=by
   intro h3
   obtain⟨_,⟨k1,i1,rfl,m0',m1,rfl⟩,⟨k2,i2,rfl,h0,h1,rfl⟩,c3⟩:=key h3
   refine⟨ZoD w ⟨k1,i1,by simp[YI],m0',by omega,rfl⟩ ⟨k2,i2,by simp[YI],h0,h1,rfl⟩ ?_,?_⟩
   ·rcases c3 with⟨rfl,rfl⟩|⟨k3,i3,rfl,h30,h31,rfl⟩
    ·exact .inl ⟨rfl,rfl⟩
    ·exact .inr ⟨k3,i3,by simp[YI],h30,h31,rfl⟩
   ·rcases c3 with⟨rfl,rfl⟩|⟨k3,i3,rfl,h30,h31,rfl⟩
    ·omega
    ·omega
  cases a with
  | none =>
   simp only[] at h
   cases hb:Nat.blt m big
   ·rw[hb] at h; cases h
   rw[hb] at h
   simp only[cond_true,Option.some.injEq,Prod.mk.injEq] at h
   obtain⟨rfl,rfl⟩:=h
   have hmb:=Zaf.1 hb
   obtain⟨hsb,_⟩:=key hO
   refine⟨hsb.2.2.2 hO,r,l,hh,m,(run hO).1,hsb.to hg,by rw[QT,Zaf.2 (show m-l<big by omega)]; rfl,?_⟩
   rw[ZV,Zag (by omega)]; simp
  | some a =>
   simp only[] at h
   have hO3:=ZAe h hO
   obtain⟨hsb,c1,c2,c3⟩:=key hO3
   obtain⟨hrun,_⟩:=run hO3
   have hfr3:WL r s3.n s'.n:=by rw[hsb.1]; exact hfr
   obtain⟨_,r',h1,h2,h3⟩:=Zs2 (rc:=m) h hxa (hsb.good hg) hfr3 hO (Nat.le_refl _) (by
    intro hf
    rcases c3 with⟨_,h⟩|⟨_,_,h,_⟩
    ·exact h
    ·rw[h] at hf; cases hf)
   refine⟨hsb.2.2.2 hO3,r',l,hh,m,hrun,(hsb.to hg).trans h1,h2,?_⟩
   rw[h3]
   by_cases e:m=l<;>simp[e]
 ·replace h:=oB h
  obtain⟨⟨hh,s1⟩,e1,h⟩:=h
  simp only[] at h
  replace h:=oB h
  obtain⟨⟨l,s2⟩,e2,h⟩:=h
  simp only[] at h
  have key:s2.O→Yx s s2∧((hi=none∧hh=len)∨∃ k i,hi=some (.int k i)∧0≤i∧i≤(Zox s cap:Int)∧hh=i.toNat)∧((lo=none∧l=0)∨∃ k i,lo=some (.int k i)∧0≤i∧i≤(hh:Int)∧l=i.toNat):=by
   intro h2
   obtain⟨b2,c2⟩:=Zae e2 h2
   obtain⟨b1,c1⟩:=Zae e1 (b2.2.2.2 h2)
   exact⟨b1.trans b2,c1,c2⟩
  have hcap:=hg.cap cap
  have run:s2.O→(Instr.sliceBounds b len (r.cap cap) (lo.map r.val) (hi.map r.val) ((none:Option Value).map r.val)).run P w = .ok (l,hh,r.cap cap) w:=by
   intro h2
   obtain⟨_,c1,c2⟩:=key h2
   refine ZiP w ?_ ?_
   ·rcases c1 with⟨rfl,rfl⟩|⟨k,i,e,h0,h1,rfl⟩
    ·exact .inl ⟨rfl,rfl⟩
    ·exact .inr ⟨k,i,Ziv e,h0,by omega,rfl⟩
   ·rcases c2 with⟨rfl,rfl⟩|⟨k,i,e,h0,h1,rfl⟩
    ·exact .inl ⟨rfl,rfl⟩
    ·exact .inr ⟨k,i,Ziv e,h0,h1,rfl⟩
  cases a with
  | none =>
   simp only[] at h
   cases hb:Nat.blt cap big
   ·rw[hb] at h; cases h
   rw[hb] at h
   simp only[cond_true,Option.some.injEq,Prod.mk.injEq] at h
   obtain⟨rfl,rfl⟩:=h
   have hc:=Zaf.1 hb
   obtain⟨hsb,_⟩:=key hO
   refine⟨hsb.2.2.2 hO,r,l,hh,r.cap cap,run hO,hsb.to hg,by rw[QT,Zaf.2 (show cap-l<big by omega)]; rfl,?_⟩
   rw[ZV,Zag hc,Zag (by omega)]; simp
  | some a =>
   simp only[] at h
   cases lo with
   | none =>
    simp only[Option.some.injEq,Prod.mk.injEq] at h
    obtain⟨rfl,rfl⟩:=h
    obtain⟨hsb,c1,c2⟩:=key hO
    obtain rfl:l=0:=by
     rcases c2 with⟨_,h⟩|⟨_,_,h,_⟩
     ·exact h
     ·cases h
    refine⟨hsb.2.2.2 hO,r,0,hh,r.cap cap,run hO,hsb.to hg,?_,?_⟩
    ·rw[QT,Bool.and_eq_true]; exact⟨hxa,hxc⟩
    ·rw[ZV]
     simp[Addr.add]
   | some lo0 =>
    simp only[] at h
    have hO2:=ZAe h hO
    obtain⟨hsb,c1,c2⟩:=key hO2
    have hfr2:WL r s2.n s'.n:=by rw[hsb.1]; exact hfr
    obtain⟨_,r',h1,h2,h3⟩:=Zs2 (rc:=r.cap cap) h hxa (hsb.good hg) hfr2 hO hcap (by intro hf; cases hf)
    refine⟨hsb.2.2.2 hO2,r',l,hh,r.cap cap,run hO2,(hsb.to hg).trans h1,h2,?_⟩
    rw[h3]
    by_cases e:r.cap cap=l<;>simp[e]
end
end Go.Proofs.YtagacmljbgkmoaaGreatDoor.Sy
namespace Go.Proofs.YtagacmljbgkmoaaGreatDoor.Sy
open Go.IntKind (u8 u16 u32 u64 i64)
open Go.RowKit
section
variable {P:Program} {r:Ren} {s s':St} {w:World}
theorem ZdA {a:Addr} {n:Nat} {l:List Value} (h:Zbk s a n=some (l,s')):Yx s s':=by
 unfold Zbk at h
 split at h
 ·cases h
 obtain⟨k,_,h⟩:=oB h
 cases hit:Zow k.it
 ·rw[hit] at h; cases h
 rw[hit] at h
 simp only[cond_true,Option.some.injEq,Prod.mk.injEq] at h
 rw[← h.2]; exact .ask _ _
theorem Zkv {a:Addr} {n size:Nat} {lo hi mx:Option Value} {v:Value} (b:Bool) (h:Zhb s a n size lo hi mx=some (v,s')) (hx:Ut r.d a=true) (hg:Good r s w) (hfr:WL r s.n s'.n) (hO:s'.O) :
  s.O∧∃ r' l h m,(Instr.sliceBounds b n n (lo.map r.val) (hi.map r.val) (mx.map r.val)).run P w = .ok (l,h,m) w∧To r s w r' s' w∧bnd r'.d v=true ∧
   r'.val v = .slice (some (if m=l then r.addr a else(r.addr a).add (l*size))) (h-l) (m-l):=by
 unfold Zhb at h
 split at h
 ·cases h
 cases hb:Nat.blt n big
 ·rw[hb] at h; cases h
 rw[hb] at h
 simp only[cond_true] at h
 have hn:=Zaf.1 hb
 obtain⟨h1,r',l,hh,m,h2,h3,h4,h5⟩:=Zku (P:=P) b h (by rw[QT,hb]; simp[hx]) hg hfr hO
 rw[Zag hn] at h2
 refine⟨h1,r',l,hh,m,h2,h3,h4,?_⟩
 rw[h5]
 split<;>simp
theorem Zs3 {t:TypeId} {x v:Value} {lo hi mx:Option Value} (h:ZmO P s t x lo hi mx=some (v,s')) (hx:bnd r.d x=true) (hg:Good r s w) (hfr:WL r s.n s'.n) (hO:s'.O) :
  s.O∧Yld P r s w (Instr.sliceAt t (r.val x) (lo.map r.val) (hi.map r.val) (mx.map r.val)) v s':=by
 unfold ZmO at h
 obtain⟨d,hd,h⟩:=oB h
 split at h
 ·rename_i n elem a _
  obtain⟨size,hsz,h⟩:=oB h
  rw[X9] at hx
  obtain⟨h1,r',l,hh,m,h2,h3,h4,h5⟩:=Zkv (P:=P) false h hx hg hfr hO
  refine⟨h1,r',w,?_,h3,h4⟩
  rw[h5,Y4,Option.map_some]
  simp only[Instr.sliceAt,Instr.sureAddr,Sem.run_bind,run_underlying hd,Result.andThen_ok,Sem.run_pure,h2,YN hsz]
 ·rename_i b _
  split at h
  ·unfold ZiH at h
   simp only[Qr] at h
   obtain⟨⟨hh,s1⟩,e1,h⟩:=oB h
   simp only[] at h
   obtain⟨⟨l,s2⟩,e2,h⟩:=oB h
   simp only[Option.some.injEq,Prod.mk.injEq] at h
   obtain⟨rfl,rfl⟩:=h
   obtain⟨b2,c2⟩:=Zae e2 hO
   obtain⟨b1,c1⟩:=Zae e1 (b2.2.2.2 hO)
   have hsb:=b1.trans b2
   have hsize:b.size=b.data.toList.length:=by rw[Array.length_toList]; rfl
   have hr:=ZiP (P:=P) (b:=false) (len:=b.size) (cap:=b.size) (lo:=lo.map r.val) (hi:=hi.map r.val) (h:=hh) (l:=l) w (by
     rcases c1 with⟨rfl,rfl⟩|⟨k,i,e,h0,h1,rfl⟩
     ·exact .inl ⟨rfl,hsize.symm⟩
     ·exact .inr ⟨k,i,Ziv e,h0,by rw[hsize]; exact h1,rfl⟩) (by
     rcases c2 with⟨rfl,rfl⟩|⟨k,i,e,h0,h1,rfl⟩
     ·exact .inl ⟨rfl,rfl⟩
     ·exact .inr ⟨k,i,Ziv e,h0,h1,rfl⟩)
   refine⟨hsb.2.2.2 hO,r,w,?_,hsb.to hg,ZbB _ _⟩
   have hex:b.extract l hh=⟨⟨(b.data.toList.drop l).take (hh-l)⟩⟩:=by
    have:=ByteArray.extract_mk b.data.toList l hh
    simpa using this
   rw[Xs,Xs]
   simp only[Instr.sliceAt,Instr.slice,Sem.run_bind,run_underlying hd,Result.andThen_ok,Sem.run_pure,Option.map_none,Option.isSome_none,Bool.false_eq_true,if_false,hr,hex]
  ·cases h
 ·rename_i elem a len cap _
  obtain⟨size,hsz,h⟩:=oB h
  obtain⟨h1,r',l,hh,m,h2,h3,h4,h5⟩:=Zku (P:=P) true h hx hg hfr hO
  refine⟨h1,r',w,?_,h3,h4⟩
  rw[h5,ZV]
  simp only[Instr.sliceAt,Instr.slice,Sem.run_bind,run_underlying hd,Result.andThen_ok,Sem.run_pure,h2,YN hsz]
 ·rename_i arr a _
  obtain⟨d2,hd2,h⟩:=oB h
  split at h
  ·rename_i n elem
   obtain⟨size,hsz,h⟩:=oB h
   rw[X9] at hx
   obtain⟨h1,r',l,hh,m,h2,h3,h4,h5⟩:=Zkv (P:=P) false h hx hg hfr hO
   refine⟨h1,r',w,?_,h3,h4⟩
   rw[h5,Y4,Option.map_some]
   simp only[Instr.sliceAt,Instr.slice,asAddr,Sem.run_bind,run_underlying hd,run_underlying hd2,Result.andThen_ok,Sem.run_pure,h2,YN hsz]
  ·cases h
 ·cases h
theorem Zlw {t:TypeId} {l c v:Value} (h:ZeE P s t l c=some (v,s')) (hg:Good r s w) (hfr:WL r s.n s'.n) (hO:s'.O) :
  s.O∧Yld P r s w (Instr.makeSlice t (r.val l) (r.val c)) v s':=by
 unfold ZeE at h
 split at h
 ·rename_i kl l kc c
  obtain⟨elem,he,h⟩:=oB h
  obtain⟨n,hn,h⟩:=oB h
  obtain⟨by_,hby,h⟩:=oB h
  obtain⟨z,hz,h⟩:=oB h
  obtain⟨h1,h2,_⟩:=Zgf hz
  generalize hT:(decide (0≤l)&&decide (l≤c)&&decide (by_*c≤140737488355328)&&decide (c<9223372036854775808))=T at h
  have hTn:s.n=(ask T s).2.n:=rfl
  have hTl:s.lo=(ask T s).2.lo:=rfl
  cases hb:((ask T s).1&&Nat.beq z.cells.size n&&Nat.blt 0 n)
  ·rw[hb] at h; cases h
  rw[hb] at h
  simp only[cond_true,Option.some.injEq,Prod.mk.injEq] at h
  obtain⟨rfl,rfl⟩:=h
  have hO':(ask T s).2.O:=hO
  simp only[Bool.and_eq_true,Nat.blt_eq] at hb
  obtain⟨⟨hb1,hb2⟩,hb3⟩:=hb
  rw[Zks _ _ hO',← hT] at hb1
  simp only[Bool.and_eq_true,decide_eq_true_eq] at hb1
  obtain⟨⟨⟨g1,g2⟩,g3⟩,g4⟩:=hb1
  have hb2:=eB hb2
  subst hb2
  have hgt:=Yx.good (.ask T s) hg
  have hrc:∀ v∈Zii c.toNat z.cells.toList,Qm v=true:=fun v hv=>h2 v (Zgg _ hv)
  have hcb:c.toNat<big:=by unfold big; omega
  have hfr1:r.d (ask T s).2.n=false:=hfr _ (by rw[Zro]; exact Nat.le_refl _) (Nat.lt_succ_self _)
  have hnew:=ZpQ hgt hfr1 (some (s.n,z.cells.size)) (Zii c.toNat z.cells.toList) ((Zii c.toNat z.cells.toList).map r.val).toArray elem (0,0) c.toNat w.drawn ((s.n,c.toNat)::s.lo) (.inr ⟨_,rfl,Nat.le_refl _⟩)
   (fun v hv=>⟨ZG _ (hrc v hv),W5 (hrc v hv)⟩) (.inr ⟨z.cells.size,rfl,by simp[ZiN],by simp⟩) (fun j v hj=>by simp[hj]) (fun j _ h=>by simp at h) s.esc
  refine⟨WZ _ _ hO',_,_,?_,(To.ask hg T).trans hnew,?_⟩
  ·have hv:=Kk r s.n w.heap.size c.toNat l.toNat (by rw[← Zro T s]; exact hfr1)
   rw[Zro,hv,Zdw r (List.all_eq_true.2 hrc),← Zkt z.cells _ hb3]
   obtain⟨i,hi,rfl⟩:=oM hby
   have hwl:i64.wrap l=l:=IntWalk.i64_in _ (by omega)
   have hwc:i64.wrap c=c:=IntWalk.i64_in _ (by omega)
   have hc1:decide (c<0)=false:=by simp; omega
   have hc2:decide ((i.bytes:Int)*c>2^48)=false:=by simp; omega
   have hc3:decide (l<0)=false:=by simp; omega
   have hc4:decide (l>c)=false:=by simp; omega
   simp only[YI,Instr.makeSlice,asInt,asIntOf,Sem.run_bind,run_underlying (J4 he),Result.andThen_ok,Sem.run_pure,J2 hi,hwl,hwc,hc1,hc2,hc3,hc4,
    Bool.or_self,Bool.false_eq_true,if_false,run_askRoom,YN hn]
   by_cases h0:c.toNat*z.cells.size=0
   ·have hc0:c.toNat=0:=by rcases Nat.mul_eq_zero.1 h0 with h|h<;>omega
    have e0:∀ (g:Nat→Value),(Array.range (c.toNat*z.cells.size)).map g = #[]:=fun g=>by rw[h0]; simp
    simp only[if_pos h0,e0,Sem.run_pure,Result.andThen_ok,newRow,Sem.run_bind,run_newObj]
   ·simp only[if_neg h0,Sem.run_bind,h1,Sem.run_pure,Result.andThen_ok,newRow,run_newObj]
  ·exact Kl (by have:=Ren.with_d r (ask T s).2.n w.heap.size c.toNat; rw[Zro] at this ⊢; exact this)
 ·cases h
theorem ZoE {src dst e:TypeId} {b:ByteArray} {v:Value} (h:Zis s b=some (v,s')) (hs:P.underlying src=some .string) (hd:P.underlying dst=some (.slice e)) (he:P.underlying e=some (.int .u8)) (hg:Good r s w) (hfr:WL r s.n s'.n) :
  s'.O=s.O∧Yld P r s w (convert src dst (.string b)) v s':=by
 unfold Zis at h
 simp only[Qr] at h
 simp only[Option.some.injEq,Prod.mk.injEq] at h
 obtain⟨rfl,rfl⟩:=h
 have hsize:b.size=b.data.toList.length:=by rw[Array.length_toList]; rfl
 have hge:=grownCap_ge w b.size 0 e
 have hrow:(bytesRow b (grownCap w b.size 0 e)).size=grownCap w b.size 0 e:=by
  simp only[bytesRow,Array.size_append,Array.size_map,Array.size_replicate]
  have:b.data.size=b.size:=rfl
  omega
 have hnew:=ZpQ hg (hfr s.n (Nat.le_refl _) (Nat.lt_succ_self _)) (some (s.n,1)) (b.data.toList.map fun c => .int .u8 (c.toNat:Nat)) (bytesRow b (grownCap w b.size 0 e)) e
  ((bytesRow b (grownCap w b.size 0 e)).size,(bytesRow b (grownCap w b.size 0 e)).size+1) (grownCap w b.size 0 e) w.drew.drawn
  ((s.n,b.data.toList.length)::s.lo) (.inr ⟨_,rfl,by omega⟩) (fun v hv=>by
   obtain⟨c,_,rfl⟩:=List.mem_map.1 hv
   exact⟨Uw _ _ _,rfl⟩) (.inr ⟨1,rfl,by omega,by rw[hrow,List.length_map]; omega⟩) (fun j v hj=>by
   rw[List.getElem?_map,Option.map_eq_some_iff] at hj
   obtain⟨c,hc,rfl⟩:=hj
   rw[YI]
   have hlt:j<b.data.size:=by
    have:=(List.getElem?_eq_some_iff.1 hc).1
    simpa using this
   rw[bytesRow,Array.getElem?_append_left (by simpa using hlt),Array.getElem?_map]
   rw[Array.getElem?_toList] at hc
   rw[hc]; rfl) (fun j hj hc=>by omega) s.esc
 refine⟨rfl,_,_,?_,hnew,Kl (Ren.with_d _ _ _ _)⟩
 rw[run_bytes_of_string w src dst e b hs hd he,Kk _ _ _ _ _ (hfr s.n (Nat.le_refl _) (Nat.lt_succ_self _)),hsize]
 rfl
theorem Zrq {l:List Value} (hc:l.all Zwj=true):∃ ns:List Int,l=ns.map (Value.int .u8)∧l.map ZAd=ns.map fun n=>UInt8.ofNat n.toNat:=by
 induction l with
 | nil=>exact⟨[],rfl,rfl⟩
 | cons v l ih =>
  simp only[List.all_cons,Bool.and_eq_true] at hc
  obtain⟨ns,h1,h2⟩:=ih hc.2
  cases v with
  | int k n =>
   cases k<;>simp only[Zwj,Bool.false_eq_true,false_and] at hc
   refine⟨n::ns,by rw[List.map_cons,← h1],?_⟩
   rw[List.map_cons,h2]
   rfl
  | _=>simp[Zwj] at hc
theorem Zrr (ns:List Int):∀ (b:ByteArray),ns.foldl (fun r n=>r.push (UInt8.ofNat n.toNat)) b=⟨⟨b.data.toList++ns.map fun n=>UInt8.ofNat n.toNat⟩⟩:=by
 induction ns with
 | nil=>intro b; simp
 | cons n ns ih =>
  intro b
  rw[List.foldl_cons,ih]
  simp[ByteArray.push]
theorem ZmV {src dst e:TypeId} {x v:Value} (h:Zf5 s x=some (v,s')) (hs:P.underlying src=some (.slice e)) (he:P.underlying e=some (.int .u8)) (hd:P.underlying dst=some .string) (hg:Good r s w) (hO:s'.O) :
  s.O∧Yld P r s w (convert src dst (r.val x)) v s':=by
 unfold Zf5 at h
 split at h
 ·simp only[Option.some.injEq,Prod.mk.injEq] at h
  obtain⟨rfl,rfl⟩:=h
  refine⟨hO,Yld.same hg ?_ (ZbB _ _)⟩
  rw[ZV,Xs,Option.map_none,run_convert_bytes_string w src dst e none _ _ hs he hd]
  rfl
 ·rename_i a len cap
  have fin:∀ ns:List Int,(loadCells (r.addr a) len).run P w = .ok (ns.map (Value.int .u8)).toArray w→(convert src dst (r.val (.slice (some a) len cap))).run P w = .ok (r.val (.string ⟨⟨ns.map fun n=>UInt8.ofNat n.toNat⟩⟩)) w:=by
   intro ns hrun
   rw[ZV,Xs,Option.map_some,run_convert_bytes_string w src dst e _ _ _ hs he hd,run_bytesToString w _ _ _ ns hrun,Zrr]
   rfl
  split at h
  ·rename_i l hl
   obtain⟨l,s1⟩:=l
   simp only[Option.some.injEq,Prod.mk.injEq] at h
   obtain⟨rfl,rfl⟩:=h
   have hO1:=WZ _ _ hO
   obtain⟨ns,h1,h2⟩:=Zrq (UD _ _ hO)
   subst h1
   obtain⟨q1,_⟩:=ZeH (P:=P) hl hg hO1
   have hsb:=ZdA hl
   refine⟨hsb.2.2.2 hO1,r,w,?_,(hsb.to hg).trans (To.ask (hsb.good hg) _),ZbB _ _⟩
   rw[h2]
   refine fin ns ?_
   rw[q1,List.map_map]
   congr 2
   apply List.map_congr_left
   intro n _
   simp[YI]
  ·cases hb:Nat.beq len 0
   ·rw[hb] at h; cases h
   rw[hb] at h
   simp only[cond_true,Option.some.injEq,Prod.mk.injEq] at h
   obtain⟨rfl,rfl⟩:=h
   refine⟨hO,Yld.same hg ?_ (ZbB _ _)⟩
   refine fin [] ?_
   rw[eB hb]
   rfl
 ·cases h
end
end Go.Proofs.YtagacmljbgkmoaaGreatDoor.Sy
namespace Go.Proofs.YtagacmljbgkmoaaGreatDoor.Sy
open Go.IntKind (u8 u16 u32 u64 i64)
open Go.RowKit
section
variable {P:Program} {r:Ren} {s s':St} {w:World}
theorem Zcu:∀ (x y:List UInt8),Zv x y=(x==y)
 | [],[]=>rfl
 | [],_::_=>rfl
 | _::_,[]=>rfl
 | a::x,b::y=>by
  rw[Zv,Zcu x y,List.cons_beq_cons]
  congr 1
  cases h:Nat.beq a.toNat b.toNat
  ·symm
   rw[beq_eq_false_iff_ne]
   intro e; subst e; rw[Nat.beq_refl] at h; cases h
  ·have:=eB h
   symm
   rw[beq_iff_eq]
   exact UInt8.toNat_inj.1 this
theorem ZiQ:∀ (x y:List UInt8),Zfv x y=Op.bytesLess x y
 | [],[]=>rfl
 | [],_::_=>rfl
 | _::_,[]=>rfl
 | a::x,b::y=>by
  rw[Zfv,ZiQ x y,Op.bytesLess]
  congr 1
  ·rw[Bool.eq_iff_iff]
   simp[UInt8.lt_iff_toNat_lt]
  ·congr 1
   cases h:Nat.beq a.toNat b.toNat
   ·symm
    rw[beq_eq_false_iff_ne]
    intro e; subst e; rw[Nat.beq_refl] at h; cases h
   ·have:=eB h
    symm
    rw[beq_iff_eq]
    exact UInt8.toNat_inj.1 this
theorem ZfD (b:ByteArray):b.toList=b.data.toList:=by
 have:=ByteArray.toList_mk b.data.toList
 simpa using this
theorem ZBk {op:BinOp} {a b:ByteArray} {v:Value} (h:ZFl s op a.data.toList b.data.toList=some (v,s')) (hO:s'.O) (w:World) :
  Yx s s'∧(Op.stringOp op a b).run P w = .ok v w∧Qm v=true:=by
 unfold ZFl at h
 simp only[Qr] at h
 unfold Op.stringOp
 simp only[ZfD,← Zcu,← ZiQ]
 split at h
 ·simp only[Option.some.injEq,Prod.mk.injEq] at h
  obtain⟨rfl,rfl⟩:=h
  have hlt:=Zaf.1 (UD _ _ hO)
  have ha:a.size=a.data.toList.length:=by rw[Array.length_toList]; rfl
  have hb':b.size=b.data.toList.length:=by rw[Array.length_toList]; rfl
  have hap:a++b=⟨⟨a.data.toList++b.data.toList⟩⟩:=by
   have:=ByteArray.mk_append_mk a.data.toList b.data.toList
   simpa using this
  have hm:¬ (((a.size+b.size:Nat):Int)>i64.max):=by
   have:i64.max=9223372036854775807:=by decide
   rw[this]
   unfold big at hlt
   omega
  simp only[if_neg hm,hap]
  exact⟨.ask _ _,rfl,rfl⟩
 all_goals first
  | (simp only[Option.some.injEq,Prod.mk.injEq] at h; obtain⟨rfl,rfl⟩:=h; exact⟨.refl _,rfl,rfl⟩)
  | cases h
theorem Zwy {d:TypeDesc} {a:Option Addr} (h:JA d (.pointer a)=true):∃ e,d = .pointer e:=by cases d<;>simp[JA] at h; exact⟨_,rfl⟩
theorem Zrs {d:TypeDesc} {a:Option Addr} {l c:Nat} (h:JA d (.slice a l c)=true):∃ e,d = .slice e:=by cases d<;>simp[JA] at h; exact⟨_,rfl⟩
theorem ZmW {d:TypeDesc} (h:JA d .nilFunc=true):∃ a b c,d = .func a b c:=by cases d<;>simp[JA] at h; exact⟨_,_,_,rfl⟩
theorem Zs4 {d:TypeDesc} {f:Fn} {a b:Array Value} (h:JA d (.func f a b)=true):∃ a b c,d = .func a b c:=by cases d<;>simp[JA] at h; exact⟨_,_,_,rfl⟩
theorem Zs5 {t:TypeId} {d:TypeDesc} {x y:Value} {p q:Bool} (hd:P.underlying t=some d) (k1:JA d x=true) (k2:JA d y=true) (hp:U9 x=some p) (hq:U9 y=some q) (k3:(p||q)=true) (w:World) :
  (Op.equalIn (9999+1) t (r.val x) (r.val y)).run P w = .ok (p&&q) w:=by
 rw[Op.equalIn]
 simp only[Sem.run_bind,run_underlying hd,Result.andThen_ok]
 cases x with
 | pointer a =>
  obtain⟨e,rfl⟩:=Zwy k1
  cases y with
  | pointer b =>
   simp only[U9,Option.some.injEq] at hp hq
   subst hp; subst hq
   rw[Y4,Y4]
   cases a<;>cases b<;>first|rfl|cases k3
  | _=>simp[JA] at k2
 | slice a l c =>
  obtain⟨e,rfl⟩:=Zrs k1
  cases y with
  | slice b l' c' =>
   simp only[U9,Option.some.injEq] at hp hq
   subst hp; subst hq
   rw[ZV,ZV]
   cases a<;>cases b<;>first|rfl|cases k3
  | _=>simp[JA] at k2
 | nilFunc =>
  obtain⟨e1,e2,e3,rfl⟩:=ZmW k1
  simp only[U9,Option.some.injEq] at hp
  subst hp
  cases y with
  | nilFunc=>simp only[U9,Option.some.injEq] at hq; subst hq; rw[Zab]; rfl
  | func f a b=>simp only[U9,Option.some.injEq] at hq; subst hq; rw[Zab,W4]; rfl
  | _=>simp[JA] at k2
 | func f a b =>
  obtain⟨e1,e2,e3,rfl⟩:=Zs4 k1
  simp only[U9,Option.some.injEq] at hp
  subst hp
  cases y with
  | nilFunc=>simp only[U9,Option.some.injEq] at hq; subst hq; rw[Zab,W4]; rfl
  | func f a b=>simp only[U9,Option.some.injEq] at hq; subst hq; cases k3
  | _=>simp[JA] at k2
 | _=>simp[U9] at hp
theorem ZmX {t:TypeId} {x y:Value} {b:Bool} (h:Zkq P t x y=some b) (w:World):(Op.equal t (r.val x) (r.val y)).run P w = .ok b w:=by
 unfold Zkq at h
 obtain⟨d,hd,h⟩:=oB h
 obtain⟨p,hp,h⟩:=oB h
 obtain⟨q,hq,h⟩:=oB h
 cases hb:(JA d x&&JA d y&&(p||q))
 ·rw[hb] at h; cases h
 rw[hb] at h
 simp only[cond_true,Option.some.injEq] at h
 subst h
 rw[Bool.and_eq_true,Bool.and_eq_true] at hb
 exact Zs5 hd hb.1.1 hb.1.2 hp hq hb.2 w
theorem ZfE {x:Value} {n:Nat} (h:ZFm x=some n) (w:World):(Builtin.lenOf (r.val x)).run P w = .ok n w:=by
 unfold ZFm at h
 simp only[Qr] at h
 split at h
 ·simp only[Option.some.injEq] at h; subst h; rw[ZV]; rfl
 ·simp only[Option.some.injEq] at h; subst h; rw[Xs,Array.length_toList]; rfl
 ·cases h
theorem Ky {size n:Nat} {x:Value} {l:List Value} (h:ZiI s size n x=some (l,s')):Yx s s':=by
 unfold ZiI at h
 split at h
 ·split at h
  ·rename_i l1 h1
   cases h
   exact ZdA h1
  ·cases hb:Nat.beq (n*size) 0
   ·rw[hb] at h; cases h
   ·rw[hb] at h
    simp only[cond_true,Option.some.injEq,Prod.mk.injEq] at h
    rw[← h.2]; exact .refl _
 ·simp only[Option.some.injEq,Prod.mk.injEq] at h
  rw[← h.2]; exact .refl _
 ·simp only[Option.some.injEq,Prod.mk.injEq] at h
  rw[← h.2]; exact .refl _
 ·cases h
theorem ZbD {size n:Nat} {x:Value} {l:List Value} (h:ZiI s size n x=some (l,s')) (hg:Good r s w) (hx:bnd r.d x=true) (hO:s'.O) :
  (Builtin.firstCells size n (r.val x)).run P w = .ok (l.map r.val).toArray w∧∀ v∈l,bnd r.d v=true∧v.oneCell'=true:=by
 unfold ZiI at h
 split at h
 ·rename_i a l' c
  split at h
  ·rename_i l1 h1
   cases h
   obtain⟨h1,_,_,h2⟩:=ZeH (P:=P) h1 hg hO
   rw[ZV,Option.map_some]
   exact⟨h1,h2⟩
  ·cases hb:Nat.beq (n*size) 0
   ·rw[hb] at h; cases h
   rw[hb] at h
   simp only[cond_true,Option.some.injEq,Prod.mk.injEq] at h
   obtain⟨rfl,rfl⟩:=h
   refine⟨?_,fun v hv=>by cases hv⟩
   rw[ZV,Option.map_some]
   simp only[Builtin.firstCells,eB hb]
   rfl
 ·simp only[Option.some.injEq,Prod.mk.injEq] at h
  obtain⟨rfl,rfl⟩:=h
  refine⟨?_,fun v hv=>by cases hv⟩
  rw[ZV]
  rfl
 ·rename_i b
  simp only[Option.some.injEq,Prod.mk.injEq] at h
  obtain⟨rfl,rfl⟩:=h
  refine⟨?_,fun v hv=>by
   obtain⟨c,_,rfl⟩:=List.mem_map.1 hv
   exact⟨Uw _ _ _,rfl⟩⟩
  rw[Xs]
  simp only[Builtin.firstCells,Sem.run_pure]
  congr 1
  have hex:b.extract 0 n=⟨⟨b.data.toList.take n⟩⟩:=by
   have:=ByteArray.extract_mk b.data.toList 0 n
   simpa using this
  rw[hex]
  apply Array.ext'
  simp only[Array.toList_map,List.map_map,List.map_inj_left]
  simp[YI]
 ·cases h
theorem Zwz {t ty:TypeId} {ts:Array TypeId} {dst src v:Value} (ht:ts[0]? = some t) (h:ZsP P s t dst src=some (v,s')) (hd:bnd r.d dst=true) (hx:bnd r.d src=true) (hg:Good r s w) (hO:s'.O) :
  s.O∧Yld P r s w (Builtin.copy_ ts ty #[r.val dst,r.val src]) v s':=by
 unfold ZsP at h
 split at h
 ·rename_i base dlen dcap
  obtain⟨elem,he,h⟩:=oB h
  obtain⟨size,hsz,h⟩:=oB h
  obtain⟨m,hm,h⟩:=oB h
  obtain⟨z,_,h⟩:=oB h
  obtain⟨⟨cells,s1⟩,hc,h⟩:=oB h
  have hsb:=Ky hc
  have hrun:∀ (w':World),s1.O→(match (base.map r.addr) with|some a=>storeCells a (cells.map r.val)|none=>pure ()).run P w = .ok () w' →
    (Builtin.copy_ ts ty #[r.val (.slice base dlen dcap),r.val src]).run P w = .ok (.int .i64 (Nat.min m dlen:Nat)) w':=by
   intro w' hO1 hst
   obtain⟨h1,_⟩:=ZbD (P:=P) hc hg hx hO1
   rw[ZV]
   simp only[Builtin.copy_,ht,List.getElem?_toArray,List.getElem?_cons_zero,List.getElem?_cons_succ,Sem.run_bind,run_underlying (J4 he),Result.andThen_ok,ZfE hm,YN hsz,h1]
   cases base with
   | none =>
    simp only[Option.map_none,Sem.run_pure,Result.ok.injEq,true_and] at hst ⊢
    subst hst; exact⟨rfl,rfl⟩
   | some a =>
    simp only[Option.map_some] at hst ⊢
    simp only[Sem.run_bind,hst,Result.andThen_ok,Sem.run_pure]
    rfl
  cases base with
  | none =>
   simp only[Option.some.injEq,Prod.mk.injEq] at h
   obtain⟨rfl,rfl⟩:=h
   have hO1:=WZ _ _ hO
   have hq:=UD _ _ hO
   rw[Bool.and_eq_true,Qr] at hq
   have hnil:cells=[]:=List.eq_nil_of_length_eq_zero (eB hq.2)
   subst hnil
   exact⟨hsb.2.2.2 hO1,r,w,by rw[YI]; exact hrun w hO1 rfl,(hsb.to hg).trans (To.ask (hsb.good hg) _),Uw _ _ _⟩
  | some a =>
   simp only[] at h
   obtain⟨s2,hs2,h⟩:=oM h
   simp only[Prod.mk.injEq] at h
   obtain⟨rfl,rfl⟩:=h
   have hO2:(ask (Nat.beq (Yf cells) (Nat.min m dlen*size)) s1).2.O:=Zge hs2 hO
   have hO1:=WZ _ _ hO2
   obtain⟨_,h2⟩:=ZbD (P:=P) hc hg hx hO1
   have hg2:=(Yx.ask (Nat.beq (Yf cells) (Nat.min m dlen*size)) s1).good (hsb.good hg)
   obtain⟨_,_,w',hw,hto⟩:=Zhd (P:=P) hs2 hg2 (fun v hv=>(h2 v hv).1) hO
   exact⟨hsb.2.2.2 hO1,r,w',by rw[YI]; exact hrun w' hO1 hw,((hsb.to hg).trans (To.ask (hsb.good hg) _)).trans hto,Uw _ _ _⟩
 ·cases h
def ZiR (P:Program) (ts:Array TypeId):Prop :=
 ts[1]? = none∨∃ t1 d,ts[1]? = some t1∧P.underlying t1=some d∧∀ k,d ≠ .int k
theorem K8 {t ty elem:TypeId} {ts:Array TypeId} {size n sLen cap:Nat} {base:Option Addr} {x:Value} {new:Array Value} {w':World}
  (ht:ts[0]? = some t) (hz:ZiR P ts) (he:P.underlying t=some (.slice elem)) (hsz:ZaL P elem=some size) (hn:∀ w,(Builtin.lenOf x).run P w = .ok n w)
  (hnew:(Builtin.firstCells size n x).run P w = .ok new w) (hc:sLen+n≤cap)
  (hst:(match base with|some a=>storeCells (a.add (sLen*size)) new.toList|none=>pure ()).run P w = .ok () w') :
  (Builtin.append_ ts ty #[.slice base sLen cap,x]).run P w = .ok (.slice base (sLen+n) cap) w':=by
 rcases hz with hz|⟨t1,d,hz,hd,hz'⟩
 all_goals
  cases base with
  | none =>
   simp only[Sem.run_pure,Result.ok.injEq,true_and] at hst
   subst hst
   simp only[Builtin.append_,ht,hz,List.getElem?_toArray,List.getElem?_cons_zero,List.getElem?_cons_succ,Sem.run_bind,run_underlying he,Result.andThen_ok,Sem.run_pure,YN hsz,
    Bool.false_eq_true,if_false,hn,if_pos hc,Bool.not_false,if_true,hnew]
   try (simp only[run_underlying hd,Result.andThen_ok]; rw[if_neg (by cases d<;>first|(exact absurd rfl (hz' _))|(intro h; cases h))]; simp only[Result.andThen_ok,Sem.run_bind,Sem.run_pure,hn,if_pos hc]; rw[if_pos (by cases d<;>first|(exact absurd rfl (hz' _))|(rfl))]; simp only[hnew,Result.andThen_ok])
  | some a =>
   simp only[] at hst
   simp only[Builtin.append_,ht,hz,List.getElem?_toArray,List.getElem?_cons_zero,List.getElem?_cons_succ,Sem.run_bind,run_underlying he,Result.andThen_ok,Sem.run_pure,YN hsz,
    Bool.false_eq_true,if_false,hn,if_pos hc,Bool.not_false,if_true,hnew,hst]
   try (simp only[run_underlying hd,Result.andThen_ok]; rw[if_neg (by cases d<;>first|(exact absurd rfl (hz' _))|(intro h; cases h))]; simp only[Result.andThen_ok,Sem.run_bind,Sem.run_pure,hn,if_pos hc]; rw[if_pos (by cases d<;>first|(exact absurd rfl (hz' _))|(rfl))]; simp only[hnew,Result.andThen_ok,hst])
theorem Zkd {t ty elem:TypeId} {ts:Array TypeId} {size n sLen cap by_:Nat} {base:Option Addr} {x z:Value} {new old:Array Value}
  (ht:ts[0]? = some t) (hz:ZiR P ts) (he:P.underlying t=some (.slice elem)) (hsz:ZaL P elem=some size) (hby:ZpJ P elem=some by_) (hzv:∀ w,(zeroValue elem).run P w = .ok z w)
  (hn:∀ w,(Builtin.lenOf x).run P w = .ok n w)
  (hnew:∀ w',w'.heap=w.heap→(Builtin.firstCells size n x).run P w' = .ok new w') (hold:∀ w',w'.heap=w.heap→(Builtin.firstCells size sLen (.slice base sLen cap)).run P w' = .ok old w') (hc:¬ sLen+n≤cap)
  (h63:sLen+n<4611686018427387904) (hb:(sLen+n)*by_≤1099511627776) :
  (Builtin.append_ ts ty #[.slice base sLen cap,x]).run P w = .ok (.slice (some ⟨w.heap.size,0,none⟩) (sLen+n) (grownCap w (sLen+n) cap elem))
   {w with heap:=w.heap.push (.cells (old++new++Builtin.zeroCells z.cells (grownCap w (sLen+n) cap elem-(sLen+n))) elem),drawn:=w.drawn+1 }:=by
 obtain⟨i,hi,rfl⟩:=oM hby
 have hnext:=nextslicecap_le (need:=sLen+n) (old:=cap) (by omega)
 have h48:(Builtin.nextslicecap (sLen+n) cap*i.bytes>2^48)=False:=by
  have h1:=Nat.mul_le_mul_right i.bytes hnext
  rw[Nat.mul_assoc] at h1
  rw[eq_iff_iff,iff_false]
  omega
 have hmax:(((sLen+n:Nat):Int)>i64.max)=False:=by
  have:i64.max=9223372036854775807:=by decide
  rw[this,eq_iff_iff,iff_false]
  omega
 have hch:(choose (.appendCap (sLen+n) cap elem)).run P w = .ok (grownCap w (sLen+n) cap elem) { w with drawn:=w.drawn+1 }:=by
  rw[run_choose]; rfl
 have h1:=hold { w with drawn:=w.drawn+1 } rfl
 have h2:=hnew { w with drawn:=w.drawn+1 } rfl
 rcases hz with hz|⟨t1,d,hz,hd,hz'⟩
 ·simp only[Builtin.append_,ht,hz,List.getElem?_toArray,List.getElem?_cons_zero,List.getElem?_cons_succ,Sem.run_bind,run_underlying he,Result.andThen_ok,Sem.run_pure,YN hsz,
   Bool.false_eq_true,if_false,hn,if_neg hc,Bool.not_false,if_true,hmax,false_and,J2 hi,h48,hch,run_askRoom,h1,h2,hzv,newRow,run_newObj]
 ·simp only[Builtin.append_,ht,hz,List.getElem?_toArray,List.getElem?_cons_zero,List.getElem?_cons_succ,Sem.run_bind,run_underlying he,Result.andThen_ok,Sem.run_pure,YN hsz,run_underlying hd]
  rw[if_neg (by cases d<;>first|(exact absurd rfl (hz' _))|(intro h; cases h))]
  simp only[Result.andThen_ok,Sem.run_bind,Sem.run_pure,hn,if_neg hc,hmax,false_and,if_false,J2 hi,h48,hch,run_askRoom,h1]
  rw[if_pos (by cases d<;>first|(exact absurd rfl (hz' _))|rfl)]
  simp only[Result.andThen_ok,Sem.run_bind,Sem.run_pure,h2,hzv,newRow,run_newObj]
end
end Go.Proofs.YtagacmljbgkmoaaGreatDoor.Sy
namespace Go.Proofs.YtagacmljbgkmoaaGreatDoor.Sy
open Go.IntKind (u8 u16 u32 u64 i64)
open Go.RowKit
section
variable {P:Program} {r:Ren} {s s':St} {w:World}
theorem Good.heap {w':World} (h:Good r s w) (hw:w'.heap=w.heap):Good r s w' :=
 ⟨fun g k hk=>(h.is g k hk).heap (by rw[hw]),h.inj,h.lt,h.lo⟩
theorem Good.kill (h:Good r s w) (g:Nat):Good r { s with h:=Sy.kill s.h g } w:=by
 have hl:∀ g' k,look (Sy.kill s.h g) g'=some k→g'≠g∧look s.h g'=some k:=by
  intro g' k hk
  rw[Zgd] at hk
  split at hk
  ·cases hk
  ·rename_i e; exact⟨e,hk⟩
 exact⟨fun g' k hk=>h.is g' k (hl g' k hk).2,fun g1 g2 k1 k2 h1 h2 h4 h3=>h.inj g1 g2 k1 k2 (hl _ _ h1).2 (hl _ _ h2).2 h4 h3,fun g' k hk=>h.lt g' k (hl g' k hk).2,h.lo⟩
theorem To.kill (h:Good r s w) (g:Nat):To r s w r { s with h:=Sy.kill s.h g } w :=
 ⟨Ext.refl _,fun _ h => .inl h,Nat.le_refl _,h,h.kill g,rfl,rfl,rfl,Nat.le_refl _,fun _ _ _=>rfl,fun g' k hk=>by
  have hk:look (Sy.kill s.h g) g'=some k:=hk
  rw[Zgd] at hk
  split at hk
  ·cases hk
  ·exact .inl ⟨k,hk,id⟩⟩
theorem Zs6 (hg:Good r s w) (hfr:r.d s.n=false) {g0:Nat} {k:Blk} {c sz:Nat} {new:List Value} {arr arr':Array Value} {ty:TypeId} {fr:Nat×Nat} (m:Nat) (hk:look s.h g0=some k) (_hw0:r.w g0=0) (hrw:k.rw=true)
  (hnew:∀ v∈new,bnd r.d v=true∧v.oneCell'=true) (_h1:w.heap[r.b g0]? = some (.cells arr ty fr)) (hf:∀ (j:Nat),j<arr.size→¬ (fr.1≤j∧j<fr.2)) (hs:arr'.size=arr.size)
  (hsz:arr.size=c*sz) (hfit:k.cells.length+new.length≤arr.size) (ho:∀ (j:Nat) (v:Value),k.cells[j]? = some v→arr[j]? = some (r.val v)) (hm:m≤c)
  (hc:∀ j:Nat,arr'[j]? = if k.cells.length≤j∧j<k.cells.length+new.length then(new.map r.val)[j-k.cells.length]? else arr[j]?) :
  To r s w (r.with s.n (r.b g0) (c)) { J0 { s with h:=Sy.kill s.h g0 } (some (s.n,sz)) (k.cells++new) with lo:=(s.n,m)::s.lo } { w with heap:=w.heap.setIfInBounds (r.b g0) (.cells arr' ty fr) }:=by
 have he:=Ren.with_ext hfr (r.b g0) (c)
 have hlt0:=(hg.is g0 k hk).lt
 have hfar:∀ b',b'≠r.b g0→(w.heap.setIfInBounds (r.b g0) (.cells arr' ty fr))[b']? = w.heap[b']?:=fun b' hb'=>Array.getElem?_setIfInBounds_ne (Ne.symm hb')
 have hlk:∀ g k',look ((s.n,(⟨true,some (s.n,sz),k.cells++new,none⟩:Blk))::Sy.kill s.h g0) g=some k'→(g=s.n∧k'=⟨true,some (s.n,sz),k.cells++new,none⟩)∨(g≠s.n∧g≠g0∧look s.h g=some k'):=by
  intro g k' hk'
  rw[Qs] at hk'
  split at hk'
  ·rename_i e; exact .inl ⟨e,(Option.some.inj hk').symm⟩
  ·rename_i e
   rw[Zgd] at hk'
   split at hk'
   ·cases hk'
   ·rename_i e'; exact .inr ⟨e,e',hk'⟩
 have hbc:∀ v∈k.cells++new,bnd r.d v=true∧v.oneCell'=true:=fun v hv=>by
  rcases List.mem_append.1 hv with h|h
  ·exact(hg.lt _ _ hk).2.2 v h
  ·exact hnew v h
 refine⟨he,fun g hg=>Ren.with_dom hg,Nat.le_succ _,hg,⟨?_,?_,?_,?_⟩,rfl,rfl,rfl,by simp,?_,?_⟩
 ·intro g k' hk'
  rcases hlk g k' hk' with⟨rfl,rfl⟩|⟨hne,hne0,hk'⟩
  ·refine .inl ⟨rfl,arr',ty,fr,by rw[Ren.with_b _ _ _ _ hfr]; simp[hlt0],?_,?_,fun _ j hj=>hf j (by omega)⟩
   ·simp only[Ren.with_c,Ren.with_w,List.length_append]
    exact⟨.inr ⟨trivial,by omega⟩,by omega⟩
   ·intro j v hj
    rw[Ren.with_w,Nat.zero_add,Zad he v (hbc v (List.mem_of_getElem? hj)).1,hc j]
    simp only[] at hj
    rw[List.getElem?_append] at hj
    split at hj
    ·rw[if_neg (by omega)]; exact ho j v hj
    ·have hlt:=(List.getElem?_eq_some_iff.1 hj).1
     rw[if_pos (by omega),List.getElem?_map,hj]; rfl
  ·exact(hg.is g k' hk').ext he (hg.lt g k' hk').1 (hg.lt g k' hk').2 (hfar _ fun e=>hne0 (hg.inj' hk' hk hrw e))
 ·intro g g' k1 k2 h5 h6 h8 h7
  rcases hlk g k1 h5 with⟨rfl,rfl⟩|⟨hne,hne0,h5⟩<;>rcases hlk g' k2 h6 with⟨rfl,rfl⟩|⟨hne',hne0',h6⟩
  ·rfl
  ·rw[Ren.with_b _ _ _ _ hfr,he.b g' (hg.lt _ _ h6).1] at h7
   exact absurd (hg.inj' h6 hk hrw h7.symm) hne0'
  ·rw[Ren.with_b _ _ _ _ hfr,he.b g (hg.lt _ _ h5).1] at h7
   exact absurd (hg.inj' h5 hk hrw h7) hne0
  ·rw[he.b g (hg.lt _ _ h5).1,he.b g' (hg.lt _ _ h6).1] at h7
   exact hg.inj _ _ _ _ h5 h6 h8 h7
 ·intro g k' hk'
  rcases hlk g k' hk' with⟨rfl,rfl⟩|⟨hne,hne0,hk'⟩
  ·exact⟨Ren.with_d _ _ _ _,fun q hq=>by cases hq; exact Ren.with_d _ _ _ _,fun v hv=>⟨VV he.d v (hbc v hv).1,(hbc v hv).2⟩⟩
  ·exact⟨he.d g (hg.lt g k' hk').1,(hg.lt g k' hk').2.mono he.d⟩
 ·intro x hx
  rcases List.mem_cons.1 hx with rfl|hx
  ·exact⟨by rw[Ren.with_c]; exact hm,Ren.with_d _ _ _ _⟩
  ·have:=hg.lo x hx
   rw[he.c x.1 this.2]
   exact⟨this.1,he.d _ this.2⟩
 ·intro b hb hn
  exact hfar b fun e=>hn g0 k hk hrw e.symm
 ·intro g k' hk'
  rcases hlk g k' hk' with⟨rfl,rfl⟩|⟨hne,hne0,hk'⟩
  ·exact .inr (.inr ⟨g0,k,hk,hrw,by rw[Ren.with_b _ _ _ _ hfr]⟩)
  ·exact .inl ⟨k',hk',id⟩
theorem ZBl {size len cap n:Nat} {sc:Bool} {base:Option Addr} {new:List Value} {v:Value} (h:Zoz s size sc base len cap n new=some (v,s')) (hO:s'.O):s.O:=by
 unfold Zoz at h
 cases hb:Nat.blt cap big
 ·rw[hb] at h
  simp only[cond_false] at h
  split at h
  ·split at h
   ·cases h
   obtain⟨k,_,h⟩:=oB h
   split at h
   ·cases h
   rename_i p _
   cases hc:(k.rw&&Nat.beq _ 0&&Nat.beq (big+p.1) cap&&Nat.beq p.2 size)<;>rw[hc] at h
   ·cases h
   ·simp only[cond_true,Option.some.injEq,Prod.mk.injEq] at h
    obtain⟨_,rfl⟩:=h
    exact WZ _ s hO
  ·cases h
 ·rw[hb] at h
  simp only[cond_true] at h
  cases hbr:ZsO s base len cap<;>rw[hbr] at h
  ·simp only[cond_false] at h
   cases hle:(test (Nat.ble (len+n) cap) s).1<;>rw[hle] at h
   ·simp only[cond_false] at h
    obtain⟨⟨old,s1⟩,hold,h⟩:=oM h
    simp only[Prod.mk.injEq] at h
    obtain⟨_,rfl⟩:=h
    exact Zbl _ _ ((Ky hold).2.2.2 (WZ _ s1 hO))
   ·simp only[cond_true] at h
    split at h
    ·cases hn:Nat.beq n 0<;>rw[hn] at h
     ·simp only[cond_false] at h
      split at h
      ·cases h
      obtain⟨s1,h1,h⟩:=oM h
      simp only[Prod.mk.injEq] at h
      obtain⟨_,rfl⟩:=h
      exact Zbl _ _ (Zge h1 hO)
     ·simp only[cond_true,Option.some.injEq,Prod.mk.injEq] at h
      obtain⟨_,rfl⟩:=h
      exact Zbl _ _ hO
    ·simp only[Option.some.injEq,Prod.mk.injEq] at h
     obtain⟨_,rfl⟩:=h
     exact Zbl _ _ (WZ _ _ hO)
  ·simp only[cond_true] at h
   split at h
   ·simp only[Option.some.injEq,Prod.mk.injEq] at h
    obtain⟨_,rfl⟩:=h
    exact hO
   ·cases h
theorem Zs7 {a:Addr} (h:bare s a=true):∃ k,a.spot=none∧look s.h a.block=some k∧k.rw=true∧k.it=none∧a.off=0∧k.op=none∧k.cells=[]:=by
 unfold bare at h
 split at h
 ·cases h
 rename_i hs
 split at h
 ·cases h
 rename_i k hk
 simp only[Bool.and_eq_true] at h
 obtain⟨⟨⟨⟨h1,h2⟩,h3⟩,h4⟩,h5⟩:=h
 refine⟨k,hs,hk,h1,ZbC h2,eB h3,?_,?_⟩
 ·cases ho:k.op with
  | none=>rfl
  | some p=>rw[ho] at h4; cases h4
 ·cases hc:k.cells with
  | nil=>rfl
  | cons a b=>rw[hc] at h5; cases h5
theorem ZwA {t ty elem:TypeId} {ts:Array TypeId} {size n len cap by_:Nat} {sc:Bool} {base:Option Addr} {x z v:Value} {new:List Value}
  (ht:ts[0]? = some t) (hnz:ZiR P ts) (hsl:P.underlying t=some (.slice elem)) (hsz:ZaL P elem=some size) (hby:ZpJ P elem=some by_) (hzv:∀ w,(zeroValue elem).run P w = .ok z w)
  (hn:ZFm x=some n) (hfirst:∀ w':World,w'.heap=w.heap→(Builtin.firstCells size n (r.val x)).run P w' = .ok (new.map r.val).toArray w') (f2:∀ v∈new,bnd r.d v=true∧v.oneCell'=true)
  (c2:new.length=n*size) (c4:(len+n)*by_≤1099511627776) (c5:len+n<4611686018427387904) (c6:z.cells.size=size) (_c7:0<size)
  (h:Zoz s size sc base len cap n new=some (v,s')) (hd:bnd r.d (.slice base len cap)=true) (hg:Good r s w) (hfr:WL r s.n s'.n) (hO:s'.O) :
  Yld P r s w (Builtin.append_ ts ty #[r.val (.slice base len cap),r.val x]) v s':=by
 have hd':=hd
 rw[QT,Bool.and_eq_true] at hd
 obtain⟨hda,hdc⟩:=hd
 have f1:=hfirst w rfl
 have grow:∀ (s0:St) (old:List Value) (esc:Nat),r.d s.n=false→Good r s0 w→s0.n=s.n→s0.lo=s.lo→old.length=len*size→(∀ v∈old,bnd r.d v=true∧v.oneCell'=true)→To r s w r s0 w →
   (∀ w',w'.heap=w.heap→(Builtin.firstCells size len (.slice (base.map r.addr) len (r.cap cap))).run P w' = .ok (old.map r.val).toArray w')→¬ len+n≤r.cap cap →
   Yld P r s w (Builtin.append_ ts ty #[r.val (.slice base len cap),r.val x]) (.slice (some ⟨s.n,0,none⟩) (len+n) (big+s.n)) { J0 s0 (some (s.n,size)) (old++new) with lo:=(s.n,len+n)::s.lo,esc:=esc }:=by
  intro s0 old esc hfr0 hg0 hn0 hlo0 hol hob hto hold hnot
  have hrun:=Zkd (ty:=ty) (w:=w) ht hnz hsl hsz hby hzv (ZfE (r:=r) hn) hfirst hold hnot c5 c4
  have hge:=grownCap_ge w (len+n) (r.cap cap) elem
  have hasz:((old.map r.val).toArray++(new.map r.val).toArray++Builtin.zeroCells z.cells (grownCap w (len+n) (r.cap cap) elem-(len+n))).size=grownCap w (len+n) (r.cap cap) elem*size:=by
   simp only[Array.size_append,List.size_toArray,List.length_map,size_zeroCells,c6,hol,c2,← Nat.add_mul]
   congr 1; omega
  have hnew2:=ZpQ hg0 (by rw[hn0]; exact hfr0) (some (s.n,size)) (old++new) ((old.map r.val).toArray++(new.map r.val).toArray++Builtin.zeroCells z.cells (grownCap w (len+n) (r.cap cap) elem-(len+n))) elem (0,0)
   (grownCap w (len+n) (r.cap cap) elem) (w.drawn+1) ((s.n,len+n)::s.lo) (.inr ⟨len+n,by rw[hn0,hlo0],hge⟩) (fun v hv=>by
    rcases List.mem_append.1 hv with h|h
    ·exact hob v h
    ·exact f2 v h) (.inr ⟨size,by rw[hn0],hasz,by
     rw[hasz,List.length_append,hol,c2,← Nat.add_mul]; exact Nat.mul_le_mul_right _ hge⟩) (fun j v hj=>by
    have hlt:=(List.getElem?_eq_some_iff.1 hj).1
    have e:(old.map r.val).toArray++(new.map r.val).toArray=((old++new).map r.val).toArray:=by simp
    rw[e,Array.getElem?_append_left (by simpa using hlt),List.getElem?_toArray,List.getElem?_map,hj]; rfl) (fun j _ hc=>by simp at hc) esc
  refine⟨_,_,?_,hto.trans (hn0▸hnew2),Kl (Ren.with_d _ _ _ _)⟩
  rw[ZV (r:=r),hrun,Kk _ _ _ _ _ hfr0]
 unfold Zoz at h
 cases hb:Nat.blt cap big
 ·rw[hb] at h
  simp only[cond_false] at h
  cases base with
  | none=>cases h
  | some a =>
   simp only[] at h
   cases hs:a.spot with
   | some _=>rw[hs] at h; cases h
   | none =>
    rw[hs] at h
    simp only[] at h
    replace h:=oB h
    obtain⟨k,hk,h⟩:=h
    cases hop:k.op with
    | none=>rw[hop] at h; cases h
    | some p =>
     rw[hop] at h
     simp only[] at h
     cases hc:(k.rw&&Nat.beq a.off 0&&Nat.beq (big+p.1) cap&&Nat.beq p.2 size)
     ·rw[hc] at h; cases h
     rw[hc] at h
     simp only[cond_true,Option.some.injEq,Prod.mk.injEq] at h
     obtain⟨rfl,rfl⟩:=h
     have hq:=UD _ s hO
     rw[Qr] at hq
     have k5:=eB hq
     simp only[Bool.and_eq_true] at hc
     obtain⟨⟨⟨k1,k2⟩,k3⟩,k4⟩:=hc
     have k2:=eB k2
     have k3:=eB k3
     have k4:=eB k4
     have hcapv:r.cap cap=r.c p.1:=by rw[← k3,KM]
     have hfs:r.d s.n=false:=hfr s.n (Nat.le_refl _) (Nat.lt_succ_self _)
     obtain⟨arr,ty',fr,g1,g2,g3,g4⟩:=(hg.is _ _ hk).open hop
     have g4:=g4 k1
     rw[hop] at g2
     simp only[] at g2
     have hw0:r.w a.block=0∧arr.size=r.c p.1*p.2:=by
      rcases g2.1 with h|h
      ·rw[k1] at h; cases h
      ·exact h
     have g2':arr.size=r.c p.1*p.2∧k.cells.length≤arr.size:=⟨hw0.2,by have:=g2.2; omega⟩
     have g3:∀ (j:Nat) (v:Value),k.cells[j]? = some v→arr[j]? = some (r.val v):=fun j v hj=>by
      have:=g3 j v hj
      rw[hw0.1,Nat.zero_add] at this
      exact this
     have haddr:r.addr a=⟨r.b a.block,0,none⟩:=by rw[Wd r a hs,k2,hw0.1]
     have hob:=(hg.lt _ _ hk).2.2
     have hga:=Yx.good (.ask (Nat.beq k.cells.length (len*size)) s) hg
     by_cases hin:len+n≤r.cap cap
     ·have hfit:k.cells.length+new.length≤arr.size:=by
       rw[g2'.1,k5,c2,← Nat.add_mul,k4,← hcapv]; exact Nat.mul_le_mul_right _ hin
      obtain⟨arr',e1,e2,e3⟩:=K7 P (r.b a.block) (len*size) ty' fr (new.map r.val) 0 arr w g1 (by simp only[List.length_map,Nat.add_zero]; omega) (fun u hu=>by
       obtain⟨u',hu',rfl⟩:=List.mem_map.1 hu
       rw[ZiK]; exact(f2 u' hu').2) g4
      have hgrow:=Zs6 hga hfs (arr':=arr') (new:=new) (len+n) hk hw0.1 k1 f2 g1 g4 e2 g2'.1 hfit g3 (by rw[← hcapv]; exact hin) (fun j=>by
       rw[e3 j,k5]; simp only[Nat.add_zero,List.length_map])
      rw[k4] at hgrow
      rw[Qr]
      refine⟨_,_,?_,(To.ask hg _).trans hgrow,Kl (Ren.with_d _ _ _ _)⟩
      have hrun:=K8 (P:=P) (ty:=ty) (base:=some (r.addr a)) (w:=w) ht hnz hsl hsz (ZfE (r:=r) hn) f1 hin (w':={ w with heap:=w.heap.setIfInBounds (r.b a.block) (.cells arr' ty' fr) }) (by
       simp only[haddr,add_plain,Nat.zero_add]
       exact e1)
      rw[ZV (r:=r),Option.map_some,hrun,Zro,Kk _ _ _ _ _ hfs,haddr,hcapv]
     ·have hold:∀ w',w'.heap=w.heap→(Builtin.firstCells size len (.slice ((some a).map r.addr) len (r.cap cap))).run P w' = .ok (k.cells.map r.val).toArray w':=by
       intro w' hw'
       have hg':=hg.heap hw'
       have hit:Zow k.it=true:=by
        rcases hg.is _ _ hk with⟨h,_⟩|⟨_,_,_,_,h,_⟩
        ·rw[h]; rfl
        ·rw[hop] at h; cases h
       have hh:WK (a.off+len*size) k.cells=true:=(Vx _ _).2 (by omega)
       have hrd:Zbk s a (len*size)=some (k.cells,(ask true s).2):=by
        unfold Zbk
        rw[hs]
        simp only[hk,Option.bind_some,hit,cond_true,hh]
        simp[k2,← k5]
       have:=(ZeH (P:=P) hrd hg' (by rw[k5,Nat.beq_refl] at hq; exact WZ _ s hO)).1
       simp only[Option.map_some]
       exact this
      rw[Qr]
      have:=grow { (ask (Nat.beq k.cells.length (len*size)) s).2 with h:=Sy.kill s.h a.block } k.cells s.esc hfs (hga.kill _) rfl rfl k5 hob ((To.ask hg _).trans (To.kill hga _)) hold hin
      exact this
 ·rw[hb] at h
  simp only[cond_true] at h
  have hcs:=Zag (r:=r) (Zaf.1 hb)
  cases hbr:ZsO s base len cap
  ·rw[hbr] at h
   simp only[cond_false] at h
   generalize hT:Nat.ble (len+n) cap=T at h
   have hsb:=Yx.test T s
   have hgt:=hsb.good hg
   cases hle:(test T s).1
   ·rw[hle] at h
    simp only[cond_false] at h
    obtain⟨⟨old,s1⟩,hold,h⟩:=oM h
    simp only[Prod.mk.injEq] at h
    obtain⟨rfl,rfl⟩:=h
    have hO1:s1.O:=WZ _ s1 hO
    have hsb1:=Ky hold
    have hOt:=hsb1.2.2.2 hO1
    have hT':T=false:=by rw[← Zbm T s hOt]; exact hle
    have hq:=UD _ s1 hO
    rw[Qr] at hq
    have ho2:=(ZbD (P:=P) hold hgt hd' hO1).2
    have hnot:¬ len+n≤r.cap cap:=by
     rw[hcs]; intro hc; rw[← hT,(Nat.ble_eq).mpr hc] at hT'; cases hT'
    have hsb2:=(hsb.trans hsb1).trans (.ask (Nat.beq old.length (len*size)) s1)
    have hn1:s1.n=s.n:=(hsb.trans hsb1).1
    have hfs:r.d s.n=false:=hfr s.n (Nat.le_refl _) (by
     show s.n<s1.n+1
     omega)
    have:=grow (ask (Nat.beq old.length (len*size)) s1).2 old s1.esc hfs (hsb2.good hg) hsb2.1 hsb2.2.2.1 (eB hq) ho2 (hsb2.to hg) (fun w' hw'=>by
     have:=(ZbD (P:=P) hold (hgt.heap hw') hd' hO1).1
     rw[ZV] at this
     exact this) hnot
    rw[Qr]
    exact this
   ·rw[hle] at h
    simp only[cond_true] at h
    have hle':T=true→len+n≤r.cap cap:=fun h=>by rw[hcs]; rw[← hT] at h; exact Nat.le_of_ble_eq_true h
    cases base with
    | none =>
     simp only[Option.some.injEq,Prod.mk.injEq] at h
     obtain⟨rfl,rfl⟩:=h
     have hOt:=WZ _ _ hO
     have hn0:=eB (UD _ _ hO)
     have hT':T=true:=by rw[← Zbm T s hOt]; exact hle
     have hnil:new=[]:=List.eq_nil_of_length_eq_zero (by rw[c2,hn0]; simp)
     subst hnil
     refine⟨r,w,?_,(To.test hg T).trans (To.ask hgt _),by rw[QT,Bool.and_eq_true]; exact⟨hda,hdc⟩⟩
     rw[ZV,ZV]
     exact K8 ht hnz hsl hsz (ZfE (r:=r) hn) f1 (hle' hT') rfl
    | some a =>
     simp only[] at h
     cases hn0:Nat.beq n 0
     ·rw[hn0] at h
      simp only[cond_false] at h
      cases hsa:a.spot with
      | some _=>rw[hsa] at h; cases h
      | none =>
      rw[hsa] at h
      simp only[] at h
      replace h:=oM h
      obtain⟨s1,hs1,h⟩:=h
      simp only[Prod.mk.injEq] at h
      obtain⟨rfl,rfl⟩:=h
      have hOt:=Zge hs1 hO
      have hT':T=true:=by rw[← Zbm T s hOt]; exact hle
      obtain⟨hsp,_,w',hw,hto⟩:=Zhd (P:=P) hs1 hgt (fun v hv=>(f2 v hv).1) hO
      refine⟨r,w',?_,(To.test hg T).trans hto,by rw[QT,Bool.and_eq_true]; exact⟨hda,hdc⟩⟩
      rw[ZV,ZV,Option.map_some]
      refine K8 ht hnz hsl hsz (ZfE (r:=r) hn) f1 (hle' hT') ?_
      simp only[]
      rw[Zdy r a _ hsa] at hw
      exact hw
     ·rw[hn0] at h
      simp only[cond_true,Option.some.injEq,Prod.mk.injEq] at h
      obtain⟨rfl,rfl⟩:=h
      have hT':T=true:=by rw[← Zbm T s hO]; exact hle
      have:=eB hn0
      subst this
      have hnil:new=[]:=List.eq_nil_of_length_eq_zero (by rw[c2]; simp)
      subst hnil
      refine⟨r,w,?_,To.test hg T,by rw[QT,Bool.and_eq_true]; exact⟨hda,hdc⟩⟩
      rw[ZV,ZV]
      exact K8 ht hnz hsl hsz (ZfE (r:=r) hn) f1 (hle' hT') rfl
  ·rw[hbr] at h
   simp only[cond_true] at h
   cases base with
   | none=>cases h
   | some a =>
   simp only[ZsO,Bool.and_eq_true] at hbr
   obtain⟨⟨hc0,hl0⟩,hbr⟩:=hbr
   have hc0:=eB hc0
   have hl0:=eB hl0
   subst hc0
   subst hl0
   obtain⟨k,hs,hk,krw,kit,ko,kop,kc⟩:=Zs7 hbr
   simp only[Option.some.injEq,Prod.mk.injEq] at h
   obtain⟨rfl,rfl⟩:=h
   have hfs:r.d s.n=false:=hfr s.n (Nat.le_refl _) (Nat.lt_succ_self _)
   obtain⟨arr,ty',fr,g1,g2,g3,g4⟩:=(hg.is _ _ hk).c kit
   rw[kop] at g2
   simp only[kc] at g2
   simp only[List.length_nil] at g2
   by_cases hin:0+n≤0
   ·have hn0:n=0:=by omega
    subst hn0
    have hnil:new=[]:=List.eq_nil_of_length_eq_zero (by rw[c2]; simp)
    subst hnil
    have hto:=Zs6 hg hfs (c:=0) (sz:=size) (arr':=arr) (new:=[]) (0+0) hk g2.1 krw f2 g1 (g4 krw) rfl (by rw[g2.2]; simp) (by rw[kc]; simp) (fun j v hj=>by rw[kc] at hj; simp at hj) (by omega) (fun j=>by rw[kc,if_neg (by simp only[List.length_nil]; omega)])
    rw[ZpR _ _ _ g1,kc] at hto
    refine⟨_,w,?_,hto,Kl (Ren.with_d _ _ _ _)⟩
    rw[Kk _ _ _ _ _ hfs,ZV,Option.map_some,hcs,Wd r a hs,ko,g2.1]
    exact K8 ht hnz hsl hsz (ZfE (r:=r) hn) f1 (Nat.le_refl _) rfl
   ·have:=grow { s with h:=Sy.kill s.h a.block } [] s.esc hfs (hg.kill _) rfl rfl (by simp) (fun v hv=>by cases hv) (To.kill hg _) (fun w' hw'=>by
     simp only[Option.map_some,Builtin.firstCells,Nat.zero_mul]; rfl) (by rw[hcs]; exact hin)
    exact this
theorem Zrt {t ty:TypeId} {ts:Array TypeId} {sl x v:Value} (ht:ts[0]? = some t) (h:ZiJ P s t ts.toList.tail.head? sl x=some (v,s')) (hd:bnd r.d sl=true) (hx:bnd r.d x=true) (hg:Good r s w) (hfr:WL r s.n s'.n) (hO:s'.O) :
  s.O∧Yld P r s w (Builtin.append_ ts ty #[r.val sl,r.val x]) v s':=by
 unfold ZiJ at h
 split at h
 ·rename_i base len cap
  replace h:=oB h
  obtain⟨elem,he,h⟩:=h
  replace h:=oB h
  obtain⟨size,hsz,h⟩:=h
  replace h:=oB h
  obtain⟨by_,hby,h⟩:=h
  replace h:=oB h
  obtain⟨z,hz,h⟩:=h
  replace h:=oB h
  obtain⟨ok,hok,h⟩:=h
  replace h:=oB h
  obtain⟨n,hn,h⟩:=h
  replace h:=oB h
  obtain⟨⟨new,s1⟩,hnew,h⟩:=h
  generalize hcond:(ok&&Nat.beq z.cells.size size&&Nat.blt 0 size)=cond at h
  cases cond
  ·cases h
  simp only[cond_true] at h
  simp only[Bool.and_eq_true,Nat.blt_eq] at hcond
  obtain⟨⟨c1,c6⟩,c7⟩:=hcond
  subst c1
  have c6:=eB c6
  have hOa:=ZBl h hO
  have hq:=UD _ s1 hOa
  have hO1:=WZ _ s1 hOa
  simp only[Bool.and_eq_true,Nat.ble_eq,Nat.blt_eq,Qr] at hq
  obtain⟨⟨⟨c2,c3⟩,c4⟩,c5⟩:=hq
  have c2:=eB c2
  obtain⟨hzv,hzf,_⟩:=Zgf hz
  have hsl:=J4 he
  have hnz:ZiR P ts:=by
   unfold ZiR
   have htl:ts.toList.tail.head? = ts[1]?:=by
    rw[← Array.getElem?_toList]
    rcases ts with⟨l⟩
    rcases l with _|⟨a,_|⟨b,l⟩⟩<;>rfl
   rw[htl] at hok
   cases h1:ts[1]? with
   | none=>exact .inl rfl
   | some t1 =>
    rw[h1] at hok
    simp only[] at hok
    obtain⟨d,hd1,hd2⟩:=oM hok
    refine .inr ⟨t1,d,rfl,hd1,fun k e => ?_⟩
    subst e
    cases hd2
  have hsb:=Ky hnew
  obtain⟨f1,f2⟩:=ZbD (P:=P) hnew hg hx hO1
  have hsb2:Yx s _:=hsb.trans (.ask (Nat.beq (Yf new) (n*size)&&Zj8 new&&Nat.ble ((len+n)*by_) 1099511627776&&Nat.blt (len+n) 4611686018427387904) s1)
  have hy:=ZwA (ty:=ty) ht hnz hsl hsz hby hzv hn (fun w' hw'=>(ZbD (P:=P) hnew (hg.heap hw') hx hO1).1) f2 c2 c4 c5 c6 c7 h hd (hsb2.good hg) (by rw[hsb2.1]; exact hfr) hO
  obtain⟨r',w',y1,y2,y3⟩:=hy
  exact⟨hsb.2.2.2 hO1,r',w',y1,(hsb2.to hg).trans y2,y3⟩
 ·cases h
end
end Go.Proofs.YtagacmljbgkmoaaGreatDoor.Sy
namespace Go.Proofs.YtagacmljbgkmoaaGreatDoor.Sy
open Go.IntKind (u8 u16 u32 u64 i64)
open Go.RowKit
def ZpV (r:Ren) (e:Env) (a:Act) (x:Operand):Prop:=∀ v,opd e x=some v→a.eval x=r.val v∧bnd r.d v=true
section
variable {P:Program} {r:Ren} {s s':St} {w:World} {e:Env} {a:Act}
theorem Zs8 {x:Operand} (h:∀ t,x = .tmp t→isU (KL e t)=true∨(a.tmps.getD t undef=r.val (KL e t)∧bnd r.d (KL e t)=true)):ZpV r e a x:=by
 intro v hv
 cases x with
 | tmp t =>
  simp only[opd] at hv
  rcases h t rfl with hu|hu
  ·rw[hu] at hv; cases hv
  ·cases hi:isU (KL e t)<;>rw[hi] at hv
   ·simp only[cond_false,Option.some.injEq] at hv
    subst hv
    exact hu
   ·cases hv
 | const c =>
  simp only[opd] at hv
  cases hf:Uv c
  ·rw[hf] at hv; cases hv
  ·rw[hf] at hv
   simp only[cond_true,Option.some.injEq] at hv
   subst hv
   exact⟨(Kh r hf).symm,Zga _ hf⟩
 | func f =>
  simp only[opd,Option.some.injEq] at hv
  subst hv
  exact⟨by rw[W4]; simp[Act.eval],by rw[JW]; simp⟩
 | «global» g =>
  simp only[opd] at hv
  cases hf:Nat.blt g NG
  ·rw[hf] at hv; cases hv
  ·rw[hf] at hv
   simp only[cond_true,Option.some.injEq] at hv
   subst hv
   have hl:g<NG:=by simpa using hf
   refine⟨?_,?_⟩
   ·rw[Y4,Option.map_some,Wd _ _ rfl,r.hb g hl,r.hw g hl]; rfl
   ·rw[X9]; simp[Ut,r.hd g hl]
theorem Zlx:∀ {l:List Operand} {vs:List Value},ZBc e l=some vs→(∀ x∈l,ZpV r e a x)→l.map a.eval=vs.map r.val∧∀ v∈vs,bnd r.d v=true
 | [],vs,h,_=>by simp only[ZBc,Option.some.injEq] at h; subst h; exact⟨rfl,fun v hv=>by cases hv⟩
 | x::l,vs,h,hs=>by
  simp only[ZBc] at h
  obtain⟨v,hv,h⟩:=oB h
  obtain⟨vs',hvs,rfl⟩:=oM h
  obtain⟨h1,h2⟩:=Zlx hvs fun y hy=>hs y (List.mem_cons_of_mem _ hy)
  obtain⟨h3,h4⟩:=hs x (List.mem_cons_self ..) v hv
  refine⟨by rw[List.map_cons,List.map_cons,h1,h3],fun u hu => ?_⟩
  rcases List.mem_cons.1 hu with rfl|hu
  ·exact h4
  ·exact h2 u hu
theorem Zly:∀ {l:List (Nat×Operand)} {vs:List (Nat×Value)},Zrm e l=some vs→(∀ x∈l,ZpV r e a x.2) →
  l.map (fun x=>(x.1,a.eval x.2))=vs.map (fun x=>(x.1,r.val x.2))∧∀ v∈vs,bnd r.d v.2=true
 | [],vs,h,_=>by simp only[Zrm,Option.some.injEq] at h; subst h; exact⟨rfl,fun v hv=>by cases hv⟩
 | x::l,vs,h,hs=>by
  simp only[Zrm] at h
  obtain⟨v,hv,h⟩:=oB h
  obtain⟨vs',hvs,rfl⟩:=oM h
  obtain⟨h1,h2⟩:=Zly hvs fun y hy=>hs y (List.mem_cons_of_mem _ hy)
  obtain⟨h3,h4⟩:=hs x (List.mem_cons_self ..) v hv
  refine⟨by rw[List.map_cons,List.map_cons,h1,h3],fun u hu => ?_⟩
  rcases List.mem_cons.1 hu with rfl|hu
  ·exact h4
  ·exact h2 u hu
theorem ZoF {x:Option Operand} {v:Option Value} (h:ZE6 e x=some v) (hs:∀ y,x=some y→ZpV r e a y):x.map a.eval=v.map r.val:=by
 cases x with
 | none=>simp only[ZE6,Option.some.injEq] at h; subst h; rfl
 | some x =>
  simp only[ZE6] at h
  obtain⟨u,hu,rfl⟩:=oM h
  rw[Option.map_some,Option.map_some,(hs x rfl u hu).1]
def Zkw (P:Program) (r:Ren) (s:St) (w:World) (x:Sem Next) (v:Value) (s':St):Prop :=
 ∃ r' w',(x.run P w = .ok (.value (r'.val v)) w'∨(x.run P w = .ok .skip w'∧v=undef))∧To r s w r' s' w'∧bnd r'.d v=true
theorem Yld.comes {x:Sem Value} {v:Value} (h:Yld P r s w x v s'):Zkw P r s w (do pure (.value (← x))) v s':=by
 obtain⟨r',w',h1,h2,h3⟩:=h
 exact⟨r',w',.inl (by simp only[Sem.run_bind,h1,Result.andThen_ok,Sem.run_pure]),h2,h3⟩
theorem ZwB {o:Oper} {v:Value} (h:Zf4 P e s o=some (v,s')) (hs:∀ x∈o.op.operands,ZpV r e a x) (hsel:∀ cs b,o.op ≠ .select cs b) (w:World) :
  s'=s∧(execOp a.eval o).run P w = .ok (.value (r.val v)) w∧bnd r.d v=true:=by
 unfold Zf4 at h
 generalize hc:(o.op.operands.toList.all fun x=>match opd e x with|some v=>Uv v|none=>false)=c at h
 cases c
 ·cases h
 simp only[cond_true] at h
 obtain⟨x,hx,h⟩:=oB h
 split at h
 ·rename_i v'
  cases hf:Uv v'
  ·rw[hf] at h; cases h
  rw[hf] at h
  simp only[cond_true,Option.some.injEq,Prod.mk.injEq] at h
  obtain⟨rfl,rfl⟩:=h
  have hcong:execOp a.eval o=execOp (opT e) o:=execOp_congr o hsel fun x hx=>by
   have:=List.all_eq_true.1 hc x (by simpa using hx)
   cases hv:opd e x with
   | none=>rw[hv] at this; cases this
   | some u =>
    rw[hv] at this
    simp only[] at this
    unfold opT
    rw[hv,(hs x hx u hv).1,Kh r this]
    rfl
  refine⟨rfl,?_,Zga _ hf⟩
  rw[hcong,ZfA _ _ hx w,Kh r hf]
 ·cases h
theorem ZbE {o:Oper} {v:Value} (h:Zf4 P e s o=some (v,s')) (hs:∀ x∈o.op.operands,ZpV r e a x) (hsel:∀ cs b,o.op ≠ .select cs b) (hg:Good r s w) (hO:s'.O) :
  s.O∧Zkw P r s w (execOp a.eval o) v s':=by
 obtain⟨rfl,h1,h2⟩:=ZwB h hs hsel w
 exact⟨hO,r,w,.inl h1,To.refl hg,h2⟩
def ZcY (P:Program) (f:FuncId):Prop:=∀ args w,(callFunc f args).run P w = .ok (.enter f args) w
def ZeZ (P:Program) (f:FuncId) (args:List Value) (s:St) (v:Value) (s':St):Prop :=
 ∀ r w,WFn s→Good r s w→WL r s.n s'.n→(∀ u∈args,bnd r.d u=true)→Calls P f (args.map r.val).toArray w fun e w'=>∃ r',e = .returned (r'.val v)∧To r s w r' s' w'∧bnd r'.d v=true
def Zs (P:Program) (call:QM):Prop:=∀ f args s v s',call f args s=some (v,s')→WX s s'∧(s'.O→ZcY P f∧ZeZ P f args s v s')
theorem ZiS {α:Type} {c:Bool} {x:Option α} {y:α} (h:(bif c then x else none)=some y):c=true∧x=some y:=by
 cases c
 ·cases h
 ·exact⟨rfl,h⟩
theorem Zgj {eq:TypeId→Value→Value→Option Bool} {xs ys:List Value}:∀ {l:List (TypeId×Nat)} {b:Bool},Zfw eq xs ys P l=some b →
  ∃ bs:List Bool,bs.length=l.length∧(∀ (i:Nat) (x:TypeId×Nat) (c:Bool),l[i]? = some x→bs[i]? = some c→∃ a d,Zih P x.1 xs x.2=some a∧Zih P x.1 ys x.2=some d∧eq x.1 a d=some c)∧b=bs.all id
 | [],b,h=>by cases h; exact⟨[],rfl,fun i x c hx=>by simp at hx,rfl⟩
 | f::l,b,h=>by
  simp only[Zfw] at h
  obtain⟨a,h1,h⟩:=oB h
  obtain⟨d,h2,h⟩:=oB h
  obtain⟨c,h3,h⟩:=oB h
  obtain⟨e,h4,rfl⟩:=oM h
  obtain⟨bs,g1,g2,rfl⟩:=Zgj h4
  refine⟨c::bs,by simp[g1],fun i x c' hx hc => ?_,by simp⟩
  cases i with
  | zero=>simp at hx hc; subst hx; subst hc; exact⟨a,d,h1,h2,h3⟩
  | succ i=>exact g2 i x c' (by simpa using hx) (by simpa using hc)
def ZLV:Ren:=⟨fun g=>if g<NG then g else 0,fun _=>0,fun _=>(0,none),fun _=>0,fun _=>true,fun _ hg=>if_pos hg,fun _ _=>rfl,fun _ _=>rfl⟩
theorem ZeJ {t:TypeId} {cs:List Value} {off:Nat} {v:Value} (h:Zih P t cs off=some v) (hf:cs.all Qm=true) (w:World):(part t cs.toArray off).run P w = .ok v w∧Uv v=true:=by
 have hv:Uv v=true:=by
  unfold Zih at h
  obtain⟨g,hg,h⟩:=oB h
  cases g
  ·simp only[cond_false] at h
   have:=List.all_eq_true.1 hf v (List.mem_of_getElem? h)
   cases v<;>first|exact this|(simp[Qm] at this; done)
  ·simp only[cond_true] at h
   obtain⟨n',hn,rfl⟩:=oM h
   exact List.all_eq_true.2 fun u hu=>List.all_eq_true.1 hf u (List.mem_of_mem_drop (List.mem_of_mem_take hu))
 have h1:=(Zlq (r:=ZLV) (n:=fun _=>true) h (fun u hu=>ZG _ (List.all_eq_true.1 hf u hu)) w).1
 rw[Zdw _ hf,Kh _ hv] at h1
 exact⟨h1,hv⟩
theorem Zgk {xs:Array Value} (h:Uv (.agg xs)=true):xs.toList.all Qm=true:=h
theorem Zlz:∀ (d fuel:Nat) (t:TypeId) (x y:Value) (b:Bool) (w:World),d≤fuel→Zwt P d t x y=some b→Uv x=true→Uv y=true→(Op.equalIn fuel t x y).run P w = .ok b w
 | 0,_,_,_,_,_,_,_,h,_,_=>by simp[Zwt] at h
 | d+1,0,_,_,_,_,_,hd,_,_,_=>by omega
 | d+1,fuel+1,t,x,y,b,w,hd,h,hx,hy=>by
  simp only[Zwt] at h
  obtain⟨ty,ht,h⟩:=oB h
  split at h
  ·cases h; exact run_equalIn_bool' w fuel t _ _ ht
  ·rename_i k0 k a k' a' _
   obtain⟨hk,h2⟩:=ZiS h
   have:=of_decide_eq_true hk
   subst this
   cases h2
   exact run_equalIn_int w fuel t k k0 a a' ht
  ·rename_i a a' _
   cases h
   rw[run_equalIn_string w fuel t _ _ ht,Zcu,ZfD,ZfD]
  ·rename_i fs xs ys _
   cases hs:P.stoodInHeld t
   ·rw[hs] at h
    simp only[cond_false] at h
    have hfo:P.fieldsOf t=fs:=by unfold Program.fieldsOf; rw[ht]
    rw[run_equalIn_struct w fuel t xs ys (by rw[hfo]; exact ht) hs,hfo]
    have key:∀ (l:List Field) (b:Bool),Zfw (Zwt P d) xs.toList ys.toList P ((l.filter fun f => !(f.name == "_")).map fun f=>(f.type,f.offset))=some b→(Op.eqFields fuel xs ys l).run P w = .ok b w:=by
     intro l
     induction l with
     | nil=>intro b h; cases h; rfl
     | cons f l ih =>
      intro b h
      rw[List.filter_cons] at h
      unfold Op.eqFields
      cases hn:(f.name == "_")
      ·have hne:f.name ≠ "_":=by simpa using hn
       rw[if_pos hne]
       rw[hn] at h
       simp only[Bool.not_false,if_true,List.map_cons,Zfw] at h
       obtain⟨a,h1,h⟩:=oB h
       obtain⟨e,h2,h⟩:=oB h
       obtain⟨c,h3,h⟩:=oB h
       obtain⟨g,h4,rfl⟩:=oM h
       obtain⟨p1,f1⟩:=ZeJ h1 (Zgk hx) w
       obtain⟨p2,f2⟩:=ZeJ h2 (Zgk hy) w
       have e1:=Zlz d fuel _ _ _ _ w (by omega) h3 f1 f2
       have e2:=ih _ h4
       simp only[Array.toArray_toList] at p1 p2
       simp only[Sem.run_bind,p1,p2,Result.andThen_ok,e1]
       cases c
       ·simp
       ·simp[e2]
      ·have hne:¬ (f.name ≠ "_"):=by simpa using hn
       rw[if_neg hne]
       rw[hn] at h
       simp only[Bool.not_true,Bool.false_eq_true,if_false] at h
       exact ih _ h
    exact key _ _ h
   ·rw[hs] at h; cases h
  ·rename_i n e xs ys _
   obtain⟨z,hz,h⟩:=oB h
   obtain⟨bs,g1,g2,rfl⟩:=Zgj h
   simp only[Op.equalIn,Sem.run_bind,run_underlying ht,Result.andThen_ok,YN hz,Std.Legacy.Range.forIn_eq_forIn_range',Std.Legacy.Range.size,Nat.sub_zero,Nat.add_sub_cancel,Nat.div_one]
   have hl:∀ (l:List Nat) (bs:List Bool),bs.length=l.length→(∀ (i x:Nat) (c:Bool),l[i]? = some x→bs[i]? = some c→∃ a q,Zih P e xs.toList (x*z)=some a∧Zih P e ys.toList (x*z)=some q∧Zwt P d e a q=some c) →
     (forIn (m:=Sem) l ((none,()):Option Bool×Unit) fun i _=>do
       if(!(← do Op.equalIn fuel e (← part e xs (i*z)) (← part e ys (i*z))))=true then pure (ForInStep.done (some false,())) else pure (ForInStep.yield (none,()))).run P w = .ok (bif bs.all id then(none,()) else(some false,())) w:=by
    intro l
    induction l with
    | nil=>intro bs h1 _; cases bs with
     | nil=>rfl
     | cons=>simp at h1
    | cons i l ih =>
     intro bs h1 h2
     cases bs with
     | nil=>simp at h1
     | cons c bs =>
      obtain⟨a,q,e1,e2,e3⟩:=h2 0 i c rfl rfl
      obtain⟨p1,f1⟩:=ZeJ e1 (Zgk hx) w
      obtain⟨p2,f2⟩:=ZeJ e2 (Zgk hy) w
      have e4:=Zlz d fuel _ _ _ _ w (by omega) e3 f1 f2
      simp only[Array.toArray_toList] at p1 p2
      have ih:=ih bs (by simpa using h1) fun j x c hx hc=>h2 (j+1) x c (by simpa using hx) (by simpa using hc)
      simp only[List.forIn_cons,Sem.run_bind,p1,p2,Result.andThen_ok,e4]
      cases c
      ·simp
      ·simp only[Bool.not_true,Bool.false_eq_true,if_false,Sem.run_pure,Result.andThen_ok,List.all_cons,id,Bool.true_and]
       simpa only[Sem.run_bind] using ih
   have:=hl (List.range n) bs (by simpa using g1) (fun i x c hx hc=>by
    obtain⟨a,q,e1,e2,e3⟩:=g2 i (e,x*z) c (by rw[List.getElem?_map,hx]; rfl) hc
    exact⟨a,q,e1,e2,e3⟩)
   rw[List.range_eq_range'] at this
   rw[this]
   cases bs.all id<;>rfl
  ·cases h
theorem ZBm {o:Oper} {op:BinOp} {t ty:TypeId} {x y:Operand} {u1 u2 v:Value} (ho:o.op = .binOp op t x y ty) (hx:opd e x=some u1) (hy:opd e y=some u2) (h:ZLB P e s o op t u1 u2=some (v,s')) (hO:s'.O)
  (hs:∀ x∈o.op.operands,ZpV r e a x) (hg:Good r s w):s.O∧Zkw P r s w (execOp a.eval o) v s':=by
 have hsel:∀ cs b,o.op ≠ .select cs b:=fun cs b=>by rw[ho]; simp
 have ex:a.eval x=r.val u1:=(hs x (by rw[ho]; simp[Op.operands]) u1 hx).1
 have ey:a.eval y=r.val u2:=(hs y (by rw[ho]; simp[Op.operands]) u2 hy).1
 have hex:execOp a.eval o=(do pure (.value (← (do eqGuard op t x y (r.val u1) (r.val u2); binOp op t (r.val u1) (r.val u2))))):=by
  unfold execOp; rw[ho]; simp only[ex,ey]
 unfold ZLB at h
 split at h
 ·rename_i b1 b2
  obtain⟨hsb,h1,h2⟩:=ZBk h hO w (P:=P)
  refine⟨hsb.2.2.2 hO,r,w,.inl ?_,hsb.to hg,ZG _ h2⟩
  rw[hex,Xs,Xs,Qq r h2]
  have hg0:∀ w,(eqGuard op t x y (.string b1) (.string b2)).run P w = .ok () w:=fun w=>by
   unfold eqGuard; split<;>rfl
  have hb:binOp op t (.string b1) (.string b2)=Op.stringOp op b1 b2:=by cases op<;>rfl
  simp only[Sem.run_bind,hg0,Result.andThen_ok,hb,h1,Sem.run_pure]
 ·rename_i i n j m
  have g0:∀ (w:World),(eqGuard op t x y (.int i n) (.int j m)).run P w = .ok () w:=fun w=>by unfold eqGuard; cases op<;>rfl
  unfold ZLR at h
  split at h
  ·obtain⟨hk,h2⟩:=ZiS h
   have hk:=of_decide_eq_true hk
   subst hk
   cases h2
   have hz:=UD _ _ hO
   simp only[Bool.not_eq_true',decide_eq_false_iff_not] at hz
   refine⟨WZ _ _ hO,r,w,.inl ?_,To.ask hg _,Uw _ _ _⟩
   rw[hex,YI,YI,YI]
   simp[g0,Result.andThen_ok,binOp,Op.intDiv,hz]
  ·obtain⟨hk,h2⟩:=ZiS h
   have hk:=of_decide_eq_true hk
   subst hk
   cases h2
   have hz:=UD _ _ hO
   simp only[Bool.not_eq_true',decide_eq_false_iff_not] at hz
   refine⟨WZ _ _ hO,r,w,.inl ?_,To.ask hg _,Uw _ _ _⟩
   rw[hex,YI,YI,YI]
   simp[g0,Result.andThen_ok,binOp,Op.intDiv,hz]
  ·simp only[Option.some.injEq,Prod.mk.injEq] at h
   obtain⟨rfl,rfl⟩:=h
   have hz:=of_decide_eq_true (UD _ _ hO)
   refine⟨WZ _ _ hO,r,w,.inl ?_,To.ask hg _,Uw _ _ _⟩
   rw[hex,YI,YI,YI]
   have hz':¬ m<0:=by omega
   simp[g0,Result.andThen_ok,binOp,Op.shift,hz']
  ·simp only[Option.some.injEq,Prod.mk.injEq] at h
   obtain⟨rfl,rfl⟩:=h
   have hz:=of_decide_eq_true (UD _ _ hO)
   refine⟨WZ _ _ hO,r,w,.inl ?_,To.ask hg _,Uw _ _ _⟩
   rw[hex,YI,YI,YI]
   have hz':¬ m<0:=by omega
   simp[g0,Result.andThen_ok,binOp,Op.shift,hz']
  ·exact ZbE h hs hsel hg hO
 ·exact ZbE h hs hsel hg hO
 ·rename_i xs ys
  unfold ZLS at h
  cases hq:(P.eqGuardType P.depth t || !(xs.toList.all Qm) || !(ys.toList.all Qm))
  ·rw[hq] at h
   simp only[cond_false] at h
   simp only[Bool.or_eq_false_iff,Bool.not_eq_false'] at hq
   obtain⟨⟨q1,q2⟩,q3⟩:=hq
   have vx:r.val (.agg xs) = .agg xs:=Kh r q2
   have vy:r.val (.agg ys) = .agg ys:=Kh r q3
   rw[vx,vy] at hex
   split at h
   ·obtain⟨b,hb,h⟩:=oM h
    simp only[Prod.mk.injEq] at h
    obtain⟨rfl,rfl⟩:=h
    have he:=Zlz 8 10000 t _ _ b w (by omega) hb q2 q3
    refine⟨hO,r,w,.inl ?_,To.refl hg,ZeF _ _⟩
    rw[hex,K5]
    simp only[Sem.run_bind,run_eqGuard_agg w _ t x y xs ys q1,Result.andThen_ok,run_eql_struct w t xs ys,he,Sem.run_pure]
   ·obtain⟨b,hb,h⟩:=oM h
    simp only[Prod.mk.injEq] at h
    obtain⟨rfl,rfl⟩:=h
    have he:=Zlz 8 10000 t _ _ b w (by omega) hb q2 q3
    refine⟨hO,r,w,.inl ?_,To.refl hg,ZeF _ _⟩
    rw[hex,K5]
    simp only[Sem.run_bind,run_eqGuard_agg w _ t x y xs ys q1,Result.andThen_ok,run_neq_struct w t xs ys,he,Sem.run_pure]
   ·cases h
  ·rw[hq] at h; cases h
 ·rename_i hn1 hn2 hn3 hn4
  have key:∀ b,Zkq P t u1 u2=some b→(op = .eql∨op = .neq)→(∀ w,(eqGuard op t x y (r.val u1) (r.val u2)).run P w = .ok () w)∧binOp .eql t (r.val u1) (r.val u2)=(do pure (.bool (← Op.equal t (r.val u1) (r.val u2))))∧binOp .neq t (r.val u1) (r.val u2)=(do pure (.bool (!(← Op.equal t (r.val u1) (r.val u2))))):=by
   intro b hb _
   unfold Zkq at hb
   obtain⟨d,hd,hb⟩:=oB hb
   obtain⟨p,hp,hb⟩:=oB hb
   obtain⟨q,hq,_⟩:=oB hb
   cases u1<;>simp only[U9,reduceCtorEq] at hp<;>cases u2<;>simp only[U9,reduceCtorEq] at hq <;>
    (refine⟨fun w => ?_,?_,?_⟩<;>simp only[Y4,ZV,Zab,W4]<;>first|rfl|(unfold eqGuard; split<;>rfl))
  split at h
  ·obtain⟨b,hb,h⟩:=oM h
   simp only[Prod.mk.injEq] at h
   obtain⟨rfl,rfl⟩:=h
   obtain⟨k1,k2,_⟩:=key b hb (.inl rfl)
   refine⟨hO,r,w,.inl ?_,To.refl hg,ZeF _ _⟩
   rw[hex,k2,K5]
   simp only[Sem.run_bind,k1,Result.andThen_ok,ZmX hb,Sem.run_pure]
  ·obtain⟨b,hb,h⟩:=oM h
   simp only[Prod.mk.injEq] at h
   obtain⟨rfl,rfl⟩:=h
   obtain⟨k1,_,k3⟩:=key b hb (.inr rfl)
   refine⟨hO,r,w,.inl ?_,To.refl hg,ZeF _ _⟩
   rw[hex,k3,K5]
   simp only[Sem.run_bind,k1,Result.andThen_ok,ZmX hb,Sem.run_pure]
  ·cases h
theorem ZoG {o:Oper} {src dst:TypeId} {x:Operand} {u v:Value} (ho:o.op = .convert src dst x) (hx:opd e x=some u) (h:Zit P e s o src dst u=some (v,s')) (hO:s'.O)
  (hs:∀ x∈o.op.operands,ZpV r e a x) (hg:Good r s w) (hfr:WL r s.n s'.n):s.O∧Zkw P r s w (execOp a.eval o) v s':=by
 have hsel:∀ cs b,o.op ≠ .select cs b:=fun cs b=>by rw[ho]; simp
 have ex:a.eval x=r.val u:=(hs x (by rw[ho]; simp[Op.operands]) u hx).1
 have hex:execOp a.eval o=(do pure (.value (← convert src dst (r.val u)))):=by
  unfold execOp; rw[ho]; simp only[ex]
 unfold Zit at h
 split at h
 ·rename_i b
  obtain⟨d0,hd0,h⟩:=oB h
  obtain⟨d,hd,h⟩:=oB h
  split at h
  ·rename_i el _
   obtain⟨k,hk,h⟩:=oB h
   split at h
   ·obtain⟨h1,h2⟩:=ZoE h hd0 hd hk hg hfr
    exact⟨h1▸hO,by rw[hex,Xs]; exact h2.comes⟩
   ·cases h
  ·simp only[Option.some.injEq,Prod.mk.injEq] at h
   obtain⟨rfl,rfl⟩:=h
   refine⟨hO,r,w,.inl ?_,To.refl hg,ZbB _ _⟩
   rw[hex,Xs]
   unfold convert
   simp only[Sem.run_bind,run_underlying hd0,run_underlying hd,Result.andThen_ok]
   rfl
  ·cases h
 ·rename_i a1 l1 c1
  obtain⟨d,hd,h⟩:=oB h
  obtain⟨d',hd',h⟩:=oB h
  split at h
  ·rename_i el _
   obtain⟨k,hk,h⟩:=oB h
   split at h
   ·obtain⟨hO',hy⟩:=ZmV h hd hk hd' hg hO
    exact⟨hO',by rw[hex]; exact hy.comes⟩
   ·cases h
  ·cases h
 ·exact ZbE h hs hsel hg hO
 ·cases h
theorem ZwC {o:Oper} {c:Call} {call:QM} {v:Value} (ho:o.op = .call c) (h:ZsR P call e s o c=some (v,s')) (hO:s'.O) (hs:∀ x∈o.op.operands,ZpV r e a x) (hg:Good r s w) (hfr:WL r s.n s'.n) (hcall:Zs P call) :
  s.O∧(Zkw P r s w (execOp a.eval o) v s'∨∃ f args,(execOp a.eval o).run P w = .ok (.enter f (args.map r.val).toArray) w∧ZeZ P f args s v s'∧∀ u∈args,bnd r.d u=true):=by
 have hsel:∀ cs b,o.op ≠ .select cs b:=fun cs b=>by rw[ho]; simp
 have hop:∀ x∈c.args.toList,ZpV r e a x:=fun x hx=>hs x (by rw[ho]; simp only[Op.operands,Call.operands]; exact Array.mem_append_right _ (by simpa using hx))
 have hpure:Zf4 P e s o=some (v,s')→_:=fun h=>ZbE h hs hsel hg hO
 unfold ZsR at h
 split at h
 ·rename_i hc
  split at h
  ·rename_i x y t ts hargs hts
   obtain⟨u1,h1,h⟩:=oB h
   obtain⟨u2,h2,h⟩:=oB h
   obtain⟨e1,b1⟩:=hop x (by rw[hargs]; simp) u1 h1
   obtain⟨e2,b2⟩:=hop y (by rw[hargs]; simp) u2 h2
   have ht0:c.argTypes[0]? = some t:=by rw[← Array.getElem?_toList,hts]; rfl
   have htl:ts.head? = c.argTypes.toList.tail.head?:=by rw[hts]; rfl
   rw[htl] at h
   obtain⟨h3,h4⟩:=Zrt (ty:=o.type) ht0 h b1 b2 hg hfr hO
   have ha:c.args = #[x,y]:=by rw[← Array.toArray_toList (xs:=c.args),hargs]
   refine⟨h3,.inl ?_⟩
   have:execOp a.eval o=(do pure (.value (← Builtin.append_ c.argTypes o.type #[r.val u1,r.val u2]))):=by
    unfold execOp resolve; rw[ho]; simp only[hc,ha]
    simp only[List.map_toArray,List.map_cons,List.map_nil,e1,e2]
    rfl
   rw[this]
   exact h4.comes
  ·cases h
 ·rename_i hc
  split at h
  ·rename_i x y t ts hargs hts
   obtain⟨u1,h1,h⟩:=oB h
   obtain⟨u2,h2,h⟩:=oB h
   obtain⟨e1,b1⟩:=hop x (by rw[hargs]; simp) u1 h1
   obtain⟨e2,b2⟩:=hop y (by rw[hargs]; simp) u2 h2
   have ht0:c.argTypes[0]? = some t:=by rw[← Array.getElem?_toList,hts]; rfl
   obtain⟨h3,h4⟩:=Zwz (ty:=o.type) ht0 h b1 b2 hg hO
   have ha:c.args = #[x,y]:=by rw[← Array.toArray_toList (xs:=c.args),hargs]
   refine⟨h3,.inl ?_⟩
   have:execOp a.eval o=(do pure (.value (← Builtin.copy_ c.argTypes o.type #[r.val u1,r.val u2]))):=by
    unfold execOp resolve; rw[ho]; simp only[hc,ha]
    simp only[List.map_toArray,List.map_cons,List.map_nil,e1,e2]
    rfl
   rw[this]
   exact h4.comes
  ·cases h
 ·rename_i hc
  split at h
  ·rename_i x t ts hargs hts
   obtain⟨u1,h1,h⟩:=oB h
   obtain⟨e1,b1⟩:=hop x (by rw[hargs]; simp) u1 h1
   have ht0:c.argTypes[0]? = some t:=by rw[← Array.getElem?_toList,hts]; rfl
   have ha:c.args = #[x]:=by rw[← Array.toArray_toList (xs:=c.args),hargs]
   have hex:execOp a.eval o=(do pure (.value (← Builtin.len_ c.argTypes o.type #[r.val u1]))):=by
    unfold execOp resolve; rw[ho]; simp only[hc,ha]
    simp only[List.map_toArray,List.map_cons,List.map_nil,e1]
    rfl
   unfold ZsQ at h
   simp only[Qr] at h
   split at h
   ·rename_i b n k
    obtain⟨el,hel,h⟩:=oM h
    simp only[Prod.mk.injEq] at h
    obtain⟨rfl,rfl⟩:=h
    refine⟨hO,.inl ⟨r,w,.inl ?_,To.refl hg,Uw _ _ _⟩⟩
    rw[hex,ZV,YI]
    simp only[Builtin.len_,ht0,List.getElem?_toArray,List.getElem?_cons_zero,Sem.run_bind,run_underlying (J4 hel),Result.andThen_ok,Sem.run_pure]
    rfl
   ·rename_i b
    obtain⟨d,hd,h⟩:=oB h
    split at h
    ·simp only[Option.some.injEq,Prod.mk.injEq] at h
     obtain⟨rfl,rfl⟩:=h
     refine⟨hO,.inl ⟨r,w,.inl ?_,To.refl hg,Uw _ _ _⟩⟩
     rw[hex,Xs,YI]
     simp only[Builtin.len_,ht0,List.getElem?_toArray,List.getElem?_cons_zero,Sem.run_bind,run_underlying hd,Result.andThen_ok,Sem.run_pure,Array.length_toList]
     rfl
    ·cases h
   ·exact⟨(hpure h).1,.inl (hpure h).2⟩
  ·cases h
 ·exact⟨(hpure h).1,.inl (hpure h).2⟩
 ·exact⟨(hpure h).1,.inl (hpure h).2⟩
 ·rename_i f hc
  obtain⟨u,hu,h⟩:=oB h
  split at h
  ·rename_i g first captured
   obtain⟨args,hargs,h⟩:=oB h
   obtain⟨e1,b1⟩:=hs f (by rw[ho]; simp[Op.operands,Call.operands,hc]) _ hu
   obtain⟨m1,m2⟩:=Zlx hargs hop
   obtain⟨k0,k1⟩:=hcall _ _ _ _ _ h
   obtain⟨k2,k3⟩:=k1 hO
   refine⟨k0.2.1 hO,.inr ⟨g,_,?_,k3,?_⟩⟩
   ·have hm:c.args.map a.eval=(args.map r.val).toArray:=by
     rw[← m1]; apply Array.ext'; simp
    have hr:resolve a.eval c o.type=pure { target:=.fn (.func g) (captured.map r.val),args:=first.map r.val++(args.map r.val).toArray }:=by
     unfold resolve; rw[hc]; simp only[e1,W4,hm]; rfl
    have:execOp a.eval o=(do let d ← resolve a.eval c o.type; invoke d.target d.args):=by
     unfold execOp; rw[ho]
    rw[this,hr]
    simp only[pure_bind,invoke]
    rw[k2]
    congr 2
    apply Array.ext'
    simp
   ·rw[JW,Bool.and_eq_true,Bool.and_eq_true] at b1
    intro u hu
    rcases List.mem_append.1 hu with hu|hu
    ·rcases List.mem_append.1 hu with hu|hu
     ·exact Array.all_eq_true_iff_forall_mem.1 b1.1.2 u (by simpa using hu)
     ·exact m2 u hu
    ·exact Array.all_eq_true_iff_forall_mem.1 b1.2 u (by simpa using hu)
  ·cases h
 ·cases h
end
end Go.Proofs.YtagacmljbgkmoaaGreatDoor.Sy
