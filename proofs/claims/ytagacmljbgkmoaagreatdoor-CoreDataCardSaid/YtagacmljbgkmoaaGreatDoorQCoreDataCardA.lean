/-
  CoreDataCard: part 1 of the proof.
-/
import Derived.Below
import Derived.IntWalk
import Derived.KernelRfl
import Derived.Laws.Append
import Derived.Laws.AppendOwn
import Derived.Laws.BytesString
import Derived.Laws.Cells
import Derived.Laws.Concat
import Derived.Laws.Entries
import Derived.Laws.IdiomStrings
import Derived.Laws.Sem
import Derived.Laws.Strings
import Derived.Laws.Strings2
import Derived.Laws.StructEq
import Derived.LoopN
import Derived.Orders
set_option linter.unusedSimpArgs false
set_option linter.unusedVariables false
set_option linter.unusedSectionVars false
namespace Go.Proofs.YtagacmljbgkmoaaGreatDoor
@[simp] abbrev rr {α : Sort _} (a : α) : Prop := a = a
@[simp] abbrev tt : Prop := true = true
theorem oB {α β : Type _} {o : Option α} {f : α → Option β} {b : β} (h : o.bind f = some b) : ∃ a, o = some a ∧ f a = some b := Option.bind_eq_some_iff.1 h
theorem oM {α β : Type _} {o : Option α} {f : α → β} {b : β} (h : o.map f = some b) : ∃ a, o = some a ∧ f a = b := Option.map_eq_some_iff.1 h
theorem eB {a b : Nat} (h : Nat.beq a b = true) : a = b := Nat.eq_of_beq_eq_true h
def tb (n m : Nat) : List (Nat × Bool) := (List.range n).map fun i => (i, Nat.testBit m i)
end Go.Proofs.YtagacmljbgkmoaaGreatDoor
namespace Go.Proofs.YtagacmljbgkmoaaGreatDoor.Sy
open Go.IntKind (u8 u16 u32 u64 i64)
open Go.RowKit
def NG:Nat:=64
structure Ren where
 b:Nat→Nat
 w:Nat→Nat
 o:Nat→Nat×Option Nat
 c:Nat→Nat
 d:Nat→Bool
 hb:∀ g,g<NG→b g=g
 hw:∀ g,g<NG→w g=0
 hd:∀ g,g<NG→d g=true
def big:Nat:=9223372036854775808
def Ren.addr (r:Ren) (a:Addr):Addr :=
 ⟨r.b a.block,(match a.spot with|none=>r.w a.block+a.off|some k=>(r.o k).1),(match a.spot with|none=>none|some k=>(r.o k).2)⟩
def Ren.cap (r:Ren) (c:Nat):Nat:=bif Nat.blt c big then c else r.c (c-big)
def Ren.val (r:Ren):Value→Value
 | .pointer a => .pointer (a.map r.addr)
 | .slice a l c => .slice (a.map r.addr) l (r.cap c)
 | .func fn fs cs => .func fn (fs.map fun v=>Ren.val r v) (cs.map fun v=>Ren.val r v)
 | .iface t v => .iface t (Ren.val r v)
 | .agg cs => .agg (cs.map fun v=>Ren.val r v)
 | .tuple vs => .tuple (vs.map fun v=>Ren.val r v)
 | v=>v
termination_by v=>SizeOf.sizeOf v
def Xv (n:Nat→Bool) (a:Addr):Bool:=n a.block&&(match a.spot with|none=>true|some k=>n k)
def bnd (n:Nat→Bool):Value→Bool
 | .pointer (some a)=>Xv n a
 | .slice a _ c=>(match a with|some a=>Xv n a|none=>true)&&(Nat.blt c big||n (c-big))
 | .func fn fs cs=>(match fn with | .yield _=>false|_=>true)&&(fs.attach.all fun v=>bnd n v.1)&&(cs.attach.all fun v=>bnd n v.1)
 | .iface _ v=>bnd n v
 | .agg cs=>cs.attach.all fun v=>bnd n v.1
 | .tuple vs=>vs.attach.all fun v=>bnd n v.1
 | .map (some _)=>false
 | .chan (some _)=>false
 | _=>true
termination_by v=>SizeOf.sizeOf v
decreasing_by
 all_goals simp_wf
 all_goals (first|(have:=Array.sizeOf_lt_of_mem v.2; omega)|omega)
def ZjQ {α:Type}:List α→Nat→Nat
 | [],n=>n
 | _::l,n=>bif Nat.beq n n then ZjQ l (n+1) else 0
def ZA {α:Type} (l:List α):Nat:=ZjQ l 0
def ZP:Value→Bool
 | .bool _=>true
 | .int _ _=>true
 | .float _ _=>true
 | .complex _ _ _=>true
 | .string _=>true
 | .nilFunc=>true
 | .nilIface=>true
 | .pointer none=>true
 | .map none=>true
 | .chan none=>true
 | .slice none _ c=>Nat.blt c big
 | _=>false
def Xn:Value→Bool
 | .agg cs=>cs.toList.all ZP
 | v=>ZP v
def Ym:Value→Bool
 | .tuple vs=>vs.toList.all Xn
 | v=>Xn v
def Yn (P:Program) {α:Type}:Sem α→Option α
 | .pure a=>some a
 | .program k=>Yn P (k P)
 | .mark _ k=>Yn P k
 | _=>none
def Zc {α:Type} (d:α):List α→Nat→α
 | [],_=>d
 | x::_,0=>x
 | _::l,n+1=>Zc d l n
def Kj {α:Type} (d:α):List α→Nat→α→List α
 | [],0,v=>[v]
 | [],n+1,v=>d::Kj d [] n v
 | _::l,0,v=>v::l
 | x::l,n+1,v=>x::Kj d l n v
abbrev Env:=List (List Value)
def YU (e:Env) (t:Nat):Value:=Zc undef (Zc [] e (t/16)) (t%16)
def ZjR (e:Env) (t:Nat) (v:Value):Env:=Kj [] e (t/16) (Kj undef (Zc [] e (t/16)) (t%16) v)
structure Blk where
 rw:Bool
 op:Option (Nat×Nat)
 cells:List Value
 it:Option (ByteArray×Nat)
def Zbt:Option (ByteArray×Nat)→Bool
 | none=>true
 | some _=>false
abbrev Heap:=List (Nat×Blk)
def look:Heap→Nat→Option Blk
 | [],_=>none
 | x::h,g=>bif Nat.beq x.1 g then some x.2 else look h g
def upd:Heap→Nat→List Value→Heap
 | [],_,_=>[]
 | x::h,g,cs=>bif Nat.beq x.1 g then(x.1,{ x.2 with cells:=cs })::h else x::upd h g cs
def Zhi:Heap→Nat→ByteArray×Nat→Heap
 | [],_,_=>[]
 | x::h,g,i=>bif Nat.beq x.1 g then(x.1,{ x.2 with it:=some i })::Zhi h g i else x::Zhi h g i
structure St where
 n:Nat
 h:Heap
 lo:List (Nat×Nat)
 esc:Nat
 T:List (Nat×Bool)
 k:Nat
 O:Prop
def test (t:Bool) (s:St):Bool×St :=
 match s.T with
 | []=>(t,s)
 | c::T=>bif Nat.beq c.1 s.k then(c.2,{ s with T:=T,k:=s.k+1,O:=s.O∧t=c.2 }) else(t,{ s with k:=s.k+1 })
def ask (t:Bool) (s:St):Bool×St:=(true,{ s with O:=bif t then s.O else False })
def ZI:Nat→List Value→Bool
 | 0,_=>true
 | _+1,[]=>false
 | n+1,_::l=>ZI n l
def ZC:Nat→List Value→List Value→List Value
 | _,_,[]=>[]
 | 0,[],x::l=>x::l
 | 0,v::vs,_::l=>v::ZC 0 vs l
 | n+1,vs,x::l=>x::ZC n vs l
def ZjS:List (Nat×Nat)→Nat→Nat
 | [],_=>0
 | x::l,k=>bif Nat.beq x.1 k then x.2 else ZjS l k
def Zbu (s:St) (c:Nat):Nat:=bif Nat.blt c big then c else ZjS s.lo (c-big)
def Xh (s:St) (op:Option (Nat×Nat)) (cells:List Value):St :=
 {s with n:=s.n+1,h:=(s.n,⟨true,op,cells,none⟩)::s.h }
def KD (l:List Value):Bool:=l.all fun v=>v.oneCell'
def ptr (g o:Nat):Value:=.pointer (some ⟨g,o,none⟩)
abbrev Res:=Option (Value×St)
def X8 (s:St) (a:Addr) (n:Nat):Option (List Value×St) :=
 match a.spot with
 | some _=>none
 | none=>(look s.h a.block).bind fun k=>bif Zbt k.it then some ((k.cells.drop a.off).take n,(ask (ZI (a.off+n) k.cells) s).2) else none
def Wu (sc:Bool) (s:St) (a:Addr) (vs:List Value):Option St :=
 match a.spot with
 | some _=>none
 | none=>(look s.h a.block).bind fun k =>
  bif k.rw&&Zbt k.it then
   some { (ask (ZI (a.off+ZA vs) k.cells&&KD vs&&(!sc||vs.all ZP)) s).2 with h:=upd s.h a.block (ZC a.off vs k.cells),esc:=bif sc then s.esc else bif vs.all ZP then s.esc else Nat.min s.esc a.block }
  else none
def Zhj:Value→Bool
 | .int _ _=>true
 | .bool _=>true
 | .string _=>true
 | .float _ _=>true
 | _=>false
def aggD:TypeDesc→Bool
 | .struct _=>true
 | .array _ _=>true
 | _=>false
def Zcb (P:Program) (t:TypeId):Option Bool:=(P.underlying t).map aggD
def XP (P:Program) (t:TypeId):Option Nat:=(P.info? t).map fun i=>i.size
def Zcc (P:Program) (t:TypeId):Option Nat:=(P.info? t).map fun i=>i.bytes
def JV (P:Program) (t:TypeId):Option Value :=
 (P.info? t).bind fun i=>i.zero.bind fun z=>bif z.cells.toList.all ZP&&Xn z then some z else none
def Zb:Value→Int
 | .int _ n=>n
 | _=>0
def Zv:Value→Bool
 | .bool b=>b
 | _=>false
def Zav:Value→ByteArray
 | .string b=>b
 | _=>⟨#[]⟩
def like:Value→Value→Value
 | .int k _,v => .int k (Zb v)
 | .bool _,v => .bool (Zv v)
 | .string _,v => .string (Zav v)
 | _,v=>v
def Zaw:Value→Value→Bool
 | .int k _,.int j _=>decide (k=j)
 | .int _ _,_=>false
 | .bool _,.bool _=>true
 | .bool _,_=>false
 | .string _,.string _=>true
 | .string _,_=>false
 | _,_=>true
def Qz:List Value→List Value→Nat→List Value
 | [],_,_=>[]
 | z::zs,cs,o=>like z (Zc undef cs o)::Qz zs cs (o+1)
def Zi:List Value→List Value→Nat→Bool
 | [],_,_=>true
 | z::zs,cs,o=>Zaw z (Zc undef cs o)&&Zi zs cs (o+1)
def Va (P:Program) (s:St) (t:TypeId) (a:Addr):Res :=
 (Zcb P t).bind fun g=>(JV P t).bind fun z =>
  match a.spot with
  | some _=>none
  | none=>(look s.h a.block).bind fun k =>
   bif Zbt k.it then
    bif g then(XP P t).bind fun n=>bif Nat.beq n (ZA z.cells.toList) then some (.agg ⟨Qz z.cells.toList k.cells a.off⟩,(ask (ZI (a.off+ZA z.cells.toList) k.cells&&Zi z.cells.toList k.cells a.off) s).2) else none
    else match Qz z.cells.toList k.cells a.off with
     | [v]=>some (v,(ask (ZI (a.off+ZA z.cells.toList) k.cells&&Zi z.cells.toList k.cells a.off) s).2)
     | _=>none
   else none
def WT (P:Program) (s:St) (t:TypeId) (a:Addr) (v:Value):Option St :=
 (XP P t).bind fun n=>bif Nat.beq v.cells.size n then Wu false s a v.cells.toList else none
def KO (P:Program) (t:TypeId) (cs:List Value) (off:Nat):Option Value :=
 (Zcb P t).bind fun g =>
  bif g then(XP P t).map fun n => .agg ⟨(cs.drop off).take n⟩
  else cs[off]?
def unk:Value:=.tuple #[.tuple #[]]
def isE:Value→Bool
 | .tuple vs=>match vs.toList with|[]=>true|_=>false
 | _=>false
def isU:Value→Bool
 | .tuple vs=>match vs.toList with|[x]=>isE x|_=>false
 | _=>false
def opd (e:Env):Operand→Option Value
 | .tmp t=>bif isU (YU e t) then none else some (YU e t)
 | .const v=>bif Xn v then some v else none
 | .func f=>some (.func (.func f) #[] #[])
 | .global g=>bif Nat.blt g NG then some (.pointer (some ⟨g,0,none⟩)) else none
def ZhU (e:Env):List Operand→Option (List Value)
 | []=>some []
 | x::l=>(opd e x).bind fun v=>(ZhU e l).map fun vs=>v::vs
def Zc6 (e:Env):List (Nat×Operand)→Option (List (Nat×Value))
 | []=>some []
 | x::l=>(opd e x.2).bind fun v=>(Zc6 e l).map fun vs=>(x.1,v)::vs
def ZjC (e:Env):Option Operand→Option (Option Value)
 | none=>some none
 | some x=>(opd e x).map some
def opT (e:Env) (x:Operand):Value:=(opd e x).getD undef
def VQ (P:Program) (e:Env) (s:St) (o:Oper):Res :=
 bif o.op.operands.toList.all fun x=>match opd e x with|some v=>Xn v|none=>false then
  (Yn P (execOp (opT e) o)).bind fun x=>match x with
   | .value v=>bif Xn v then some (v,s) else none
   | _=>none
 else none
def Zbv (place:Nat→Option (Nat×Nat)):List Value→List (Nat×Value)→Option (List Value)
 | cells,[]=>some cells
 | cells,x::rest=>(place x.1).bind fun p =>
  bif Nat.beq x.2.cells.size p.2&&ZI (p.1+p.2) cells&&KD x.2.cells.toList then Zbv place (ZC p.1 x.2.cells.toList cells) rest else none
def Jc (P:Program):List Field→Option (List (Nat×Nat))
 | []=>some []
 | f::l=>(XP P f.type).bind fun n=>(Jc P l).map fun r=>(f.offset,n)::r
def ZdN (P:Program) (t:TypeId) (parts:List (Nat×Value)):Option Value :=
 (JV P t).bind fun z=>(P.underlying t).bind fun d=>match d with
  | .struct fields=>(Jc P fields.toList).bind fun pl=>(Zbv (fun i=>pl[i]?) z.cells.toList parts).map fun l => .agg ⟨l⟩
  | .array _ elem=>(XP P elem).bind fun n=>(Zbv (fun i=>some (i*n,n)) z.cells.toList parts).map fun l => .agg ⟨l⟩
  | _=>none
def KP:Nat→List Value→List Value
 | 0,_=>[]
 | n+1,z=>z++KP n z
def Xz (P:Program) (t:TypeId):Option TypeId :=
 (P.underlying t).bind fun d=>match d with | .slice e=>some e|_=>none
def Wv (P:Program) (s:St) (t:TypeId) (len:Nat) (parts:List (Nat×Value)):Res :=
 (Xz P t).bind fun elem=>(XP P elem).bind fun n=>(JV P elem).bind fun z =>
  bif Nat.ble (len*n) 16777216&&Nat.beq z.cells.size n&&Nat.blt 0 n&&Nat.blt len big then
   (Zbv (fun i=>some (i*n,n)) (KP len z.cells.toList) parts).map fun l =>
    (.slice (some ⟨s.n,0,none⟩) len len,Xh s none l)
  else none
def Zhk (a:Addr) (n:Nat):Addr:=⟨a.block,a.off+n,none⟩
def Kk (P:Program) (t:TypeId) (x:Value) (f:Nat):Option Value :=
 match x with
 | .pointer (some a)=>match a.spot with
  | some _=>none
  | none=>(P.underlying t).bind fun d=>match d with
   | .struct fields=>(fields.toList[f]?).bind fun fd=>(XP P fd.type).bind fun n =>
    bif Nat.beq n 0 then none else some (.pointer (some (Zhk a fd.offset)))
   | _=>none
 | _=>none
def KQ (i:Int) (n:Nat):Bool:=decide (0≤i)&&decide (i<n)
def Zc7 (i:Int) (n:Nat):Bool:=decide (0≤i)&&decide (i≤n)
def Vb (P:Program) (s:St) (t:TypeId) (x ix:Value):Res :=
 match ix with
 | .int _ i=>(P.underlying t).bind fun d=>match d,x with
  | .array len elem,.pointer (some a)=>match a.spot with
   | some _=>none
   | none=>(XP P elem).bind fun n=>bif (ask (KQ i len) s).1 then some (.pointer (some (Zhk a (i.toNat*n))),(ask (KQ i len) s).2) else none
  | .slice elem,.slice (some a) len _=>match a.spot with
   | some _=>none
   | none=>(XP P elem).bind fun n=>bif (ask (KQ i len) s).1 then some (.pointer (some (Zhk a (i.toNat*n))),(ask (KQ i len) s).2) else none
  | _,_=>none
 | _=>none
def Zcd (P:Program) (s:St) (t:TypeId) (x ix:Value):Res :=
 match ix with
 | .int _ i=>(P.underlying t).bind fun d=>match d,x with
  | .array len elem,.agg cs=>(XP P elem).bind fun n =>
   bif (ask (KQ i len) s).1 then(KO P elem cs.toList (i.toNat*n)).map fun v=>(v,(ask (KQ i len) s).2) else none
  | .string,.string b =>
   some (.int .u8 ((b.data.toList.getD i.toNat 0).toNat:Nat),(ask (KQ i (ZA b.data.toList)) s).2)
  | _,_=>none
 | _=>none
def ZdO (P:Program) (t:TypeId) (x:Value) (f:Nat):Option Value :=
 match x with
 | .agg cs=>(P.underlying t).bind fun d=>match d with
  | .struct fields=>(fields.toList[f]?).bind fun fd=>KO P fd.type cs.toList fd.offset
  | _=>none
 | _=>none
def Uv (x:Value) (i:Nat):Option Value :=
 match x with
 | .tuple vs=>vs.toList[i]?
 | _=>none
def Zax (x:Value):Option Value :=
 match x with
 | .pointer (some a)=>some (.pointer (some a))
 | .func (.func f) a b=>some (.func (.func f) a b)
 | _=>none
def WU (s:St) (d:Nat) (top:Nat):Option Value→Option (Nat×St)
 | none=>some (d,s)
 | some (.int _ i)=>bif (ask (Zc7 i top) s).1 then some (i.toNat,(ask (Zc7 i top) s).2) else none
 | some _=>none
def ZfZ (s:St) (m:Nat):St:={ s with n:=s.n+1,lo:=(s.n,m)::s.lo }
def Zhl (s:St) (a:Addr) (from_:Bool) (l h top size:Nat):Res :=
 bif from_ then
  match a.spot with
  | some _=>some (.slice (some ⟨a.block,0,some s.n⟩) (h-l) (big+s.n),ZfZ s (top-l))
  | none=>bif (test (Nat.blt l top) s).1 then some (.slice (some (Zhk a (l*size))) (h-l) (big+s.n),ZfZ (test (Nat.blt l top) s).2 (top-l))
   else some (.slice (some ⟨a.block,0,some s.n⟩) (h-l) (big+s.n),ZfZ (test (Nat.blt l top) s).2 (top-l))
 else some (.slice (some a) h (big+s.n),ZfZ s top)
def Kl (s:St) (a:Option Addr) (len cap size:Nat) (lo hi mx:Option Value):Res :=
 match mx with
 | some m=>(WU s 0 (Zbu s cap) (some m)).bind fun m=>(match hi with|none=>none|some h=>WU m.2 0 m.1 (some h)).bind fun h=>(WU h.2 0 h.1 lo).bind fun l =>
  match a with
  | none=>bif Nat.blt m.1 big then some (.slice none (h.1-l.1) (m.1-l.1),l.2) else none
  | some a=>Zhl l.2 a lo.isSome l.1 h.1 m.1 size
 | none=>(WU s len (Zbu s cap) hi).bind fun h=>(WU h.2 0 h.1 lo).bind fun l =>
  match a with
  | none=>bif Nat.blt cap big then some (.slice none (h.1-l.1) (cap-l.1),l.2) else none
  | some a=>match lo with
   | none=>some (.slice (some a) h.1 cap,l.2)
   | some _=>Zhl l.2 a true l.1 h.1 (Zbu s cap) size
def Km (s:St) (a:Addr) (n size:Nat) (lo hi mx:Option Value):Res :=
 match a.spot with
 | some _=>none
 | none=>bif Nat.blt n big then Kl s (some a) n n size lo hi mx else none
def Jd (s:St) (b:ByteArray) (lo hi:Option Value):Res :=
 (WU s (ZA b.data.toList) (ZA b.data.toList) hi).bind fun h=>(WU h.2 0 h.1 lo).bind fun l =>
  some (.string ⟨⟨(b.data.toList.drop l.1).take (h.1-l.1)⟩⟩,l.2)
def Zay (P:Program) (s:St) (t:TypeId) (x:Value) (lo hi mx:Option Value):Res :=
 (P.underlying t).bind fun d=>match d,x with
  | .array n elem,.pointer (some a)=>(XP P elem).bind fun size=>Km s a n size lo hi mx
  | .string,.string b=>match mx with|none=>Jd s b lo hi|some _=>none
  | .slice elem,.slice a len cap=>(XP P elem).bind fun size=>Kl s a len cap size lo hi mx
  | .pointer arr,.pointer (some a)=>(P.underlying arr).bind fun d=>match d with
   | .array n elem=>(XP P elem).bind fun size=>Km s a n size lo hi mx
   | _=>none
  | _,_=>none
def Vc (P:Program) (s:St) (t:TypeId) (l c:Value):Res :=
 match l,c with
 | .int _ l,.int _ c=>(Xz P t).bind fun elem=>(XP P elem).bind fun n=>(Zcc P elem).bind fun by_=>(JV P elem).bind fun z =>
  bif (ask (decide (0≤l)&&decide (l≤c)&&decide (by_*c≤140737488355328)&&decide (c<9223372036854775808)) s).1&&Nat.beq z.cells.size n&&Nat.blt 0 n then
   some (.slice (some ⟨s.n,0,none⟩) l.toNat (big+s.n),{ Xh (ask (decide (0≤l)&&decide (l≤c)&&decide (by_*c≤140737488355328)&&decide (c<9223372036854775808)) s).2 (some (s.n,n)) (KP c.toNat z.cells.toList) with lo:=(s.n,c.toNat)::s.lo })
  else none
 | _,_=>none
def KZ (s:St) (b:ByteArray):Res :=
 some (.slice (some ⟨s.n,0,none⟩) (ZA b.data.toList) (big+s.n),
  {Xh s (some (s.n,1)) (b.data.toList.map fun c => .int .u8 (c.toNat:Nat)) with lo:=(s.n,ZA b.data.toList)::s.lo })
def Zhm:Value→Bool
 | .int .u8 _=>true
 | _=>false
def ZjD:Value→UInt8
 | .int .u8 n=>UInt8.ofNat n.toNat
 | _=>0
def VR (s:St) (x:Value):Res :=
 match x with
 | .slice none _ _=>some (.string ⟨⟨[]⟩⟩,s)
 | .slice (some a) len _=>match X8 s a len with
  | some l=>some (.string ⟨⟨l.1.map ZjD⟩⟩,(ask (l.1.all Zhm) l.2).2)
  | none=>bif Nat.beq len 0 then some (.string ⟨⟨[]⟩⟩,s) else none
 | _=>none
def K0 (P:Program) (e:Env) (s:St) (o:Oper) (src dst:TypeId) (x:Value):Res :=
 match x with
 | .string b=>(P.underlying src).bind fun d0=>(P.underlying dst).bind fun d=>match d0,d with
  | .string,.slice el=>(P.underlying el).bind fun(k:TypeDesc)=>match k with | .int .u8=>KZ s b|_=>none
  | .string,.string=>some (.string b,s)
  | _,_=>none
 | .slice _ _ _=>(P.underlying src).bind fun d=>(P.underlying dst).bind fun d'=>match d,d' with
  | .slice el,.string=>(P.underlying el).bind fun(k:TypeDesc)=>match k with | .int .u8=>VR s x|_=>none
  | _,_=>none
 | .int _ _=>VQ P e s o
 | _=>none
def XA:Value→Option Bool
 | .pointer a=>some a.isNone
 | .slice a _ _=>some a.isNone
 | .nilFunc=>some true
 | .func _ _ _=>some false
 | _=>none
def Xa:TypeDesc→Value→Bool
 | .pointer _,.pointer _=>true
 | .slice _,.slice _ _ _=>true
 | .func _ _ _,.nilFunc=>true
 | .func _ _ _,.func _ _ _=>true
 | _,_=>false
def J5 (P:Program) (t:TypeId) (x y:Value):Option Bool :=
 (P.underlying t).bind fun d=>(XA x).bind fun a=>(XA y).bind fun b =>
  bif Xa d x&&Xa d y&&(a||b) then some (a&&b) else none
def Zl:List UInt8→List UInt8→Bool
 | [],[]=>true
 | a::x,b::y=>Nat.beq a.toNat b.toNat&&Zl x y
 | _,_=>false
def Vr:List UInt8→List UInt8→Bool
 | _,[]=>false
 | [],_::_=>true
 | a::x,b::y=>Nat.blt a.toNat b.toNat||(Nat.beq a.toNat b.toNat&&Vr x y)
def ZjT (s:St) (op:BinOp) (x y:List UInt8):Res :=
 match op with
 | .add=>some (.string ⟨⟨x++y⟩⟩,(ask (Nat.blt (ZA x+ZA y) big) s).2)
 | .eql=>some (.bool (Zl x y),s)
 | .neq=>some (.bool (!Zl x y),s)
 | .lss=>some (.bool (Vr x y),s)
 | .leq=>some (.bool (Vr x y||Zl x y),s)
 | .gtr=>some (.bool (!(Vr x y||Zl x y)),s)
 | .geq=>some (.bool (!Vr x y),s)
 | _=>none
def Zmb (P:Program) (e:Env) (s:St) (o:Oper) (op:BinOp) (i:IntKind) (a:Int) (j:IntKind) (b:Int):Res :=
 match op with
 | .quo=>bif decide (i=j) then some (.int i (i.wrap (a.tdiv b)),(ask (!decide (b=0)) s).2) else none
 | .rem=>bif decide (i=j) then some (.int i (a.tmod b),(ask (!decide (b=0)) s).2) else none
 | .shl=>some (.int i (i.wrap (a*(2:Int)^min b.toNat i.bits)),(ask (decide (0≤b)) s).2)
 | .shr=>some (.int i (a.fdiv ((2:Int)^min b.toNat i.bits)),(ask (decide (0≤b)) s).2)
 | _=>VQ P e s o
def Vs (eq:TypeId→Value→Value→Option Bool) (xs ys:List Value) (P:Program):List (TypeId×Nat)→Option Bool
 | []=>some true
 | f::l=>(KO P f.1 xs f.2).bind fun a=>(KO P f.1 ys f.2).bind fun b=>(eq f.1 a b).bind fun c=>(Vs eq xs ys P l).map fun d=>c&&d
def Zf0 (P:Program):Nat→TypeId→Value→Value→Option Bool
 | 0,_,_,_=>none
 | d+1,t,x,y=>(P.underlying t).bind fun ty=>match ty,x,y with
  | .bool,.bool a,.bool b=>some (a==b)
  | .int _,.int k a,.int k' b=>bif decide (k=k') then some (a==b) else none
  | .string,.string a,.string b=>some (Zl a.data.toList b.data.toList)
  | .struct fs,.agg xs,.agg ys=>bif P.stoodInHeld t then none else
    Vs (Zf0 P d) xs.toList ys.toList P ((fs.toList.filter fun f => !(f.name == "_")).map fun f=>(f.type,f.offset))
  | .array n e,.agg xs,.agg ys=>(XP P e).bind fun z=>Vs (Zf0 P d) xs.toList ys.toList P ((List.range n).map fun i=>(e,i*z))
  | _,_,_=>none
def Zmc (P:Program) (s:St) (op:BinOp) (t:TypeId) (x y:Array Value):Res :=
 bif P.eqGuardType P.depth t || !(x.toList.all ZP) || !(y.toList.all ZP) then none else
 match op with
 | .eql=>(Zf0 P 8 t (.agg x) (.agg y)).map fun b=>(.bool b,s)
 | .neq=>(Zf0 P 8 t (.agg x) (.agg y)).map fun b=>(.bool (!b),s)
 | _=>none
def Zl0 (P:Program) (e:Env) (s:St) (o:Oper) (op:BinOp) (t:TypeId) (x y:Value):Res :=
 match x,y with
 | .string a,.string b=>ZjT s op a.data.toList b.data.toList
 | .int i a,.int j b=>Zmb P e s o op i a j b
 | .bool _,.bool _=>VQ P e s o
 | .agg x,.agg y=>Zmc P s op t x y
 | _,_=>match op with
  | .eql=>(J5 P t x y).map fun b=>(.bool b,s)
  | .neq=>(J5 P t x y).map fun b=>(.bool (!b),s)
  | _=>none
def Je (s:St) (size n:Nat):Value→Option (List Value×St)
 | .slice (some a) _ _=>match X8 s a (n*size) with
  | some l=>some l
  | none=>bif Nat.beq (n*size) 0 then some ([],s) else none
 | .slice none _ _=>some ([],s)
 | .string b=>some ((b.data.toList.take n).map fun c => .int .u8 (c.toNat:Nat),s)
 | _=>none
def ZjU:Value→Option Nat
 | .slice _ n _=>some n
 | .string b=>some (ZA b.data.toList)
 | _=>none
def kill (h:Heap) (g:Nat):Heap:=h.filter fun x => !Nat.beq x.1 g
def bare (s:St) (a:Addr):Bool :=
 match a.spot with
 | some _=>false
 | none=>match look s.h a.block with
  | none=>false
  | some k=>k.rw&&Zbt k.it&&Nat.beq a.off 0&&(match k.op with|none=>true|some _=>false)&&(match k.cells with|[]=>true|_=>false)
def ZdP (s:St) (base:Option Addr) (len cap:Nat):Bool :=
 match base with
 | some a=>Nat.beq cap 0&&Nat.beq len 0&&bare s a
 | none=>false
def Zbw (s:St) (size:Nat) (sc:Bool) (base:Option Addr) (len cap n:Nat) (new:List Value):Res :=
 bif Nat.blt cap big then
  bif ZdP s base len cap then
   match base with
   | some a=>some (.slice (some ⟨s.n,0,none⟩) (len+n) (big+s.n),{ Xh { s with h:=kill s.h a.block } (some (s.n,size)) new with lo:=(s.n,len+n)::s.lo })
   | none=>none
  else bif (test (Nat.ble (len+n) cap) s).1 then
   match base with
   | some a=>bif Nat.beq n 0 then some (.slice base (len+n) cap,(test (Nat.ble (len+n) cap) s).2) else match a.spot with
    | some _=>none
    | none=>(Wu sc (test (Nat.ble (len+n) cap) s).2 (Zhk a (len*size)) new).map fun s=>(.slice base (len+n) cap,s)
   | none=>some (.slice base (len+n) cap,(ask (Nat.beq n 0) (test (Nat.ble (len+n) cap) s).2).2)
  else
   (Je (test (Nat.ble (len+n) cap) s).2 size len (.slice base len cap)).map fun old =>
    (.slice (some ⟨s.n,0,none⟩) (len+n) (big+s.n),{ Xh (ask (Nat.beq (ZA old.1) (len*size)) old.2).2 (some (s.n,size)) (old.1++new) with lo:=(s.n,len+n)::s.lo })
 else
  match base with
  | some a=>match a.spot with
   | some _=>none
   | none=>(look s.h a.block).bind fun k=>match k.op with
    | none=>none
    | some p=>bif k.rw&&Nat.beq a.off 0&&Nat.beq (big+p.1) cap&&Nat.beq p.2 size then
      some (.slice (some ⟨s.n,0,none⟩) (len+n) (big+s.n),
       {Xh { (ask (Nat.beq (ZA k.cells) (len*size)) s).2 with h:=kill s.h a.block } (some (s.n,size)) (k.cells++new) with lo:=(s.n,len+n)::s.lo })
     else none
  | none=>none
def Jf (P:Program) (s:St) (t:TypeId) (t1:Option TypeId) (sl x:Value):Res :=
 match sl with
 | .slice base len cap=>(Xz P t).bind fun elem=>(XP P elem).bind fun size=>(Zcc P elem).bind fun by_=>(JV P elem).bind fun z =>
  (match t1 with|none=>some true|some t1=>(P.underlying t1).map fun(d:TypeDesc)=>match d with | .int _=>false|_=>true).bind fun ok =>
  (ZjU x).bind fun n=>(Je s size n x).bind fun new =>
  bif ok&&Nat.beq z.cells.size size&&Nat.blt 0 size then
   Zbw (ask (Nat.beq (ZA new.1) (n*size)&&KD new.1&&Nat.ble ((len+n)*by_) 1099511627776&&Nat.blt (len+n) 4611686018427387904) new.2).2 size (z.cells.toList.all Zhj) base len cap n new.1
  else none
 | _=>none
def ZdQ (P:Program) (s:St) (t:TypeId) (dst src:Value):Res :=
 match dst with
 | .slice base dlen _=>(Xz P t).bind fun elem=>(XP P elem).bind fun size=>(ZjU src).bind fun m =>
  (JV P elem).bind fun z=>(Je s size (Nat.min m dlen) src).bind fun cells=>match base with
   | some a=>(Wu (z.cells.toList.all Zhj) (ask (Nat.beq (ZA cells.1) (Nat.min m dlen*size)) cells.2).2 a cells.1).map fun s=>(.int .i64 (Nat.min m dlen:Nat),s)
   | none=>some (.int .i64 (Nat.min m dlen:Nat),(ask (Nat.beq (Nat.min m dlen*size) 0&&Nat.beq (ZA cells.1) 0) cells.2).2)
 | _=>none
def ZdR (P:Program) (e:Env) (s:St) (o:Oper) (t:TypeId) (x:Value):Res :=
 match x with
 | .slice _ n _=>(Xz P t).map fun _=>(.int .i64 (n:Nat),s)
 | .string b=>(P.underlying t).bind fun d=>match d with | .string=>some (.int .i64 (ZA b.data.toList:Nat),s)|_=>none
 | _=>VQ P e s o
abbrev Z1:=FuncId→List Value→St→Res
def ZdS (P:Program) (call:Z1) (e:Env) (s:St) (o:Oper) (c:Call):Res :=
 match c.callee with
 | .builtin .append=>match c.args.toList,c.argTypes.toList with
  | [x,y],t::ts=>(opd e x).bind fun x=>(opd e y).bind fun y=>Jf P s t ts.head? x y
  | _,_=>none
 | .builtin .copy=>match c.args.toList,c.argTypes.toList with
  | [x,y],t::_=>(opd e x).bind fun x=>(opd e y).bind fun y=>ZdQ P s t x y
  | _,_=>none
 | .builtin .len=>match c.args.toList,c.argTypes.toList with
  | [x],t::_=>(opd e x).bind fun x=>ZdR P e s o t x
  | _,_=>none
 | .builtin .min=>VQ P e s o
 | .builtin .max=>VQ P e s o
 | .value f=>(opd e f).bind fun f=>match f with
  | .func (.func g) first captured=>(ZhU e c.args.toList).bind fun args=>call g (first.toList++args++captured.toList) s
  | _=>none
 | _=>none
def Zce (P:Program) (s:St) (t:TypeId) (x:Value):Res :=
 (P.underlying t).bind fun d=>match d,x with
  | .string,.string b=>some (ptr s.n 0,{ s with n:=s.n+1,h:=(s.n,⟨true,none,[],some (b,0)⟩)::s.h })
  | _,_=>none
def Zf1 (s:St) (isString:Bool) (x:Value):Res :=
 match isString,x with
 | true,.pointer (some a)=>match a.spot with
  | some _=>none
  | none=>bif Nat.beq a.off 0 then(look s.h a.block).bind fun k=>match k.it with
    | none=>none
    | some i=>bif k.rw then(bif (test (Nat.blt i.2 (ZA i.1.data.toList)) s).1 then
       some (.tuple #[.bool true,.int .i64 i.2,.int .i32 ((i.1.data.toList.getD i.2 0).toNat:Nat)],{ (ask (Nat.blt (i.1.data.toList.getD i.2 0).toNat 128) (test (Nat.blt i.2 (ZA i.1.data.toList)) s).2).2 with h:=Zhi s.h a.block (i.1,i.2+1) })
      else some (.tuple #[.bool false],(test (Nat.blt i.2 (ZA i.1.data.toList)) s).2)) else none
   else none
 | _,_=>none
def xop (P:Program) (call:Z1) (e:Env) (s:St) (o:Oper):Res :=
 match o.op with
 | .move x=>(opd e x).map fun v=>(v,s)
 | .assign x=>(opd e x).map fun v=>(v,s)
 | .pick c a b=>(opd e c).bind fun c=>match c with
  | .bool t=>(opd e (bif (test t s).1 then a else b)).map fun v=>(v,(test t s).2)
  | _=>none
 | .alloc t=>(JV P t).map fun z=>(ptr s.n 0,Xh s none z.cells.toList)
 | .box _ x=>(opd e x).bind fun v=>bif KD v.cells.toList then some (ptr s.n 0,Xh s none v.cells.toList) else none
 | .build t parts=>(Zc6 e parts.toList).bind fun ps=>(ZdN P t ps).map fun v=>(v,s)
 | .buildSlice t len parts=>(Zc6 e parts.toList).bind fun ps=>Wv P s t len ps
 | .load t a=>(opd e a).bind fun a=>match a with
  | .pointer (some a)=>Va P s t a
  | _=>none
 | .store t a x=>(opd e a).bind fun a=>(opd e x).bind fun v=>match a with
  | .pointer (some a)=>(WT P s t a v).map fun s=>(undef,s)
  | _=>none
 | .nilCheck x=>(opd e x).bind fun v=>(Zax v).map fun v=>(v,s)
 | .binOp op t x y _=>(opd e x).bind fun x=>(opd e y).bind fun y=>Zl0 P e s o op t x y
 | .unOp _ _ _=>VQ P e s o
 | .convert src dst x=>(opd e x).bind fun x=>K0 P e s o src dst x
 | .makeFunc fn first captured=>match fn with
  | .func f=>(ZhU e first.toList).bind fun a=>(ZhU e captured.toList).map fun b=>(.func (.func f) ⟨a⟩ ⟨b⟩,s)
  | _=>none
 | .makeSlice t l c=>(opd e l).bind fun l=>(opd e c).bind fun c=>Vc P s t l c
 | .slice t x lo hi mx=>(opd e x).bind fun x=>(ZjC e lo).bind fun lo=>(ZjC e hi).bind fun hi=>(ZjC e mx).bind fun mx=>Zay P s t x lo hi mx
 | .fieldAddr t x f=>(opd e x).bind fun x=>(Kk P t x f).map fun v=>(v,s)
 | .field t x f=>(opd e x).bind fun x=>(ZdO P t x f).map fun v=>(v,s)
 | .indexAddr t x i=>(opd e x).bind fun x=>(opd e i).bind fun i=>Vb P s t x i
 | .index t x i=>(opd e x).bind fun x=>(opd e i).bind fun i=>Zcd P s t x i
 | .extract x i=>(opd e x).bind fun x=>(Uv x i).map fun v=>(v,s)
 | .call c=>ZdS P call e s o c
 | .range t x=>(opd e x).bind fun x=>Zce P s t x
 | .next x b=>(opd e x).bind fun x=>Zf1 s b x
 | _=>none
def Xq (ops:Array Oper) (e:Env) (s:St) (o:Oper):Bool×St :=
 match o.guard with
 | none=>(true,s)
 | some (j,want)=>match (ops.toList[j]?).bind fun o=>o.dst with
  | none=>(false,s)
  | some d=>match YU e d with
   | .bool b=>(cond want (test b s).1 (!(test b s).1),(test b s).2)
   | _=>(false,s)
def Zcf (ops:Array Oper) (e:Env) (o:Oper):Bool :=
 match o.guard with
 | none=>false
 | some (j,_)=>match (ops.toList[j]?).bind fun o=>o.dst with
  | none=>false
  | some d=>isU (YU e d)
def Xc (P:Program) (call:Z1) (ops:Array Oper) (e:Env) (s:St) (o:Oper):Res :=
 bif Zcf ops e o then none else bif (Xq ops e s o).1 then xop P call e (Xq ops e s o).2 o else some (undef,(Xq ops e s o).2)
structure Fr where
 e:Env
 s:St
def Zf2 (nt:Nat) (e:Env) (dst:Option Tmp) (v:Value):Option Env :=
 match dst with
 | none=>some e
 | some d=>bif Nat.blt d nt then some (ZjR e d v) else none
def Zaz (P:Program) (call:Z1) (nt:Nat) (ops:Array Oper):List Oper→Fr→Option Fr
 | [],f=>some f
 | o::l,f=>(Xc P call ops f.e f.s o).bind fun r=>(Zf2 nt f.e o.dst r.1).bind fun e=>Zaz P call nt ops l ⟨e,r.2⟩
def QJ (o:Oper):Bool :=
 match o.op with
 | .store _ _ _=>false
 | .next _ _=>false
 | .call c=>match c.callee with
  | .builtin .len=>true
  | .builtin .min=>true
  | .builtin .max=>true
  | _=>false
 | _=>true
def XB (o:Oper):List Nat:=(o.after.toList.filter fun x=>Region.binds .any x).map fun x=>x.on
def Vt (ops:List Oper):List Nat :=
 (ops.foldl (fun(acc:List Nat×Nat) o=>(acc.1++[(XB o).foldl (fun s j=>s|||2^j|||Zc 0 acc.1 j) 0],acc.2+1)) ([],0)).1
def ZdT (i:Nat):List Nat→Bool
 | []=>false
 | x::l=>Nat.beq x i||ZdT i l
def ZhV (ops:List Oper) (done:List Nat):Nat→List Nat→Option Nat
 | _,[]=>none
 | k,i::l=>match ops[i]? with
  | none=>none
  | some o=>bif !ZdT i done&&(XB o).all (fun j=>ZdT j done)&&(Nat.beq k 1||QJ o) then some i else ZhV ops done k l
def ZaA (ops:List Oper):Nat→List Nat→List Nat
 | 0,_=>[]
 | n+1,done=>match ZhV ops done 0 (List.range ops.length) with
  | some i=>i::ZaA ops n (i::done)
  | none=>match ZhV ops done 1 (List.range ops.length) with
   | some i=>i::ZaA ops n (i::done)
   | none=>[]
def Ww (ops:List Oper) (B:List Nat):List Nat→List Nat→Bool
 | [],done=>Nat.beq done.length ops.length
 | i::l,done=>match ops[i]? with
  | none=>false
  | some o => !ZdT i done&&(XB o).all (fun j=>ZdT j done)&&(QJ o||l.all fun j=>(Zc 0 B j).testBit i)&&Ww ops B l (i::done)
def YE (ops:List Oper) (B:List Nat):Bool :=
 ops.zipIdx.all fun x=>(List.range ops.length).all fun k =>
  !(Zc 0 B x.2).testBit k||(XB x.1).any fun j=>Nat.blt j x.2&&(Nat.beq j k||(Zc 0 B j).testBit k)
def VS (ops:List Oper) (B:List Nat):Bool :=
 ops.zipIdx.all fun x=>ops.zipIdx.all fun y=>Nat.beq x.2 y.2 ||
  match y.1.dst with
  | none=>true
  | some d=>(match x.1.dst with|some d' => !Nat.beq d d'|none=>true) &&
   (!ZdT d (x.1.looksAt ⟨ops⟩)||(Zc 0 B x.2).testBit y.2||(Zc 0 B y.2).testBit x.2)
def Zmd (ops:List Oper):Bool:=ops.all fun o=>match o.op with | .select _ _=>false|_=>true
def Uw (ops:List Oper):Bool :=
 (ops.zipIdx.all fun x=>(XB x.1).all fun j=>Nat.blt j x.2)&&((List.range ops.length).all fun i=>ZdT i (ZaA ops ops.length []))&&Zmd ops&&YE ops (Vt ops)&&VS ops (Vt ops)&&Ww ops (Vt ops) (ZaA ops ops.length []) []
structure Rec where
 i:Nat
 n0:Nat
 n1:Nat
 rd:List Nat
def YF (B:Nat) (recs:List Rec) (g:Nat):Bool:=recs.any fun x => !B.testBit x.i&&Nat.ble x.n0 g&&Nat.blt g x.n1
def Wd (B:Nat) (recs:List Rec) (g:Nat):Bool:=recs.any fun x => !B.testBit x.i&&ZdT g x.rd
def Kn (e:Env) (o:Oper):List Nat :=
 let f (x:Operand):List Nat:=match opd e x with
  | some (.pointer (some a))=>[a.block]
  | some (.slice (some a) _ _)=>[a.block]
  | _=>[]
 match o.op with
 | .load _ x=>f x
 | .convert _ _ x=>f x
 | _=>[]
def ZhW (B:Nat) (recs:List Rec) (s:St):List Nat→Heap
 | []=>[]
 | g::l=>bif YF B recs g then ZhW B recs s l else match look s.h g with
  | some k=>(g,{ k with rw:=false })::ZhW B recs s l
  | none=>ZhW B recs s l
def Zcg (B:Nat) (recs:List Rec) (e:Env) (s:St) (o:Oper):St :=
 bif QJ o then { s with h:=ZhW B recs s (Kn e o),lo:=s.lo.filter fun x => !YF B recs x.1 }
 else { s with
  h:=(s.h.filter fun x => !YF B recs x.1).map fun x=>bif Wd B recs x.1 then(x.1,{ x.2 with rw:=false }) else x,
  lo:=s.lo.filter fun x => !YF B recs x.1 }
def Vu (B:Nat) (recs:List Rec) (s:St) (o:Oper) (s':St):St :=
 bif QJ o then { s' with h:=s'.h.filter (fun x=>Nat.ble s.n x.1)++s.h,lo:=s'.lo.filter (fun x=>Nat.ble s.n x.1)++s.lo }
 else { s' with h:=s'.h.filter (fun x=>Nat.ble s.n x.1 || !(YF B recs x.1||Wd B recs x.1))++s.h.filter (fun x=>YF B recs x.1||Wd B recs x.1),lo:=s'.lo.filter (fun x=>Nat.ble s.n x.1)++s.lo }
def JW (P:Program) (call:Z1) (nt:Nat) (ops:Array Oper) (B:List Nat):List Nat→List Rec→Fr→Option Fr
 | [],_,f=>some f
 | i::l,recs,f=>match ops.toList[i]? with
  | none=>none
  | some o=>(Xc P call ops f.e (Zcg (Zc 0 B i) recs f.e f.s o) o).bind fun r=>(Zf2 nt f.e o.dst r.1).bind fun e =>
   JW P call nt ops B l (⟨i,f.s.n,r.2.n,Kn f.e o⟩::recs) ⟨e,Vu (Zc 0 B i) recs f.s o r.2⟩
def ZdU (P:Program) (call:Z1) (nt:Nat) (ops:Array Oper) (f:Fr):Option Fr :=
 bif Uw ops.toList&&P.follows .mixedOrders then JW P call nt ops (Vt ops.toList) (ZaA ops.toList ops.toList.length []) [] f else none
abbrev Ko:=Nat→Code→Fr→Option (Exit×Fr)
def evC (P:Program) (call:Z1) (lp:Ko) (nt:Nat):Nat→Code→Fr→Option (Exit×Fr)
 | 0,_,_=>none
 | k+1,c,f=>match c with
  | .skip=>some (.normal,f)
  | .label _=>some (.normal,f)
  | .region _ ops draw=>(bif draw then ZdU P call nt ops f else Zaz P call nt ops ops.toList f).map fun f=>(.normal,f)
  | .seq a b=>match evC P call lp nt k a f with
   | some (.normal,f)=>evC P call lp nt k b f
   | x=>x
  | .cond x a b=>match opd f.e x with
   | some (.bool t)=>evC P call lp nt k (bif (test t f.s).1 then a else b) ⟨f.e,(test t f.s).2⟩
   | _=>none
  | .block id c=>match evC P call lp nt k c f with
   | some (.exit i,f)=>bif Nat.beq i id then some (.normal,f) else some (.exit i,f)
   | x=>x
  | .loop c=>match lp nt c f with
   | some x=>some x
   | none=>match evC P call lp nt k c f with
    | some (.normal,f)=>evC P call lp nt k (.loop c) f
    | x=>x
  | .exit id=>some (.exit id,f)
  | .ret=>some (.ret,f)
  | _=>none
def Yp (P:Program) (e:Env):List ResultVar→St→Option (List Value×St)
 | [],s=>some ([],s)
 | .tmp t::l,s=>bif isU (YU e t) then none else(Yp P e l s).map fun vs=>(YU e t::vs.1,vs.2)
 | .cell a t::l,s=>match YU e a with
  | .pointer (some a)=>(Va P s t a).bind fun v=>(Yp P e l v.2).map fun vs=>(v.1::vs.1,vs.2)
  | _=>none
def WV:List Value→Value
 | [v]=>v
 | vs => .tuple ⟨vs⟩
def J6 (args:List Value):Nat→Env→Env
 | k,e=>match args with
  | []=>e
  | v::l=>J6 l (k+1) (ZjR e k v)
def ZdV (n:Nat) (h:Heap):Heap:=h.filter fun x=>Nat.blt x.1 n
def KR (s s':St) (v:Value):St :=
 bif Ym v&&Nat.ble s.n s'.esc then { s' with h:=ZdV s.n s'.h,esc:=s.esc } else { s' with esc:=Nat.min s.esc s'.esc }
def evF (P:Program) (base:Z1) (lp:FuncId→Ko) (L:Nat):Nat→Z1
 | 0,f,args,s=>base f args s
 | k+1,f,args,s=>match base f args s with
  | some r=>some r
  | none=>(P.funcs[f]?).bind fun fn=>fn.body.bind fun c =>
   bif Nat.ble args.length fn.ntmps then
    (evC P (evF P base lp L k) (lp f) fn.ntmps L c ⟨J6 args 0 [],{ s with esc:=s.n }⟩).bind fun x=>match x.1 with
     | .normal=>(Yp P x.2.e fn.results.toList x.2.s).map fun vs=>(WV vs.1,KR s vs.2 (WV vs.1))
     | .ret=>(Yp P x.2.e fn.results.toList x.2.s).map fun vs=>(WV vs.1,KR s vs.2 (WV vs.1))
     | _=>none
   else none
end Go.Proofs.YtagacmljbgkmoaaGreatDoor.Sy
namespace Go.Proofs.YtagacmljbgkmoaaGreatDoor.Sy
open Go.IntKind (u8 u16 u32 u64 i64)
open Go.RowKit
section
variable (r:Ren)
theorem YW (cs:Array Value):r.val (.agg cs) = .agg (cs.map r.val):=by rw[Ren.val]
theorem QA (cs:Array Value):r.val (.tuple cs) = .tuple (cs.map r.val):=by rw[Ren.val]
theorem Yf (fn:Fn) (a b:Array Value):r.val (.func fn a b) = .func fn (a.map r.val) (b.map r.val):=by rw[Ren.val]
theorem Xi (t:TypeId) (v:Value):r.val (.iface t v) = .iface t (r.val v):=by rw[Ren.val]
theorem Qs (a:Option Addr):r.val (.pointer a) = .pointer (a.map r.addr):=by rw[Ren.val]
theorem ZD (a:Option Addr) (l c:Nat):r.val (.slice a l c) = .slice (a.map r.addr) l (r.cap c):=by rw[Ren.val]
theorem Z8 (k:IntKind) (n:Int):r.val (.int k n) = .int k n:=by rw[Ren.val]<;>simp
theorem YX (b:Bool):r.val (.bool b) = .bool b:=by rw[Ren.val]<;>simp
theorem Qy (b:ByteArray):r.val (.string b) = .string b:=by rw[Ren.val]<;>simp
theorem XC:r.val .nilFunc = .nilFunc:=by rw[Ren.val]<;>simp
theorem VT:r.val undef=undef:=by simp[undef,QA]
theorem ZN {v:Value} (h:ZP v=true):r.val v=v:=by
 unfold ZP at h
 split at h<;>first
  | (rw[Ren.val]; simp; done)
  | (rw[Ren.val]<;>simp; done)
  | (simp[ZD,Ren.cap,h]; done)
  | (cases h; done)
theorem WW {l:List Value} (h:l.all ZP=true):l.map r.val=l:=by
 rw[List.map_congr_left (g:=id)]
 ·simp
 ·intro v hv; exact ZN r (List.all_eq_true.1 h v hv)
theorem ZdW {l:Array Value} (h:l.toList.map r.val=l.toList):l.map r.val=l:=by
 apply Array.ext'; simpa using h
theorem YG {v:Value} (h:Xn v=true):r.val v=v:=by
 unfold Xn at h
 split at h
 ·rw[YW,ZdW r (WW r h)]
 ·exact ZN r h
theorem YH {v:Value} (h:Ym v=true):r.val v=v:=by
 unfold Ym at h
 split at h
 ·rename_i vs
  rw[QA,ZdW r]
  rw[List.map_congr_left (g:=id)]
  ·simp
  ·intro v hv; exact YG r (List.all_eq_true.1 h v hv)
 ·exact YG r h
theorem VU (v:Value):(r.val v).cells=v.cells.map r.val:=by
 cases v<;>(try (simp[YW,Value.cells]; done))<;>rw[Ren.val]<;>(try simp[Value.cells])<;>(rw[Ren.val]<;>simp)
theorem Jg (v:Value):(r.val v).oneCell'=v.oneCell':=by
 cases v<;>(try (simp[YW,QA,Value.oneCell']; done))<;>rw[Ren.val]<;>simp[Value.oneCell']
end
theorem VV {n m:Nat→Bool} (h:∀ g,n g=true→m g=true) {a:Addr} (hb:Xv n a=true):Xv m a=true:=by
 unfold Xv at *
 simp only[Bool.and_eq_true] at *
 obtain⟨h1,h2⟩:=hb
 refine⟨h _ h1,?_⟩
 cases hs:a.spot with
 | none=>rfl
 | some k=>rw[hs] at h2; exact h k h2
theorem YY (n:Nat→Bool) (cs:Array Value):bnd n (.agg cs)=cs.all (bnd n):=by rw[bnd]; simp
theorem Qx (n:Nat→Bool) (cs:Array Value):bnd n (.tuple cs)=cs.all (bnd n):=by rw[bnd]; simp
theorem Xd (n:Nat→Bool) (fn:Fn) (a b:Array Value):bnd n (.func fn a b)=((match fn with | .yield _=>false|_=>true)&&a.all (bnd n)&&b.all (bnd n)):=by
 cases fn<;>(rw[bnd]<;>simp)
theorem QQ (n:Nat→Bool) (a:Addr):bnd n (.pointer (some a))=Xv n a:=by rw[bnd]
theorem ZY (n:Nat→Bool) (a:Option Addr) (l c:Nat):bnd n (.slice a l c)=((match a with|some a=>Xv n a|none=>true)&&(Nat.blt c big||n (c-big))):=by
 cases a<;>(conv=>lhs; unfold bnd)<;>rfl
theorem XD (n:Nat→Bool) (t:TypeId) (v:Value):bnd n (.iface t v)=bnd n v:=by rw[bnd]
theorem Zu (n:Nat→Bool) {v:Value} (h:ZP v=true):bnd n v=true:=by
 unfold ZP at h
 split at h<;>first
  | (rw[bnd]<;>simp; done)
  | (rw[ZY]; simp[h]; done)
  | (cases h; done)
theorem VW (n:Nat→Bool) {v:Value} (h:Xn v=true):bnd n v=true:=by
 unfold Xn at h
 split at h
 ·rw[YY,Array.all_eq_true_iff_forall_mem]
  intro v hv
  exact Zu n (List.all_eq_true.1 h v (by simpa using hv))
 ·exact Zu n h
theorem Q6 (n:Nat→Bool) {v:Value} (h:Ym v=true):bnd n v=true:=by
 unfold Ym at h
 split at h
 ·rw[Qx,Array.all_eq_true_iff_forall_mem]
  intro v hv
  exact VW n (List.all_eq_true.1 h v (by simpa using hv))
 ·exact VW n h
theorem Xo (n:Nat→Bool) (k:IntKind) (i:Int):bnd n (.int k i)=true:=Zu n rfl
theorem Vd (n:Nat→Bool) (b:Bool):bnd n (.bool b)=true:=Zu n rfl
theorem We (n:Nat→Bool) (b:ByteArray):bnd n (.string b)=true:=Zu n rfl
theorem WX (n:Nat→Bool):bnd n undef=true:=Q6 n rfl
theorem Ux {n:Nat→Bool} {g o:Nat} (h:n g=true):bnd n (ptr g o)=true:=by
 unfold ptr; rw[QQ]; simp[Xv,h]
theorem Yy {n m:Nat→Bool} (h:∀ g,n g=true→m g=true):∀ v:Value,bnd n v=true→bnd m v=true
 | .pointer (some a),hb=>by rw[QQ] at *; exact VV h hb
 | .pointer none,_=>Zu m rfl
 | .slice a l c,hb=>by
  rw[ZY,Bool.and_eq_true] at *
  refine⟨?_,by
   have h2:=hb.2
   rw[Bool.or_eq_true] at h2 ⊢
   exact h2.imp id (h _)⟩
  cases a with
  | none=>rfl
  | some a=>exact VV h hb.1
 | .func fn a b,hb=>by
  rw[Xd,Bool.and_eq_true,Bool.and_eq_true] at *
  refine⟨⟨hb.1.1,?_⟩,?_⟩
  ·exact Array.all_eq_true_iff_forall_mem.2 fun v hv=>Yy h v (Array.all_eq_true_iff_forall_mem.1 hb.1.2 v hv)
  ·exact Array.all_eq_true_iff_forall_mem.2 fun v hv=>Yy h v (Array.all_eq_true_iff_forall_mem.1 hb.2 v hv)
 | .iface t v,hb=>by rw[XD] at *; exact Yy h v hb
 | .agg cs,hb=>by
  rw[YY,Array.all_eq_true_iff_forall_mem] at *
  exact fun v hv=>Yy h v (hb v hv)
 | .tuple cs,hb=>by
  rw[Qx,Array.all_eq_true_iff_forall_mem] at *
  exact fun v hv=>Yy h v (hb v hv)
 | .map (some _),hb=>by rw[bnd] at hb; cases hb
 | .map none,_=>Zu m rfl
 | .chan (some _),hb=>by rw[bnd] at hb; cases hb
 | .chan none,_=>Zu m rfl
 | .bool _,_=>Zu m rfl
 | .int _ _,_=>Zu m rfl
 | .float _ _,_=>Zu m rfl
 | .complex _ _ _,_=>Zu m rfl
 | .string _,_=>Zu m rfl
 | .nilFunc,_=>Zu m rfl
 | .nilIface,_=>Zu m rfl
termination_by v=>SizeOf.sizeOf v
decreasing_by
 all_goals simp_wf
 all_goals (first|omega|(have:=Array.sizeOf_lt_of_mem hv; omega))
structure Ext (r r':Ren):Prop where
 d:∀ g,r.d g=true→r'.d g=true
 b:∀ g,r.d g=true→r'.b g=r.b g
 w:∀ g,r.d g=true→r'.w g=r.w g
 o:∀ g,r.d g=true→r'.o g=r.o g
 c:∀ g,r.d g=true→r'.c g=r.c g
theorem Ext.refl (r:Ren):Ext r r:=⟨fun _ h=>h,fun _ _=>rfl,fun _ _=>rfl,fun _ _=>rfl,fun _ _=>rfl⟩
theorem Ext.trans {r s t:Ren} (h:Ext r s) (h':Ext s t):Ext r t :=
 ⟨fun g hg=>h'.d g (h.d g hg),fun g hg=>(h'.b g (h.d g hg)).trans (h.b g hg),fun g hg=>(h'.w g (h.d g hg)).trans (h.w g hg),fun g hg=>(h'.o g (h.d g hg)).trans (h.o g hg),fun g hg=>(h'.c g (h.d g hg)).trans (h.c g hg)⟩
theorem K1 {r r':Ren} (h:Ext r r') {a:Addr} (hb:Xv r.d a=true):r'.addr a=r.addr a:=by
 unfold Xv at hb
 simp only[Bool.and_eq_true] at hb
 obtain⟨h1,h2⟩:=hb
 unfold Ren.addr
 rw[h.b _ h1,h.w _ h1]
 cases hs:a.spot with
 | none=>rfl
 | some k =>
  rw[hs] at h2
  simp only[]
  rw[h.o _ h2]
theorem ZhX {r r':Ren} (h:Ext r r') {c:Nat} (hc:(Nat.blt c big||r.d (c-big))=true):r'.cap c=r.cap c:=by
 unfold Ren.cap
 cases hb:Nat.blt c big
 ·rw[hb] at hc
  simp only[cond_false]
  exact h.c _ (by simpa using hc)
 ·rfl
theorem XE {r r':Ren} (h:Ext r r'):∀ v:Value,bnd r.d v=true→r'.val v=r.val v
 | .pointer (some a),hb=>by rw[QQ] at hb; rw[Qs,Qs,Option.map_some,Option.map_some,K1 h hb]
 | .pointer none,_=>by rw[Qs,Qs]; rfl
 | .slice a l c,hb=>by
  rw[ZY,Bool.and_eq_true] at hb
  rw[ZD,ZD,ZhX h hb.2]
  cases a with
  | none=>rfl
  | some a=>rw[Option.map_some,Option.map_some,K1 h hb.1]
 | .func fn a b,hb=>by
  rw[Xd,Bool.and_eq_true,Bool.and_eq_true] at hb
  rw[Yf,Yf,Array.map_congr_left fun v hv=>XE h v (Array.all_eq_true_iff_forall_mem.1 hb.1.2 v hv),
   Array.map_congr_left fun v hv=>XE h v (Array.all_eq_true_iff_forall_mem.1 hb.2 v hv)]
 | .iface t v,hb=>by rw[XD] at hb; rw[Xi,Xi,XE h v hb]
 | .agg cs,hb=>by
  rw[YY,Array.all_eq_true_iff_forall_mem] at hb
  rw[YW,YW,Array.map_congr_left fun v hv=>XE h v (hb v hv)]
 | .tuple cs,hb=>by
  rw[Qx,Array.all_eq_true_iff_forall_mem] at hb
  rw[QA,QA,Array.map_congr_left fun v hv=>XE h v (hb v hv)]
 | .map (some _),hb=>by rw[bnd] at hb; cases hb
 | .map none,_=>by rw[ZN r' rfl,ZN r rfl]
 | .chan (some _),hb=>by rw[bnd] at hb; cases hb
 | .chan none,_=>by rw[ZN r' rfl,ZN r rfl]
 | .bool _,_=>by rw[ZN r' rfl,ZN r rfl]
 | .int _ _,_=>by rw[ZN r' rfl,ZN r rfl]
 | .float _ _,_=>by rw[ZN r' rfl,ZN r rfl]
 | .complex _ _ _,_=>by rw[ZN r' rfl,ZN r rfl]
 | .string _,_=>by rw[ZN r' rfl,ZN r rfl]
 | .nilFunc,_=>by rw[ZN r' rfl,ZN r rfl]
 | .nilIface,_=>by rw[ZN r' rfl,ZN r rfl]
termination_by v=>SizeOf.sizeOf v
decreasing_by
 all_goals simp_wf
 all_goals (first|omega|(have:=Array.sizeOf_lt_of_mem hv; omega))
theorem Vv {P:Program} {α:Type}:∀ (x:Sem α) (a:α),Yn P x=some a→∀ w,x.run P w = .ok a w
 | .pure b,a,h,w=>by simp only[Yn,Option.some.injEq] at h; subst h; rfl
 | .program k,a,h,w=>by simp only[Yn] at h; simp only[Sem.run]; exact Vv (k P) a h w
 | .mark _ k,a,h,w=>by simp only[Yn] at h; simp only[Sem.run]; exact Vv k a h w
 | .load ..,a,h,w=>by simp[Yn] at h
 | .store ..,a,h,w=>by simp[Yn] at h
 | .new ..,a,h,w=>by simp[Yn] at h
 | .shape ..,a,h,w=>by simp[Yn] at h
 | .freeze ..,a,h,w=>by simp[Yn] at h
 | .frozen ..,a,h,w=>by simp[Yn] at h
 | .getObj ..,a,h,w=>by simp[Yn] at h
 | .setObj ..,a,h,w=>by simp[Yn] at h
 | .choose ..,a,h,w=>by simp[Yn] at h
 | .sys ..,a,h,w=>by simp[Yn] at h
 | .halt _,a,h,w=>by simp[Yn] at h
theorem ZdX {α:Type}:∀ (l:List α) (n:Nat),ZjQ l n=l.length+n
 | [],n=>by simp[ZjQ]
 | _::l,n=>by rw[ZjQ,Nat.beq_refl,cond_true,ZdX l (n+1),List.length_cons]; omega
theorem ZR {α:Type} (l:List α):ZA l=l.length:=by unfold ZA; rw[ZdX]; rfl
theorem Uy {α:Type} (d:α) (j:Nat):Zc d [] j=d:=by cases j<;>rfl
theorem VX {α:Type} (d:α):∀ (l:List α) (i j:Nat) (v:α),Zc d (Kj d l i v) j=if j=i then v else Zc d l j
 | [],0,0,v=>by simp[Kj,Zc]
 | [],0,j+1,v=>by simp[Kj,Zc]
 | [],i+1,0,v=>by simp[Kj,Zc]
 | [],i+1,j+1,v=>by simp[Kj,Zc,VX d [] i j v]
 | x::l,0,0,v=>by simp[Kj,Zc]
 | x::l,0,j+1,v=>by simp[Kj,Zc]
 | x::l,i+1,0,v=>by simp[Kj,Zc]
 | x::l,i+1,j+1,v=>by simp[Kj,Zc,VX d l i j v]
theorem VY (e:Env) (t u:Nat) (v:Value):YU (ZjR e t v) u=if u=t then v else YU e u:=by
 unfold YU ZjR
 rw[VX]
 by_cases h:u/16=t/16
 ·rw[if_pos h,VX,h]
  by_cases h':u%16=t%16
  ·have:u=t:=by omega
   subst this; simp
  ·have:u≠t:=fun e=>h' (by rw[e])
   simp[h',this]
 ·have:u≠t:=fun e=>h (by rw[e])
  rw[if_neg h,if_neg this]
theorem Yz:∀ (n:Nat) (l:List Value),ZI n l=true↔n≤l.length
 | 0,l=>by simp[ZI]
 | n+1,[]=>by simp[ZI]
 | n+1,x::l=>by simp[ZI,Yz n l]
theorem XR:∀ (l:List Value) (n:Nat) (vs:List Value),(ZC n vs l).length=l.length
 | [],n,vs=>by unfold ZC; cases n<;>cases vs<;>rfl
 | x::l,0,[]=>by simp[ZC]
 | x::l,0,v::vs=>by simp[ZC,XR l 0 vs]
 | x::l,n+1,vs=>by simp[ZC,XR l n vs]
theorem YI:∀ (l:List Value) (n:Nat) (vs:List Value) (j:Nat),n+vs.length≤l.length →
  (ZC n vs l)[j]? = if n≤j∧j<n+vs.length then vs[j-n]? else l[j]?
 | [],n,vs,j,h=>by
  have:vs=[]:=by cases vs with|nil=>rfl|cons=>simp at h
  subst this
  simp at h; subst h
  simp[ZC]
 | x::l,0,[],j,h=>by simp[ZC]
 | x::l,0,v::vs,0,h=>by simp[ZC]
 | x::l,0,v::vs,j+1,h=>by
  simp only[ZC,List.getElem?_cons_succ]
  rw[YI l 0 vs j (by simp at h; omega)]
  simp
 | x::l,n+1,vs,0,h=>by simp[ZC]
 | x::l,n+1,vs,j+1,h=>by
  simp only[ZC,List.getElem?_cons_succ]
  rw[YI l n vs j (by simp at h; omega)]
  by_cases hc:n≤j∧j<n+vs.length
  ·rw[if_pos hc,if_pos (by omega)]; congr 1; omega
  ·rw[if_neg hc,if_neg (by omega)]
theorem Zch (h:Heap) (g:Nat) (cs:List Value) (g':Nat):look (upd h g cs) g'=if g'=g then(look h g).map (fun k=>{ k with cells:=cs }) else look h g':=by
 induction h with
 | nil=>simp[upd,look]
 | cons x h ih =>
  simp only[upd,look]
  cases hx:Nat.beq x.1 g
  ·simp only[cond_false,look]
   have hne:x.1≠g:=fun e=>by rw[e,Nat.beq_refl] at hx; cases hx
   cases hx':Nat.beq x.1 g'
   ·simp only[cond_false]; exact ih
   ·have:x.1=g':=eB hx'
    subst this
    simp[hne]
  ·have:x.1=g:=eB hx
   subst this
   simp only[cond_true,look]
   cases hx':Nat.beq x.1 g'
   ·have hne:g'≠x.1:=fun e=>by rw[e,hx] at hx'; cases hx'
    simp only[cond_false]; rw[if_neg hne]
   ·have:x.1=g':=eB hx'
    simp[this]
theorem ZO (x:Nat×Blk) (h:Heap) (g:Nat):look (x::h) g=if g=x.1 then some x.2 else look h g:=by
 simp only[look]
 cases hx:Nat.beq x.1 g
 ·have hne:g≠x.1:=fun e=>by rw[e,Nat.beq_refl] at hx; cases hx
  simp[hne]
 ·simp[eB hx]
theorem VZ (h:Heap) (g g':Nat):look (kill h g) g'=if g'=g then none else look h g':=by
 induction h with
 | nil=>simp[kill,look]
 | cons x h ih =>
  unfold kill at *
  rw[List.filter_cons]
  cases hx:Nat.beq x.1 g
  ·have hne:x.1≠g:=fun e=>by rw[e,Nat.beq_refl] at hx; cases hx
   simp only[Bool.not_false,if_true]
   rw[ZO,ZO,ih]
   by_cases h1:g'=x.1
   ·subst h1; simp[hne]
   ·simp[h1]
  ·have:x.1=g:=eB hx
   simp only[Bool.not_true,Bool.false_eq_true,if_false]
   rw[ZO,ih]
   by_cases h1:g'=g
   ·simp[h1]
   ·simp[h1,this]
end Go.Proofs.YtagacmljbgkmoaaGreatDoor.Sy
namespace Go.Proofs.YtagacmljbgkmoaaGreatDoor.Sy
open Go.IntKind (u8 u16 u32 u64 i64)
open Go.RowKit
def IsC (r:Ren) (k:Blk) (g:Nat) (w:World):Prop :=
 ∃ (arr:Array Value) (ty:TypeId) (fr:Nat×Nat),w.heap[r.b g]? = some (.cells arr ty fr) ∧
  (match k.op with|none=>r.w g=0∧arr.size=k.cells.length|some p=>(k.rw=false∨(r.w g=0∧arr.size=r.c p.1*p.2))∧r.w g+k.cells.length≤arr.size) ∧
  (∀ (j:Nat) (v:Value),k.cells[j]? = some v→arr[r.w g+j]? = some (r.val v))∧(k.rw=true→∀ (j:Nat),j<arr.size→¬ (fr.1≤j∧j<fr.2))
def Is (r:Ren) (k:Blk) (g:Nat) (w:World):Prop :=
 (k.it=none∧IsC r k g w)∨∃ x,k.it=some x∧w.heap[r.b g]? = some (.stringIter x.1 x.2)∧k.cells=[]∧k.op=none∧r.w g=0
theorem Is.c {r:Ren} {k:Blk} {g:Nat} {w:World} (h:Is r k g w) (hk:k.it=none):IsC r k g w:=by
 rcases h with⟨_,h⟩|⟨x,h1,_⟩
 ·exact h
 ·rw[hk] at h1; cases h1
theorem Is.open {r:Ren} {k:Blk} {g:Nat} {w:World} (h:Is r k g w) {p:Nat×Nat} (hk:k.op=some p):IsC r k g w:=by
 rcases h with⟨_,h⟩|⟨x,_,_,_,h1,_⟩
 ·exact h
 ·rw[hk] at h1; cases h1
theorem Wg {x:Option (ByteArray×Nat)} (h:Zbt x=true):x=none:=by
 cases x with
 | none=>rfl
 | some _=>cases h
def ZjE (n:Nat→Bool) (k:Blk):Prop:=(∀ p,k.op=some p→n p.1=true)∧∀ v∈k.cells,bnd n v=true∧v.oneCell'=true
def Yb (r:Ren) (n n':Nat):Prop:=∀ g,n≤g→g<n'→r.d g=false
structure Good (r:Ren) (s:St) (w:World):Prop where
 is:∀ g k,look s.h g=some k→Is r k g w
 inj:∀ g g' k k',look s.h g=some k→look s.h g'=some k'→k.rw=true→r.b g=r.b g'→g=g'
 lt:∀ g k,look s.h g=some k→r.d g=true∧ZjE r.d k
 lo:∀ x∈s.lo,x.2≤r.c x.1∧r.d x.1=true
theorem Good.inj' {r:Ren} {s:St} {w:World} (h:Good r s w) {g g':Nat} {k k':Blk} (h1:look s.h g=some k) (h2:look s.h g'=some k') (hrw:k'.rw=true) (e:r.b g=r.b g'):g=g' :=
 (h.inj g' g k' k h2 h1 hrw e.symm).symm
def WFn (s:St):Prop:=(∀ g k,look s.h g=some k→g<s.n)∧∀ x∈s.lo,x.1<s.n
def Q9 (s s':St):Prop:=s.n≤s'.n∧(s'.O→s.O)∧(WFn s→WFn s')
structure To (r:Ren) (s:St) (w:World) (r':Ren) (s':St) (w':World):Prop where
 ext:Ext r r'
 dom:∀ g,r'.d g=true→r.d g=true∨(s.n≤g∧g<s'.n)
 le:s.n≤s'.n
 good0:Good r s w
 good:Good r' s' w'
 os:w'.os=w.os
 tape:w'.tape=w.tape
 output:w'.output=w.output
 size:w.heap.size≤w'.heap.size
 frame:∀ b,b<w.heap.size→(∀ g k,look s.h g=some k→k.rw=true→r.b g≠b)→w'.heap[b]? = w.heap[b]?
 own:∀ g k,look s'.h g=some k→(∃ k0,look s.h g=some k0∧(k.rw=true→k0.rw=true))∨w.heap.size≤r'.b g∨∃ g0 k0,look s.h g0=some k0∧k0.rw=true∧r.b g0=r'.b g
section
variable {r r1 r2:Ren} {s s1 s2:St} {w w1 w2:World}
theorem To.refl (h:Good r s w):To r s w r s w :=
 ⟨Ext.refl _,fun _ h => .inl h,Nat.le_refl _,h,h,rfl,rfl,rfl,Nat.le_refl _,fun _ _ _=>rfl,fun _ k hg => .inl ⟨k,hg,id⟩⟩
theorem To.trans (h:To r s w r1 s1 w1) (h':To r1 s1 w1 r2 s2 w2):To r s w r2 s2 w2:=by
 refine⟨h.ext.trans h'.ext,fun g hg => ?_,Nat.le_trans h.le h'.le,h.good0,h'.good,h'.os.trans h.os,h'.tape.trans h.tape,h'.output.trans h.output,Nat.le_trans h.size h'.size,?_,?_⟩
 ·rcases h'.dom g hg with h1|h1
  ·rcases h.dom g h1 with h2|h2
   ·exact .inl h2
   ·have:=h'.le; exact .inr ⟨h2.1,by omega⟩
  ·have:=h.le; exact .inr ⟨by omega,h1.2⟩
 ·intro b hb hn
  refine(h'.frame b (Nat.lt_of_lt_of_le hb h.size) ?_).trans (h.frame b hb hn)
  intro g k hg hk e
  rcases h.own g k hg with⟨k0,h1,h2⟩|h1|⟨g0,k0,h1,h2,h3⟩
  ·exact hn g k0 h1 (h2 hk) ((h.ext.b g (h.good0.lt g k0 h1).1).symm.trans e)
  ·omega
  ·exact hn g0 k0 h1 h2 (h3.trans e)
 ·intro g k hg
  rcases h'.own g k hg with⟨k1,h1,h2⟩|h1|⟨g0,k0,h1,h2,h3⟩
  ·have he:r2.b g=r1.b g:=h'.ext.b g (h.good.lt g k1 h1).1
   rcases h.own g k1 h1 with⟨k0,h3,h4⟩|h3|⟨g0,k0,h3,h4,h5⟩
   ·exact .inl ⟨k0,h3,fun hk=>h4 (h2 hk)⟩
   ·exact .inr (.inl (by omega))
   ·exact .inr (.inr ⟨g0,k0,h3,h4,h5.trans he.symm⟩)
  ·exact .inr (.inl (Nat.le_trans h.size h1))
  ·rcases h.own g0 k0 h1 with⟨k00,h4,h5⟩|h4|⟨g00,k00,h4,h5,h6⟩
   ·exact .inr (.inr ⟨g0,k00,h4,h5 h2,(h.ext.b g0 (h.good0.lt g0 k00 h4).1).symm.trans h3⟩)
   ·exact .inr (.inl (by omega))
   ·exact .inr (.inr ⟨g00,k00,h4,h5,h6.trans h3⟩)
theorem Good.same (h:Good r s w) (hh:s1.h=s.h) (hl:s1.lo=s.lo):Good r s1 w :=
 ⟨by rw[hh]; exact h.is,by rw[hh]; exact h.inj,by rw[hh]; exact h.lt,by rw[hl]; exact h.lo⟩
theorem Yb.sub {n m n' m':Nat} (h:Yb r n m) (h1:n≤n') (h2:m'≤m):Yb r n' m':=fun _ hg hl=>h _ (by omega) (by omega)
theorem To.fresh {n:Nat} (h:To r s w r1 s1 w1) (hf:Yb r s.n n):Yb r1 s1.n n:=fun g hg hl=>by
 cases hd:r1.d g
 ·rfl
 ·rcases h.dom g hd with h1|h1
  ·have:=h.le; rw[hf g (by omega) hl] at h1; cases h1
  ·omega
theorem To.same (h:Good r s w) (hn:s1.n=s.n) (hh:s1.h=s.h) (hl:s1.lo=s.lo):To r s w r s1 w :=
 ⟨Ext.refl _,fun _ h => .inl h,Nat.le_of_eq hn.symm,h,h.same hh hl,rfl,rfl,rfl,Nat.le_refl _,fun _ _ _=>rfl,fun g k hg => .inl ⟨k,by rw[← hh]; exact hg,id⟩⟩
theorem Ve (t:Bool) (s:St):(test t s).2.n=s.n∧(test t s).2.h=s.h∧(test t s).2.lo=s.lo∧(test t s).2.esc=s.esc∧((test t s).2.O→s.O∧(test t s).1=t):=by
 unfold test
 split
 ·exact⟨rfl,rfl,rfl,rfl,fun h=>⟨h,rfl⟩⟩
 ·rename_i c T _
  cases Nat.beq c.1 s.k
  ·exact⟨rfl,rfl,rfl,rfl,fun h=>⟨h,rfl⟩⟩
  ·exact⟨rfl,rfl,rfl,rfl,fun h=>⟨h.1,h.2.symm⟩⟩
theorem XS (t:Bool) (s:St):(test t s).2.n=s.n:=(Ve t s).1
theorem ZaB (t:Bool) (s:St):(test t s).2.h=s.h:=(Ve t s).2.1
theorem Jh (t:Bool) (s:St):(test t s).2.lo=s.lo:=(Ve t s).2.2.1
theorem X9 (t:Bool) (s:St) (h:(test t s).2.O):s.O:=((Ve t s).2.2.2.2 h).1
theorem Wa (t:Bool) (s:St) (h:(test t s).2.O):(test t s).1=t:=((Ve t s).2.2.2.2 h).2
theorem To.test (h:Good r s w) (t:Bool):To r s w r (test t s).2 w:=.same h (XS t s) (ZaB t s) (Jh t s)
theorem Zc8 (t:Bool) (s:St):(ask t s).2.n=s.n:=rfl
theorem Zme (t:Bool) (s:St):(ask t s).2.h=s.h:=rfl
theorem Yc (t:Bool) (s:St) (h:(ask t s).2.O):s.O:=by
 cases t
 ·exact False.elim h
 ·exact h
theorem J7 (t:Bool) (s:St) (h:(ask t s).2.O):(ask t s).1=t:=by
 cases t
 ·exact False.elim h
 ·rfl
theorem Xr (t:Bool) (s:St) (h:(ask t s).2.O):t=true:=(J7 t s h).symm
theorem To.ask (h:Good r s w) (t:Bool):To r s w r (ask t s).2 w:=.same h rfl rfl rfl
theorem Good.of_lo (h:Good r s w) (k:Nat):ZjS s.lo k≤r.c k:=by
 have hl:=h.lo
 generalize s.lo=l at hl
 induction l with
 | nil=>simp[ZjS]
 | cons x l ih =>
  simp only[ZjS]
  cases hx:Nat.beq x.1 k
  ·exact ih fun y hy=>hl y (List.mem_cons_of_mem _ hy)
  ·have:=eB hx
   subst this
   exact(hl x (List.mem_cons_self ..)).1
theorem Good.cap (h:Good r s w) (c:Nat):Zbu s c≤r.cap c:=by
 unfold Zbu Ren.cap
 cases Nat.blt c big
 ·exact h.of_lo _
 ·exact Nat.le_refl _
end
theorem add_plain (b o n:Nat):(⟨b,o,none⟩:Addr).add n=⟨b,o+n,none⟩:=by
 unfold Addr.add
 split
 ·rename_i h; subst h; rfl
 ·rfl
theorem QS (r:Ren) (a:Addr) (h:a.spot=none):r.addr a=⟨r.b a.block,r.w a.block+a.off,none⟩:=by
 unfold Ren.addr; rw[h]
theorem Zf3 (r:Ren) (a:Addr) (n:Nat) (h:a.spot=none):r.addr (a.add n)=(r.addr a).add n:=by
 have:a=⟨a.block,a.off,none⟩:=by cases a; simp at h; subst h; rfl
 rw[this,add_plain,QS r _ rfl,QS r _ rfl,add_plain,Nat.add_assoc]
theorem Zci (a:Addr) (n:Nat) (h:a.spot=none):Zhk a n=a.add n:=by
 have:a=⟨a.block,a.off,none⟩:=by cases a; simp at h; subst h; rfl
 rw[this,add_plain]; rfl
theorem WY (r:Ren) (a:Addr) (n:Nat) (h:a.spot=none):r.addr (Zhk a n)=(r.addr a).add n:=by rw[Zci a n h,Zf3 r a n h]
section
variable {P:Program} {r:Ren} {s s':St} {w:World}
theorem Is.cell {k:Blk} {g:Nat} (h:Is r k g w) {j:Nat} {v:Value} (hv:k.cells[j]? = some v):w.cell? ⟨r.b g,r.w g+j,none⟩=some (r.val v):=by
 rcases h with⟨_,h⟩|⟨x,_,_,h,_⟩
 rotate_left
 ·rw[h] at hv; cases hv
 obtain⟨arr,ty,fr,h1,_,h3,_⟩:=h
 unfold World.cell?
 simp only[h1,Option.isSome_none,Bool.false_eq_true,if_false]
 exact h3 j v hv
theorem Is.heap {k:Blk} {g:Nat} {w':World} (h:Is r k g w) (hw:w'.heap[r.b g]? = w.heap[r.b g]?):Is r k g w':=by
 rcases h with⟨hi,arr,ty,fr,h1,h2⟩|⟨x,h1,h2,h3⟩
 ·exact .inl ⟨hi,arr,ty,fr,hw.trans h1,h2⟩
 ·exact .inr ⟨x,h1,hw.trans h2,h3⟩
theorem Is.lt {k:Blk} {g:Nat} (h:Is r k g w):r.b g<w.heap.size:=by
 have h1:∃ o,w.heap[r.b g]? = some o:=by
  rcases h with⟨_,arr,ty,fr,h1,_⟩|⟨x,_,h1,_⟩
  ·exact⟨_,h1⟩
  ·exact⟨_,h1⟩
 obtain⟨o,h1⟩:=h1
 rcases Nat.lt_or_ge (r.b g) w.heap.size with hl|hl
 ·exact hl
 ·rw[Array.getElem?_eq_none hl] at h1; cases h1
theorem Vf {a:Addr} {n:Nat} {l:List Value} (h:X8 s a n=some (l,s')) (hg:Good r s w) (hO:s'.O) :
  (loadCells (r.addr a) n).run P w = .ok (l.map r.val).toArray w∧l.length=n∧a.spot=none∧∀ v∈l,bnd r.d v=true∧v.oneCell'=true:=by
 unfold X8 at h
 cases hs:a.spot with
 | some _=>rw[hs] at h; cases h
 | none =>
  rw[hs] at h
  simp only[] at h
  obtain⟨k,hk,h⟩:=oB h
  cases hit:Zbt k.it
  ·rw[hit] at h; cases h
  rw[hit] at h
  simp only[cond_true,Option.some.injEq,Prod.mk.injEq] at h
  obtain⟨rfl,rfl⟩:=h
  have hn:=Xr _ _ hO
  rw[Yz] at hn
  have hl:((k.cells.drop a.off).take n).length=n:=by simp; omega
  refine⟨?_,hl,rfl,?_⟩
  ·rw[QS r a hs]
   have:=run_loadCells_list (P:=P) w ⟨r.b a.block,r.w a.block+a.off,none⟩ (((k.cells.drop a.off).take n).map r.val) (fun j v hj=>by
    rw[add_plain,Nat.add_assoc]
    rw[List.getElem?_map,Option.map_eq_some_iff] at hj
    obtain⟨u,hu,rfl⟩:=hj
    rw[List.getElem?_take] at hu
    split at hu
    ·rw[List.getElem?_drop] at hu
     exact(hg.is _ _ hk).cell hu
    ·cases hu)
   rw[List.length_map,hl] at this
   exact this
  ·intro v hv
   exact(hg.lt _ _ hk).2.2 v (List.mem_of_mem_drop (List.mem_of_mem_take hv))
def Ren.with (r:Ren) (n b c:Nat):Ren:=⟨fun g=>if g=n then(if g<NG then g else b) else r.b g,fun g=>if g=n then 0 else r.w g,r.o,fun g=>if g=n then c else r.c g,fun g=>Nat.beq g n||r.d g,
 fun g hg=>by
  by_cases h:g=n
  ·simp only[h,if_true]; rw[if_pos (h▸hg)]
  ·simp only[if_neg h]; exact r.hb g hg,
 fun g hg=>by
  by_cases h:g=n
  ·simp only[h,if_true]
  ·simp only[if_neg h]; exact r.hw g hg,
 fun g hg=>by simp[r.hd g hg]⟩
theorem Ren.far {r:Ren} {n:Nat} (h:r.d n=false):¬ n<NG:=fun hl=>by rw[r.hd n hl] at h; cases h
theorem Ren.with_b (r:Ren) (n b c:Nat) (h:r.d n=false):(r.with n b c).b n=b:=by simp[Ren.with,Ren.far h]
theorem Ren.with_c (r:Ren) (n b c:Nat):(r.with n b c).c n=c:=by simp[Ren.with]
theorem Ren.with_w (r:Ren) (n b c:Nat):(r.with n b c).w n=0:=by simp[Ren.with]
theorem Ren.with_d (r:Ren) (n b c:Nat):(r.with n b c).d n=true:=by simp[Ren.with]
theorem Vw {r:Ren} {n g:Nat} (h:r.d n=false) (hg:r.d g=true):g≠n:=fun e=>by rw[e,h] at hg; cases hg
theorem Ren.with_ext {r:Ren} {n:Nat} (h:r.d n=false) (b c:Nat):Ext r (r.with n b c) :=
 ⟨fun g hg=>by simp[Ren.with,hg],fun g hg=>if_neg (Vw h hg),fun g hg=>if_neg (Vw h hg),fun g _=>rfl,fun g hg=>if_neg (Vw h hg)⟩
theorem Ren.with_dom {r:Ren} {n b c g:Nat} (h:(r.with n b c).d g=true):r.d g=true∨(n≤g∧g<n+1):=by
 simp only[Ren.with,Bool.or_eq_true] at h
 rcases h with h|h
 ·have:=eB h; exact .inr (by omega)
 ·exact .inl h
theorem Is.ext {r':Ren} {k:Blk} {g:Nat} {w':World} (h:Is r k g w) (he:Ext r r') (hg:r.d g=true) (hk:ZjE r.d k) (hw:w'.heap[r.b g]? = w.heap[r.b g]?):Is r' k g w':=by
 rcases h with⟨hi,h⟩|⟨x,h1,h2,h3⟩
 rotate_left
 ·exact .inr ⟨x,h1,by rw[he.b g hg,hw]; exact h2,h3.1,h3.2.1,by rw[he.w g hg]; exact h3.2.2⟩
 refine .inl ⟨hi,?_⟩
 obtain⟨arr,ty,fr,h1,h2,h3,h4⟩:=h
 refine⟨arr,ty,fr,?_,?_,?_,h4⟩
 ·rw[he.b g hg,hw]; exact h1
 ·cases hop:k.op with
  | none=>rw[hop] at h2; simp only[] at h2 ⊢; rw[he.w g hg]; exact h2
  | some p=>rw[hop] at h2; simp only[] at h2 ⊢; rw[he.c p.1 (hk.1 p hop),he.w g hg]; exact h2
 ·intro j v hj
  rw[he.w g hg,XE he v (hk.2 v (List.mem_of_getElem? hj)).1]
  exact h3 j v hj
theorem ZjE.mono {n m:Nat→Bool} {k:Blk} (h:ZjE n k) (hm:∀ g,n g=true→m g=true):ZjE m k :=
 ⟨fun p hp=>hm _ (h.1 p hp),fun v hv=>⟨Yy hm v (h.2 v hv).1,(h.2 v hv).2⟩⟩
theorem Zcj (hg:Good r s w) (hfr:r.d s.n=false) (op:Option (Nat×Nat)) (cells:List Value) (arr:Array Value) (ty:TypeId) (fr:Nat×Nat) (c d:Nat)
  (lo:List (Nat×Nat)) (hlo:lo=s.lo∨∃ m,lo=(s.n,m)::s.lo∧m≤c)
  (hb:∀ v∈cells,bnd r.d v=true∧v.oneCell'=true)
  (hop:(op=none∧arr.size=cells.length)∨∃ sz,op=some (s.n,sz)∧arr.size=c*sz∧cells.length≤arr.size)
  (hc:∀ (j:Nat) (v:Value),cells[j]? = some v→arr[j]? = some (r.val v)) (hf:∀ (j:Nat),j<arr.size→¬ (fr.1≤j∧j<fr.2)) (esc:Nat) :
  To r s w (r.with s.n w.heap.size c) { Xh s op cells with lo:=lo,esc:=esc } { w with heap:=w.heap.push (.cells arr ty fr),drawn:=d }:=by
 have he:=Ren.with_ext hfr w.heap.size c
 have hold:∀ g k,look s.h g=some k→({ w with heap:=w.heap.push (.cells arr ty fr),drawn:=d }:World).heap[r.b g]? = w.heap[r.b g]?:=by
  intro g k hk
  have:=(hg.is g k hk).lt
  show(w.heap.push _)[r.b g]? = _
  rw[Array.getElem?_push,if_neg (by omega)]
 have hlk:∀ g k,look ((s.n,(⟨true,op,cells,none⟩:Blk))::s.h) g=some k→(g=s.n∧k=⟨true,op,cells,none⟩)∨(g≠s.n∧look s.h g=some k):=by
  intro g k hk
  rw[ZO] at hk
  split at hk
  ·rename_i e; exact .inl ⟨e,(Option.some.inj hk).symm⟩
  ·rename_i e; exact .inr ⟨e,hk⟩
 refine⟨he,fun g hg=>Ren.with_dom hg,Nat.le_succ _,hg,⟨?_,?_,?_,?_⟩,rfl,rfl,rfl,by simp,?_,?_⟩
 ·intro g k hk
  rcases hlk g k hk with⟨rfl,rfl⟩|⟨hne,hk⟩
  ·refine .inl ⟨rfl,arr,ty,fr,?_,?_,?_,fun _=>hf⟩
   ·rw[Ren.with_b _ _ _ _ hfr]
    show(w.heap.push _)[w.heap.size]? = _
    simp
   ·rcases hop with⟨rfl,h⟩|⟨sz,rfl,h1,h2⟩
    ·exact⟨Ren.with_w _ _ _ _,h⟩
    ·simp only[Ren.with_c,Ren.with_w]; exact⟨.inr ⟨trivial,h1⟩,by omega⟩
   ·intro j v hj
    rw[Ren.with_w,Nat.zero_add,XE he v (hb v (List.mem_of_getElem? hj)).1]
    exact hc j v hj
  ·exact(hg.is g k hk).ext he (hg.lt g k hk).1 (hg.lt g k hk).2 (hold g k hk)
 ·intro g g' k k' h1 h2 hrw h3
  rcases hlk g k h1 with⟨rfl,rfl⟩|⟨hne,hk⟩<;>rcases hlk g' k' h2 with⟨rfl,rfl⟩|⟨hne',hk'⟩
  ·rfl
  ·rw[Ren.with_b _ _ _ _ hfr,he.b g' (hg.lt g' k' hk').1] at h3
   have:=(hg.is g' k' hk').lt
   omega
  ·rw[Ren.with_b _ _ _ _ hfr,he.b g (hg.lt g k hk).1] at h3
   have:=(hg.is g k hk).lt
   omega
  ·rw[he.b g (hg.lt g k hk).1,he.b g' (hg.lt g' k' hk').1] at h3
   exact hg.inj g g' k k' hk hk' hrw h3
 ·intro g k hk
  rcases hlk g k hk with⟨rfl,rfl⟩|⟨hne,hk⟩
  ·refine⟨Ren.with_d _ _ _ _,fun p hp => ?_,fun v hv=>⟨Yy he.d v (hb v hv).1,(hb v hv).2⟩⟩
   rcases hop with⟨rfl,_⟩|⟨sz,rfl,_⟩
   ·cases hp
   ·cases hp; exact Ren.with_d _ _ _ _
  ·exact⟨he.d g (hg.lt g k hk).1,(hg.lt g k hk).2.mono he.d⟩
 ·intro x hx
  have hx':x∈s.lo→x.2≤(r.with s.n w.heap.size c).c x.1∧(r.with s.n w.heap.size c).d x.1=true:=fun h=>by
   have:=hg.lo x h
   rw[he.c x.1 this.2]
   exact⟨this.1,he.d _ this.2⟩
  rcases hlo with rfl|⟨m,rfl,hm⟩
  ·exact hx' hx
  ·rcases List.mem_cons.1 hx with rfl|hx
   ·exact⟨by rw[Ren.with_c]; exact hm,Ren.with_d _ _ _ _⟩
   ·exact hx' hx
 ·intro b hb _
  show(w.heap.push _)[b]? = _
  rw[Array.getElem?_push,if_neg (by omega)]
 ·intro g k hk
  rcases hlk g k hk with⟨rfl,rfl⟩|⟨hne,hk⟩
  ·exact .inr (.inl (by rw[Ren.with_b _ _ _ _ hfr]; exact Nat.le_refl _))
  ·exact .inl ⟨k,hk,id⟩
theorem ZhY (hg:Good r s w) (hfr:r.d s.n=false) (t:ByteArray) :
  To r s w (r.with s.n w.heap.size 0) { s with n:=s.n+1,h:=(s.n,⟨true,none,[],some (t,0)⟩)::s.h } { w with heap:=w.heap.push (.stringIter t 0) }:=by
 have he:=Ren.with_ext hfr w.heap.size 0
 have hold:∀ g k,look s.h g=some k→({ w with heap:=w.heap.push (.stringIter t 0) }:World).heap[r.b g]? = w.heap[r.b g]?:=by
  intro g k hk
  have:=(hg.is g k hk).lt
  show(w.heap.push _)[r.b g]? = _
  rw[Array.getElem?_push,if_neg (by omega)]
 have hlk:∀ g k,look ((s.n,(⟨true,none,[],some (t,0)⟩:Blk))::s.h) g=some k→(g=s.n∧k=⟨true,none,[],some (t,0)⟩)∨(g≠s.n∧look s.h g=some k):=by
  intro g k hk
  rw[ZO] at hk
  split at hk
  ·rename_i e; exact .inl ⟨e,(Option.some.inj hk).symm⟩
  ·rename_i e; exact .inr ⟨e,hk⟩
 refine⟨he,fun g hg=>Ren.with_dom hg,Nat.le_succ _,hg,⟨?_,?_,?_,?_⟩,rfl,rfl,rfl,by simp,?_,?_⟩
 ·intro g k hk
  rcases hlk g k hk with⟨rfl,rfl⟩|⟨hne,hk⟩
  ·refine .inr ⟨_,rfl,?_,rfl,rfl,Ren.with_w _ _ _ _⟩
   rw[Ren.with_b _ _ _ _ hfr]
   show(w.heap.push _)[w.heap.size]? = _
   simp
  ·exact(hg.is g k hk).ext he (hg.lt g k hk).1 (hg.lt g k hk).2 (hold g k hk)
 ·intro g g' k k' h1 h2 hrw h3
  rcases hlk g k h1 with⟨rfl,rfl⟩|⟨hne,hk⟩<;>rcases hlk g' k' h2 with⟨rfl,rfl⟩|⟨hne',hk'⟩
  ·rfl
  ·rw[Ren.with_b _ _ _ _ hfr,he.b g' (hg.lt g' k' hk').1] at h3
   have:=(hg.is g' k' hk').lt
   omega
  ·rw[Ren.with_b _ _ _ _ hfr,he.b g (hg.lt g k hk).1] at h3
   have:=(hg.is g k hk).lt
   omega
  ·rw[he.b g (hg.lt g k hk).1,he.b g' (hg.lt g' k' hk').1] at h3
   exact hg.inj g g' k k' hk hk' hrw h3
 ·intro g k hk
  rcases hlk g k hk with⟨rfl,rfl⟩|⟨hne,hk⟩
  ·have hB:ZjE (r.with s.n w.heap.size 0).d ⟨true,none,[],some (t,0)⟩:=⟨fun p hp=>(by cases hp),fun v hv=>(by cases hv)⟩
   exact⟨Ren.with_d _ _ _ _,hB⟩
  ·exact⟨he.d g (hg.lt g k hk).1,(hg.lt g k hk).2.mono he.d⟩
 ·intro x hx
  have:=hg.lo x hx
  rw[he.c x.1 this.2]
  exact⟨this.1,he.d _ this.2⟩
 ·intro b hb _
  show(w.heap.push _)[b]? = _
  rw[Array.getElem?_push,if_neg (by omega)]
 ·intro g k hk
  rcases hlk g k hk with⟨rfl,rfl⟩|⟨hne,hk⟩
  ·exact .inr (.inl (by rw[Ren.with_b _ _ _ _ hfr]; exact Nat.le_refl _))
  ·exact .inl ⟨k,hk,id⟩
theorem ZaC (h:Heap) (g g':Nat) (i:ByteArray×Nat):look (Zhi h g i) g'=if g'=g then(look h g).map fun k=>{ k with it:=some i } else look h g':=by
 induction h with
 | nil=>simp[Zhi,look]
 | cons x h ih =>
  simp only[Zhi]
  cases hb:Nat.beq x.1 g
  ·simp only[cond_false]
   have hx:x.1≠g:=fun e=>by rw[e,Nat.beq_refl] at hb; cases hb
   rw[ZO,ZO,ih,ZO]
   by_cases e:g'=g
   ·subst e
    rw[if_neg (Ne.symm hx),if_pos rfl,if_pos rfl,if_neg (Ne.symm hx)]
   ·rw[if_neg e,if_neg e]
  ·simp only[cond_true]
   have hx:=eB hb
   rw[ZO,ZO,ih,ZO]
   by_cases e:g'=g
   ·subst e; simp[hx]
   ·simp[e,hx]
theorem ZhZ (hg:Good r s w) {g0:Nat} {k:Blk} {i:ByteArray×Nat} (hk:look s.h g0=some k) (hi:k.it=some i) (hrw:k.rw=true) (j:Nat) :
  To r s w r { s with h:=Zhi s.h g0 (i.1,j) } { w with heap:=w.heap.setIfInBounds (r.b g0) (.stringIter i.1 j) }:=by
 have hlt:=(hg.is _ _ hk).lt
 have hcells:k.cells=[]∧k.op=none∧r.w g0=0:=by
  rcases hg.is _ _ hk with⟨h,_⟩|⟨x,_,_,h⟩
  ·rw[hi] at h; cases h
  ·exact h
 have hlk:∀ g k',look (Zhi s.h g0 (i.1,j)) g=some k'→(g=g0∧k'={ k with it:=some (i.1,j) })∨(g≠g0∧look s.h g=some k'):=by
  intro g k' hk'
  rw[ZaC] at hk'
  split at hk'
  ·rename_i e; subst e; rw[hk] at hk'; exact .inl ⟨rfl,(Option.some.inj hk').symm⟩
  ·rename_i e; exact .inr ⟨e,hk'⟩
 have hfar:∀ b',b'≠r.b g0→(w.heap.setIfInBounds (r.b g0) (.stringIter i.1 j))[b']? = w.heap[b']?:=fun b' hb' =>
  Array.getElem?_setIfInBounds_ne (Ne.symm hb')
 refine⟨Ext.refl _,fun _ h => .inl h,Nat.le_refl _,hg,⟨?_,?_,?_,hg.lo⟩,rfl,rfl,rfl,by simp,?_,?_⟩
 ·intro g k' hk'
  rcases hlk g k' hk' with⟨rfl,rfl⟩|⟨hne,hk'⟩
  ·exact .inr ⟨_,rfl,by simp[hlt],hcells⟩
  ·exact(hg.is g k' hk').heap (hfar _ fun e=>hne (hg.inj' hk' hk hrw e))
 ·intro g g' k1 k2 h5 h6 h8 h7
  rcases hlk g k1 h5 with⟨e1,_⟩|⟨_,q5⟩<;>rcases hlk g' k2 h6 with⟨e2,_⟩|⟨_,q6⟩
  ·rw[e1,e2]
  ·rw[e1] at h7 ⊢; exact hg.inj _ _ k k2 hk q6 hrw h7
  ·rw[e2] at h7 ⊢; exact hg.inj _ _ k1 k q5 hk h8 h7
  ·exact hg.inj _ _ k1 k2 q5 q6 h8 h7
 ·intro g k' hk'
  rcases hlk g k' hk' with⟨rfl,rfl⟩|⟨hne,hk'⟩
  ·exact⟨(hg.lt _ _ hk).1,(hg.lt _ _ hk).2⟩
  ·exact hg.lt _ _ hk'
 ·intro b' _ hb'
  exact hfar _ fun e=>hb' g0 k hk hrw e.symm
 ·intro g k' hk'
  rcases hlk g k' hk' with⟨rfl,rfl⟩|⟨hne,hk'⟩
  ·exact .inl ⟨k,hk,id⟩
  ·exact .inl ⟨k',hk',id⟩
theorem Zbx (hg:Good r s w) (hfr:r.d s.n=false) (cells:List Value) (ty:TypeId) (hb:∀ v∈cells,bnd r.d v=true∧v.oneCell'=true) :
  To r s w (r.with s.n w.heap.size 0) (Xh s none cells) { w with heap:=w.heap.push (.cells (cells.map r.val).toArray ty) }:=by
 have:=Zcj hg hfr none cells (cells.map r.val).toArray ty (0,0) 0 w.drawn s.lo (.inl rfl) hb (.inl ⟨rfl,by simp⟩) (fun j v hj=>by simp[hj]) (fun j _ h=>by simp at h) s.esc
 exact this
end
theorem Zck (xs:Array Obj) (b:Nat) (o:Obj) (h:xs[b]? = some o):xs.setIfInBounds b o=xs:=by
 apply Array.ext_getElem?
 intro i
 rw[Array.getElem?_setIfInBounds]
 split
 ·rename_i e; subst e
  split
  ·exact h.symm
  ·rename_i hlt; rw[Array.getElem?_eq_none (by omega)] at h; cases h
 ·rfl
theorem Zby (w:World) (b off:Nat) (v:Value) (arr:Array Value) (ty:TypeId) (fr:Nat×Nat) (h:w.heap[b]? = some (.cells arr ty fr)) :
  w.setCell ⟨b,off,none⟩ v={ w with heap:=w.heap.setIfInBounds b (.cells (arr.setIfInBounds off v) ty fr) }:=by
 unfold World.setCell
 congr 1
 apply Array.ext_getElem?
 intro i
 rw[Array.getElem?_modify,Array.getElem?_setIfInBounds]
 by_cases hi:b=i
 ·subst hi
  simp only[if_true,h,Option.map_some,Option.isSome_none,Bool.false_eq_true,if_false]
  split
  ·rfl
  ·rename_i hlt; rw[Array.getElem?_eq_none (by omega)] at h; cases h
 ·simp[hi]
theorem YZ (P:Program) (b off:Nat) (ty:TypeId) (fr:Nat×Nat):∀ (vs:List Value) (i:Nat) (arr:Array Value) (w:World),
  w.heap[b]? = some (.cells arr ty fr)→off+i+vs.length≤arr.size→(∀ v∈vs,v.oneCell'=true)→(∀ j,j<arr.size→¬ (fr.1≤j∧j<fr.2)) →
  ∃ arr':Array Value,(storeCells ⟨b,off,none⟩ vs i).run P w = .ok () { w with heap:=w.heap.setIfInBounds b (.cells arr' ty fr) }∧arr'.size=arr.size ∧
   ∀ j:Nat,arr'[j]? = if off+i≤j∧j<off+i+vs.length then vs[j-(off+i)]? else arr[j]?
 | [],i,arr,w,h,_,_,_=>⟨arr,by simp[storeCells,Zck _ _ _ h],rfl,fun j=>by rw[if_neg (by simp)]⟩
 | v::vs,i,arr,w,h,hl,h1,hf=>by
  simp only[List.length_cons] at hl
  have hlt:off+i<arr.size:=by omega
  have hb:b<w.heap.size:=by
   rcases Nat.lt_or_ge b w.heap.size with hb|hb
   ·exact hb
   ·rw[Array.getElem?_eq_none hb] at h; cases h
  have hc:w.cell? ⟨b,off+i,none⟩=some arr[off+i]:=by
   unfold World.cell?
   simp[h,hlt]
  have hz:w.frozen? ⟨b,off+i,none⟩=false:=by
   unfold World.frozen?
   simp only[h]
   have:=hf (off+i) hlt
   cases h1:decide (fr.1≤off+i)<;>simp_all
  have hs:(store ((⟨b,off,none⟩:Addr).add i) v).run P w = .ok () (w.setCell ⟨b,off+i,none⟩ v):=by
   rw[add_plain,run_store P w _ v .plain (h1 v (List.mem_cons_self ..)),hc]
   simp only[hz,Bool.false_eq_true,if_false]
  rw[Zby w b _ v arr ty fr h] at hs
  obtain⟨arr',e1,e2,e3⟩:=YZ P b off ty fr vs (i+1) (arr.setIfInBounds (off+i) v) { w with heap:=w.heap.setIfInBounds b (.cells (arr.setIfInBounds (off+i) v) ty fr) }
   (by simp[hb]) (by simp; omega) (fun u hu=>h1 u (List.mem_cons_of_mem _ hu)) (fun j hj=>hf j (by simpa using hj))
  refine⟨arr',?_,by rw[e2]; simp,fun j => ?_⟩
  ·simp only[storeCells,Sem.run_bind,hs,Result.andThen_ok,e1]
   simp
  ·rw[e3 j]
   by_cases hj:off+(i+1)≤j∧j<off+(i+1)+vs.length
   ·rw[if_pos hj,if_pos (by simp only[List.length_cons]; omega)]
    rw[show j-(off+i)=(j-(off+(i+1)))+1 by omega]
    simp
   ·rw[if_neg hj]
    by_cases hj':j=off+i
    ·subst hj'
     rw[if_pos (by simp only[List.length_cons]; omega)]
     simp[hlt]
    ·rw[if_neg (by simp only[List.length_cons]; omega),Array.getElem?_setIfInBounds_ne (by omega)]
theorem ZaD {n:Nat} {vs l:List Value} (h:n+vs.length≤l.length) {v:Value} (hv:v∈ZC n vs l):v∈vs∨v∈l:=by
 obtain⟨j,hj,rfl⟩:=List.getElem_of_mem hv
 have:=YI l n vs j h
 rw[List.getElem?_eq_getElem hj] at this
 split at this
 ·exact .inl (List.mem_of_getElem? this.symm)
 ·exact .inr (List.mem_of_getElem? this.symm)
section
variable {P:Program} {r:Ren} {s s':St} {w:World}
theorem V0 {sc:Bool} {a:Addr} {vs:List Value} (h:Wu sc s a vs=some s') (hO:s'.O):s.O:=by
 unfold Wu at h
 split at h
 ·cases h
 obtain⟨k,_,h⟩:=oB h
 cases hc:(k.rw&&Zbt k.it)
 ·rw[hc] at h; cases h
 rw[hc] at h
 simp only[cond_true,Option.some.injEq] at h
 subst h
 exact Yc _ s hO
theorem Kp {sc:Bool} {a:Addr} {vs:List Value} (h:Wu sc s a vs=some s') (hg:Good r s w) (hv:∀ v∈vs,bnd r.d v=true) (hO:s'.O) :
  a.spot=none∧s.O∧∃ w',(storeCells (r.addr a) (vs.map r.val)).run P w = .ok () w'∧To r s w r s' w':=by
 unfold Wu at h
 simp only[ZR] at h
 cases hs:a.spot with
 | some _=>rw[hs] at h; cases h
 | none =>
  rw[hs] at h
  simp only[] at h
  obtain⟨k,hk,h⟩:=oB h
  cases hc:(k.rw&&Zbt k.it)
  ·rw[hc] at h; cases h
  rw[hc] at h
  simp only[cond_true,Option.some.injEq] at h
  subst h
  rw[Bool.and_eq_true] at hc
  obtain⟨hrw,hit⟩:=hc
  have hq:=Xr _ s hO
  have hOs:=Yc _ s hO
  rw[Bool.and_eq_true,Bool.and_eq_true] at hq
  obtain⟨⟨hn,ho⟩,_⟩:=hq
  rw[Yz] at hn
  have ho':∀ v∈vs,v.oneCell'=true:=fun v hv=>List.all_eq_true.1 ho v hv
  refine⟨rfl,hOs,?_⟩
  obtain⟨arr,ty,fr,h1,h2,h3,h4⟩:=(hg.is _ _ hk).c (Wg hit)
  have h4:=h4 hrw
  have hw0:r.w a.block=0:=by
   cases hop:k.op with
   | none=>rw[hop] at h2; exact h2.1
   | some p =>
    rw[hop] at h2
    rcases h2.1 with h|h
    ·rw[hrw] at h; cases h
    ·exact h.1
  have hsz:k.cells.length≤arr.size:=by
   cases hop:k.op with
   | none=>rw[hop] at h2; simp only[] at h2; omega
   | some p=>rw[hop] at h2; simp only[] at h2; omega
  rw[QS r a hs,hw0,Nat.zero_add]
  obtain⟨arr',e1,e2,e3⟩:=YZ P (r.b a.block) a.off ty fr (vs.map r.val) 0 arr w h1 (by simp; omega) (fun v hv=>by
   obtain⟨u,hu,rfl⟩:=List.mem_map.1 hv
   rw[Jg]; exact ho' u hu) h4
  have hlt:=(hg.is _ _ hk).lt
  have hlk:∀ g k',look (upd s.h a.block (ZC a.off vs k.cells)) g=some k'→(g=a.block∧k'={ k with cells:=ZC a.off vs k.cells })∨(g≠a.block∧look s.h g=some k'):=by
   intro g k' hk'
   rw[Zch] at hk'
   split at hk'
   ·rename_i e; subst e; rw[hk] at hk'; exact .inl ⟨rfl,(Option.some.inj hk').symm⟩
   ·rename_i e; exact .inr ⟨e,hk'⟩
  have hfar:∀ b',b'≠r.b a.block→(w.heap.setIfInBounds (r.b a.block) (.cells arr' ty fr))[b']? = w.heap[b']?:=fun b' hb' =>
   Array.getElem?_setIfInBounds_ne (Ne.symm hb')
  refine⟨_,e1,⟨Ext.refl _,fun _ h => .inl h,Nat.le_refl _,hg,⟨?_,?_,?_,hg.lo⟩,rfl,rfl,rfl,by simp,?_,?_⟩⟩
  ·intro g k' hk'
   rcases hlk g k' hk' with⟨rfl,rfl⟩|⟨hne,hk'⟩
   ·refine .inl ⟨Wg hit,arr',ty,fr,by simp[hlt],?_,?_,fun _ j hj=>h4 j (by omega)⟩
    ·cases hop:k.op with
     | none=>rw[hop] at h2; simp only[XR] at h2 ⊢; omega
     | some p =>
      rw[hop] at h2
      simp only[XR] at h2 ⊢
      rw[e2]; exact h2
    ·intro j v hj
     simp only[] at hj
     rw[YI _ _ _ _ hn] at hj
     rw[hw0,Nat.zero_add,e3 j]
     rw[hw0] at h3
     simp only[Nat.zero_add] at h3
     simp only[Nat.add_zero,List.length_map]
     split at hj
     ·rename_i hc; rw[if_pos hc,List.getElem?_map,hj]; rfl
     ·rename_i hc; rw[if_neg hc]; exact h3 j v hj
   ·exact(hg.is g k' hk').heap (hfar _ fun e=>hne (hg.inj' hk' hk hrw e))
  ·intro g g' k1 k2 h5 h6 h8 h7
   rcases hlk g k1 h5 with⟨rfl,rfl⟩|⟨hne,h5⟩<;>rcases hlk g' k2 h6 with⟨rfl,rfl⟩|⟨hne',h6⟩
   ·rfl
   ·exact hg.inj _ _ k k2 hk h6 hrw h7
   ·exact hg.inj _ _ k1 k h5 hk h8 h7
   ·exact hg.inj _ _ k1 k2 h5 h6 h8 h7
  ·intro g k' hk'
   rcases hlk g k' hk' with⟨rfl,rfl⟩|⟨hne,hk'⟩
   ·refine⟨(hg.lt _ _ hk).1,(hg.lt _ _ hk).2.1,fun v hv' => ?_⟩
    rcases ZaD hn hv' with h8|h8
    ·exact⟨hv v h8,ho' v h8⟩
    ·exact(hg.lt _ _ hk).2.2 v h8
   ·exact hg.lt _ _ hk'
  ·intro b' _ hb'
   exact hfar _ fun e=>hb' a.block k hk hrw e.symm
  ·intro g k' hk'
   rcases hlk g k' hk' with⟨rfl,rfl⟩|⟨hne,hk'⟩
   ·exact .inl ⟨k,hk,fun _=>hrw⟩
   ·exact .inl ⟨k',hk',id⟩
end
end Go.Proofs.YtagacmljbgkmoaaGreatDoor.Sy
namespace Go.Proofs.YtagacmljbgkmoaaGreatDoor.Sy
open Go.IntKind (u8 u16 u32 u64 i64)
open Go.RowKit
section
variable {P:Program} {r:Ren} {s s':St} {w:World}
theorem Vg {t:TypeId} {b:Bool} (h:Zcb P t=some b) (w:World):(isAgg t).run P w = .ok b w:=by
 unfold Zcb at h
 obtain⟨d,hd,rfl⟩:=oM h
 unfold isAgg
 simp only[Sem.run_bind,run_underlying hd,Result.andThen_ok]
 cases d<;>rfl
theorem Xj {t:TypeId} {i:TypeInfo} (h:P.info? t=some i) (w:World):(typeInfo t).run P w = .ok i w:=by
 unfold typeInfo
 simp only[Sem.run_bind,run_program,Result.andThen_ok,h]
 rfl
theorem Qc {t:TypeId} {n:Nat} (h:XP P t=some n) (w:World):(sizeOf t).run P w = .ok n w:=by
 unfold XP at h
 obtain⟨i,hi,rfl⟩:=oM h
 unfold sizeOf
 simp only[Sem.run_bind,Xj hi,Result.andThen_ok]
 rfl
theorem V1 {t:TypeId} {z:Value} (h:JV P t=some z):(∀ w,(zeroValue t).run P w = .ok z w)∧(∀ v∈z.cells.toList,ZP v=true)∧Xn z=true:=by
 unfold JV at h
 obtain⟨i,hi,h⟩:=oB h
 obtain⟨z',hz,h⟩:=oB h
 cases hc:(z'.cells.toList.all ZP&&Xn z')
 ·rw[hc] at h; cases h
 rw[hc] at h
 simp only[cond_true,Option.some.injEq] at h
 subst h
 simp only[Bool.and_eq_true] at hc
 refine⟨fun w => ?_,fun v hv=>List.all_eq_true.1 hc.1 v hv,hc.2⟩
 unfold zeroValue
 simp only[Sem.run_bind,Xj hi,Result.andThen_ok,hz]
 rfl
theorem Yg {v:Value} (h:ZP v=true):v.oneCell'=true:=by cases v<;>first|rfl|(simp[ZP] at h; done)
theorem Xk {n:Nat→Bool} {v:Value} (h:bnd n v=true):∀ u∈v.cells.toList,bnd n u=true:=by
 intro u hu
 cases v<;>(try (simp only[Value.cells,List.mem_singleton] at hu; subst hu; exact h))
 simp only[Value.cells] at hu
 rw[YY,Array.all_eq_true_iff_forall_mem] at h
 exact h u (by simpa using hu)
theorem XT {n:Nat→Bool} {l:List Value} (h:∀ v∈l,bnd n v=true):bnd n (.agg ⟨l⟩)=true:=by
 rw[YY,Array.all_eq_true_iff_forall_mem]
 exact fun v hv=>h v (by simpa using hv)
theorem XU (r:Ren) (l:List Value):r.val (.agg ⟨l⟩) = .agg (l.map r.val).toArray:=by rw[YW]; simp
theorem Zh0 {z v:Value} (h:Zaw z v=true):like z v=v:=by
 cases z<;>(try rfl)<;>cases v<;>(try rfl)<;>(try (cases h; done))
 rename_i k _ j _
 have:k=j:=of_decide_eq_true h
 subst this
 rfl
theorem Uz {α:Type} (d:α):∀ (l:List α) (i:Nat),i<l.length→l[i]? = some (Zc d l i)
 | [],i,h=>by simp at h
 | x::l,0,_=>rfl
 | x::l,i+1,h=>by
  simp only[List.length_cons] at h
  rw[List.getElem?_cons_succ]
  exact Uz d l i (by omega)
theorem Zcl:∀ (zs cs:List Value) (o:Nat),Zi zs cs o=true→o+zs.length≤cs.length→Qz zs cs o=(cs.drop o).take zs.length
 | [],cs,o,_,_=>by simp[Qz]
 | z::zs,cs,o,h,hl=>by
  simp only[Zi,Bool.and_eq_true] at h
  simp only[List.length_cons] at hl
  have hlt:o<cs.length:=by omega
  rw[Qz,Zh0 h.1,Zcl zs cs (o+1) h.2 (by omega)]
  have h1:=Uz undef cs o hlt
  rw[List.getElem?_eq_getElem hlt] at h1
  rw[List.drop_eq_getElem_cons hlt,List.length_cons,List.take_succ_cons,Option.some.inj h1]
theorem Ji {t:TypeId} {a:Addr} {v:Value} (h:Va P s t a=some (v,s')) (hg:Good r s w) (hO:s'.O):s.O∧(loadVar t (r.addr a)).run P w = .ok (r.val v) w∧bnd r.d v=true∧To r s w r s' w:=by
 unfold Va at h
 obtain⟨g,hgg,h⟩:=oB h
 obtain⟨z,hz,h⟩:=oB h
 split at h
 ·cases h
 rename_i hs
 obtain⟨k,hk,h⟩:=oB h
 cases hit:Zbt k.it
 ·rw[hit] at h; cases h
 rw[hit] at h
 simp only[cond_true] at h
 rw[ZR] at h
 generalize hT:(ZI (a.off+z.cells.toList.length) k.cells&&Zi z.cells.toList k.cells a.off)=T at h
 have key:∀ n,z.cells.toList.length=n→(ask T s).2.O→s.O∧(loadCells (r.addr a) n).run P w = .ok ((Qz z.cells.toList k.cells a.off).map r.val).toArray w∧(Qz z.cells.toList k.cells a.off).length=n ∧
   (∀ (j:Nat) (v:Value),(Qz z.cells.toList k.cells a.off)[j]? = some v→w.cell? ((r.addr a).add j)=some (r.val v))∧∀ v∈Qz z.cells.toList k.cells a.off,bnd r.d v=true∧v.oneCell'=true:=by
  intro n hn hO
  have hq:=Xr _ _ hO
  rw[← hT,Bool.and_eq_true,Yz] at hq
  have he:=Zcl _ _ _ hq.2 hq.1
  have hrd:X8 s a n=some (Qz z.cells.toList k.cells a.off,(ask (ZI (a.off+n) k.cells) s).2):=by
   unfold X8
   simp only[hs,hk,Option.bind_some,hit,cond_true]
   rw[he,hn]
  have hO':(ask (ZI (a.off+n) k.cells) s).2.O:=by
   have:ZI (a.off+n) k.cells=true:=by rw[Yz]; omega
   rw[this]; exact Yc _ _ hO
  obtain⟨h1,h2,_,h4⟩:=Vf (P:=P) hrd hg hO'
  refine⟨Yc _ _ hO,h1,h2,fun j v hj => ?_,h4⟩
  rw[he] at hj
  rw[QS r a hs,add_plain,Nat.add_assoc]
  rw[List.getElem?_take] at hj
  split at hj
  ·rw[List.getElem?_drop] at hj
   exact(hg.is _ _ hk).cell hj
  ·cases hj
 unfold loadVar
 cases g
 ·simp only[cond_false] at h
  split at h
  ·rename_i u hu
   simp only[Option.some.injEq,Prod.mk.injEq] at h
   obtain⟨rfl,rfl⟩:=h
   obtain⟨k1,_,k2,k3,k4⟩:=key _ rfl hO
   have hc:=k3 0 u (by rw[hu]; rfl)
   have:(r.addr a).add 0=r.addr a:=by simp[Addr.add]
   rw[this] at hc
   refine⟨k1,?_,(k4 u (by rw[hu]; simp)).1,To.ask hg _⟩
   simp only[Sem.run_bind,Vg hgg,Result.andThen_ok,Bool.false_eq_true,if_false,run_load,hc]
  ·cases h
 ·simp only[cond_true] at h
  obtain⟨n,hn,h⟩:=oB h
  cases hb:Nat.beq n z.cells.toList.length
  ·rw[hb] at h; cases h
  rw[hb] at h
  simp only[cond_true,Option.some.injEq,Prod.mk.injEq] at h
  obtain⟨rfl,rfl⟩:=h
  obtain⟨k1,k2,_,_,k4⟩:=key n (eB hb).symm hO
  refine⟨k1,?_,XT fun v hv=>(k4 v hv).1,To.ask hg _⟩
  simp only[Sem.run_bind,Vg hgg,Result.andThen_ok,if_true,Qc hn,k2,Sem.run_pure]
  rw[XU]
theorem ZaE {t:TypeId} {a:Addr} {v:Value} (h:WT P s t a v=some s') (hg:Good r s w) (hv:bnd r.d v=true) (hO:s'.O) :
  s.O∧∃ w',(storeVar t (r.addr a) (r.val v)).run P w = .ok () w'∧To r s w r s' w':=by
 unfold WT at h
 obtain⟨n,hn,h⟩:=oB h
 cases hc:Nat.beq v.cells.size n
 ·rw[hc] at h; cases h
 rw[hc] at h
 simp only[cond_true] at h
 obtain⟨_,h2,w',h3,h4⟩:=Kp (P:=P) h hg (Xk hv) hO
 refine⟨h2,w',?_,h4⟩
 have hsz:((r.val v).cells.size≠n)=False:=by
  rw[VU]; simp[eB hc]
 have hcl:(r.val v).cells.toList=v.cells.toList.map r.val:=by rw[VU]; simp
 unfold storeVar
 simp only[Sem.run_bind,Qc hn,Result.andThen_ok,hsz,if_false,hcl]
 simpa using h3
theorem UA {t:TypeId} {cs:List Value} {off:Nat} {v:Value} {n:Nat→Bool} (h:KO P t cs off=some v) (hb:∀ u∈cs,bnd n u=true) (w:World) :
  (part t (cs.map r.val).toArray off).run P w = .ok (r.val v) w∧bnd n v=true:=by
 unfold KO at h
 obtain⟨g,hg,h⟩:=oB h
 unfold part
 cases g
 ·simp only[cond_false] at h
  have:(cs.map r.val).toArray[off]? = some (r.val v):=by simp[h]
  simp only[Sem.run_bind,Vg hg,Result.andThen_ok,Bool.false_eq_true,if_false,this,Sem.run_pure]
  exact⟨trivial,hb v (List.mem_of_getElem? h)⟩
 ·simp only[cond_true] at h
  obtain⟨n',hn,rfl⟩:=oM h
  simp only[Sem.run_bind,Vg hg,Result.andThen_ok,if_true,Qc hn,Sem.run_pure]
  refine⟨?_,XT fun u hu=>hb u (List.mem_of_mem_drop (List.mem_of_mem_take hu))⟩
  rw[XU]
  congr 2
  apply Array.ext'
  simp[List.map_take,List.map_drop]
theorem Yld.to {x:Sem Value} {v:Value} (h:x.run P w = .ok (r.val v) w) (hb:bnd r.d v=true) (ht:To r s w r s' w):∃ r' w',x.run P w = .ok (r'.val v) w'∧To r s w r' s' w'∧bnd r'.d v=true:=⟨r,w,h,ht,hb⟩
def Yld (P:Program) (r:Ren) (s:St) (w:World) (x:Sem Value) (v:Value) (s':St):Prop :=
 ∃ r' w',x.run P w = .ok (r'.val v) w'∧To r s w r' s' w'∧bnd r'.d v=true
theorem Yld.same {x:Sem Value} {v:Value} (hg:Good r s w) (h:x.run P w = .ok (r.val v) w) (hb:bnd r.d v=true):Yld P r s w x v s:=⟨r,w,h,To.refl hg,hb⟩
theorem Yld.ask {x:Sem Value} {v:Value} (t:Bool) (hg:Good r s w) (h:x.run P w = .ok (r.val v) w) (hb:bnd r.d v=true):Yld P r s w x v (Sy.ask t s).2 :=
 ⟨r,w,h,To.ask hg t,hb⟩
theorem Yld.test {x:Sem Value} {v:Value} (t:Bool) (hg:Good r s w) (h:x.run P w = .ok (r.val v) w) (hb:bnd r.d v=true):Yld P r s w x v (Sy.test t s).2 :=
 ⟨r,w,h,To.test hg t,hb⟩
theorem Vx (r:Ren) (n b c:Nat) (h:r.d n=false):(r.with n b c).val (ptr n 0) = .pointer (some ⟨b,0,none⟩):=by
 unfold ptr; rw[Qs,Option.map_some,QS _ _ rfl]; simp[Ren.with,Ren.far h]
theorem UB (r:Ren) (n b c l k:Nat) (hk:k<big) (h:r.d n=false):(r.with n b c).val (.slice (some ⟨n,0,none⟩) l k) = .slice (some ⟨b,0,none⟩) l k:=by
 have hk':Nat.blt k big=true:=by simpa using hk
 rw[ZD,Option.map_some,QS _ _ rfl]
 simp[Ren.with,Ren.cap,hk',Ren.far h]
theorem YV (r:Ren) (n:Nat):r.cap (big+n)=r.c n:=by
 unfold Ren.cap
 have:Nat.blt (big+n) big=false:=by
  cases h:Nat.blt (big+n) big
  ·rfl
  ·simp at h; omega
 rw[this]
 simp
theorem YJ (r:Ren) (n b c l:Nat) (h:r.d n=false):(r.with n b c).val (.slice (some ⟨n,0,none⟩) l (big+n)) = .slice (some ⟨b,0,none⟩) l c:=by
 rw[ZD,Option.map_some,QS _ _ rfl,YV]
 simp[Ren.with,Ren.far h]
theorem UC {n l k:Nat} {m:Nat→Bool} (hk:k<big) (hn:m n=true):bnd m (.slice (some ⟨n,0,none⟩) l k)=true:=by
 rw[ZY]
 simp[Xv,hn,hk]
theorem YK {n l:Nat} {m:Nat→Bool} (hn:m n=true):bnd m (.slice (some ⟨n,0,none⟩) l (big+n))=true:=by
 rw[ZY]
 simp[Xv,hn]
theorem ZdY {t:TypeId} {z:Value} (h:JV P t=some z) (hg:Good r s w) (hfr:r.d s.n=false) :
  Yld P r s w (Instr.alloc t true (.tuple #[])) (ptr s.n 0) (Xh s none z.cells.toList):=by
 obtain⟨h1,h2,_⟩:=V1 h
 refine⟨_,_,?_,Zbx hg hfr z.cells.toList t fun v hv=>⟨Zu _ (h2 v hv),Yg (h2 v hv)⟩,Ux (Ren.with_d _ _ _ _)⟩
 rw[Vx _ _ _ _ hfr,WW r (List.all_eq_true.2 h2)]
 simp only[Instr.alloc,Sem.run_bind,h1,Result.andThen_ok,newVar,newRow,run_newObj,Sem.run_pure]
theorem Zh1 {t:TypeId} {v:Value} (h:KD v.cells.toList=true) (hb:bnd r.d v=true) (hg:Good r s w) (hfr:r.d s.n=false) :
  Yld P r s w (Instr.box t (r.val v)) (ptr s.n 0) (Xh s none v.cells.toList):=by
 refine⟨_,_,?_,Zbx hg hfr v.cells.toList t fun u hu=>⟨Xk hb u hu,List.all_eq_true.1 h u hu⟩,Ux (Ren.with_d _ _ _ _)⟩
 have hcl:(r.val v).cells=(v.cells.toList.map r.val).toArray:=by rw[VU]; apply Array.ext'; simp
 rw[Vx _ _ _ _ hfr]
 simp only[Instr.box,Sem.run_bind,Result.andThen_ok,newVar,newRow,run_newObj,Sem.run_pure,hcl]
theorem Zcm (off:Nat):∀ (vs:List Value) (k:Nat) (arr:Array Value),off+k+vs.length≤arr.size →
  ((vs.zipIdx k).foldl (fun cs x=>cs.setIfInBounds (off+x.2) x.1) arr).size=arr.size ∧
  ∀ j:Nat,((vs.zipIdx k).foldl (fun cs x=>cs.setIfInBounds (off+x.2) x.1) arr)[j]? = if off+k≤j∧j<off+k+vs.length then vs[j-(off+k)]? else arr[j]?
 | [],k,arr,h=>⟨rfl,fun j=>by rw[if_neg (by simp)]; rfl⟩
 | v::vs,k,arr,h=>by
  simp only[List.length_cons] at h
  obtain⟨h1,h2⟩:=Zcm off vs (k+1) (arr.setIfInBounds (off+k) v) (by simp; omega)
  simp only[List.zipIdx_cons,List.foldl_cons]
  refine⟨by rw[h1]; simp,fun j => ?_⟩
  rw[h2 j]
  by_cases hj:off+(k+1)≤j∧j<off+(k+1)+vs.length
  ·rw[if_pos hj,if_pos (by simp only[List.length_cons]; omega),show j-(off+k)=(j-(off+(k+1)))+1 by omega]
   simp
  ·rw[if_neg hj]
   by_cases hj':j=off+k
   ·subst hj'
    rw[if_pos (by simp only[List.length_cons]; omega)]
    have hlt:off+k<arr.size:=by omega
    simp[hlt]
   ·rw[if_neg (by simp only[List.length_cons]; omega),Array.getElem?_setIfInBounds_ne (by omega)]
theorem JX (off:Nat) (vs cells:List Value) (h:off+vs.length≤cells.length) :
  (vs.toArray.zipIdx.foldl (fun cs x=>cs.setIfInBounds (off+x.2) x.1) cells.toArray)=(ZC off vs cells).toArray:=by
 rw[← Array.foldl_toList,Array.toList_zipIdx]
 obtain⟨h1,h2⟩:=Zcm off vs 0 cells.toArray (by simpa using h)
 apply Array.ext_getElem?
 intro j
 rw[h2 j]
 simp only[Nat.add_zero,List.getElem?_toArray]
 rw[YI _ _ _ _ h]
theorem UD {n:Nat→Bool} (place:Nat→Option (Nat×Nat)):∀ (parts:List (Nat×Value)) (cells l:List Value),Zbv place cells parts=some l →
  (∀ x∈parts,bnd n x.2=true)→(∀ v∈cells,bnd n v=true∧v.oneCell'=true) →
  Instr.fill place (cells.map r.val).toArray (parts.map fun x=>(x.1,r.val x.2))=some (l.map r.val).toArray∧∀ v∈l,bnd n v=true∧v.oneCell'=true
 | [],cells,l,h,_,hc=>by simp only[Zbv,Option.some.injEq] at h; subst h; exact⟨rfl,hc⟩
 | (i,v)::rest,cells,l,h,hp,hc=>by
  simp only[Zbv] at h
  obtain⟨⟨off,size⟩,hpl,h⟩:=oB h
  cases hb:(Nat.beq v.cells.size size&&ZI (off+size) cells&&KD v.cells.toList)
  ·simp only[hb,cond_false] at h; cases h
  simp only[hb,cond_true] at h
  simp only[Bool.and_eq_true] at hb
  obtain⟨⟨hb1,hb2⟩,hb3⟩:=hb
  have hb1:=eB hb1
  rw[Yz] at hb2
  have hv:=hp (i,v) (List.mem_cons_self ..)
  have hlen:off+v.cells.toList.length≤cells.length:=by simpa [hb1] using hb2
  obtain⟨h1,h2⟩:=UD (n:=n) place rest (ZC off v.cells.toList cells) l h (fun x hx=>hp x (List.mem_cons_of_mem _ hx)) (fun u hu=>by
   rcases ZaD hlen hu with h3|h3
   ·exact⟨Xk hv u h3,List.all_eq_true.1 hb3 u h3⟩
   ·exact hc u h3)
  refine⟨?_,h2⟩
  simp only[List.map_cons,Instr.fill,hpl]
  have hcl:(r.val v).cells=(v.cells.toList.map r.val).toArray:=by rw[VU]; apply Array.ext'; simp
  have hz:=JX off (v.cells.toList.map r.val) (cells.map r.val) (by simpa [hb1] using hb2)
  have hsm:(ZC off v.cells.toList cells).map r.val=ZC off (v.cells.toList.map r.val) (cells.map r.val):=by
   apply List.ext_getElem?
   intro j
   rw[List.getElem?_map,YI _ _ _ _ hlen,YI _ _ _ _ (by simpa [hb1] using hb2)]
   simp only[List.length_map,List.getElem?_map]
   split<;>rfl
  rw[hsm] at h1
  rw[if_neg (by simp[hcl,hb1]; omega),hcl]
  have:(fun(cs:Array Value) (x:Value×Nat)=>match x with|(c,j)=>cs.setIfInBounds (off+j) c)=fun cs x=>cs.setIfInBounds (off+x.2) x.1:=rfl
  rw[this,hz]
  exact h1
theorem Zcn (z:List Value) (hz:0<z.length):∀ (n i:Nat),(KP n z)[i]? = if i<n*z.length then z[i%z.length]? else none
 | 0,i=>by simp[KP]
 | n+1,i=>by
  simp only[KP]
  rw[List.getElem?_append]
  split
  ·rename_i h
   rw[if_pos (by rw[Nat.add_mul]; omega),Nat.mod_eq_of_lt h]
  ·rename_i h
   rw[Zcn z hz n]
   rw[Nat.add_mul,Nat.one_mul]
   by_cases h2:i-z.length<n*z.length
   ·rw[if_pos h2,if_pos (by omega)]
    rw[Nat.mod_eq_sub_mod (a:=i) (by omega)]
   ·rw[if_neg h2,if_neg (by omega)]
theorem Jj (z:List Value):∀ n,(KP n z).length=n*z.length
 | 0=>by simp[KP]
 | n+1=>by simp[KP,Jj z n,Nat.add_mul,Nat.add_comm]
theorem V2 {z:List Value} {v:Value}:∀ n,v∈KP n z→v∈z
 | 0,h=>by simp[KP] at h
 | n+1,h=>by
  simp only[KP,List.mem_append] at h
  exact h.elim id (V2 n)
theorem J8 (z:Array Value) (n:Nat) (hz:0<z.size):(Array.range (n*z.size)).map (z[· % z.size]!)=(KP n z.toList).toArray:=by
 apply Array.ext_getElem?
 intro i
 simp only[Array.getElem?_map,List.getElem?_toArray]
 rw[Zcn _ (by simpa using hz)]
 by_cases h:i<n*z.size
 ·have hm:i%z.size<z.size:=Nat.mod_lt _ hz
  simp[h,hm,Array.getElem!_eq_getD,Array.getD]
 ·simp[h]
end
end Go.Proofs.YtagacmljbgkmoaaGreatDoor.Sy
namespace Go.Proofs.YtagacmljbgkmoaaGreatDoor.Sy
open Go.IntKind (u8 u16 u32 u64 i64)
open Go.RowKit
section
variable {P:Program} {r:Ren} {s s':St} {w:World}
theorem XV (a:Array Value):(a.toList.map r.val).toArray=a.map r.val:=by apply Array.ext'; simp
theorem WZ (w:World):∀ (l:List Field) (pl:List (Nat×Nat)),Jc P l=some pl →
  (l.mapM fun f=>do pure (f.offset,← sizeOf f.type):Sem (List (Nat×Nat))).run P w = .ok pl w
 | [],pl,h=>by simp only[Jc,Option.some.injEq] at h; subst h; rfl
 | f::l,pl,h=>by
  simp only[Jc] at h
  obtain⟨n,hn,h⟩:=oB h
  obtain⟨pl',hpl,rfl⟩:=oM h
  have ih:=WZ w l pl' hpl
  simp only[List.mapM_cons,Sem.run_bind,Qc hn,Result.andThen_ok,ih,Sem.run_pure]
theorem ZdZ {t:TypeId} {parts:List (Nat×Value)} {v:Value} (h:ZdN P t parts=some v) (hp:∀ x∈parts,bnd r.d x.2=true) (hg:Good r s w) :
  Yld P r s w (Instr.build t (parts.map fun x=>(x.1,r.val x.2)).toArray) v s:=by
 unfold ZdN at h
 obtain⟨z,hz,h⟩:=oB h
 obtain⟨d,hd,h⟩:=oB h
 obtain⟨h1,h2,_⟩:=V1 hz
 have hzc:z.cells=(z.cells.toList.map r.val).toArray:=by rw[WW r (List.all_eq_true.2 h2)]
 have hc:∀ v∈z.cells.toList,bnd r.d v=true∧v.oneCell'=true:=fun v hv=>⟨Zu _ (h2 v hv),Yg (h2 v hv)⟩
 split at h
 ·rename_i fields
  obtain⟨pl,hpl,h⟩:=oB h
  obtain⟨l,hl,rfl⟩:=oM h
  obtain⟨h3,h4⟩:=UD (r:=r) (n:=r.d) _ parts _ _ hl hp hc
  refine Yld.same hg ?_ (XT fun v hv=>(h4 v hv).1)
  rw[XU]
  rw[← hzc] at h3
  have hm:=WZ w fields.toList pl hpl
  simp only[Instr.build,Sem.run_bind,h1,Result.andThen_ok,run_underlying hd,Array.mapM_eq_mapM_toList,Sem.run_map,hm]
  simp only[List.getElem?_toArray,h3]
  rfl
 ·rename_i len elem
  obtain⟨n,hn,h⟩:=oB h
  obtain⟨l,hl,rfl⟩:=oM h
  obtain⟨h3,h4⟩:=UD (r:=r) (n:=r.d) _ parts _ _ hl hp hc
  refine Yld.same hg ?_ (XT fun v hv=>(h4 v hv).1)
  rw[XU]
  rw[← hzc] at h3
  simp only[Instr.build,Sem.run_bind,h1,Result.andThen_ok,run_underlying hd,Qc hn,h3]
  rfl
 ·cases h
theorem Xl {t elem:TypeId} (h:Xz P t=some elem):P.underlying t=some (.slice elem):=by
 unfold Xz at h
 obtain⟨d,hd,h⟩:=oB h
 split at h
 ·rename_i e; simp only[Option.some.injEq] at h; subst h; exact hd
 ·cases h
theorem JY {t:TypeId} {len:Nat} {parts:List (Nat×Value)} {v:Value} (h:Wv P s t len parts=some (v,s')) (hp:∀ x∈parts,bnd r.d x.2=true) (hg:Good r s w) (hfr:Yb r s.n s'.n) :
  s'.O=s.O∧Yld P r s w (Instr.buildSlice t len (parts.map fun x=>(x.1,r.val x.2)).toArray) v s':=by
 unfold Wv at h
 obtain⟨elem,he,h⟩:=oB h
 obtain⟨n,hn,h⟩:=oB h
 obtain⟨z,hz,h⟩:=oB h
 obtain⟨h1,h2,_⟩:=V1 hz
 cases hb:(Nat.ble (len*n) 16777216&&Nat.beq z.cells.size n&&Nat.blt 0 n&&Nat.blt len big)
 ·rw[hb] at h; cases h
 rw[hb] at h
 simp only[cond_true] at h
 obtain⟨l,hl,h⟩:=oM h
 simp only[Prod.mk.injEq] at h
 obtain⟨rfl,rfl⟩:=h
 simp only[Bool.and_eq_true,Nat.ble_eq,Nat.blt_eq] at hb
 obtain⟨⟨⟨hb1,hb2⟩,hb3⟩,hb4⟩:=hb
 have hb2:=eB hb2
 subst hb2
 have hc:∀ v∈KP len z.cells.toList,bnd r.d v=true∧v.oneCell'=true:=fun v hv=>⟨Zu _ (h2 v (V2 _ hv)),Yg (h2 v (V2 _ hv))⟩
 obtain⟨h3,h4⟩:=UD (r:=r) (n:=r.d) _ parts _ _ hl hp hc
 have hr:(KP len z.cells.toList).map r.val=KP len z.cells.toList:=by
  rw[List.map_congr_left (g:=id)]
  ·simp
  ·intro v hv; exact ZN r (h2 v (V2 _ hv))
 rw[hr,← J8 z.cells len hb3] at h3
 refine⟨rfl,_,_,?_,Zbx hg (hfr s.n (Nat.le_refl _) (Nat.lt_succ_self _)) l elem h4,UC hb4 (Ren.with_d _ _ _ _)⟩
 rw[UB _ _ _ _ _ _ hb4 (hfr s.n (Nat.le_refl _) (Nat.lt_succ_self _))]
 have h5:¬ (len*z.cells.size>2^24):=by omega
 simp only[Instr.buildSlice,Sem.run_bind,run_underlying (Xl he),Result.andThen_ok,Qc hn,if_neg h5,Sem.run_ite,h1,Sem.run_pure]
 by_cases h0:len*z.cells.size=0
 ·have hl0:len=0:=by rcases Nat.mul_eq_zero.1 h0 with h|h<;>omega
  subst hl0
  have e0:∀ (g:Nat→Value),(Array.range (0*z.cells.size)).map g = #[]:=fun g=>by simp
  simp only[e0] at h3
  simp only[if_pos h0,e0,h3,Sem.run_bind,newRow,run_newObj,Result.andThen_ok,Sem.run_pure]
 ·simp only[if_neg h0]
  simp only[h3,Sem.run_bind,newRow,run_newObj,Result.andThen_ok,Sem.run_pure]
theorem UE {t:TypeId} {x v:Value} {f:Nat} (h:Kk P t x f=some v) (hx:bnd r.d x=true) (hg:Good r s w) :
  Yld P r s w (Instr.fieldAt t (r.val x) f) v s:=by
 unfold Kk at h
 split at h
 ·rename_i a
  split at h
  ·cases h
  rename_i hs
  obtain⟨d,hd,h⟩:=oB h
  split at h
  ·rename_i fields
   obtain⟨fd,hf,h⟩:=oB h
   obtain⟨n,hn,h⟩:=oB h
   cases hb:Nat.beq n 0
   ·rw[hb] at h
    simp only[cond_false,Option.some.injEq] at h
    subst h
    have hn0:n≠0:=fun e=>by subst e; cases hb
    rw[QQ] at hx
    refine Yld.same hg ?_ ?_
    ·rw[Array.getElem?_toList] at hf
     rw[Qs,Qs,Option.map_some,Option.map_some,WY r a _ hs]
     simp only[Instr.fieldAt,Instr.sureAddr,Sem.run_bind,run_underlying hd,Result.andThen_ok,hf,Sem.run_pure,fieldPlace,Qc hn,if_neg hn0]
    ·rw[QQ]
     have:a=⟨a.block,a.off,none⟩:=by cases a; simp at hs; subst hs; rfl
     rw[this] at hx
     exact hx
   ·rw[hb] at h; cases h
  ·cases h
 ·cases h
theorem Zf4 {n:Nat→Bool} {m:Nat} {a:Addr} (hs:a.spot=none) (h:Xv n a=true):Xv n (a.add m)=true:=by
 have:a=⟨a.block,a.off,none⟩:=by cases a; simp at hs; subst hs; rfl
 rw[this,add_plain]
 rw[this] at h
 exact h
theorem V3 {n:Nat→Bool} {m:Nat} {a:Addr} (hs:a.spot=none) (h:Xv n a=true):Xv n (Zhk a m)=true:=by
 rw[Zci a m hs]; exact Zf4 hs h
theorem V4 {i:Int} {n:Nat}:KQ i n=true↔0≤i∧i<n:=by unfold KQ; simp
theorem Zd0 {i:Int} {n:Nat}:Zc7 i n=true↔0≤i∧i≤n:=by unfold Zc7; simp
theorem UF {t:TypeId} {x ix v:Value} (h:Vb P s t x ix=some (v,s')) (hx:bnd r.d x=true) (hg:Good r s w) (hO:s'.O) :
  s.O∧Yld P r s w (Instr.indexAt t (r.val x) (r.val ix)) v s':=by
 unfold Vb at h
 split at h
 ·rename_i k i
  obtain⟨d,hd,h⟩:=oB h
  split at h
  ·rename_i len elem a _
   split at h
   ·cases h
   rename_i hs
   obtain⟨n,hn,h⟩:=oB h
   cases hb:(ask (KQ i len) s).1
   ·rw[hb] at h; cases h
   rw[hb] at h
   simp only[cond_true,Option.some.injEq,Prod.mk.injEq] at h
   obtain⟨rfl,rfl⟩:=h
   rw[J7 _ _ hO,V4] at hb
   rw[QQ] at hx
   refine⟨Yc _ _ hO,Yld.ask _ hg ?_ (by rw[QQ]; exact V3 hs hx)⟩
   rw[Qs,Qs,Z8,Option.map_some,Option.map_some,WY r a _ hs]
   simp only[Instr.indexAt,Instr.sureAddr,asIntOf,Sem.run_bind,run_underlying hd,Result.andThen_ok,Sem.run_pure,if_pos hb,Qc hn]
  ·rename_i elem a len cap _
   split at h
   ·cases h
   rename_i hs
   obtain⟨n,hn,h⟩:=oB h
   cases hb:(ask (KQ i len) s).1
   ·rw[hb] at h; cases h
   rw[hb] at h
   simp only[cond_true,Option.some.injEq,Prod.mk.injEq] at h
   obtain⟨rfl,rfl⟩:=h
   rw[J7 _ _ hO,V4] at hb
   rw[ZY,Bool.and_eq_true] at hx
   refine⟨Yc _ _ hO,Yld.ask _ hg ?_ (by rw[QQ]; exact V3 hs hx.1)⟩
   rw[ZD,Qs,Z8,Option.map_some,Option.map_some,WY r a _ hs]
   simp only[Instr.indexAt,Instr.sureAddr,asIntOf,Sem.run_bind,run_underlying hd,Result.andThen_ok,Sem.run_pure,if_pos hb,Qc hn]
  ·cases h
 ·cases h
theorem Zd1 {t:TypeId} {x ix v:Value} (h:Zcd P s t x ix=some (v,s')) (hx:bnd r.d x=true) (hg:Good r s w) (hO:s'.O) :
  s.O∧Yld P r s w (Instr.index t (r.val x) (r.val ix)) v s':=by
 unfold Zcd at h
 simp only[ZR] at h
 split at h
 ·rename_i k i
  obtain⟨d,hd,h⟩:=oB h
  split at h
  ·rename_i len elem cs _
   obtain⟨n,hn,h⟩:=oB h
   cases hb:(ask (KQ i len) s).1
   ·rw[hb] at h; cases h
   rw[hb] at h
   simp only[cond_true] at h
   obtain⟨u,hu,h⟩:=oM h
   simp only[Prod.mk.injEq] at h
   obtain⟨rfl,rfl⟩:=h
   rw[J7 _ _ hO,V4] at hb
   obtain⟨h1,h2⟩:=UA (r:=r) hu (Xk (v:=.agg cs) hx) w
   refine⟨Yc _ _ hO,Yld.ask _ hg ?_ h2⟩
   rw[YW,Z8]
   simp only[Instr.index,asIntOf,Sem.run_bind,run_underlying hd,Result.andThen_ok,Sem.run_pure,if_pos hb,Qc hn]
   rw[XV] at h1
   exact h1
  ·rename_i b _
   simp only[Option.some.injEq,Prod.mk.injEq] at h
   obtain⟨rfl,rfl⟩:=h
   have hb:=Xr _ _ hO
   rw[V4] at hb
   refine⟨Yc _ _ hO,Yld.ask _ hg ?_ (Xo _ _ _)⟩
   rw[Qy,Z8,Z8]
   have hlt:i.toNat<b.data.toList.length:=by omega
   have hc':b[i.toNat]? = some (b.data.toList.getD i.toNat 0):=by
    have hlt':i.toNat<b.size:=hlt
    rw[getElem?_pos b i.toNat hlt',ByteArray.getElem_eq_getElem_data,List.getD_eq_getElem?_getD,List.getElem?_eq_getElem hlt,Option.getD_some,Array.getElem_toList]
   simp only[Instr.index,asIntOf,Sem.run_bind,run_underlying hd,Result.andThen_ok,Sem.run_pure,if_pos hb.1,hc']
  ·cases h
 ·cases h
theorem Zd2 {t:TypeId} {x v:Value} {f:Nat} (h:ZdO P t x f=some v) (hx:bnd r.d x=true) (hg:Good r s w) :
  Yld P r s w (Instr.field t (r.val x) f) v s:=by
 unfold ZdO at h
 split at h
 ·rename_i cs
  obtain⟨d,hd,h⟩:=oB h
  split at h
  ·rename_i fields
   obtain⟨fd,hf,h⟩:=oB h
   obtain⟨h1,h2⟩:=UA (r:=r) h (Xk (v:=.agg cs) hx) w
   rw[Array.getElem?_toList] at hf
   refine Yld.same hg ?_ h2
   rw[YW]
   rw[XV] at h1
   simp only[Instr.field,asAgg,Sem.run_bind,run_underlying hd,Result.andThen_ok,Sem.run_pure,hf,h1]
  ·cases h
 ·cases h
theorem Zbz {x v:Value} {i:Nat} (h:Uv x i=some v) (hx:bnd r.d x=true) (hg:Good r s w) :
  Yld P r s w (Instr.extract (r.val x) i) v s:=by
 unfold Uv at h
 split at h
 ·rename_i vs
  rw[Array.getElem?_toList] at h
  refine Yld.same hg ?_ ?_
  ·rw[QA]
   simp only[Instr.extract,Array.getElem?_map,h,Option.map_some,Sem.run_pure]
  ·rw[Qx,Array.all_eq_true_iff_forall_mem] at hx
   exact hx v (Array.mem_of_getElem? h)
 ·cases h
end
end Go.Proofs.YtagacmljbgkmoaaGreatDoor.Sy
namespace Go.Proofs.YtagacmljbgkmoaaGreatDoor.Sy
open Go.IntKind (u8 u16 u32 u64 i64)
open Go.RowKit
section
variable {P:Program} {r:Ren} {s s':St} {w:World}
def Z5 (s s':St):Prop:=s'.n=s.n∧s'.h=s.h∧s'.lo=s.lo∧(s'.O→s.O)
theorem Z5.refl (s:St):Z5 s s:=⟨rfl,rfl,rfl,id⟩
theorem Z5.trans {s1 s2 s3:St} (h:Z5 s1 s2) (h':Z5 s2 s3):Z5 s1 s3 :=
 ⟨h'.1.trans h.1,h'.2.1.trans h.2.1,h'.2.2.1.trans h.2.2.1,fun x=>h.2.2.2 (h'.2.2.2 x)⟩
theorem Z5.test (t:Bool) (s:St):Z5 s (test t s).2:=⟨XS t s,ZaB t s,Jh t s,X9 t s⟩
theorem Z5.ask (t:Bool) (s:St):Z5 s (ask t s).2:=⟨rfl,rfl,rfl,Yc t s⟩
theorem Z5.good (h:Z5 s s') (hg:Good r s w):Good r s' w:=hg.same h.2.1 h.2.2.1
theorem Z5.to (h:Z5 s s') (hg:Good r s w):To r s w r s' w:=.same hg h.1 h.2.1 h.2.2.1
theorem XF {d top n:Nat} {o:Option Value} (h:WU s d top o=some (n,s')) (hO:s'.O) :
  Z5 s s'∧((o=none∧n=d)∨∃ k i,o=some (.int k i)∧0≤i∧i≤top∧n=i.toNat):=by
 unfold WU at h
 split at h
 ·simp only[Option.some.injEq,Prod.mk.injEq] at h
  obtain⟨rfl,rfl⟩:=h
  exact⟨.refl _,.inl ⟨rfl,rfl⟩⟩
 ·rename_i k i
  cases hb:(ask (Zc7 i top) s).1
  ·rw[hb] at h; cases h
  rw[hb] at h
  simp only[cond_true,Option.some.injEq,Prod.mk.injEq] at h
  obtain⟨rfl,rfl⟩:=h
  rw[J7 _ _ hO,Zd0] at hb
  exact⟨.ask _ _,.inr ⟨k,i,rfl,hb.1,hb.2,rfl⟩⟩
 ·cases h
theorem QX {k:IntKind} {i:Int} {y:Nat} (h0:0≤i) (h1:i≤y) (c:BoundsCode) (w:World):(Instr.sliceBound (.int k i) y c).run P w = .ok i.toNat w:=by
 simp only[Instr.sliceBound,asIntOf,Sem.run_bind,Sem.run_pure,Result.andThen_ok,if_pos (And.intro h0 h1)]
def Ren.letter (r:Ren) (n o c:Nat):Ren:=⟨r.b,r.w,fun g=>if g=n then(o,none) else r.o g,fun g=>if g=n then c else r.c g,fun g=>Nat.beq g n||r.d g,r.hb,r.hw,fun g hg=>by simp[r.hd g hg]⟩
theorem Ren.letter_d (r:Ren) (n o c:Nat):(r.letter n o c).d n=true:=by simp[Ren.letter]
theorem Ren.letter_ext {r:Ren} {n:Nat} (h:r.d n=false) (o c:Nat):Ext r (r.letter n o c):=⟨fun g hg=>by simp[Ren.letter,hg],fun _ _=>rfl,fun _ _=>rfl,fun g hg=>if_neg (Vw h hg),fun g hg=>if_neg (Vw h hg)⟩
theorem Ren.letter_dom {r:Ren} {n o c g:Nat} (h:(r.letter n o c).d g=true):r.d g=true∨(n≤g∧g<n+1):=by
 simp only[Ren.letter,Bool.or_eq_true] at h
 rcases h with h|h
 ·have:=eB h; exact .inr (by omega)
 ·exact .inl h
theorem Jk (hg:Good r s w) (hfr:r.d s.n=false) (o c m:Nat) (hm:m≤c):To r s w (r.letter s.n o c) { s with n:=s.n+1,lo:=(s.n,m)::s.lo } w:=by
 have he:=Ren.letter_ext hfr o c
 refine⟨he,fun g hg=>Ren.letter_dom hg,Nat.le_succ _,hg,⟨?_,?_,?_,?_⟩,rfl,rfl,rfl,Nat.le_refl _,fun _ _ _=>rfl,fun g k hk => .inl ⟨k,hk,id⟩⟩
 ·intro g k hk; exact(hg.is g k hk).ext he (hg.lt g k hk).1 (hg.lt g k hk).2 rfl
 ·intro g g' k k' h1 h2 h4 h3; exact hg.inj g g' k k' h1 h2 h4 h3
 ·intro g k hk; exact⟨he.d g (hg.lt g k hk).1,(hg.lt g k hk).2.mono he.d⟩
 ·intro x hx
  rcases List.mem_cons.1 hx with rfl|hx
  ·exact⟨by simpa [Ren.letter] using hm,Ren.letter_d _ _ _ _⟩
  ·have:=hg.lo x hx
   rw[he.c x.1 this.2]
   exact⟨this.1,he.d _ this.2⟩
def Ren.letterO (r:Ren) (n:Nat) (o:Nat×Option Nat) (c:Nat):Ren:=⟨r.b,r.w,fun g=>if g=n then o else r.o g,fun g=>if g=n then c else r.c g,fun g=>Nat.beq g n||r.d g,r.hb,r.hw,fun g hg=>by simp[r.hd g hg]⟩
theorem Ren.letterO_d (r:Ren) (n:Nat) (o:Nat×Option Nat) (c:Nat):(r.letterO n o c).d n=true:=by simp[Ren.letterO]
theorem Ren.letterO_ext {r:Ren} {n:Nat} (h:r.d n=false) (o:Nat×Option Nat) (c:Nat):Ext r (r.letterO n o c):=⟨fun g hg=>by simp[Ren.letterO,hg],fun _ _=>rfl,fun _ _=>rfl,fun g hg=>if_neg (Vw h hg),fun g hg=>if_neg (Vw h hg)⟩
theorem Ren.letterO_dom {r:Ren} {n c g:Nat} {o:Nat×Option Nat} (h:(r.letterO n o c).d g=true):r.d g=true∨(n≤g∧g<n+1):=by
 simp only[Ren.letterO,Bool.or_eq_true] at h
 rcases h with h|h
 ·have:=eB h; exact .inr (by omega)
 ·exact .inl h
theorem Zc9 (hg:Good r s w) (hfr:r.d s.n=false) (o:Nat×Option Nat) (c m:Nat) (hm:m≤c):To r s w (r.letterO s.n o c) { s with n:=s.n+1,lo:=(s.n,m)::s.lo } w:=by
 have he:=Ren.letterO_ext hfr o c
 refine⟨he,fun g hg=>Ren.letterO_dom hg,Nat.le_succ _,hg,⟨?_,?_,?_,?_⟩,rfl,rfl,rfl,Nat.le_refl _,fun _ _ _=>rfl,fun g k hk => .inl ⟨k,hk,id⟩⟩
 ·intro g k hk; exact(hg.is g k hk).ext he (hg.lt g k hk).1 (hg.lt g k hk).2 rfl
 ·intro g g' k k' h1 h2 h4 h3; exact hg.inj g g' k k' h1 h2 h4 h3
 ·intro g k hk; exact⟨he.d g (hg.lt g k hk).1,(hg.lt g k hk).2.mono he.d⟩
 ·intro x hx
  rcases List.mem_cons.1 hx with rfl|hx
  ·exact⟨by simpa [Ren.letterO] using hm,Ren.letterO_d _ _ _ _⟩
  ·have:=hg.lo x hx
   rw[he.c x.1 this.2]
   exact⟨this.1,he.d _ this.2⟩
theorem Jl {b:Bool} {len cap h l:Nat} {lo hi:Option Value} (w:World)
  (hh:(hi=none∧h=len)∨∃ k i,hi=some (.int k i)∧0≤i∧i≤(cap:Int)∧h=i.toNat)
  (hl:(lo=none∧l=0)∨∃ k i,lo=some (.int k i)∧0≤i∧i≤(h:Int)∧l=i.toNat) :
  (Instr.sliceBounds b len cap lo hi none).run P w = .ok (l,h,cap) w:=by
 unfold Instr.sliceBounds
 rcases hh with⟨rfl,rfl⟩|⟨k,i,rfl,h0,h1,rfl⟩<;>rcases hl with⟨rfl,rfl⟩|⟨k',i',rfl,h0',h1',rfl⟩ <;>
  simp only[Sem.run_bind,Sem.run_pure,Result.andThen_ok,Option.isSome_none,Bool.false_eq_true,if_false]
 ·rw[QX h0' h1']; rfl
 ·rw[QX h0 h1]; rfl
 ·rw[QX h0 h1]; simp only[Result.andThen_ok]; rw[QX h0' h1']; rfl
theorem ZbA {b:Bool} {len cap m h l:Nat} {lo hi mx:Option Value} (w:World)
  (hm:∃ k i,mx=some (.int k i)∧0≤i∧i≤(cap:Int)∧m=i.toNat)
  (hh:∃ k i,hi=some (.int k i)∧0≤i∧i≤(m:Int)∧h=i.toNat)
  (hl:(lo=none∧l=0)∨∃ k i,lo=some (.int k i)∧0≤i∧i≤(h:Int)∧l=i.toNat) :
  (Instr.sliceBounds b len cap lo hi mx).run P w = .ok (l,h,m) w:=by
 unfold Instr.sliceBounds
 obtain⟨k1,i1,rfl,h10,h11,rfl⟩:=hm
 obtain⟨k,i,rfl,h0,h1,rfl⟩:=hh
 rcases hl with⟨rfl,rfl⟩|⟨k',i',rfl,h0',h1',rfl⟩ <;>
  simp only[Sem.run_bind,Sem.run_pure,Result.andThen_ok,Option.isSome_some,if_true] <;>
  rw[QX h10 h11]<;>simp only[Result.andThen_ok]<;>rw[QX h0 h1] <;>
  simp only[Result.andThen_ok]
 rw[QX h0' h1']; rfl
theorem XG {c:Nat}:(Nat.blt c big=true↔c<big):=by simp
theorem XH {c:Nat} (h:c<big):r.cap c=c:=by
 unfold Ren.cap; rw[XG.2 h]; rfl
theorem K2 {o:Option Value} {k:IntKind} {i:Int} (h:o=some (.int k i)):o.map r.val=some (.int k i):=by subst h; simp[Z8]
theorem Zhn {a:Addr} {f:Bool} {l h top size:Nat} {v:Value} (hx:Zhl s a f l h top size=some (v,s')) (hO:s'.O):s.O:=by
 unfold Zhl ZfZ at hx
 cases f
 ·simp only[cond_false,Option.some.injEq,Prod.mk.injEq] at hx
  rw[← hx.2] at hO; exact hO
 ·simp only[cond_true] at hx
  split at hx
  ·simp only[Option.some.injEq,Prod.mk.injEq] at hx
   rw[← hx.2] at hO; exact hO
  cases hb:(test (Nat.blt l top) s).1<;>rw[hb] at hx<;>simp only[cond_true,cond_false,Option.some.injEq,Prod.mk.injEq] at hx<;>rw[← hx.2] at hO<;>exact X9 _ _ hO
theorem Zd3 {a:Addr} {f:Bool} {l h top size:Nat} {v:Value} {rc:Nat} (hx:Zhl s a f l h top size=some (v,s')) (ha:Xv r.d a=true) (hg:Good r s w) (hfr:Yb r s.n s'.n) (hO:s'.O)
  (ht:top≤rc) (hl0:f=false→l=0) :
  s.O∧∃ r',To r s w r' s' w∧bnd r'.d v=true∧r'.val v = .slice (some (if rc=l then r.addr a else(r.addr a).add (l*size))) (h-l) (rc-l):=by
 unfold Zhl ZfZ at hx
 cases f
 ·have:=hl0 rfl
  subst this
  simp only[cond_false,Option.some.injEq,Prod.mk.injEq] at hx
  obtain⟨rfl,rfl⟩:=hx
  have hf:r.d s.n=false:=hfr _ (Nat.le_refl _) (Nat.lt_succ_self _)
  refine⟨hO,r.letter s.n 0 rc,Jk hg hf _ _ _ ht,?_,?_⟩
  ·rw[ZY]
   have h1:=VV (Ren.letter_ext hf 0 rc).d ha
   have hd:=Ren.letter_d r s.n 0 rc
   simp[h1,hd]
  ·rw[ZD,YV,Option.map_some,K1 (Ren.letter_ext hf 0 rc) ha]
   simp[Ren.letter,Addr.add]
 ·simp only[cond_true] at hx
  cases hs:a.spot with
  | some k =>
   rw[hs] at hx
   simp only[Option.some.injEq,Prod.mk.injEq] at hx
   obtain⟨rfl,rfl⟩:=hx
   have hf:r.d s.n=false:=hfr _ (Nat.le_refl _) (Nat.lt_succ_self _)
   have hA:(if rc=l then r.addr a else(r.addr a).add (l*size)).block=r.b a.block:=by
    split
    ·rfl
    ·unfold Addr.add; split<;>rfl
   generalize (if rc=l then r.addr a else(r.addr a).add (l*size))=A at hA
   refine⟨hO,r.letterO s.n (A.off,A.spot) (rc-l),Zc9 hg hf _ _ _ (by omega),?_,?_⟩
   ·rw[ZY]
    have:Xv r.d a=true:=ha
    simp only[Xv,Bool.and_eq_true] at this
    have hd:=Ren.letterO_d r s.n (A.off,A.spot) (rc-l)
    have hb:=(Ren.letterO_ext hf (A.off,A.spot) (rc-l)).d _ this.1
    simp[Xv,hd,hb]
   ·rw[ZD,YV]
    simp only[Ren.letterO,if_true,Option.map_some,Ren.addr]
    rw[← hA]
  | none =>
  rw[hs] at hx
  simp only[] at hx
  have hf:r.d s.n=false:=hfr _ (Nat.le_refl _) (by
   have:s'.n=s.n+1:=by
    cases hb:(test (Nat.blt l top) s).1<;>rw[hb] at hx<;>simp only[cond_true,cond_false,Option.some.injEq,Prod.mk.injEq] at hx<;>rw[← hx.2]<;>simp only[XS]
   omega)
  have hsb:=Z5.test (Nat.blt l top) s
  have hg2:=hsb.good hg
  have hf2:r.d (test (Nat.blt l top) s).2.n=false:=by rw[XS]; exact hf
  cases hb:(test (Nat.blt l top) s).1
  ·rw[hb] at hx
   simp only[cond_false,Option.some.injEq,Prod.mk.injEq] at hx
   obtain⟨rfl,rfl⟩:=hx
   refine⟨hsb.2.2.2 hO,r.letter s.n (if rc=l then r.w a.block+a.off else r.w a.block+a.off+l*size) (rc-l),?_,?_,?_⟩
   ·have:=(hsb.to hg).trans (Jk hg2 hf2 (if rc=l then r.w a.block+a.off else r.w a.block+a.off+l*size) (rc-l) (top-l) (by omega))
    rw[XS] at this ⊢
    exact this
   ·rw[ZY]
    have:Xv r.d a=true:=ha
    simp only[Xv,Bool.and_eq_true] at this
    have hd:=Ren.letter_d r s.n (if rc=l then r.w a.block+a.off else r.w a.block+a.off+l*size) (rc-l)
    have hb:=(Ren.letter_ext hf (if rc=l then r.w a.block+a.off else r.w a.block+a.off+l*size) (rc-l)).d _ this.1
    simp[Xv,hd,hb]
   ·rw[ZD,YV]
    simp only[Ren.letter,if_true,Option.map_some,Ren.addr,hs]
    by_cases e:rc=l
    ·simp[e]
    ·simp only[e,if_false,add_plain]
  ·rw[hb] at hx
   simp only[cond_true,Option.some.injEq,Prod.mk.injEq] at hx
   obtain⟨rfl,rfl⟩:=hx
   have hlt:Nat.blt l top=true:=by rw[← Wa _ _ hO]; exact hb
   have hlt:l<top:=by simpa using hlt
   refine⟨hsb.2.2.2 hO,r.letter s.n 0 (rc-l),?_,?_,?_⟩
   ·have:=(hsb.to hg).trans (Jk hg2 hf2 0 (rc-l) (top-l) (by omega))
    rw[XS] at this ⊢
    exact this
   ·rw[ZY]
    have h1:=VV (Ren.letter_ext hf 0 (rc-l)).d (V3 (m:=l*size) hs ha)
    have hd:=Ren.letter_d r s.n 0 (rc-l)
    simp[h1,hd]
   ·rw[ZD,YV,if_neg (by omega),Option.map_some,K1 (Ren.letter_ext hf 0 (rc-l)) (V3 hs ha),WY r a _ hs]
    simp[Ren.letter]
theorem J9 {a:Option Addr} {len cap size:Nat} {lo hi mx:Option Value} {v:Value} (b:Bool) (h:Kl s a len cap size lo hi mx=some (v,s')) (hx:bnd r.d (.slice a len cap)=true)
  (hg:Good r s w) (hfr:Yb r s.n s'.n) (hO:s'.O) :
  s.O∧∃ r' l h m,(Instr.sliceBounds b len (r.cap cap) (lo.map r.val) (hi.map r.val) (mx.map r.val)).run P w = .ok (l,h,m) w∧To r s w r' s' w∧bnd r'.d v=true ∧
   r'.val v = .slice (if m=l then a.map r.addr else(a.map r.addr).map (·.add (l*size))) (h-l) (m-l):=by
 rw[ZY,Bool.and_eq_true] at hx
 obtain⟨hxa,hxc⟩:=hx
 unfold Kl at h
 split at h
 ·rename_i m0
  replace h:=oB h
  obtain⟨⟨m,s1⟩,e1,h⟩:=h
  simp only[] at h
  replace h:=oB h
  obtain⟨⟨hh,s2⟩,e2,h⟩:=h
  simp only[] at h
  replace h:=oB h
  obtain⟨⟨l,s3⟩,e3,h⟩:=h
  simp only[] at h
  cases hi with
  | none=>cases e2
  | some hi0 =>
  simp only[] at e2
  have key:s3.O→Z5 s s3∧(∃ k i,m0 = .int k i∧0≤i∧i≤(Zbu s cap:Int)∧m=i.toNat)∧(∃ k i,hi0 = .int k i∧0≤i∧i≤(m:Int)∧hh=i.toNat)∧((lo=none∧l=0)∨∃ k i,lo=some (.int k i)∧0≤i∧i≤(hh:Int)∧l=i.toNat):=by
   intro h3
   obtain⟨b3,c3⟩:=XF e3 h3
   have hO2:=b3.2.2.2 h3
   obtain⟨b2,c2⟩:=XF e2 hO2
   obtain⟨b1,c1⟩:=XF e1 (b2.2.2.2 hO2)
   refine⟨(b1.trans b2).trans b3,?_,?_,c3⟩
   ·rcases c1 with⟨c1,_⟩|⟨k,i,q,q1⟩
    ·cases c1
    ·exact⟨k,i,Option.some.inj q,q1⟩
   ·rcases c2 with⟨c2,_⟩|⟨k,i,q,q1⟩
    ·cases c2
    ·exact⟨k,i,Option.some.inj q,q1⟩
  have hcap:=hg.cap cap
  have run:s3.O→(Instr.sliceBounds b len (r.cap cap) (lo.map r.val) ((some hi0).map r.val) ((some m0).map r.val)).run P w = .ok (l,hh,m) w∧l≤m:=by
   intro h3
   obtain⟨_,⟨k1,i1,rfl,m0',m1,rfl⟩,⟨k2,i2,rfl,h0,h1,rfl⟩,c3⟩:=key h3
   refine⟨ZbA w ⟨k1,i1,by simp[Z8],m0',by omega,rfl⟩ ⟨k2,i2,by simp[Z8],h0,h1,rfl⟩ ?_,?_⟩
   ·rcases c3 with⟨rfl,rfl⟩|⟨k3,i3,rfl,h30,h31,rfl⟩
    ·exact .inl ⟨rfl,rfl⟩
    ·exact .inr ⟨k3,i3,by simp[Z8],h30,h31,rfl⟩
   ·rcases c3 with⟨rfl,rfl⟩|⟨k3,i3,rfl,h30,h31,rfl⟩
    ·omega
    ·omega
  cases a with
  | none =>
   simp only[] at h
   cases hb:Nat.blt m big
   ·rw[hb] at h; cases h
   rw[hb] at h
   simp only[cond_true,Option.some.injEq,Prod.mk.injEq] at h
   obtain⟨rfl,rfl⟩:=h
   have hmb:=XG.1 hb
   obtain⟨hsb,_⟩:=key hO
   refine⟨hsb.2.2.2 hO,r,l,hh,m,(run hO).1,hsb.to hg,by rw[ZY,XG.2 (show m-l<big by omega)]; rfl,?_⟩
   rw[ZD,XH (by omega)]; simp
  | some a =>
   simp only[] at h
   have hO3:=Zhn h hO
   obtain⟨hsb,c1,c2,c3⟩:=key hO3
   obtain⟨hrun,_⟩:=run hO3
   have hfr3:Yb r s3.n s'.n:=by rw[hsb.1]; exact hfr
   obtain⟨_,r',h1,h2,h3⟩:=Zd3 (rc:=m) h hxa (hsb.good hg) hfr3 hO (Nat.le_refl _) (by
    intro hf
    rcases c3 with⟨_,h⟩|⟨_,_,h,_⟩
    ·exact h
    ·rw[h] at hf; cases hf)
   refine⟨hsb.2.2.2 hO3,r',l,hh,m,hrun,(hsb.to hg).trans h1,h2,?_⟩
   rw[h3]
   by_cases e:m=l<;>simp[e]
 ·replace h:=oB h
  obtain⟨⟨hh,s1⟩,e1,h⟩:=h
  simp only[] at h
  replace h:=oB h
  obtain⟨⟨l,s2⟩,e2,h⟩:=h
  simp only[] at h
  have key:s2.O→Z5 s s2∧((hi=none∧hh=len)∨∃ k i,hi=some (.int k i)∧0≤i∧i≤(Zbu s cap:Int)∧hh=i.toNat)∧((lo=none∧l=0)∨∃ k i,lo=some (.int k i)∧0≤i∧i≤(hh:Int)∧l=i.toNat):=by
   intro h2
   obtain⟨b2,c2⟩:=XF e2 h2
   obtain⟨b1,c1⟩:=XF e1 (b2.2.2.2 h2)
   exact⟨b1.trans b2,c1,c2⟩
  have hcap:=hg.cap cap
  have run:s2.O→(Instr.sliceBounds b len (r.cap cap) (lo.map r.val) (hi.map r.val) ((none:Option Value).map r.val)).run P w = .ok (l,hh,r.cap cap) w:=by
   intro h2
   obtain⟨_,c1,c2⟩:=key h2
   refine Jl w ?_ ?_
   ·rcases c1 with⟨rfl,rfl⟩|⟨k,i,e,h0,h1,rfl⟩
    ·exact .inl ⟨rfl,rfl⟩
    ·exact .inr ⟨k,i,K2 e,h0,by omega,rfl⟩
   ·rcases c2 with⟨rfl,rfl⟩|⟨k,i,e,h0,h1,rfl⟩
    ·exact .inl ⟨rfl,rfl⟩
    ·exact .inr ⟨k,i,K2 e,h0,h1,rfl⟩
  cases a with
  | none =>
   simp only[] at h
   cases hb:Nat.blt cap big
   ·rw[hb] at h; cases h
   rw[hb] at h
   simp only[cond_true,Option.some.injEq,Prod.mk.injEq] at h
   obtain⟨rfl,rfl⟩:=h
   have hc:=XG.1 hb
   obtain⟨hsb,_⟩:=key hO
   refine⟨hsb.2.2.2 hO,r,l,hh,r.cap cap,run hO,hsb.to hg,by rw[ZY,XG.2 (show cap-l<big by omega)]; rfl,?_⟩
   rw[ZD,XH hc,XH (by omega)]; simp
  | some a =>
   simp only[] at h
   cases lo with
   | none =>
    simp only[Option.some.injEq,Prod.mk.injEq] at h
    obtain⟨rfl,rfl⟩:=h
    obtain⟨hsb,c1,c2⟩:=key hO
    obtain rfl:l=0:=by
     rcases c2 with⟨_,h⟩|⟨_,_,h,_⟩
     ·exact h
     ·cases h
    refine⟨hsb.2.2.2 hO,r,0,hh,r.cap cap,run hO,hsb.to hg,?_,?_⟩
    ·rw[ZY,Bool.and_eq_true]; exact⟨hxa,hxc⟩
    ·rw[ZD]
     simp[Addr.add]
   | some lo0 =>
    simp only[] at h
    have hO2:=Zhn h hO
    obtain⟨hsb,c1,c2⟩:=key hO2
    have hfr2:Yb r s2.n s'.n:=by rw[hsb.1]; exact hfr
    obtain⟨_,r',h1,h2,h3⟩:=Zd3 (rc:=r.cap cap) h hxa (hsb.good hg) hfr2 hO hcap (by intro hf; cases hf)
    refine⟨hsb.2.2.2 hO2,r',l,hh,r.cap cap,run hO2,(hsb.to hg).trans h1,h2,?_⟩
    rw[h3]
    by_cases e:r.cap cap=l<;>simp[e]
end
end Go.Proofs.YtagacmljbgkmoaaGreatDoor.Sy
namespace Go.Proofs.YtagacmljbgkmoaaGreatDoor.Sy
open Go.IntKind (u8 u16 u32 u64 i64)
open Go.RowKit
section
variable {P:Program} {r:Ren} {s s':St} {w:World}
theorem W0 {a:Addr} {n:Nat} {l:List Value} (h:X8 s a n=some (l,s')):Z5 s s':=by
 unfold X8 at h
 split at h
 ·cases h
 obtain⟨k,_,h⟩:=oB h
 cases hit:Zbt k.it
 ·rw[hit] at h; cases h
 rw[hit] at h
 simp only[cond_true,Option.some.injEq,Prod.mk.injEq] at h
 rw[← h.2]; exact .ask _ _
theorem Ua {a:Addr} {n size:Nat} {lo hi mx:Option Value} {v:Value} (b:Bool) (h:Km s a n size lo hi mx=some (v,s')) (hx:Xv r.d a=true) (hg:Good r s w) (hfr:Yb r s.n s'.n) (hO:s'.O) :
  s.O∧∃ r' l h m,(Instr.sliceBounds b n n (lo.map r.val) (hi.map r.val) (mx.map r.val)).run P w = .ok (l,h,m) w∧To r s w r' s' w∧bnd r'.d v=true ∧
   r'.val v = .slice (some (if m=l then r.addr a else(r.addr a).add (l*size))) (h-l) (m-l):=by
 unfold Km at h
 split at h
 ·cases h
 cases hb:Nat.blt n big
 ·rw[hb] at h; cases h
 rw[hb] at h
 simp only[cond_true] at h
 have hn:=XG.1 hb
 obtain⟨h1,r',l,hh,m,h2,h3,h4,h5⟩:=J9 (P:=P) b h (by rw[ZY,hb]; simp[hx]) hg hfr hO
 rw[XH hn] at h2
 refine⟨h1,r',l,hh,m,h2,h3,h4,?_⟩
 rw[h5]
 split<;>simp
theorem Zd4 {t:TypeId} {x v:Value} {lo hi mx:Option Value} (h:Zay P s t x lo hi mx=some (v,s')) (hx:bnd r.d x=true) (hg:Good r s w) (hfr:Yb r s.n s'.n) (hO:s'.O) :
  s.O∧Yld P r s w (Instr.sliceAt t (r.val x) (lo.map r.val) (hi.map r.val) (mx.map r.val)) v s':=by
 unfold Zay at h
 obtain⟨d,hd,h⟩:=oB h
 split at h
 ·rename_i n elem a _
  obtain⟨size,hsz,h⟩:=oB h
  rw[QQ] at hx
  obtain⟨h1,r',l,hh,m,h2,h3,h4,h5⟩:=Ua (P:=P) false h hx hg hfr hO
  refine⟨h1,r',w,?_,h3,h4⟩
  rw[h5,Qs,Option.map_some]
  simp only[Instr.sliceAt,Instr.sureAddr,Sem.run_bind,run_underlying hd,Result.andThen_ok,Sem.run_pure,h2,Qc hsz]
 ·rename_i b _
  split at h
  ·unfold Jd at h
   simp only[ZR] at h
   obtain⟨⟨hh,s1⟩,e1,h⟩:=oB h
   simp only[] at h
   obtain⟨⟨l,s2⟩,e2,h⟩:=oB h
   simp only[Option.some.injEq,Prod.mk.injEq] at h
   obtain⟨rfl,rfl⟩:=h
   obtain⟨b2,c2⟩:=XF e2 hO
   obtain⟨b1,c1⟩:=XF e1 (b2.2.2.2 hO)
   have hsb:=b1.trans b2
   have hsize:b.size=b.data.toList.length:=by rw[Array.length_toList]; rfl
   have hr:=Jl (P:=P) (b:=false) (len:=b.size) (cap:=b.size) (lo:=lo.map r.val) (hi:=hi.map r.val) (h:=hh) (l:=l) w (by
     rcases c1 with⟨rfl,rfl⟩|⟨k,i,e,h0,h1,rfl⟩
     ·exact .inl ⟨rfl,hsize.symm⟩
     ·exact .inr ⟨k,i,K2 e,h0,by rw[hsize]; exact h1,rfl⟩) (by
     rcases c2 with⟨rfl,rfl⟩|⟨k,i,e,h0,h1,rfl⟩
     ·exact .inl ⟨rfl,rfl⟩
     ·exact .inr ⟨k,i,K2 e,h0,h1,rfl⟩)
   refine⟨hsb.2.2.2 hO,r,w,?_,hsb.to hg,We _ _⟩
   have hex:b.extract l hh=⟨⟨(b.data.toList.drop l).take (hh-l)⟩⟩:=by
    have:=ByteArray.extract_mk b.data.toList l hh
    simpa using this
   rw[Qy,Qy]
   simp only[Instr.sliceAt,Instr.slice,Sem.run_bind,run_underlying hd,Result.andThen_ok,Sem.run_pure,Option.map_none,Option.isSome_none,Bool.false_eq_true,if_false,hr,hex]
  ·cases h
 ·rename_i elem a len cap _
  obtain⟨size,hsz,h⟩:=oB h
  obtain⟨h1,r',l,hh,m,h2,h3,h4,h5⟩:=J9 (P:=P) true h hx hg hfr hO
  refine⟨h1,r',w,?_,h3,h4⟩
  rw[h5,ZD]
  simp only[Instr.sliceAt,Instr.slice,Sem.run_bind,run_underlying hd,Result.andThen_ok,Sem.run_pure,h2,Qc hsz]
 ·rename_i arr a _
  obtain⟨d2,hd2,h⟩:=oB h
  split at h
  ·rename_i n elem
   obtain⟨size,hsz,h⟩:=oB h
   rw[QQ] at hx
   obtain⟨h1,r',l,hh,m,h2,h3,h4,h5⟩:=Ua (P:=P) false h hx hg hfr hO
   refine⟨h1,r',w,?_,h3,h4⟩
   rw[h5,Qs,Option.map_some]
   simp only[Instr.sliceAt,Instr.slice,asAddr,Sem.run_bind,run_underlying hd,run_underlying hd2,Result.andThen_ok,Sem.run_pure,h2,Qc hsz]
  ·cases h
 ·cases h
theorem UG {t:TypeId} {l c v:Value} (h:Vc P s t l c=some (v,s')) (hg:Good r s w) (hfr:Yb r s.n s'.n) (hO:s'.O) :
  s.O∧Yld P r s w (Instr.makeSlice t (r.val l) (r.val c)) v s':=by
 unfold Vc at h
 split at h
 ·rename_i kl l kc c
  obtain⟨elem,he,h⟩:=oB h
  obtain⟨n,hn,h⟩:=oB h
  obtain⟨by_,hby,h⟩:=oB h
  obtain⟨z,hz,h⟩:=oB h
  obtain⟨h1,h2,_⟩:=V1 hz
  generalize hT:(decide (0≤l)&&decide (l≤c)&&decide (by_*c≤140737488355328)&&decide (c<9223372036854775808))=T at h
  have hTn:s.n=(ask T s).2.n:=rfl
  have hTl:s.lo=(ask T s).2.lo:=rfl
  cases hb:((ask T s).1&&Nat.beq z.cells.size n&&Nat.blt 0 n)
  ·rw[hb] at h; cases h
  rw[hb] at h
  simp only[cond_true,Option.some.injEq,Prod.mk.injEq] at h
  obtain⟨rfl,rfl⟩:=h
  have hO':(ask T s).2.O:=hO
  simp only[Bool.and_eq_true,Nat.blt_eq] at hb
  obtain⟨⟨hb1,hb2⟩,hb3⟩:=hb
  rw[J7 _ _ hO',← hT] at hb1
  simp only[Bool.and_eq_true,decide_eq_true_eq] at hb1
  obtain⟨⟨⟨g1,g2⟩,g3⟩,g4⟩:=hb1
  have hb2:=eB hb2
  subst hb2
  have hgt:=Z5.good (.ask T s) hg
  have hrc:∀ v∈KP c.toNat z.cells.toList,ZP v=true:=fun v hv=>h2 v (V2 _ hv)
  have hcb:c.toNat<big:=by unfold big; omega
  have hfr1:r.d (ask T s).2.n=false:=hfr _ (by rw[Zc8]; exact Nat.le_refl _) (Nat.lt_succ_self _)
  have hnew:=Zcj hgt hfr1 (some (s.n,z.cells.size)) (KP c.toNat z.cells.toList) ((KP c.toNat z.cells.toList).map r.val).toArray elem (0,0) c.toNat w.drawn ((s.n,c.toNat)::s.lo) (.inr ⟨_,rfl,Nat.le_refl _⟩)
   (fun v hv=>⟨Zu _ (hrc v hv),Yg (hrc v hv)⟩) (.inr ⟨z.cells.size,rfl,by simp[Jj],by simp⟩) (fun j v hj=>by simp[hj]) (fun j _ h=>by simp at h) s.esc
  refine⟨Yc _ _ hO',_,_,?_,(To.ask hg T).trans hnew,?_⟩
  ·have hv:=YJ r s.n w.heap.size c.toNat l.toNat (by rw[← Zc8 T s]; exact hfr1)
   rw[Zc8,hv,WW r (List.all_eq_true.2 hrc),← J8 z.cells _ hb3]
   obtain⟨i,hi,rfl⟩:=oM hby
   have hwl:i64.wrap l=l:=IntWalk.i64_in _ (by omega)
   have hwc:i64.wrap c=c:=IntWalk.i64_in _ (by omega)
   have hc1:decide (c<0)=false:=by simp; omega
   have hc2:decide ((i.bytes:Int)*c>2^48)=false:=by simp; omega
   have hc3:decide (l<0)=false:=by simp; omega
   have hc4:decide (l>c)=false:=by simp; omega
   simp only[Z8,Instr.makeSlice,asInt,asIntOf,Sem.run_bind,run_underlying (Xl he),Result.andThen_ok,Sem.run_pure,Xj hi,hwl,hwc,hc1,hc2,hc3,hc4,
    Bool.or_self,Bool.false_eq_true,if_false,run_askRoom,Qc hn]
   by_cases h0:c.toNat*z.cells.size=0
   ·have hc0:c.toNat=0:=by rcases Nat.mul_eq_zero.1 h0 with h|h<;>omega
    have e0:∀ (g:Nat→Value),(Array.range (c.toNat*z.cells.size)).map g = #[]:=fun g=>by rw[h0]; simp
    simp only[if_pos h0,e0,Sem.run_pure,Result.andThen_ok,newRow,Sem.run_bind,run_newObj]
   ·simp only[if_neg h0,Sem.run_bind,h1,Sem.run_pure,Result.andThen_ok,newRow,run_newObj]
  ·exact YK (by have:=Ren.with_d r (ask T s).2.n w.heap.size c.toNat; rw[Zc8] at this ⊢; exact this)
 ·cases h
theorem ZbB {src dst e:TypeId} {b:ByteArray} {v:Value} (h:KZ s b=some (v,s')) (hs:P.underlying src=some .string) (hd:P.underlying dst=some (.slice e)) (he:P.underlying e=some (.int .u8)) (hg:Good r s w) (hfr:Yb r s.n s'.n) :
  s'.O=s.O∧Yld P r s w (convert src dst (.string b)) v s':=by
 unfold KZ at h
 simp only[ZR] at h
 simp only[Option.some.injEq,Prod.mk.injEq] at h
 obtain⟨rfl,rfl⟩:=h
 have hsize:b.size=b.data.toList.length:=by rw[Array.length_toList]; rfl
 have hge:=grownCap_ge w b.size 0 e
 have hrow:(bytesRow b (grownCap w b.size 0 e)).size=grownCap w b.size 0 e:=by
  simp only[bytesRow,Array.size_append,Array.size_map,Array.size_replicate]
  have:b.data.size=b.size:=rfl
  omega
 have hnew:=Zcj hg (hfr s.n (Nat.le_refl _) (Nat.lt_succ_self _)) (some (s.n,1)) (b.data.toList.map fun c => .int .u8 (c.toNat:Nat)) (bytesRow b (grownCap w b.size 0 e)) e
  ((bytesRow b (grownCap w b.size 0 e)).size,(bytesRow b (grownCap w b.size 0 e)).size+1) (grownCap w b.size 0 e) w.drew.drawn
  ((s.n,b.data.toList.length)::s.lo) (.inr ⟨_,rfl,by omega⟩) (fun v hv=>by
   obtain⟨c,_,rfl⟩:=List.mem_map.1 hv
   exact⟨Xo _ _ _,rfl⟩) (.inr ⟨1,rfl,by omega,by rw[hrow,List.length_map]; omega⟩) (fun j v hj=>by
   rw[List.getElem?_map,Option.map_eq_some_iff] at hj
   obtain⟨c,hc,rfl⟩:=hj
   rw[Z8]
   have hlt:j<b.data.size:=by
    have:=(List.getElem?_eq_some_iff.1 hc).1
    simpa using this
   rw[bytesRow,Array.getElem?_append_left (by simpa using hlt),Array.getElem?_map]
   rw[Array.getElem?_toList] at hc
   rw[hc]; rfl) (fun j hj hc=>by omega) s.esc
 refine⟨rfl,_,_,?_,hnew,YK (Ren.with_d _ _ _ _)⟩
 rw[run_bytes_of_string w src dst e b hs hd he,YJ _ _ _ _ _ (hfr s.n (Nat.le_refl _) (Nat.lt_succ_self _)),hsize]
 rfl
theorem Zda {l:List Value} (hc:l.all Zhm=true):∃ ns:List Int,l=ns.map (Value.int .u8)∧l.map ZjD=ns.map fun n=>UInt8.ofNat n.toNat:=by
 induction l with
 | nil=>exact⟨[],rfl,rfl⟩
 | cons v l ih =>
  simp only[List.all_cons,Bool.and_eq_true] at hc
  obtain⟨ns,h1,h2⟩:=ih hc.2
  cases v with
  | int k n =>
   cases k<;>simp only[Zhm,Bool.false_eq_true,false_and] at hc
   refine⟨n::ns,by rw[List.map_cons,← h1],?_⟩
   rw[List.map_cons,h2]
   rfl
  | _=>simp[Zhm] at hc
theorem Zdb (ns:List Int):∀ (b:ByteArray),ns.foldl (fun r n=>r.push (UInt8.ofNat n.toNat)) b=⟨⟨b.data.toList++ns.map fun n=>UInt8.ofNat n.toNat⟩⟩:=by
 induction ns with
 | nil=>intro b; simp
 | cons n ns ih =>
  intro b
  rw[List.foldl_cons,ih]
  simp[ByteArray.push]
theorem ZaF {src dst e:TypeId} {x v:Value} (h:VR s x=some (v,s')) (hs:P.underlying src=some (.slice e)) (he:P.underlying e=some (.int .u8)) (hd:P.underlying dst=some .string) (hg:Good r s w) (hO:s'.O) :
  s.O∧Yld P r s w (convert src dst (r.val x)) v s':=by
 unfold VR at h
 split at h
 ·simp only[Option.some.injEq,Prod.mk.injEq] at h
  obtain⟨rfl,rfl⟩:=h
  refine⟨hO,Yld.same hg ?_ (We _ _)⟩
  rw[ZD,Qy,Option.map_none,run_convert_bytes_string w src dst e none _ _ hs he hd]
  rfl
 ·rename_i a len cap
  have fin:∀ ns:List Int,(loadCells (r.addr a) len).run P w = .ok (ns.map (Value.int .u8)).toArray w→(convert src dst (r.val (.slice (some a) len cap))).run P w = .ok (r.val (.string ⟨⟨ns.map fun n=>UInt8.ofNat n.toNat⟩⟩)) w:=by
   intro ns hrun
   rw[ZD,Qy,Option.map_some,run_convert_bytes_string w src dst e _ _ _ hs he hd,run_bytesToString w _ _ _ ns hrun,Zdb]
   rfl
  split at h
  ·rename_i l hl
   obtain⟨l,s1⟩:=l
   simp only[Option.some.injEq,Prod.mk.injEq] at h
   obtain⟨rfl,rfl⟩:=h
   have hO1:=Yc _ _ hO
   obtain⟨ns,h1,h2⟩:=Zda (Xr _ _ hO)
   subst h1
   obtain⟨q1,_⟩:=Vf (P:=P) hl hg hO1
   have hsb:=W0 hl
   refine⟨hsb.2.2.2 hO1,r,w,?_,(hsb.to hg).trans (To.ask (hsb.good hg) _),We _ _⟩
   rw[h2]
   refine fin ns ?_
   rw[q1,List.map_map]
   congr 2
   apply List.map_congr_left
   intro n _
   simp[Z8]
  ·cases hb:Nat.beq len 0
   ·rw[hb] at h; cases h
   rw[hb] at h
   simp only[cond_true,Option.some.injEq,Prod.mk.injEq] at h
   obtain⟨rfl,rfl⟩:=h
   refine⟨hO,Yld.same hg ?_ (We _ _)⟩
   refine fin [] ?_
   rw[eB hb]
   rfl
 ·cases h
end
end Go.Proofs.YtagacmljbgkmoaaGreatDoor.Sy
namespace Go.Proofs.YtagacmljbgkmoaaGreatDoor.Sy
open Go.IntKind (u8 u16 u32 u64 i64)
open Go.RowKit
section
variable {P:Program} {r:Ren} {s s':St} {w:World}
theorem Vy:∀ (x y:List UInt8),Zl x y=(x==y)
 | [],[]=>rfl
 | [],_::_=>rfl
 | _::_,[]=>rfl
 | a::x,b::y=>by
  rw[Zl,Vy x y,List.cons_beq_cons]
  congr 1
  cases h:Nat.beq a.toNat b.toNat
  ·symm
   rw[beq_eq_false_iff_ne]
   intro e; subst e; rw[Nat.beq_refl] at h; cases h
  ·have:=eB h
   symm
   rw[beq_iff_eq]
   exact UInt8.toNat_inj.1 this
theorem Jm:∀ (x y:List UInt8),Vr x y=Op.bytesLess x y
 | [],[]=>rfl
 | [],_::_=>rfl
 | _::_,[]=>rfl
 | a::x,b::y=>by
  rw[Vr,Jm x y,Op.bytesLess]
  congr 1
  ·rw[Bool.eq_iff_iff]
   simp[UInt8.lt_iff_toNat_lt]
  ·congr 1
   cases h:Nat.beq a.toNat b.toNat
   ·symm
    rw[beq_eq_false_iff_ne]
    intro e; subst e; rw[Nat.beq_refl] at h; cases h
   ·have:=eB h
    symm
    rw[beq_iff_eq]
    exact UInt8.toNat_inj.1 this
theorem Vz (b:ByteArray):b.toList=b.data.toList:=by
 have:=ByteArray.toList_mk b.data.toList
 simpa using this
theorem Zh2 {op:BinOp} {a b:ByteArray} {v:Value} (h:ZjT s op a.data.toList b.data.toList=some (v,s')) (hO:s'.O) (w:World) :
  Z5 s s'∧(Op.stringOp op a b).run P w = .ok v w∧ZP v=true:=by
 unfold ZjT at h
 simp only[ZR] at h
 unfold Op.stringOp
 simp only[Vz,← Vy,← Jm]
 split at h
 ·simp only[Option.some.injEq,Prod.mk.injEq] at h
  obtain⟨rfl,rfl⟩:=h
  have hlt:=XG.1 (Xr _ _ hO)
  have ha:a.size=a.data.toList.length:=by rw[Array.length_toList]; rfl
  have hb':b.size=b.data.toList.length:=by rw[Array.length_toList]; rfl
  have hap:a++b=⟨⟨a.data.toList++b.data.toList⟩⟩:=by
   have:=ByteArray.mk_append_mk a.data.toList b.data.toList
   simpa using this
  have hm:¬ (((a.size+b.size:Nat):Int)>i64.max):=by
   have:i64.max=9223372036854775807:=by decide
   rw[this]
   unfold big at hlt
   omega
  simp only[if_neg hm,hap]
  exact⟨.ask _ _,rfl,rfl⟩
 all_goals first
  | (simp only[Option.some.injEq,Prod.mk.injEq] at h; obtain⟨rfl,rfl⟩:=h; exact⟨.refl _,rfl,rfl⟩)
  | cases h
theorem Zf5 {d:TypeDesc} {a:Option Addr} (h:Xa d (.pointer a)=true):∃ e,d = .pointer e:=by cases d<;>simp[Xa] at h; exact⟨_,rfl⟩
theorem Zdc {d:TypeDesc} {a:Option Addr} {l c:Nat} (h:Xa d (.slice a l c)=true):∃ e,d = .slice e:=by cases d<;>simp[Xa] at h; exact⟨_,rfl⟩
theorem ZaG {d:TypeDesc} (h:Xa d .nilFunc=true):∃ a b c,d = .func a b c:=by cases d<;>simp[Xa] at h; exact⟨_,_,_,rfl⟩
theorem Zd5 {d:TypeDesc} {f:Fn} {a b:Array Value} (h:Xa d (.func f a b)=true):∃ a b c,d = .func a b c:=by cases d<;>simp[Xa] at h; exact⟨_,_,_,rfl⟩
theorem Zd6 {t:TypeId} {d:TypeDesc} {x y:Value} {p q:Bool} (hd:P.underlying t=some d) (k1:Xa d x=true) (k2:Xa d y=true) (hp:XA x=some p) (hq:XA y=some q) (k3:(p||q)=true) (w:World) :
  (Op.equalIn (9999+1) t (r.val x) (r.val y)).run P w = .ok (p&&q) w:=by
 rw[Op.equalIn]
 simp only[Sem.run_bind,run_underlying hd,Result.andThen_ok]
 cases x with
 | pointer a =>
  obtain⟨e,rfl⟩:=Zf5 k1
  cases y with
  | pointer b =>
   simp only[XA,Option.some.injEq] at hp hq
   subst hp; subst hq
   rw[Qs,Qs]
   cases a<;>cases b<;>first|rfl|cases k3
  | _=>simp[Xa] at k2
 | slice a l c =>
  obtain⟨e,rfl⟩:=Zdc k1
  cases y with
  | slice b l' c' =>
   simp only[XA,Option.some.injEq] at hp hq
   subst hp; subst hq
   rw[ZD,ZD]
   cases a<;>cases b<;>first|rfl|cases k3
  | _=>simp[Xa] at k2
 | nilFunc =>
  obtain⟨e1,e2,e3,rfl⟩:=ZaG k1
  simp only[XA,Option.some.injEq] at hp
  subst hp
  cases y with
  | nilFunc=>simp only[XA,Option.some.injEq] at hq; subst hq; rw[XC]; rfl
  | func f a b=>simp only[XA,Option.some.injEq] at hq; subst hq; rw[XC,Yf]; rfl
  | _=>simp[Xa] at k2
 | func f a b =>
  obtain⟨e1,e2,e3,rfl⟩:=Zd5 k1
  simp only[XA,Option.some.injEq] at hp
  subst hp
  cases y with
  | nilFunc=>simp only[XA,Option.some.injEq] at hq; subst hq; rw[XC,Yf]; rfl
  | func f a b=>simp only[XA,Option.some.injEq] at hq; subst hq; cases k3
  | _=>simp[Xa] at k2
 | _=>simp[XA] at hp
theorem ZaH {t:TypeId} {x y:Value} {b:Bool} (h:J5 P t x y=some b) (w:World):(Op.equal t (r.val x) (r.val y)).run P w = .ok b w:=by
 unfold J5 at h
 obtain⟨d,hd,h⟩:=oB h
 obtain⟨p,hp,h⟩:=oB h
 obtain⟨q,hq,h⟩:=oB h
 cases hb:(Xa d x&&Xa d y&&(p||q))
 ·rw[hb] at h; cases h
 rw[hb] at h
 simp only[cond_true,Option.some.injEq] at h
 subst h
 rw[Bool.and_eq_true,Bool.and_eq_true] at hb
 exact Zd6 hd hb.1.1 hb.1.2 hp hq hb.2 w
theorem VA {x:Value} {n:Nat} (h:ZjU x=some n) (w:World):(Builtin.lenOf (r.val x)).run P w = .ok n w:=by
 unfold ZjU at h
 simp only[ZR] at h
 split at h
 ·simp only[Option.some.injEq] at h; subst h; rw[ZD]; rfl
 ·simp only[Option.some.injEq] at h; subst h; rw[Qy,Array.length_toList]; rfl
 ·cases h
theorem YO {size n:Nat} {x:Value} {l:List Value} (h:Je s size n x=some (l,s')):Z5 s s':=by
 unfold Je at h
 split at h
 ·split at h
  ·rename_i l1 h1
   cases h
   exact W0 h1
  ·cases hb:Nat.beq (n*size) 0
   ·rw[hb] at h; cases h
   ·rw[hb] at h
    simp only[cond_true,Option.some.injEq,Prod.mk.injEq] at h
    rw[← h.2]; exact .refl _
 ·simp only[Option.some.injEq,Prod.mk.injEq] at h
  rw[← h.2]; exact .refl _
 ·simp only[Option.some.injEq,Prod.mk.injEq] at h
  rw[← h.2]; exact .refl _
 ·cases h
theorem Wh {size n:Nat} {x:Value} {l:List Value} (h:Je s size n x=some (l,s')) (hg:Good r s w) (hx:bnd r.d x=true) (hO:s'.O) :
  (Builtin.firstCells size n (r.val x)).run P w = .ok (l.map r.val).toArray w∧∀ v∈l,bnd r.d v=true∧v.oneCell'=true:=by
 unfold Je at h
 split at h
 ·rename_i a l' c
  split at h
  ·rename_i l1 h1
   cases h
   obtain⟨h1,_,_,h2⟩:=Vf (P:=P) h1 hg hO
   rw[ZD,Option.map_some]
   exact⟨h1,h2⟩
  ·cases hb:Nat.beq (n*size) 0
   ·rw[hb] at h; cases h
   rw[hb] at h
   simp only[cond_true,Option.some.injEq,Prod.mk.injEq] at h
   obtain⟨rfl,rfl⟩:=h
   refine⟨?_,fun v hv=>by cases hv⟩
   rw[ZD,Option.map_some]
   simp only[Builtin.firstCells,eB hb]
   rfl
 ·simp only[Option.some.injEq,Prod.mk.injEq] at h
  obtain⟨rfl,rfl⟩:=h
  refine⟨?_,fun v hv=>by cases hv⟩
  rw[ZD]
  rfl
 ·rename_i b
  simp only[Option.some.injEq,Prod.mk.injEq] at h
  obtain⟨rfl,rfl⟩:=h
  refine⟨?_,fun v hv=>by
   obtain⟨c,_,rfl⟩:=List.mem_map.1 hv
   exact⟨Xo _ _ _,rfl⟩⟩
  rw[Qy]
  simp only[Builtin.firstCells,Sem.run_pure]
  congr 1
  have hex:b.extract 0 n=⟨⟨b.data.toList.take n⟩⟩:=by
   have:=ByteArray.extract_mk b.data.toList 0 n
   simpa using this
  rw[hex]
  apply Array.ext'
  simp only[Array.toList_map,List.map_map,List.map_inj_left]
  simp[Z8]
 ·cases h
theorem Zf6 {t ty:TypeId} {ts:Array TypeId} {dst src v:Value} (ht:ts[0]? = some t) (h:ZdQ P s t dst src=some (v,s')) (hd:bnd r.d dst=true) (hx:bnd r.d src=true) (hg:Good r s w) (hO:s'.O) :
  s.O∧Yld P r s w (Builtin.copy_ ts ty #[r.val dst,r.val src]) v s':=by
 unfold ZdQ at h
 split at h
 ·rename_i base dlen dcap
  obtain⟨elem,he,h⟩:=oB h
  obtain⟨size,hsz,h⟩:=oB h
  obtain⟨m,hm,h⟩:=oB h
  obtain⟨z,_,h⟩:=oB h
  obtain⟨⟨cells,s1⟩,hc,h⟩:=oB h
  have hsb:=YO hc
  have hrun:∀ (w':World),s1.O→(match (base.map r.addr) with|some a=>storeCells a (cells.map r.val)|none=>pure ()).run P w = .ok () w' →
    (Builtin.copy_ ts ty #[r.val (.slice base dlen dcap),r.val src]).run P w = .ok (.int .i64 (Nat.min m dlen:Nat)) w':=by
   intro w' hO1 hst
   obtain⟨h1,_⟩:=Wh (P:=P) hc hg hx hO1
   rw[ZD]
   simp only[Builtin.copy_,ht,List.getElem?_toArray,List.getElem?_cons_zero,List.getElem?_cons_succ,Sem.run_bind,run_underlying (Xl he),Result.andThen_ok,VA hm,Qc hsz,h1]
   cases base with
   | none =>
    simp only[Option.map_none,Sem.run_pure,Result.ok.injEq,true_and] at hst ⊢
    subst hst; exact⟨rfl,rfl⟩
   | some a =>
    simp only[Option.map_some] at hst ⊢
    simp only[Sem.run_bind,hst,Result.andThen_ok,Sem.run_pure]
    rfl
  cases base with
  | none =>
   simp only[Option.some.injEq,Prod.mk.injEq] at h
   obtain⟨rfl,rfl⟩:=h
   have hO1:=Yc _ _ hO
   have hq:=Xr _ _ hO
   rw[Bool.and_eq_true,ZR] at hq
   have hnil:cells=[]:=List.eq_nil_of_length_eq_zero (eB hq.2)
   subst hnil
   exact⟨hsb.2.2.2 hO1,r,w,by rw[Z8]; exact hrun w hO1 rfl,(hsb.to hg).trans (To.ask (hsb.good hg) _),Xo _ _ _⟩
  | some a =>
   simp only[] at h
   obtain⟨s2,hs2,h⟩:=oM h
   simp only[Prod.mk.injEq] at h
   obtain⟨rfl,rfl⟩:=h
   have hO2:(ask (Nat.beq (ZA cells) (Nat.min m dlen*size)) s1).2.O:=V0 hs2 hO
   have hO1:=Yc _ _ hO2
   obtain⟨_,h2⟩:=Wh (P:=P) hc hg hx hO1
   have hg2:=(Z5.ask (Nat.beq (ZA cells) (Nat.min m dlen*size)) s1).good (hsb.good hg)
   obtain⟨_,_,w',hw,hto⟩:=Kp (P:=P) hs2 hg2 (fun v hv=>(h2 v hv).1) hO
   exact⟨hsb.2.2.2 hO1,r,w',by rw[Z8]; exact hrun w' hO1 hw,((hsb.to hg).trans (To.ask (hsb.good hg) _)).trans hto,Xo _ _ _⟩
 ·cases h
def Jn (P:Program) (ts:Array TypeId):Prop :=
 ts[1]? = none∨∃ t1 d,ts[1]? = some t1∧P.underlying t1=some d∧∀ k,d ≠ .int k
theorem Y0 {t ty elem:TypeId} {ts:Array TypeId} {size n sLen cap:Nat} {base:Option Addr} {x:Value} {new:Array Value} {w':World}
  (ht:ts[0]? = some t) (hz:Jn P ts) (he:P.underlying t=some (.slice elem)) (hsz:XP P elem=some size) (hn:∀ w,(Builtin.lenOf x).run P w = .ok n w)
  (hnew:(Builtin.firstCells size n x).run P w = .ok new w) (hc:sLen+n≤cap)
  (hst:(match base with|some a=>storeCells (a.add (sLen*size)) new.toList|none=>pure ()).run P w = .ok () w') :
  (Builtin.append_ ts ty #[.slice base sLen cap,x]).run P w = .ok (.slice base (sLen+n) cap) w':=by
 rcases hz with hz|⟨t1,d,hz,hd,hz'⟩
 all_goals
  cases base with
  | none =>
   simp only[Sem.run_pure,Result.ok.injEq,true_and] at hst
   subst hst
   simp only[Builtin.append_,ht,hz,List.getElem?_toArray,List.getElem?_cons_zero,List.getElem?_cons_succ,Sem.run_bind,run_underlying he,Result.andThen_ok,Sem.run_pure,Qc hsz,
    Bool.false_eq_true,if_false,hn,if_pos hc,Bool.not_false,if_true,hnew]
   try (simp only[run_underlying hd,Result.andThen_ok]; rw[if_neg (by cases d<;>first|(exact absurd rfl (hz' _))|(intro h; cases h))]; simp only[Result.andThen_ok,Sem.run_bind,Sem.run_pure,hn,if_pos hc]; rw[if_pos (by cases d<;>first|(exact absurd rfl (hz' _))|(rfl))]; simp only[hnew,Result.andThen_ok])
  | some a =>
   simp only[] at hst
   simp only[Builtin.append_,ht,hz,List.getElem?_toArray,List.getElem?_cons_zero,List.getElem?_cons_succ,Sem.run_bind,run_underlying he,Result.andThen_ok,Sem.run_pure,Qc hsz,
    Bool.false_eq_true,if_false,hn,if_pos hc,Bool.not_false,if_true,hnew,hst]
   try (simp only[run_underlying hd,Result.andThen_ok]; rw[if_neg (by cases d<;>first|(exact absurd rfl (hz' _))|(intro h; cases h))]; simp only[Result.andThen_ok,Sem.run_bind,Sem.run_pure,hn,if_pos hc]; rw[if_pos (by cases d<;>first|(exact absurd rfl (hz' _))|(rfl))]; simp only[hnew,Result.andThen_ok,hst])
theorem JZ {t ty elem:TypeId} {ts:Array TypeId} {size n sLen cap by_:Nat} {base:Option Addr} {x z:Value} {new old:Array Value}
  (ht:ts[0]? = some t) (hz:Jn P ts) (he:P.underlying t=some (.slice elem)) (hsz:XP P elem=some size) (hby:Zcc P elem=some by_) (hzv:∀ w,(zeroValue elem).run P w = .ok z w)
  (hn:∀ w,(Builtin.lenOf x).run P w = .ok n w)
  (hnew:∀ w',w'.heap=w.heap→(Builtin.firstCells size n x).run P w' = .ok new w') (hold:∀ w',w'.heap=w.heap→(Builtin.firstCells size sLen (.slice base sLen cap)).run P w' = .ok old w') (hc:¬ sLen+n≤cap)
  (h63:sLen+n<4611686018427387904) (hb:(sLen+n)*by_≤1099511627776) :
  (Builtin.append_ ts ty #[.slice base sLen cap,x]).run P w = .ok (.slice (some ⟨w.heap.size,0,none⟩) (sLen+n) (grownCap w (sLen+n) cap elem))
   {w with heap:=w.heap.push (.cells (old++new++Builtin.zeroCells z.cells (grownCap w (sLen+n) cap elem-(sLen+n))) elem),drawn:=w.drawn+1 }:=by
 obtain⟨i,hi,rfl⟩:=oM hby
 have hnext:=nextslicecap_le (need:=sLen+n) (old:=cap) (by omega)
 have h48:(Builtin.nextslicecap (sLen+n) cap*i.bytes>2^48)=False:=by
  have h1:=Nat.mul_le_mul_right i.bytes hnext
  rw[Nat.mul_assoc] at h1
  rw[eq_iff_iff,iff_false]
  omega
 have hmax:(((sLen+n:Nat):Int)>i64.max)=False:=by
  have:i64.max=9223372036854775807:=by decide
  rw[this,eq_iff_iff,iff_false]
  omega
 have hch:(choose (.appendCap (sLen+n) cap elem)).run P w = .ok (grownCap w (sLen+n) cap elem) { w with drawn:=w.drawn+1 }:=by
  rw[run_choose]; rfl
 have h1:=hold { w with drawn:=w.drawn+1 } rfl
 have h2:=hnew { w with drawn:=w.drawn+1 } rfl
 rcases hz with hz|⟨t1,d,hz,hd,hz'⟩
 ·simp only[Builtin.append_,ht,hz,List.getElem?_toArray,List.getElem?_cons_zero,List.getElem?_cons_succ,Sem.run_bind,run_underlying he,Result.andThen_ok,Sem.run_pure,Qc hsz,
   Bool.false_eq_true,if_false,hn,if_neg hc,Bool.not_false,if_true,hmax,false_and,Xj hi,h48,hch,run_askRoom,h1,h2,hzv,newRow,run_newObj]
 ·simp only[Builtin.append_,ht,hz,List.getElem?_toArray,List.getElem?_cons_zero,List.getElem?_cons_succ,Sem.run_bind,run_underlying he,Result.andThen_ok,Sem.run_pure,Qc hsz,run_underlying hd]
  rw[if_neg (by cases d<;>first|(exact absurd rfl (hz' _))|(intro h; cases h))]
  simp only[Result.andThen_ok,Sem.run_bind,Sem.run_pure,hn,if_neg hc,hmax,false_and,if_false,Xj hi,h48,hch,run_askRoom,h1]
  rw[if_pos (by cases d<;>first|(exact absurd rfl (hz' _))|rfl)]
  simp only[Result.andThen_ok,Sem.run_bind,Sem.run_pure,h2,hzv,newRow,run_newObj]
end
end Go.Proofs.YtagacmljbgkmoaaGreatDoor.Sy
namespace Go.Proofs.YtagacmljbgkmoaaGreatDoor.Sy
open Go.IntKind (u8 u16 u32 u64 i64)
open Go.RowKit
section
variable {P:Program} {r:Ren} {s s':St} {w:World}
theorem Good.heap {w':World} (h:Good r s w) (hw:w'.heap=w.heap):Good r s w' :=
 ⟨fun g k hk=>(h.is g k hk).heap (by rw[hw]),h.inj,h.lt,h.lo⟩
theorem Good.kill (h:Good r s w) (g:Nat):Good r { s with h:=Sy.kill s.h g } w:=by
 have hl:∀ g' k,look (Sy.kill s.h g) g'=some k→g'≠g∧look s.h g'=some k:=by
  intro g' k hk
  rw[VZ] at hk
  split at hk
  ·cases hk
  ·rename_i e; exact⟨e,hk⟩
 exact⟨fun g' k hk=>h.is g' k (hl g' k hk).2,fun g1 g2 k1 k2 h1 h2 h4 h3=>h.inj g1 g2 k1 k2 (hl _ _ h1).2 (hl _ _ h2).2 h4 h3,fun g' k hk=>h.lt g' k (hl g' k hk).2,h.lo⟩
theorem To.kill (h:Good r s w) (g:Nat):To r s w r { s with h:=Sy.kill s.h g } w :=
 ⟨Ext.refl _,fun _ h => .inl h,Nat.le_refl _,h,h.kill g,rfl,rfl,rfl,Nat.le_refl _,fun _ _ _=>rfl,fun g' k hk=>by
  have hk:look (Sy.kill s.h g) g'=some k:=hk
  rw[VZ] at hk
  split at hk
  ·cases hk
  ·exact .inl ⟨k,hk,id⟩⟩
theorem Zd7 (hg:Good r s w) (hfr:r.d s.n=false) {g0:Nat} {k:Blk} {c sz:Nat} {new:List Value} {arr arr':Array Value} {ty:TypeId} {fr:Nat×Nat} (m:Nat) (hk:look s.h g0=some k) (_hw0:r.w g0=0) (hrw:k.rw=true)
  (hnew:∀ v∈new,bnd r.d v=true∧v.oneCell'=true) (_h1:w.heap[r.b g0]? = some (.cells arr ty fr)) (hf:∀ (j:Nat),j<arr.size→¬ (fr.1≤j∧j<fr.2)) (hs:arr'.size=arr.size)
  (hsz:arr.size=c*sz) (hfit:k.cells.length+new.length≤arr.size) (ho:∀ (j:Nat) (v:Value),k.cells[j]? = some v→arr[j]? = some (r.val v)) (hm:m≤c)
  (hc:∀ j:Nat,arr'[j]? = if k.cells.length≤j∧j<k.cells.length+new.length then(new.map r.val)[j-k.cells.length]? else arr[j]?) :
  To r s w (r.with s.n (r.b g0) (c)) { Xh { s with h:=Sy.kill s.h g0 } (some (s.n,sz)) (k.cells++new) with lo:=(s.n,m)::s.lo } { w with heap:=w.heap.setIfInBounds (r.b g0) (.cells arr' ty fr) }:=by
 have he:=Ren.with_ext hfr (r.b g0) (c)
 have hlt0:=(hg.is g0 k hk).lt
 have hfar:∀ b',b'≠r.b g0→(w.heap.setIfInBounds (r.b g0) (.cells arr' ty fr))[b']? = w.heap[b']?:=fun b' hb'=>Array.getElem?_setIfInBounds_ne (Ne.symm hb')
 have hlk:∀ g k',look ((s.n,(⟨true,some (s.n,sz),k.cells++new,none⟩:Blk))::Sy.kill s.h g0) g=some k'→(g=s.n∧k'=⟨true,some (s.n,sz),k.cells++new,none⟩)∨(g≠s.n∧g≠g0∧look s.h g=some k'):=by
  intro g k' hk'
  rw[ZO] at hk'
  split at hk'
  ·rename_i e; exact .inl ⟨e,(Option.some.inj hk').symm⟩
  ·rename_i e
   rw[VZ] at hk'
   split at hk'
   ·cases hk'
   ·rename_i e'; exact .inr ⟨e,e',hk'⟩
 have hbc:∀ v∈k.cells++new,bnd r.d v=true∧v.oneCell'=true:=fun v hv=>by
  rcases List.mem_append.1 hv with h|h
  ·exact(hg.lt _ _ hk).2.2 v h
  ·exact hnew v h
 refine⟨he,fun g hg=>Ren.with_dom hg,Nat.le_succ _,hg,⟨?_,?_,?_,?_⟩,rfl,rfl,rfl,by simp,?_,?_⟩
 ·intro g k' hk'
  rcases hlk g k' hk' with⟨rfl,rfl⟩|⟨hne,hne0,hk'⟩
  ·refine .inl ⟨rfl,arr',ty,fr,by rw[Ren.with_b _ _ _ _ hfr]; simp[hlt0],?_,?_,fun _ j hj=>hf j (by omega)⟩
   ·simp only[Ren.with_c,Ren.with_w,List.length_append]
    exact⟨.inr ⟨trivial,by omega⟩,by omega⟩
   ·intro j v hj
    rw[Ren.with_w,Nat.zero_add,XE he v (hbc v (List.mem_of_getElem? hj)).1,hc j]
    simp only[] at hj
    rw[List.getElem?_append] at hj
    split at hj
    ·rw[if_neg (by omega)]; exact ho j v hj
    ·have hlt:=(List.getElem?_eq_some_iff.1 hj).1
     rw[if_pos (by omega),List.getElem?_map,hj]; rfl
  ·exact(hg.is g k' hk').ext he (hg.lt g k' hk').1 (hg.lt g k' hk').2 (hfar _ fun e=>hne0 (hg.inj' hk' hk hrw e))
 ·intro g g' k1 k2 h5 h6 h8 h7
  rcases hlk g k1 h5 with⟨rfl,rfl⟩|⟨hne,hne0,h5⟩<;>rcases hlk g' k2 h6 with⟨rfl,rfl⟩|⟨hne',hne0',h6⟩
  ·rfl
  ·rw[Ren.with_b _ _ _ _ hfr,he.b g' (hg.lt _ _ h6).1] at h7
   exact absurd (hg.inj' h6 hk hrw h7.symm) hne0'
  ·rw[Ren.with_b _ _ _ _ hfr,he.b g (hg.lt _ _ h5).1] at h7
   exact absurd (hg.inj' h5 hk hrw h7) hne0
  ·rw[he.b g (hg.lt _ _ h5).1,he.b g' (hg.lt _ _ h6).1] at h7
   exact hg.inj _ _ _ _ h5 h6 h8 h7
 ·intro g k' hk'
  rcases hlk g k' hk' with⟨rfl,rfl⟩|⟨hne,hne0,hk'⟩
  ·exact⟨Ren.with_d _ _ _ _,fun q hq=>by cases hq; exact Ren.with_d _ _ _ _,fun v hv=>⟨Yy he.d v (hbc v hv).1,(hbc v hv).2⟩⟩
  ·exact⟨he.d g (hg.lt g k' hk').1,(hg.lt g k' hk').2.mono he.d⟩
 ·intro x hx
  rcases List.mem_cons.1 hx with rfl|hx
  ·exact⟨by rw[Ren.with_c]; exact hm,Ren.with_d _ _ _ _⟩
  ·have:=hg.lo x hx
   rw[he.c x.1 this.2]
   exact⟨this.1,he.d _ this.2⟩
 ·intro b hb hn
  exact hfar b fun e=>hn g0 k hk hrw e.symm
 ·intro g k' hk'
  rcases hlk g k' hk' with⟨rfl,rfl⟩|⟨hne,hne0,hk'⟩
  ·exact .inr (.inr ⟨g0,k,hk,hrw,by rw[Ren.with_b _ _ _ _ hfr]⟩)
  ·exact .inl ⟨k',hk',id⟩
theorem Zh3 {size len cap n:Nat} {sc:Bool} {base:Option Addr} {new:List Value} {v:Value} (h:Zbw s size sc base len cap n new=some (v,s')) (hO:s'.O):s.O:=by
 unfold Zbw at h
 cases hb:Nat.blt cap big
 ·rw[hb] at h
  simp only[cond_false] at h
  split at h
  ·split at h
   ·cases h
   obtain⟨k,_,h⟩:=oB h
   split at h
   ·cases h
   rename_i p _
   cases hc:(k.rw&&Nat.beq _ 0&&Nat.beq (big+p.1) cap&&Nat.beq p.2 size)<;>rw[hc] at h
   ·cases h
   ·simp only[cond_true,Option.some.injEq,Prod.mk.injEq] at h
    obtain⟨_,rfl⟩:=h
    exact Yc _ s hO
  ·cases h
 ·rw[hb] at h
  simp only[cond_true] at h
  cases hbr:ZdP s base len cap<;>rw[hbr] at h
  ·simp only[cond_false] at h
   cases hle:(test (Nat.ble (len+n) cap) s).1<;>rw[hle] at h
   ·simp only[cond_false] at h
    obtain⟨⟨old,s1⟩,hold,h⟩:=oM h
    simp only[Prod.mk.injEq] at h
    obtain⟨_,rfl⟩:=h
    exact X9 _ _ ((YO hold).2.2.2 (Yc _ s1 hO))
   ·simp only[cond_true] at h
    split at h
    ·cases hn:Nat.beq n 0<;>rw[hn] at h
     ·simp only[cond_false] at h
      split at h
      ·cases h
      obtain⟨s1,h1,h⟩:=oM h
      simp only[Prod.mk.injEq] at h
      obtain⟨_,rfl⟩:=h
      exact X9 _ _ (V0 h1 hO)
     ·simp only[cond_true,Option.some.injEq,Prod.mk.injEq] at h
      obtain⟨_,rfl⟩:=h
      exact X9 _ _ hO
    ·simp only[Option.some.injEq,Prod.mk.injEq] at h
     obtain⟨_,rfl⟩:=h
     exact X9 _ _ (Yc _ _ hO)
  ·simp only[cond_true] at h
   split at h
   ·simp only[Option.some.injEq,Prod.mk.injEq] at h
    obtain⟨_,rfl⟩:=h
    exact hO
   ·cases h
theorem Zd8 {a:Addr} (h:bare s a=true):∃ k,a.spot=none∧look s.h a.block=some k∧k.rw=true∧k.it=none∧a.off=0∧k.op=none∧k.cells=[]:=by
 unfold bare at h
 split at h
 ·cases h
 rename_i hs
 split at h
 ·cases h
 rename_i k hk
 simp only[Bool.and_eq_true] at h
 obtain⟨⟨⟨⟨h1,h2⟩,h3⟩,h4⟩,h5⟩:=h
 refine⟨k,hs,hk,h1,Wg h2,eB h3,?_,?_⟩
 ·cases ho:k.op with
  | none=>rfl
  | some p=>rw[ho] at h4; cases h4
 ·cases hc:k.cells with
  | nil=>rfl
  | cons a b=>rw[hc] at h5; cases h5
theorem Zf7 {t ty elem:TypeId} {ts:Array TypeId} {size n len cap by_:Nat} {sc:Bool} {base:Option Addr} {x z v:Value} {new:List Value}
  (ht:ts[0]? = some t) (hnz:Jn P ts) (hsl:P.underlying t=some (.slice elem)) (hsz:XP P elem=some size) (hby:Zcc P elem=some by_) (hzv:∀ w,(zeroValue elem).run P w = .ok z w)
  (hn:ZjU x=some n) (hfirst:∀ w':World,w'.heap=w.heap→(Builtin.firstCells size n (r.val x)).run P w' = .ok (new.map r.val).toArray w') (f2:∀ v∈new,bnd r.d v=true∧v.oneCell'=true)
  (c2:new.length=n*size) (c4:(len+n)*by_≤1099511627776) (c5:len+n<4611686018427387904) (c6:z.cells.size=size) (_c7:0<size)
  (h:Zbw s size sc base len cap n new=some (v,s')) (hd:bnd r.d (.slice base len cap)=true) (hg:Good r s w) (hfr:Yb r s.n s'.n) (hO:s'.O) :
  Yld P r s w (Builtin.append_ ts ty #[r.val (.slice base len cap),r.val x]) v s':=by
 have hd':=hd
 rw[ZY,Bool.and_eq_true] at hd
 obtain⟨hda,hdc⟩:=hd
 have f1:=hfirst w rfl
 have grow:∀ (s0:St) (old:List Value) (esc:Nat),r.d s.n=false→Good r s0 w→s0.n=s.n→s0.lo=s.lo→old.length=len*size→(∀ v∈old,bnd r.d v=true∧v.oneCell'=true)→To r s w r s0 w →
   (∀ w',w'.heap=w.heap→(Builtin.firstCells size len (.slice (base.map r.addr) len (r.cap cap))).run P w' = .ok (old.map r.val).toArray w')→¬ len+n≤r.cap cap →
   Yld P r s w (Builtin.append_ ts ty #[r.val (.slice base len cap),r.val x]) (.slice (some ⟨s.n,0,none⟩) (len+n) (big+s.n)) { Xh s0 (some (s.n,size)) (old++new) with lo:=(s.n,len+n)::s.lo,esc:=esc }:=by
  intro s0 old esc hfr0 hg0 hn0 hlo0 hol hob hto hold hnot
  have hrun:=JZ (ty:=ty) (w:=w) ht hnz hsl hsz hby hzv (VA (r:=r) hn) hfirst hold hnot c5 c4
  have hge:=grownCap_ge w (len+n) (r.cap cap) elem
  have hasz:((old.map r.val).toArray++(new.map r.val).toArray++Builtin.zeroCells z.cells (grownCap w (len+n) (r.cap cap) elem-(len+n))).size=grownCap w (len+n) (r.cap cap) elem*size:=by
   simp only[Array.size_append,List.size_toArray,List.length_map,size_zeroCells,c6,hol,c2,← Nat.add_mul]
   congr 1; omega
  have hnew2:=Zcj hg0 (by rw[hn0]; exact hfr0) (some (s.n,size)) (old++new) ((old.map r.val).toArray++(new.map r.val).toArray++Builtin.zeroCells z.cells (grownCap w (len+n) (r.cap cap) elem-(len+n))) elem (0,0)
   (grownCap w (len+n) (r.cap cap) elem) (w.drawn+1) ((s.n,len+n)::s.lo) (.inr ⟨len+n,by rw[hn0,hlo0],hge⟩) (fun v hv=>by
    rcases List.mem_append.1 hv with h|h
    ·exact hob v h
    ·exact f2 v h) (.inr ⟨size,by rw[hn0],hasz,by
     rw[hasz,List.length_append,hol,c2,← Nat.add_mul]; exact Nat.mul_le_mul_right _ hge⟩) (fun j v hj=>by
    have hlt:=(List.getElem?_eq_some_iff.1 hj).1
    have e:(old.map r.val).toArray++(new.map r.val).toArray=((old++new).map r.val).toArray:=by simp
    rw[e,Array.getElem?_append_left (by simpa using hlt),List.getElem?_toArray,List.getElem?_map,hj]; rfl) (fun j _ hc=>by simp at hc) esc
  refine⟨_,_,?_,hto.trans (hn0▸hnew2),YK (Ren.with_d _ _ _ _)⟩
  rw[ZD (r:=r),hrun,YJ _ _ _ _ _ hfr0]
 unfold Zbw at h
 cases hb:Nat.blt cap big
 ·rw[hb] at h
  simp only[cond_false] at h
  cases base with
  | none=>cases h
  | some a =>
   simp only[] at h
   cases hs:a.spot with
   | some _=>rw[hs] at h; cases h
   | none =>
    rw[hs] at h
    simp only[] at h
    replace h:=oB h
    obtain⟨k,hk,h⟩:=h
    cases hop:k.op with
    | none=>rw[hop] at h; cases h
    | some p =>
     rw[hop] at h
     simp only[] at h
     cases hc:(k.rw&&Nat.beq a.off 0&&Nat.beq (big+p.1) cap&&Nat.beq p.2 size)
     ·rw[hc] at h; cases h
     rw[hc] at h
     simp only[cond_true,Option.some.injEq,Prod.mk.injEq] at h
     obtain⟨rfl,rfl⟩:=h
     have hq:=Xr _ s hO
     rw[ZR] at hq
     have k5:=eB hq
     simp only[Bool.and_eq_true] at hc
     obtain⟨⟨⟨k1,k2⟩,k3⟩,k4⟩:=hc
     have k2:=eB k2
     have k3:=eB k3
     have k4:=eB k4
     have hcapv:r.cap cap=r.c p.1:=by rw[← k3,YV]
     have hfs:r.d s.n=false:=hfr s.n (Nat.le_refl _) (Nat.lt_succ_self _)
     obtain⟨arr,ty',fr,g1,g2,g3,g4⟩:=(hg.is _ _ hk).open hop
     have g4:=g4 k1
     rw[hop] at g2
     simp only[] at g2
     have hw0:r.w a.block=0∧arr.size=r.c p.1*p.2:=by
      rcases g2.1 with h|h
      ·rw[k1] at h; cases h
      ·exact h
     have g2':arr.size=r.c p.1*p.2∧k.cells.length≤arr.size:=⟨hw0.2,by have:=g2.2; omega⟩
     have g3:∀ (j:Nat) (v:Value),k.cells[j]? = some v→arr[j]? = some (r.val v):=fun j v hj=>by
      have:=g3 j v hj
      rw[hw0.1,Nat.zero_add] at this
      exact this
     have haddr:r.addr a=⟨r.b a.block,0,none⟩:=by rw[QS r a hs,k2,hw0.1]
     have hob:=(hg.lt _ _ hk).2.2
     have hga:=Z5.good (.ask (Nat.beq k.cells.length (len*size)) s) hg
     by_cases hin:len+n≤r.cap cap
     ·have hfit:k.cells.length+new.length≤arr.size:=by
       rw[g2'.1,k5,c2,← Nat.add_mul,k4,← hcapv]; exact Nat.mul_le_mul_right _ hin
      obtain⟨arr',e1,e2,e3⟩:=YZ P (r.b a.block) (len*size) ty' fr (new.map r.val) 0 arr w g1 (by simp only[List.length_map,Nat.add_zero]; omega) (fun u hu=>by
       obtain⟨u',hu',rfl⟩:=List.mem_map.1 hu
       rw[Jg]; exact(f2 u' hu').2) g4
      have hgrow:=Zd7 hga hfs (arr':=arr') (new:=new) (len+n) hk hw0.1 k1 f2 g1 g4 e2 g2'.1 hfit g3 (by rw[← hcapv]; exact hin) (fun j=>by
       rw[e3 j,k5]; simp only[Nat.add_zero,List.length_map])
      rw[k4] at hgrow
      rw[ZR]
      refine⟨_,_,?_,(To.ask hg _).trans hgrow,YK (Ren.with_d _ _ _ _)⟩
      have hrun:=Y0 (P:=P) (ty:=ty) (base:=some (r.addr a)) (w:=w) ht hnz hsl hsz (VA (r:=r) hn) f1 hin (w':={ w with heap:=w.heap.setIfInBounds (r.b a.block) (.cells arr' ty' fr) }) (by
       simp only[haddr,add_plain,Nat.zero_add]
       exact e1)
      rw[ZD (r:=r),Option.map_some,hrun,Zc8,YJ _ _ _ _ _ hfs,haddr,hcapv]
     ·have hold:∀ w',w'.heap=w.heap→(Builtin.firstCells size len (.slice ((some a).map r.addr) len (r.cap cap))).run P w' = .ok (k.cells.map r.val).toArray w':=by
       intro w' hw'
       have hg':=hg.heap hw'
       have hit:Zbt k.it=true:=by
        rcases hg.is _ _ hk with⟨h,_⟩|⟨_,_,_,_,h,_⟩
        ·rw[h]; rfl
        ·rw[hop] at h; cases h
       have hh:ZI (a.off+len*size) k.cells=true:=(Yz _ _).2 (by omega)
       have hrd:X8 s a (len*size)=some (k.cells,(ask true s).2):=by
        unfold X8
        rw[hs]
        simp only[hk,Option.bind_some,hit,cond_true,hh]
        simp[k2,← k5]
       have:=(Vf (P:=P) hrd hg' (by rw[k5,Nat.beq_refl] at hq; exact Yc _ s hO)).1
       simp only[Option.map_some]
       exact this
      rw[ZR]
      have:=grow { (ask (Nat.beq k.cells.length (len*size)) s).2 with h:=Sy.kill s.h a.block } k.cells s.esc hfs (hga.kill _) rfl rfl k5 hob ((To.ask hg _).trans (To.kill hga _)) hold hin
      exact this
 ·rw[hb] at h
  simp only[cond_true] at h
  have hcs:=XH (r:=r) (XG.1 hb)
  cases hbr:ZdP s base len cap
  ·rw[hbr] at h
   simp only[cond_false] at h
   generalize hT:Nat.ble (len+n) cap=T at h
   have hsb:=Z5.test T s
   have hgt:=hsb.good hg
   cases hle:(test T s).1
   ·rw[hle] at h
    simp only[cond_false] at h
    obtain⟨⟨old,s1⟩,hold,h⟩:=oM h
    simp only[Prod.mk.injEq] at h
    obtain⟨rfl,rfl⟩:=h
    have hO1:s1.O:=Yc _ s1 hO
    have hsb1:=YO hold
    have hOt:=hsb1.2.2.2 hO1
    have hT':T=false:=by rw[← Wa T s hOt]; exact hle
    have hq:=Xr _ s1 hO
    rw[ZR] at hq
    have ho2:=(Wh (P:=P) hold hgt hd' hO1).2
    have hnot:¬ len+n≤r.cap cap:=by
     rw[hcs]; intro hc; rw[← hT,(Nat.ble_eq).mpr hc] at hT'; cases hT'
    have hsb2:=(hsb.trans hsb1).trans (.ask (Nat.beq old.length (len*size)) s1)
    have hn1:s1.n=s.n:=(hsb.trans hsb1).1
    have hfs:r.d s.n=false:=hfr s.n (Nat.le_refl _) (by
     show s.n<s1.n+1
     omega)
    have:=grow (ask (Nat.beq old.length (len*size)) s1).2 old s1.esc hfs (hsb2.good hg) hsb2.1 hsb2.2.2.1 (eB hq) ho2 (hsb2.to hg) (fun w' hw'=>by
     have:=(Wh (P:=P) hold (hgt.heap hw') hd' hO1).1
     rw[ZD] at this
     exact this) hnot
    rw[ZR]
    exact this
   ·rw[hle] at h
    simp only[cond_true] at h
    have hle':T=true→len+n≤r.cap cap:=fun h=>by rw[hcs]; rw[← hT] at h; exact Nat.le_of_ble_eq_true h
    cases base with
    | none =>
     simp only[Option.some.injEq,Prod.mk.injEq] at h
     obtain⟨rfl,rfl⟩:=h
     have hOt:=Yc _ _ hO
     have hn0:=eB (Xr _ _ hO)
     have hT':T=true:=by rw[← Wa T s hOt]; exact hle
     have hnil:new=[]:=List.eq_nil_of_length_eq_zero (by rw[c2,hn0]; simp)
     subst hnil
     refine⟨r,w,?_,(To.test hg T).trans (To.ask hgt _),by rw[ZY,Bool.and_eq_true]; exact⟨hda,hdc⟩⟩
     rw[ZD,ZD]
     exact Y0 ht hnz hsl hsz (VA (r:=r) hn) f1 (hle' hT') rfl
    | some a =>
     simp only[] at h
     cases hn0:Nat.beq n 0
     ·rw[hn0] at h
      simp only[cond_false] at h
      cases hsa:a.spot with
      | some _=>rw[hsa] at h; cases h
      | none =>
      rw[hsa] at h
      simp only[] at h
      replace h:=oM h
      obtain⟨s1,hs1,h⟩:=h
      simp only[Prod.mk.injEq] at h
      obtain⟨rfl,rfl⟩:=h
      have hOt:=V0 hs1 hO
      have hT':T=true:=by rw[← Wa T s hOt]; exact hle
      obtain⟨hsp,_,w',hw,hto⟩:=Kp (P:=P) hs1 hgt (fun v hv=>(f2 v hv).1) hO
      refine⟨r,w',?_,(To.test hg T).trans hto,by rw[ZY,Bool.and_eq_true]; exact⟨hda,hdc⟩⟩
      rw[ZD,ZD,Option.map_some]
      refine Y0 ht hnz hsl hsz (VA (r:=r) hn) f1 (hle' hT') ?_
      simp only[]
      rw[WY r a _ hsa] at hw
      exact hw
     ·rw[hn0] at h
      simp only[cond_true,Option.some.injEq,Prod.mk.injEq] at h
      obtain⟨rfl,rfl⟩:=h
      have hT':T=true:=by rw[← Wa T s hO]; exact hle
      have:=eB hn0
      subst this
      have hnil:new=[]:=List.eq_nil_of_length_eq_zero (by rw[c2]; simp)
      subst hnil
      refine⟨r,w,?_,To.test hg T,by rw[ZY,Bool.and_eq_true]; exact⟨hda,hdc⟩⟩
      rw[ZD,ZD]
      exact Y0 ht hnz hsl hsz (VA (r:=r) hn) f1 (hle' hT') rfl
  ·rw[hbr] at h
   simp only[cond_true] at h
   cases base with
   | none=>cases h
   | some a =>
   simp only[ZdP,Bool.and_eq_true] at hbr
   obtain⟨⟨hc0,hl0⟩,hbr⟩:=hbr
   have hc0:=eB hc0
   have hl0:=eB hl0
   subst hc0
   subst hl0
   obtain⟨k,hs,hk,krw,kit,ko,kop,kc⟩:=Zd8 hbr
   simp only[Option.some.injEq,Prod.mk.injEq] at h
   obtain⟨rfl,rfl⟩:=h
   have hfs:r.d s.n=false:=hfr s.n (Nat.le_refl _) (Nat.lt_succ_self _)
   obtain⟨arr,ty',fr,g1,g2,g3,g4⟩:=(hg.is _ _ hk).c kit
   rw[kop] at g2
   simp only[kc] at g2
   simp only[List.length_nil] at g2
   by_cases hin:0+n≤0
   ·have hn0:n=0:=by omega
    subst hn0
    have hnil:new=[]:=List.eq_nil_of_length_eq_zero (by rw[c2]; simp)
    subst hnil
    have hto:=Zd7 hg hfs (c:=0) (sz:=size) (arr':=arr) (new:=[]) (0+0) hk g2.1 krw f2 g1 (g4 krw) rfl (by rw[g2.2]; simp) (by rw[kc]; simp) (fun j v hj=>by rw[kc] at hj; simp at hj) (by omega) (fun j=>by rw[kc,if_neg (by simp only[List.length_nil]; omega)])
    rw[Zck _ _ _ g1,kc] at hto
    refine⟨_,w,?_,hto,YK (Ren.with_d _ _ _ _)⟩
    rw[YJ _ _ _ _ _ hfs,ZD,Option.map_some,hcs,QS r a hs,ko,g2.1]
    exact Y0 ht hnz hsl hsz (VA (r:=r) hn) f1 (Nat.le_refl _) rfl
   ·have:=grow { s with h:=Sy.kill s.h a.block } [] s.esc hfs (hg.kill _) rfl rfl (by simp) (fun v hv=>by cases hv) (To.kill hg _) (fun w' hw'=>by
     simp only[Option.map_some,Builtin.firstCells,Nat.zero_mul]; rfl) (by rw[hcs]; exact hin)
    exact this
theorem Zdd {t ty:TypeId} {ts:Array TypeId} {sl x v:Value} (ht:ts[0]? = some t) (h:Jf P s t ts.toList.tail.head? sl x=some (v,s')) (hd:bnd r.d sl=true) (hx:bnd r.d x=true) (hg:Good r s w) (hfr:Yb r s.n s'.n) (hO:s'.O) :
  s.O∧Yld P r s w (Builtin.append_ ts ty #[r.val sl,r.val x]) v s':=by
 unfold Jf at h
 split at h
 ·rename_i base len cap
  replace h:=oB h
  obtain⟨elem,he,h⟩:=h
  replace h:=oB h
  obtain⟨size,hsz,h⟩:=h
  replace h:=oB h
  obtain⟨by_,hby,h⟩:=h
  replace h:=oB h
  obtain⟨z,hz,h⟩:=h
  replace h:=oB h
  obtain⟨ok,hok,h⟩:=h
  replace h:=oB h
  obtain⟨n,hn,h⟩:=h
  replace h:=oB h
  obtain⟨⟨new,s1⟩,hnew,h⟩:=h
  generalize hcond:(ok&&Nat.beq z.cells.size size&&Nat.blt 0 size)=cond at h
  cases cond
  ·cases h
  simp only[cond_true] at h
  simp only[Bool.and_eq_true,Nat.blt_eq] at hcond
  obtain⟨⟨c1,c6⟩,c7⟩:=hcond
  subst c1
  have c6:=eB c6
  have hOa:=Zh3 h hO
  have hq:=Xr _ s1 hOa
  have hO1:=Yc _ s1 hOa
  simp only[Bool.and_eq_true,Nat.ble_eq,Nat.blt_eq,ZR] at hq
  obtain⟨⟨⟨c2,c3⟩,c4⟩,c5⟩:=hq
  have c2:=eB c2
  obtain⟨hzv,hzf,_⟩:=V1 hz
  have hsl:=Xl he
  have hnz:Jn P ts:=by
   unfold Jn
   have htl:ts.toList.tail.head? = ts[1]?:=by
    rw[← Array.getElem?_toList]
    rcases ts with⟨l⟩
    rcases l with _|⟨a,_|⟨b,l⟩⟩<;>rfl
   rw[htl] at hok
   cases h1:ts[1]? with
   | none=>exact .inl rfl
   | some t1 =>
    rw[h1] at hok
    simp only[] at hok
    obtain⟨d,hd1,hd2⟩:=oM hok
    refine .inr ⟨t1,d,rfl,hd1,fun k e => ?_⟩
    subst e
    cases hd2
  have hsb:=YO hnew
  obtain⟨f1,f2⟩:=Wh (P:=P) hnew hg hx hO1
  have hsb2:Z5 s _:=hsb.trans (.ask (Nat.beq (ZA new) (n*size)&&KD new&&Nat.ble ((len+n)*by_) 1099511627776&&Nat.blt (len+n) 4611686018427387904) s1)
  have hy:=Zf7 (ty:=ty) ht hnz hsl hsz hby hzv hn (fun w' hw'=>(Wh (P:=P) hnew (hg.heap hw') hx hO1).1) f2 c2 c4 c5 c6 c7 h hd (hsb2.good hg) (by rw[hsb2.1]; exact hfr) hO
  obtain⟨r',w',y1,y2,y3⟩:=hy
  exact⟨hsb.2.2.2 hO1,r',w',y1,(hsb2.to hg).trans y2,y3⟩
 ·cases h
end
end Go.Proofs.YtagacmljbgkmoaaGreatDoor.Sy
namespace Go.Proofs.YtagacmljbgkmoaaGreatDoor.Sy
open Go.IntKind (u8 u16 u32 u64 i64)
open Go.RowKit
def Zco (r:Ren) (e:Env) (a:Act) (x:Operand):Prop:=∀ v,opd e x=some v→a.eval x=r.val v∧bnd r.d v=true
section
variable {P:Program} {r:Ren} {s s':St} {w:World} {e:Env} {a:Act}
theorem Zd9 {x:Operand} (h:∀ t,x = .tmp t→isU (YU e t)=true∨(a.tmps.getD t undef=r.val (YU e t)∧bnd r.d (YU e t)=true)):Zco r e a x:=by
 intro v hv
 cases x with
 | tmp t =>
  simp only[opd] at hv
  rcases h t rfl with hu|hu
  ·rw[hu] at hv; cases hv
  ·cases hi:isU (YU e t)<;>rw[hi] at hv
   ·simp only[cond_false,Option.some.injEq] at hv
    subst hv
    exact hu
   ·cases hv
 | const c =>
  simp only[opd] at hv
  cases hf:Xn c
  ·rw[hf] at hv; cases hv
  ·rw[hf] at hv
   simp only[cond_true,Option.some.injEq] at hv
   subst hv
   exact⟨(YG r hf).symm,VW _ hf⟩
 | func f =>
  simp only[opd,Option.some.injEq] at hv
  subst hv
  exact⟨by rw[Yf]; simp[Act.eval],by rw[Xd]; simp⟩
 | «global» g =>
  simp only[opd] at hv
  cases hf:Nat.blt g NG
  ·rw[hf] at hv; cases hv
  ·rw[hf] at hv
   simp only[cond_true,Option.some.injEq] at hv
   subst hv
   have hl:g<NG:=by simpa using hf
   refine⟨?_,?_⟩
   ·rw[Qs,Option.map_some,QS _ _ rfl,r.hb g hl,r.hw g hl]; rfl
   ·rw[QQ]; simp[Xv,r.hd g hl]
theorem UH:∀ {l:List Operand} {vs:List Value},ZhU e l=some vs→(∀ x∈l,Zco r e a x)→l.map a.eval=vs.map r.val∧∀ v∈vs,bnd r.d v=true
 | [],vs,h,_=>by simp only[ZhU,Option.some.injEq] at h; subst h; exact⟨rfl,fun v hv=>by cases hv⟩
 | x::l,vs,h,hs=>by
  simp only[ZhU] at h
  obtain⟨v,hv,h⟩:=oB h
  obtain⟨vs',hvs,rfl⟩:=oM h
  obtain⟨h1,h2⟩:=UH hvs fun y hy=>hs y (List.mem_cons_of_mem _ hy)
  obtain⟨h3,h4⟩:=hs x (List.mem_cons_self ..) v hv
  refine⟨by rw[List.map_cons,List.map_cons,h1,h3],fun u hu => ?_⟩
  rcases List.mem_cons.1 hu with rfl|hu
  ·exact h4
  ·exact h2 u hu
theorem UI:∀ {l:List (Nat×Operand)} {vs:List (Nat×Value)},Zc6 e l=some vs→(∀ x∈l,Zco r e a x.2) →
  l.map (fun x=>(x.1,a.eval x.2))=vs.map (fun x=>(x.1,r.val x.2))∧∀ v∈vs,bnd r.d v.2=true
 | [],vs,h,_=>by simp only[Zc6,Option.some.injEq] at h; subst h; exact⟨rfl,fun v hv=>by cases hv⟩
 | x::l,vs,h,hs=>by
  simp only[Zc6] at h
  obtain⟨v,hv,h⟩:=oB h
  obtain⟨vs',hvs,rfl⟩:=oM h
  obtain⟨h1,h2⟩:=UI hvs fun y hy=>hs y (List.mem_cons_of_mem _ hy)
  obtain⟨h3,h4⟩:=hs x (List.mem_cons_self ..) v hv
  refine⟨by rw[List.map_cons,List.map_cons,h1,h3],fun u hu => ?_⟩
  rcases List.mem_cons.1 hu with rfl|hu
  ·exact h4
  ·exact h2 u hu
theorem ZbC {x:Option Operand} {v:Option Value} (h:ZjC e x=some v) (hs:∀ y,x=some y→Zco r e a y):x.map a.eval=v.map r.val:=by
 cases x with
 | none=>simp only[ZjC,Option.some.injEq] at h; subst h; rfl
 | some x =>
  simp only[ZjC] at h
  obtain⟨u,hu,rfl⟩:=oM h
  rw[Option.map_some,Option.map_some,(hs x rfl u hu).1]
def Ub (P:Program) (r:Ren) (s:St) (w:World) (x:Sem Next) (v:Value) (s':St):Prop :=
 ∃ r' w',(x.run P w = .ok (.value (r'.val v)) w'∨(x.run P w = .ok .skip w'∧v=undef))∧To r s w r' s' w'∧bnd r'.d v=true
theorem Yld.comes {x:Sem Value} {v:Value} (h:Yld P r s w x v s'):Ub P r s w (do pure (.value (← x))) v s':=by
 obtain⟨r',w',h1,h2,h3⟩:=h
 exact⟨r',w',.inl (by simp only[Sem.run_bind,h1,Result.andThen_ok,Sem.run_pure]),h2,h3⟩
theorem Zf8 {o:Oper} {v:Value} (h:VQ P e s o=some (v,s')) (hs:∀ x∈o.op.operands,Zco r e a x) (hsel:∀ cs b,o.op ≠ .select cs b) (w:World) :
  s'=s∧(execOp a.eval o).run P w = .ok (.value (r.val v)) w∧bnd r.d v=true:=by
 unfold VQ at h
 generalize hc:(o.op.operands.toList.all fun x=>match opd e x with|some v=>Xn v|none=>false)=c at h
 cases c
 ·cases h
 simp only[cond_true] at h
 obtain⟨x,hx,h⟩:=oB h
 split at h
 ·rename_i v'
  cases hf:Xn v'
  ·rw[hf] at h; cases h
  rw[hf] at h
  simp only[cond_true,Option.some.injEq,Prod.mk.injEq] at h
  obtain⟨rfl,rfl⟩:=h
  have hcong:execOp a.eval o=execOp (opT e) o:=execOp_congr o hsel fun x hx=>by
   have:=List.all_eq_true.1 hc x (by simpa using hx)
   cases hv:opd e x with
   | none=>rw[hv] at this; cases this
   | some u =>
    rw[hv] at this
    simp only[] at this
    unfold opT
    rw[hv,(hs x hx u hv).1,YG r this]
    rfl
  refine⟨rfl,?_,VW _ hf⟩
  rw[hcong,Vv _ _ hx w,YG r hf]
 ·cases h
theorem Wi {o:Oper} {v:Value} (h:VQ P e s o=some (v,s')) (hs:∀ x∈o.op.operands,Zco r e a x) (hsel:∀ cs b,o.op ≠ .select cs b) (hg:Good r s w) (hO:s'.O) :
  s.O∧Ub P r s w (execOp a.eval o) v s':=by
 obtain⟨rfl,h1,h2⟩:=Zf8 h hs hsel w
 exact⟨hO,r,w,.inl h1,To.refl hg,h2⟩
def W1 (P:Program) (f:FuncId):Prop:=∀ args w,(callFunc f args).run P w = .ok (.enter f args) w
def Vp (P:Program) (f:FuncId) (args:List Value) (s:St) (v:Value) (s':St):Prop :=
 ∀ r w,WFn s→Good r s w→Yb r s.n s'.n→(∀ u∈args,bnd r.d u=true)→Calls P f (args.map r.val).toArray w fun e w'=>∃ r',e = .returned (r'.val v)∧To r s w r' s' w'∧bnd r'.d v=true
def Zx (P:Program) (call:Z1):Prop:=∀ f args s v s',call f args s=some (v,s')→Q9 s s'∧(s'.O→W1 P f∧Vp P f args s v s')
theorem Jo {α:Type} {c:Bool} {x:Option α} {y:α} (h:(bif c then x else none)=some y):c=true∧x=some y:=by
 cases c
 ·cases h
 ·exact⟨rfl,h⟩
theorem V5 {eq:TypeId→Value→Value→Option Bool} {xs ys:List Value}:∀ {l:List (TypeId×Nat)} {b:Bool},Vs eq xs ys P l=some b →
  ∃ bs:List Bool,bs.length=l.length∧(∀ (i:Nat) (x:TypeId×Nat) (c:Bool),l[i]? = some x→bs[i]? = some c→∃ a d,KO P x.1 xs x.2=some a∧KO P x.1 ys x.2=some d∧eq x.1 a d=some c)∧b=bs.all id
 | [],b,h=>by cases h; exact⟨[],rfl,fun i x c hx=>by simp at hx,rfl⟩
 | f::l,b,h=>by
  simp only[Vs] at h
  obtain⟨a,h1,h⟩:=oB h
  obtain⟨d,h2,h⟩:=oB h
  obtain⟨c,h3,h⟩:=oB h
  obtain⟨e,h4,rfl⟩:=oM h
  obtain⟨bs,g1,g2,rfl⟩:=V5 h4
  refine⟨c::bs,by simp[g1],fun i x c' hx hc => ?_,by simp⟩
  cases i with
  | zero=>simp at hx hc; subst hx; subst hc; exact⟨a,d,h1,h2,h3⟩
  | succ i=>exact g2 i x c' (by simpa using hx) (by simpa using hc)
def Zmf:Ren:=⟨fun g=>if g<NG then g else 0,fun _=>0,fun _=>(0,none),fun _=>0,fun _=>true,fun _ hg=>if_pos hg,fun _ _=>rfl,fun _ _=>rfl⟩
theorem Vh {t:TypeId} {cs:List Value} {off:Nat} {v:Value} (h:KO P t cs off=some v) (hf:cs.all ZP=true) (w:World):(part t cs.toArray off).run P w = .ok v w∧Xn v=true:=by
 have hv:Xn v=true:=by
  unfold KO at h
  obtain⟨g,hg,h⟩:=oB h
  cases g
  ·simp only[cond_false] at h
   have:=List.all_eq_true.1 hf v (List.mem_of_getElem? h)
   cases v<;>first|exact this|(simp[ZP] at this; done)
  ·simp only[cond_true] at h
   obtain⟨n',hn,rfl⟩:=oM h
   exact List.all_eq_true.2 fun u hu=>List.all_eq_true.1 hf u (List.mem_of_mem_drop (List.mem_of_mem_take hu))
 have h1:=(UA (r:=Zmf) (n:=fun _=>true) h (fun u hu=>Zu _ (List.all_eq_true.1 hf u hu)) w).1
 rw[WW _ hf,YG _ hv] at h1
 exact⟨h1,hv⟩
theorem V6 {xs:Array Value} (h:Xn (.agg xs)=true):xs.toList.all ZP=true:=h
theorem UJ:∀ (d fuel:Nat) (t:TypeId) (x y:Value) (b:Bool) (w:World),d≤fuel→Zf0 P d t x y=some b→Xn x=true→Xn y=true→(Op.equalIn fuel t x y).run P w = .ok b w
 | 0,_,_,_,_,_,_,_,h,_,_=>by simp[Zf0] at h
 | d+1,0,_,_,_,_,_,hd,_,_,_=>by omega
 | d+1,fuel+1,t,x,y,b,w,hd,h,hx,hy=>by
  simp only[Zf0] at h
  obtain⟨ty,ht,h⟩:=oB h
  split at h
  ·cases h; exact run_equalIn_bool' w fuel t _ _ ht
  ·rename_i k0 k a k' a' _
   obtain⟨hk,h2⟩:=Jo h
   have:=of_decide_eq_true hk
   subst this
   cases h2
   exact run_equalIn_int w fuel t k k0 a a' ht
  ·rename_i a a' _
   cases h
   rw[run_equalIn_string w fuel t _ _ ht,Vy,Vz,Vz]
  ·rename_i fs xs ys _
   cases hs:P.stoodInHeld t
   ·rw[hs] at h
    simp only[cond_false] at h
    have hfo:P.fieldsOf t=fs:=by unfold Program.fieldsOf; rw[ht]
    rw[run_equalIn_struct w fuel t xs ys (by rw[hfo]; exact ht) hs,hfo]
    have key:∀ (l:List Field) (b:Bool),Vs (Zf0 P d) xs.toList ys.toList P ((l.filter fun f => !(f.name == "_")).map fun f=>(f.type,f.offset))=some b→(Op.eqFields fuel xs ys l).run P w = .ok b w:=by
     intro l
     induction l with
     | nil=>intro b h; cases h; rfl
     | cons f l ih =>
      intro b h
      rw[List.filter_cons] at h
      unfold Op.eqFields
      cases hn:(f.name == "_")
      ·have hne:f.name ≠ "_":=by simpa using hn
       rw[if_pos hne]
       rw[hn] at h
       simp only[Bool.not_false,if_true,List.map_cons,Vs] at h
       obtain⟨a,h1,h⟩:=oB h
       obtain⟨e,h2,h⟩:=oB h
       obtain⟨c,h3,h⟩:=oB h
       obtain⟨g,h4,rfl⟩:=oM h
       obtain⟨p1,f1⟩:=Vh h1 (V6 hx) w
       obtain⟨p2,f2⟩:=Vh h2 (V6 hy) w
       have e1:=UJ d fuel _ _ _ _ w (by omega) h3 f1 f2
       have e2:=ih _ h4
       simp only[Array.toArray_toList] at p1 p2
       simp only[Sem.run_bind,p1,p2,Result.andThen_ok,e1]
       cases c
       ·simp
       ·simp[e2]
      ·have hne:¬ (f.name ≠ "_"):=by simpa using hn
       rw[if_neg hne]
       rw[hn] at h
       simp only[Bool.not_true,Bool.false_eq_true,if_false] at h
       exact ih _ h
    exact key _ _ h
   ·rw[hs] at h; cases h
  ·rename_i n e xs ys _
   obtain⟨z,hz,h⟩:=oB h
   obtain⟨bs,g1,g2,rfl⟩:=V5 h
   simp only[Op.equalIn,Sem.run_bind,run_underlying ht,Result.andThen_ok,Qc hz,Std.Legacy.Range.forIn_eq_forIn_range',Std.Legacy.Range.size,Nat.sub_zero,Nat.add_sub_cancel,Nat.div_one]
   have hl:∀ (l:List Nat) (bs:List Bool),bs.length=l.length→(∀ (i x:Nat) (c:Bool),l[i]? = some x→bs[i]? = some c→∃ a q,KO P e xs.toList (x*z)=some a∧KO P e ys.toList (x*z)=some q∧Zf0 P d e a q=some c) →
     (forIn (m:=Sem) l ((none,()):Option Bool×Unit) fun i _=>do
       if(!(← do Op.equalIn fuel e (← part e xs (i*z)) (← part e ys (i*z))))=true then pure (ForInStep.done (some false,())) else pure (ForInStep.yield (none,()))).run P w = .ok (bif bs.all id then(none,()) else(some false,())) w:=by
    intro l
    induction l with
    | nil=>intro bs h1 _; cases bs with
     | nil=>rfl
     | cons=>simp at h1
    | cons i l ih =>
     intro bs h1 h2
     cases bs with
     | nil=>simp at h1
     | cons c bs =>
      obtain⟨a,q,e1,e2,e3⟩:=h2 0 i c rfl rfl
      obtain⟨p1,f1⟩:=Vh e1 (V6 hx) w
      obtain⟨p2,f2⟩:=Vh e2 (V6 hy) w
      have e4:=UJ d fuel _ _ _ _ w (by omega) e3 f1 f2
      simp only[Array.toArray_toList] at p1 p2
      have ih:=ih bs (by simpa using h1) fun j x c hx hc=>h2 (j+1) x c (by simpa using hx) (by simpa using hc)
      simp only[List.forIn_cons,Sem.run_bind,p1,p2,Result.andThen_ok,e4]
      cases c
      ·simp
      ·simp only[Bool.not_true,Bool.false_eq_true,if_false,Sem.run_pure,Result.andThen_ok,List.all_cons,id,Bool.true_and]
       simpa only[Sem.run_bind] using ih
   have:=hl (List.range n) bs (by simpa using g1) (fun i x c hx hc=>by
    obtain⟨a,q,e1,e2,e3⟩:=g2 i (e,x*z) c (by rw[List.getElem?_map,hx]; rfl) hc
    exact⟨a,q,e1,e2,e3⟩)
   rw[List.range_eq_range'] at this
   rw[this]
   cases bs.all id<;>rfl
  ·cases h
theorem Zh4 {o:Oper} {op:BinOp} {t ty:TypeId} {x y:Operand} {u1 u2 v:Value} (ho:o.op = .binOp op t x y ty) (hx:opd e x=some u1) (hy:opd e y=some u2) (h:Zl0 P e s o op t u1 u2=some (v,s')) (hO:s'.O)
  (hs:∀ x∈o.op.operands,Zco r e a x) (hg:Good r s w):s.O∧Ub P r s w (execOp a.eval o) v s':=by
 have hsel:∀ cs b,o.op ≠ .select cs b:=fun cs b=>by rw[ho]; simp
 have ex:a.eval x=r.val u1:=(hs x (by rw[ho]; simp[Op.operands]) u1 hx).1
 have ey:a.eval y=r.val u2:=(hs y (by rw[ho]; simp[Op.operands]) u2 hy).1
 have hex:execOp a.eval o=(do pure (.value (← (do eqGuard op t x y (r.val u1) (r.val u2); binOp op t (r.val u1) (r.val u2))))):=by
  unfold execOp; rw[ho]; simp only[ex,ey]
 unfold Zl0 at h
 split at h
 ·rename_i b1 b2
  obtain⟨hsb,h1,h2⟩:=Zh2 h hO w (P:=P)
  refine⟨hsb.2.2.2 hO,r,w,.inl ?_,hsb.to hg,Zu _ h2⟩
  rw[hex,Qy,Qy,ZN r h2]
  have hg0:∀ w,(eqGuard op t x y (.string b1) (.string b2)).run P w = .ok () w:=fun w=>by
   unfold eqGuard; split<;>rfl
  have hb:binOp op t (.string b1) (.string b2)=Op.stringOp op b1 b2:=by cases op<;>rfl
  simp only[Sem.run_bind,hg0,Result.andThen_ok,hb,h1,Sem.run_pure]
 ·rename_i i n j m
  have g0:∀ (w:World),(eqGuard op t x y (.int i n) (.int j m)).run P w = .ok () w:=fun w=>by unfold eqGuard; cases op<;>rfl
  unfold Zmb at h
  split at h
  ·obtain⟨hk,h2⟩:=Jo h
   have hk:=of_decide_eq_true hk
   subst hk
   cases h2
   have hz:=Xr _ _ hO
   simp only[Bool.not_eq_true',decide_eq_false_iff_not] at hz
   refine⟨Yc _ _ hO,r,w,.inl ?_,To.ask hg _,Xo _ _ _⟩
   rw[hex,Z8,Z8,Z8]
   simp[g0,Result.andThen_ok,binOp,Op.intDiv,hz]
  ·obtain⟨hk,h2⟩:=Jo h
   have hk:=of_decide_eq_true hk
   subst hk
   cases h2
   have hz:=Xr _ _ hO
   simp only[Bool.not_eq_true',decide_eq_false_iff_not] at hz
   refine⟨Yc _ _ hO,r,w,.inl ?_,To.ask hg _,Xo _ _ _⟩
   rw[hex,Z8,Z8,Z8]
   simp[g0,Result.andThen_ok,binOp,Op.intDiv,hz]
  ·simp only[Option.some.injEq,Prod.mk.injEq] at h
   obtain⟨rfl,rfl⟩:=h
   have hz:=of_decide_eq_true (Xr _ _ hO)
   refine⟨Yc _ _ hO,r,w,.inl ?_,To.ask hg _,Xo _ _ _⟩
   rw[hex,Z8,Z8,Z8]
   have hz':¬ m<0:=by omega
   simp[g0,Result.andThen_ok,binOp,Op.shift,hz']
  ·simp only[Option.some.injEq,Prod.mk.injEq] at h
   obtain⟨rfl,rfl⟩:=h
   have hz:=of_decide_eq_true (Xr _ _ hO)
   refine⟨Yc _ _ hO,r,w,.inl ?_,To.ask hg _,Xo _ _ _⟩
   rw[hex,Z8,Z8,Z8]
   have hz':¬ m<0:=by omega
   simp[g0,Result.andThen_ok,binOp,Op.shift,hz']
  ·exact Wi h hs hsel hg hO
 ·exact Wi h hs hsel hg hO
 ·rename_i xs ys
  unfold Zmc at h
  cases hq:(P.eqGuardType P.depth t || !(xs.toList.all ZP) || !(ys.toList.all ZP))
  ·rw[hq] at h
   simp only[cond_false] at h
   simp only[Bool.or_eq_false_iff,Bool.not_eq_false'] at hq
   obtain⟨⟨q1,q2⟩,q3⟩:=hq
   have vx:r.val (.agg xs) = .agg xs:=YG r q2
   have vy:r.val (.agg ys) = .agg ys:=YG r q3
   rw[vx,vy] at hex
   split at h
   ·obtain⟨b,hb,h⟩:=oM h
    simp only[Prod.mk.injEq] at h
    obtain⟨rfl,rfl⟩:=h
    have he:=UJ 8 10000 t _ _ b w (by omega) hb q2 q3
    refine⟨hO,r,w,.inl ?_,To.refl hg,Vd _ _⟩
    rw[hex,YX]
    simp only[Sem.run_bind,run_eqGuard_agg w _ t x y xs ys q1,Result.andThen_ok,run_eql_struct w t xs ys,he,Sem.run_pure]
   ·obtain⟨b,hb,h⟩:=oM h
    simp only[Prod.mk.injEq] at h
    obtain⟨rfl,rfl⟩:=h
    have he:=UJ 8 10000 t _ _ b w (by omega) hb q2 q3
    refine⟨hO,r,w,.inl ?_,To.refl hg,Vd _ _⟩
    rw[hex,YX]
    simp only[Sem.run_bind,run_eqGuard_agg w _ t x y xs ys q1,Result.andThen_ok,run_neq_struct w t xs ys,he,Sem.run_pure]
   ·cases h
  ·rw[hq] at h; cases h
 ·rename_i hn1 hn2 hn3 hn4
  have key:∀ b,J5 P t u1 u2=some b→(op = .eql∨op = .neq)→(∀ w,(eqGuard op t x y (r.val u1) (r.val u2)).run P w = .ok () w)∧binOp .eql t (r.val u1) (r.val u2)=(do pure (.bool (← Op.equal t (r.val u1) (r.val u2))))∧binOp .neq t (r.val u1) (r.val u2)=(do pure (.bool (!(← Op.equal t (r.val u1) (r.val u2))))):=by
   intro b hb _
   unfold J5 at hb
   obtain⟨d,hd,hb⟩:=oB hb
   obtain⟨p,hp,hb⟩:=oB hb
   obtain⟨q,hq,_⟩:=oB hb
   cases u1<;>simp only[XA,reduceCtorEq] at hp<;>cases u2<;>simp only[XA,reduceCtorEq] at hq <;>
    (refine⟨fun w => ?_,?_,?_⟩<;>simp only[Qs,ZD,XC,Yf]<;>first|rfl|(unfold eqGuard; split<;>rfl))
  split at h
  ·obtain⟨b,hb,h⟩:=oM h
   simp only[Prod.mk.injEq] at h
   obtain⟨rfl,rfl⟩:=h
   obtain⟨k1,k2,_⟩:=key b hb (.inl rfl)
   refine⟨hO,r,w,.inl ?_,To.refl hg,Vd _ _⟩
   rw[hex,k2,YX]
   simp only[Sem.run_bind,k1,Result.andThen_ok,ZaH hb,Sem.run_pure]
  ·obtain⟨b,hb,h⟩:=oM h
   simp only[Prod.mk.injEq] at h
   obtain⟨rfl,rfl⟩:=h
   obtain⟨k1,_,k3⟩:=key b hb (.inr rfl)
   refine⟨hO,r,w,.inl ?_,To.refl hg,Vd _ _⟩
   rw[hex,k3,YX]
   simp only[Sem.run_bind,k1,Result.andThen_ok,ZaH hb,Sem.run_pure]
  ·cases h
theorem ZbD {o:Oper} {src dst:TypeId} {x:Operand} {u v:Value} (ho:o.op = .convert src dst x) (hx:opd e x=some u) (h:K0 P e s o src dst u=some (v,s')) (hO:s'.O)
  (hs:∀ x∈o.op.operands,Zco r e a x) (hg:Good r s w) (hfr:Yb r s.n s'.n):s.O∧Ub P r s w (execOp a.eval o) v s':=by
 have hsel:∀ cs b,o.op ≠ .select cs b:=fun cs b=>by rw[ho]; simp
 have ex:a.eval x=r.val u:=(hs x (by rw[ho]; simp[Op.operands]) u hx).1
 have hex:execOp a.eval o=(do pure (.value (← convert src dst (r.val u)))):=by
  unfold execOp; rw[ho]; simp only[ex]
 unfold K0 at h
 split at h
 ·rename_i b
  obtain⟨d0,hd0,h⟩:=oB h
  obtain⟨d,hd,h⟩:=oB h
  split at h
  ·rename_i el _
   obtain⟨k,hk,h⟩:=oB h
   split at h
   ·obtain⟨h1,h2⟩:=ZbB h hd0 hd hk hg hfr
    exact⟨h1▸hO,by rw[hex,Qy]; exact h2.comes⟩
   ·cases h
  ·simp only[Option.some.injEq,Prod.mk.injEq] at h
   obtain⟨rfl,rfl⟩:=h
   refine⟨hO,r,w,.inl ?_,To.refl hg,We _ _⟩
   rw[hex,Qy]
   unfold convert
   simp only[Sem.run_bind,run_underlying hd0,run_underlying hd,Result.andThen_ok]
   rfl
  ·cases h
 ·rename_i a1 l1 c1
  obtain⟨d,hd,h⟩:=oB h
  obtain⟨d',hd',h⟩:=oB h
  split at h
  ·rename_i el _
   obtain⟨k,hk,h⟩:=oB h
   split at h
   ·obtain⟨hO',hy⟩:=ZaF h hd hk hd' hg hO
    exact⟨hO',by rw[hex]; exact hy.comes⟩
   ·cases h
  ·cases h
 ·exact Wi h hs hsel hg hO
 ·cases h
theorem Zf9 {o:Oper} {c:Call} {call:Z1} {v:Value} (ho:o.op = .call c) (h:ZdS P call e s o c=some (v,s')) (hO:s'.O) (hs:∀ x∈o.op.operands,Zco r e a x) (hg:Good r s w) (hfr:Yb r s.n s'.n) (hcall:Zx P call) :
  s.O∧(Ub P r s w (execOp a.eval o) v s'∨∃ f args,(execOp a.eval o).run P w = .ok (.enter f (args.map r.val).toArray) w∧Vp P f args s v s'∧∀ u∈args,bnd r.d u=true):=by
 have hsel:∀ cs b,o.op ≠ .select cs b:=fun cs b=>by rw[ho]; simp
 have hop:∀ x∈c.args.toList,Zco r e a x:=fun x hx=>hs x (by rw[ho]; simp only[Op.operands,Call.operands]; exact Array.mem_append_right _ (by simpa using hx))
 have hpure:VQ P e s o=some (v,s')→_:=fun h=>Wi h hs hsel hg hO
 unfold ZdS at h
 split at h
 ·rename_i hc
  split at h
  ·rename_i x y t ts hargs hts
   obtain⟨u1,h1,h⟩:=oB h
   obtain⟨u2,h2,h⟩:=oB h
   obtain⟨e1,b1⟩:=hop x (by rw[hargs]; simp) u1 h1
   obtain⟨e2,b2⟩:=hop y (by rw[hargs]; simp) u2 h2
   have ht0:c.argTypes[0]? = some t:=by rw[← Array.getElem?_toList,hts]; rfl
   have htl:ts.head? = c.argTypes.toList.tail.head?:=by rw[hts]; rfl
   rw[htl] at h
   obtain⟨h3,h4⟩:=Zdd (ty:=o.type) ht0 h b1 b2 hg hfr hO
   have ha:c.args = #[x,y]:=by rw[← Array.toArray_toList (xs:=c.args),hargs]
   refine⟨h3,.inl ?_⟩
   have:execOp a.eval o=(do pure (.value (← Builtin.append_ c.argTypes o.type #[r.val u1,r.val u2]))):=by
    unfold execOp resolve; rw[ho]; simp only[hc,ha]
    simp only[List.map_toArray,List.map_cons,List.map_nil,e1,e2]
    rfl
   rw[this]
   exact h4.comes
  ·cases h
 ·rename_i hc
  split at h
  ·rename_i x y t ts hargs hts
   obtain⟨u1,h1,h⟩:=oB h
   obtain⟨u2,h2,h⟩:=oB h
   obtain⟨e1,b1⟩:=hop x (by rw[hargs]; simp) u1 h1
   obtain⟨e2,b2⟩:=hop y (by rw[hargs]; simp) u2 h2
   have ht0:c.argTypes[0]? = some t:=by rw[← Array.getElem?_toList,hts]; rfl
   obtain⟨h3,h4⟩:=Zf6 (ty:=o.type) ht0 h b1 b2 hg hO
   have ha:c.args = #[x,y]:=by rw[← Array.toArray_toList (xs:=c.args),hargs]
   refine⟨h3,.inl ?_⟩
   have:execOp a.eval o=(do pure (.value (← Builtin.copy_ c.argTypes o.type #[r.val u1,r.val u2]))):=by
    unfold execOp resolve; rw[ho]; simp only[hc,ha]
    simp only[List.map_toArray,List.map_cons,List.map_nil,e1,e2]
    rfl
   rw[this]
   exact h4.comes
  ·cases h
 ·rename_i hc
  split at h
  ·rename_i x t ts hargs hts
   obtain⟨u1,h1,h⟩:=oB h
   obtain⟨e1,b1⟩:=hop x (by rw[hargs]; simp) u1 h1
   have ht0:c.argTypes[0]? = some t:=by rw[← Array.getElem?_toList,hts]; rfl
   have ha:c.args = #[x]:=by rw[← Array.toArray_toList (xs:=c.args),hargs]
   have hex:execOp a.eval o=(do pure (.value (← Builtin.len_ c.argTypes o.type #[r.val u1]))):=by
    unfold execOp resolve; rw[ho]; simp only[hc,ha]
    simp only[List.map_toArray,List.map_cons,List.map_nil,e1]
    rfl
   unfold ZdR at h
   simp only[ZR] at h
   split at h
   ·rename_i b n k
    obtain⟨el,hel,h⟩:=oM h
    simp only[Prod.mk.injEq] at h
    obtain⟨rfl,rfl⟩:=h
    refine⟨hO,.inl ⟨r,w,.inl ?_,To.refl hg,Xo _ _ _⟩⟩
    rw[hex,ZD,Z8]
    simp only[Builtin.len_,ht0,List.getElem?_toArray,List.getElem?_cons_zero,Sem.run_bind,run_underlying (Xl hel),Result.andThen_ok,Sem.run_pure]
    rfl
   ·rename_i b
    obtain⟨d,hd,h⟩:=oB h
    split at h
    ·simp only[Option.some.injEq,Prod.mk.injEq] at h
     obtain⟨rfl,rfl⟩:=h
     refine⟨hO,.inl ⟨r,w,.inl ?_,To.refl hg,Xo _ _ _⟩⟩
     rw[hex,Qy,Z8]
     simp only[Builtin.len_,ht0,List.getElem?_toArray,List.getElem?_cons_zero,Sem.run_bind,run_underlying hd,Result.andThen_ok,Sem.run_pure,Array.length_toList]
     rfl
    ·cases h
   ·exact⟨(hpure h).1,.inl (hpure h).2⟩
  ·cases h
 ·exact⟨(hpure h).1,.inl (hpure h).2⟩
 ·exact⟨(hpure h).1,.inl (hpure h).2⟩
 ·rename_i f hc
  obtain⟨u,hu,h⟩:=oB h
  split at h
  ·rename_i g first captured
   obtain⟨args,hargs,h⟩:=oB h
   obtain⟨e1,b1⟩:=hs f (by rw[ho]; simp[Op.operands,Call.operands,hc]) _ hu
   obtain⟨m1,m2⟩:=UH hargs hop
   obtain⟨k0,k1⟩:=hcall _ _ _ _ _ h
   obtain⟨k2,k3⟩:=k1 hO
   refine⟨k0.2.1 hO,.inr ⟨g,_,?_,k3,?_⟩⟩
   ·have hm:c.args.map a.eval=(args.map r.val).toArray:=by
     rw[← m1]; apply Array.ext'; simp
    have hr:resolve a.eval c o.type=pure { target:=.fn (.func g) (captured.map r.val),args:=first.map r.val++(args.map r.val).toArray }:=by
     unfold resolve; rw[hc]; simp only[e1,Yf,hm]; rfl
    have:execOp a.eval o=(do let d ← resolve a.eval c o.type; invoke d.target d.args):=by
     unfold execOp; rw[ho]
    rw[this,hr]
    simp only[pure_bind,invoke]
    rw[k2]
    congr 2
    apply Array.ext'
    simp
   ·rw[Xd,Bool.and_eq_true,Bool.and_eq_true] at b1
    intro u hu
    rcases List.mem_append.1 hu with hu|hu
    ·rcases List.mem_append.1 hu with hu|hu
     ·exact Array.all_eq_true_iff_forall_mem.1 b1.1.2 u (by simpa using hu)
     ·exact m2 u hu
    ·exact Array.all_eq_true_iff_forall_mem.1 b1.2 u (by simpa using hu)
  ·cases h
 ·cases h
end
end Go.Proofs.YtagacmljbgkmoaaGreatDoor.Sy
