/-
  A small abstract machine: an evaluator over the operations, the blocks being letters; nothing of the program. Here: its words.
-/
import Derived.Orders
import Derived.Below
import Derived.KernelRfl
import Derived.LoopN
import Derived.Laws.Cells
import Derived.Laws.Sem
import Derived.Laws.Entries
namespace Go.Proofs.Ytnnagaioiodniaa.Eng
open Go.RowKit

/-- What the letters stand for: blocks, places within them, capacities; and which letters stand for something. -/
structure Ren where
  b : Nat → Nat
  o : Nat → Nat
  c : Nat → Nat
  d : Nat → Bool

/-- Capacities from here on are letters. -/
def big : Nat := 9223372036854775808

def Ren.addr (r : Ren) (a : Addr) : Addr :=
  ⟨r.b a.block, (match a.spot with | none => a.off | some k => r.o k), none⟩
def Ren.cap (r : Ren) (c : Nat) : Nat := bif Nat.blt c big then c else r.c (c - big)

def Ren.val (r : Ren) : Value → Value
  | .pointer a => .pointer (a.map r.addr)
  | .slice a l c => .slice (a.map r.addr) l (r.cap c)
  | .func fn fs cs => .func fn (fs.map fun v => Ren.val r v) (cs.map fun v => Ren.val r v)
  | .iface t v => .iface t (Ren.val r v)
  | .agg cs => .agg (cs.map fun v => Ren.val r v)
  | .tuple vs => .tuple (vs.map fun v => Ren.val r v)
  | v => v
termination_by v => SizeOf.sizeOf v

def bndA (n : Nat → Bool) (a : Addr) : Bool := n a.block && (match a.spot with | none => true | some k => n k)
/-- Only letters that stand for something. -/
def bnd (n : Nat → Bool) : Value → Bool
  | .pointer (some a) => bndA n a
  | .slice a _ c => (match a with | some a => bndA n a | none => true) && (Nat.blt c big || n (c - big))
  | .func fn fs cs => (match fn with | .yield _ => false | _ => true) && (fs.attach.all fun v => bnd n v.1) && (cs.attach.all fun v => bnd n v.1)
  | .iface _ v => bnd n v
  | .agg cs => cs.attach.all fun v => bnd n v.1
  | .tuple vs => vs.attach.all fun v => bnd n v.1
  | .map (some _) => false
  | .chan (some _) => false
  | _ => true
termination_by v => SizeOf.sizeOf v
decreasing_by
  all_goals simp_wf
  all_goals (first | (have := Array.sizeOf_lt_of_mem v.2; omega) | omega)

/-- A list's length, reckoned without depth. -/
def lenA {α : Type} : List α → Nat → Nat
  | [], n => n
  | _ :: l, n => bif Nat.beq n n then lenA l (n + 1) else 0
def lenT {α : Type} (l : List α) : Nat := lenA l 0

/-- No letter at all. -/
def flat0 : Value → Bool
  | .bool _ => true
  | .int _ _ => true
  | .float _ _ => true
  | .complex _ _ _ => true
  | .string _ => true
  | .nilFunc => true
  | .nilIface => true
  | .pointer none => true
  | .map none => true
  | .chan none => true
  | .slice none _ c => Nat.blt c big
  | _ => false
def flat1 : Value → Bool
  | .agg cs => cs.toList.all flat0
  | v => flat0 v
def flat2 : Value → Bool
  | .tuple vs => vs.toList.all flat1
  | v => flat1 v

/-- What asks nobody but the program. -/
def pureRun (P : Program) {α : Type} : Sem α → Option α
  | .pure a => some a
  | .program k => pureRun P (k P)
  | .mark _ k => pureRun P k
  | _ => none

/-! Lists by number, with what stands where nothing was set. -/
def getD' {α : Type} (d : α) : List α → Nat → α
  | [], _ => d
  | x :: _, 0 => x
  | _ :: l, n + 1 => getD' d l n
def setD' {α : Type} (d : α) : List α → Nat → α → List α
  | [], 0, v => [v]
  | [], n + 1, v => d :: setD' d [] n v
  | _ :: l, 0, v => v :: l
  | x :: l, n + 1, v => x :: setD' d l n v

/-- The temporaries, in rows of sixteen. -/
abbrev Env := List (List Value)
def getE (e : Env) (t : Nat) : Value := getD' undef (getD' [] e (t / 16)) (t % 16)
def putE (e : Env) (t : Nat) (v : Value) : Env := setD' [] e (t / 16) (setD' undef (getD' [] e (t / 16)) (t % 16) v)

structure Blk where
  /-- may it be written? -/
  rw : Bool
  /-- its capacity's letter, and the cells of an element, if more cells may stand behind these -/
  op : Option (Nat × Nat)
  cells : List Value
abbrev Heap := List (Nat × Blk)
def look : Heap → Nat → Option Blk
  | [], _ => none
  | x :: h, g => bif Nat.beq x.1 g then some x.2 else look h g
def upd : Heap → Nat → List Value → Heap
  | [], _, _ => []
  | x :: h, g, cs => bif Nat.beq x.1 g then (x.1, { x.2 with cells := cs }) :: upd h g cs else x :: upd h g cs

structure St where
  /-- the next letter -/
  n : Nat
  h : Heap
  /-- what capacities' letters are at least -/
  lo : List (Nat × Nat)
  /-- the least block into which a letter was laid -/
  esc : Nat
  /-- answers of tests to come, by the tests' numbers; how many there were; and what all rests on -/
  T : List (Nat × Bool)
  k : Nat
  O : Prop

/-- A test: its answer stands in the list, or it answers itself. -/
def test (t : Bool) (s : St) : Bool × St :=
  match s.T with
  | [] => (t, s)
  | c :: T => bif Nat.beq c.1 s.k then (c.2, { s with T := T, k := s.k + 1, O := s.O ∧ t = c.2 }) else (t, { s with k := s.k + 1 })
/-- What must be so. -/
def ask (t : Bool) (s : St) : Bool × St := (true, { s with O := bif t then s.O else False })

def hasN : Nat → List Value → Bool
  | 0, _ => true
  | _ + 1, [] => false
  | n + 1, _ :: l => hasN n l
def setAt : Nat → List Value → List Value → List Value
  | _, _, [] => []
  | 0, [], x :: l => x :: l
  | 0, v :: vs, _ :: l => v :: setAt 0 vs l
  | n + 1, vs, x :: l => x :: setAt n vs l
def loOf : List (Nat × Nat) → Nat → Nat
  | [], _ => 0
  | x :: l, k => bif Nat.beq x.1 k then x.2 else loOf l k
/-- A capacity is at least so much. -/
def capLo (s : St) (c : Nat) : Nat := bif Nat.blt c big then c else loOf s.lo (c - big)

def newBlk (s : St) (op : Option (Nat × Nat)) (cells : List Value) : St :=
  { s with n := s.n + 1, h := (s.n, ⟨true, op, cells⟩) :: s.h }
def oneC (l : List Value) : Bool := l.all fun v => v.oneCell'
def ptr (g o : Nat) : Value := .pointer (some ⟨g, o, none⟩)

def rdCells (s : St) (a : Addr) (n : Nat) : Option (List Value) :=
  match a.spot with
  | some _ => none
  | none => (look s.h a.block).bind fun k => bif hasN (a.off + n) k.cells then some ((k.cells.drop a.off).take n) else none
def wrCells (s : St) (a : Addr) (vs : List Value) : Option St :=
  match a.spot with
  | some _ => none
  | none => (look s.h a.block).bind fun k =>
    bif k.rw && hasN (a.off + lenT vs) k.cells && oneC vs then
      some { s with h := upd s.h a.block (setAt a.off vs k.cells), esc := bif vs.all flat0 then s.esc else Nat.min s.esc a.block }
    else none

/-! The tables. -/
def aggD : TypeDesc → Bool
  | .struct _ => true
  | .array _ _ => true
  | _ => false
def isAggP (P : Program) (t : TypeId) : Option Bool := (P.underlying t).map aggD
def sizeP (P : Program) (t : TypeId) : Option Nat := (P.info? t).map fun i => i.size
def bytesP (P : Program) (t : TypeId) : Option Nat := (P.info? t).map fun i => i.bytes
/-- a zero value's cells -/
def zeroP (P : Program) (t : TypeId) : Option Value :=
  (P.info? t).bind fun i => i.zero.bind fun z => bif z.cells.toList.all flat0 && flat1 z then some z else none

def xloadVar (P : Program) (s : St) (t : TypeId) (a : Addr) : Option Value :=
  (isAggP P t).bind fun g =>
    bif g then (sizeP P t).bind fun n => (rdCells s a n).map fun l => .agg ⟨l⟩
    else (rdCells s a 1).bind fun l => match l with | [v] => some v | _ => none
def xstoreVar (P : Program) (s : St) (t : TypeId) (a : Addr) (v : Value) : Option St :=
  (sizeP P t).bind fun n => bif Nat.beq v.cells.size n then wrCells s a v.cells.toList else none
def xpart (P : Program) (t : TypeId) (cs : List Value) (off : Nat) : Option Value :=
  (isAggP P t).bind fun g =>
    bif g then (sizeP P t).map fun n => .agg ⟨(cs.drop off).take n⟩
    else cs[off]?

/-! Operands. -/
def opd (e : Env) : Operand → Option Value
  | .tmp t => some (getE e t)
  | .const v => bif flat1 v then some v else none
  | .func f => some (.func (.func f) #[] #[])
  | .global _ => none
def opds (e : Env) : List Operand → Option (List Value)
  | [] => some []
  | x :: l => (opd e x).bind fun v => (opds e l).map fun vs => v :: vs
def opdsN (e : Env) : List (Nat × Operand) → Option (List (Nat × Value))
  | [] => some []
  | x :: l => (opd e x.2).bind fun v => (opdsN e l).map fun vs => (x.1, v) :: vs
def opdo (e : Env) : Option Operand → Option (Option Value)
  | none => some none
  | some x => (opd e x).map some
def opT (e : Env) (x : Operand) : Value := (opd e x).getD undef

abbrev Res := Option (Value × St)

/-- An operation whose operands bear no letters, and that asks nobody. -/
def xpure (P : Program) (e : Env) (s : St) (o : Oper) : Res :=
  bif o.op.operands.toList.all fun x => match opd e x with | some v => flat1 v | none => false then
    (pureRun P (execOp (opT e) o)).bind fun x => match x with
      | .value v => bif flat1 v then some (v, s) else none
      | _ => none
  else none

def fillL (place : Nat → Option (Nat × Nat)) : List Value → List (Nat × Value) → Option (List Value)
  | cells, [] => some cells
  | cells, x :: rest => (place x.1).bind fun p =>
    bif Nat.beq x.2.cells.size p.2 && hasN (p.1 + p.2) cells && oneC x.2.cells.toList then fillL place (setAt p.1 x.2.cells.toList cells) rest else none
def placesP (P : Program) : List Field → Option (List (Nat × Nat))
  | [] => some []
  | f :: l => (sizeP P f.type).bind fun n => (placesP P l).map fun r => (f.offset, n) :: r
def xbuild (P : Program) (t : TypeId) (parts : List (Nat × Value)) : Option Value :=
  (zeroP P t).bind fun z => (P.underlying t).bind fun d => match d with
    | .struct fields => (placesP P fields.toList).bind fun pl => (fillL (fun i => pl[i]?) z.cells.toList parts).map fun l => .agg ⟨l⟩
    | .array _ elem => (sizeP P elem).bind fun n => (fillL (fun i => some (i * n, n)) z.cells.toList parts).map fun l => .agg ⟨l⟩
    | _ => none
def repl : Nat → List Value → List Value
  | 0, _ => []
  | n + 1, z => z ++ repl n z
def sliceElem (P : Program) (t : TypeId) : Option TypeId :=
  (P.underlying t).bind fun d => match d with | .slice e => some e | _ => none
def xbuildSlice (P : Program) (s : St) (t : TypeId) (len : Nat) (parts : List (Nat × Value)) : Res :=
  (sliceElem P t).bind fun elem => (sizeP P elem).bind fun n => (zeroP P elem).bind fun z =>
    bif Nat.ble (len * n) 16777216 && Nat.beq z.cells.size n && Nat.blt 0 n && Nat.blt len big then
      (fillL (fun i => some (i * n, n)) (repl len z.cells.toList) parts).map fun l =>
        (.slice (some ⟨s.n, 0, none⟩) len len, newBlk s none l)
    else none

def xfieldAddr (P : Program) (t : TypeId) (x : Value) (f : Nat) : Option Value :=
  match x with
  | .pointer (some a) => match a.spot with
    | some _ => none
    | none => (P.underlying t).bind fun d => match d with
      | .struct fields => (fields.toList[f]?).bind fun fd => (sizeP P fd.type).bind fun n =>
        bif Nat.beq n 0 then none else some (.pointer (some (a.add fd.offset)))
      | _ => none
  | _ => none
def inLen (i : Int) (n : Nat) : Bool := decide (0 ≤ i) && decide (i < n)
def upLen (i : Int) (n : Nat) : Bool := decide (0 ≤ i) && decide (i ≤ n)
def xindexAddr (P : Program) (s : St) (t : TypeId) (x ix : Value) : Res :=
  match ix with
  | .int _ i => (P.underlying t).bind fun d => match d, x with
    | .array len elem, .pointer (some a) => match a.spot with
      | some _ => none
      | none => (sizeP P elem).bind fun n => bif (ask (inLen i len) s).1 then some (.pointer (some (a.add (i.toNat * n))), (ask (inLen i len) s).2) else none
    | .slice elem, .slice (some a) len _ => match a.spot with
      | some _ => none
      | none => (sizeP P elem).bind fun n => bif (ask (inLen i len) s).1 then some (.pointer (some (a.add (i.toNat * n))), (ask (inLen i len) s).2) else none
    | _, _ => none
  | _ => none
def xindex (P : Program) (s : St) (t : TypeId) (x ix : Value) : Res :=
  match ix with
  | .int _ i => (P.underlying t).bind fun d => match d, x with
    | .array len elem, .agg cs => (sizeP P elem).bind fun n =>
      bif (ask (inLen i len) s).1 then (xpart P elem cs.toList (i.toNat * n)).map fun v => (v, (ask (inLen i len) s).2) else none
    | .string, .string b =>
      some (.int .u8 ((b.data.toList.getD i.toNat 0).toNat : Nat), (ask (inLen i (lenT b.data.toList)) s).2)
    | _, _ => none
  | _ => none
def xfield (P : Program) (t : TypeId) (x : Value) (f : Nat) : Option Value :=
  match x with
  | .agg cs => (P.underlying t).bind fun d => match d with
    | .struct fields => (fields.toList[f]?).bind fun fd => xpart P fd.type cs.toList fd.offset
    | _ => none
  | _ => none
def xextract (x : Value) (i : Nat) : Option Value :=
  match x with
  | .tuple vs => vs.toList[i]?
  | _ => none
def xnilCheck (x : Value) : Option Value :=
  match x with
  | .pointer (some a) => some (.pointer (some a))
  | .func (.func f) a b => some (.func (.func f) a b)
  | _ => none

/-- one bound: its number, if it may be -/
def bound1 (s : St) (d : Nat) (top : Nat) : Option Value → Option (Nat × St)
  | none => some (d, s)
  | some (.int _ i) => bif (ask (upLen i top) s).1 then some (i.toNat, (ask (upLen i top) s).2) else none
  | some _ => none
/-- 'x[lo:hi:mx]' of a slice -/
def xsliceS (s : St) (a : Option Addr) (len cap size : Nat) (lo hi mx : Option Value) : Res :=
  match mx with
  | some m => (bound1 s 0 (capLo s cap) (some m)).bind fun m => (match hi with | none => none | some h => bound1 m.2 0 m.1 (some h)).bind fun h => (bound1 h.2 0 h.1 lo).bind fun l =>
    match a with
    | none => bif Nat.blt m.1 big then some (.slice none (h.1 - l.1) (m.1 - l.1), l.2) else none
    | some a => match a.spot with
      | some _ => none
      | none => bif Nat.blt m.1 big then some (.slice (some (bif Nat.beq m.1 l.1 then a else a.add (l.1 * size))) (h.1 - l.1) (m.1 - l.1), l.2) else none
  | none => (bound1 s len (capLo s cap) hi).bind fun h => (bound1 h.2 0 h.1 lo).bind fun l =>
    match a with
    | none => bif Nat.blt cap big then some (.slice none (h.1 - l.1) (cap - l.1), l.2) else none
    | some a => bif Nat.beq l.1 0 then some (.slice (some a) h.1 cap, l.2) else match a.spot with
      | some _ => none
      | none =>
        bif Nat.blt cap big then some (.slice (some (bif Nat.beq cap l.1 then a else a.add (l.1 * size))) (h.1 - l.1) (cap - l.1), l.2)
        else bif Nat.blt l.1 (capLo l.2 cap) then
          some (.slice (some (a.add (l.1 * size))) (h.1 - l.1) (big + l.2.n), { l.2 with n := l.2.n + 1, lo := (l.2.n, capLo l.2 cap - l.1) :: l.2.lo })
        else
          some (.slice (some ⟨a.block, a.off, some l.2.n⟩) (h.1 - l.1) (big + l.2.n), { l.2 with n := l.2.n + 1, lo := (l.2.n, capLo l.2 cap - l.1) :: l.2.lo })
def xsliceA (s : St) (a : Addr) (n size : Nat) (lo hi mx : Option Value) : Res :=
  match a.spot with
  | some _ => none
  | none => bif Nat.blt n big then xsliceS s (some a) n n size lo hi mx else none
def xsliceStr (s : St) (b : ByteArray) (lo hi : Option Value) : Res :=
  (bound1 s (lenT b.data.toList) (lenT b.data.toList) hi).bind fun h => (bound1 h.2 0 h.1 lo).bind fun l =>
    some (.string ⟨⟨(b.data.toList.drop l.1).take (h.1 - l.1)⟩⟩, l.2)
def xslice (P : Program) (s : St) (t : TypeId) (x : Value) (lo hi mx : Option Value) : Res :=
  (P.underlying t).bind fun d => match d, x with
    | .array n elem, .pointer (some a) => (sizeP P elem).bind fun size => xsliceA s a n size lo hi mx
    | .string, .string b => match mx with | none => xsliceStr s b lo hi | some _ => none
    | .slice elem, .slice a len cap => (sizeP P elem).bind fun size => xsliceS s a len cap size lo hi mx
    | .pointer arr, .pointer (some a) => (P.underlying arr).bind fun d => match d with
      | .array n elem => (sizeP P elem).bind fun size => xsliceA s a n size lo hi mx
      | _ => none
    | _, _ => none
def xmakeSlice (P : Program) (s : St) (t : TypeId) (l c : Value) : Res :=
  match l, c with
  | .int _ l, .int _ c => (sliceElem P t).bind fun elem => (sizeP P elem).bind fun n => (bytesP P elem).bind fun by_ => (zeroP P elem).bind fun z =>
    bif (ask (decide (0 ≤ l) && decide (l ≤ c) && decide (by_ * c ≤ 140737488355328) && decide (c < 9223372036854775808)) s).1 && Nat.beq z.cells.size n && Nat.blt 0 n then
      some (.slice (some ⟨s.n, 0, none⟩) l.toNat c.toNat, newBlk (ask (decide (0 ≤ l) && decide (l ≤ c) && decide (by_ * c ≤ 140737488355328) && decide (c < 9223372036854775808)) s).2 none (repl c.toNat z.cells.toList))
    else none
  | _, _ => none

/-- '[]byte(s)' -/
def xtoBytes (s : St) (b : ByteArray) : Res :=
  some (.slice (some ⟨s.n, 0, none⟩) (lenT b.data.toList) (big + s.n),
    { newBlk s (some (s.n, 1)) (b.data.toList.map fun c => .int .u8 (c.toNat : Nat)) with lo := (s.n, lenT b.data.toList) :: s.lo })
def isU8 : Value → Bool
  | .int .u8 _ => true
  | _ => false
def toU8 : Value → UInt8
  | .int .u8 n => UInt8.ofNat n.toNat
  | _ => 0
def toBytes (l : List Value) : Option (List UInt8) := bif l.all isU8 then some (l.map toU8) else none
/-- 'string(b)' -/
def xtoString (s : St) (x : Value) : Res :=
  match x with
  | .slice none _ _ => some (.string ⟨⟨[]⟩⟩, s)
  | .slice (some a) len _ => bif Nat.beq len 0 then some (.string ⟨⟨[]⟩⟩, s) else (rdCells s a len).bind fun l => (toBytes l).map fun r => (.string ⟨⟨r⟩⟩, s)
  | _ => none
def xconvert (P : Program) (e : Env) (s : St) (o : Oper) (src dst : TypeId) (x : Value) : Res :=
  match x with
  | .string b => (P.underlying src).bind fun d0 => (P.underlying dst).bind fun d => match d0, d with
    | .string, .slice el => (P.underlying el).bind fun (k : TypeDesc) => match k with | .int .u8 => xtoBytes s b | _ => none
    | .string, .string => some (.string b, s)
    | _, _ => none
  | .slice _ _ _ => (P.underlying src).bind fun d => (P.underlying dst).bind fun d' => match d, d' with
    | .slice el, .string => (P.underlying el).bind fun (k : TypeDesc) => match k with | .int .u8 => xtoString s x | _ => none
    | _, _ => none
  | .int _ _ => xpure P e s o
  | _ => none

def isNilV : Value → Option Bool
  | .pointer a => some a.isNone
  | .slice a _ _ => some a.isNone
  | .nilFunc => some true
  | .func _ _ _ => some false
  | _ => none
def kindOk : TypeDesc → Value → Bool
  | .pointer _, .pointer _ => true
  | .slice _, .slice _ _ _ => true
  | .func _ _ _, .nilFunc => true
  | .func _ _ _, .func _ _ _ => true
  | _, _ => false
/-- '==' where one side is nil -/
def xeqNil (P : Program) (t : TypeId) (x y : Value) : Option Bool :=
  (P.underlying t).bind fun d => (isNilV x).bind fun a => (isNilV y).bind fun b =>
    bif kindOk d x && kindOk d y && (a || b) then some (a && b) else none
def bytesEq : List UInt8 → List UInt8 → Bool
  | [], [] => true
  | a :: x, b :: y => Nat.beq a.toNat b.toNat && bytesEq x y
  | _, _ => false
def bytesLt : List UInt8 → List UInt8 → Bool
  | _, [] => false
  | [], _ :: _ => true
  | a :: x, b :: y => Nat.blt a.toNat b.toNat || (Nat.beq a.toNat b.toNat && bytesLt x y)
def xstr (op : BinOp) (x y : List UInt8) : Option Value :=
  match op with
  | .add => bif Nat.blt (lenT x + lenT y) big then some (.string ⟨⟨x ++ y⟩⟩) else none
  | .eql => some (.bool (bytesEq x y))
  | .neq => some (.bool (!bytesEq x y))
  | .lss => some (.bool (bytesLt x y))
  | .leq => some (.bool (bytesLt x y || bytesEq x y))
  | .gtr => some (.bool (!(bytesLt x y || bytesEq x y)))
  | .geq => some (.bool (!bytesLt x y))
  | _ => none
/-- Two numbers: where the operation may fail, that it doesn't is asked. -/
def xint (P : Program) (e : Env) (s : St) (o : Oper) (op : BinOp) (i : IntKind) (a : Int) (j : IntKind) (b : Int) : Res :=
  match op with
  | .quo => bif decide (i = j) then some (.int i (i.wrap (a.tdiv b)), (ask (!decide (b = 0)) s).2) else none
  | .rem => bif decide (i = j) then some (.int i (a.tmod b), (ask (!decide (b = 0)) s).2) else none
  | .shl => some (.int i (i.wrap (a * (2 : Int) ^ min b.toNat i.bits)), (ask (decide (0 ≤ b)) s).2)
  | .shr => some (.int i (a.fdiv ((2 : Int) ^ min b.toNat i.bits)), (ask (decide (0 ≤ b)) s).2)
  | _ => xpure P e s o
/-- '==' of structs and arrays of numbers, truths and texts -/
def eqParts (eq : TypeId → Value → Value → Option Bool) (xs ys : List Value) (P : Program) : List (TypeId × Nat) → Option Bool
  | [] => some true
  | f :: l => (xpart P f.1 xs f.2).bind fun a => (xpart P f.1 ys f.2).bind fun b => (eq f.1 a b).bind fun c => (eqParts eq xs ys P l).map fun d => c && d
def xeqS (P : Program) : Nat → TypeId → Value → Value → Option Bool
  | 0, _, _, _ => none
  | d + 1, t, x, y => (P.underlying t).bind fun ty => match ty, x, y with
    | .bool, .bool a, .bool b => some (a == b)
    | .int _, .int k a, .int k' b => bif decide (k = k') then some (a == b) else none
    | .string, .string a, .string b => some (bytesEq a.data.toList b.data.toList)
    | .struct fs, .agg xs, .agg ys => bif P.stoodInHeld t then none else
        eqParts (xeqS P d) xs.toList ys.toList P ((fs.toList.filter fun f => !(f.name == "_")).map fun f => (f.type, f.offset))
    | .array n e, .agg xs, .agg ys => (sizeP P e).bind fun z => eqParts (xeqS P d) xs.toList ys.toList P ((List.range n).map fun i => (e, i * z))
    | _, _, _ => none
def xagg (P : Program) (s : St) (op : BinOp) (t : TypeId) (x y : Array Value) : Res :=
  bif P.eqGuardType P.depth t || !(x.toList.all flat0) || !(y.toList.all flat0) then none else
  match op with
  | .eql => (xeqS P 8 t (.agg x) (.agg y)).map fun b => (.bool b, s)
  | .neq => (xeqS P 8 t (.agg x) (.agg y)).map fun b => (.bool (!b), s)
  | _ => none
def xbin (P : Program) (e : Env) (s : St) (o : Oper) (op : BinOp) (t : TypeId) (x y : Value) : Res :=
  match x, y with
  | .string a, .string b => (xstr op a.data.toList b.data.toList).map fun v => (v, s)
  | .int i a, .int j b => xint P e s o op i a j b
  | .bool _, .bool _ => xpure P e s o
  | .agg x, .agg y => xagg P s op t x y
  | _, _ => match op with
    | .eql => (xeqNil P t x y).map fun b => (.bool b, s)
    | .neq => (xeqNil P t x y).map fun b => (.bool (!b), s)
    | _ => none

/-- the first cells of what is appended, or copied -/
def xfirst (s : St) (size n : Nat) : Value → Option (List Value)
  | .slice (some a) _ _ => bif Nat.beq (n * size) 0 then some [] else rdCells s a (n * size)
  | .slice none _ _ => some []
  | .string b => some ((b.data.toList.take n).map fun c => .int .u8 (c.toNat : Nat))
  | _ => none
def xlen : Value → Option Nat
  | .slice _ n _ => some n
  | .string b => some (lenT b.data.toList)
  | _ => none
def kill (h : Heap) (g : Nat) : Heap := h.filter fun x => !Nat.beq x.1 g
/-- 'append' -/
def xappend (P : Program) (s : St) (t : TypeId) (t1 : Option TypeId) (sl x : Value) : Res :=
  match sl with
  | .slice base len cap => (sliceElem P t).bind fun elem => (sizeP P elem).bind fun size => (bytesP P elem).bind fun by_ => (zeroP P elem).bind fun z =>
    (match t1 with | none => some true | some t1 => (P.underlying t1).map fun (d : TypeDesc) => match d with | .int _ => false | _ => true).bind fun ok =>
    (xlen x).bind fun n => (xfirst s size n x).bind fun new =>
    bif ok && Nat.beq (lenT new) (n * size) && oneC new && Nat.ble ((len + n) * by_) 1099511627776 && Nat.blt (len + n) 4611686018427387904 && Nat.beq z.cells.size size && Nat.blt 0 size then
      bif Nat.blt cap big then
        bif Nat.ble (len + n) cap then
          match base with
          | some a => bif Nat.beq n 0 then some (.slice base (len + n) cap, s) else match a.spot with
            | some _ => none
            | none => (wrCells s (a.add (len * size)) new).map fun s => (.slice base (len + n) cap, s)
          | none => bif Nat.beq n 0 then some (.slice base (len + n) cap, s) else none
        else
          (xfirst s size len sl).bind fun old => bif Nat.beq (lenT old) (len * size) then
            some (.slice (some ⟨s.n, 0, none⟩) (len + n) (big + s.n), { newBlk s (some (s.n, size)) (old ++ new) with lo := (s.n, len + n) :: s.lo })
          else none
      else
        match base with
        | some a => match a.spot with
          | some _ => none
          | none => (look s.h a.block).bind fun k => match k.op with
            | none => none
            | some p => bif k.rw && Nat.beq a.off 0 && Nat.beq (big + p.1) cap && Nat.beq p.2 size && Nat.beq (lenT k.cells) (len * size) then
                some (.slice (some ⟨s.n, 0, none⟩) (len + n) (big + s.n),
                  { newBlk { s with h := kill s.h a.block } (some (s.n, size)) (k.cells ++ new) with lo := (s.n, len + n) :: s.lo })
              else none
        | none => none
    else none
  | _ => none
/-- 'copy' -/
def xcopy (P : Program) (s : St) (t : TypeId) (dst src : Value) : Res :=
  match dst with
  | .slice base dlen _ => (sliceElem P t).bind fun elem => (sizeP P elem).bind fun size => (xlen src).bind fun m =>
    (xfirst s size (Nat.min m dlen) src).bind fun cells =>
      bif Nat.beq (lenT cells) (Nat.min m dlen * size) then
        bif Nat.beq (lenT cells) 0 then some (.int .i64 (Nat.min m dlen : Nat), s)
        else match base with
          | some a => (wrCells s a cells).map fun s => (.int .i64 (Nat.min m dlen : Nat), s)
          | none => none
      else none
  | _ => none
def xlenOp (P : Program) (e : Env) (s : St) (o : Oper) (t : TypeId) (x : Value) : Res :=
  match x with
  | .slice _ n _ => (sliceElem P t).map fun _ => (.int .i64 (n : Nat), s)
  | .string b => (P.underlying t).bind fun d => match d with | .string => some (.int .i64 (lenT b.data.toList : Nat), s) | _ => none
  | _ => xpure P e s o

abbrev CallK := FuncId → List Value → St → Res

def xcall (P : Program) (call : CallK) (e : Env) (s : St) (o : Oper) (c : Call) : Res :=
  match c.callee with
  | .builtin .append => match c.args.toList, c.argTypes.toList with
    | [x, y], t :: ts => (opd e x).bind fun x => (opd e y).bind fun y => xappend P s t ts.head? x y
    | _, _ => none
  | .builtin .copy => match c.args.toList, c.argTypes.toList with
    | [x, y], t :: _ => (opd e x).bind fun x => (opd e y).bind fun y => xcopy P s t x y
    | _, _ => none
  | .builtin .len => match c.args.toList, c.argTypes.toList with
    | [x], t :: _ => (opd e x).bind fun x => xlenOp P e s o t x
    | _, _ => none
  | .builtin .min => xpure P e s o
  | .builtin .max => xpure P e s o
  | .value f => (opd e f).bind fun f => match f with
    | .func (.func g) first captured => (opds e c.args.toList).bind fun args => call g (first.toList ++ args ++ captured.toList) s
    | _ => none
  | _ => none

/-- One operation: what it yields, and what it leaves. -/
def xop (P : Program) (call : CallK) (e : Env) (s : St) (o : Oper) : Res :=
  match o.op with
  | .move x => (opd e x).map fun v => (v, s)
  | .assign x => (opd e x).map fun v => (v, s)
  | .pick c a b => (opd e c).bind fun c => match c with
    | .bool t => (opd e (bif (test t s).1 then a else b)).map fun v => (v, (test t s).2)
    | _ => none
  | .alloc t => (zeroP P t).map fun z => (ptr s.n 0, newBlk s none z.cells.toList)
  | .box _ x => (opd e x).bind fun v => bif oneC v.cells.toList then some (ptr s.n 0, newBlk s none v.cells.toList) else none
  | .build t parts => (opdsN e parts.toList).bind fun ps => (xbuild P t ps).map fun v => (v, s)
  | .buildSlice t len parts => (opdsN e parts.toList).bind fun ps => xbuildSlice P s t len ps
  | .load t a => (opd e a).bind fun a => match a with
    | .pointer (some a) => (xloadVar P s t a).map fun v => (v, s)
    | _ => none
  | .store t a x => (opd e a).bind fun a => (opd e x).bind fun v => match a with
    | .pointer (some a) => (xstoreVar P s t a v).map fun s => (undef, s)
    | _ => none
  | .nilCheck x => (opd e x).bind fun v => (xnilCheck v).map fun v => (v, s)
  | .binOp op t x y _ => (opd e x).bind fun x => (opd e y).bind fun y => xbin P e s o op t x y
  | .unOp _ _ _ => xpure P e s o
  | .convert src dst x => (opd e x).bind fun x => xconvert P e s o src dst x
  | .makeFunc fn first captured => match fn with
    | .func f => (opds e first.toList).bind fun a => (opds e captured.toList).map fun b => (.func (.func f) ⟨a⟩ ⟨b⟩, s)
    | _ => none
  | .makeSlice t l c => (opd e l).bind fun l => (opd e c).bind fun c => xmakeSlice P s t l c
  | .slice t x lo hi mx => (opd e x).bind fun x => (opdo e lo).bind fun lo => (opdo e hi).bind fun hi => (opdo e mx).bind fun mx => xslice P s t x lo hi mx
  | .fieldAddr t x f => (opd e x).bind fun x => (xfieldAddr P t x f).map fun v => (v, s)
  | .field t x f => (opd e x).bind fun x => (xfield P t x f).map fun v => (v, s)
  | .indexAddr t x i => (opd e x).bind fun x => (opd e i).bind fun i => xindexAddr P s t x i
  | .index t x i => (opd e x).bind fun x => (opd e i).bind fun i => xindex P s t x i
  | .extract x i => (opd e x).bind fun x => (xextract x i).map fun v => (v, s)
  | .call c => xcall P call e s o c
  | _ => none

/-- Is it carried out? -/
def guardE (ops : Array Oper) (e : Env) (s : St) (o : Oper) : Bool × St :=
  match o.guard with
  | none => (true, s)
  | some (j, want) => match (ops.toList[j]?).bind fun o => o.dst with
    | none => (false, s)
    | some d => match getE e d with
      | .bool b => (cond want (test b s).1 (!(test b s).1), (test b s).2)
      | _ => (false, s)
def xguarded (P : Program) (call : CallK) (ops : Array Oper) (e : Env) (s : St) (o : Oper) : Res :=
  bif (guardE ops e s o).1 then xop P call e (guardE ops e s o).2 o else some (undef, (guardE ops e s o).2)

structure Fr where
  e : Env
  s : St

def putO (nt : Nat) (e : Env) (dst : Option Tmp) (v : Value) : Option Env :=
  match dst with
  | none => some e
  | some d => bif Nat.blt d nt then some (putE e d v) else none
def evOps (P : Program) (call : CallK) (nt : Nat) (ops : Array Oper) : List Oper → Fr → Option Fr
  | [], f => some f
  | o :: l, f => (xguarded P call ops f.e f.s o).bind fun r => (putO nt f.e o.dst r.1).bind fun e => evOps P call nt ops l ⟨e, r.2⟩

/-! Regions that draw their order: one order, those first that are free. -/
def freeOp (o : Oper) : Bool :=
  match o.op with
  | .store _ _ _ => false
  | .call c => match c.callee with
    | .builtin .len => true
    | .builtin .min => true
    | .builtin .max => true
    | _ => false
  | _ => true
/-- the numbers on which an operation waits -/
def edges (o : Oper) : List Nat := (o.after.toList.filter fun x => Region.binds .any x).map fun x => x.on
/-- all that come ahead of each, as the bits of a number -/
def befores (ops : List Oper) : List Nat :=
  (ops.foldl (fun (acc : List Nat × Nat) o => (acc.1 ++ [(edges o).foldl (fun s j => s ||| 2 ^ j ||| getD' 0 acc.1 j) 0], acc.2 + 1)) ([], 0)).1
def memN (i : Nat) : List Nat → Bool
  | [] => false
  | x :: l => Nat.beq x i || memN i l
/-- the next: a free one, else any -/
def pick1 (ops : List Oper) (done : List Nat) : Nat → List Nat → Option Nat
  | _, [] => none
  | k, i :: l => match ops[i]? with
    | none => none
    | some o => bif !memN i done && (edges o).all (fun j => memN j done) && (Nat.beq k 1 || freeOp o) then some i else pick1 ops done k l
def sched (ops : List Oper) : Nat → List Nat → List Nat
  | 0, _ => []
  | n + 1, done => match pick1 ops done 0 (List.range ops.length) with
    | some i => i :: sched ops n (i :: done)
    | none => match pick1 ops done 1 (List.range ops.length) with
      | some i => i :: sched ops n (i :: done)
      | none => []
/-- Is it an order: each number once, each behind those that it waits for, and behind each that is not free only such as wait for it? -/
def okSched (ops : List Oper) (B : List Nat) : List Nat → List Nat → Bool
  | [], done => Nat.beq done.length ops.length
  | i :: l, done => match ops[i]? with
    | none => false
    | some o => !memN i done && (edges o).all (fun j => memN j done) && (freeOp o || l.all fun j => (getD' 0 B j).testBit i) && okSched ops B l (i :: done)
/-- The bits are those that are waited for, and theirs. -/
def okBefores (ops : List Oper) (B : List Nat) : Bool :=
  ops.zipIdx.all fun x => (List.range ops.length).all fun k =>
    !(getD' 0 B x.2).testBit k || (edges x.1).any fun j => Nat.blt j x.2 && (Nat.beq j k || (getD' 0 B j).testBit k)
/-- Temporaries: each is written once, and read before or behind that. -/
def okTmps (ops : List Oper) (B : List Nat) : Bool :=
  ops.zipIdx.all fun x => ops.zipIdx.all fun y => Nat.beq x.2 y.2 ||
    match y.1.dst with
    | none => true
    | some d => (match x.1.dst with | some d' => !Nat.beq d d' | none => true) &&
      (!memN d (x.1.looksAt ⟨ops⟩) || (getD' 0 B x.2).testBit y.2 || (getD' 0 B y.2).testBit x.2)
def noSel (ops : List Oper) : Bool := ops.all fun o => match o.op with | .select _ _ => false | _ => true
def okRegion (ops : List Oper) : Bool :=
  (ops.zipIdx.all fun x => (edges x.1).all fun j => Nat.blt j x.2) && ((List.range ops.length).all fun i => memN i (sched ops ops.length [])) && noSel ops && okBefores ops (befores ops) && okTmps ops (befores ops) && okSched ops (befores ops) (sched ops ops.length []) []

structure Rec where
  i : Nat
  n0 : Nat
  n1 : Nat
  rd : List Nat
/-- not yet to be seen: a letter of one that need not have come ahead -/
def hidden (B : Nat) (recs : List Rec) (g : Nat) : Bool := recs.any fun x => !B.testBit x.i && Nat.ble x.n0 g && Nat.blt g x.n1
/-- not to be written: it may be read later -/
def locked (B : Nat) (recs : List Rec) (g : Nat) : Bool := recs.any fun x => !B.testBit x.i && memN g x.rd
def readsOf (e : Env) (o : Oper) : List Nat :=
  let f (x : Operand) : List Nat := match opd e x with
    | some (.pointer (some a)) => [a.block]
    | some (.slice (some a) _ _) => [a.block]
    | _ => []
  match o.op with
  | .load _ x => f x
  | .convert _ _ x => f x
  | _ => []
def seen (B : Nat) (recs : List Rec) (s : St) : List Nat → Heap
  | [] => []
  | g :: l => bif hidden B recs g then seen B recs s l else match look s.h g with
    | some k => (g, { k with rw := false }) :: seen B recs s l
    | none => seen B recs s l
/-- the state that an operation sees -/
def stIn (B : Nat) (recs : List Rec) (e : Env) (s : St) (o : Oper) : St :=
  bif freeOp o then { s with h := seen B recs s (readsOf e o), lo := s.lo.filter fun x => !hidden B recs x.1 }
  else { s with
    h := (s.h.filter fun x => !hidden B recs x.1).map fun x => bif locked B recs x.1 then (x.1, { x.2 with rw := false }) else x,
    lo := s.lo.filter fun x => !hidden B recs x.1 }
/-- and the state behind it -/
def stOut (B : Nat) (recs : List Rec) (s : St) (o : Oper) (s' : St) : St :=
  bif freeOp o then { s' with h := s'.h.filter (fun x => Nat.ble s.n x.1) ++ s.h, lo := s'.lo.filter (fun x => Nat.ble s.n x.1) ++ s.lo }
  else { s' with h := s'.h.filter (fun x => Nat.ble s.n x.1 || !(hidden B recs x.1 || locked B recs x.1)) ++ s.h.filter (fun x => hidden B recs x.1 || locked B recs x.1), lo := s'.lo.filter (fun x => Nat.ble s.n x.1) ++ s.lo }
def evSeq (P : Program) (call : CallK) (nt : Nat) (ops : Array Oper) (B : List Nat) : List Nat → List Rec → Fr → Option Fr
  | [], _, f => some f
  | i :: l, recs, f => match ops.toList[i]? with
    | none => none
    | some o => (xguarded P call ops f.e (stIn (getD' 0 B i) recs f.e f.s o) o).bind fun r => (putO nt f.e o.dst r.1).bind fun e =>
      evSeq P call nt ops B l (⟨i, f.s.n, r.2.n, readsOf f.e o⟩ :: recs) ⟨e, stOut (getD' 0 B i) recs f.s o r.2⟩
def evDraw (P : Program) (call : CallK) (nt : Nat) (ops : Array Oper) (f : Fr) : Option Fr :=
  bif okRegion ops.toList && P.follows .mixedOrders then evSeq P call nt ops (befores ops.toList) (sched ops.toList ops.toList.length []) [] f else none

/-! Code, functions. -/
def evC (P : Program) (call : CallK) (nt : Nat) : Nat → Code → Fr → Option (Exit × Fr)
  | 0, _, _ => none
  | k + 1, c, f => match c with
    | .skip => some (.normal, f)
    | .label _ => some (.normal, f)
    | .region _ ops draw => (bif draw then evDraw P call nt ops f else evOps P call nt ops ops.toList f).map fun f => (.normal, f)
    | .seq a b => match evC P call nt k a f with
      | some (.normal, f) => evC P call nt k b f
      | x => x
    | .cond x a b => match opd f.e x with
      | some (.bool t) => evC P call nt k (bif (test t f.s).1 then a else b) ⟨f.e, (test t f.s).2⟩
      | _ => none
    | .block id c => match evC P call nt k c f with
      | some (.exit i, f) => bif Nat.beq i id then some (.normal, f) else some (.exit i, f)
      | x => x
    | .loop c => match evC P call nt k c f with
      | some (.normal, f) => evC P call nt k (.loop c) f
      | x => x
    | .exit id => some (.exit id, f)
    | .ret => some (.ret, f)
    | _ => none
def xresults (P : Program) (e : Env) (s : St) : List ResultVar → Option (List Value)
  | [] => some []
  | .tmp t :: l => (xresults P e s l).map fun vs => getE e t :: vs
  | .cell a t :: l => match getE e a with
    | .pointer (some a) => (xloadVar P s t a).bind fun v => (xresults P e s l).map fun vs => v :: vs
    | _ => none
def oneOr : List Value → Value
  | [v] => v
  | vs => .tuple ⟨vs⟩
def enterE (args : List Value) : Nat → Env → Env
  | k, e => match args with
    | [] => e
    | v :: l => enterE l (k + 1) (putE e k v)
def dropNew (n : Nat) (h : Heap) : Heap := h.filter fun x => Nat.blt x.1 n
/-- Behind a call: what it made is forgotten where nobody can reach it. -/
def leave (s s' : St) (v : Value) : St :=
  bif flat2 v && Nat.ble s.n s'.esc then { s' with h := dropNew s.n s'.h, esc := s.esc } else { s' with esc := Nat.min s.esc s'.esc }
def evF (P : Program) (base : CallK) (L : Nat) : Nat → CallK
  | 0, f, args, s => base f args s
  | k + 1, f, args, s => match base f args s with
    | some r => some r
    | none => (P.funcs[f]?).bind fun fn => fn.body.bind fun c =>
      bif Nat.ble args.length fn.ntmps then
        (evC P (evF P base L k) fn.ntmps L c ⟨enterE args 0 [], { s with esc := s.n }⟩).bind fun x => match x.1 with
          | .normal => (xresults P x.2.e x.2.s fn.results.toList).map fun vs => (oneOr vs, leave s x.2.s (oneOr vs))
          | .ret => (xresults P x.2.e x.2.s fn.results.toList).map fun vs => (oneOr vs, leave s x.2.s (oneOr vs))
          | _ => none
      else none
end Go.Proofs.Ytnnagaioiodniaa.Eng
