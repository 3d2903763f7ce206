/-
  The abstract machine made fast: what stands in the code is reckoned once, what is left is small; direct recursors, no pairs. Here: its words. (EngV: what it answers, the machine answers.)
-/
import Derived.Test.YtliidiceljdgmaaEngT
namespace Go.Proofs.Ytliidiceljdgmaa.Eng
open Go.RowKit

noncomputable section
/-- 'if', by its recursor. -/
def bo {α : Type} (b : Bool) (x y : α) : α := Bool.rec (motive := fun _ => α) y x b

/-! The temporaries: a tree of eights. -/
structure N8 (α : Type) where
  a0 : α
  a1 : α
  a2 : α
  a3 : α
  a4 : α
  a5 : α
  a6 : α
  a7 : α
def n8 {α : Type} (x : α) : N8 α := ⟨x, x, x, x, x, x, x, x⟩
abbrev E8 := N8 (N8 (N8 Value))
def e80 : E8 := n8 (n8 (n8 undef))
def s8 {α : Type} : Nat → Option (N8 α → α)
  | 0 => some fun x => x.a0
  | 1 => some fun x => x.a1
  | 2 => some fun x => x.a2
  | 3 => some fun x => x.a3
  | 4 => some fun x => x.a4
  | 5 => some fun x => x.a5
  | 6 => some fun x => x.a6
  | 7 => some fun x => x.a7
  | _ => none
def p8 {α : Type} : Nat → Option (α → N8 α → N8 α)
  | 0 => some fun v x => ⟨v, x.a1, x.a2, x.a3, x.a4, x.a5, x.a6, x.a7⟩
  | 1 => some fun v x => ⟨x.a0, v, x.a2, x.a3, x.a4, x.a5, x.a6, x.a7⟩
  | 2 => some fun v x => ⟨x.a0, x.a1, v, x.a3, x.a4, x.a5, x.a6, x.a7⟩
  | 3 => some fun v x => ⟨x.a0, x.a1, x.a2, v, x.a4, x.a5, x.a6, x.a7⟩
  | 4 => some fun v x => ⟨x.a0, x.a1, x.a2, x.a3, v, x.a5, x.a6, x.a7⟩
  | 5 => some fun v x => ⟨x.a0, x.a1, x.a2, x.a3, x.a4, v, x.a6, x.a7⟩
  | 6 => some fun v x => ⟨x.a0, x.a1, x.a2, x.a3, x.a4, x.a5, v, x.a7⟩
  | 7 => some fun v x => ⟨x.a0, x.a1, x.a2, x.a3, x.a4, x.a5, x.a6, v⟩
  | _ => none
def kGet (t : Nat) : Option (E8 → Value) :=
  (s8 (t % 8)).bind fun p => (s8 (t / 8 % 8)).bind fun q => (s8 (t / 64)).map fun r => fun e => p (q (r e))
def kPut (t : Nat) : Option (Value → E8 → E8) :=
  (p8 (t % 8)).bind fun p => (p8 (t / 8 % 8)).bind fun q => (p8 (t / 64)).bind fun r => (s8 (t / 8 % 8)).bind fun q' => (s8 (t / 64)).map fun r' =>
    fun v e => r (q (p v (q' (r' e))) (r' e)) e
def get8' (e : E8) (t : Nat) : Value := match kGet t with | some g => g e | none => undef
/-- The same as a list of rows. -/
def toE (x : E8) : Env := (List.range 32).map fun i => (List.range 16).map fun j => get8' x (16 * i + j)

/-- What comes of it. -/
inductive Out where
  | bad
  | nx (e : E8) (s : St)
  | ex (i : Nat) (e : E8) (s : St)
  | rt (e : E8) (s : St)
abbrev KO := CallK → E8 → St → (Value → St → Out) → Out
abbrev KC := CallK → E8 → St → Out

def kRes (x : Res) (k : Value → St → Out) : Out := Option.rec (motive := fun _ => Out) .bad (fun x => k x.1 x.2) x
def kOpt {α : Type} (x : Option α) (k : α → Out) : Out := Option.rec (motive := fun _ => Out) .bad k x
def kTest (t : Bool) (s : St) (k : Bool → St → Out) : Out :=
  List.rec (motive := fun _ => Out) (k t s) (fun _ _ _ => .bad) s.T
def vBool (v : Value) (k : Bool → Out) : Out :=
  match v with
  | .bool b => k b
  | _ => .bad
def vInt (v : Value) (k : IntKind → Int → Out) : Out :=
  match v with
  | .int i n => k i n
  | _ => .bad
def vPtr (v : Value) (k : Addr → Out) : Out :=
  match v with
  | .pointer a => kOpt a k
  | _ => .bad
def plain (a : Addr) (k : Out) : Out := Option.rec (motive := fun _ => Out) k (fun _ => .bad) a.spot

def kOpd : Operand → Option (E8 → Value)
  | .tmp t => kGet t
  | .const v => bif flat1 v then some fun _ => v else none
  | .func f => some fun _ => .func (.func f) #[] #[]
  | .global _ => none
def kOpds : List Operand → Option (E8 → List Value)
  | [] => some fun _ => []
  | x :: l => (kOpd x).bind fun a => (kOpds l).map fun b => fun e => a e :: b e

/-! Numbers. -/
def topK (k : IntKind) : Nat := IntKind.rec (motive := fun _ => Nat) 127 32767 2147483647 9223372036854775807 255 65535 4294967295 18446744073709551615 k
def lowK (k : IntKind) : Nat := IntKind.rec (motive := fun _ => Nat) 128 32768 2147483648 9223372036854775808 0 0 0 0 k
def numK (k : IntKind) : Nat := IntKind.rec (motive := fun _ => Nat) 0 1 2 3 4 5 6 7 k
def maskK (k : IntKind) : Nat := IntKind.rec (motive := fun _ => Nat) 255 65535 4294967295 18446744073709551615 255 65535 4294967295 18446744073709551615 k
def bitsK (k : IntKind) : Nat := IntKind.rec (motive := fun _ => Nat) 8 16 32 64 8 16 32 64 k
def backK (k : IntKind) (m : Nat) : Int := bo (Nat.ble m (topK k)) (.ofNat m) (.negSucc (Nat.sub (maskK k) m))
/-- brought into its kind -/
def wrapK (k : IntKind) (n : Int) : Value :=
  Int.rec (motive := fun _ => Value) (fun a => bo (Nat.ble a (topK k)) (.int k (.ofNat a)) (.int k (backK k (Nat.mod a (Nat.succ (maskK k))))))
    (fun a => bo (Nat.blt a (lowK k)) (.int k (.negSucc a)) (.int k (backK k (Nat.sub (maskK k) (Nat.mod a (Nat.succ (maskK k))))))) n
def eqI (x y : Int) : Bool := Int.rec (motive := fun _ => Bool) (fun a => Int.rec (motive := fun _ => Bool) (fun b => Nat.beq a b) (fun _ => false) y) (fun a => Int.rec (motive := fun _ => Bool) (fun _ => false) (fun b => Nat.beq a b) y) x
def ltI (x y : Int) : Bool := Int.rec (motive := fun _ => Bool) (fun a => Int.rec (motive := fun _ => Bool) (fun b => Nat.blt a b) (fun _ => false) y) (fun a => Int.rec (motive := fun _ => Bool) (fun _ => true) (fun b => Nat.blt b a) y) x
def leI (x y : Int) : Bool := Int.rec (motive := fun _ => Bool) (fun a => Int.rec (motive := fun _ => Bool) (fun b => Nat.ble a b) (fun _ => false) y) (fun a => Int.rec (motive := fun _ => Bool) (fun _ => true) (fun b => Nat.ble b a) y) x
def two (x y : Value) (k : IntKind → Int → Int → Out) : Out := vInt x fun i a => vInt y fun j b => bo (Nat.beq (numK i) (numK j)) (k i a b) .bad
abbrev K2 := Value → Value → St → (Value → St → Out) → Out
/-- two numbers that are not negative, and fit -/
def bits2 (x y : Value) (k : IntKind → Nat → Nat → Out) : Out := two x y fun i a b =>
  Int.rec (motive := fun _ => Out) (fun a => Int.rec (motive := fun _ => Out) (fun b => bo (Nat.ble a (maskK i)) (bo (Nat.ble b (maskK i)) (k i a b) .bad) .bad) (fun _ => .bad) b) (fun _ => .bad) a
/-- a number and how far it is shifted -/
def shift2 (x y : Value) (k : IntKind → Int → Nat → Out) : Out := vInt x fun i a => vInt y fun _ b =>
  Int.rec (motive := fun _ => Out) (fun b => k i a (bo (Nat.ble b (bitsK i)) b (bitsK i))) (fun _ => .bad) b
def shrI (a : Int) (n : Nat) : Int := Int.rec (motive := fun _ => Int) (fun a => .ofNat (Nat.div a (Nat.pow 2 n))) (fun a => .negSucc (Nat.div a (Nat.pow 2 n))) a
def kInt : BinOp → Option K2
  | .add => some fun x y s k => two x y fun i a b => k (wrapK i (Int.add a b)) s
  | .sub => some fun x y s k => two x y fun i a b => k (wrapK i (Int.sub a b)) s
  | .mul => some fun x y s k => two x y fun i a b => k (wrapK i (Int.mul a b)) s
  | .eql => some fun x y s k => two x y fun _ a b => k (.bool (eqI a b)) s
  | .neq => some fun x y s k => two x y fun _ a b => k (.bool (!eqI a b)) s
  | .lss => some fun x y s k => two x y fun _ a b => k (.bool (ltI a b)) s
  | .leq => some fun x y s k => two x y fun _ a b => k (.bool (leI a b)) s
  | .gtr => some fun x y s k => two x y fun _ a b => k (.bool (ltI b a)) s
  | .geq => some fun x y s k => two x y fun _ a b => k (.bool (leI b a)) s
  | .quo => some fun x y s k => two x y fun i a b => bo (eqI b (.ofNat 0)) .bad (k (wrapK i (Int.tdiv a b)) s)
  | .rem => some fun x y s k => two x y fun i a b => bo (eqI b (.ofNat 0)) .bad (k (.int i (Int.tmod a b)) s)
  | .and => some fun x y s k => bits2 x y fun i a b => k (wrapK i (.ofNat (Nat.land a b))) s
  | .or => some fun x y s k => bits2 x y fun i a b => k (wrapK i (.ofNat (Nat.lor a b))) s
  | .xor => some fun x y s k => bits2 x y fun i a b => k (wrapK i (.ofNat (Nat.xor a b))) s
  | .andNot => some fun x y s k => bits2 x y fun i a b => k (wrapK i (.ofNat (Nat.land a (Nat.sub (maskK i) b)))) s
  | .shl => some fun x y s k => shift2 x y fun i a n => k (wrapK i (Int.mul a (.ofNat (Nat.pow 2 n)))) s
  | .shr => some fun x y s k => shift2 x y fun i a n => k (.int i (shrI a n)) s
def vStr (v : Value) (k : List UInt8 → Out) : Out :=
  match v with
  | .string b => k b.data.toList
  | _ => .bad
def xaggV (P : Program) (op : BinOp) (t : TypeId) (x y : Array Value) : Option Value :=
  bif P.eqGuardType P.depth t || !(x.toList.all flat0) || !(y.toList.all flat0) then none else
  match op with
  | .eql => (xeqS P 8 t (.agg x) (.agg y)).map fun b => .bool b
  | .neq => (xeqS P 8 t (.agg x) (.agg y)).map fun b => .bool (!b)
  | _ => none
def vAgg (v : Value) (k : List Value → Out) : Out :=
  match v with
  | .agg cs => k cs.toList
  | _ => .bad
/-- an operator's work, by the type of its operands -/
def kBin (P : Program) (op : BinOp) (t : TypeId) : Option K2 :=
  (P.underlying t).bind fun d => match d with
    | .int _ => kInt op
    | .string => some fun x y s k => vStr x fun a => vStr y fun b => kOpt (xstr op a b) fun v => k v s
    | .struct _ => some fun x y s k => vAgg x fun a => vAgg y fun b => kOpt (xaggV P op t ⟨a⟩ ⟨b⟩) fun v => k v s
    | .array _ _ => some fun x y s k => vAgg x fun a => vAgg y fun b => kOpt (xaggV P op t ⟨a⟩ ⟨b⟩) fun v => k v s
    | .pointer _ => match op with
      | .eql => some fun x y s k => kOpt (xeqNil P t x y) fun b => k (.bool b) s
      | .neq => some fun x y s k => kOpt (xeqNil P t x y) fun b => k (.bool (!b)) s
      | _ => none
    | .slice _ => match op with
      | .eql => some fun x y s k => kOpt (xeqNil P t x y) fun b => k (.bool b) s
      | .neq => some fun x y s k => kOpt (xeqNil P t x y) fun b => k (.bool (!b)) s
      | _ => none
    | _ => none
def isIntT (P : Program) (t : TypeId) : Bool :=
  match P.underlying t with
  | some (.int _) => true
  | _ => false
def intT (P : Program) (t : TypeId) : Option IntKind :=
  match P.underlying t with
  | some (.int k) => some k
  | _ => none

/-! Cells. -/
def lookK (h : Heap) (g : Nat) (k : Blk → Out) : Out := List.rec (motive := fun _ => Out) .bad (fun x _ ih => bo (Nat.beq x.1 g) (k x.2) ih) h
def updK (h : Heap) (g : Nat) (cs : List Value) : Heap := List.rec (motive := fun _ => Heap) [] (fun x _ ih => bo (Nat.beq x.1 g) ((x.1, { x.2 with cells := cs }) :: ih) (x :: ih)) h
def nthK (n : Nat) (k : Value → Out) (l : List Value) : Out :=
  Nat.rec (motive := fun _ => List Value → Out) (fun l => List.rec (motive := fun _ => Out) .bad (fun x _ _ => k x) l) (fun _ ih l => List.rec (motive := fun _ => Out) .bad (fun _ l _ => ih l) l) n l
/-- so many, if there are so many -/
def takeK (n : Nat) (k : List Value → Out) (l : List Value) : Out :=
  Nat.rec (motive := fun _ => (List Value → Out) → List Value → Out) (fun k _ => k []) (fun _ ih k l => List.rec (motive := fun _ => Out) .bad (fun x l _ => ih (fun r => k (x :: r)) l) l) n k l
def dropK (n : Nat) (k : List Value → Out) (l : List Value) : Out :=
  Nat.rec (motive := fun _ => List Value → Out) k (fun _ ih l => List.rec (motive := fun _ => Out) .bad (fun _ l _ => ih l) l) n l
def setK (n : Nat) (vs l : List Value) : List Value :=
  Nat.rec (motive := fun _ => List Value → List Value) (fun l => List.rec (motive := fun _ => List Value → List Value) (fun l => l) (fun v _ ih l => List.rec (motive := fun _ => List Value) [] (fun _ l _ => v :: ih l) l) vs l)
    (fun _ ih l => List.rec (motive := fun _ => List Value) [] (fun x l _ => x :: ih l) l) n l
def allK (p : Value → Bool) (l : List Value) : Bool := List.rec (motive := fun _ => Bool) true (fun x _ ih => bo (p x) ih false) l
def cellsK (v : Value) : List Value :=
  match v with
  | .agg cs => cs.toList
  | v => [v]
def rd1 (s : St) (a : Addr) (k : Value → Out) : Out := plain a (lookK s.h a.block fun b => nthK a.off k b.cells)
def rdN (s : St) (a : Addr) (n : Nat) (k : List Value → Out) : Out := plain a (lookK s.h a.block fun b => dropK a.off (fun l => takeK n k l) b.cells)
def wrK (s : St) (a : Addr) (n : Nat) (vs : List Value) (k : St → Out) : Out :=
  plain a (lookK s.h a.block fun b => bo b.rw (bo (allK (fun v => v.oneCell') vs) (dropK a.off (takeK n fun _ =>
    k { s with h := updK s.h a.block (setK a.off vs b.cells), esc := bo (allK flat0 vs) s.esc (Nat.min s.esc a.block) }) b.cells) .bad) .bad)
def lenK (n : Nat) (l : List Value) : Bool := Nat.rec (motive := fun _ => List Value → Bool) (fun l => List.rec (motive := fun _ => Bool) true (fun _ _ _ => false) l) (fun _ ih l => List.rec (motive := fun _ => Bool) false (fun _ l _ => ih l) l) n l

/-! Operations. -/
def kLoad (P : Program) (t : TypeId) (a : E8 → Value) : Option KO :=
  (isAggP P t).bind fun g => bif g then (sizeP P t).map fun n => fun _ e s k => vPtr (a e) fun a => rdN s a n fun l => k (.agg ⟨l⟩) s
    else some fun _ e s k => vPtr (a e) fun a => rd1 s a fun v => k v s
def kStore (P : Program) (t : TypeId) (a x : E8 → Value) : Option KO :=
  (sizeP P t).map fun n => fun _ e s k => vPtr (a e) fun a => bo (lenK n (cellsK (x e))) (wrK s a n (cellsK (x e)) fun s => k undef s) .bad
def kFieldAddr (P : Program) (t : TypeId) (x : E8 → Value) (f : Nat) : Option KO :=
  (P.underlying t).bind fun d => match d with
    | .struct fields => (fields.toList[f]?).bind fun fd => (sizeP P fd.type).bind fun n =>
      bif Nat.beq n 0 then none else some fun _ e s k => vPtr (x e) fun a => plain a (k (.pointer (some ⟨a.block, Nat.add a.off fd.offset, none⟩)) s)
    | _ => none
def vTup (v : Value) (k : List Value → Out) : Out :=
  match v with
  | .tuple cs => k cs.toList
  | _ => .bad
def kPart (P : Program) (t : TypeId) : Option (List Value → Nat → (Value → Out) → Out) :=
  (isAggP P t).bind fun g => bif g then (sizeP P t).map fun n => fun cs off k => k (.agg ⟨(cs.drop off).take n⟩) else some fun cs off k => nthK off k cs
def kField (P : Program) (t : TypeId) (x : E8 → Value) (f : Nat) : Option KO :=
  (P.underlying t).bind fun d => match d with
    | .struct fields => (fields.toList[f]?).bind fun fd => (kPart P fd.type).map fun p => fun _ e s k => vAgg (x e) fun cs => p cs fd.offset fun v => k v s
    | _ => none
def vSl (v : Value) (k : Addr → Nat → Out) : Out :=
  match v with
  | .slice a len _ => kOpt a fun a => k a len
  | _ => .bad
/-- a number's place, if it is one below 'n' -/
def below (i : Value) (n : Nat) (s : St) (k : Nat → St → Out) : Out :=
  vInt i fun _ i => Int.rec (motive := fun _ => Out) (fun i => bo (Nat.blt i n) (k i s) .bad) (fun _ => .bad) i
def kIndexAddr (P : Program) (t : TypeId) (x ix : E8 → Value) : Option KO :=
  (P.underlying t).bind fun d => match d with
    | .array len elem => (sizeP P elem).map fun n => fun _ e s k => vPtr (x e) fun a => plain a (below (ix e) len s fun i s => k (.pointer (some ⟨a.block, Nat.add a.off (Nat.mul i n), none⟩)) s)
    | .slice elem => (sizeP P elem).map fun n => fun _ e s k => vSl (x e) fun a len => plain a (below (ix e) len s fun i s => k (.pointer (some ⟨a.block, Nat.add a.off (Nat.mul i n), none⟩)) s)
    | _ => none
def kLen (v : Value) (sl : Bool) (s : St) (k : Value → St → Out) : Out :=
  match v with
  | .slice _ n _ => bo sl (k (.int .i64 (.ofNat n)) s) .bad
  | .string b => bo sl .bad (k (.int .i64 (.ofNat (lenT b.data.toList))) s)
  | _ => .bad
def kConv (k : IntKind) (x : E8 → Value) : KO := fun _ e s c => vInt (x e) fun _ n => c (wrapK k n) s
def vFn (v : Value) (k : FuncId → List Value → List Value → Out) : Out :=
  match v with
  | .func (.func f) a b => k f a.toList b.toList
  | _ => .bad
def kCall (f : Operand) (args : E8 → List Value) : Option KO :=
  match f with
  | .func g => some fun call e s k => kRes (call g (args e) s) k
  | f => (kOpd f).map fun f => fun call e s k => vFn (f e) fun g a b => kRes (call g (a ++ args e ++ b) s) k
def kNil (v : Value) (s : St) (k : Value → St → Out) : Out :=
  match v with
  | .pointer a => kOpt a fun a => k (.pointer (some a)) s
  | .func (.func f) a b => k (.func (.func f) a b) s
  | _ => .bad
/-- any other: as the machine does it -/
def kAny (P : Program) (o : Oper) : KO := fun call e s k => kRes (xop P call (toE e) s o) k
def kOpdsN : List (Nat × Operand) → Option (E8 → List (Nat × Value))
  | [] => some fun _ => []
  | x :: l => (kOpd x.2).bind fun a => (kOpdsN l).map fun b => fun e => (x.1, a e) :: b e
def kOpdo : Option Operand → Option (E8 → Option Value)
  | none => some fun _ => none
  | some x => (kOpd x).map fun a => fun e => some (a e)
/-- what touches no cell -/
def kVal (P : Program) (o : Oper) : Option KO :=
  match o.op with
  | .move x => (kOpd x).map fun x => fun _ e s k => k (x e) s
  | .assign x => (kOpd x).map fun x => fun _ e s k => k (x e) s
  | .pick c a b => (kOpd c).bind fun c => (kOpd a).bind fun a => (kOpd b).map fun b => fun _ e s k => vBool (c e) fun t => kTest t s fun t s => k (bo t (a e) (b e)) s
  | .build t parts => (kOpdsN parts.toList).map fun ps => fun _ e s k => kOpt (xbuild P t (ps e)) fun v => k v s
  | .nilCheck x => (kOpd x).map fun x => fun _ e s k => kNil (x e) s k
  | .binOp op t x y _ => (kOpd x).bind fun x => (kOpd y).bind fun y => (kBin P op t).map fun f => fun _ e s k => f (x e) (y e) s k
  | .unOp .not _ x => (kOpd x).map fun x => fun _ e s k => vBool (x e) fun b => k (.bool (!b)) s
  | .convert src dst x => bif isIntT P src then (intT P dst).bind fun k => (kOpd x).map fun x => kConv k x else none
  | .fieldAddr t x f => (kOpd x).bind fun x => kFieldAddr P t x f
  | .field t x f => (kOpd x).bind fun x => kField P t x f
  | .indexAddr t x i => (kOpd x).bind fun x => (kOpd i).bind fun i => kIndexAddr P t x i
  | .extract x i => (kOpd x).map fun x => fun _ e s k => vTup (x e) fun cs => nthK i (fun v => k v s) cs
  | .makeFunc fn first captured => match fn with
    | .func f => (kOpds first.toList).bind fun a => (kOpds captured.toList).map fun b => fun _ e s k => k (.func (.func f) ⟨a e⟩ ⟨b e⟩) s
    | _ => none
  | .call c => match c.callee with
    | .builtin .len => match c.args.toList, c.argTypes.toList with
      | [x], t :: _ => (P.underlying t).bind fun d => match d with
        | .slice _ => (kOpd x).map fun x => fun _ e s k => kLen (x e) true s k
        | .string => (kOpd x).map fun x => fun _ e s k => kLen (x e) false s k
        | _ => none
      | _, _ => none
    | _ => none
  | _ => none
def kMem (P : Program) (o : Oper) : Option KO :=
  match o.op with
  | .alloc t => (zeroP P t).map fun z => fun _ _ s k => k (.pointer (some ⟨s.n, 0, none⟩)) { s with n := Nat.succ s.n, h := (s.n, ⟨true, none, z.cells.toList⟩) :: s.h }
  | .box _ x => (kOpd x).map fun x => fun _ e s k => bo (allK (fun v => v.oneCell') (cellsK (x e))) (k (.pointer (some ⟨s.n, 0, none⟩)) { s with n := Nat.succ s.n, h := (s.n, ⟨true, none, cellsK (x e)⟩) :: s.h }) .bad
  | .load t a => (kOpd a).bind fun a => kLoad P t a
  | .store t a x => (kOpd a).bind fun a => (kOpd x).bind fun x => kStore P t a x
  | .buildSlice t len parts => (kOpdsN parts.toList).map fun ps => fun _ e s k => kRes (xbuildSlice P s t len (ps e)) k
  | .makeSlice t l c => (kOpd l).bind fun l => (kOpd c).map fun c => fun _ e s k => kRes (xmakeSlice P s t (l e) (c e)) k
  | .slice t x lo hi mx => (kOpd x).bind fun x => (kOpdo lo).bind fun lo => (kOpdo hi).bind fun hi => (kOpdo mx).map fun mx => fun _ e s k => kRes (xslice P s t (x e) (lo e) (hi e) (mx e)) k
  | .index t x i => (kOpd x).bind fun x => (kOpd i).map fun i => fun _ e s k => kRes (xindex P s t (x e) (i e)) k
  | .call c => match c.callee with
    | .value f => (kOpds c.args.toList).bind fun args => kCall f args
    | .builtin .append => match c.args.toList, c.argTypes.toList with
      | [x, y], t :: ts => (kOpd x).bind fun x => (kOpd y).map fun y => fun _ e s k => kRes (xappend P s t ts.head? (x e) (y e)) k
      | _, _ => none
    | .builtin .copy => match c.args.toList, c.argTypes.toList with
      | [x, y], t :: _ => (kOpd x).bind fun x => (kOpd y).map fun y => fun _ e s k => kRes (xcopy P s t (x e) (y e)) k
      | _, _ => none
    | _ => none
  | _ => none
def kOp (P : Program) (o : Oper) : KO :=
  match kVal P o with
  | some a => a
  | none => match kMem P o with
    | some a => a
    | none => kAny P o
def kSkip (v : Value) (no : Out) (k : Bool → Out) : Out :=
  match v with
  | .bool b => k b
  | _ => no
def kGuard (ops : Array Oper) (o : Oper) (a : KO) : Option KO :=
  match o.guard with
  | none => some a
  | some (j, want) => (ops.toList[j]?).bind fun p => p.dst.bind fun d => (kGet d).map fun g =>
    fun call e s k => kSkip (g e) (k undef s) fun b => kTest b s fun t s => bo (bif want then t else !t) (a call e s k) (k undef s)
def kDst (nt : Nat) : Option Tmp → Option (Value → E8 → E8)
  | none => some fun _ e => e
  | some d => bif Nat.blt d nt then kPut d else none
def kOps (P : Program) (nt : Nat) (ops : Array Oper) : List Oper → Option KC
  | [] => some fun _ e s => .nx e s
  | o :: l => (kGuard ops o (kOp P o)).bind fun a => (kDst nt o.dst).bind fun p => (kOps P nt ops l).map fun b =>
    fun call e s => a call e s fun v s => b call (p v e) s
def kSeq (x : Out) (k : E8 → St → Out) : Out := Out.rec (motive := fun _ => Out) .bad k .ex .rt x
def loopK (L : Nat) (b : E8 → St → Out) (e : E8) (s : St) : Out :=
  Nat.rec (motive := fun _ => E8 → St → Out) (fun _ _ => .bad) (fun _ ih e s => kSeq (b e s) ih) L e s
/-! Regions that draw their order. -/
def kReads (o : Oper) : Option (E8 → List Nat) :=
  let f (x : Operand) : Option (E8 → List Nat) := (kOpd x).map fun x => fun e => match x e with
    | .pointer (some a) => [a.block]
    | .slice (some a) _ _ => [a.block]
    | _ => []
  match o.op with
  | .load _ x => f x
  | .convert _ _ x => f x
  | _ => some fun _ => []
def inK (B : Nat) (recs : List Rec) (rd : List Nat) (s : St) (free : Bool) : St :=
  bo free { s with h := seen B recs s rd, lo := s.lo.filter fun x => !hidden B recs x.1 }
    { s with
      h := (s.h.filter fun x => !hidden B recs x.1).map fun x => bif locked B recs x.1 then (x.1, { x.2 with rw := false }) else x,
      lo := s.lo.filter fun x => !hidden B recs x.1 }
abbrev KD := CallK → E8 → St → List Rec → Out
def noRd (o : Oper) : Bool :=
  match o.op with
  | .load _ _ => false
  | .convert _ _ _ => false
  | _ => true
def kDOp (P : Program) (nt : Nat) (ops : Array Oper) (B i : Nat) (o : Oper) (next : KD) : Option KD :=
  (kDst nt o.dst).bind fun p => match bif noRd o then kVal P o else none with
    | some a => (kGuard ops o a).map fun a => fun call e s recs => a call e s fun v s => next call (p v e) s recs
    | none => (kGuard ops o (kOp P o)).bind fun a => (kReads o).map fun rd => fun call e s recs =>
      a call e (inK B recs (rd e) s (freeOp o)) fun v s' => next call (p v e) (stOut B recs s o s') (⟨i, s.n, s'.n, rd e⟩ :: recs)
def kDSeq (P : Program) (nt : Nat) (ops : Array Oper) (B : List Nat) : List Nat → Option KD
  | [] => some fun _ e s _ => .nx e s
  | i :: l => (ops.toList[i]?).bind fun o => (kDSeq P nt ops B l).bind fun next => kDOp P nt ops (getD' 0 B i) i o next
def kDraw (P : Program) (nt : Nat) (ops : Array Oper) : Option KC :=
  bif okRegion ops.toList && P.follows .mixedOrders then (kDSeq P nt ops (befores ops.toList) (sched ops.toList ops.toList.length [])).map fun b => fun call e s => b call e s [] else none
def kCode (P : Program) (L nt : Nat) : Code → Option KC
  | .skip => some fun _ e s => .nx e s
  | .label _ => some fun _ e s => .nx e s
  | .region _ ops draw => bif draw then kDraw P nt ops else kOps P nt ops ops.toList
  | .seq a b => (kCode P L nt a).bind fun a => (kCode P L nt b).map fun b => fun call e s => kSeq (a call e s) (b call)
  | .cond x a b => (kOpd x).bind fun x => (kCode P L nt a).bind fun a => (kCode P L nt b).map fun b =>
    fun call e s => vBool (x e) fun t => kTest t s fun t s => bo t (a call e s) (b call e s)
  | .block id c => (kCode P L nt c).map fun c => fun call e s => Out.rec (motive := fun _ => Out) .bad .nx (fun i e s => bo (Nat.beq i id) (.nx e s) (.ex i e s)) .rt (c call e s)
  | .loop c => (kCode P L nt c).map fun c => fun call e s => loopK L (c call) e s
  | .exit id => some fun _ e s => .ex id e s
  | .ret => some fun _ e s => .rt e s
  | _ => none
def kResults : List ResultVar → Option (E8 → List Value)
  | [] => some fun _ => []
  | .tmp t :: l => (kGet t).bind fun g => (kResults l).map fun r => fun e => g e :: r e
  | .cell _ _ :: _ => none
def kOuts (P : Program) (l : List ResultVar) : Option (E8 → St → Option (List Value)) :=
  match kResults l with
  | some r => some fun e _ => some (r e)
  | none => some fun e s => xresults P (toE e) s l
def enter8 (args : List Value) : Nat → E8 → Option E8 := List.rec (motive := fun _ => Nat → E8 → Option E8) (fun _ e => some e) (fun v _ ih k e => Option.rec (motive := fun _ => Option E8) none (fun p => ih (Nat.succ k) (p v e)) (kPut k)) args
def dropK' (n : Nat) (h : Heap) : Heap := List.rec (motive := fun _ => Heap) [] (fun x _ ih => bo (Nat.blt x.1 n) (x :: ih) ih) h
def leaveK (s s' : St) (v : Value) : St :=
  bo (flat2 v && Nat.ble s.n s'.esc) { s' with h := dropK' s.n s'.h, esc := s.esc } { s' with esc := Nat.min s.esc s'.esc }
def kEnd (s s' : St) (x : Option (List Value)) : Res := Option.rec (motive := fun _ => Res) none (fun vs => some (oneOr vs, leaveK s s' (oneOr vs))) x
structure KF where
  nt : Nat
  body : KC
  outs : E8 → St → Option (List Value)
def kFunc (P : Program) (L : Nat) (f : FuncId) : Option KF :=
  (P.funcs[f]?).bind fun fn => fn.body.bind fun c => (kCode P L fn.ntmps c).bind fun b => (kOuts P fn.results.toList).bind fun r =>
    bif Nat.ble fn.ntmps 512 then some ⟨fn.ntmps, b, r⟩ else none
def wfK {α : Type} (n : Nat) (h : List (Nat × α)) : Bool := List.rec (motive := fun _ => Bool) true (fun x _ ih => bo (Nat.blt x.1 n) ih false) h
def kEnter (F : KF) (call : CallK) (args : List Value) (s : St) : Res :=
  bo (wfK s.n s.h && wfK s.n s.lo && Nat.ble args.length F.nt) (Option.rec (motive := fun _ => Res) none (fun e =>
    Out.rec (motive := fun _ => Res) none (fun e s' => kEnd s s' (F.outs e s')) (fun _ _ _ => none) (fun e s' => kEnd s s' (F.outs e s')) (F.body call e { s with esc := s.n })) (enter8 args 0 e80)) none
def kF (P : Program) (base : CallK) (L k : Nat) : CallK :=
  Nat.rec (motive := fun _ => CallK) base (fun _ ih f args s =>
    Option.rec (motive := fun _ => Res) (Option.rec (motive := fun _ => Res) none (fun F => kEnter F ih args s) (kFunc P L f)) some (base f args s)) k
end
end Go.Proofs.Ytliidiceljdgmaa.Eng
