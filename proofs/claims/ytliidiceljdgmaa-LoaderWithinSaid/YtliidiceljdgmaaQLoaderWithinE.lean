/-
  LoaderWithin: part 5 of the proof.
-/
import Derived.Below
import Derived.ChangeOld
import Derived.Deep.Fields
import Derived.Deep.Slices
import Derived.Lib.SmallJoins
import Derived.OpenShut
import Derived.ProofKit
import Derived.ShutString
import Derived.Test.YtliidiceljdgmaaQLoaderWithinD
import Derived.Test.YtliidiceljdgmaaRows
import Derived.WalkKit
set_option linter.unusedSimpArgs false
set_option linter.unusedVariables false
set_option linter.unusedSectionVars false
namespace Go.Proofs.Ytliidiceljdgmaa
open Go.RowKit
open Sy
set_option maxRecDepth 100000
def ar69W (zs : List UInt8) (f : Nat → Bool) (N m n : Nat) : Sy.Heap:=[(72,⟨true,none,[.pointer (some ⟨71,0,none⟩),.slice (some ⟨69,0,none⟩) N (big + 69)],none⟩),(71,⟨true,none,[.int .i64 (m : Nat),.slice (some ⟨70,0,none⟩) n (big + 70)],none⟩),(70,⟨true,some (70,1),v64 (wordsB f n),none⟩),(69,⟨true,some (69,1),u8s zs,none⟩)]
def ldrI (p s t : Nat) (nc ns : Nat) (d : List UInt8) (rs : List Rl) (c da ds sa ss ha hs : Nat) (zs : List UInt8) (f : Nat → Bool) (N m n : Nat) (k : Nat) : Sf :=
 ⟨74,ldaE ++ [(59,.slice (some ⟨65,0,none⟩) rs.length (big + 65)),(60,.int .i64 (rs.length : Nat)),(61,.int .i64 (k : Nat))],ar69W zs f N m n ++ [(68,⟨false,none,lyCells c da ds sa ss ha hs,none⟩),(73,⟨false,none,plQ (p : Nat) (s : Nat) (t : Nat) nc ns d (some ⟨65,0,none⟩) rs.length (big + 65) (c : Nat) (da : Nat) (ds : Nat) (sa : Nat) (ss : Nat) (ha : Nat) (hs : Nat),none⟩),(65,⟨false,some (0,0),rels rs,none⟩)],[(70,n),(69,N)]⟩
theorem ldr_d (p : Nat) (s : Nat) (t : Nat) (nc : Nat) (ns : Nat) (d : List UInt8) (rs : List Rl) (c : Nat) (da : Nat) (ds : Nat) (sa : Nat) (ss : Nat) (ha : Nat) (hs : Nat) (zs : List UInt8) (f : Nat → Bool) (N : Nat) (m : Nat) (n : Nat) (k : Nat) (a : Nat) (ca : Nat) (ce : Nat) (cb : Nat) (ct : Nat) (cp : Nat) (cy : Nat) : evC Try.prog (evF Try.prog (baseF 3 (selSteps [(83,39,scC a ca ce cb ct cp cy 0 zs f N m n,[69,70,71,72])]) (baseC 3 selMk)) noLoop 100 20) (noLoop 12) 92 100 (loopOf Try.prog 12 1) (Sf.frT 92 (ldrI p s t nc ns d rs c da ds sa ss ha hs zs f N m n k) [(0,true),(1,false)]) = some (Exit.normal,{ e:=[[unk,.pointer (some ⟨67,0,none⟩),.pointer (some ⟨72,0,none⟩),.slice none 0 0,.int .i64 0,.pointer (some ⟨68,0,none⟩),.pointer (some ⟨73,0,none⟩),unk,unk,unk,.pointer (some ⟨74,0,none⟩),unk,unk,unk,unk,unk],[unk,unk,unk,unk,unk,unk,unk,unk,unk,unk,unk,unk,unk,unk,unk,unk],[unk,unk,unk,unk,unk,unk,unk,unk,unk,unk,unk,unk,unk,unk,unk,unk],[unk,unk,unk,unk,unk,unk,unk,unk,unk,unk,unk,.slice (some ⟨65,0,none⟩) rs.length 9223372036854775873,.int .i64 (↑rs.length),.int .i64 (IntKind.i64.wrap ((↑k : Int) + (1 : Int))),.bool (decide ((↑k : Int) < (↑rs.length : Int))),.pointer (some { block:=65,off:=0 + (↑k : Int).toNat * 6 })],[Value.agg ⟨[.int .u32 (intOf' (getD' undef (rels rs) (0 + (↑k : Int).toNat * 6))),.bool (boolOf' (getD' undef (rels rs) (0 + (↑k : Int).toNat * 6 + 1))),.int .u32 (intOf' (getD' undef (rels rs) (0 + (↑k : Int).toNat * 6 + 1 + 1))),.int .u32 (intOf' (getD' undef (rels rs) (0 + (↑k : Int).toNat * 6 + 1 + 1 + 1))),.int .u16 (intOf' (getD' undef (rels rs) (0 + (↑k : Int).toNat * 6 + 1 + 1 + 1 + 1))),.int .u16 (intOf' (getD' undef (rels rs) (0 + (↑k : Int).toNat * 6 + 1 + 1 + 1 + 1 + 1)))]⟩,.pointer (some ⟨72,0,none⟩),.pointer (some { block:=68,off:=2 }),.pointer (some { block:=68,off:=2 }),.int .u32 (↑da),.pointer (some ⟨74,0,none⟩),.int .u32 (intOf' (getD' undef (rels rs) (0 + (↑k : Int).toNat * 6))),.int .u32 (IntKind.u32.wrap ((↑da : Int) + intOf' (getD' undef (rels rs) (0 + (↑k : Int).toNat * 6)))),.agg ⟨[.int .i64 (↑p),.int .i64 (↑s),.int .i64 (↑t),.slice (some ⟨64,0,none⟩) nc 9223372036854775872,.string ⟨⟨d⟩⟩,.slice (some ⟨65,0,none⟩) rs.length 9223372036854775873,.slice (some ⟨66,0,none⟩) ns 9223372036854775874,.int .u32 0,.int .u32 (↑c),.int .u32 (↑da),.int .u32 (↑ds),.int .u32 (↑sa),.int .u32 (↑ss),.int .u32 (↑ha),.int .u32 (↑hs)]⟩,.agg ⟨[.int .u32 (intOf' (getD' undef (rels rs) (0 + (↑k : Int).toNat * 6))),.bool (boolOf' (getD' undef (rels rs) (0 + (↑k : Int).toNat * 6 + 1))),.int .u32 (intOf' (getD' undef (rels rs) (0 + (↑k : Int).toNat * 6 + 1 + 1))),.int .u32 (intOf' (getD' undef (rels rs) (0 + (↑k : Int).toNat * 6 + 1 + 1 + 1))),.int .u16 (intOf' (getD' undef (rels rs) (0 + (↑k : Int).toNat * 6 + 1 + 1 + 1 + 1))),.int .u16 (intOf' (getD' undef (rels rs) (0 + (↑k : Int).toNat * 6 + 1 + 1 + 1 + 1 + 1)))]⟩,.agg ⟨[.int .u32 (↑(mA (IntKind.u32.wrap ((↑da : Int) + intOf' (getD' undef (rels rs) (0 + (↑k : Int).toNat * 6 + 1 + 1)))).toNat (intOf' (getD' undef (rels rs) (0 + (↑k : Int).toNat * 6 + 1 + 1 + 1))).toNat (bits BinOp.or IntKind.u16 (0 : Int) (intOf' (getD' undef (rels rs) (0 + (↑k : Int).toNat * 6 + 1 + 1 + 1 + 1)))).toNat) : Int),.int .u8 (↑(mE (IntKind.u32.wrap ((↑da : Int) + intOf' (getD' undef (rels rs) (0 + (↑k : Int).toNat * 6 + 1 + 1)))).toNat (intOf' (getD' undef (rels rs) (0 + (↑k : Int).toNat * 6 + 1 + 1 + 1))).toNat (bits BinOp.or IntKind.u16 (0 : Int) (intOf' (getD' undef (rels rs) (0 + (↑k : Int).toNat * 6 + 1 + 1 + 1 + 1)))).toNat) : Int),.int .u16 (↑(mB (IntKind.u32.wrap ((↑da : Int) + intOf' (getD' undef (rels rs) (0 + (↑k : Int).toNat * 6 + 1 + 1)))).toNat (intOf' (getD' undef (rels rs) (0 + (↑k : Int).toNat * 6 + 1 + 1 + 1))).toNat (bits BinOp.or IntKind.u16 (0 : Int) (intOf' (getD' undef (rels rs) (0 + (↑k : Int).toNat * 6 + 1 + 1 + 1 + 1)))).toNat) : Int),.int .u16 (↑(mT (IntKind.u32.wrap ((↑da : Int) + intOf' (getD' undef (rels rs) (0 + (↑k : Int).toNat * 6 + 1 + 1)))).toNat (intOf' (getD' undef (rels rs) (0 + (↑k : Int).toNat * 6 + 1 + 1 + 1))).toNat (bits BinOp.or IntKind.u16 (0 : Int) (intOf' (getD' undef (rels rs) (0 + (↑k : Int).toNat * 6 + 1 + 1 + 1 + 1)))).toNat) : Int),.int .u16 (↑(mP (IntKind.u32.wrap ((↑da : Int) + intOf' (getD' undef (rels rs) (0 + (↑k : Int).toNat * 6 + 1 + 1)))).toNat (intOf' (getD' undef (rels rs) (0 + (↑k : Int).toNat * 6 + 1 + 1 + 1))).toNat (bits BinOp.or IntKind.u16 (0 : Int) (intOf' (getD' undef (rels rs) (0 + (↑k : Int).toNat * 6 + 1 + 1 + 1 + 1)))).toNat) : Int),.int .u16 (intOf' (getD' undef (rels rs) (0 + (↑k : Int).toNat * 6 + 1 + 1 + 1 + 1 + 1))),.int .u32 0,.bool (mV (IntKind.u32.wrap ((↑da : Int) + intOf' (getD' undef (rels rs) (0 + (↑k : Int).toNat * 6 + 1 + 1)))).toNat (intOf' (getD' undef (rels rs) (0 + (↑k : Int).toNat * 6 + 1 + 1 + 1))).toNat (bits BinOp.or IntKind.u16 (0 : Int) (intOf' (getD' undef (rels rs) (0 + (↑k : Int).toNat * 6 + 1 + 1 + 1 + 1)))).toNat)]⟩,.bool true,.int .i64 (IntKind.i64.wrap ((↑k : Int) + (1 : Int))),unk,unk,unk],[unk,unk,unk,unk,unk,unk,unk,unk,unk,unk,unk,unk,unk,unk,unk,unk]],s:={ n:=83,h:=[(72,⟨true,none,[Value.pointer (some ⟨71,0,none⟩),.slice (some ⟨69,0,none⟩) N 9223372036854775877],none⟩),(71,⟨true,none,[Value.int .i64 (↑m),.slice (some ⟨70,0,none⟩) n 9223372036854775878],none⟩),(70,⟨true,some (70,1),v64 (wordsB (setB f (a / 16) true) n),none⟩),(69,⟨true,some (69,1),u8s (patA a (cbL ca ce cb ct cp cy 0) zs),none⟩),(73,⟨false,none,[Value.int .i64 (↑p),.int .i64 (↑s),.int .i64 (↑t),.slice (some ⟨64,0,none⟩) nc 9223372036854775872,.string ⟨⟨d⟩⟩,.slice (some ⟨65,0,none⟩) rs.length 9223372036854775873,.slice (some ⟨66,0,none⟩) ns 9223372036854775874,.int .u32 0,.int .u32 (↑c),.int .u32 (↑da),.int .u32 (↑ds),.int .u32 (↑sa),.int .u32 (↑ss),.int .u32 (↑ha),.int .u32 (↑hs)],none⟩),(65,⟨false,some (0,0),rels rs,none⟩),(74,⟨true,none,[Value.int .u32 (intOf' (getD' undef (rels rs) (0 + (↑k : Int).toNat * 6))),.bool (boolOf' (getD' undef (rels rs) (0 + (↑k : Int).toNat * 6 + 1))),.int .u32 (intOf' (getD' undef (rels rs) (0 + (↑k : Int).toNat * 6 + 1 + 1))),.int .u32 (intOf' (getD' undef (rels rs) (0 + (↑k : Int).toNat * 6 + 1 + 1 + 1))),.int .u16 (intOf' (getD' undef (rels rs) (0 + (↑k : Int).toNat * 6 + 1 + 1 + 1 + 1))),.int .u16 (intOf' (getD' undef (rels rs) (0 + (↑k : Int).toNat * 6 + 1 + 1 + 1 + 1 + 1)))],none⟩),(68,⟨false,none,[Value.int .u32 0,.int .u32 (↑c),.int .u32 (↑da),.int .u32 (↑ds),.int .u32 (↑sa),.int .u32 (↑ss),.int .u32 (↑ha),.int .u32 (↑hs)],none⟩)],lo:=[(70,n),(69,N)],esc:=0,T:=[],k:=2,O:=(((bif hasN (0 + (↑k : Int).toNat * 6 + 6) (rels rs) && isLikeL [Value.int .u32 0,.bool false,.int .u32 0,.int .u32 0,.int .u16 0,.int .u16 0] (rels rs) (0 + (↑k : Int).toNat * 6) then bif decide ((0 : Int) ≤ (↑k : Int)) && decide ((↑k : Int) < (↑rs.length : Int)) then True ∧ decide ((↑k : Int) < (↑rs.length : Int)) = true else False else False) ∧ boolOf' (getD' undef (rels rs) (0 + (↑k : Int).toNat * 6 + 1)) = false) ∧ ((0 : Int) ≤ IntKind.u32.wrap ((↑da : Int) + intOf' (getD' undef (rels rs) (0 + (↑k : Int).toNat * 6 + 1 + 1))) ∧ IntKind.u32.wrap ((↑da : Int) + intOf' (getD' undef (rels rs) (0 + (↑k : Int).toNat * 6 + 1 + 1))) < (4294967296 : Int) ∧ (0 : Int) ≤ intOf' (getD' undef (rels rs) (0 + (↑k : Int).toNat * 6 + 1 + 1 + 1)) ∧ intOf' (getD' undef (rels rs) (0 + (↑k : Int).toNat * 6 + 1 + 1 + 1)) < (4294967296 : Int) ∧ (0 : Int) ≤ bits BinOp.or IntKind.u16 (0 : Int) (intOf' (getD' undef (rels rs) (0 + (↑k : Int).toNat * 6 + 1 + 1 + 1 + 1)))) ∧ (rr (Value.agg ⟨[.int .u32 (IntKind.u32.wrap ((↑da : Int) + intOf' (getD' undef (rels rs) (0 + (↑k : Int).toNat * 6 + 1 + 1)))),.int .u32 (intOf' (getD' undef (rels rs) (0 + (↑k : Int).toNat * 6 + 1 + 1 + 1)))]⟩) ∧ rr (Value.int .u16 (bits BinOp.or IntKind.u16 (0 : Int) (intOf' (getD' undef (rels rs) (0 + (↑k : Int).toNat * 6 + 1 + 1 + 1 + 1))))) ∧ True) ∧ True ∧ True) ∧ True ∧ (rr (Value.pointer (some ⟨72,0,none⟩)) ∧ Value.int .u32 (IntKind.u32.wrap ((↑da : Int) + intOf' (getD' undef (rels rs) (0 + (↑k : Int).toNat * 6)))) = Value.int .u32 (↑a) ∧ Value.agg ⟨[.int .u32 (↑(mA (IntKind.u32.wrap ((↑da : Int) + intOf' (getD' undef (rels rs) (0 + (↑k : Int).toNat * 6 + 1 + 1)))).toNat (intOf' (getD' undef (rels rs) (0 + (↑k : Int).toNat * 6 + 1 + 1 + 1))).toNat (bits BinOp.or IntKind.u16 (0 : Int) (intOf' (getD' undef (rels rs) (0 + (↑k : Int).toNat * 6 + 1 + 1 + 1 + 1)))).toNat) : Int),.int .u8 (↑(mE (IntKind.u32.wrap ((↑da : Int) + intOf' (getD' undef (rels rs) (0 + (↑k : Int).toNat * 6 + 1 + 1)))).toNat (intOf' (getD' undef (rels rs) (0 + (↑k : Int).toNat * 6 + 1 + 1 + 1))).toNat (bits BinOp.or IntKind.u16 (0 : Int) (intOf' (getD' undef (rels rs) (0 + (↑k : Int).toNat * 6 + 1 + 1 + 1 + 1)))).toNat) : Int),.int .u16 (↑(mB (IntKind.u32.wrap ((↑da : Int) + intOf' (getD' undef (rels rs) (0 + (↑k : Int).toNat * 6 + 1 + 1)))).toNat (intOf' (getD' undef (rels rs) (0 + (↑k : Int).toNat * 6 + 1 + 1 + 1))).toNat (bits BinOp.or IntKind.u16 (0 : Int) (intOf' (getD' undef (rels rs) (0 + (↑k : Int).toNat * 6 + 1 + 1 + 1 + 1)))).toNat) : Int),.int .u16 (↑(mT (IntKind.u32.wrap ((↑da : Int) + intOf' (getD' undef (rels rs) (0 + (↑k : Int).toNat * 6 + 1 + 1)))).toNat (intOf' (getD' undef (rels rs) (0 + (↑k : Int).toNat * 6 + 1 + 1 + 1))).toNat (bits BinOp.or IntKind.u16 (0 : Int) (intOf' (getD' undef (rels rs) (0 + (↑k : Int).toNat * 6 + 1 + 1 + 1 + 1)))).toNat) : Int),.int .u16 (↑(mP (IntKind.u32.wrap ((↑da : Int) + intOf' (getD' undef (rels rs) (0 + (↑k : Int).toNat * 6 + 1 + 1)))).toNat (intOf' (getD' undef (rels rs) (0 + (↑k : Int).toNat * 6 + 1 + 1 + 1))).toNat (bits BinOp.or IntKind.u16 (0 : Int) (intOf' (getD' undef (rels rs) (0 + (↑k : Int).toNat * 6 + 1 + 1 + 1 + 1)))).toNat) : Int),.int .u16 (intOf' (getD' undef (rels rs) (0 + (↑k : Int).toNat * 6 + 1 + 1 + 1 + 1 + 1))),.int .u32 0,.bool (mV (IntKind.u32.wrap ((↑da : Int) + intOf' (getD' undef (rels rs) (0 + (↑k : Int).toNat * 6 + 1 + 1)))).toNat (intOf' (getD' undef (rels rs) (0 + (↑k : Int).toNat * 6 + 1 + 1 + 1))).toNat (bits BinOp.or IntKind.u16 (0 : Int) (intOf' (getD' undef (rels rs) (0 + (↑k : Int).toNat * 6 + 1 + 1 + 1 + 1)))).toNat)]⟩ = Value.agg ⟨[.int .u32 (↑ca),.int .u8 (↑ce),.int .u16 (↑cb),.int .u16 (↑ct),.int .u16 (↑cp),.int .u16 (↑cy),.int .u32 0,.bool true]⟩ ∧ True) ∧ ((tt ∧ tt ∧ tt ∧ tt ∧ tt ∧ True ∧ rr [Value.pointer (some ⟨71,0,none⟩),.slice (some ⟨69,0,none⟩) N 9223372036854775877]) ∧ (tt ∧ tt ∧ tt ∧ tt ∧ tt ∧ True ∧ rr [Value.int .i64 (↑m),.slice (some ⟨70,0,none⟩) n 9223372036854775878]) ∧ (tt ∧ (v64 (wordsB f n)).all (okV (fun l => l.blt 68) 3) = true ∧ tt ∧ tt ∧ tt ∧ True ∧ v64 (wordsB f n) = List.map (rnV (lift 68 83 [69,70,71,72]) 3) (v64 (wordsB f n))) ∧ (tt ∧ (u8s zs).all (okV (fun l => l.blt 68) 3) = true ∧ tt ∧ tt ∧ tt ∧ True ∧ u8s zs = List.map (rnV (lift 68 83 [69,70,71,72]) 3) (u8s zs)) ∧ True) ∧ (tt ∧ n ≤ n) ∧ (tt ∧ N ≤ N) ∧ True : St } : Fr }):=by kernel_rfl
theorem ldr_c (p : Nat) (s : Nat) (t : Nat) (nc : Nat) (ns : Nat) (d : List UInt8) (rs : List Rl) (c : Nat) (da : Nat) (ds : Nat) (sa : Nat) (ss : Nat) (ha : Nat) (hs : Nat) (zs : List UInt8) (f : Nat → Bool) (N : Nat) (m : Nat) (n : Nat) (k : Nat) (a : Nat) (ca : Nat) (ce : Nat) (cb : Nat) (ct : Nat) (cp : Nat) (cy : Nat) : evC Try.prog (evF Try.prog (baseF 3 (selSteps [(83,39,scC a ca ce cb ct cp cy 0 zs f N m n,[69,70,71,72])]) (baseC 3 selMk)) noLoop 100 20) (noLoop 12) 92 100 (loopOf Try.prog 12 1) (Sf.frT 92 (ldrI p s t nc ns d rs c da ds sa ss ha hs zs f N m n k) [(0,true),(1,true)]) = some (Exit.normal,{ e:=[[unk,.pointer (some ⟨67,0,none⟩),.pointer (some ⟨72,0,none⟩),.slice none 0 0,.int .i64 0,.pointer (some ⟨68,0,none⟩),.pointer (some ⟨73,0,none⟩),unk,unk,unk,.pointer (some ⟨74,0,none⟩),unk,unk,unk,unk,unk],[unk,unk,unk,unk,unk,unk,unk,unk,unk,unk,unk,unk,unk,unk,unk,unk],[unk,unk,unk,unk,unk,unk,unk,unk,unk,unk,unk,unk,unk,unk,unk,unk],[unk,unk,unk,unk,unk,unk,unk,unk,unk,unk,unk,.slice (some ⟨65,0,none⟩) rs.length 9223372036854775873,.int .i64 (↑rs.length),.int .i64 (IntKind.i64.wrap ((↑k : Int) + (1 : Int))),.bool (decide ((↑k : Int) < (↑rs.length : Int))),.pointer (some { block:=65,off:=0 + (↑k : Int).toNat * 6 })],[Value.agg ⟨[.int .u32 (intOf' (getD' undef (rels rs) (0 + (↑k : Int).toNat * 6))),.bool (boolOf' (getD' undef (rels rs) (0 + (↑k : Int).toNat * 6 + 1))),.int .u32 (intOf' (getD' undef (rels rs) (0 + (↑k : Int).toNat * 6 + 1 + 1))),.int .u32 (intOf' (getD' undef (rels rs) (0 + (↑k : Int).toNat * 6 + 1 + 1 + 1))),.int .u16 (intOf' (getD' undef (rels rs) (0 + (↑k : Int).toNat * 6 + 1 + 1 + 1 + 1))),.int .u16 (intOf' (getD' undef (rels rs) (0 + (↑k : Int).toNat * 6 + 1 + 1 + 1 + 1 + 1)))]⟩,.pointer (some ⟨72,0,none⟩),.pointer (some { block:=68,off:=2 }),.pointer (some { block:=68,off:=2 }),.int .u32 (↑da),.pointer (some ⟨74,0,none⟩),.int .u32 (intOf' (getD' undef (rels rs) (0 + (↑k : Int).toNat * 6))),.int .u32 (IntKind.u32.wrap ((↑da : Int) + intOf' (getD' undef (rels rs) (0 + (↑k : Int).toNat * 6)))),.agg ⟨[.int .i64 (↑p),.int .i64 (↑s),.int .i64 (↑t),.slice (some ⟨64,0,none⟩) nc 9223372036854775872,.string ⟨⟨d⟩⟩,.slice (some ⟨65,0,none⟩) rs.length 9223372036854775873,.slice (some ⟨66,0,none⟩) ns 9223372036854775874,.int .u32 0,.int .u32 (↑c),.int .u32 (↑da),.int .u32 (↑ds),.int .u32 (↑sa),.int .u32 (↑ss),.int .u32 (↑ha),.int .u32 (↑hs)]⟩,.agg ⟨[.int .u32 (intOf' (getD' undef (rels rs) (0 + (↑k : Int).toNat * 6))),.bool (boolOf' (getD' undef (rels rs) (0 + (↑k : Int).toNat * 6 + 1))),.int .u32 (intOf' (getD' undef (rels rs) (0 + (↑k : Int).toNat * 6 + 1 + 1))),.int .u32 (intOf' (getD' undef (rels rs) (0 + (↑k : Int).toNat * 6 + 1 + 1 + 1))),.int .u16 (intOf' (getD' undef (rels rs) (0 + (↑k : Int).toNat * 6 + 1 + 1 + 1 + 1))),.int .u16 (intOf' (getD' undef (rels rs) (0 + (↑k : Int).toNat * 6 + 1 + 1 + 1 + 1 + 1)))]⟩,.agg ⟨[.int .u32 (↑(mA (IntKind.u32.wrap ((0 : Int) + intOf' (getD' undef (rels rs) (0 + (↑k : Int).toNat * 6 + 1 + 1)))).toNat (intOf' (getD' undef (rels rs) (0 + (↑k : Int).toNat * 6 + 1 + 1 + 1))).toNat (bits BinOp.or IntKind.u16 (0 : Int) (intOf' (getD' undef (rels rs) (0 + (↑k : Int).toNat * 6 + 1 + 1 + 1 + 1)))).toNat) : Int),.int .u8 (↑(mE (IntKind.u32.wrap ((0 : Int) + intOf' (getD' undef (rels rs) (0 + (↑k : Int).toNat * 6 + 1 + 1)))).toNat (intOf' (getD' undef (rels rs) (0 + (↑k : Int).toNat * 6 + 1 + 1 + 1))).toNat (bits BinOp.or IntKind.u16 (0 : Int) (intOf' (getD' undef (rels rs) (0 + (↑k : Int).toNat * 6 + 1 + 1 + 1 + 1)))).toNat) : Int),.int .u16 (↑(mB (IntKind.u32.wrap ((0 : Int) + intOf' (getD' undef (rels rs) (0 + (↑k : Int).toNat * 6 + 1 + 1)))).toNat (intOf' (getD' undef (rels rs) (0 + (↑k : Int).toNat * 6 + 1 + 1 + 1))).toNat (bits BinOp.or IntKind.u16 (0 : Int) (intOf' (getD' undef (rels rs) (0 + (↑k : Int).toNat * 6 + 1 + 1 + 1 + 1)))).toNat) : Int),.int .u16 (↑(mT (IntKind.u32.wrap ((0 : Int) + intOf' (getD' undef (rels rs) (0 + (↑k : Int).toNat * 6 + 1 + 1)))).toNat (intOf' (getD' undef (rels rs) (0 + (↑k : Int).toNat * 6 + 1 + 1 + 1))).toNat (bits BinOp.or IntKind.u16 (0 : Int) (intOf' (getD' undef (rels rs) (0 + (↑k : Int).toNat * 6 + 1 + 1 + 1 + 1)))).toNat) : Int),.int .u16 (↑(mP (IntKind.u32.wrap ((0 : Int) + intOf' (getD' undef (rels rs) (0 + (↑k : Int).toNat * 6 + 1 + 1)))).toNat (intOf' (getD' undef (rels rs) (0 + (↑k : Int).toNat * 6 + 1 + 1 + 1))).toNat (bits BinOp.or IntKind.u16 (0 : Int) (intOf' (getD' undef (rels rs) (0 + (↑k : Int).toNat * 6 + 1 + 1 + 1 + 1)))).toNat) : Int),.int .u16 (intOf' (getD' undef (rels rs) (0 + (↑k : Int).toNat * 6 + 1 + 1 + 1 + 1 + 1))),.int .u32 0,.bool (mV (IntKind.u32.wrap ((0 : Int) + intOf' (getD' undef (rels rs) (0 + (↑k : Int).toNat * 6 + 1 + 1)))).toNat (intOf' (getD' undef (rels rs) (0 + (↑k : Int).toNat * 6 + 1 + 1 + 1))).toNat (bits BinOp.or IntKind.u16 (0 : Int) (intOf' (getD' undef (rels rs) (0 + (↑k : Int).toNat * 6 + 1 + 1 + 1 + 1)))).toNat)]⟩,.bool true,.int .i64 (IntKind.i64.wrap ((↑k : Int) + (1 : Int))),unk,unk,unk],[unk,unk,unk,unk,unk,unk,unk,unk,unk,unk,unk,unk,unk,unk,unk,unk]],s:={ n:=83,h:=[(72,⟨true,none,[Value.pointer (some ⟨71,0,none⟩),.slice (some ⟨69,0,none⟩) N 9223372036854775877],none⟩),(71,⟨true,none,[Value.int .i64 (↑m),.slice (some ⟨70,0,none⟩) n 9223372036854775878],none⟩),(70,⟨true,some (70,1),v64 (wordsB (setB f (a / 16) true) n),none⟩),(69,⟨true,some (69,1),u8s (patA a (cbL ca ce cb ct cp cy 0) zs),none⟩),(73,⟨false,none,[Value.int .i64 (↑p),.int .i64 (↑s),.int .i64 (↑t),.slice (some ⟨64,0,none⟩) nc 9223372036854775872,.string ⟨⟨d⟩⟩,.slice (some ⟨65,0,none⟩) rs.length 9223372036854775873,.slice (some ⟨66,0,none⟩) ns 9223372036854775874,.int .u32 0,.int .u32 (↑c),.int .u32 (↑da),.int .u32 (↑ds),.int .u32 (↑sa),.int .u32 (↑ss),.int .u32 (↑ha),.int .u32 (↑hs)],none⟩),(65,⟨false,some (0,0),rels rs,none⟩),(74,⟨true,none,[Value.int .u32 (intOf' (getD' undef (rels rs) (0 + (↑k : Int).toNat * 6))),.bool (boolOf' (getD' undef (rels rs) (0 + (↑k : Int).toNat * 6 + 1))),.int .u32 (intOf' (getD' undef (rels rs) (0 + (↑k : Int).toNat * 6 + 1 + 1))),.int .u32 (intOf' (getD' undef (rels rs) (0 + (↑k : Int).toNat * 6 + 1 + 1 + 1))),.int .u16 (intOf' (getD' undef (rels rs) (0 + (↑k : Int).toNat * 6 + 1 + 1 + 1 + 1))),.int .u16 (intOf' (getD' undef (rels rs) (0 + (↑k : Int).toNat * 6 + 1 + 1 + 1 + 1 + 1)))],none⟩),(68,⟨false,none,[Value.int .u32 0,.int .u32 (↑c),.int .u32 (↑da),.int .u32 (↑ds),.int .u32 (↑sa),.int .u32 (↑ss),.int .u32 (↑ha),.int .u32 (↑hs)],none⟩)],lo:=[(70,n),(69,N)],esc:=0,T:=[],k:=2,O:=(((bif hasN (0 + (↑k : Int).toNat * 6 + 6) (rels rs) && isLikeL [Value.int .u32 0,.bool false,.int .u32 0,.int .u32 0,.int .u16 0,.int .u16 0] (rels rs) (0 + (↑k : Int).toNat * 6) then bif decide ((0 : Int) ≤ (↑k : Int)) && decide ((↑k : Int) < (↑rs.length : Int)) then True ∧ decide ((↑k : Int) < (↑rs.length : Int)) = true else False else False) ∧ boolOf' (getD' undef (rels rs) (0 + (↑k : Int).toNat * 6 + 1)) = true) ∧ ((0 : Int) ≤ IntKind.u32.wrap ((0 : Int) + intOf' (getD' undef (rels rs) (0 + (↑k : Int).toNat * 6 + 1 + 1))) ∧ IntKind.u32.wrap ((0 : Int) + intOf' (getD' undef (rels rs) (0 + (↑k : Int).toNat * 6 + 1 + 1))) < (4294967296 : Int) ∧ (0 : Int) ≤ intOf' (getD' undef (rels rs) (0 + (↑k : Int).toNat * 6 + 1 + 1 + 1)) ∧ intOf' (getD' undef (rels rs) (0 + (↑k : Int).toNat * 6 + 1 + 1 + 1)) < (4294967296 : Int) ∧ (0 : Int) ≤ bits BinOp.or IntKind.u16 (0 : Int) (intOf' (getD' undef (rels rs) (0 + (↑k : Int).toNat * 6 + 1 + 1 + 1 + 1)))) ∧ (rr (Value.agg ⟨[.int .u32 (IntKind.u32.wrap ((0 : Int) + intOf' (getD' undef (rels rs) (0 + (↑k : Int).toNat * 6 + 1 + 1)))),.int .u32 (intOf' (getD' undef (rels rs) (0 + (↑k : Int).toNat * 6 + 1 + 1 + 1)))]⟩) ∧ rr (Value.int .u16 (bits BinOp.or IntKind.u16 (0 : Int) (intOf' (getD' undef (rels rs) (0 + (↑k : Int).toNat * 6 + 1 + 1 + 1 + 1))))) ∧ True) ∧ True ∧ True) ∧ True ∧ (rr (Value.pointer (some ⟨72,0,none⟩)) ∧ Value.int .u32 (IntKind.u32.wrap ((↑da : Int) + intOf' (getD' undef (rels rs) (0 + (↑k : Int).toNat * 6)))) = Value.int .u32 (↑a) ∧ Value.agg ⟨[.int .u32 (↑(mA (IntKind.u32.wrap ((0 : Int) + intOf' (getD' undef (rels rs) (0 + (↑k : Int).toNat * 6 + 1 + 1)))).toNat (intOf' (getD' undef (rels rs) (0 + (↑k : Int).toNat * 6 + 1 + 1 + 1))).toNat (bits BinOp.or IntKind.u16 (0 : Int) (intOf' (getD' undef (rels rs) (0 + (↑k : Int).toNat * 6 + 1 + 1 + 1 + 1)))).toNat) : Int),.int .u8 (↑(mE (IntKind.u32.wrap ((0 : Int) + intOf' (getD' undef (rels rs) (0 + (↑k : Int).toNat * 6 + 1 + 1)))).toNat (intOf' (getD' undef (rels rs) (0 + (↑k : Int).toNat * 6 + 1 + 1 + 1))).toNat (bits BinOp.or IntKind.u16 (0 : Int) (intOf' (getD' undef (rels rs) (0 + (↑k : Int).toNat * 6 + 1 + 1 + 1 + 1)))).toNat) : Int),.int .u16 (↑(mB (IntKind.u32.wrap ((0 : Int) + intOf' (getD' undef (rels rs) (0 + (↑k : Int).toNat * 6 + 1 + 1)))).toNat (intOf' (getD' undef (rels rs) (0 + (↑k : Int).toNat * 6 + 1 + 1 + 1))).toNat (bits BinOp.or IntKind.u16 (0 : Int) (intOf' (getD' undef (rels rs) (0 + (↑k : Int).toNat * 6 + 1 + 1 + 1 + 1)))).toNat) : Int),.int .u16 (↑(mT (IntKind.u32.wrap ((0 : Int) + intOf' (getD' undef (rels rs) (0 + (↑k : Int).toNat * 6 + 1 + 1)))).toNat (intOf' (getD' undef (rels rs) (0 + (↑k : Int).toNat * 6 + 1 + 1 + 1))).toNat (bits BinOp.or IntKind.u16 (0 : Int) (intOf' (getD' undef (rels rs) (0 + (↑k : Int).toNat * 6 + 1 + 1 + 1 + 1)))).toNat) : Int),.int .u16 (↑(mP (IntKind.u32.wrap ((0 : Int) + intOf' (getD' undef (rels rs) (0 + (↑k : Int).toNat * 6 + 1 + 1)))).toNat (intOf' (getD' undef (rels rs) (0 + (↑k : Int).toNat * 6 + 1 + 1 + 1))).toNat (bits BinOp.or IntKind.u16 (0 : Int) (intOf' (getD' undef (rels rs) (0 + (↑k : Int).toNat * 6 + 1 + 1 + 1 + 1)))).toNat) : Int),.int .u16 (intOf' (getD' undef (rels rs) (0 + (↑k : Int).toNat * 6 + 1 + 1 + 1 + 1 + 1))),.int .u32 0,.bool (mV (IntKind.u32.wrap ((0 : Int) + intOf' (getD' undef (rels rs) (0 + (↑k : Int).toNat * 6 + 1 + 1)))).toNat (intOf' (getD' undef (rels rs) (0 + (↑k : Int).toNat * 6 + 1 + 1 + 1))).toNat (bits BinOp.or IntKind.u16 (0 : Int) (intOf' (getD' undef (rels rs) (0 + (↑k : Int).toNat * 6 + 1 + 1 + 1 + 1)))).toNat)]⟩ = Value.agg ⟨[.int .u32 (↑ca),.int .u8 (↑ce),.int .u16 (↑cb),.int .u16 (↑ct),.int .u16 (↑cp),.int .u16 (↑cy),.int .u32 0,.bool true]⟩ ∧ True) ∧ ((tt ∧ tt ∧ tt ∧ tt ∧ tt ∧ True ∧ rr [Value.pointer (some ⟨71,0,none⟩),.slice (some ⟨69,0,none⟩) N 9223372036854775877]) ∧ (tt ∧ tt ∧ tt ∧ tt ∧ tt ∧ True ∧ rr [Value.int .i64 (↑m),.slice (some ⟨70,0,none⟩) n 9223372036854775878]) ∧ (tt ∧ (v64 (wordsB f n)).all (okV (fun l => l.blt 68) 3) = true ∧ tt ∧ tt ∧ tt ∧ True ∧ v64 (wordsB f n) = List.map (rnV (lift 68 83 [69,70,71,72]) 3) (v64 (wordsB f n))) ∧ (tt ∧ (u8s zs).all (okV (fun l => l.blt 68) 3) = true ∧ tt ∧ tt ∧ tt ∧ True ∧ u8s zs = List.map (rnV (lift 68 83 [69,70,71,72]) 3) (u8s zs)) ∧ True) ∧ (tt ∧ n ≤ n) ∧ (tt ∧ N ≤ N) ∧ True : St } : Fr }):=by kernel_rfl
theorem ldr_e (p : Nat) (s : Nat) (t : Nat) (nc : Nat) (ns : Nat) (d : List UInt8) (rs : List Rl) (c : Nat) (da : Nat) (ds : Nat) (sa : Nat) (ss : Nat) (ha : Nat) (hs : Nat) (zs : List UInt8) (f : Nat → Bool) (N : Nat) (m : Nat) (n : Nat) (k : Nat) : evC Try.prog (evF Try.prog noBase noLoop 100 20) (noLoop 12) 92 100 (loopOf Try.prog 12 1) (Sf.frT 92 (ldrI p s t nc ns d rs c da ds sa ss ha hs zs f N m n k) [(0,false)]) = some (Exit.exit 2,{ e:=[[unk,.pointer (some ⟨67,0,none⟩),.pointer (some ⟨72,0,none⟩),.slice none 0 0,.int .i64 0,.pointer (some ⟨68,0,none⟩),.pointer (some ⟨73,0,none⟩),unk,unk,unk,unk,unk,unk,unk,unk,unk],[unk,unk,unk,unk,unk,unk,unk,unk,unk,unk,unk,unk,unk,unk,unk,unk],[unk,unk,unk,unk,unk,unk,unk,unk,unk,unk,unk,unk,unk,unk,unk,unk],[unk,unk,unk,unk,unk,unk,unk,unk,unk,unk,unk,.slice (some ⟨65,0,none⟩) rs.length 9223372036854775873,.int .i64 (↑rs.length),.int .i64 (↑k),.bool (decide ((↑k : Int) < (↑rs.length : Int))),unk],[unk,unk,unk,unk,unk,unk,unk,unk,unk,unk,unk,unk,unk,unk,unk,unk],[unk,unk,unk,unk,unk,unk,unk,unk,unk,unk,unk,unk,unk,unk,unk,unk]],s:={ n:=74,h:=[(72,⟨true,none,[Value.pointer (some ⟨71,0,none⟩),.slice (some ⟨69,0,none⟩) N 9223372036854775877],none⟩),(71,⟨true,none,[Value.int .i64 (↑m),.slice (some ⟨70,0,none⟩) n 9223372036854775878],none⟩),(70,⟨true,some (70,1),v64 (wordsB f n),none⟩),(69,⟨true,some (69,1),u8s zs,none⟩),(68,⟨false,none,[Value.int .u32 0,.int .u32 (↑c),.int .u32 (↑da),.int .u32 (↑ds),.int .u32 (↑sa),.int .u32 (↑ss),.int .u32 (↑ha),.int .u32 (↑hs)],none⟩),(73,⟨false,none,[Value.int .i64 (↑p),.int .i64 (↑s),.int .i64 (↑t),.slice (some ⟨64,0,none⟩) nc 9223372036854775872,.string ⟨⟨d⟩⟩,.slice (some ⟨65,0,none⟩) rs.length 9223372036854775873,.slice (some ⟨66,0,none⟩) ns 9223372036854775874,.int .u32 0,.int .u32 (↑c),.int .u32 (↑da),.int .u32 (↑ds),.int .u32 (↑sa),.int .u32 (↑ss),.int .u32 (↑ha),.int .u32 (↑hs)],none⟩),(65,⟨false,some (0,0),rels rs,none⟩)],lo:=[(70,n),(69,N)],esc:=0,T:=[],k:=1,O:=True ∧ decide ((↑k : Int) < (↑rs.length : Int)) = false : St } : Fr }):=by kernel_rfl
end Go.Proofs.Ytliidiceljdgmaa
namespace Go.Proofs.Ytliidiceljdgmaa
open Go.RowKit
open Sy
set_option maxRecDepth 100000
def relZ (da : Nat) (rs : List Rl) (zs : List UInt8) : Nat → List UInt8
 | 0 => zs
 | k + 1 => patA (da + (rl0 rs k).at_) (cbL (rlCp da (rl0 rs k)).a (rlCp da (rl0 rs k)).e (rlCp da (rl0 rs k)).b (rlCp da (rl0 rs k)).t (rlCp da (rl0 rs k)).p (rlCp da (rl0 rs k)).y 0) (relZ da rs zs k)
def rlT (da : Nat) (rs : List Rl) : Nat → Nat → Bool
 | 0 => fun _ => false
 | k + 1 => setB (rlT da rs k) ((da + (rl0 rs k).at_) / 16) true
structure RlFit (da N : Nat) (r : Rl) : Prop where
 ok : RlOk r
 al : (da + r.at_) % 16 = 0
 fit : da + r.at_ + 16 ≤ N
 v : (rlCp da r).v = true
 snd : soundN (rlCp da r).e (rlCp da r).b (rlCp da r).t (rlCp da r).p (rlCp da r).y 0 = true
theorem relZ_len (da : Nat) (rs : List Rl) (zs : List UInt8) (N : Nat) (hN : zs.length = N) (h : ∀ r ∈ rs,RlFit da N r) : ∀ k,k ≤ rs.length → (relZ da rs zs k).length = N
 | 0,_ => hN
 | k + 1,hk => by
  have ih:=relZ_len da rs zs N hN h k (by omega)
  have hr : RlFit da N (rl0 rs k):=by
   unfold rl0; rw [List.getD_eq_getElem?_getD,List.getElem?_eq_getElem (by omega)]; exact h _ (List.getElem_mem _)
  have:=hr.fit
  unfold relZ
  rw [patA_len _ _ _ (by rw [cbL_len,ih]; omega),ih]
def ldrF (zs : List UInt8) (f : Nat → Bool) (N m n : Nat) : Sf:=⟨74,ldaE,ar69W zs f N m n,[(70,n),(69,N)]⟩
theorem ar69W_okH {q : Nat → Bool} (h : ∀ l,l < 74 → q l = true) (zs : List UInt8) (f : Nat → Bool) (N m n : Nat) {l : Sy.Heap} (hl : OkH q l) : OkH q (ar69W zs f N m n ++ l) :=
 ⟨⟨h 72 (by omega),rfl,fun v hv => okV_bnd 3 v ((ar69_cell (h 69 (by omega)) (h 70 (by omega)) (h 71 (by omega)) N m n).1 v hv)⟩,⟨h 71 (by omega),rfl,fun v hv => okV_bnd 3 v ((ar69_cell (h 69 (by omega)) (h 70 (by omega)) (h 71 (by omega)) N m n).2 v hv)⟩,⟨h 70 (by omega),h 70 (by omega),flat_bnd (v64_flat _)⟩,⟨h 69 (by omega),h 69 (by omega),flat_bnd (u8s_flatA zs)⟩,hl⟩
theorem ar69W_seen {h1 : Sy.Heap} {p : Nat → Bool} (hp : ∀ l,l < 74 → p l = true) (zs : List UInt8) (f : Nat → Bool) (N m n : Nat) (cs ws : List Value) {l : Sy.Heap} (h72 : Sy.look h1 72 = some ⟨true,none,[.pointer (some ⟨71,0,none⟩),.slice (some ⟨69,0,none⟩) N (big + 69)],none⟩) (h71 : Sy.look h1 71 = some ⟨true,none,[.int .i64 (m : Nat),.slice (some ⟨70,0,none⟩) n (big + 70)],none⟩)
  (h70 : Sy.look h1 70 = some ⟨true,some (70,1),ws,none⟩) (h69 : Sy.look h1 69 = some ⟨true,some (69,1),cs,none⟩) (hw : ws = v64 (wordsB f n)) (hc : cs = u8s zs) (hl : SeenH 3 p id h1 l) : SeenH 3 p id h1 (ar69W zs f N m n ++ l):=by
 have hc1:=ar69_cell (hp 69 (by omega)) (hp 70 (by omega)) (hp 71 (by omega)) N m n
 refine ⟨⟨hp 72 (by omega),List.all_eq_true.2 hc1.1,rfl,?_⟩,⟨hp 71 (by omega),List.all_eq_true.2 hc1.2,rfl,?_⟩,⟨hp 70 (by omega),flat_all (v64_flat _),hp 70 (by omega),?_⟩,⟨hp 69 (by omega),flat_all (u8s_flatA zs),hp 69 (by omega),?_⟩,hl⟩
 ·simp only [rr, tt, id,h72]; exact ⟨rfl,rfl,trivial,(map_id3 _ rfl _).symm⟩
 ·simp only [rr, tt, id,h71]; exact ⟨rfl,rfl,trivial,(map_id3 _ rfl _).symm⟩
 ·simp only [rr, tt, id,h70]; exact ⟨rfl,rfl,trivial,by rw [map_id3 _ rfl,hw]⟩
 ·simp only [rr, tt, id,h69]; exact ⟨rfl,rfl,trivial,by rw [map_id3 _ rfl,hc]⟩
theorem plQ_cell {q : Nat → Bool} {a2 : Option Addr} {n2 c2 : Nat} (h : okV q 3 (.slice a2 n2 c2) = true) (h4 : q 64 = true) (h6 : q 66 = true) (p s t : Int) (nc ns : Nat) (d : List UInt8) (c da ds sa ss ha hs : Int) : ∀ v ∈ plQ p s t nc ns d a2 n2 c2 c da ds sa ss ha hs,okV q 3 v = true:=fun v hv => by
 simp only [rr, tt, plQ,List.mem_cons,List.not_mem_nil,or_false] at hv
 rcases hv with rfl | rfl | rfl | rfl | rfl | rfl | rfl | rfl | rfl | rfl | rfl | rfl | rfl | rfl | rfl
 all_goals first
  | exact h
  | simp [okV,bndA,h4,h6,flat0,big]
theorem ldrI_wf (p s t : Nat) (nc ns : Nat) (d : List UInt8) (rs : List Rl) (c da ds sa ss ha hs : Nat) (zs : List UInt8) (f : Nat → Bool) (N m n k : Nat) : (ldrI p s t nc ns d rs c da ds sa ss ha hs zs f N m n k).Wf :=
 ⟨by show 64 ≤ 74; omega,Sf.Ok.mk' 3 (ar69W_okH lt74 zs f N m n ⟨⟨rfl,rfl,flat_bnd (ly_flat c da ds sa ss ha hs)⟩,⟨rfl,rfl,fun v hv => okV_bnd 3 v (plQ_cell rfl rfl rfl _ _ _ _ _ _ _ _ _ _ _ _ _ v hv)⟩,⟨rfl,rfl,flat_bnd (rels_flat rs)⟩,trivial⟩) rfl (fun x hx => by
  rw [show (ldrI p s t nc ns d rs c da ds sa ss ha hs zs f N m n k).e = ldaE ++ [(59,.slice (some ⟨65,0,none⟩) rs.length (big + 65)),(60,.int .i64 (rs.length : Nat)),(61,.int .i64 (k : Nat))] from rfl,List.mem_append] at hx
  rcases hx with hx | hx
  ·exact ldaE_ok lt74 x hx
  ·simp only [rr, tt, List.mem_cons,List.not_mem_nil,or_false] at hx
   rcases hx with rfl | rfl | rfl <;> rfl)⟩
theorem ldrF_ok (zs : List UInt8) (f : Nat → Bool) (N m n : Nat) : (ldrF zs f N m n).Ok (keeps 74 74 id (fun l => Nat.blt l 74)) :=
 Sf.Ok.mk' 3 (by have:=ar69W_okH keeps74 zs f N m n (l:=[]) trivial; rwa [List.append_nil] at this) rfl (fun x hx => ldaE_ok keeps74 x hx)
theorem ldr_loop (p s t : Nat) (nc ns : Nat) (d : List UInt8) (rs : List Rl) (c da ds sa ss ha hs : Nat) (zs : List UInt8) (N m n : Nat) (h : ArOk zs N m n) (hr : ∀ r ∈ rs,RlFit da N r) (hl : rs.length ≤ 256) (h3 : da < 500000) :
  ∀ k : { k : Nat // k ≤ rs.length },LoopOk Try.prog 92 (loopOf Try.prog 12 1) ((ldrI p s t nc ns d rs c da ds sa ss ha hs (relZ da rs zs k.1) (rlT da rs k.1) N m n k.1).fr 92) (.exit 2) ((ldrF (relZ da rs zs rs.length) (rlT da rs rs.length) N m n).fr 92):=by
 refine loop_okC (L:=100) (noLoop_any _ _ 12) (fun _ h => h) (X:={ k : Nat // k ≤ rs.length }) (fun k => ldrI p s t nc ns d rs c da ds sa ss ha hs (relZ da rs zs k.1) (rlT da rs k.1) N m n k.1) (fun _ => ldrF (relZ da rs zs rs.length) (rlT da rs rs.length) N m n) (fun _ => .exit 2) (fun k => rs.length - k.1) (fun k => ldrI_wf _ _ _ _ _ _ _ _ _ _ _ _ _ _ _ _ _ _ _ _) ?_
 rintro ⟨k,hk⟩
 have hzl : (relZ da rs zs k).length = N:=relZ_len da rs zs N h.len hr k hk
 have v1 : ∀ (f : Nat → Bool) (σ : Nat → Nat),(v64 (wordsB f n)).map (rnV σ 3) = v64 (wordsB f n):=fun f σ => flat_map (v64_flat _)
 have v2 : ∀ (f : Nat → Bool) (p : Nat → Bool),(v64 (wordsB f n)).all (okV p 3) = true:=fun f p => flat_all (v64_flat _)
 have u1 : ∀ (zs : List UInt8) (p : Nat → Bool),(u8s zs).all (okV p 3) = true:=fun zs p => flat_all (u8s_flatA _)
 have u2 : ∀ (zs : List UInt8) (σ : Nat → Nat),(u8s zs).map (rnV σ 3) = u8s zs:=fun zs σ => flat_map (u8s_flatA _)
 by_cases hlt : k < rs.length
 ·have hx : RlFit da N (rl0 rs k):=by
   unfold rl0
   rw [List.getD_eq_getElem?_getD,List.getElem?_eq_getElem hlt]
   exact hr _ (List.getElem_mem hlt)
  have b0:=hx.ok.at_; have b1:=hx.ok.off; have b2:=hx.ok.size; have b3:=hx.ok.perms; have b4:=hx.ok.typ; have b5:=hx.fit; have b6:=h.big
  have g0:=rels_0 hlt
  have g1:=rels_1 hlt
  have g2:=rels_2 hlt
  have g3:=rels_3 hlt
  have g4:=rels_4 hlt
  have g5:=rels_5 hlt
  have e5 : IntKind.i64.wrap ((k : Int) + (1 : Int)) = ((k + 1 : Nat) : Int):=cast_succ_i64 k (by omega)
  have e6:=or0_16 (rl0 rs k).perms b3
  have e7 : IntKind.u32.wrap ((da : Int) + ((rl0 rs k).at_ : Int)) = ((da + (rl0 rs k).at_ : Nat) : Int):=by rw [a_add,w32A _ (by omega)]
  have f1:=rels_like hlt 0 0 0 0 0 false
  have f2 : hasN (k * 6 + 6) (rels rs) = true:=by rw [rels_has]; exact decide_eq_true (by omega)
  have hcp : CpB (rlCp da (rl0 rs k)).a (rlCp da (rl0 rs k)).e (rlCp da (rl0 rs k)).b (rlCp da (rl0 rs k)).t (rlCp da (rl0 rs k)).p (rlCp da (rl0 rs k)).y 0:=by
   have q1:=mA_le (bif (rl0 rs k).code then (rl0 rs k).off else (da + (rl0 rs k).off) % 4294967296) (rl0 rs k).size (rl0 rs k).perms
   have q2:=mP_le (bif (rl0 rs k).code then (rl0 rs k).off else (da + (rl0 rs k).off) % 4294967296) (rl0 rs k).size (rl0 rs k).perms
   refine ⟨?_,mE_lt _ _ _,mB_lt _ _ _,mT_lt _ _ _,?_,b4,by omega⟩
   ·show mA _ _ _ < _
    cases hc : (rl0 rs k).code <;> rw [hc] at q1 <;> simp only [rr, tt, cond_true,cond_false] at q1 ⊢ <;> omega
   ·show mP _ _ _ < _
    omega
  have hcon:=sc_con (da + (rl0 rs k).at_) _ _ _ _ _ _ 0 (relZ da rs zs k) (rlT da rs k) N m n ⟨hzl,h.tags,h.words,h.few,h.big⟩ hcp hx.snd hx.al hx.fit
  have hbase:=run_ok (L:=100) ar_names (baseF_ok (selSteps_ok (L:=[(83,39,scC (da + (rl0 rs k).at_) _ _ _ _ _ _ 0 (relZ da rs zs k) (rlT da rs k) N m n,[69,70,71,72])]) fun x hx => by
   obtain rfl:=List.mem_singleton.1 hx; exact hcon) (baseC_ok selMk_ok)) (noLoop_ok _) 20
  have hv:=hx.v
  cases hcode : (rl0 rs k).code
  ·have hca : rlCp da (rl0 rs k) = mkCp ((da + (rl0 rs k).off) % 4294967296) (rl0 rs k).size (rl0 rs k).perms (rl0 rs k).typ:=by unfold rlCp; rw [hcode]; rfl
   have e9 : IntKind.u32.wrap ((da : Int) + ((rl0 rs k).off : Int)) = (((da + (rl0 rs k).off) % 4294967296 : Nat) : Int):=by rw [IntKind.wrap_u32]; omega
   have hr:=ldr_d p s t nc ns d rs c da ds sa ss ha hs (relZ da rs zs k) (rlT da rs k) N m n k (da + (rl0 rs k).at_) (rlCp da (rl0 rs k)).a (rlCp da (rl0 rs k)).e (rlCp da (rl0 rs k)).b (rlCp da (rl0 rs k)).t (rlCp da (rl0 rs k)).p (rlCp da (rl0 rs k)).y
   simp only [rr, tt, Nat.zero_add,Nat.add_assoc,Nat.reduceAdd,Int.toNat_natCast,g0,g1,g2,g3,g4,g5,e5,e6,e7,e9,v1,u2] at hr
   refine ⟨_,_,.normal,_,3,fun l => Nat.blt l 74,id,hbase,hr,?_,.inl ⟨rfl,⟨k + 1,by omega⟩,by show rs.length - (k + 1) < rs.length - k; omega,rfl,rfl,?_⟩⟩
   ·have hv' : mV ((da + (rl0 rs k).off) % 4294967296) (rl0 rs k).size (rl0 rs k).perms = true:=by rw [hca] at hv; exact hv
    simp only [rr, tt, f1,f2,v1,v2,u1,u2,hca,mkCp,hcode,hv',hlt,Bool.and_self,cond_true,and_true,true_and,and_self,Nat.le_refl]
    refine ⟨?_,by omega,by omega,by omega,by omega,by omega⟩
    simp [hlt]
   ·refine ⟨fun _ _ => rfl,ar69W_seen lt74 _ _ N m n _ _ rfl rfl rfl rfl rfl rfl ⟨⟨rfl,flat_all (ly_flat c da ds sa ss ha hs),rfl,rfl,rfl,trivial,(flat_map (ly_flat c da ds sa ss ha hs)).symm⟩,⟨rfl,List.all_eq_true.2 (plQ_cell rfl rfl rfl _ _ _ _ _ _ _ _ _ _ _ _ _),rfl,rfl,rfl,trivial,(map_id3 _ rfl _).symm⟩,⟨rfl,flat_all (rels_flat rs),rfl,rfl,rfl,trivial,(flat_map (rels_flat rs)).symm⟩,trivial⟩,rfl,⟨⟨rfl,Nat.le_refl _⟩,⟨rfl,Nat.le_refl _⟩,trivial⟩,?_,Nat.le_refl _,fun l hl => blt_no hl,ldrF_ok _ _ N m n,fun x _ _ => .inl rfl⟩
    exact ⟨⟨by kernel_rfl,by kernel_rfl⟩,⟨by kernel_rfl,by kernel_rfl⟩,⟨by kernel_rfl,by kernel_rfl⟩,⟨by kernel_rfl,by kernel_rfl⟩,⟨by kernel_rfl,by kernel_rfl⟩,⟨by kernel_rfl,by kernel_rfl⟩,⟨by kernel_rfl,by kernel_rfl⟩,⟨by kernel_rfl,by kernel_rfl⟩,⟨by kernel_rfl,by kernel_rfl⟩,trivial⟩
  ·have hca : rlCp da (rl0 rs k) = mkCp (rl0 rs k).off (rl0 rs k).size (rl0 rs k).perms (rl0 rs k).typ:=by unfold rlCp; rw [hcode]; rfl
   have e9 : IntKind.u32.wrap ((0 : Int) + ((rl0 rs k).off : Int)) = (((rl0 rs k).off : Nat) : Int):=by rw [Int.zero_add,w32A _ b1]
   have hr:=ldr_c p s t nc ns d rs c da ds sa ss ha hs (relZ da rs zs k) (rlT da rs k) N m n k (da + (rl0 rs k).at_) (rlCp da (rl0 rs k)).a (rlCp da (rl0 rs k)).e (rlCp da (rl0 rs k)).b (rlCp da (rl0 rs k)).t (rlCp da (rl0 rs k)).p (rlCp da (rl0 rs k)).y
   simp only [rr, tt, Nat.zero_add,Nat.add_assoc,Nat.reduceAdd,Int.toNat_natCast,g0,g1,g2,g3,g4,g5,e5,e6,e7,e9,v1,u2] at hr
   refine ⟨_,_,.normal,_,3,fun l => Nat.blt l 74,id,hbase,hr,?_,.inl ⟨rfl,⟨k + 1,by omega⟩,by show rs.length - (k + 1) < rs.length - k; omega,rfl,rfl,?_⟩⟩
   ·have hv' : mV (rl0 rs k).off (rl0 rs k).size (rl0 rs k).perms = true:=by rw [hca] at hv; exact hv
    simp only [rr, tt, f1,f2,v1,v2,u1,u2,hca,mkCp,hcode,hv',hlt,Bool.and_self,cond_true,and_true,true_and,and_self,Nat.le_refl]
    refine ⟨?_,by omega,by omega,by omega,by omega,by omega⟩
    simp [hlt]
   ·refine ⟨fun _ _ => rfl,ar69W_seen lt74 _ _ N m n _ _ rfl rfl rfl rfl rfl rfl ⟨⟨rfl,flat_all (ly_flat c da ds sa ss ha hs),rfl,rfl,rfl,trivial,(flat_map (ly_flat c da ds sa ss ha hs)).symm⟩,⟨rfl,List.all_eq_true.2 (plQ_cell rfl rfl rfl _ _ _ _ _ _ _ _ _ _ _ _ _),rfl,rfl,rfl,trivial,(map_id3 _ rfl _).symm⟩,⟨rfl,flat_all (rels_flat rs),rfl,rfl,rfl,trivial,(flat_map (rels_flat rs)).symm⟩,trivial⟩,rfl,⟨⟨rfl,Nat.le_refl _⟩,⟨rfl,Nat.le_refl _⟩,trivial⟩,?_,Nat.le_refl _,fun l hl => blt_no hl,ldrF_ok _ _ N m n,fun x _ _ => .inl rfl⟩
    exact ⟨⟨by kernel_rfl,by kernel_rfl⟩,⟨by kernel_rfl,by kernel_rfl⟩,⟨by kernel_rfl,by kernel_rfl⟩,⟨by kernel_rfl,by kernel_rfl⟩,⟨by kernel_rfl,by kernel_rfl⟩,⟨by kernel_rfl,by kernel_rfl⟩,⟨by kernel_rfl,by kernel_rfl⟩,⟨by kernel_rfl,by kernel_rfl⟩,⟨by kernel_rfl,by kernel_rfl⟩,trivial⟩
 ·have hkk : k = rs.length:=by omega
  subst hkk
  have hr:=ldr_e p s t nc ns d rs c da ds sa ss ha hs (relZ da rs zs rs.length) (rlT da rs rs.length) N m n rs.length
  refine ⟨_,_,.exit 2,_,3,fun l => Nat.blt l 74,id,run_ok (L:=100) ar_names (noBase_ok _) (noLoop_ok _) 20,hr,?_,.inr ⟨by simp,rfl,?_⟩⟩
  ·exact ⟨trivial,decide_eq_false (by omega)⟩
  ·have hs:=ar69W_seen (l:=[]) lt74 (relZ da rs zs rs.length) (rlT da rs rs.length) N m n _ _ (by rfl) (by rfl) (by rfl) (by rfl) rfl rfl trivial (h1:=ar69W (relZ da rs zs rs.length) (rlT da rs rs.length) N m n ++ [(68,⟨false,none,lyCells c da ds sa ss ha hs,none⟩),(73,⟨false,none,plQ (p : Nat) (s : Nat) (t : Nat) nc ns d (some ⟨65,0,none⟩) rs.length (big + 65) (c : Nat) (da : Nat) (ds : Nat) (sa : Nat) (ss : Nat) (ha : Nat) (hs : Nat),none⟩),(65,⟨false,some (0,0),rels rs,none⟩)])
   rw [List.append_nil] at hs
   exact ⟨fun _ _ => rfl,hs,rfl,⟨⟨rfl,Nat.le_refl _⟩,⟨rfl,Nat.le_refl _⟩,trivial⟩,⟨⟨by kernel_rfl,by kernel_rfl⟩,⟨by kernel_rfl,by kernel_rfl⟩,⟨by kernel_rfl,by kernel_rfl⟩,⟨by kernel_rfl,by kernel_rfl⟩,⟨by kernel_rfl,by kernel_rfl⟩,⟨by kernel_rfl,by kernel_rfl⟩,trivial⟩,Nat.le_refl _,fun l hl => blt_no hl,ldrF_ok _ _ N m n,fun x _ _ => .inl rfl⟩
def ldrEnt (p s t : Nat) (nc ns : Nat) (d : List UInt8) (rs : List Rl) (c da ds sa ss ha hs : Nat) (zs : List UInt8) (N m n : Nat) (h : ArOk zs N m n) (hr : ∀ r ∈ rs,RlFit da N r) (hl : rs.length ≤ 256) (h3 : da < 500000) : Ent Try.prog :=
 entC Try.prog 12 1 92 (ldrI p s t nc ns d rs c da ds sa ss ha hs zs (fun _ => false) N m n 0) (.exit 2) (ldrF (relZ da rs zs rs.length) (rlT da rs rs.length) N m n) (by kernel_rfl) (by kernel_rfl) (ldr_loop p s t nc ns d rs c da ds sa ss ha hs zs N m n h hr hl h3 ⟨0,Nat.zero_le _⟩)
theorem v64_z64 (n : Nat) : v64 (wordsB (fun _ => false) n) = z64 n:=by
 unfold v64 z64 wordsB
 rw [List.map_map]
 have h0 : ∀ k : Nat,bn (fun _ => false) k = 0:=fun k => by induction k with
  | zero => rfl
  | succ k ih => simp [bn,ih]
 simp only [rr, tt, Function.comp_def,h0,List.map_const',List.length_range]
 rfl
end Go.Proofs.Ytliidiceljdgmaa
namespace Go.Proofs.Ytliidiceljdgmaa
open Go.RowKit
open Sy
set_option maxRecDepth 100000
def lyOkC (p s t : Int) (nc : Nat) (d : List UInt8) (so : List Nat) (c da ds sa ss ha hs : Nat) : Con:={ imCZ p s t nc d [] so (.tuple ⟨[.agg ⟨lyCells c da ds sa ss ha hs⟩,.int .i64 0]⟩) with h':=[] }
end Go.Proofs.Ytliidiceljdgmaa
namespace Go.Proofs.Ytliidiceljdgmaa
open Go.RowKit
open Sy
set_option maxRecDepth 100000
def frL (c da ds sa s t : Nat) (so : List Nat) : Nat → List Value
 | 0 => []
 | j + 1 => frL c da ds sa s t so j ++ frC c da ds sa s t so j
theorem frL_flat (c da ds sa s t : Nat) (so : List Nat) : ∀ j,(frL c da ds sa s t so j).all flat0 = true
 | 0 => rfl
 | j + 1 => by unfold frL; rw [List.all_append,frL_flat c da ds sa s t so j,frC_flat]; rfl
structure LdOk (p s t : Nat) (cs : List Nat) (d : List UInt8) (so : List Nat) (c da ds sa ss ha hs : Nat) : Prop where
 p1 : 16 ≤ p
 p2 : p ≤ 1024
 s2 : s ≤ 4096
 t2 : t ≤ 2048
 n1 : cs.length ≤ 4096
 hso : ∀ x ∈ so,x < 4096
 hcs : ∀ x ∈ cs,x < 4294967296
 hc : 4 * cs.length ≤ c
 hda : da = c
 hds : d.length ≤ ds
 hsa : sa = c + ds
 fit : sa < p * 256
 lay : ConOk Try.prog 16 3 (lyOkC (p : Nat) (s : Nat) (t : Nat) cs.length d so c da ds sa ss ha hs)
end Go.Proofs.Ytliidiceljdgmaa
namespace Go.Proofs.Ytliidiceljdgmaa
open Go.RowKit
open Sy
set_option maxRecDepth 100000
def genJ (p s t : Nat) (d : List UInt8) (a2 : Option Addr) (nc n2 ns c2 : Nat) : Value:=genI (p : Nat) (s : Nat) (t : Nat) d (some ⟨64,0,none⟩) a2 (some ⟨66,0,none⟩) nc n2 ns (big + 64) c2 (big + 66)
def layG (v : Value) (hs : Sy.Heap) (c da ds sa ss ha hs' : Nat) : Con:=⟨[v],67,hs,[],.tuple ⟨[.agg ⟨[.int .u32 0,.int .u32 (c : Nat),.int .u32 (da : Nat),.int .u32 (ds : Nat),.int .u32 (sa : Nat),.int .u32 (ss : Nat),.int .u32 (ha : Nat),.int .u32 (hs' : Nat)]⟩,.int .i64 0]⟩,67,[],[]⟩
def btH (rs : List Rl) (so : List Nat) : Sy.Heap:=[(65,⟨false,some (0,0),rels rs,none⟩),(66,⟨false,some (0,0),u32s so,none⟩)]
def btHY (so : List Nat) : Sy.Heap:=[(66,⟨false,some (0,0),u32s so,none⟩)]
def layEH (v : Value) (hs : Sy.Heap) (e : Int) : Con:={ layEC v e with h:=hs }
def selStepsT (L : Sy.Steps) : SelT:=fun f _ s => (stepAt s.n f L).map fun x => (x.1,x.2,0,True)
theorem selStepsT_ok {P : Program} {d : Nat} {L : Sy.Steps} (h : ∀ x ∈ L,ConOk P x.2.1 d x.2.2.1 ∧ InId d x.2.2.1) : SelTOk P d (selStepsT L):=by
 intro f args s c ρ m q hs _
 unfold selStepsT at hs
 obtain ⟨⟨c',ρ'⟩,h1,h2⟩:=oM hs
 cases h2
 exact h _ (stepAt_mem h1)
def btL (v : Value) (hh : Sy.Heap) (t : Nat) (c da ds sa ss ha hs : Nat) (l1 l2 l3 : List Cp) : Sy.Steps :=
 [(68,16,layG v hh c da ds sa ss ha hs,[64,65,66]),(77,24,adC0 (mkCp 0 c 5 0),[70]),(84,24,adC (decide ((0 : Int) < (ds : Int))) (mkCp da ds 27 0) [mkCp 0 c 5 0] l1,[70,77]),(92,24,adC (decide ((0 : Int) < (t : Int))) (mkCp 1 t 96 0) l2 l3,[70,85])]
theorem bt_f (p s t nc : Nat) (d : List UInt8) (rs : List Rl) (so : List Nat) (c da ds sa ss ha hs : Nat) (l1 l2 l3 l4 : List Cp) (h1 : so.length ≤ 4) (h2 : s ≤ 4096) (h3 : sa < 500000) (h4 : l1.length ≤ 1000) (hl : l2 = l1 ++ stL sa s so.length) (hv : okV (fun l => l.blt 85) 3 (Value.slice (some ⟨65,0,none⟩) rs.length (big + 65)) = true) (hv1 : ∀ (σ : Nat → Nat),(∀ (l : Nat),l < 67 → σ l = l) → rnV σ 3 (Value.slice (some ⟨65,0,none⟩) rs.length (big + 65)) = Value.slice (some ⟨65,0,none⟩) rs.length (big + 65)) (hw : ∀ (q : Nat → Bool),(∀ (l : Nat),l < 85 → q l = true) → okV q 3 (Value.slice (some ⟨65,0,none⟩) rs.length (big + 65)) = true) (k1 : rs.length ≤ 256) (k2 : ∀ (r : Rl),r ∈ rs → RlOk r) (k3 : da < 500000) (k4 : l3.length ≤ 1000) (kl : l4 = l3 ++ rlL da rs rs.length) : evF Try.prog (baseF 3 (selSteps (btL (genJ p s t d (some ⟨65,0,none⟩) nc rs.length so.length (big+65)) (btH rs so) t c da ds sa ss ha hs l1 l2 l3)) (baseC 3 selMk)) (lpEsc [btsEnt p s t nc so.length d hv hv1 hw c da ds sa ss ha hs l1 l2 h1 h2 h3 h4 hl,btrEnt p s t nc so.length d rs c da ds sa ss ha hs l3 l4 k1 k2 k3 k4 kl]) 100 20 8 [genJ p s t d (some ⟨65,0,none⟩) nc rs.length so.length (big+65)] ⟨67,btH rs so,[],0,[],0,True⟩ = some (Value.tuple { toList:=[Value.slice (some ⟨93,0,none⟩) l4.length 9223372036854775901,.int .i64 0] },{ n:=94,h:=[(70,⟨true,none,[Value.slice (some ⟨93,0,none⟩) l4.length 9223372036854775901],none⟩),(93,⟨true,some (93,8),cpL l4,none⟩),(69,⟨true,none,[Value.int .i64 (↑p),.int .i64 (↑s),.int .i64 (↑t),.slice (some ⟨64,0,none⟩) nc 9223372036854775872,.string ⟨⟨d⟩⟩,.slice (some ⟨65,0,none⟩) rs.length 9223372036854775873,.slice (some ⟨66,0,none⟩) so.length 9223372036854775874,.int .u32 0,.int .u32 (↑c),.int .u32 (↑da),.int .u32 (↑ds),.int .u32 (↑sa),.int .u32 (↑ss),.int .u32 (↑ha),.int .u32 (↑hs)],none⟩),(65,⟨false,some (0,0),rels rs,none⟩),(66,⟨false,some (0,0),u32s so,none⟩),(68,⟨true,none,[Value.int .u32 0,.int .u32 (↑c),.int .u32 (↑da),.int .u32 (↑ds),.int .u32 (↑sa),.int .u32 (↑ss),.int .u32 (↑ha),.int .u32 (↑hs)],none⟩),(67,⟨true,none,[Value.int .i64 (↑p),.int .i64 (↑s),.int .i64 (↑t),.slice (some ⟨64,0,none⟩) nc 9223372036854775872,.string ⟨⟨d⟩⟩,.slice (some ⟨65,0,none⟩) rs.length 9223372036854775873,.slice (some ⟨66,0,none⟩) so.length 9223372036854775874],none⟩)],lo:=[(93,l4.length),(92,l3.length),(85,l2.length),(84,l1.length),(77,1)],esc:=0,T:=[],k:=0,O:=((((((((True∧True∧(rr (Value.agg ⟨[.int .i64 (↑p),.int .i64 (↑s),.int .i64 (↑t),.slice (some ⟨64,0,none⟩) nc 9223372036854775872,.string ⟨⟨d⟩⟩,.slice (some ⟨65,0,none⟩) rs.length 9223372036854775873,.slice (some ⟨66,0,none⟩) so.length 9223372036854775874]⟩)∧True)∧((tt∧(rels rs).all (okV (fun l => l.blt 67) 3) = true∧tt∧tt∧tt∧True∧rels rs = List.map (rnV (lift 67 68 [64,65,66]) 3) (rels rs))∧(tt∧(u32s so).all (okV (fun l => l.blt 67) 3) = true∧tt∧tt∧tt∧True∧u32s so = List.map (rnV (lift 67 68 [64,65,66]) 3) (u32s so))∧True)∧True)∧((0:Int) ≤ (0:Int)∧(0:Int) < (4294967296:Int)∧(0:Int) ≤ (↑c:Int)∧(↑c:Int) < (4294967296:Int)∧(0:Int) ≤ (5:Int))∧(rr (Value.agg ⟨[.int .u32 0,.int .u32 (↑c)]⟩)∧rr (Value.int .u16 5)∧True)∧True∧True)∧True∧(rr (Value.bool true)∧Value.agg ⟨[.int .u32 (↑(mA 0 (↑c:Int).toNat 5):Int),.int .u8 (↑(mE 0 (↑c:Int).toNat 5):Int),.int .u16 (↑(mB 0 (↑c:Int).toNat 5):Int),.int .u16 (↑(mT 0 (↑c:Int).toNat 5):Int),.int .u16 (↑(mP 0 (↑c:Int).toNat 5):Int),.int .u16 0,.int .u32 0,.bool (mV 0 (↑c:Int).toNat 5)]⟩ = Value.agg ⟨[.int .u32 (↑(mA 0 c 5)),.int .u8 (↑(mE 0 c 5)),.int .u16 (↑(mB 0 c 5)),.int .u16 (↑(mT 0 c 5)),.int .u16 (↑(mP 0 c 5)),.int .u16 0,.int .u32 0,.bool (mV 0 c 5)]⟩∧rr (Value.pointer (some ⟨70,0,none⟩))∧True)∧((tt∧tt∧tt∧tt∧tt∧True∧rr [Value.slice none 0 0])∧True)∧True)∧((0:Int) ≤ (↑da:Int)∧(↑da:Int) < (4294967296:Int)∧(0:Int) ≤ (↑ds:Int)∧(↑ds:Int) < (4294967296:Int)∧(0:Int) ≤ (27:Int))∧(rr (Value.agg ⟨[.int .u32 (↑da),.int .u32 (↑ds)]⟩)∧rr (Value.int .u16 27)∧True)∧True∧True)∧True∧(Value.bool (decide ((↑ds:Int) > (0:Int))) = Value.bool (decide ((0:Int) < (↑ds:Int)))∧Value.agg ⟨[.int .u32 (↑(mA (↑da:Int).toNat (↑ds:Int).toNat 27):Int),.int .u8 (↑(mE (↑da:Int).toNat (↑ds:Int).toNat 27):Int),.int .u16 (↑(mB (↑da:Int).toNat (↑ds:Int).toNat 27):Int),.int .u16 (↑(mT (↑da:Int).toNat (↑ds:Int).toNat 27):Int),.int .u16 (↑(mP (↑da:Int).toNat (↑ds:Int).toNat 27):Int),.int .u16 0,.int .u32 0,.bool (mV (↑da:Int).toNat (↑ds:Int).toNat 27)]⟩ = Value.agg ⟨[.int .u32 (↑(mA da ds 27)),.int .u8 (↑(mE da ds 27)),.int .u16 (↑(mB da ds 27)),.int .u16 (↑(mT da ds 27)),.int .u16 (↑(mP da ds 27)),.int .u16 0,.int .u32 0,.bool (mV da ds 27)]⟩∧rr (Value.pointer (some ⟨70,0,none⟩))∧True)∧((tt∧tt∧tt∧tt∧tt∧True∧rr [Value.slice (some ⟨77,0,none⟩) 1 9223372036854775885])∧(tt∧tt∧tt∧tt∧tt∧True∧rr [Value.int .u32 (↑(mA 0 c 5)),.int .u8 (↑(mE 0 c 5)),.int .u16 (↑(mB 0 c 5)),.int .u16 (↑(mT 0 c 5)),.int .u16 (↑(mP 0 c 5)),.int .u16 0,.int .u32 0,.bool (mV 0 c 5)])∧True)∧(tt∧1 ≤ 1)∧True)∧(rr (Value.pointer (some ⟨67,0,none⟩))∧rr (Value.slice none 0 0)∧rr (Value.int .i64 0)∧rr (Value.pointer (some ⟨68,0,none⟩))∧rr (Value.int .i64 0)∧rr (Value.pointer (some ⟨69,0,none⟩))∧rr (Value.pointer (some ⟨70,0,none⟩))∧rr (Value.func (Fn.func 24) { toList:=[] } { toList:=[Value.pointer (some ⟨70,0,none⟩)] })∧rr (Value.int .i64 (↑so.length))∧rr (Value.int .i64 0)∧True)∧((tt∧tt∧True∧rr [Value.slice (some ⟨84,0,none⟩) l1.length 9223372036854775892])∧(tt∧tt∧True∧rr (cpL l1))∧(tt∧tt∧True∧rr [Value.int .i64 (↑p),.int .i64 (↑s),.int .i64 (↑t),.slice (some ⟨64,0,none⟩) nc 9223372036854775872,.string ⟨⟨d⟩⟩,.slice (some ⟨65,0,none⟩) rs.length 9223372036854775873,.slice (some ⟨66,0,none⟩) so.length 9223372036854775874,.int .u32 0,.int .u32 (↑c),.int .u32 (↑da),.int .u32 (↑ds),.int .u32 (↑sa),.int .u32 (↑ss),.int .u32 (↑ha),.int .u32 (↑hs)])∧True)∧(l1.length ≤ l1.length∧True)∧True)∧((0:Int) ≤ (1:Int)∧(1:Int) < (4294967296:Int)∧(0:Int) ≤ IntKind.u32.wrap (↑t)∧IntKind.u32.wrap (↑t) < (4294967296:Int)∧(0:Int) ≤ (96:Int))∧(rr (Value.agg ⟨[.int .u32 1,.int .u32 (IntKind.u32.wrap (↑t))]⟩)∧rr (Value.int .u16 96)∧True)∧True∧True)∧True∧(Value.bool (decide ((↑t:Int) > (0:Int))) = Value.bool (decide ((0:Int) < (↑t:Int)))∧Value.agg ⟨[.int .u32 (↑(mA 1 (IntKind.u32.wrap (↑t)).toNat 96):Int),.int .u8 (↑(mE 1 (IntKind.u32.wrap (↑t)).toNat 96):Int),.int .u16 (↑(mB 1 (IntKind.u32.wrap (↑t)).toNat 96):Int),.int .u16 (↑(mT 1 (IntKind.u32.wrap (↑t)).toNat 96):Int),.int .u16 (↑(mP 1 (IntKind.u32.wrap (↑t)).toNat 96):Int),.int .u16 0,.int .u32 0,.bool (mV 1 (IntKind.u32.wrap (↑t)).toNat 96)]⟩ = Value.agg ⟨[.int .u32 (↑(mA 1 t 96)),.int .u8 (↑(mE 1 t 96)),.int .u16 (↑(mB 1 t 96)),.int .u16 (↑(mT 1 t 96)),.int .u16 (↑(mP 1 t 96)),.int .u16 0,.int .u32 0,.bool (mV 1 t 96)]⟩∧rr (Value.pointer (some ⟨70,0,none⟩))∧True)∧((tt∧tt∧tt∧tt∧tt∧True∧rr [Value.slice (some ⟨85,0,none⟩) l2.length 9223372036854775893])∧(tt∧(cpL l2).all (okV (fun l => l.blt 66) 3) = true∧tt∧tt∧tt∧True∧cpL l2 = List.map (rnV (lift 66 92 [70,85]) 3) (cpL l2))∧True)∧(tt∧l2.length ≤ l2.length)∧True)∧(rr (Value.pointer (some ⟨67,0,none⟩))∧rr (Value.slice none 0 0)∧rr (Value.int .i64 0)∧rr (Value.pointer (some ⟨68,0,none⟩))∧rr (Value.int .i64 0)∧rr (Value.pointer (some ⟨69,0,none⟩))∧rr (Value.pointer (some ⟨70,0,none⟩))∧rr (Value.func (Fn.func 24) { toList:=[] } { toList:=[Value.pointer (some ⟨70,0,none⟩)] })∧rr (Value.slice (some ⟨65,0,none⟩) rs.length 9223372036854775873)∧rr (Value.int .i64 (↑rs.length))∧rr (Value.int .i64 0)∧True)∧((tt∧tt∧True∧rr [Value.slice (some ⟨92,0,none⟩) l3.length 9223372036854775900])∧(tt∧tt∧True∧rr (cpL l3))∧(tt∧tt∧True∧rr [Value.int .i64 (↑p),.int .i64 (↑s),.int .i64 (↑t),.slice (some ⟨64,0,none⟩) nc 9223372036854775872,.string ⟨⟨d⟩⟩,.slice (some ⟨65,0,none⟩) rs.length 9223372036854775873,.slice (some ⟨66,0,none⟩) so.length 9223372036854775874,.int .u32 0,.int .u32 (↑c),.int .u32 (↑da),.int .u32 (↑ds),.int .u32 (↑sa),.int .u32 (↑ss),.int .u32 (↑ha),.int .u32 (↑hs)])∧(tt∧tt∧True∧rr (rels rs))∧True)∧(l3.length ≤ l3.length∧True)∧True : St }):=by kernel_rfl
theorem bt_y (p s t nc : Nat) (d : List UInt8) (a2 : Option Addr) (c2 : Nat) (so : List Nat) (c da ds sa ss ha hs : Nat) (l1 l2 l3 : List Cp) (h1 : so.length ≤ 4) (h2 : s ≤ 4096) (h3 : sa < 500000) (h4 : l1.length ≤ 1000) (hl : l2 = l1 ++ stL sa s so.length) (hv : okV (fun l => l.blt 85) 3 (Value.slice a2 0 c2) = true) (hv1 : ∀ (σ : Nat → Nat),(∀ (l : Nat),l < 67 → σ l = l) → rnV σ 3 (Value.slice a2 0 c2) = Value.slice a2 0 c2) (hw : ∀ (q : Nat → Bool),(∀ (l : Nat),l < 85 → q l = true) → okV q 3 (Value.slice a2 0 c2) = true) : evF Try.prog (baseF 3 (selSteps (btL (genJ p s t d a2 nc 0 so.length c2) (btHY so) t c da ds sa ss ha hs l1 l2 l3)) (baseC 3 selMk)) (lpEsc [btsEnt p s t nc so.length d hv hv1 hw c da ds sa ss ha hs l1 l2 h1 h2 h3 h4 hl]) 100 20 8 [genJ p s t d a2 nc 0 so.length c2] ⟨67,btHY so,[],0,[],0,True⟩ = some (Value.tuple { toList:=[Value.slice (some ⟨92,0,none⟩) l3.length 9223372036854775900,.int .i64 0] },{ n:=93,h:=[(70,⟨true,none,[Value.slice (some ⟨92,0,none⟩) l3.length 9223372036854775900],none⟩),(92,⟨true,some (92,8),cpL l3,none⟩),(69,⟨true,none,[Value.int .i64 (↑p),.int .i64 (↑s),.int .i64 (↑t),.slice (some ⟨64,0,none⟩) nc 9223372036854775872,.string ⟨⟨d⟩⟩,.slice a2 0 c2,.slice (some ⟨66,0,none⟩) so.length 9223372036854775874,.int .u32 0,.int .u32 (↑c),.int .u32 (↑da),.int .u32 (↑ds),.int .u32 (↑sa),.int .u32 (↑ss),.int .u32 (↑ha),.int .u32 (↑hs)],none⟩),(66,⟨false,some (0,0),u32s so,none⟩),(68,⟨true,none,[Value.int .u32 0,.int .u32 (↑c),.int .u32 (↑da),.int .u32 (↑ds),.int .u32 (↑sa),.int .u32 (↑ss),.int .u32 (↑ha),.int .u32 (↑hs)],none⟩),(67,⟨true,none,[Value.int .i64 (↑p),.int .i64 (↑s),.int .i64 (↑t),.slice (some ⟨64,0,none⟩) nc 9223372036854775872,.string ⟨⟨d⟩⟩,.slice a2 0 c2,.slice (some ⟨66,0,none⟩) so.length 9223372036854775874],none⟩)],lo:=[(92,l3.length),(85,l2.length),(84,l1.length),(77,1)],esc:=0,T:=[],k:=0,O:=(((((((True∧True∧(Value.agg ⟨[.int .i64 (↑p),.int .i64 (↑s),.int .i64 (↑t),.slice (some ⟨64,0,none⟩) nc 9223372036854775872,.string ⟨⟨d⟩⟩,.slice a2 0 c2,.slice (some ⟨66,0,none⟩) so.length 9223372036854775874]⟩ = Value.agg ⟨[.int .i64 (↑p),.int .i64 (↑s),.int .i64 (↑t),.slice (some ⟨64,0,none⟩) nc 9223372036854775872,.string ⟨⟨d⟩⟩,.slice (Option.map (rnA (lift 67 68 [64,65,66])) a2) 0 (rnC (lift 67 68 [64,65,66]) c2),.slice (some ⟨66,0,none⟩) so.length 9223372036854775874]⟩∧True)∧((tt∧(u32s so).all (okV (fun l => l.blt 67) 3) = true∧tt∧tt∧tt∧True∧u32s so = List.map (rnV (lift 67 68 [64,65,66]) 3) (u32s so))∧True)∧True)∧((0:Int) ≤ (0:Int)∧(0:Int) < (4294967296:Int)∧(0:Int) ≤ (↑c:Int)∧(↑c:Int) < (4294967296:Int)∧(0:Int) ≤ (5:Int))∧(rr (Value.agg ⟨[.int .u32 0,.int .u32 (↑c)]⟩)∧rr (Value.int .u16 5)∧True)∧True∧True)∧True∧(rr (Value.bool true)∧Value.agg ⟨[.int .u32 (↑(mA 0 (↑c:Int).toNat 5):Int),.int .u8 (↑(mE 0 (↑c:Int).toNat 5):Int),.int .u16 (↑(mB 0 (↑c:Int).toNat 5):Int),.int .u16 (↑(mT 0 (↑c:Int).toNat 5):Int),.int .u16 (↑(mP 0 (↑c:Int).toNat 5):Int),.int .u16 0,.int .u32 0,.bool (mV 0 (↑c:Int).toNat 5)]⟩ = Value.agg ⟨[.int .u32 (↑(mA 0 c 5)),.int .u8 (↑(mE 0 c 5)),.int .u16 (↑(mB 0 c 5)),.int .u16 (↑(mT 0 c 5)),.int .u16 (↑(mP 0 c 5)),.int .u16 0,.int .u32 0,.bool (mV 0 c 5)]⟩∧rr (Value.pointer (some ⟨70,0,none⟩))∧True)∧((tt∧tt∧tt∧tt∧tt∧True∧rr [Value.slice none 0 0])∧True)∧True)∧((0:Int) ≤ (↑da:Int)∧(↑da:Int) < (4294967296:Int)∧(0:Int) ≤ (↑ds:Int)∧(↑ds:Int) < (4294967296:Int)∧(0:Int) ≤ (27:Int))∧(rr (Value.agg ⟨[.int .u32 (↑da),.int .u32 (↑ds)]⟩)∧rr (Value.int .u16 27)∧True)∧True∧True)∧True∧(Value.bool (decide ((↑ds:Int) > (0:Int))) = Value.bool (decide ((0:Int) < (↑ds:Int)))∧Value.agg ⟨[.int .u32 (↑(mA (↑da:Int).toNat (↑ds:Int).toNat 27):Int),.int .u8 (↑(mE (↑da:Int).toNat (↑ds:Int).toNat 27):Int),.int .u16 (↑(mB (↑da:Int).toNat (↑ds:Int).toNat 27):Int),.int .u16 (↑(mT (↑da:Int).toNat (↑ds:Int).toNat 27):Int),.int .u16 (↑(mP (↑da:Int).toNat (↑ds:Int).toNat 27):Int),.int .u16 0,.int .u32 0,.bool (mV (↑da:Int).toNat (↑ds:Int).toNat 27)]⟩ = Value.agg ⟨[.int .u32 (↑(mA da ds 27)),.int .u8 (↑(mE da ds 27)),.int .u16 (↑(mB da ds 27)),.int .u16 (↑(mT da ds 27)),.int .u16 (↑(mP da ds 27)),.int .u16 0,.int .u32 0,.bool (mV da ds 27)]⟩∧rr (Value.pointer (some ⟨70,0,none⟩))∧True)∧((tt∧tt∧tt∧tt∧tt∧True∧rr [Value.slice (some ⟨77,0,none⟩) 1 9223372036854775885])∧(tt∧tt∧tt∧tt∧tt∧True∧rr [Value.int .u32 (↑(mA 0 c 5)),.int .u8 (↑(mE 0 c 5)),.int .u16 (↑(mB 0 c 5)),.int .u16 (↑(mT 0 c 5)),.int .u16 (↑(mP 0 c 5)),.int .u16 0,.int .u32 0,.bool (mV 0 c 5)])∧True)∧(tt∧1 ≤ 1)∧True)∧(rr (Value.pointer (some ⟨67,0,none⟩))∧rr (Value.slice none 0 0)∧rr (Value.int .i64 0)∧rr (Value.pointer (some ⟨68,0,none⟩))∧rr (Value.int .i64 0)∧rr (Value.pointer (some ⟨69,0,none⟩))∧rr (Value.pointer (some ⟨70,0,none⟩))∧rr (Value.func (Fn.func 24) { toList:=[] } { toList:=[Value.pointer (some ⟨70,0,none⟩)] })∧rr (Value.int .i64 (↑so.length))∧rr (Value.int .i64 0)∧True)∧((tt∧tt∧True∧rr [Value.slice (some ⟨84,0,none⟩) l1.length 9223372036854775892])∧(tt∧tt∧True∧rr (cpL l1))∧(tt∧tt∧True∧rr [Value.int .i64 (↑p),.int .i64 (↑s),.int .i64 (↑t),.slice (some ⟨64,0,none⟩) nc 9223372036854775872,.string ⟨⟨d⟩⟩,.slice a2 0 c2,.slice (some ⟨66,0,none⟩) so.length 9223372036854775874,.int .u32 0,.int .u32 (↑c),.int .u32 (↑da),.int .u32 (↑ds),.int .u32 (↑sa),.int .u32 (↑ss),.int .u32 (↑ha),.int .u32 (↑hs)])∧True)∧(l1.length ≤ l1.length∧True)∧True)∧((0:Int) ≤ (1:Int)∧(1:Int) < (4294967296:Int)∧(0:Int) ≤ IntKind.u32.wrap (↑t)∧IntKind.u32.wrap (↑t) < (4294967296:Int)∧(0:Int) ≤ (96:Int))∧(rr (Value.agg ⟨[.int .u32 1,.int .u32 (IntKind.u32.wrap (↑t))]⟩)∧rr (Value.int .u16 96)∧True)∧True∧True)∧True∧(Value.bool (decide ((↑t:Int) > (0:Int))) = Value.bool (decide ((0:Int) < (↑t:Int)))∧Value.agg ⟨[.int .u32 (↑(mA 1 (IntKind.u32.wrap (↑t)).toNat 96):Int),.int .u8 (↑(mE 1 (IntKind.u32.wrap (↑t)).toNat 96):Int),.int .u16 (↑(mB 1 (IntKind.u32.wrap (↑t)).toNat 96):Int),.int .u16 (↑(mT 1 (IntKind.u32.wrap (↑t)).toNat 96):Int),.int .u16 (↑(mP 1 (IntKind.u32.wrap (↑t)).toNat 96):Int),.int .u16 0,.int .u32 0,.bool (mV 1 (IntKind.u32.wrap (↑t)).toNat 96)]⟩ = Value.agg ⟨[.int .u32 (↑(mA 1 t 96)),.int .u8 (↑(mE 1 t 96)),.int .u16 (↑(mB 1 t 96)),.int .u16 (↑(mT 1 t 96)),.int .u16 (↑(mP 1 t 96)),.int .u16 0,.int .u32 0,.bool (mV 1 t 96)]⟩∧rr (Value.pointer (some ⟨70,0,none⟩))∧True)∧((tt∧tt∧tt∧tt∧tt∧True∧rr [Value.slice (some ⟨85,0,none⟩) l2.length 9223372036854775893])∧(tt∧(cpL l2).all (okV (fun l => l.blt 66) 3) = true∧tt∧tt∧tt∧True∧cpL l2 = List.map (rnV (lift 66 92 [70,85]) 3) (cpL l2))∧True)∧(tt∧l2.length ≤ l2.length)∧True : St }):=by kernel_rfl
theorem bt_e (p s t e : Int) (d : List UInt8) (a1 a2 a3 : Option Addr) (n1 n2 n3 c1 c2 c3 : Nat) (hh : Heap) : obs (evF Try.prog (baseT 3 (selStepsT [(68,16,layEH (genI p s t d a1 a2 a3 n1 n2 n3 c1 c2 c3) hh e,[64,65,66])]) noBase) noLoop 100 20 8 [genI p s t d a1 a2 a3 n1 n2 n3 c1 c2 c3] ⟨67,hh,[],0,[(0,true)],0,True⟩) = some (Value.tuple { toList:=[Value.slice none 0 0,.int .i64 e] },(True∧True∧rr [Value.agg ⟨[.int .i64 p,.int .i64 s,.int .i64 t,.slice a1 n1 c1,.string ⟨⟨d⟩⟩,.slice a2 n2 c2,.slice a3 n3 c3]⟩]∧hh = []∧True)∧(e != (0:Int)) = true):=by kernel_rfl
theorem bt_ef (p s t e : Int) (d : List UInt8) (nc : Nat) (rs : List Rl) (so : List Nat) : obs (evF Try.prog (baseF 3 (selSteps [(68,16,layEH (genI p s t d (some ⟨64,0,none⟩) (some ⟨65,0,none⟩) (some ⟨66,0,none⟩) nc rs.length so.length (big+64) (big+65) (big+66)) (btH rs so) e,[64,65,66])]) noBase) noLoop 100 20 8 [genI p s t d (some ⟨64,0,none⟩) (some ⟨65,0,none⟩) (some ⟨66,0,none⟩) nc rs.length so.length (big+64) (big+65) (big+66)] ⟨67,btH rs so,[],0,[(0,true)],0,True⟩) = some (Value.tuple { toList:=[Value.slice none 0 0,.int .i64 e] },(True∧True∧(rr (Value.agg ⟨[.int .i64 p,.int .i64 s,.int .i64 t,.slice (some ⟨64,0,none⟩) nc 9223372036854775872,.string ⟨⟨d⟩⟩,.slice (some ⟨65,0,none⟩) rs.length 9223372036854775873,.slice (some ⟨66,0,none⟩) so.length 9223372036854775874]⟩)∧True)∧((tt∧(rels rs).all (okV (fun l => l.blt 67) 3) = true∧tt∧tt∧tt∧True∧rels rs = List.map (rnV (lift 67 68 [64,65,66]) 3) (rels rs))∧(tt∧(u32s so).all (okV (fun l => l.blt 67) 3) = true∧tt∧tt∧tt∧True∧u32s so = List.map (rnV (lift 67 68 [64,65,66]) 3) (u32s so))∧True)∧True)∧(e != (0:Int)) = true):=by kernel_rfl
theorem bt_ey (p s t e : Int) (d : List UInt8) (a2 : Option Addr) (c2 nc : Nat) (so : List Nat) : obs (evF Try.prog (baseF 3 (selSteps [(68,16,layEH (genI p s t d (some ⟨64,0,none⟩) a2 (some ⟨66,0,none⟩) nc 0 so.length (big+64) c2 (big+66)) (btHY so) e,[64,65,66])]) noBase) noLoop 100 20 8 [genI p s t d (some ⟨64,0,none⟩) a2 (some ⟨66,0,none⟩) nc 0 so.length (big+64) c2 (big+66)] ⟨67,btHY so,[],0,[(0,true)],0,True⟩) = some (Value.tuple { toList:=[Value.slice none 0 0,.int .i64 e] },(True∧True∧(Value.agg ⟨[.int .i64 p,.int .i64 s,.int .i64 t,.slice (some ⟨64,0,none⟩) nc 9223372036854775872,.string ⟨⟨d⟩⟩,.slice a2 0 c2,.slice (some ⟨66,0,none⟩) so.length 9223372036854775874]⟩ = Value.agg ⟨[.int .i64 p,.int .i64 s,.int .i64 t,.slice (some ⟨64,0,none⟩) nc 9223372036854775872,.string ⟨⟨d⟩⟩,.slice (Option.map (rnA (lift 67 68 [64,65,66])) a2) 0 (rnC (lift 67 68 [64,65,66]) c2),.slice (some ⟨66,0,none⟩) so.length 9223372036854775874]⟩∧True)∧((tt∧(u32s so).all (okV (fun l => l.blt 67) 3) = true∧tt∧tt∧tt∧True∧u32s so = List.map (rnV (lift 67 68 [64,65,66]) 3) (u32s so))∧True)∧True)∧(e != (0:Int)) = true):=by kernel_rfl
end Go.Proofs.Ytliidiceljdgmaa
namespace Go.Proofs.Ytliidiceljdgmaa
open Go.RowKit
open Sy
set_option maxRecDepth 100000
def lqH (cs : List Nat) (rs : List Rl) (so : List Nat) : Sy.Heap:=(64,⟨false,some (0,0),u32s cs,none⟩) :: btH rs so
def lqHY (cs : List Nat) (so : List Nat) : Sy.Heap:=(64,⟨false,some (0,0),u32s cs,none⟩) :: btHY so
end Go.Proofs.Ytliidiceljdgmaa
namespace Go.Proofs.Ytliidiceljdgmaa
open Go.RowKit
open Sy
section
variable {P : Program} {call : CallK} {f : FuncId} {d : Nat}
end
def EmOk (a2 : Option Addr) (c2 : Nat) : Prop:=∀ (q : Nat → Bool) (d : Nat),(∀ l,l < 67 → q l = true) → okV q d (.slice a2 0 c2) = true
def imgVY (a2 : Option Addr) (c2 : Nat) (pages stack types : Int) (nc nr ns : Nat) (data : List UInt8) : Value :=
 .agg ⟨[.int .i64 pages,.int .i64 stack,.int .i64 types,.slice (some ⟨64,0,none⟩) nc (big + 64),.string ⟨⟨data⟩⟩,.slice a2 0 c2,.slice (some ⟨66,0,none⟩) ns (big + 66)]⟩
def laySY (a2 : Option Addr) (c2 : Nat) (rs : List Rl) (starts : List Nat) (T : List (Nat × Bool)) : St:=⟨67,[(66,⟨false,some (0,0),u32s starts,none⟩)],[],0,T,0,True⟩
def imgLY (a2 : Option Addr) (c2 : Nat) (pages stack types : Int) (nc nr ns : Nat) (data : List UInt8) : List Value :=
 [.int .i64 pages,.int .i64 stack,.int .i64 types,.slice (some ⟨64,0,none⟩) nc (big + 64),.string ⟨⟨data⟩⟩,.slice a2 0 c2,.slice (some ⟨66,0,none⟩) ns (big + 66)]
theorem imgLY_ok {a2 : Option Addr} {c2 : Nat} (em : EmOk a2 c2) {q : Nat → Bool} (h : ∀ l,l < 67 → q l = true) (d : Nat) (pages stack types : Int) (nc nr ns : Nat) (data : List UInt8) : (imgLY a2 c2 pages stack types nc nr ns data).all (okV q d) = true:=by
 have h4:=h 64 (by omega)
 have h6:=h 66 (by omega)
 have hm:=em q d h
 simp only [rr, tt, imgLY,List.all_cons,List.all_nil,hm,Bool.and_true,Bool.true_and]
 cases d <;> simp [okV,bndA,h4,h6,flat0,big]
theorem imgVY_ok {a2 : Option Addr} {c2 : Nat} (em : EmOk a2 c2) {q : Nat → Bool} (h : ∀ l,l < 67 → q l = true) (pages stack types : Int) (nc nr ns : Nat) (data : List UInt8) : [imgVY a2 c2 pages stack types nc ns ns data].all (okV q 3) = true:=by
 have:=imgLY_ok em h 2 pages stack types nc nr ns data
 show (okV q 3 (imgVY a2 c2 pages stack types nc ns ns data) && true) = true
 rw [Bool.and_true]
 exact this
theorem em_rn {a2 : Option Addr} {c2 : Nat} (em : EmOk a2 c2) (n : Nat) : Value.slice (a2.map (rnA (lift 67 n [64,65,66]))) 0 (rnC (lift 67 n [64,65,66]) c2) = .slice a2 0 c2 :=
 rnV_on (p:=fun l => Nat.blt l 67) (σ:=lift 67 n [64,65,66]) (fun l hl => lift_ids (n:=67) (N:=n) (ρ:=[64,65,66]) rfl rfl (by simpa using hl)) 0 (.slice a2 0 c2) (em _ 0 fun l hl => blt_yes hl)
theorem lt67 : ∀ l,l < 67 → (fun l => Nat.blt l 67) l = true:=fun l hl => blt_yes hl
theorem lt71 : ∀ l,l < 67 → (fun l => Nat.blt l 71) l = true:=fun l hl => blt_yes (by omega)
def stIY (a2 : Option Addr) (c2 : Nat) (pages stack types : Int) (nc nr : Nat) (data : List UInt8) (starts : List Nat) (k : Nat) : Sf :=
 ⟨71,[(0,.slice (some ⟨66,0,none⟩) starts.length (big + 66)),(1,.func (.func 46) ⟨[]⟩ ⟨[.pointer (some ⟨67,0,none⟩)]⟩),(7,.int .i64 (starts.length : Nat)),(8,.int .i64 (k : Nat))],
  [(66,⟨false,some (0,0),u32s starts,none⟩),(67,⟨false,none,imgLY a2 c2 pages stack types nc nr starts.length data,none⟩)],[]⟩
def layCY (a2 : Option Addr) (c2 : Nat) (pages stack types : Int) (nc nr ns : Nat) (data : List UInt8) : Con:=⟨[imgVY a2 c2 pages stack types nc nr ns data],67,[],[],layR pages stack nc ns data.length,67,[],[]⟩
def imHY (a2 : Option Addr) (c2 : Nat) (rs : List Rl) (starts : List Nat) : Sy.Heap:=[(66,⟨false,some (0,0),u32s starts,none⟩)]
def imCY (a2 : Option Addr) (c2 : Nat) (pages stack types : Int) (nc : Nat) (data : List UInt8) (rs : List Rl) (starts : List Nat) (v : Value) : Con:=⟨[imgVY a2 c2 pages stack types nc rs.length starts.length data],67,imHY a2 c2 rs starts,[],v,67,imHY a2 c2 rs starts,[]⟩
theorem st_aY (a2 : Option Addr) (c2 : Nat) (pages : Int) (stack : Int) (types : Int) (nc : Nat) (nr : Nat) (data : List UInt8) (starts : List Nat) (k : Nat) : evC Try.prog (evF Try.prog noBase noLoop 100 3) (noLoop 71) 19 100 (loopOf Try.prog 71 0) (Sf.frT 19 (stIY a2 c2 pages stack types nc nr data starts k) [(0,true),(1,true)]) = some (Exit.ret,{ e:=[[Value.slice (some ⟨66,0,none⟩) starts.length 9223372036854775874,.func (Fn.func 46) { toList:=[] } { toList:=[Value.pointer (some ⟨67,0,none⟩)] },unk,unk,.int .i64 (↑k),.int .i64 (↑k),unk,.int .i64 (↑starts.length),.int .i64 (↑k),.bool (decide ((↑k : Int) < (↑starts.length : Int))),.int .i64 (↑k),.func (Fn.func 46) { toList:=[] } { toList:=[Value.pointer (some ⟨67,0,none⟩)] },.slice (some ⟨66,0,none⟩) starts.length 9223372036854775874,.int .i64 (↑k),.pointer (some { block:=66,off:=0 + (↑k : Int).toNat * 1 }),.int .u32 (intOf' (getD' undef (u32s starts) (0 + (↑k : Int).toNat * 1)))],[Value.bool (decide (IntKind.i64.wrap (intOf' (getD' undef (u32s starts) (0 + (↑k : Int).toNat * 1))) ≥ (↑nc : Int))),.int .i64 (↑k),unk,unk,unk,unk,unk,unk,unk,unk,unk,unk,unk,unk,unk,unk]],s:={ n:=71,h:=[(66,⟨false,some (0,0),u32s starts,none⟩),(67,⟨false,none,[Value.int .i64 pages,.int .i64 stack,.int .i64 types,.slice (some ⟨64,0,none⟩) nc 9223372036854775872,.string ⟨⟨data⟩⟩,.slice a2 0 c2,.slice (some ⟨66,0,none⟩) starts.length 9223372036854775874],none⟩)],lo:=[],esc:=0,T:=[],k:=2,O:=(bif hasN (0 + (↑k : Int).toNat * 1 + 1) (u32s starts) && isLikeL [Value.int .u32 0] (u32s starts) (0 + (↑k : Int).toNat * 1) then bif decide ((0 : Int) ≤ (↑k : Int)) && decide ((↑k : Int) < (↑starts.length : Int)) then True ∧ decide ((↑k : Int) < (↑starts.length : Int)) = true else False else False) ∧ decide (IntKind.i64.wrap (intOf' (getD' undef (u32s starts) (0 + (↑k : Int).toNat * 1))) ≥ (↑nc : Int)) = true : St } : Fr }):=by kernel_rfl
theorem st_bY (a2 : Option Addr) (c2 : Nat) (pages : Int) (stack : Int) (types : Int) (nc : Nat) (nr : Nat) (data : List UInt8) (starts : List Nat) (k : Nat) : evC Try.prog (evF Try.prog noBase noLoop 100 3) (noLoop 71) 19 100 (loopOf Try.prog 71 0) (Sf.frT 19 (stIY a2 c2 pages stack types nc nr data starts k) [(0,true),(1,false)]) = some (Exit.normal,{ e:=[[Value.slice (some ⟨66,0,none⟩) starts.length 9223372036854775874,.func (Fn.func 46) { toList:=[] } { toList:=[Value.pointer (some ⟨67,0,none⟩)] },unk,unk,unk,.int .i64 (↑k),unk,.int .i64 (↑starts.length),.int .i64 (IntKind.i64.wrap ((↑k : Int) + (1 : Int))),.bool (decide ((↑k : Int) < (↑starts.length : Int))),.int .i64 (↑k),.func (Fn.func 46) { toList:=[] } { toList:=[Value.pointer (some ⟨67,0,none⟩)] },.slice (some ⟨66,0,none⟩) starts.length 9223372036854775874,.int .i64 (↑k),.pointer (some { block:=66,off:=0 + (↑k : Int).toNat * 1 }),.int .u32 (intOf' (getD' undef (u32s starts) (0 + (↑k : Int).toNat * 1)))],[Value.bool (decide (IntKind.i64.wrap (intOf' (getD' undef (u32s starts) (0 + (↑k : Int).toNat * 1))) ≥ (↑nc : Int))),unk,.int .i64 (IntKind.i64.wrap ((↑k : Int) + (1 : Int))),unk,unk,unk,unk,unk,unk,unk,unk,unk,unk,unk,unk,unk]],s:={ n:=71,h:=[(66,⟨false,some (0,0),u32s starts,none⟩),(67,⟨false,none,[Value.int .i64 pages,.int .i64 stack,.int .i64 types,.slice (some ⟨64,0,none⟩) nc 9223372036854775872,.string ⟨⟨data⟩⟩,.slice a2 0 c2,.slice (some ⟨66,0,none⟩) starts.length 9223372036854775874],none⟩)],lo:=[],esc:=0,T:=[],k:=2,O:=(bif hasN (0 + (↑k : Int).toNat * 1 + 1) (u32s starts) && isLikeL [Value.int .u32 0] (u32s starts) (0 + (↑k : Int).toNat * 1) then bif decide ((0 : Int) ≤ (↑k : Int)) && decide ((↑k : Int) < (↑starts.length : Int)) then True ∧ decide ((↑k : Int) < (↑starts.length : Int)) = true else False else False) ∧ decide (IntKind.i64.wrap (intOf' (getD' undef (u32s starts) (0 + (↑k : Int).toNat * 1))) ≥ (↑nc : Int)) = false : St } : Fr }):=by kernel_rfl
theorem st_cY (a2 : Option Addr) (c2 : Nat) (pages : Int) (stack : Int) (types : Int) (nc : Nat) (nr : Nat) (data : List UInt8) (starts : List Nat) (k : Nat) : evC Try.prog (evF Try.prog noBase noLoop 100 3) (noLoop 71) 19 100 (loopOf Try.prog 71 0) (Sf.frT 19 (stIY a2 c2 pages stack types nc nr data starts k) [(0,false)]) = some (Exit.exit 0,{ e:=[[Value.slice (some ⟨66,0,none⟩) starts.length 9223372036854775874,.func (Fn.func 46) { toList:=[] } { toList:=[Value.pointer (some ⟨67,0,none⟩)] },unk,unk,unk,unk,unk,.int .i64 (↑starts.length),.int .i64 (↑k),.bool (decide ((↑k : Int) < (↑starts.length : Int))),unk,unk,unk,unk,unk,unk],[unk,unk,unk,unk,unk,unk,unk,unk,unk,unk,unk,unk,unk,unk,unk,unk]],s:={ n:=71,h:=[(66,⟨false,some (0,0),u32s starts,none⟩),(67,⟨false,none,[Value.int .i64 pages,.int .i64 stack,.int .i64 types,.slice (some ⟨64,0,none⟩) nc 9223372036854775872,.string ⟨⟨data⟩⟩,.slice a2 0 c2,.slice (some ⟨66,0,none⟩) starts.length 9223372036854775874],none⟩)],lo:=[],esc:=0,T:=[],k:=1,O:=True ∧ decide ((↑k : Int) < (↑starts.length : Int)) = false : St } : Fr }):=by kernel_rfl
theorem layout_bigY (a2 : Option Addr) (c2 : Nat) (pages stack types : Int) (nc nr ns : Nat) (data : List UInt8) : evF Try.prog (baseC 3 selJ) noLoop 100 10 47 [imgVY a2 c2 pages stack types nc nr ns data] ⟨67,[],[],0,[(0,true)],0,True⟩ = some (Value.tuple { toList:=[Value.agg ⟨[.int .u32 0,.int .u32 0,.int .u32 0,.int .u32 0,.int .u32 0,.int .u32 0,.int .u32 0,.int .u32 0]⟩,.bool false] },{ n:=77,h:=[],lo:=[],esc:=0,T:=[],k:=1,O:=((True∧((0:Int) ≤ IntKind.i64.wrap ((4:Int) * (↑nc:Int))∧IntKind.i64.wrap ((4:Int) * (↑nc:Int)) ≤ (100000:Int))∧(rr (Value.int .i64 (IntKind.i64.wrap ((4:Int) * (↑nc:Int))))∧True)∧True∧True)∧((0:Int) ≤ (↑(lenT data):Int)∧(↑(lenT data):Int) ≤ (100000:Int))∧(rr (Value.int .i64 (↑(lenT data)))∧True)∧True∧True)∧decide (IntKind.u32.wrap (IntKind.u32.wrap (bits BinOp.andNot IntKind.u32 (IntKind.u32.wrap (IntKind.u32.wrap (IntKind.u32.wrap (bits BinOp.andNot IntKind.u32 (IntKind.u32.wrap (IntKind.u32.wrap (IntKind.u32.wrap ((0:Int)+(↑(r256 (IntKind.i64.wrap ((4:Int) * (↑nc:Int))).toNat):Int))+(256:Int)) - (1:Int))) (255:Int)+(↑(r256 (↑(lenT data):Int).toNat):Int))+(256:Int)) - (1:Int))) (255:Int)+IntKind.u32.wrap (IntKind.i64.wrap (stack * (↑ns:Int))))+(256:Int)) > IntKind.u32.wrap (IntKind.u32.wrap pages * (256:Int))) = true : St }):=by kernel_rfl
theorem layout_okY (a2 : Option Addr) (c2 : Nat) (pages stack types : Int) (nc nr ns : Nat) (data : List UInt8) : evF Try.prog (baseC 3 selJ) noLoop 100 10 47 [imgVY a2 c2 pages stack types nc nr ns data] ⟨67,[],[],0,[(0,false)],0,True⟩ = some (Value.tuple { toList:=[Value.agg ⟨[.int .u32 0,.int .u32 (↑(r256 (IntKind.i64.wrap ((4:Int) * (↑nc:Int))).toNat):Int),.int .u32 (bits BinOp.andNot IntKind.u32 (IntKind.u32.wrap (IntKind.u32.wrap (IntKind.u32.wrap ((0:Int)+(↑(r256 (IntKind.i64.wrap ((4:Int) * (↑nc:Int))).toNat):Int))+(256:Int)) - (1:Int))) (255:Int)),.int .u32 (↑(r256 (↑(lenT data):Int).toNat):Int),.int .u32 (bits BinOp.andNot IntKind.u32 (IntKind.u32.wrap (IntKind.u32.wrap (IntKind.u32.wrap (bits BinOp.andNot IntKind.u32 (IntKind.u32.wrap (IntKind.u32.wrap (IntKind.u32.wrap ((0:Int)+(↑(r256 (IntKind.i64.wrap ((4:Int) * (↑nc:Int))).toNat):Int))+(256:Int)) - (1:Int))) (255:Int)+(↑(r256 (↑(lenT data):Int).toNat):Int))+(256:Int)) - (1:Int))) (255:Int)),.int .u32 (IntKind.u32.wrap (IntKind.i64.wrap (stack * (↑ns:Int)))),.int .u32 (bits BinOp.andNot IntKind.u32 (IntKind.u32.wrap (IntKind.u32.wrap (IntKind.u32.wrap (bits BinOp.andNot IntKind.u32 (IntKind.u32.wrap (IntKind.u32.wrap (IntKind.u32.wrap (bits BinOp.andNot IntKind.u32 (IntKind.u32.wrap (IntKind.u32.wrap (IntKind.u32.wrap ((0:Int)+(↑(r256 (IntKind.i64.wrap ((4:Int) * (↑nc:Int))).toNat):Int))+(256:Int)) - (1:Int))) (255:Int)+(↑(r256 (↑(lenT data):Int).toNat):Int))+(256:Int)) - (1:Int))) (255:Int)+IntKind.u32.wrap (IntKind.i64.wrap (stack * (↑ns:Int))))+(256:Int)) - (1:Int))) (255:Int)),.int .u32 (IntKind.u32.wrap (IntKind.u32.wrap (IntKind.u32.wrap pages * (256:Int)) - IntKind.u32.wrap (bits BinOp.andNot IntKind.u32 (IntKind.u32.wrap (IntKind.u32.wrap (IntKind.u32.wrap (bits BinOp.andNot IntKind.u32 (IntKind.u32.wrap (IntKind.u32.wrap (IntKind.u32.wrap ((0:Int)+(↑(r256 (IntKind.i64.wrap ((4:Int) * (↑nc:Int))).toNat):Int))+(256:Int)) - (1:Int))) (255:Int)+(↑(r256 (↑(lenT data):Int).toNat):Int))+(256:Int)) - (1:Int))) (255:Int)+IntKind.u32.wrap (IntKind.i64.wrap (stack * (↑ns:Int))))))]⟩,.bool true] },{ n:=79,h:=[],lo:=[],esc:=0,T:=[],k:=1,O:=((True∧((0:Int) ≤ IntKind.i64.wrap ((4:Int) * (↑nc:Int))∧IntKind.i64.wrap ((4:Int) * (↑nc:Int)) ≤ (100000:Int))∧(rr (Value.int .i64 (IntKind.i64.wrap ((4:Int) * (↑nc:Int))))∧True)∧True∧True)∧((0:Int) ≤ (↑(lenT data):Int)∧(↑(lenT data):Int) ≤ (100000:Int))∧(rr (Value.int .i64 (↑(lenT data)))∧True)∧True∧True)∧decide (IntKind.u32.wrap (IntKind.u32.wrap (bits BinOp.andNot IntKind.u32 (IntKind.u32.wrap (IntKind.u32.wrap (IntKind.u32.wrap (bits BinOp.andNot IntKind.u32 (IntKind.u32.wrap (IntKind.u32.wrap (IntKind.u32.wrap ((0:Int)+(↑(r256 (IntKind.i64.wrap ((4:Int) * (↑nc:Int))).toNat):Int))+(256:Int)) - (1:Int))) (255:Int)+(↑(r256 (↑(lenT data):Int).toNat):Int))+(256:Int)) - (1:Int))) (255:Int)+IntKind.u32.wrap (IntKind.i64.wrap (stack * (↑ns:Int))))+(256:Int)) > IntKind.u32.wrap (IntKind.u32.wrap pages * (256:Int))) = false : St }):=by kernel_rfl
theorem stI_wfY (a2 : Option Addr) (c2 : Nat) (em : EmOk a2 c2) (pages stack types : Int) (nc nr : Nat) (data : List UInt8) (starts : List Nat) (k : Nat) : (stIY a2 c2 pages stack types nc nr data starts k).Wf :=
 ⟨ng71,Sf.Ok.mk' 3 ⟨⟨rfl,rfl,flat_bnd (u32s_flat starts)⟩,⟨rfl,rfl,fun v hv => okV_bnd 3 v (List.all_eq_true.1 (imgLY_ok em lt71 3 pages stack types nc nr starts.length data) v hv)⟩,trivial⟩ rfl (fun x hx => by
  have : (stIY a2 c2 pages stack types nc nr data starts k).e.all (fun x => okV (fun l => Nat.blt l 71) 3 x.2) = true:=by kernel_rfl
  exact List.all_eq_true.1 this x hx)⟩
theorem st_nextY (a2 : Option Addr) (c2 : Nat) (em : EmOk a2 c2) (pages stack types : Int) (nc nr : Nat) (data : List UInt8) (starts : List Nat) (k : Nat) (e : Sf) (hl : starts.length < 9000000000000000000) (hx : starts.getD k 0 < 4294967296) (hk : k < starts.length) (hv : starts.getD k 0 < nc) (hn : e.n = 71) (he : e.Ok (keeps 71 71 id (fun l => Nat.blt l 71))) :
  ∃ g,evC Try.prog (evF Try.prog noBase noLoop 100 3) (noLoop 71) 19 100 (loopOf Try.prog 71 0) ((stIY a2 c2 pages stack types nc nr data starts k).frT 19 [(0,true),(1,false)]) = some (.normal,g) ∧ g.s.O ∧
   Sf.Leads 3 (fun l => Nat.blt l 71) id (stIY a2 c2 pages stack types nc nr data starts k) g (stIY a2 c2 pages stack types nc nr data starts (k + 1)) e:=by
 refine ⟨_,st_bY a2 c2 pages stack types nc nr data starts k,?_,?_⟩
 ·simp only [rr, tt, u32s_has,u32s_like,u32s_at,Int.toNat_natCast,Nat.zero_add,Nat.mul_one]
  rw [u32_i64 hx]
  exact ⟨bif_true (by simp; omega) (bif_true (by simp; omega) ⟨trivial,by simp; omega⟩),by simp only [rr, tt, decide_eq_false_iff_not]; omega⟩
 ·refine ⟨fun _ _ => rfl,⟨⟨rfl,flat_all (u32s_flat starts),rfl,rfl,rfl,trivial,(flat_map (u32s_flat starts)).symm⟩,⟨rfl,imgLY_ok em lt71 3 pages stack types nc nr starts.length data,rfl,rfl,rfl,trivial,by rw [List.map_congr_left (fun v _ => rnV_id 3 v)]; simp only [rr, tt, List.map_id']; rfl⟩,trivial⟩,rfl,trivial,⟨⟨by kernel_rfl,by kernel_rfl⟩,⟨rfl,by kernel_rfl⟩,⟨rfl,by kernel_rfl⟩,⟨rfl,?_⟩,trivial⟩,Nat.le_refl _,fun l hl => blt_no hl,?_,?_⟩
  ·refine Eq.trans (b:=Value.int .i64 (IntKind.i64.wrap ((k : Int) + 1))) (by kernel_rfl) ?_
   rw [cast_succ_i64 k (by omega)]; rfl
  ·rw [hn]; exact he
  ·intro x _ _; exact .inl rfl
theorem st_foundY (a2 : Option Addr) (c2 : Nat) (em : EmOk a2 c2) (pages stack types : Int) (nc nr : Nat) (data : List UInt8) (starts : List Nat) (j : Nat) (hl : starts.length < 9000000000000000000) (hx : ∀ x ∈ starts,x < 4294967296) (hj : j < starts.length) (hv : nc ≤ starts.getD j 0) (hn : ∀ i,i < j → starts.getD i 0 < nc) :
  ∀ x : { k : Nat // k ≤ j },LoopOk Try.prog 19 (loopOf Try.prog 71 0) ((stIY a2 c2 pages stack types nc nr data starts x.1).fr 19) .ret ((stF j).fr 19):=by
 have hx' : ∀ i,i < starts.length → starts.getD i 0 < 4294967296:=fun i hi => by
  rw [List.getD_eq_getElem?_getD,List.getElem?_eq_getElem hi]; exact hx _ (List.getElem_mem hi)
 refine loop_ok (L:=100) (run_ok (L:=100) i_names (noBase_ok _) (noLoop_ok _) 3) (noLoop_any _ _ 71) (fun _ h => h) (X:={ k : Nat // k ≤ j }) (fun x => stIY a2 c2 pages stack types nc nr data starts x.1) (fun _ => stF j) (fun _ => .ret) (fun x => j - x.1) (fun x => stI_wfY a2 c2 em pages stack types nc nr data starts x.1) ?_
 rintro ⟨k,hk⟩
 by_cases h : k = j
 ·subst h
  refine ⟨[(0,true),(1,true)],.ret,_,3,fun l => Nat.blt l 71,id,st_aY a2 c2 pages stack types nc nr data starts k,?_,.inr ⟨by simp,rfl,?_⟩⟩
  ·simp only [rr, tt, u32s_has,u32s_like,u32s_at,Int.toNat_natCast,Nat.zero_add,Nat.mul_one]
   rw [u32_i64 (hx' k hj)]
   exact ⟨bif_true (by simp; omega) (bif_true (by simp; omega) ⟨trivial,by simp; omega⟩),by simp only [rr, tt, decide_eq_true_eq]; omega⟩
  ·exact ⟨fun _ _ => rfl,trivial,rfl,trivial,⟨⟨rfl,by kernel_rfl⟩,trivial⟩,Nat.le_refl _,fun l hl => blt_no hl,stF_ok k,fun x hx => by cases hx⟩
 ·obtain ⟨g,h1,h2,h3⟩:=st_nextY a2 c2 em pages stack types nc nr data starts k (stF j) hl (hx' k (by omega)) (by omega) (hn k (by omega)) rfl (stF_ok j)
  exact ⟨_,.normal,g,3,_,_,h1,h2,.inl ⟨rfl,⟨k + 1,by omega⟩,by show j - (k + 1) < j - k; omega,rfl,rfl,h3⟩⟩
theorem st_noneY (a2 : Option Addr) (c2 : Nat) (em : EmOk a2 c2) (pages stack types : Int) (nc nr : Nat) (data : List UInt8) (starts : List Nat) (hl : starts.length < 9000000000000000000) (hx : ∀ x ∈ starts,x < 4294967296) (hn : ∀ i,i < starts.length → starts.getD i 0 < nc) :
  ∀ x : { k : Nat // k ≤ starts.length },LoopOk Try.prog 19 (loopOf Try.prog 71 0) ((stIY a2 c2 pages stack types nc nr data starts x.1).fr 19) (.exit 0) (stN.fr 19):=by
 have hx' : ∀ i,i < starts.length → starts.getD i 0 < 4294967296:=fun i hi => by
  rw [List.getD_eq_getElem?_getD,List.getElem?_eq_getElem hi]; exact hx _ (List.getElem_mem hi)
 refine loop_ok (L:=100) (run_ok (L:=100) i_names (noBase_ok _) (noLoop_ok _) 3) (noLoop_any _ _ 71) (fun _ h => h) (X:={ k : Nat // k ≤ starts.length }) (fun x => stIY a2 c2 pages stack types nc nr data starts x.1) (fun _ => stN) (fun _ => .exit 0) (fun x => starts.length - x.1) (fun x => stI_wfY a2 c2 em pages stack types nc nr data starts x.1) ?_
 rintro ⟨k,hk⟩
 by_cases h : k < starts.length
 ·obtain ⟨g,h1,h2,h3⟩:=st_nextY a2 c2 em pages stack types nc nr data starts k stN hl (hx' k h) h (hn k h) rfl stN_ok
  exact ⟨_,.normal,g,3,_,_,h1,h2,.inl ⟨rfl,⟨k + 1,by omega⟩,by show starts.length - (k + 1) < starts.length - k; omega,rfl,rfl,h3⟩⟩
 ·refine ⟨[(0,false)],.exit 0,_,3,fun l => Nat.blt l 71,id,st_cY a2 c2 pages stack types nc nr data starts k,?_,.inr ⟨by simp,rfl,?_⟩⟩
  ·simp; omega
  ·exact ⟨fun _ _ => rfl,trivial,rfl,trivial,trivial,Nat.le_refl _,fun l hl => blt_no hl,stN_ok,fun x hx => by cases hx⟩
def stEntFY (a2 : Option Addr) (c2 : Nat) (em : EmOk a2 c2) (pages stack types : Int) (nc nr : Nat) (data : List UInt8) (starts : List Nat) (j : Nat) (hl : starts.length < 9000000000000000000) (hx : ∀ x ∈ starts,x < 4294967296) (hj : j < starts.length) (hv : nc ≤ starts.getD j 0) (hn : ∀ i,i < j → starts.getD i 0 < nc) : Ent Try.prog :=
 entC Try.prog 71 0 19 (stIY a2 c2 pages stack types nc nr data starts 0) .ret (stF j) (by kernel_rfl) (by kernel_rfl) (st_foundY a2 c2 em pages stack types nc nr data starts j hl hx hj hv hn ⟨0,Nat.zero_le _⟩)
def stEntNY (a2 : Option Addr) (c2 : Nat) (em : EmOk a2 c2) (pages stack types : Int) (nc nr : Nat) (data : List UInt8) (starts : List Nat) (hl : starts.length < 9000000000000000000) (hx : ∀ x ∈ starts,x < 4294967296) (hn : ∀ i,i < starts.length → starts.getD i 0 < nc) : Ent Try.prog :=
 entC Try.prog 71 0 19 (stIY a2 c2 pages stack types nc nr data starts 0) (.exit 0) stN (by kernel_rfl) (by kernel_rfl) (st_noneY a2 c2 em pages stack types nc nr data starts hl hx hn ⟨0,Nat.zero_le _⟩)
theorem layC_anyY {a2 : Option Addr} {c2 : Nat} (em : EmOk a2 c2) {f : FuncId} {pages stack types : Int} {nc nr ns : Nat} {data : List UInt8} {T : List (Nat × Bool)} {s' : St} {v : Value} (h : evF Try.prog (baseC 3 selJ) noLoop 100 10 f [imgVY a2 c2 pages stack types nc nr ns data] ⟨67,[],[],0,T,0,True⟩ = some (v,s')) (hv : v = layR pages stack nc ns data.length) (hO : s'.O) : ConOk Try.prog f 3 (layCY a2 c2 pages stack types nc nr ns data):=by
 subst hv
 refine conOk_flat (run_ok i_names (baseC_ok selJ_ok) (noLoop_ok _) 10) (by decide) ?_ h hO rfl rfl
 exact imgVY_ok em lt67 pages stack types nc nr ns data
theorem lay_progY (a2 : Option Addr) (c2 : Nat) (em : EmOk a2 c2) (pages stack types : Int) (nc nr ns : Nat) (data : List UInt8) (h : layOk pages stack nc ns data.length) : ConOk Try.prog 47 3 (layCY a2 c2 pages stack types nc nr ns data):=by
 obtain ⟨h1,h2,h3,h4,h5,h6,h7,h8⟩:=h
 obtain ⟨p,rfl⟩:=Int.eq_ofNat_of_zero_le h1
 obtain ⟨s,rfl⟩:=Int.eq_ofNat_of_zero_le h3
 have hs:=stack_ns (s:=s) (ns:=ns) (by omega) h7
 have q1:=r256_le (4 * nc)
 have q2:=r256_le data.length
 have m1:=r256_mod (4 * nc)
 have m2:=r256_mod data.length
 have m3 : s * ns % 256 = 0:=by rw [Nat.mul_mod,show s % 256 = 0 by omega]; simp
 have e1 : IntKind.i64.wrap ((4 : Int) * (nc : Int)) = ((4 * nc : Nat) : Int):=by rw [wrap_i64 (by omega) (by omega)]; omega
 have e2 : IntKind.u32.wrap ((0 : Int) + ((r256 (4 * nc) : Nat) : Int)) = ((r256 (4 * nc) : Nat) : Int):=by rw [IntKind.wrap_u32]; omega
 have e3 : IntKind.i64.wrap ((s : Int) * (ns : Int)) = ((s * ns : Nat) : Int):=by rw [Int.ofNat_mul_ofNat,wrap_i64 (by omega) (by omega)]
 have e4 : IntKind.u32.wrap (IntKind.u32.wrap (p : Int) * (256 : Int)) = ((p * 256 : Nat) : Int):=by rw [IntKind.wrap_u32,IntKind.wrap_u32]; omega
 have hd:=layout_bigY a2 c2 (p : Int) (s : Int) types nc nr ns data
 have hk:=layout_okY a2 c2 (p : Int) (s : Int) types nc nr ns data
 simp only [rr, tt, e1,Int.toNat_natCast,lenT_eq,e2,alg256 _ m1 (by omega),u32_add (r256 (4 * nc)) (r256 data.length) (by omega),alg256 (r256 (4 * nc) + r256 data.length) (by omega) (by omega),e3,u32_nat (s * ns) (by omega),u32_add (r256 (4 * nc) + r256 data.length) (s * ns) (by omega),alg256 (r256 (4 * nc) + r256 data.length + s * ns) (by omega) (by omega),e4] at hd hk
 cases hb : layBig (p : Int) (s : Int) nc ns data.length
 ·have hb' : r256 (4 * nc) + r256 data.length + s * ns + 256 ≤ p * 256:=by
   unfold layBig layFrom at hb; simp only [rr, tt, Int.toNat_natCast,decide_eq_false_iff_not] at hb; omega
  have e5 : IntKind.u32.wrap (((p * 256 : Nat) : Int) - ((r256 (4 * nc) + r256 data.length + s * ns : Nat) : Int)) = ((p * 256 - (r256 (4 * nc) + r256 data.length + s * ns) : Nat) : Int):=by rw [IntKind.wrap_u32]; omega
  rw [e5] at hk
  refine layC_anyY em (T:=[(0,false)]) hk ?_ ?_
  ·unfold layR layA
   rw [hb]
   rfl
  ·refine ⟨⟨⟨trivial,⟨by omega,by omega⟩,⟨trivial,trivial⟩,trivial,trivial⟩,⟨by omega,by omega⟩,⟨trivial,trivial⟩,trivial,trivial⟩,?_⟩
   rw [IntKind.wrap_u32]
   simp only [rr, tt, decide_eq_false_iff_not]; omega
 ·have hb' : ¬ (r256 (4 * nc) + r256 data.length + s * ns + 256 ≤ p * 256):=by
   unfold layBig layFrom at hb; simp only [rr, tt, Int.toNat_natCast,decide_eq_true_eq] at hb; omega
  refine layC_anyY em (T:=[(0,true)]) hd ?_ ?_
  ·unfold layR layA
   rw [hb]
   rfl
  ·refine ⟨⟨⟨trivial,⟨by omega,by omega⟩,⟨trivial,trivial⟩,trivial,trivial⟩,⟨by omega,by omega⟩,⟨trivial,trivial⟩,trivial,trivial⟩,?_⟩
   rw [IntKind.wrap_u32]
   simp only [rr, tt, decide_eq_true_eq]; omega
end Go.Proofs.Ytliidiceljdgmaa
namespace Go.Proofs.Ytliidiceljdgmaa
open Go.RowKit
open Sy
def selLayY (a2 : Option Addr) (c2 : Nat) : SelC:=fun f args _ =>
 match args with
 | [.agg ⟨[.int _ pages,.int _ stack,.int _ types,.slice (some _) nc _,.string ⟨⟨data⟩⟩,_,.slice (some _) ns _]⟩] => bif Nat.beq f 47 then some (layCY a2 c2 pages stack types nc 0 ns data,[64,65,66],layOk pages stack nc ns data.length) else none
 | _ => none
theorem selLayY_ok (a2 : Option Addr) (c2 : Nat) (em : EmOk a2 c2) : SelOk Try.prog 3 (selLayY a2 c2):=by
 intro f args s c ρ q h hq
 unfold selLayY at h
 split at h
 ·obtain ⟨h2,h3⟩:=bif_some h
  have h2:=eB h2
  subst h2
  cases h3
  exact lay_progY _ _ em _ _ _ _ _ _ _ hq
 ·cases h
theorem lay_longY (a2 : Option Addr) (c2 : Nat) (pages stack types : Int) (nc : Nat) (data : List UInt8) (rs : List Rl) (starts : List Nat) : evF Try.prog (baseC 3 (selOr (selLayY a2 c2) selI)) noLoop 100 10 16 [imgVY a2 c2 pages stack types nc 0 starts.length data] (laySY a2 c2 rs starts [(0,true)]) = some (Value.tuple { toList:=[Value.agg ⟨[.int .u32 0,.int .u32 0,.int .u32 0,.int .u32 0,.int .u32 0,.int .u32 0,.int .u32 0,.int .u32 0]⟩,.int .i64 3] },{ n:=70,h:=[(66,⟨false,some (0,0),u32s starts,none⟩)],lo:=[],esc:=0,T:=[],k:=1,O:=(True∧(tt∧4 < 9000000000000000000)∧(rr (Value.slice (some ⟨69,0,none⟩) 4 4)∧True)∧((tt∧tt∧tt∧tt∧tt∧True∧rr [Value.bool (decide ((↑nc:Int) > (4096:Int))),.bool (decide ((↑(lenT data):Int) > (16384:Int))),.bool false,.bool (decide ((↑starts.length:Int) > (4:Int)))])∧True)∧True)∧(!!(decide ((↑nc:Int) > (4096:Int)) || (decide ((↑(lenT data):Int) > (16384:Int)) || (decide ((↑starts.length:Int) > (4:Int)) || false)))) = true : St }):=by kernel_rfl
theorem lay_argY (a2 : Option Addr) (c2 : Nat) (pages stack types : Int) (nc : Nat) (data : List UInt8) (rs : List Rl) (starts : List Nat) : evF Try.prog (baseC 3 (selOr (selLayY a2 c2) selI)) noLoop 100 10 16 [imgVY a2 c2 pages stack types nc 0 starts.length data] (laySY a2 c2 rs starts [(0,false),(1,true)]) = some (Value.tuple { toList:=[Value.agg ⟨[.int .u32 0,.int .u32 0,.int .u32 0,.int .u32 0,.int .u32 0,.int .u32 0,.int .u32 0,.int .u32 0]⟩,.int .i64 2] },{ n:=71,h:=[(66,⟨false,some (0,0),u32s starts,none⟩)],lo:=[],esc:=0,T:=[],k:=2,O:=(((True∧(tt∧4 < 9000000000000000000)∧(rr (Value.slice (some ⟨69,0,none⟩) 4 4)∧True)∧((tt∧tt∧tt∧tt∧tt∧True∧rr [Value.bool (decide ((↑nc:Int) > (4096:Int))),.bool (decide ((↑(lenT data):Int) > (16384:Int))),.bool false,.bool (decide ((↑starts.length:Int) > (4:Int)))])∧True)∧True)∧(!!(decide ((↑nc:Int) > (4096:Int)) || (decide ((↑(lenT data):Int) > (16384:Int)) || (decide ((↑starts.length:Int) > (4:Int)) || false)))) = false)∧(tt∧9 < 9000000000000000000)∧(rr (Value.slice (some ⟨70,0,none⟩) 9 9)∧True)∧((tt∧tt∧tt∧tt∧tt∧True∧rr [Value.bool (decide (pages < (16:Int))),.bool (decide (pages > (1024:Int))),.bool (decide (stack < (256:Int))),.bool (decide (stack > (4096:Int))),.bool (stack.tmod (256:Int) != (0:Int)),.bool (decide (types < (0:Int))),.bool (decide (types > (2048:Int))),.bool ((↑nc:Int) == (0:Int)),.bool ((↑starts.length:Int) == (0:Int))])∧True)∧True)∧(!!(decide (pages < (16:Int)) || (decide (pages > (1024:Int)) || (decide (stack < (256:Int)) || (decide (stack > (4096:Int)) || (stack.tmod (256:Int) != (0:Int) || (decide (types < (0:Int)) || (decide (types > (2048:Int)) || ((↑nc:Int) == (0:Int) || ((↑starts.length:Int) == (0:Int) || false)))))))))) = true : St }):=by kernel_rfl
theorem lay_farY (a2 : Option Addr) (c2 : Nat) (em : EmOk a2 c2) (pages stack types : Int) (nc : Nat) (data : List UInt8) (rs : List Rl) (starts : List Nat) (j : Nat) (hl : starts.length < 9000000000000000000) (hx : ∀ (x : Nat),x ∈ starts → x < 4294967296) (hj : j < starts.length) (hv : nc ≤ starts.getD j 0) (hn : ∀ (i : Nat),i < j → starts.getD i 0 < nc) : evF Try.prog (baseC 3 (selOr (selLayY a2 c2) selI)) (lpOf [stEntFY a2 c2 em pages stack types nc 0 data starts j hl hx hj hv hn]) 100 10 16 [imgVY a2 c2 pages stack types nc 0 starts.length data] (laySY a2 c2 rs starts [(0,false),(1,false)]) = some (Value.tuple { toList:=[Value.agg ⟨[.int .u32 0,.int .u32 0,.int .u32 0,.int .u32 0,.int .u32 0,.int .u32 0,.int .u32 0,.int .u32 0]⟩,.int .i64 2] },{ n:=71,h:=[(66,⟨false,some (0,0),u32s starts,none⟩)],lo:=[],esc:=0,T:=[],k:=2,O:=((((True∧(tt∧4 < 9000000000000000000)∧(rr (Value.slice (some ⟨69,0,none⟩) 4 4)∧True)∧((tt∧tt∧tt∧tt∧tt∧True∧rr [Value.bool (decide ((↑nc:Int) > (4096:Int))),.bool (decide ((↑(lenT data):Int) > (16384:Int))),.bool false,.bool (decide ((↑starts.length:Int) > (4:Int)))])∧True)∧True)∧(!!(decide ((↑nc:Int) > (4096:Int)) || (decide ((↑(lenT data):Int) > (16384:Int)) || (decide ((↑starts.length:Int) > (4:Int)) || false)))) = false)∧(tt∧9 < 9000000000000000000)∧(rr (Value.slice (some ⟨70,0,none⟩) 9 9)∧True)∧((tt∧tt∧tt∧tt∧tt∧True∧rr [Value.bool (decide (pages < (16:Int))),.bool (decide (pages > (1024:Int))),.bool (decide (stack < (256:Int))),.bool (decide (stack > (4096:Int))),.bool (stack.tmod (256:Int) != (0:Int)),.bool (decide (types < (0:Int))),.bool (decide (types > (2048:Int))),.bool ((↑nc:Int) == (0:Int)),.bool ((↑starts.length:Int) == (0:Int))])∧True)∧True)∧(!!(decide (pages < (16:Int)) || (decide (pages > (1024:Int)) || (decide (stack < (256:Int)) || (decide (stack > (4096:Int)) || (stack.tmod (256:Int) != (0:Int) || (decide (types < (0:Int)) || (decide (types > (2048:Int)) || ((↑nc:Int) == (0:Int) || ((↑starts.length:Int) == (0:Int) || false)))))))))) = false)∧(rr (Value.slice (some ⟨66,0,none⟩) starts.length 9223372036854775874)∧rr (Value.func (Fn.func 46) { toList:=[] } { toList:=[Value.pointer (some ⟨67,0,none⟩)] })∧rr (Value.int .i64 (↑starts.length))∧rr (Value.int .i64 0)∧True)∧((tt∧tt∧True∧rr (u32s starts))∧(tt∧tt∧True∧rr [Value.int .i64 pages,.int .i64 stack,.int .i64 types,.slice (some ⟨64,0,none⟩) nc 9223372036854775872,.string ⟨⟨data⟩⟩,.slice a2 0 c2,.slice (some ⟨66,0,none⟩) starts.length 9223372036854775874])∧True)∧True∧True : St }):=by kernel_rfl
theorem lay_bigY (a2 : Option Addr) (c2 : Nat) (em : EmOk a2 c2) (pages stack types : Int) (nc : Nat) (data : List UInt8) (rs : List Rl) (starts : List Nat) (hl : starts.length < 9000000000000000000) (hx : ∀ (x : Nat),x ∈ starts → x < 4294967296) (hn : ∀ (i : Nat),i < starts.length → starts.getD i 0 < nc) : evF Try.prog (baseC 3 (selOr (selLayY a2 c2) selI)) (lpOf [stEntNY a2 c2 em pages stack types nc 0 data starts hl hx hn]) 100 10 16 [imgVY a2 c2 pages stack types nc 0 starts.length data] (laySY a2 c2 rs starts [(0,false),(1,false),(2,false),(3,true)]) = some (Value.tuple { toList:=[Value.agg ⟨[.int .u32 0,.int .u32 0,.int .u32 0,.int .u32 0,.int .u32 0,.int .u32 0,.int .u32 0,.int .u32 0]⟩,.int .i64 13] },{ n:=72,h:=[(66,⟨false,some (0,0),u32s starts,none⟩)],lo:=[],esc:=0,T:=[],k:=4,O:=(((((((True∧(tt∧4 < 9000000000000000000)∧(rr (Value.slice (some ⟨69,0,none⟩) 4 4)∧True)∧((tt∧tt∧tt∧tt∧tt∧True∧rr [Value.bool (decide ((↑nc:Int) > (4096:Int))),.bool (decide ((↑(lenT data):Int) > (16384:Int))),.bool false,.bool (decide ((↑starts.length:Int) > (4:Int)))])∧True)∧True)∧(!!(decide ((↑nc:Int) > (4096:Int)) || (decide ((↑(lenT data):Int) > (16384:Int)) || (decide ((↑starts.length:Int) > (4:Int)) || false)))) = false)∧(tt∧9 < 9000000000000000000)∧(rr (Value.slice (some ⟨70,0,none⟩) 9 9)∧True)∧((tt∧tt∧tt∧tt∧tt∧True∧rr [Value.bool (decide (pages < (16:Int))),.bool (decide (pages > (1024:Int))),.bool (decide (stack < (256:Int))),.bool (decide (stack > (4096:Int))),.bool (stack.tmod (256:Int) != (0:Int)),.bool (decide (types < (0:Int))),.bool (decide (types > (2048:Int))),.bool ((↑nc:Int) == (0:Int)),.bool ((↑starts.length:Int) == (0:Int))])∧True)∧True)∧(!!(decide (pages < (16:Int)) || (decide (pages > (1024:Int)) || (decide (stack < (256:Int)) || (decide (stack > (4096:Int)) || (stack.tmod (256:Int) != (0:Int) || (decide (types < (0:Int)) || (decide (types > (2048:Int)) || ((↑nc:Int) == (0:Int) || ((↑starts.length:Int) == (0:Int) || false)))))))))) = false)∧(rr (Value.slice (some ⟨66,0,none⟩) starts.length 9223372036854775874)∧rr (Value.func (Fn.func 46) { toList:=[] } { toList:=[Value.pointer (some ⟨67,0,none⟩)] })∧rr (Value.int .i64 (↑starts.length))∧rr (Value.int .i64 0)∧True)∧((tt∧tt∧True∧rr (u32s starts))∧(tt∧tt∧True∧rr [Value.int .i64 pages,.int .i64 stack,.int .i64 types,.slice (some ⟨64,0,none⟩) nc 9223372036854775872,.string ⟨⟨data⟩⟩,.slice a2 0 c2,.slice (some ⟨66,0,none⟩) starts.length 9223372036854775874])∧True)∧True∧True)∧rr false)∧layOk pages stack nc starts.length data.length∧(Value.agg ⟨[.int .i64 pages,.int .i64 stack,.int .i64 types,.slice (some ⟨64,0,none⟩) nc 9223372036854775872,.string ⟨⟨data⟩⟩,.slice a2 0 c2,.slice (some ⟨66,0,none⟩) starts.length 9223372036854775874]⟩ = Value.agg ⟨[.int .i64 pages,.int .i64 stack,.int .i64 types,.slice (some ⟨64,0,none⟩) nc 9223372036854775872,.string ⟨⟨data⟩⟩,.slice (Option.map (rnA (lift 67 71 [64,65,66])) a2) 0 (rnC (lift 67 71 [64,65,66]) c2),.slice (some ⟨66,0,none⟩) starts.length 9223372036854775874]⟩∧True)∧True∧True)∧(!!layBig pages stack nc starts.length data.length) = true : St }):=by kernel_rfl
theorem lay_okY (a2 : Option Addr) (c2 : Nat) (em : EmOk a2 c2) (pages stack types : Int) (nc : Nat) (data : List UInt8) (rs : List Rl) (starts : List Nat) (hl : starts.length < 9000000000000000000) (hx : ∀ (x : Nat),x ∈ starts → x < 4294967296) (hn : ∀ (i : Nat),i < starts.length → starts.getD i 0 < nc) : evF Try.prog (baseC 3 (selOr (selLayY a2 c2) selI)) (lpOf [stEntNY a2 c2 em pages stack types nc 0 data starts hl hx hn]) 100 10 16 [imgVY a2 c2 pages stack types nc 0 starts.length data] (laySY a2 c2 rs starts [(0,false),(1,false),(2,false),(3,false)]) = some (Value.tuple { toList:=[Value.agg ⟨[.int .u32 0,.int .u32 (pk (layBig pages stack nc starts.length data.length) (r256 (4 * nc))),.int .u32 (pk (layBig pages stack nc starts.length data.length) (r256 (4 * nc))),.int .u32 (pk (layBig pages stack nc starts.length data.length) (r256 data.length)),.int .u32 (pk (layBig pages stack nc starts.length data.length) (r256 (4 * nc)+r256 data.length)),.int .u32 (pk (layBig pages stack nc starts.length data.length) (stack.toNat * starts.length)),.int .u32 (pk (layBig pages stack nc starts.length data.length) (layFrom stack nc starts.length data.length)),.int .u32 (pk (layBig pages stack nc starts.length data.length) (pages.toNat * 256 - layFrom stack nc starts.length data.length))]⟩,.int .i64 0] },{ n:=72,h:=[(66,⟨false,some (0,0),u32s starts,none⟩)],lo:=[],esc:=0,T:=[],k:=4,O:=(((((((True∧(tt∧4 < 9000000000000000000)∧(rr (Value.slice (some ⟨69,0,none⟩) 4 4)∧True)∧((tt∧tt∧tt∧tt∧tt∧True∧rr [Value.bool (decide ((↑nc:Int) > (4096:Int))),.bool (decide ((↑(lenT data):Int) > (16384:Int))),.bool false,.bool (decide ((↑starts.length:Int) > (4:Int)))])∧True)∧True)∧(!!(decide ((↑nc:Int) > (4096:Int)) || (decide ((↑(lenT data):Int) > (16384:Int)) || (decide ((↑starts.length:Int) > (4:Int)) || false)))) = false)∧(tt∧9 < 9000000000000000000)∧(rr (Value.slice (some ⟨70,0,none⟩) 9 9)∧True)∧((tt∧tt∧tt∧tt∧tt∧True∧rr [Value.bool (decide (pages < (16:Int))),.bool (decide (pages > (1024:Int))),.bool (decide (stack < (256:Int))),.bool (decide (stack > (4096:Int))),.bool (stack.tmod (256:Int) != (0:Int)),.bool (decide (types < (0:Int))),.bool (decide (types > (2048:Int))),.bool ((↑nc:Int) == (0:Int)),.bool ((↑starts.length:Int) == (0:Int))])∧True)∧True)∧(!!(decide (pages < (16:Int)) || (decide (pages > (1024:Int)) || (decide (stack < (256:Int)) || (decide (stack > (4096:Int)) || (stack.tmod (256:Int) != (0:Int) || (decide (types < (0:Int)) || (decide (types > (2048:Int)) || ((↑nc:Int) == (0:Int) || ((↑starts.length:Int) == (0:Int) || false)))))))))) = false)∧(rr (Value.slice (some ⟨66,0,none⟩) starts.length 9223372036854775874)∧rr (Value.func (Fn.func 46) { toList:=[] } { toList:=[Value.pointer (some ⟨67,0,none⟩)] })∧rr (Value.int .i64 (↑starts.length))∧rr (Value.int .i64 0)∧True)∧((tt∧tt∧True∧rr (u32s starts))∧(tt∧tt∧True∧rr [Value.int .i64 pages,.int .i64 stack,.int .i64 types,.slice (some ⟨64,0,none⟩) nc 9223372036854775872,.string ⟨⟨data⟩⟩,.slice a2 0 c2,.slice (some ⟨66,0,none⟩) starts.length 9223372036854775874])∧True)∧True∧True)∧rr false)∧layOk pages stack nc starts.length data.length∧(Value.agg ⟨[.int .i64 pages,.int .i64 stack,.int .i64 types,.slice (some ⟨64,0,none⟩) nc 9223372036854775872,.string ⟨⟨data⟩⟩,.slice a2 0 c2,.slice (some ⟨66,0,none⟩) starts.length 9223372036854775874]⟩ = Value.agg ⟨[.int .i64 pages,.int .i64 stack,.int .i64 types,.slice (some ⟨64,0,none⟩) nc 9223372036854775872,.string ⟨⟨data⟩⟩,.slice (Option.map (rnA (lift 67 71 [64,65,66])) a2) 0 (rnC (lift 67 71 [64,65,66]) c2),.slice (some ⟨66,0,none⟩) starts.length 9223372036854775874]⟩∧True)∧True∧True)∧(!!layBig pages stack nc starts.length data.length) = false : St }):=by kernel_rfl
theorem imWfY (a2 : Option Addr) (c2 : Nat) (em : EmOk a2 c2) (pages stack types : Int) (nc : Nat) (data : List UInt8) (starts : List Nat) (v : Value) (hv : flat2 v = true) : (imCY a2 c2 pages stack types nc data [] starts v).Wf 3 :=
 ⟨by show NG ≤ 67; decide,Nat.le_refl _,⟨⟨rfl,rfl,flat_bnd (u32s_flat starts)⟩,trivial⟩,rfl,rfl,rfl,imgVY_ok em lt67 pages stack types nc 0 starts.length data,okV_flat2 hv 1,fun x hx v hv => by
  obtain rfl:=List.mem_singleton.1 hx
  exact okV_flat0 (u32s_flat starts v hv) 3⟩
theorem im_anyY {a2 : Option Addr} {c2 : Nat} (em : EmOk a2 c2) {call : CallK} (hcall : SoundCall Try.prog call) {f : FuncId} {pages stack types : Int} {nc : Nat} {data : List UInt8} {starts : List Nat} {T : List (Nat × Bool)} {v v' : Value} {n k' : Nat} {q : Prop}
  (hr : call f [imgVY a2 c2 pages stack types nc 0 starts.length data] (laySY a2 c2 [] starts T) = some (v,⟨n,imHY a2 c2 [] starts,[],0,[],k',q⟩))
  (hv : v = v') (hf : flat2 v' = true) (hu : isU v' = false) (hq : q) : ConOk Try.prog f 3 (imCY a2 c2 pages stack types nc data [] starts v'):=by
 subst hv
 refine conOk_run hcall (imWfY a2 c2 em pages stack types nc data starts v hf) (T:=T) (p:=fun l => Nat.blt l 67) (σ:=id) hr hq ?_
 exact ⟨fun _ _ => rfl,⟨⟨rfl,flat_all (u32s_flat starts),rfl,rfl,rfl,trivial,(flat_map (u32s_flat starts)).symm⟩,trivial⟩,rfl,trivial,⟨okV_flat2 hf 1,(rnV_id 3 v).symm⟩,hu,⟨⟨rfl,rfl,flat_bnd (u32s_flat starts)⟩,trivial⟩,rfl,bnd_flat2 _ hf,fun x hx _ => .inl rfl⟩
theorem lay_conY (a2 : Option Addr) (c2 : Nat) (em : EmOk a2 c2) (pages stack types : Int) (nc : Nat) (data : List UInt8) (starts : List Nat) (hi : ImOk [] starts) : ConOk Try.prog 16 3 (imCY a2 c2 pages stack types nc data [] starts (layRes pages stack types nc data [] starts)):=by
 have hb:=baseC_ok (d:=3) (selOr_ok (selLayY_ok a2 c2 em) selI_ok)
 have h4 : (4 : Nat) < 9000000000000000000:=by omega
 have h9 : (9 : Nat) < 9000000000000000000:=by omega
 cases hl : isLong nc data.length ([] : List Rl).length starts.length
 ·have hl' : (!!isLong nc data.length 0 starts.length) = false:=by rw [show isLong nc data.length 0 starts.length = false from hl]; rfl
  cases ha : isArg pages stack types nc starts.length
  ·have ha' : (!!isArg pages stack types nc starts.length) = false:=by rw [ha]; rfl
   have hlay:=arg_lay hl ha
   cases hf : isFar nc starts
   ·have hn : ∀ i,i < starts.length → starts.getD i 0 < nc:=fun i hi => by
     have:=none_of hf i hi; simpa using this
    cases hg : layBig pages stack nc starts.length data.length
    ·have hg' : (!!layBig pages stack nc starts.length data.length) = false:=by rw [hg]; rfl
     have hd : isBad types nc data.length [] = false:=rfl
     have he : errOf pages stack types nc data [] starts = 0:=by unfold errOf; rw [hl,ha,hf,hg,hd]; rfl
     have hh:=lay_okY a2 c2 em pages stack types nc data [] starts hi.len hi.nums hn
     rw [lenT_eq] at hh
     refine im_anyY em (run_ok i_names hb (lpOf_ok _) 10) hh ?_ rfl rfl ?_
     ·unfold layRes layV; rw [he,hg]; rfl
     ·(try rw [em_rn em]); repeat' (with_reducible apply And.intro)
      all_goals first | exact h4 | exact h9 | exact hl' | exact ha' | exact hg' | exact hlay | with_reducible trivial | with_reducible rfl
    ·have hg' : (!!layBig pages stack nc starts.length data.length) = true:=by rw [hg]; rfl
     have he : errOf pages stack types nc data [] starts = 13:=by unfold errOf; rw [hl,ha,hf,hg]; rfl
     have hh:=lay_bigY a2 c2 em pages stack types nc data [] starts hi.len hi.nums hn
     rw [lenT_eq] at hh
     refine im_anyY em (run_ok i_names hb (lpOf_ok _) 10) hh ?_ rfl rfl ?_
     ·unfold layRes layV; rw [he]; rfl
     ·(try rw [em_rn em]); repeat' (with_reducible apply And.intro)
      all_goals first | exact h4 | exact h9 | exact hl' | exact ha' | exact hg' | exact hlay | with_reducible trivial | with_reducible rfl
   ·obtain ⟨j,hj,hv,hn⟩:=first_of _ _ hf
    have he : errOf pages stack types nc data [] starts = 2:=by unfold errOf; rw [hl,ha,hf]; rfl
    have hh:=lay_farY a2 c2 em pages stack types nc data [] starts j hi.len hi.nums hj (by simpa using hv) (fun i hij => by have:=hn i hij; simpa using this)
    rw [lenT_eq] at hh
    refine im_anyY em (run_ok i_names hb (lpOf_ok _) 10) hh ?_ rfl rfl ?_
    ·unfold layRes layV; rw [he]; rfl
    ·(try rw [em_rn em]); repeat' (with_reducible apply And.intro)
     all_goals first | exact h4 | exact h9 | exact hl' | exact ha' | with_reducible trivial | with_reducible rfl
  ·have ha' : (!!isArg pages stack types nc starts.length) = true:=by rw [ha]; rfl
   have he : errOf pages stack types nc data [] starts = 2:=by unfold errOf; rw [hl,ha]; rfl
   have hh:=lay_argY a2 c2 pages stack types nc data [] starts
   rw [lenT_eq] at hh
   refine im_anyY em (run_ok i_names hb (noLoop_ok _) 10) hh ?_ rfl rfl ?_
   ·unfold layRes layV; rw [he]; rfl
   ·(try rw [em_rn em]); repeat' (with_reducible apply And.intro)
    all_goals first | exact h4 | exact h9 | exact hl' | exact ha' | with_reducible trivial | with_reducible rfl
 ·have hl' : (!!isLong nc data.length 0 starts.length) = true:=by rw [show isLong nc data.length 0 starts.length = true from hl]; rfl
  have he : errOf pages stack types nc data [] starts = 3:=by unfold errOf; rw [hl]; rfl
  have hh:=lay_longY a2 c2 pages stack types nc data [] starts
  rw [lenT_eq] at hh
  refine im_anyY em (run_ok i_names hb (noLoop_ok _) 10) hh ?_ rfl rfl ?_
  ·unfold layRes layV; rw [he]; rfl
  ·(try rw [em_rn em]); repeat' (with_reducible apply And.intro)
   all_goals first | exact h4 | exact h9 | exact hl' | with_reducible trivial | with_reducible rfl
end Go.Proofs.Ytliidiceljdgmaa
namespace Go.Proofs.Ytliidiceljdgmaa
open Go.RowKit
open Sy
set_option maxRecDepth 100000
def bo1 (c da ds : Nat) : List Cp:=adL (decide ((0 : Int) < (ds : Int))) [mkCp 0 c 5 0] (mkCp da ds 27 0)
def bo2 (c da ds sa s ns : Nat) : List Cp:=bo1 c da ds ++ stL sa s ns
def bo3 (c da ds sa s t ns : Nat) : List Cp:=adL (decide ((0 : Int) < (t : Int))) (bo2 c da ds sa s ns) (mkCp 1 t 96 0)
def bootL (c da ds sa s t ns : Nat) (rs : List Rl) : List Cp:=bo3 c da ds sa s t ns ++ rlL da rs rs.length
def btC (v : Value) (hh : Sy.Heap) (l : List Cp) : Con:=⟨[v],67,hh,[],.tuple ⟨[.slice (some ⟨67,0,none⟩) l.length (big + 67),.int .i64 0]⟩,68,[(67,⟨false,some (0,0),cpL l,none⟩)],[]⟩
def btEC (v : Value) (hh : Sy.Heap) (e : Int) : Con:=⟨[v],67,hh,[],.tuple ⟨[.slice none 0 0,.int .i64 e]⟩,67,[],[]⟩
theorem adL_len (b : Bool) (l : List Cp) (x : Cp) : (adL b l x).length ≤ l.length + 1:=by
 unfold adL
 cases b
 ·exact Nat.le_succ _
 ·show (l ++ [x]).length ≤ _; rw [List.length_append]; exact Nat.le_refl _
theorem bo1_len (c da ds : Nat) : (bo1 c da ds).length ≤ 2:=adL_len _ _ _
theorem bo2_len (c da ds sa s ns : Nat) : (bo2 c da ds sa s ns).length ≤ 2 + ns:=by
 unfold bo2; rw [List.length_append,stL_len]; have:=bo1_len c da ds; omega
theorem bo3_len (c da ds sa s t ns : Nat) : (bo3 c da ds sa s t ns).length ≤ 3 + ns:=by
 have:=adL_len (decide ((0 : Int) < (t : Int))) (bo2 c da ds sa s ns) (mkCp 1 t 96 0)
 have:=bo2_len c da ds sa s ns
 unfold bo3; omega
theorem genJ_ok {q : Nat → Bool} (h4 : q 64 = true) (h6 : q 66 = true) (p s t : Int) (d : List UInt8) {a2 : Option Addr} {n2 c2 : Nat} (ha : okV q 2 (.slice a2 n2 c2) = true) (nc ns : Nat) : okV q 3 (genI p s t d (some ⟨64,0,none⟩) a2 (some ⟨66,0,none⟩) nc n2 ns (big + 64) c2 (big + 66)) = true:=by
 show List.all [Value.int .i64 p,.int .i64 s,.int .i64 t,.slice (some ⟨64,0,none⟩) nc (big + 64),.string ⟨⟨d⟩⟩,.slice a2 n2 c2,.slice (some ⟨66,0,none⟩) ns (big + 66)] (okV q 2) = true
 simp only [rr, tt, List.all_cons,List.all_nil,ha,Bool.and_true,Bool.true_and]
 simp [okV,bndA,h4,h6,flat0,big]
theorem btH_ok {q : Nat → Bool} (h : ∀ l,l < 67 → q l = true) (rs : List Rl) (so : List Nat) : OkH q (btH rs so) :=
 ⟨⟨h 65 (by omega),h 0 (by omega),flat_bnd (rels_flat rs)⟩,⟨h 66 (by omega),h 0 (by omega),flat_bnd (u32s_flat so)⟩,trivial⟩
theorem btHY_ok {q : Nat → Bool} (h : ∀ l,l < 67 → q l = true) (so : List Nat) : OkH q (btHY so):=⟨⟨h 66 (by omega),h 0 (by omega),flat_bnd (u32s_flat so)⟩,trivial⟩
theorem btC_flat (v : Value) (hh : Sy.Heap) (l : List Cp) : FlatC (btC v hh l):=⟨fun x hx _ => by
 obtain rfl:=List.mem_singleton.1 hx
 exact cpL_flat l⟩
theorem btC_wf {v : Value} {hh : Sy.Heap} (l : List Cp) (hv : okV (fun l => Nat.blt l 67) 3 v = true) (h : OkH (fun l => Nat.blt l 67) hh) : (btC v hh l).Wf 3 :=
 ⟨by show 64 ≤ 67; omega,by show 67 ≤ 68; omega,h,rfl,rfl,rfl,by show (okV _ 3 v && true) = true; rw [Bool.and_true]; exact hv,rfl,fun x hx w hw => by
  obtain rfl:=List.mem_singleton.1 hx
  exact okV_flat0 (cpL_flat l w hw) 3⟩
theorem btEC_wf {v : Value} {hh : Sy.Heap} (e : Int) (hv : okV (fun l => Nat.blt l 67) 3 v = true) (h : OkH (fun l => Nat.blt l 67) hh) : (btEC v hh e).Wf 3 :=
 ⟨by show 64 ≤ 67; omega,Nat.le_refl _,h,rfl,rfl,rfl,by show (okV _ 3 v && true) = true; rw [Bool.and_true]; exact hv,rfl,fun x hx => by cases hx⟩
theorem btEC_run {call : CallK} (hc : SoundCall Try.prog call) {f : FuncId} {v : Value} {hh : Sy.Heap} {e : Int} {T : List (Nat × Bool)} {q : Prop} (hv : okV (fun l => Nat.blt l 67) 3 v = true) (hk : OkH (fun l => Nat.blt l 67) hh) (h : obs (call f [v] ⟨67,hh,[],0,T,0,True⟩) = some (.tuple ⟨[.slice none 0 0,.int .i64 e]⟩,q)) (hq : q) : ConOk Try.prog f 3 (btEC v hh e):=by
 unfold obs at h
 obtain ⟨⟨v',s'⟩,h1,h2⟩:=oM h
 cases h2
 exact conOk_run hc (btEC_wf e hv hk) h1 hq (p:=fun l => Nat.blt l 67) (σ:=id) ⟨fun _ _ => rfl,trivial,rfl,trivial,⟨rfl,rfl⟩,rfl,trivial,rfl,okV_bnd 3 _ rfl,fun x hx => by cases hx⟩
theorem btC_run {call : CallK} (hc : SoundCall Try.prog call) {f : FuncId} {v : Value} {hh : Sy.Heap} {l : List Cp} {X : Nat} (hX : 67 ≤ X) {T : List (Nat × Bool)} {s' : St} (hv : okV (fun l => Nat.blt l 67) 3 v = true) (hk : OkH (fun l => Nat.blt l 67) hh) (h : call f [v] ⟨67,hh,[],0,T,0,True⟩ = some (.tuple ⟨[.slice (some ⟨X,0,none⟩) l.length (big + X),.int .i64 0]⟩,s')) (hq : s'.O) (hh' : Sy.look s'.h X = some ⟨true,some (X,8),cpL l,none⟩) (hno : Sy.look hh X = none) : ConOk Try.prog f 3 (btC v hh l):=by
 have hs : toσ 67 X 67 = X:=if_pos rfl
 refine conOk_run hc (btC_wf l hv hk) h hq (p:=fun l => Nat.blt l 68) (σ:=toσ 67 X) ⟨fun l hl => if_neg (by have : NG = 64:=rfl; omega),⟨⟨rfl,cp_all _ _,rfl,?_⟩,trivial⟩,rfl,trivial,⟨rfl,?_⟩,rfl,⟨⟨rfl,rfl,flat_bnd (cpL_flat l)⟩,trivial⟩,rfl,?_,fun x hx hrw => ?_⟩
 ·rw [hs,hh']; exact ⟨rfl,(by rw [show looseB (67,(⟨false,some (0,0),cpL l,none⟩ : Sy.Blk)).2 = true from rfl,Bool.or_true]),trivial,(cp_map _ _).symm⟩
 ·have h1 : rnC (toσ 67 X) (big + 67) = big + X:=by
   unfold rnC
   rw [blt_no (by omega : big ≤ big + 67),show big + 67 - big = 67 from Nat.add_sub_cancel_left _ _,hs]; rfl
  show Value.tuple ⟨[.slice (some ⟨X,0,none⟩) l.length (big + X),.int .i64 0]⟩ = .tuple ⟨[.slice (some ⟨toσ 67 X 67,0,none⟩) l.length (rnC (toσ 67 X) (big + 67)),.int .i64 0]⟩
  rw [h1,hs]
 ·exact okV_bnd 3 _ rfl
 ·obtain rfl:=List.mem_singleton.1 hx
  exact .inr (by show Sy.look hh (toσ 67 X 67) = none; rw [hs]; exact hno)
theorem bootF_con (p s t nc : Nat) (d : List UInt8) (rs : List Rl) (so : List Nat) (c da ds sa ss ha hs : Nat) (h1 : so.length ≤ 4) (h2 : s ≤ 4096) (h3 : sa < 500000) (k1 : rs.length ≤ 256) (k2 : ∀ r ∈ rs,RlOk r) (k3 : da < 500000) (h5 : c < 500000) (h6 : ds < 500000) (h7 : t ≤ 2048)
  (hlay : ConOk Try.prog 16 3 (layG (genJ p s t d (some ⟨65,0,none⟩) nc rs.length so.length (big + 65)) (btH rs so) c da ds sa ss ha hs)) : ConOk Try.prog 8 3 (btC (genJ p s t d (some ⟨65,0,none⟩) nc rs.length so.length (big + 65)) (btH rs so) (bootL c da ds sa s t so.length rs)):=by
 have n1:=bo1_len c da ds
 have n2:=bo2_len c da ds sa s so.length
 have n3:=bo3_len c da ds sa s t so.length
 have hv1 : ∀ σ : Nat → Nat,(∀ l,l < 67 → σ l = l) → rnV σ 3 (.slice (some ⟨65,0,none⟩) rs.length (big + 65)) = .slice (some ⟨65,0,none⟩) rs.length (big + 65):=fun σ hσ => by
  show Value.slice (some ⟨σ 65,0,none⟩) rs.length (rnC σ (big + 65)) = _
  rw [hσ 65 (by omega)]
  unfold rnC
  rw [blt_no (by omega : big ≤ big + 65),show big + 65 - big = 65 from Nat.add_sub_cancel_left _ _,hσ 65 (by omega)]; rfl
 have hw : ∀ q : Nat → Bool,(∀ l,l < 85 → q l = true) → okV q 3 (.slice (some ⟨65,0,none⟩) rs.length (big + 65)) = true:=fun q hq => by
  simp [okV,bndA,hq 65 (by omega),big]
 have hr:=bt_f p s t nc d rs so c da ds sa ss ha hs (bo1 c da ds) (bo2 c da ds sa s so.length) (bo3 c da ds sa s t so.length) (bootL c da ds sa s t so.length rs) h1 h2 h3 (by omega) rfl rfl hv1 hw k1 k2 k3 (by omega) rfl
 refine btC_run (X:=93) (run_ok (L:=100) ar_names (baseF_ok (selSteps_ok fun x hx => ?_) (baseC_ok selMk_ok)) (lpEsc_ok _) 20) (by omega) (genJ_ok rfl rfl _ _ _ _ rfl _ _) (btH_ok (fun l hl => blt_yes hl) rs so) hr ?_ rfl rfl
 ·simp only [rr, tt, btL,List.mem_cons,List.not_mem_nil,or_false] at hx
  rcases hx with rfl | rfl | rfl | rfl
  ·exact ⟨hlay,⟨fun x hx => by cases hx⟩⟩
  ·exact adC0_ok _
  ·exact adC_ok _ _ _ _ (by simp) rfl
  ·exact adC_ok _ _ _ _ (by omega) rfl
 ·have f1 : ∀ (p : Nat → Bool),(rels rs).all (okV p 3) = true:=fun p => flat_all (rels_flat rs)
  have f2 : ∀ (σ : Nat → Nat),(rels rs).map (rnV σ 3) = rels rs:=fun σ => flat_map (rels_flat rs)
  have f3 : ∀ (xs : List Nat) (p : Nat → Bool),(u32s xs).all (okV p 3) = true:=fun xs p => flat_all (u32s_flat _)
  have f4 : ∀ (xs : List Nat) (σ : Nat → Nat),(u32s xs).map (rnV σ 3) = u32s xs:=fun xs σ => flat_map (u32s_flat _)
  have e7 : IntKind.u32.wrap (t : Int) = (t : Int):=w32A t (by omega)
  simp only [rr, tt, e7,Int.toNat_natCast,cp_all,cp_map,f1,f2,f3,f4,gt_iff_lt,and_true,true_and,and_self,Nat.le_refl]
  repeat' (with_reducible apply And.intro)
  all_goals omega
theorem em_on {a2 : Option Addr} {c2 : Nat} (em : EmOk a2 c2) (σ : Nat → Nat) (h : ∀ l,l < 67 → σ l = l) (d : Nat) : rnV σ d (.slice a2 0 c2) = .slice a2 0 c2 :=
 rnV_on (p:=fun l => Nat.blt l 67) (σ:=σ) (fun l hl => h l (by simpa using hl)) d (.slice a2 0 c2) (em _ d fun l hl => blt_yes hl)
theorem bootY_con (p s t nc : Nat) (d : List UInt8) (a2 : Option Addr) (c2 : Nat) (em : EmOk a2 c2) (so : List Nat) (c da ds sa ss ha hs : Nat) (h1 : so.length ≤ 4) (h2 : s ≤ 4096) (h3 : sa < 500000) (k3 : da < 500000) (h5 : c < 500000) (h6 : ds < 500000) (h7 : t ≤ 2048)
  (hlay : ConOk Try.prog 16 3 (layG (genJ p s t d a2 nc 0 so.length c2) (btHY so) c da ds sa ss ha hs)) : ConOk Try.prog 8 3 (btC (genJ p s t d a2 nc 0 so.length c2) (btHY so) (bo3 c da ds sa s t so.length)):=by
 have n1:=bo1_len c da ds
 have n2:=bo2_len c da ds sa s so.length
 have hr:=bt_y p s t nc d a2 c2 so c da ds sa ss ha hs (bo1 c da ds) (bo2 c da ds sa s so.length) (bo3 c da ds sa s t so.length) h1 h2 h3 (by omega) rfl (em _ 3 fun l hl => blt_yes (by omega)) (fun σ hσ => em_on em σ hσ 3) (fun q hq => em q 3 fun l hl => hq l (by omega))
 refine btC_run (X:=92) (run_ok (L:=100) ar_names (baseF_ok (selSteps_ok fun x hx => ?_) (baseC_ok selMk_ok)) (lpEsc_ok _) 20) (by omega) (genJ_ok rfl rfl _ _ _ _ (em _ 2 fun l hl => blt_yes hl) _ _) (btHY_ok (fun l hl => blt_yes hl) so) hr ?_ rfl rfl
 ·simp only [rr, tt, btL,List.mem_cons,List.not_mem_nil,or_false] at hx
  rcases hx with rfl | rfl | rfl | rfl
  ·exact ⟨hlay,⟨fun x hx => by cases hx⟩⟩
  ·exact adC0_ok _
  ·exact adC_ok _ _ _ _ (by simp) rfl
  ·exact adC_ok _ _ _ _ (by omega) rfl
 ·have f3 : ∀ (xs : List Nat) (p : Nat → Bool),(u32s xs).all (okV p 3) = true:=fun xs p => flat_all (u32s_flat _)
  have f4 : ∀ (xs : List Nat) (σ : Nat → Nat),(u32s xs).map (rnV σ 3) = u32s xs:=fun xs σ => flat_map (u32s_flat _)
  have e7 : IntKind.u32.wrap (t : Int) = (t : Int):=w32A t (by omega)
  simp only [rr, tt, e7,em_rn em,Int.toNat_natCast,cp_all,cp_map,f3,f4,gt_iff_lt,and_true,true_and,and_self,Nat.le_refl]
  repeat' (with_reducible apply And.intro)
  all_goals omega
theorem bootE_con (p s t e : Int) (d : List UInt8) (a1 a2 a3 : Option Addr) (n1 n2 n3 c1 c2 c3 : Nat) (hv : okV (fun l => Nat.blt l 67) 3 (genI p s t d a1 a2 a3 n1 n2 n3 c1 c2 c3) = true) (he : (e != 0) = true)
  (hlay : ConOk Try.prog 16 3 (layEC (genI p s t d a1 a2 a3 n1 n2 n3 c1 c2 c3) e)) : ConOk Try.prog 8 3 (btEC (genI p s t d a1 a2 a3 n1 n2 n3 c1 c2 c3) [] e):=by
 refine btEC_run (run_ok (L:=100) ar_names (baseT_ok (selStepsT_ok fun x hx => ?_) (noBase_ok _)) (noLoop_ok _) 20) hv trivial (bt_e p s t e d a1 a2 a3 n1 n2 n3 c1 c2 c3 []) ?_
 ·obtain rfl:=List.mem_singleton.1 hx
  exact ⟨hlay,⟨fun x hx => (by cases hx),fun x hx => (by cases hx)⟩⟩
 ·simp only [rr, tt, he,and_true,true_and,and_self]
theorem bootEF_con (p s t e : Int) (d : List UInt8) (nc : Nat) (rs : List Rl) (so : List Nat) (he : (e != 0) = true)
  (hlay : ConOk Try.prog 16 3 (layEH (genI p s t d (some ⟨64,0,none⟩) (some ⟨65,0,none⟩) (some ⟨66,0,none⟩) nc rs.length so.length (big + 64) (big + 65) (big + 66)) (btH rs so) e)) : ConOk Try.prog 8 3 (btEC (genI p s t d (some ⟨64,0,none⟩) (some ⟨65,0,none⟩) (some ⟨66,0,none⟩) nc rs.length so.length (big + 64) (big + 65) (big + 66)) (btH rs so) e):=by
 refine btEC_run (run_ok (L:=100) ar_names (baseF_ok (selSteps_ok fun x hx => ?_) (noBase_ok _)) (noLoop_ok _) 20) (genJ_ok rfl rfl _ _ _ _ rfl _ _) (btH_ok (fun l hl => blt_yes hl) rs so) (bt_ef p s t e d nc rs so) ?_
 ·obtain rfl:=List.mem_singleton.1 hx
  exact ⟨hlay,⟨fun x hx => by cases hx⟩⟩
 ·have f1 : ∀ (p : Nat → Bool),(rels rs).all (okV p 3) = true:=fun p => flat_all (rels_flat rs)
  have f2 : ∀ (σ : Nat → Nat),(rels rs).map (rnV σ 3) = rels rs:=fun σ => flat_map (rels_flat rs)
  have f3 : ∀ (xs : List Nat) (p : Nat → Bool),(u32s xs).all (okV p 3) = true:=fun xs p => flat_all (u32s_flat _)
  have f4 : ∀ (xs : List Nat) (σ : Nat → Nat),(u32s xs).map (rnV σ 3) = u32s xs:=fun xs σ => flat_map (u32s_flat _)
  simp only [rr, tt, he,f1,f2,f3,f4,and_true,true_and,and_self]
theorem bootEY_con (p s t e : Int) (d : List UInt8) (a2 : Option Addr) (c2 : Nat) (em : EmOk a2 c2) (nc : Nat) (so : List Nat) (he : (e != 0) = true)
  (hlay : ConOk Try.prog 16 3 (layEH (genI p s t d (some ⟨64,0,none⟩) a2 (some ⟨66,0,none⟩) nc 0 so.length (big + 64) c2 (big + 66)) (btHY so) e)) : ConOk Try.prog 8 3 (btEC (genI p s t d (some ⟨64,0,none⟩) a2 (some ⟨66,0,none⟩) nc 0 so.length (big + 64) c2 (big + 66)) (btHY so) e):=by
 refine btEC_run (run_ok (L:=100) ar_names (baseF_ok (selSteps_ok fun x hx => ?_) (noBase_ok _)) (noLoop_ok _) 20) (genJ_ok rfl rfl _ _ _ _ (em _ 2 fun l hl => blt_yes hl) _ _) (btHY_ok (fun l hl => blt_yes hl) so) (bt_ey p s t e d a2 c2 nc so) ?_
 ·obtain rfl:=List.mem_singleton.1 hx
  exact ⟨hlay,⟨fun x hx => by cases hx⟩⟩
 ·have f3 : ∀ (xs : List Nat) (p : Nat → Bool),(u32s xs).all (okV p 3) = true:=fun xs p => flat_all (u32s_flat _)
  have f4 : ∀ (xs : List Nat) (σ : Nat → Nat),(u32s xs).map (rnV σ 3) = u32s xs:=fun xs σ => flat_map (u32s_flat _)
  simp only [rr, tt, he,em_rn em,f3,f4,and_true,true_and,and_self]
end Go.Proofs.Ytliidiceljdgmaa
namespace Go.Proofs.Ytliidiceljdgmaa
open Go.RowKit
open Sy
set_option maxRecDepth 100000
structure LqOk (p s t : Nat) (cs : List Nat) (d : List UInt8) (so : List Nat) (c da ds sa ss ha hs : Nat) : Prop where
 p1 : 16 ≤ p
 p2 : p ≤ 1024
 s2 : s ≤ 4096
 t2 : t ≤ 2048
 n1 : cs.length ≤ 4096
 hso : ∀ x ∈ so,x < 4096
 hcs : ∀ x ∈ cs,x < 4294967296
 hc : 4 * cs.length ≤ c
 hda : da = c
 hds : d.length ≤ ds
 hsa : sa = c + ds
 fit : sa < p * 256
theorem ar69W_okV (q : Nat → Bool) (h : ∀ l,l < 74 → q l = true) (zs : List UInt8) (f : Nat → Bool) (N m n : Nat) : ∀ x ∈ ar69W zs f N m n,∀ v ∈ x.2.cells,okV q 3 v = true:=fun x hx v hv => by
 simp only [rr, tt, ar69W,List.mem_cons,List.not_mem_nil,or_false] at hx
 rcases hx with rfl | rfl | rfl | rfl
 ·exact (ar69_cell (h 69 (by omega)) (h 70 (by omega)) (h 71 (by omega)) N m n).1 v hv
 ·exact (ar69_cell (h 69 (by omega)) (h 70 (by omega)) (h 71 (by omega)) N m n).2 v hv
 ·exact okV_flat0 (v64_flat _ v hv) 3
 ·exact okV_flat0 (u8s_flatA zs v hv) 3
end Go.Proofs.Ytliidiceljdgmaa
namespace Go.Proofs.Ytliidiceljdgmaa
open Go.RowKit
open Sy
set_option maxRecDepth 100000
def zsB (p : Nat) (cs : List Nat) (da : Nat) (d : List UInt8) : List UInt8:=patA da d (codeZ cs cs.length (List.replicate (p * 256) 0))
theorem zsB_ok {p s t : Nat} {cs : List Nat} {d : List UInt8} {so : List Nat} {c da ds sa ss ha hs : Nat} (h : LqOk p s t cs d so c da ds sa ss ha hs) : ArOk (zsB p cs da d) (p * 256) (nGran p) (nWord p):=by
 have e0:=h.hc; have e2:=h.hda; have e3:=h.hds; have e4:=h.hsa; have e5:=h.fit; have e6:=h.p2
 have hz:=newA_ok p h.p1 h.p2
 have hzl : (codeZ cs cs.length (List.replicate (p * 256) 0)).length = p * 256:=by rw [codeZ_len _ _ _ (by rw [hz.len]; omega),hz.len]
 exact ⟨by unfold zsB; rw [patA_len _ _ _ (by rw [hzl]; omega),hzl],hz.tags,hz.words,hz.few,hz.big⟩
theorem lqH_ok {q : Nat → Bool} (h : ∀ l,l < 67 → q l = true) (cs : List Nat) (rs : List Rl) (so : List Nat) : OkH q (lqH cs rs so) :=
 ⟨⟨h 64 (by omega),h 0 (by omega),flat_bnd (u32s_flat cs)⟩,btH_ok h rs so⟩
theorem lqHY_ok {q : Nat → Bool} (h : ∀ l,l < 67 → q l = true) (cs : List Nat) (so : List Nat) : OkH q (lqHY cs so) :=
 ⟨⟨h 64 (by omega),h 0 (by omega),flat_bnd (u32s_flat cs)⟩,btHY_ok h so⟩
end Go.Proofs.Ytliidiceljdgmaa
namespace Go.Proofs.Ytliidiceljdgmaa
open Go.RowKit
open Sy
set_option maxRecDepth 100000
def cpO : Cp:=⟨0,0,0,0,0,0,false⟩
def cpG (b a s p : Nat) : Cp:=⟨gA b a s p,gE b a s p,gB b a s p,gT b a s p,gP b a s p,0,gV b a s p⟩
def cpPc (c to : Nat) : Cp:=⟨to,mE 0 c 5,mB 0 c 5,mT 0 c 5,mP 0 c 5,0,adV (mA 0 c 5) (mE 0 c 5) (mB 0 c 5) (mT 0 c 5) 0 (mV 0 c 5) to⟩
def frCps (c da ds sa s t : Nat) (so : List Nat) (k : Nat) : List Cp:=[cpO,cpG ds da ds 27,cpG t 1 t 96,cpO,cpO,cpO,cpO,cpO,cpO,cpO,cpO,cpO,cpO,cpO,mkCp (sa + k * s) s 27 0,cpO,cpPc c (4 * so.getD k 0)]
def frCp (c da ds sa s t : Nat) (so : List Nat) : Nat → List Cp
 | 0 => []
 | k + 1 => frCp c da ds sa s t so k ++ frCps c da ds sa s t so k
theorem frC_cp (c da ds sa s t : Nat) (so : List Nat) (k : Nat) : frC c da ds sa s t so k = cpL (frCps c da ds sa s t so k):=by
 simp only [rr, tt, frC,frCps,cpL,List.flatMap_cons,List.flatMap_nil,List.append_nil,List.append_assoc]
 rfl
theorem frL_cp (c da ds sa s t : Nat) (so : List Nat) : ∀ j,frL c da ds sa s t so j = cpL (frCp c da ds sa s t so j)
 | 0 => rfl
 | j + 1 => by
  unfold frL frCp
  rw [frL_cp c da ds sa s t so j,frC_cp]
  unfold cpL
  rw [List.flatMap_append]
theorem frCp_len (c da ds sa s t : Nat) (so : List Nat) : ∀ j,(frCp c da ds sa s t so j).length = 17 * j
 | 0 => rfl
 | j + 1 => by unfold frCp; rw [List.length_append,frCp_len c da ds sa s t so j]; simp [frCps]; omega
def luRes (j : Nat) : Value:=.tuple ⟨[.pointer (some ⟨72,0,none⟩),.slice (some ⟨73,0,none⟩) j (big + 73),.int .i64 0]⟩
def luCon (v : Value) (hh : Sy.Heap) (p : Nat) (zs : List UInt8) (f : Nat → Bool) (fl : List Cp) (j : Nat) : Con :=
 ⟨[v],67,hh,[],luRes j,74,ar69W zs f (p * 256) (nGran p) (nWord p) ++ [(73,⟨false,some (0,0),cpL fl,none⟩)],[(70,nWord p),(69,p * 256)]⟩
theorem luCon_flat (v : Value) (hh : Sy.Heap) (p : Nat) (zs : List UInt8) (f : Nat → Bool) (fl : List Cp) (j : Nat) : FlatC (luCon v hh p zs f fl j):=⟨fun x hx hne => by
 simp only [rr, tt, luCon,ar69W,List.cons_append,List.nil_append,List.mem_cons,List.not_mem_nil,or_false] at hx
 rcases hx with rfl | rfl | rfl | rfl | rfl
 ·exact absurd rfl hne
 ·exact absurd rfl hne
 ·exact v64_flat _
 ·exact u8s_flatA _
 ·exact cpL_flat fl⟩
theorem luRes_ok {q : Nat → Bool} (j : Nat) (h : ∀ l,l < 74 → q l = true) : okV q 3 (luRes j) = true:=by
 have h2:=h 72 (by omega)
 have h3:=h 73 (by omega)
 simp [luRes,okV,bndA,h2,h3,flat0,big]
theorem luCon_wf {v : Value} {hh : Sy.Heap} (p : Nat) (zs : List UInt8) (f : Nat → Bool) (fl : List Cp) (j : Nat) (hv : okV (fun l => Nat.blt l 67) 3 v = true) (hk0 : OkH (fun l => Nat.blt l 67) hh) : (luCon v hh p zs f fl j).Wf 3:=by
 refine ⟨by show 64 ≤ 67; omega,by show 67 ≤ 74; omega,hk0,rfl,rfl,rfl,by show (okV _ 3 v && true) = true; rw [Bool.and_true]; exact hv,luRes_ok j lt74,?_⟩
 intro x hx w hw
 simp only [rr, tt, luCon,List.mem_append,List.mem_singleton] at hx
 rcases hx with hx | rfl
 ·exact ar69W_okV _ lt74 _ _ _ _ _ x hx w hw
 ·exact okV_flat0 (cpL_flat _ w hw) 3
theorem rn_big (σ : Nat → Nat) (g : Nat) : rnC σ (big + g) = big + σ g:=by
 unfold rnC
 rw [blt_no (by omega : big ≤ big + g),show big + g - big = g from Nat.add_sub_cancel_left _ _]; rfl
theorem lu_ends {v : Value} {hh : Sy.Heap} (p : Nat) (zs : List UInt8) (f : Nat → Bool) (fl : List Cp) (j X : Nat) (hX : 73 ≤ X) (hno : Sy.look hh X = none) {s' : Sy.St} {u : Value} {k : Sy.Blk} {ws cs : List Value} (hu : u = .tuple ⟨[.pointer (some ⟨72,0,none⟩),.slice (some ⟨X,0,none⟩) j (big + X),.int .i64 0]⟩) (h72 : Sy.look s'.h 72 = some ⟨true,none,[.pointer (some ⟨71,0,none⟩),.slice (some ⟨69,0,none⟩) (p * 256) (big + 69)],none⟩) (h71 : Sy.look s'.h 71 = some ⟨true,none,[.int .i64 (nGran p : Nat),.slice (some ⟨70,0,none⟩) (nWord p) (big + 70)],none⟩)
  (h70 : Sy.look s'.h 70 = some ⟨true,some (70,1),ws,none⟩) (hws : ws = v64 (wordsB f (nWord p))) (h69 : Sy.look s'.h 69 = some ⟨true,some (69,1),u8s zs,none⟩) (hk : Sy.look s'.h X = some k) (hc : k.cells = cs) (hcs : cs = cpL fl) (hi : k.it = none) (hlo : loHas s'.lo 70 (nWord p) ∧ loHas s'.lo 69 (p * 256)) : (luCon v hh p zs f fl j).Ends 3 (fun l => Nat.blt l 74) (toσ 73 X) u s':=by
 have hlow : ∀ l,l < 73 → toσ 73 X l = l:=fun l hl => if_neg (by omega)
 have h3 : toσ 73 X 73 = X:=if_pos rfl
 have hr : ∀ l : List Value,(∀ w ∈ l,okV (fun l => Nat.blt l 73) 3 w = true) → l.map (rnV (toσ 73 X) 3) = l:=fun l hl => by
  rw [List.map_congr_left (g:=id) (fun w hw => rnV_on (p:=fun l => Nat.blt l 73) (fun l hl => hlow l (by simpa using hl)) 3 w (hl w hw))]
  simp
 have hc73:=ar69_cell (q:=fun l => Nat.blt l 73) rfl rfl rfl (p * 256) (nGran p) (nWord p)
 have hc74:=ar69_cell (q:=fun l => Nat.blt l 74) rfl rfl rfl (p * 256) (nGran p) (nWord p)
 have hkp : ∀ l,l < 73 → keeps 67 74 (toσ 73 X) (fun l => Nat.blt l 74) l = true:=fun l hl => by
  show (Nat.blt l NG || (bif Nat.blt l 67 then (Nat.beq (toσ 73 X l) l && Nat.blt l 74) else Nat.blt l 74)) = true
  rw [hlow l hl,blt_yes (by omega : l < 74),Nat.beq_refl]
  cases Nat.blt l NG <;> cases Nat.blt l 67 <;> rfl
 have hk3 : keeps 67 74 (toσ 73 X) (fun l => Nat.blt l 74) 73 = true:=rfl
 have hkA : ∀ l,l < 74 → keeps 67 74 (toσ 73 X) (fun l => Nat.blt l 74) l = true:=fun l hl => by
  by_cases h : l = 73
  ·subst h; exact hk3
  ·exact hkp l (by omega)
 refine ⟨fun l hl => hlow l (by have : NG = 64:=rfl; omega),⟨⟨rfl,List.all_eq_true.2 hc74.1,rfl,?_⟩,⟨rfl,List.all_eq_true.2 hc74.2,rfl,?_⟩,⟨rfl,flat_all (v64_flat _),rfl,?_⟩,⟨rfl,flat_all (u8s_flatA zs),rfl,?_⟩,⟨rfl,cp_all _ _,rfl,?_⟩,trivial⟩,?_,⟨⟨rfl,?_⟩,⟨rfl,?_⟩,trivial⟩,⟨luRes_ok j lt74,?_⟩,rfl,?_,rfl,okV_bnd 3 _ (luRes_ok j hkA),fun x hx hrw => ?_⟩
 ·show match Sy.look s'.h (toσ 73 X 72) with | none => False | some k1 => _
  rw [hlow 72 (by omega),h72]; exact ⟨rfl,rfl,trivial,(hr _ hc73.1).symm⟩
 ·show match Sy.look s'.h (toσ 73 X 71) with | none => False | some k1 => _
  rw [hlow 71 (by omega),h71]; exact ⟨rfl,rfl,trivial,(hr _ hc73.2).symm⟩
 ·show match Sy.look s'.h (toσ 73 X 70) with | none => False | some k1 => _
  rw [hlow 70 (by omega),h70]
  refine ⟨rfl,?_,trivial,?_⟩
  ·show (opB (some (70,1)) (some (toσ 73 X 70,1)) || _) = true
   rw [hlow 70 (by omega)]; rfl
  ·show ws = _
   rw [flat_map (v64_flat _),hws]
 ·show match Sy.look s'.h (toσ 73 X 69) with | none => False | some k1 => _
  rw [hlow 69 (by omega),h69]
  refine ⟨rfl,?_,trivial,?_⟩
  ·show (opB (some (69,1)) (some (toσ 73 X 69,1)) || _) = true
   rw [hlow 69 (by omega)]; rfl
  ·show u8s zs = _
   rw [flat_map (u8s_flatA _)]
 ·show match Sy.look s'.h (toσ 73 X 73) with | none => False | some k1 => _
  rw [h3,hk]
  exact ⟨rfl,by simp [looseB,opB,noIt],by rw [hi]; trivial,by rw [cp_map,hc,hcs]⟩
 ·have e : ∀ a b : Nat,a ≠ b → Nat.beq a b = false:=fun a b h => by
   cases hb : Nat.beq a b
   ·rfl
   ·exact absurd (eB hb) h
  simp only [rr, tt, luCon,ar69W,List.cons_append,List.nil_append,injB,List.all_cons,List.all_nil,Bool.and_true,h3,hlow 72 (by omega),hlow 71 (by omega),hlow 70 (by omega),hlow 69 (by omega)]
  rw [e 72 71 (by omega),e 72 70 (by omega),e 72 69 (by omega),e 72 X (by omega),e 71 70 (by omega),e 71 69 (by omega),e 71 X (by omega),e 70 69 (by omega),e 70 X (by omega),e 69 X (by omega)]
  rfl
 ·rw [hlow 70 (by omega)]; exact hlo.1
 ·rw [hlow 69 (by omega)]; exact hlo.2
 ·rw [hu]
  show Value.tuple ⟨[.pointer (some ⟨72,0,none⟩),.slice (some ⟨X,0,none⟩) j (big + X),.int .i64 0]⟩ = .tuple ⟨[.pointer (some ⟨toσ 73 X 72,0,none⟩),.slice (some ⟨toσ 73 X 73,0,none⟩) j (rnC (toσ 73 X) (big + 73)),.int .i64 0]⟩
  rw [rn_big,h3,hlow 72 (by omega)]
 ·exact ar69W_okH hkA _ _ _ _ _ ⟨⟨hk3,rfl,flat_bnd (cpL_flat fl)⟩,trivial⟩
 ·simp only [rr, tt, luCon,ar69W,List.cons_append,List.nil_append,List.mem_cons,List.not_mem_nil,or_false] at hx
  rcases hx with rfl | rfl | rfl | rfl | rfl
  ·cases hrw
  ·cases hrw
  ·cases hrw
  ·cases hrw
  ·right; rw [h3]; exact hno
end Go.Proofs.Ytliidiceljdgmaa
namespace Go.Proofs.Ytliidiceljdgmaa
open Go.RowKit
open Sy
set_option maxRecDepth 100000
theorem ar70_cell {q : Nat → Bool} (h9 : q 70 = true) (h0 : q 71 = true) (h1 : q 72 = true) (N m n : Nat) : (∀ v ∈ ([.pointer (some ⟨72,0,none⟩),.slice (some ⟨70,0,none⟩) N (big + 70)] : List Value),okV q 3 v = true) ∧ ∀ v ∈ ([.int .i64 (m : Nat),.slice (some ⟨71,0,none⟩) n (big + 71)] : List Value),okV q 3 v = true:=by
 constructor <;> intro v hv <;> simp only [rr, tt, List.mem_cons,List.not_mem_nil,or_false] at hv <;> rcases hv with rfl | rfl <;> simp [okV,bndA,h9,h0,h1,flat0]
structure LlOk (cs : List Nat) (zs : List UInt8) (N m n : Nat) : Prop where
 ar : ArOk zs N m n
 few : cs.length ≤ 4096
 fit : 4 * cs.length ≤ N
 is : ∀ k,k < cs.length → numA zs (4 * k) = cs.getD k 0
end Go.Proofs.Ytliidiceljdgmaa
namespace Go.Proofs.Ytliidiceljdgmaa
open Go.RowKit
open Sy
set_option maxRecDepth 100000
def capZ (c e b t p y r : Int) (v : Bool) : Value:=.agg ⟨[.int .u32 c,.int .u8 e,.int .u16 b,.int .u16 t,.int .u16 p,.int .u16 y,.int .u32 r,.bool v]⟩
def rgLo (c e b t : Int) : Nat:=(decN e.toNat b.toNat t.toNat c.toNat).1
def rgHi (c e b t : Int) : Nat:=(decN e.toNat b.toNat t.toNat c.toNat).2
def rangeZ (c e b t p y r : Int) (v : Bool) : Con:=Con.pure [capZ c e b t p y r v] (.tuple ⟨[.int .u32 (rgLo c e b t : Nat),.int .u64 (rgHi c e b t : Nat)]⟩)
def meetsZ (c e b t p y r : Int) (v : Bool) (a s : Int) : Con:=Con.pure [capZ c e b t p y r v,.agg ⟨[.int .u32 a,.int .u32 s]⟩] (.bool (meetsN (rgLo c e b t) (rgHi c e b t) a.toNat s.toNat))
def capHyp (c e b t p y r : Int) : Prop:=0 ≤ c ∧ c < 4294967296 ∧ 0 ≤ e ∧ e < 256 ∧ 0 ≤ b ∧ b < 65536 ∧ 0 ≤ t ∧ t < 65536 ∧ 0 ≤ p ∧ p < 65536 ∧ 0 ≤ y ∧ y < 65536 ∧ 0 ≤ r ∧ r < 4294967296
def rangeY (rl rh : Int → Int → Int → Int → Nat) (c e b t p y r : Int) (v : Bool) : Con:=Con.pure [capZ c e b t p y r v] (.tuple ⟨[.int .u32 (rl c e b t : Nat),.int .u64 (rh c e b t : Nat)]⟩)
def meetsY (mt : Int → Int → Int → Int → Int → Int → Bool) (c e b t p y r : Int) (v : Bool) (a s : Int) : Con:=Con.pure [capZ c e b t p y r v,.agg ⟨[.int .u32 a,.int .u32 s]⟩] (.bool (mt c e b t a s))
def mtIs (c e b t a s : Int) : Bool:=meetsN (rgLo c e b t) (rgHi c e b t) a.toNat s.toNat
def selRg (rl rh : Int → Int → Int → Int → Nat) (mt : Int → Int → Int → Int → Int → Int → Bool) : SelC:=fun f args _ => bif Nat.beq f 23 then
 match args with
 | [.agg ⟨[.int .u32 c,.int .u8 e,.int .u16 b,.int .u16 t,.int .u16 p,.int .u16 y,.int .u32 r,.bool v]⟩] => some (rangeY rl rh c e b t p y r v,[],capHyp c e b t p y r)
 | _ => none
 else bif Nat.beq f 19 then
 match args with
 | [.agg ⟨[.int .u32 c,.int .u8 e,.int .u16 b,.int .u16 t,.int .u16 p,.int .u16 y,.int .u32 r,.bool v]⟩,.agg ⟨[.int .u32 a,.int .u32 s]⟩] => some (meetsY mt c e b t p y r v a s,[],capHyp c e b t p y r ∧ 0 ≤ a ∧ a < 4294967296 ∧ 0 ≤ s ∧ s < 4294967296)
 | _ => none
 else none
theorem range_con (c e b t p y r : Int) (v : Bool) (h : capHyp c e b t p y r) : ConOk Try.prog 23 3 (rangeZ c e b t p y r v):=by
 obtain ⟨h1,h2,h3,h4,h5,h6,h7,h8,h9,h10,h11,h12,h13,h14⟩:=h
 obtain ⟨c,rfl⟩:=Int.eq_ofNat_of_zero_le h1
 obtain ⟨e,rfl⟩:=Int.eq_ofNat_of_zero_le h3
 obtain ⟨b,rfl⟩:=Int.eq_ofNat_of_zero_le h5
 obtain ⟨t,rfl⟩:=Int.eq_ofNat_of_zero_le h7
 obtain ⟨p,rfl⟩:=Int.eq_ofNat_of_zero_le h9
 obtain ⟨y,rfl⟩:=Int.eq_ofNat_of_zero_le h11
 obtain ⟨r,rfl⟩:=Int.eq_ofNat_of_zero_le h13
 refine conOk_pure (d:=1) (enters_b ar_names (by kernel_rfl)) (fun u hu => ?_) rfl fun w => ?_
 ·obtain rfl:=List.mem_singleton.1 hu; rfl
 ·exact range_any c e b t p y r v w (by unfold capB; omega)
theorem meets_con (c e b t p y r : Int) (v : Bool) (a s : Int) (h : capHyp c e b t p y r) (ha : 0 ≤ a ∧ a < 4294967296 ∧ 0 ≤ s ∧ s < 4294967296) : ConOk Try.prog 19 3 (meetsZ c e b t p y r v a s):=by
 obtain ⟨h1,h2,h3,h4,h5,h6,h7,h8,h9,h10,h11,h12,h13,h14⟩:=h
 obtain ⟨k1,k2,k3,k4⟩:=ha
 obtain ⟨c,rfl⟩:=Int.eq_ofNat_of_zero_le h1
 obtain ⟨e,rfl⟩:=Int.eq_ofNat_of_zero_le h3
 obtain ⟨b,rfl⟩:=Int.eq_ofNat_of_zero_le h5
 obtain ⟨t,rfl⟩:=Int.eq_ofNat_of_zero_le h7
 obtain ⟨p,rfl⟩:=Int.eq_ofNat_of_zero_le h9
 obtain ⟨y,rfl⟩:=Int.eq_ofNat_of_zero_le h11
 obtain ⟨r,rfl⟩:=Int.eq_ofNat_of_zero_le h13
 obtain ⟨a,rfl⟩:=Int.eq_ofNat_of_zero_le k1
 obtain ⟨s,rfl⟩:=Int.eq_ofNat_of_zero_le k3
 refine conOk_pure (d:=1) (enters_b ar_names (by kernel_rfl)) (fun u hu => ?_) rfl fun w => ?_
 ·simp only [rr, tt, List.mem_cons,List.not_mem_nil,or_false] at hu
  rcases hu with rfl | rfl <;> rfl
 ·exact meets_any c e b t p y r v a s _ _ w (by unfold capB; omega) (by omega) (by omega) rfl rfl
theorem selRg_ok : SelOk Try.prog 3 (selRg rgLo rgHi mtIs):=by
 intro f args s c ρ q h hq
 unfold selRg at h
 cases h1 : Nat.beq f 23 <;> rw [h1] at h
 ·simp only [rr, tt, cond_false] at h
  obtain ⟨h2,h3⟩:=bif_some h
  have h2:=eB h2
  subst h2
  split at h3
  ·cases h3; exact meets_con _ _ _ _ _ _ _ _ _ _ hq.1 hq.2
  ·cases h3
 ·have h2:=eB h1
  subst h2
  simp only [rr, tt, cond_true] at h
  split at h
  ·cases h; exact range_con _ _ _ _ _ _ _ _ hq
  ·cases h
def lcW : Con:=⟨[],64,[],[],.bool true,64,[],[]⟩
end Go.Proofs.Ytliidiceljdgmaa
namespace Go.Proofs.Ytliidiceljdgmaa
open Go.RowKit
open Sy
set_option maxRecDepth 100000
def lbW : Con:=⟨[],64,[],[],.bool true,64,[],[]⟩
theorem cp_get : ∀ (l : List Cp) (k j : Nat),k < l.length → j < 8 → getD' undef (cpL l) (k * 8 + j) = getD' undef (cpC (l.getD k ⟨0,0,0,0,0,0,false⟩)) j
 | [],k,j,h,_ => by simp at h
 | x :: l,0,j,_,hj => by
  rw [show cpL (x :: l) = cpC x ++ cpL l from by simp [cpL]]
  obtain rfl | rfl | rfl | rfl | rfl | rfl | rfl | rfl : j = 0 ∨ j = 1 ∨ j = 2 ∨ j = 3 ∨ j = 4 ∨ j = 5 ∨ j = 6 ∨ j = 7:=by omega
  all_goals rfl
 | x :: l,k + 1,j,h,hj => by
  rw [show cpL (x :: l) = cpC x ++ cpL l from by simp [cpL],show (k + 1) * 8 + j = (cpC x).length + (k * 8 + j) by simp [cpC]; omega,getD'_append]
  exact cp_get l k j (by simp at h; omega) hj
theorem cp_has (l : List Cp) (n : Nat) : hasN n (cpL l) = decide (n ≤ l.length * 8):=by rw [Bool.eq_iff_iff,hasN_iff,cpL_len]; simp
theorem cp_like {l : List Cp} {k : Nat} (h : k < l.length) : isLikeL [Value.int IntKind.u32 (0 : Int),Value.int IntKind.u8 (0 : Int),Value.int IntKind.u16 (0 : Int),Value.int IntKind.u16 (0 : Int),Value.int IntKind.u16 (0 : Int),Value.int IntKind.u16 (0 : Int),Value.int IntKind.u32 (0 : Int),Value.bool false] (cpL l) (k * 8) = true:=by
 have h0:=cp_get l k 0 h (by omega)
 rw [Nat.add_zero] at h0
 simp only [rr, tt, isLikeL,Nat.add_assoc,Nat.reduceAdd,h0,cp_get l k 1 h (by omega),cp_get l k 2 h (by omega),cp_get l k 3 h (by omega),cp_get l k 4 h (by omega),cp_get l k 5 h (by omega),cp_get l k 6 h (by omega),cp_get l k 7 h (by omega)]
 rfl
end Go.Proofs.Ytliidiceljdgmaa
namespace Go.Proofs.Ytliidiceljdgmaa
open Go.RowKit
open Sy
set_option maxRecDepth 100000
def wtIs (c e b t p c' e' b' t' p' : Int) : Bool:=withinN p.toNat p'.toNat (rgLo c e b t) (rgHi c e b t) (rgLo c' e' b' t') (rgHi c' e' b' t')
def cpW (x y : Cp) : Bool:=withinN x.p y.p (rgLo x.a x.e x.b x.t) (rgHi x.a x.e x.b x.t) (rgLo y.a y.e y.b y.t) (rgHi y.a y.e y.b y.t)
def wthY (wt : Int → Int → Int → Int → Int → Int → Int → Int → Int → Int → Bool) (c e b t p y r : Int) (v : Bool) (c' e' b' t' p' y' r' : Int) (v' : Bool) : Con:=Con.pure [capZ c e b t p y r v,capZ c' e' b' t' p' y' r' v'] (.bool (wt c e b t p c' e' b' t' p'))
def selWt (wt : Int → Int → Int → Int → Int → Int → Int → Int → Int → Int → Bool) : SelC:=fun f args _ => bif Nat.beq f 52 then
 match args with
 | [.agg ⟨[.int .u32 c,.int .u8 e,.int .u16 b,.int .u16 t,.int .u16 p,.int .u16 y,.int .u32 r,.bool v]⟩,.agg ⟨[.int .u32 c',.int .u8 e',.int .u16 b',.int .u16 t',.int .u16 p',.int .u16 y',.int .u32 r',.bool v']⟩] => some (wthY wt c e b t p y r v c' e' b' t' p' y' r' v',[],capHyp c e b t p y r ∧ capHyp c' e' b' t' p' y' r')
 | _ => none
 else none
theorem wth_con (c e b t p y r : Int) (v : Bool) (c' e' b' t' p' y' r' : Int) (v' : Bool) (h : capHyp c e b t p y r) (h' : capHyp c' e' b' t' p' y' r') : ConOk Try.prog 52 3 (wthY wtIs c e b t p y r v c' e' b' t' p' y' r' v'):=by
 obtain ⟨h1,h2,h3,h4,h5,h6,h7,h8,h9,h10,h11,h12,h13,h14⟩:=h
 obtain ⟨k1,k2,k3,k4,k5,k6,k7,k8,k9,k10,k11,k12,k13,k14⟩:=h'
 obtain ⟨c,rfl⟩:=Int.eq_ofNat_of_zero_le h1
 obtain ⟨e,rfl⟩:=Int.eq_ofNat_of_zero_le h3
 obtain ⟨b,rfl⟩:=Int.eq_ofNat_of_zero_le h5
 obtain ⟨t,rfl⟩:=Int.eq_ofNat_of_zero_le h7
 obtain ⟨p,rfl⟩:=Int.eq_ofNat_of_zero_le h9
 obtain ⟨y,rfl⟩:=Int.eq_ofNat_of_zero_le h11
 obtain ⟨r,rfl⟩:=Int.eq_ofNat_of_zero_le h13
 obtain ⟨c',rfl⟩:=Int.eq_ofNat_of_zero_le k1
 obtain ⟨e',rfl⟩:=Int.eq_ofNat_of_zero_le k3
 obtain ⟨b',rfl⟩:=Int.eq_ofNat_of_zero_le k5
 obtain ⟨t',rfl⟩:=Int.eq_ofNat_of_zero_le k7
 obtain ⟨p',rfl⟩:=Int.eq_ofNat_of_zero_le k9
 obtain ⟨y',rfl⟩:=Int.eq_ofNat_of_zero_le k11
 obtain ⟨r',rfl⟩:=Int.eq_ofNat_of_zero_le k13
 refine conOk_pure (d:=1) (enters_b ar_names (by kernel_rfl)) (fun u hu => ?_) rfl fun w => ?_
 ·simp only [rr, tt, List.mem_cons,List.not_mem_nil,or_false] at hu
  rcases hu with rfl | rfl <;> rfl
 ·exact within_any c e b t p y r v c' e' b' t' p' y' r' v' _ _ _ _ w (by unfold capB; omega) (by unfold capB; omega) rfl rfl rfl rfl
theorem selWt_ok : SelOk Try.prog 3 (selWt wtIs):=by
 intro f args s c ρ q h hq
 unfold selWt at h
 obtain ⟨h2,h3⟩:=bif_some h
 have h2:=eB h2
 subst h2
 split at h3
 ·cases h3; exact wth_con _ _ _ _ _ _ _ _ _ _ _ _ _ _ _ _ hq.1 hq.2
 ·cases h3
def cpK (l : List Cp) (k : Nat) : Cp:=l.getD k cpO
theorem cq_get (l : List Cp) (k j : Nat) (h : k < l.length) (hj : j < 8) : getD' undef (cpL l) (k * 8 + j) = getD' undef (cpC (cpK l k)) j:=cp_get l k j h hj
theorem cq_0 {l : List Cp} {k : Nat} (h : k < l.length) : intOf' (getD' undef (cpL l) (k * 8)) = ((cpK l k).a : Int):=by
 have:=cq_get l k 0 h (by omega); rw [Nat.add_zero] at this; rw [this]; rfl
theorem cq_1 {l : List Cp} {k : Nat} (h : k < l.length) : intOf' (getD' undef (cpL l) (k * 8 + 1)) = ((cpK l k).e : Int):=by rw [cq_get l k 1 h (by omega)]; rfl
theorem cq_2 {l : List Cp} {k : Nat} (h : k < l.length) : intOf' (getD' undef (cpL l) (k * 8 + 2)) = ((cpK l k).b : Int):=by rw [cq_get l k 2 h (by omega)]; rfl
theorem cq_3 {l : List Cp} {k : Nat} (h : k < l.length) : intOf' (getD' undef (cpL l) (k * 8 + 3)) = ((cpK l k).t : Int):=by rw [cq_get l k 3 h (by omega)]; rfl
theorem cq_4 {l : List Cp} {k : Nat} (h : k < l.length) : intOf' (getD' undef (cpL l) (k * 8 + 4)) = ((cpK l k).p : Int):=by rw [cq_get l k 4 h (by omega)]; rfl
theorem cq_5 {l : List Cp} {k : Nat} (h : k < l.length) : intOf' (getD' undef (cpL l) (k * 8 + 5)) = ((cpK l k).y : Int):=by rw [cq_get l k 5 h (by omega)]; rfl
theorem cq_6 {l : List Cp} {k : Nat} (h : k < l.length) : intOf' (getD' undef (cpL l) (k * 8 + 6)) = 0:=by rw [cq_get l k 6 h (by omega)]; rfl
theorem cq_7 {l : List Cp} {k : Nat} (h : k < l.length) : boolOf' (getD' undef (cpL l) (k * 8 + 7)) = (cpK l k).v:=by rw [cq_get l k 7 h (by omega)]; rfl
def wiE (n : Nat) (b : Bool) (k : Nat) : List (Nat × Value):=[(1,.slice (some ⟨64,0,none⟩) n (big + 64)),(2,.pointer (some ⟨65,0,none⟩)),(4,.bool b),(5,.int .i64 (k : Nat))]
def wiI (a e b t p y : Nat) (v : Bool) (l : List Cp) (k : Nat) : Sf:=⟨66,wiE l.length false k,[(65,⟨false,none,cpC ⟨a,e,b,t,p,y,v⟩,none⟩),(64,⟨false,some (0,0),cpL l,none⟩)],[]⟩
theorem wil_n (a : Nat) (e : Nat) (b : Nat) (t : Nat) (p : Nat) (y : Nat) (v : Bool) (l : List Cp) (k : Nat) (wt : Int → Int → Int → Int → Int → Int → Int → Int → Int → Int → Bool) : evC Try.prog (evF Try.prog (baseC 3 (selWt wt)) noLoop 100 20) (noLoop 20) 18 100 (loopOf Try.prog 20 0) (Sf.frT 18 (wiI a e b t p y v l k) [(0,true),(1,false)]) = some (Exit.normal,{ e:=[[unk,.slice (some ⟨64,0,none⟩) l.length 9223372036854775872,.pointer (some ⟨65,0,none⟩),unk,.bool false,.int .i64 (IntKind.i64.wrap ((↑k : Int) + (1 : Int))),.int .i64 (↑k),.slice (some ⟨64,0,none⟩) l.length 9223372036854775872,.int .i64 (↑l.length),.bool (decide ((↑k : Int) < (↑l.length : Int))),.int .i64 (↑k),.int .i64 (IntKind.i64.wrap ((↑k : Int) + (1 : Int))),.agg ⟨[.int .u32 (↑a),.int .u8 (↑e),.int .u16 (↑b),.int .u16 (↑t),.int .u16 (↑p),.int .u16 (↑y),.int .u32 0,.bool v]⟩,.slice (some ⟨64,0,none⟩) l.length 9223372036854775872,.int .i64 (↑k),.pointer (some { block:=64,off:=0 + (↑k : Int).toNat * 8 })],[Value.agg ⟨[.int .u32 (intOf' (getD' undef (cpL l) (0 + (↑k : Int).toNat * 8))),.int .u8 (intOf' (getD' undef (cpL l) (0 + (↑k : Int).toNat * 8 + 1))),.int .u16 (intOf' (getD' undef (cpL l) (0 + (↑k : Int).toNat * 8 + 1 + 1))),.int .u16 (intOf' (getD' undef (cpL l) (0 + (↑k : Int).toNat * 8 + 1 + 1 + 1))),.int .u16 (intOf' (getD' undef (cpL l) (0 + (↑k : Int).toNat * 8 + 1 + 1 + 1 + 1))),.int .u16 (intOf' (getD' undef (cpL l) (0 + (↑k : Int).toNat * 8 + 1 + 1 + 1 + 1 + 1))),.int .u32 (intOf' (getD' undef (cpL l) (0 + (↑k : Int).toNat * 8 + 1 + 1 + 1 + 1 + 1 + 1))),.bool (boolOf' (getD' undef (cpL l) (0 + (↑k : Int).toNat * 8 + 1 + 1 + 1 + 1 + 1 + 1 + 1)))]⟩,.bool (wt (↑a : Int) (↑e : Int) (↑b : Int) (↑t : Int) (↑p : Int) (intOf' (getD' undef (cpL l) (0 + (↑k : Int).toNat * 8))) (intOf' (getD' undef (cpL l) (0 + (↑k : Int).toNat * 8 + 1))) (intOf' (getD' undef (cpL l) (0 + (↑k : Int).toNat * 8 + 1 + 1))) (intOf' (getD' undef (cpL l) (0 + (↑k : Int).toNat * 8 + 1 + 1 + 1))) (intOf' (getD' undef (cpL l) (0 + (↑k : Int).toNat * 8 + 1 + 1 + 1 + 1)))),unk,unk,unk,unk,unk,unk,unk,unk,unk,unk,unk,unk,unk,unk]],s:={ n:=66,h:=[(65,⟨false,none,[Value.int .u32 (↑a),.int .u8 (↑e),.int .u16 (↑b),.int .u16 (↑t),.int .u16 (↑p),.int .u16 (↑y),.int .u32 0,.bool v],none⟩),(64,⟨false,some (0,0),cpL l,none⟩)],lo:=[],esc:=0,T:=[],k:=2,O:=((bif hasN (0 + (↑k : Int).toNat * 8 + 8) (cpL l) && isLikeL [Value.int .u32 0,.int .u8 0,.int .u16 0,.int .u16 0,.int .u16 0,.int .u16 0,.int .u32 0,.bool false] (cpL l) (0 + (↑k : Int).toNat * 8) then bif decide ((0 : Int) ≤ (↑k : Int)) && decide ((↑k : Int) < (↑l.length : Int)) then True ∧ decide ((↑k : Int) < (↑l.length : Int)) = true else False else False) ∧ (((0 : Int) ≤ (↑a : Int) ∧ (↑a : Int) < (4294967296 : Int) ∧ (0 : Int) ≤ (↑e : Int) ∧ (↑e : Int) < (256 : Int) ∧ (0 : Int) ≤ (↑b : Int) ∧ (↑b : Int) < (65536 : Int) ∧ (0 : Int) ≤ (↑t : Int) ∧ (↑t : Int) < (65536 : Int) ∧ (0 : Int) ≤ (↑p : Int) ∧ (↑p : Int) < (65536 : Int) ∧ (0 : Int) ≤ (↑y : Int) ∧ (↑y : Int) < (65536 : Int) ∧ (0 : Int) ≤ (0 : Int) ∧ (0 : Int) < (4294967296 : Int)) ∧ (0 : Int) ≤ intOf' (getD' undef (cpL l) (0 + (↑k : Int).toNat * 8)) ∧ intOf' (getD' undef (cpL l) (0 + (↑k : Int).toNat * 8)) < (4294967296 : Int) ∧ (0 : Int) ≤ intOf' (getD' undef (cpL l) (0 + (↑k : Int).toNat * 8 + 1)) ∧ intOf' (getD' undef (cpL l) (0 + (↑k : Int).toNat * 8 + 1)) < (256 : Int) ∧ (0 : Int) ≤ intOf' (getD' undef (cpL l) (0 + (↑k : Int).toNat * 8 + 1 + 1)) ∧ intOf' (getD' undef (cpL l) (0 + (↑k : Int).toNat * 8 + 1 + 1)) < (65536 : Int) ∧ (0 : Int) ≤ intOf' (getD' undef (cpL l) (0 + (↑k : Int).toNat * 8 + 1 + 1 + 1)) ∧ intOf' (getD' undef (cpL l) (0 + (↑k : Int).toNat * 8 + 1 + 1 + 1)) < (65536 : Int) ∧ (0 : Int) ≤ intOf' (getD' undef (cpL l) (0 + (↑k : Int).toNat * 8 + 1 + 1 + 1 + 1)) ∧ intOf' (getD' undef (cpL l) (0 + (↑k : Int).toNat * 8 + 1 + 1 + 1 + 1)) < (65536 : Int) ∧ (0 : Int) ≤ intOf' (getD' undef (cpL l) (0 + (↑k : Int).toNat * 8 + 1 + 1 + 1 + 1 + 1)) ∧ intOf' (getD' undef (cpL l) (0 + (↑k : Int).toNat * 8 + 1 + 1 + 1 + 1 + 1)) < (65536 : Int) ∧ (0 : Int) ≤ intOf' (getD' undef (cpL l) (0 + (↑k : Int).toNat * 8 + 1 + 1 + 1 + 1 + 1 + 1)) ∧ intOf' (getD' undef (cpL l) (0 + (↑k : Int).toNat * 8 + 1 + 1 + 1 + 1 + 1 + 1)) < (4294967296 : Int)) ∧ (rr (Value.agg ⟨[.int .u32 (↑a),.int .u8 (↑e),.int .u16 (↑b),.int .u16 (↑t),.int .u16 (↑p),.int .u16 (↑y),.int .u32 0,.bool v]⟩) ∧ rr (Value.agg ⟨[.int .u32 (intOf' (getD' undef (cpL l) (0 + (↑k : Int).toNat * 8))),.int .u8 (intOf' (getD' undef (cpL l) (0 + (↑k : Int).toNat * 8 + 1))),.int .u16 (intOf' (getD' undef (cpL l) (0 + (↑k : Int).toNat * 8 + 1 + 1))),.int .u16 (intOf' (getD' undef (cpL l) (0 + (↑k : Int).toNat * 8 + 1 + 1 + 1))),.int .u16 (intOf' (getD' undef (cpL l) (0 + (↑k : Int).toNat * 8 + 1 + 1 + 1 + 1))),.int .u16 (intOf' (getD' undef (cpL l) (0 + (↑k : Int).toNat * 8 + 1 + 1 + 1 + 1 + 1))),.int .u32 (intOf' (getD' undef (cpL l) (0 + (↑k : Int).toNat * 8 + 1 + 1 + 1 + 1 + 1 + 1))),.bool (boolOf' (getD' undef (cpL l) (0 + (↑k : Int).toNat * 8 + 1 + 1 + 1 + 1 + 1 + 1 + 1)))]⟩) ∧ True) ∧ True ∧ True) ∧ wt (↑a : Int) (↑e : Int) (↑b : Int) (↑t : Int) (↑p : Int) (intOf' (getD' undef (cpL l) (0 + (↑k : Int).toNat * 8))) (intOf' (getD' undef (cpL l) (0 + (↑k : Int).toNat * 8 + 1))) (intOf' (getD' undef (cpL l) (0 + (↑k : Int).toNat * 8 + 1 + 1))) (intOf' (getD' undef (cpL l) (0 + (↑k : Int).toNat * 8 + 1 + 1 + 1))) (intOf' (getD' undef (cpL l) (0 + (↑k : Int).toNat * 8 + 1 + 1 + 1 + 1))) = false : St } : Fr }):=by kernel_rfl
theorem wil_y (a : Nat) (e : Nat) (b : Nat) (t : Nat) (p : Nat) (y : Nat) (v : Bool) (l : List Cp) (k : Nat) (wt : Int → Int → Int → Int → Int → Int → Int → Int → Int → Int → Bool) : evC Try.prog (evF Try.prog (baseC 3 (selWt wt)) noLoop 100 20) (noLoop 20) 18 100 (loopOf Try.prog 20 0) (Sf.frT 18 (wiI a e b t p y v l k) [(0,true),(1,true)]) = some (Exit.ret,{ e:=[[unk,.slice (some ⟨64,0,none⟩) l.length 9223372036854775872,.pointer (some ⟨65,0,none⟩),unk,.bool true,.int .i64 (↑k),.int .i64 (↑k),.slice (some ⟨64,0,none⟩) l.length 9223372036854775872,.int .i64 (↑l.length),.bool (decide ((↑k : Int) < (↑l.length : Int))),unk,unk,.agg ⟨[.int .u32 (↑a),.int .u8 (↑e),.int .u16 (↑b),.int .u16 (↑t),.int .u16 (↑p),.int .u16 (↑y),.int .u32 0,.bool v]⟩,.slice (some ⟨64,0,none⟩) l.length 9223372036854775872,.int .i64 (↑k),.pointer (some { block:=64,off:=0 + (↑k : Int).toNat * 8 })],[Value.agg ⟨[.int .u32 (intOf' (getD' undef (cpL l) (0 + (↑k : Int).toNat * 8))),.int .u8 (intOf' (getD' undef (cpL l) (0 + (↑k : Int).toNat * 8 + 1))),.int .u16 (intOf' (getD' undef (cpL l) (0 + (↑k : Int).toNat * 8 + 1 + 1))),.int .u16 (intOf' (getD' undef (cpL l) (0 + (↑k : Int).toNat * 8 + 1 + 1 + 1))),.int .u16 (intOf' (getD' undef (cpL l) (0 + (↑k : Int).toNat * 8 + 1 + 1 + 1 + 1))),.int .u16 (intOf' (getD' undef (cpL l) (0 + (↑k : Int).toNat * 8 + 1 + 1 + 1 + 1 + 1))),.int .u32 (intOf' (getD' undef (cpL l) (0 + (↑k : Int).toNat * 8 + 1 + 1 + 1 + 1 + 1 + 1))),.bool (boolOf' (getD' undef (cpL l) (0 + (↑k : Int).toNat * 8 + 1 + 1 + 1 + 1 + 1 + 1 + 1)))]⟩,.bool (wt (↑a : Int) (↑e : Int) (↑b : Int) (↑t : Int) (↑p : Int) (intOf' (getD' undef (cpL l) (0 + (↑k : Int).toNat * 8))) (intOf' (getD' undef (cpL l) (0 + (↑k : Int).toNat * 8 + 1))) (intOf' (getD' undef (cpL l) (0 + (↑k : Int).toNat * 8 + 1 + 1))) (intOf' (getD' undef (cpL l) (0 + (↑k : Int).toNat * 8 + 1 + 1 + 1))) (intOf' (getD' undef (cpL l) (0 + (↑k : Int).toNat * 8 + 1 + 1 + 1 + 1)))),unk,unk,unk,unk,unk,unk,unk,unk,unk,unk,unk,unk,unk,unk]],s:={ n:=66,h:=[(65,⟨false,none,[Value.int .u32 (↑a),.int .u8 (↑e),.int .u16 (↑b),.int .u16 (↑t),.int .u16 (↑p),.int .u16 (↑y),.int .u32 0,.bool v],none⟩),(64,⟨false,some (0,0),cpL l,none⟩)],lo:=[],esc:=0,T:=[],k:=2,O:=((bif hasN (0 + (↑k : Int).toNat * 8 + 8) (cpL l) && isLikeL [Value.int .u32 0,.int .u8 0,.int .u16 0,.int .u16 0,.int .u16 0,.int .u16 0,.int .u32 0,.bool false] (cpL l) (0 + (↑k : Int).toNat * 8) then bif decide ((0 : Int) ≤ (↑k : Int)) && decide ((↑k : Int) < (↑l.length : Int)) then True ∧ decide ((↑k : Int) < (↑l.length : Int)) = true else False else False) ∧ (((0 : Int) ≤ (↑a : Int) ∧ (↑a : Int) < (4294967296 : Int) ∧ (0 : Int) ≤ (↑e : Int) ∧ (↑e : Int) < (256 : Int) ∧ (0 : Int) ≤ (↑b : Int) ∧ (↑b : Int) < (65536 : Int) ∧ (0 : Int) ≤ (↑t : Int) ∧ (↑t : Int) < (65536 : Int) ∧ (0 : Int) ≤ (↑p : Int) ∧ (↑p : Int) < (65536 : Int) ∧ (0 : Int) ≤ (↑y : Int) ∧ (↑y : Int) < (65536 : Int) ∧ (0 : Int) ≤ (0 : Int) ∧ (0 : Int) < (4294967296 : Int)) ∧ (0 : Int) ≤ intOf' (getD' undef (cpL l) (0 + (↑k : Int).toNat * 8)) ∧ intOf' (getD' undef (cpL l) (0 + (↑k : Int).toNat * 8)) < (4294967296 : Int) ∧ (0 : Int) ≤ intOf' (getD' undef (cpL l) (0 + (↑k : Int).toNat * 8 + 1)) ∧ intOf' (getD' undef (cpL l) (0 + (↑k : Int).toNat * 8 + 1)) < (256 : Int) ∧ (0 : Int) ≤ intOf' (getD' undef (cpL l) (0 + (↑k : Int).toNat * 8 + 1 + 1)) ∧ intOf' (getD' undef (cpL l) (0 + (↑k : Int).toNat * 8 + 1 + 1)) < (65536 : Int) ∧ (0 : Int) ≤ intOf' (getD' undef (cpL l) (0 + (↑k : Int).toNat * 8 + 1 + 1 + 1)) ∧ intOf' (getD' undef (cpL l) (0 + (↑k : Int).toNat * 8 + 1 + 1 + 1)) < (65536 : Int) ∧ (0 : Int) ≤ intOf' (getD' undef (cpL l) (0 + (↑k : Int).toNat * 8 + 1 + 1 + 1 + 1)) ∧ intOf' (getD' undef (cpL l) (0 + (↑k : Int).toNat * 8 + 1 + 1 + 1 + 1)) < (65536 : Int) ∧ (0 : Int) ≤ intOf' (getD' undef (cpL l) (0 + (↑k : Int).toNat * 8 + 1 + 1 + 1 + 1 + 1)) ∧ intOf' (getD' undef (cpL l) (0 + (↑k : Int).toNat * 8 + 1 + 1 + 1 + 1 + 1)) < (65536 : Int) ∧ (0 : Int) ≤ intOf' (getD' undef (cpL l) (0 + (↑k : Int).toNat * 8 + 1 + 1 + 1 + 1 + 1 + 1)) ∧ intOf' (getD' undef (cpL l) (0 + (↑k : Int).toNat * 8 + 1 + 1 + 1 + 1 + 1 + 1)) < (4294967296 : Int)) ∧ (rr (Value.agg ⟨[.int .u32 (↑a),.int .u8 (↑e),.int .u16 (↑b),.int .u16 (↑t),.int .u16 (↑p),.int .u16 (↑y),.int .u32 0,.bool v]⟩) ∧ rr (Value.agg ⟨[.int .u32 (intOf' (getD' undef (cpL l) (0 + (↑k : Int).toNat * 8))),.int .u8 (intOf' (getD' undef (cpL l) (0 + (↑k : Int).toNat * 8 + 1))),.int .u16 (intOf' (getD' undef (cpL l) (0 + (↑k : Int).toNat * 8 + 1 + 1))),.int .u16 (intOf' (getD' undef (cpL l) (0 + (↑k : Int).toNat * 8 + 1 + 1 + 1))),.int .u16 (intOf' (getD' undef (cpL l) (0 + (↑k : Int).toNat * 8 + 1 + 1 + 1 + 1))),.int .u16 (intOf' (getD' undef (cpL l) (0 + (↑k : Int).toNat * 8 + 1 + 1 + 1 + 1 + 1))),.int .u32 (intOf' (getD' undef (cpL l) (0 + (↑k : Int).toNat * 8 + 1 + 1 + 1 + 1 + 1 + 1))),.bool (boolOf' (getD' undef (cpL l) (0 + (↑k : Int).toNat * 8 + 1 + 1 + 1 + 1 + 1 + 1 + 1)))]⟩) ∧ True) ∧ True ∧ True) ∧ wt (↑a : Int) (↑e : Int) (↑b : Int) (↑t : Int) (↑p : Int) (intOf' (getD' undef (cpL l) (0 + (↑k : Int).toNat * 8))) (intOf' (getD' undef (cpL l) (0 + (↑k : Int).toNat * 8 + 1))) (intOf' (getD' undef (cpL l) (0 + (↑k : Int).toNat * 8 + 1 + 1))) (intOf' (getD' undef (cpL l) (0 + (↑k : Int).toNat * 8 + 1 + 1 + 1))) (intOf' (getD' undef (cpL l) (0 + (↑k : Int).toNat * 8 + 1 + 1 + 1 + 1))) = true : St } : Fr }):=by kernel_rfl
end Go.Proofs.Ytliidiceljdgmaa
namespace Go.Proofs.Ytliidiceljdgmaa
open Go.RowKit
open Sy
set_option maxRecDepth 100000
def CpOk (x : Cp) : Prop:=CpB x.a x.e x.b x.t x.p x.y 0
theorem CpOk.hyp {x : Cp} (h : CpOk x) : capHyp (x.a : Nat) (x.e : Nat) (x.b : Nat) (x.t : Nat) (x.p : Nat) (x.y : Nat) 0:=by
 obtain ⟨h1,h2,h3,h4,h5,h6,h7⟩:=h
 unfold capHyp; omega
theorem cpK_mem {l : List Cp} {k : Nat} (h : k < l.length) : cpK l k ∈ l:=by
 unfold cpK; rw [List.getD_eq_getElem?_getD,List.getElem?_eq_getElem h]; exact List.getElem_mem h
theorem ptrB_ok {q : Nat → Bool} (n : Nat) (b : Bool) (k : Nat) (h : ∀ l,l < 66 → q l = true) : ∀ x ∈ wiE n b k,okV q 3 x.2 = true:=fun x hx => by
 have h4:=h 64 (by omega)
 have h5:=h 65 (by omega)
 simp only [rr, tt, wiE,List.mem_cons,List.not_mem_nil,or_false] at hx
 rcases hx with rfl | rfl | rfl | rfl <;> simp [okV,bndA,h4,h5,flat0,big]
def wiF (n : Nat) : Sf:=⟨66,[(4,.bool true)],[],[]⟩
theorem wi_loop (x : Cp) (l : List Cp) (j0 : Nat) (hx : CpOk x) (hl : ∀ y ∈ l,CpOk y) (hj : j0 < l.length) (hlen : l.length ≤ 1000) (hw : cpW x (cpK l j0) = true) (hno : ∀ i,i < j0 → cpW x (cpK l i) = false) :
  ∀ k : { k : Nat // k ≤ j0 },LoopOk Try.prog 18 (loopOf Try.prog 20 0) ((wiI x.a x.e x.b x.t x.p x.y x.v l k.1).fr 18) .ret ((wiF l.length).fr 18):=by
 have hp : ∀ l,l < 66 → (fun l => Nat.blt l 66) l = true:=fun l hl => blt_yes hl
 have hk : ∀ l,l < 66 → keeps 66 66 id (fun l => Nat.blt l 66) l = true:=fun l hl => by
  show (Nat.blt l NG || (bif Nat.blt l 66 then (Nat.beq l l && Nat.blt l 66) else Nat.blt l 66)) = true
  rw [blt_yes hl,Nat.beq_refl]
  cases Nat.blt l NG <;> rfl
 refine loop_okC (L:=100) (noLoop_any _ _ 20) (fun _ h => h) (X:={ k : Nat // k ≤ j0 }) (fun k => wiI x.a x.e x.b x.t x.p x.y x.v l k.1) (fun _ => wiF l.length) (fun _ => .ret) (fun k => l.length - k.1) (fun k => ?_) ?_
 ·exact ⟨by show 64 ≤ 66; omega,Sf.Ok.mk' 3 ⟨⟨rfl,rfl,flat_bnd (cpC_flat _)⟩,⟨rfl,rfl,flat_bnd (cpL_flat l)⟩,trivial⟩ rfl (ptrB_ok _ _ _ hp)⟩
 rintro ⟨k,hk'⟩
 have hlt : k < l.length:=by omega
 have g0:=cq_0 hlt
 have g1:=cq_1 hlt
 have g2:=cq_2 hlt
 have g3:=cq_3 hlt
 have g4:=cq_4 hlt
 have g5:=cq_5 hlt
 have g6:=cq_6 hlt
 have g7:=cq_7 hlt
 have e5 : IntKind.i64.wrap ((k : Int) + (1 : Int)) = ((k + 1 : Nat) : Int):=cast_succ_i64 k (by omega)
 have f1:=cp_like hlt
 have f2 : hasN (k * 8 + 8) (cpL l) = true:=by rw [cp_has]; exact decide_eq_true (by omega)
 have h1:=hx.hyp
 have h2:=(hl _ (cpK_mem hlt)).hyp
 have o1 : ∀ (X : Prop),X → (bif decide ((0 : Int) ≤ (k : Int)) && decide ((k : Int) < (l.length : Int)) then X else False):=fun X hX => by
  rw [decide_eq_true (by omega),decide_eq_true (by omega)]; exact hX
 by_cases hc : k = j0
 ·subst hc
  have hr:=wil_y x.a x.e x.b x.t x.p x.y x.v l k wtIs
  simp only [rr, tt, Nat.zero_add,Nat.add_assoc,Nat.reduceAdd,Int.toNat_natCast,g0,g1,g2,g3,g4,g5,g6,g7,e5] at hr
  refine ⟨_,_,.ret,_,3,fun l => Nat.blt l 66,id,run_ok (L:=100) ar_names (baseC_ok selWt_ok) (noLoop_ok _) 20,hr,?_,.inr ⟨by simp,rfl,?_⟩⟩
  ·have hw' : wtIs ((x.a : Nat) : Int) (x.e : Nat) (x.b : Nat) (x.t : Nat) (x.p : Nat) ((cpK l k).a : Nat) ((cpK l k).e : Nat) ((cpK l k).b : Nat) ((cpK l k).t : Nat) ((cpK l k).p : Nat) = true:=by
    unfold wtIs; simp only [rr, tt, Int.toNat_natCast]; exact hw
   simp only [rr, tt, f1,f2,h1,h2,hw',Bool.and_self,cond_true,and_true,true_and,and_self]
   simp [hlt]
   unfold capHyp at h1 h2
   omega
  ·exact ⟨fun _ _ => rfl,trivial,rfl,trivial,⟨⟨by kernel_rfl,by kernel_rfl⟩,trivial⟩,Nat.le_refl _,fun l hl => blt_no hl,Sf.Ok.mk' 3 trivial rfl (fun x hx => by
    obtain rfl:=List.mem_singleton.1 hx; rfl),fun x hx => by cases hx⟩
 ·have hr:=wil_n x.a x.e x.b x.t x.p x.y x.v l k wtIs
  simp only [rr, tt, Nat.zero_add,Nat.add_assoc,Nat.reduceAdd,Int.toNat_natCast,g0,g1,g2,g3,g4,g5,g6,g7,e5] at hr
  refine ⟨_,_,.normal,_,3,fun l => Nat.blt l 66,id,run_ok (L:=100) ar_names (baseC_ok selWt_ok) (noLoop_ok _) 20,hr,?_,.inl ⟨rfl,⟨k + 1,by omega⟩,by show l.length - (k + 1) < l.length - k; omega,rfl,rfl,?_⟩⟩
  ·have hw' : wtIs ((x.a : Nat) : Int) (x.e : Nat) (x.b : Nat) (x.t : Nat) (x.p : Nat) ((cpK l k).a : Nat) ((cpK l k).e : Nat) ((cpK l k).b : Nat) ((cpK l k).t : Nat) ((cpK l k).p : Nat) = false:=by
    unfold wtIs; simp only [rr, tt, Int.toNat_natCast]; exact hno k (by omega)
   simp only [rr, tt, f1,f2,h1,h2,hw',Bool.and_self,cond_true,and_true,true_and,and_self]
   simp [hlt]
   unfold capHyp at h1 h2
   omega
  ·refine ⟨fun _ _ => rfl,⟨⟨rfl,flat_all (cpC_flat _),rfl,rfl,rfl,trivial,(flat_map (cpC_flat _)).symm⟩,⟨rfl,cp_all _ _,rfl,rfl,rfl,trivial,(cp_map _ _).symm⟩,trivial⟩,rfl,trivial,?_,Nat.le_refl _,fun l hl => blt_no hl,Sf.Ok.mk' 3 trivial rfl (fun x hx => by
    obtain rfl:=List.mem_singleton.1 hx; rfl),fun x _ _ => .inl rfl⟩
   exact ⟨⟨by kernel_rfl,by kernel_rfl⟩,⟨by kernel_rfl,by kernel_rfl⟩,⟨by kernel_rfl,by kernel_rfl⟩,⟨by kernel_rfl,by kernel_rfl⟩,trivial⟩
def wiEnt (x : Cp) (l : List Cp) (j0 : Nat) (hx : CpOk x) (hl : ∀ y ∈ l,CpOk y) (hj : j0 < l.length) (hlen : l.length ≤ 1000) (hw : cpW x (cpK l j0) = true) (hno : ∀ i,i < j0 → cpW x (cpK l i) = false) : Ent Try.prog :=
 entC Try.prog 20 0 18 (wiI x.a x.e x.b x.t x.p x.y x.v l 0) .ret (wiF l.length) (by kernel_rfl) (by kernel_rfl) (wi_loop x l j0 hx hl hj hlen hw hno ⟨0,Nat.zero_le _⟩)
theorem wi_f (a e b t p y : Nat) (v : Bool) (l : List Cp) (j0 : Nat) (hx : CpOk { a:=a,e:=e,b:=b,t:=t,p:=p,y:=y,v:=v : Cp }) (hl : ∀ (y : Cp),y ∈ l → CpOk y) (hj : j0 < l.length) (hlen : l.length ≤ 1000) (hw : cpW { a:=a,e:=e,b:=b,t:=t,p:=p,y:=y,v:=v : Cp } (cpK l j0) = true) (hno : ∀ (i : Nat),i < j0 → cpW { a:=a,e:=e,b:=b,t:=t,p:=p,y:=y,v:=v : Cp } (cpK l i) = false) : obs (evF Try.prog noBase (lpEsc [wiEnt { a:=a,e:=e,b:=b,t:=t,p:=p,y:=y,v:=v : Cp } l j0 hx hl hj hlen hw hno]) 100 20 20 [Value.agg { toList:=cpC { a:=a,e:=e,b:=b,t:=t,p:=p,y:=y,v:=v : Cp } },.slice (some ⟨64,0,none⟩) l.length (big+64)] ⟨65,[(64,⟨false,some (0,0),cpL l,none⟩)],[],0,[],0,True⟩) = some (Value.bool true,True∧(rr (Value.slice (some ⟨64,0,none⟩) l.length 9223372036854775872)∧rr (Value.pointer (some ⟨65,0,none⟩))∧rr (Value.bool false)∧rr (Value.int .i64 0)∧True)∧((tt∧tt∧True∧rr [Value.int .u32 (↑a),.int .u8 (↑e),.int .u16 (↑b),.int .u16 (↑t),.int .u16 (↑p),.int .u16 (↑y),.int .u32 0,.bool v])∧(tt∧tt∧True∧rr (cpL l))∧True)∧True∧True):=by kernel_rfl
def wiC (x : Cp) (l : List Cp) : Con:=⟨[.agg ⟨cpC x⟩,.slice (some ⟨64,0,none⟩) l.length (big + 64)],65,[(64,⟨false,some (0,0),cpL l,none⟩)],[],.bool true,65,[],[]⟩
theorem wi_con (x : Cp) (l : List Cp) (hx : CpOk x) (hl : ∀ y ∈ l,CpOk y) (hlen : l.length ≤ 1000) (h : ∃ y ∈ l,cpW x y = true) : ConOk Try.prog 20 3 (wiC x l) ∧ FlatC (wiC x l):=by
 obtain ⟨y,hy,hw⟩:=h
 obtain ⟨n,hn,rfl⟩:=List.getElem_of_mem hy
 have hk : ∀ i,(hi : i < l.length) → cpK l i = l[i]:=fun i hi => by unfold cpK; rw [List.getD_eq_getElem?_getD,List.getElem?_eq_getElem hi]; rfl
 obtain ⟨j0,h1,h2,h3⟩:=first_of (fun i => cpW x (cpK l i)) l.length (List.any_eq_true.2 ⟨n,List.mem_range.2 hn,by rw [hk n hn]; exact hw⟩)
 have hr:=wi_f x.a x.e x.b x.t x.p x.y x.v l j0 hx hl h1 hlen h2 h3
 unfold obs at hr
 obtain ⟨⟨v',s'⟩,q1,q2⟩:=oM hr
 simp only [rr, tt, Prod.mk.injEq] at q2
 obtain ⟨rfl,q3⟩:=q2
 refine ⟨conOk_run (run_ok (L:=100) ar_names (noBase_ok _) (lpEsc_ok _) 20) ⟨by show 64 ≤ 65; omega,Nat.le_refl _,⟨⟨rfl,rfl,flat_bnd (cpL_flat l)⟩,trivial⟩,rfl,rfl,rfl,rfl,rfl,fun x hx => by cases hx⟩ q1 ?_ (p:=fun l => Nat.blt l 65) (σ:=id) ⟨fun _ _ => rfl,trivial,rfl,trivial,⟨rfl,by rw [rnV_id]; rfl⟩,rfl,trivial,rfl,bnd_flat0 _ rfl,fun x hx => by cases hx⟩,⟨fun x hx => by cases hx⟩⟩
 rw [q3]
 simp only [rr, tt, and_true,true_and,and_self]
end Go.Proofs.Ytliidiceljdgmaa
namespace Go.Proofs.Ytliidiceljdgmaa
open Go.RowKit
open Sy
set_option maxRecDepth 100000
def ar70W (zs : List UInt8) (f : Nat → Bool) (N m n : Nat) : Sy.Heap:=[(73,⟨false,none,[.pointer (some ⟨72,0,none⟩),.slice (some ⟨70,0,none⟩) N (big + 70)],none⟩),(72,⟨false,none,[.int .i64 (m : Nat),.slice (some ⟨71,0,none⟩) n (big + 71)],none⟩),(71,⟨false,some (71,1),v64 (wordsB f n),none⟩),(70,⟨false,some (70,1),u8s zs,none⟩)]
def imgC (p s t : Nat) (nc ns : Nat) (d : List UInt8) (a2 : Option Addr) (n2 c2 : Nat) : List Value:=[.int .i64 (p : Nat),.int .i64 (s : Nat),.int .i64 (t : Nat),.slice (some ⟨64,0,none⟩) nc (big + 64),.string ⟨⟨d⟩⟩,.slice a2 n2 c2,.slice (some ⟨66,0,none⟩) ns (big + 66)]
end Go.Proofs.Ytliidiceljdgmaa
namespace Go.Proofs.Ytliidiceljdgmaa
open Go.RowKit
open Sy
set_option maxRecDepth 100000
theorem ar70W_okH {q : Nat → Bool} (h : ∀ l,l < 76 → q l = true) (zs : List UInt8) (f : Nat → Bool) (N m n : Nat) {l : Sy.Heap} (hl : OkH q l) : OkH q (ar70W zs f N m n ++ l) :=
 ⟨⟨h 73 (by omega),rfl,fun v hv => okV_bnd 3 v ((ar70_cell (h 70 (by omega)) (h 71 (by omega)) (h 72 (by omega)) N m n).1 v hv)⟩,⟨h 72 (by omega),rfl,fun v hv => okV_bnd 3 v ((ar70_cell (h 70 (by omega)) (h 71 (by omega)) (h 72 (by omega)) N m n).2 v hv)⟩,⟨h 71 (by omega),h 71 (by omega),flat_bnd (v64_flat _)⟩,⟨h 70 (by omega),h 70 (by omega),flat_bnd (u8s_flatA zs)⟩,hl⟩
theorem ar70W_seen {h1 : Sy.Heap} {p : Nat → Bool} (hp : ∀ l,l < 76 → p l = true) (zs : List UInt8) (f : Nat → Bool) (N m n : Nat) {l : Sy.Heap} (h73 : Sy.look h1 73 = some ⟨false,none,[.pointer (some ⟨72,0,none⟩),.slice (some ⟨70,0,none⟩) N (big + 70)],none⟩) (h72 : Sy.look h1 72 = some ⟨false,none,[.int .i64 (m : Nat),.slice (some ⟨71,0,none⟩) n (big + 71)],none⟩)
  (h71 : Sy.look h1 71 = some ⟨false,some (71,1),v64 (wordsB f n),none⟩) (h70 : Sy.look h1 70 = some ⟨false,some (70,1),u8s zs,none⟩) (hl : SeenH 3 p id h1 l) : SeenH 3 p id h1 (ar70W zs f N m n ++ l):=by
 have hc1:=ar70_cell (hp 70 (by omega)) (hp 71 (by omega)) (hp 72 (by omega)) N m n
 refine ⟨⟨hp 73 (by omega),List.all_eq_true.2 hc1.1,rfl,?_⟩,⟨hp 72 (by omega),List.all_eq_true.2 hc1.2,rfl,?_⟩,⟨hp 71 (by omega),flat_all (v64_flat _),hp 71 (by omega),?_⟩,⟨hp 70 (by omega),flat_all (u8s_flatA zs),hp 70 (by omega),?_⟩,hl⟩
 ·simp only [rr, tt, id,h73]; exact ⟨rfl,rfl,trivial,(map_id3 _ rfl _).symm⟩
 ·simp only [rr, tt, id,h72]; exact ⟨rfl,rfl,trivial,(map_id3 _ rfl _).symm⟩
 ·simp only [rr, tt, id,h71]; exact ⟨rfl,rfl,trivial,by rw [map_id3 _ rfl]⟩
 ·simp only [rr, tt, id,h70]; exact ⟨rfl,rfl,trivial,by rw [map_id3 _ rfl]⟩
theorem imgC_cell {q : Nat → Bool} {a2 : Option Addr} {n2 c2 : Nat} (h : okV q 3 (.slice a2 n2 c2) = true) (h4 : q 64 = true) (h6 : q 66 = true) (p s t nc ns : Nat) (d : List UInt8) : ∀ v ∈ imgC p s t nc ns d a2 n2 c2,okV q 3 v = true:=by
 intro v hv
 simp only [rr, tt, imgC,List.mem_cons,List.not_mem_nil,or_false] at hv
 rcases hv with rfl | rfl | rfl | rfl | rfl | rfl | rfl
 all_goals first
  | exact h
  | simp [okV,bndA,h4,h6,flat0,big]
structure LcOk (zs : List UInt8) (f : Nat → Bool) (p m n k0 : Nat) : Prop where
 ar : ArOk zs (p * 256) m n
 few : p ≤ 1024
 from_ : k0 ≤ p
 no : ∀ g,16 * k0 ≤ g → f g = false
end Go.Proofs.Ytliidiceljdgmaa
namespace Go.Proofs.Ytliidiceljdgmaa.Sy
open Go.RowKit
theorem loop_okD {P : Program} {nt L : Nat} {c : Code} {X : Type} (I F : X → Sf) (ex : X → Exit) (μ : X → Nat) (hI : ∀ x,(I x).Wf)
  (hround : ∀ x,∃ (call : CallK) (lp : LoopK) (S : List Code) (T : List (Nat × Bool)) (e : Exit) (g : Fr) (d : Nat) (p : Nat → Bool) (σ : Nat → Nat),SoundCall P call ∧ SoundLoop P S lp ∧ (∀ c' ∈ loops c,c' ∈ S) ∧ evC P call lp nt L c ((I x).frT nt T) = some (e,g) ∧ g.s.O ∧
   ((e = .normal ∧ ∃ y,μ y < μ x ∧ F y = F x ∧ ex y = ex x ∧ Sf.Leads d p σ (I x) g (I y) (F x)) ∨ (e ≠ .normal ∧ e = ex x ∧ Sf.Leads d p σ (I x) g (F x) (F x)))) :
  ∀ x,LoopOk P nt c ((I x).fr nt) (ex x) ((F x).fr nt):=by
 have key : ∀ m x,μ x = m → LoopOk P nt c ((I x).fr nt) (ex x) ((F x).fr nt):=by
  intro m
  induction m using Nat.strongRecOn with
  | _ m ih =>
   intro x hm r a w Q hf hwf hg hfr hQ
   obtain ⟨call,lp,S,T,e,g,d,p,σ,hcall,hlp,hS0,hev,hO,hcase⟩:=hround x
   have hx:=hI x
   have hgl:=hg.low hx.ok.s
   have hfl:=hf.low (hx.ok.t nt)
   refine loopWp_unfold ?_
   refine (evC_ok hcall hlp (draw_ok hcall) L c _ _ _ hS0 hev hO (r.low (I x).n) a w _ hfl hwf (hgl.same rfl rfl) (low_fresh hx.ng) ?_).1
   intro r1 a1 w1 T0 hf1
   have T1 : To (r.low (I x).n) (I x).st w r1 g.s w1:=T0.start rfl rfl rfl
   rcases hcase with ⟨rfl,y,hy1,hy2,hy3,hL⟩ | ⟨hne,rfl,hL⟩
   ·have hy:=hI y
    have hS:=seenS_of hL.h hL.inj hL.lo
    have hgy:=hS.good hL.σ0 T1.good
    have hfy:=hL.l.fits hL.σ0 hf1
    have hfrY : Fresh (r1.by σ p) (I y).n (F y).n:=fun l hl _ => by
     have h1 : Nat.blt l NG = false:=by
      cases h : Nat.blt l NG
      ·rfl
      ·have:=hy.ng; simp at h; omega
     show (Nat.blt l NG || (p l && r1.d (σ l))) = false
     rw [h1,hL.pn l hl]; rfl
    refine ih (μ y) (by omega) y rfl (r1.by σ p) a1 w1 Q hfy hy.wfn hgy hfrY ?_
    rw [hy2,hy3]
    intro r3 a3 w3 T2 hf3
    obtain ⟨T3,hv⟩:=T1.behind hg hx.ng hL.σ0 hS T2 hL.n hfr hL.keep.s (fun g k hk => hL.ro _ (look_mem hk))
    refine hQ _ a3 w3 T3 ⟨hf3.size,hf3.defers,fun t => ?_⟩
    rcases hL.keep.t nt t with h | h
    ·exact .inl h
    ·exact hv _ _ h (hf3.tmps t)
   ·have hS:=seenS_of hL.h hL.inj hL.lo
    have hgy:=hS.good hL.σ0 T1.good
    have hfy:=hL.l.fits hL.σ0 hf1
    obtain ⟨T3,hv⟩:=T1.behind hg hx.ng hL.σ0 hS (To.refl hgy) hL.n hfr hL.keep.s (fun g k hk => hL.ro _ (look_mem hk))
    have:=hQ _ a1 w1 T3 ⟨hfy.size,hfy.defers,fun t => by
     rcases hL.keep.t nt t with h | h
     ·exact .inl h
     ·exact hv _ _ h (hfy.tmps t)⟩
    cases hex : ex x with
    | normal => exact absurd hex hne
    | _ => rw [hex] at this; exact this
 exact fun x => key _ x rfl
theorem loops_in (b : Code) : ∀ c,c ∈ loops b → ∀ c' ∈ loops c,c' ∈ loops b:=by
 induction b with
 | seq a b iha ihb =>
  intro c h c' h'
  rcases List.mem_append.1 (show c ∈ loops a ++ loops b from h) with h1 | h1
  ·exact List.mem_append_left _ (iha c h1 c' h')
  ·exact List.mem_append_right _ (ihb c h1 c' h')
 | cond x a b iha ihb =>
  intro c h c' h'
  rcases List.mem_append.1 (show c ∈ loops a ++ loops b from h) with h1 | h1
  ·exact List.mem_append_left _ (iha c h1 c' h')
  ·exact List.mem_append_right _ (ihb c h1 c' h')
 | block n a ih => exact fun c h c' h' => ih c h c' h'
 | loop a ih =>
  intro c h c' h'
  rcases List.mem_cons.1 (show c ∈ a :: loops a from h) with rfl | h1
  ·exact List.mem_cons_of_mem _ h'
  ·exact List.mem_cons_of_mem _ (ih c h1 c' h')
 | _ => intro c h; cases h
theorem getD'_mem {α : Type} (d : α) : ∀ (l : List α) (i : Nat),i < l.length → getD' d l i ∈ l
 | [],i,h => by simp at h
 | x :: l,0,_ => List.mem_cons_self ..
 | x :: l,i + 1,h => List.mem_cons_of_mem _ (getD'_mem d l i (by simp at h; omega))
theorem nest_ok {P : Program} {f : FuncId} {i : Nat} (h : Nat.blt i (lenT (loops (bodyOf P f))) = true) (l : List (Ent P)) :
  SoundLoop P (loops (bodyOf P f)) (lpEsc l f) ∧ ∀ c' ∈ loops (loopOf P f i),c' ∈ loops (bodyOf P f):=by
 have hi : i < (loops (bodyOf P f)).length:=by rw [lenT_eq] at h; simpa using h
 refine ⟨?_,fun c' hc' => loops_in _ _ (getD'_mem _ _ i hi) c' hc'⟩
 cases h1 : (P.funcs[f]?).bind (·.body) with
 | none =>
  have hb : bodyOf P f = .skip:=by unfold bodyOf; rw [h1]
  rw [hb] at hi
  exact absurd hi (by simp [loops])
 | some c =>
  have hb : bodyOf P f = c:=by unfold bodyOf; rw [h1]
  obtain ⟨fn,h2,h3⟩:=oB h1
  rw [hb]
  exact lpEsc_ok l f fn c h2 h3
end Go.Proofs.Ytliidiceljdgmaa.Sy
namespace Go.Proofs.Ytliidiceljdgmaa
open Go.RowKit
open Sy
set_option maxRecDepth 100000
def wnE (j nb : Nat) : List (Nat × Value):=[(1,.pointer (some ⟨67,0,none⟩)),(2,.bool false),(3,.pointer (some ⟨73,0,none⟩)),(4,.slice (some ⟨74,0,none⟩) j (big + 74)),(5,.int .i64 0),(6,.slice (some ⟨75,0,none⟩) nb (big + 75)),(7,.int .i64 0),(8,.pointer (some ⟨76,0,none⟩)),(9,.int .i64 0)]
def w0I (j : Nat) (bl : List Cp) (c da ds sa ss ha hs : Nat) (k : Nat) : Sf:=⟨77,wnE j bl.length ++ [(10,.int .i64 (k : Nat))],[(75,⟨false,some (0,0),cpL bl,none⟩),(76,⟨false,none,lyCells c da ds sa ss ha hs,none⟩)],[]⟩
def w1I (j : Nat) (fl bl : List Cp) (k : Nat) : Sf:=⟨77,wnE j bl.length ++ [(11,.int .i64 (k : Nat))],[(74,⟨false,some (0,0),cpL fl,none⟩),(75,⟨false,some (0,0),cpL bl,none⟩)],[]⟩
def w2I (j : Nat) (fl bl : List Cp) (k r : Nat) : Sf:=⟨77,wnE j bl.length ++ [(11,.int .i64 (k : Nat)),(12,.int .i64 (r : Nat))],[(74,⟨false,some (0,0),cpL fl,none⟩),(75,⟨false,some (0,0),cpL bl,none⟩)],[]⟩
def w3I (j p s t : Nat) (nc ns : Nat) (d : List UInt8) (a2 : Option Addr) (n2 c2 : Nat) (zs : List UInt8) (f : Nat → Bool) (N m n : Nat) (bl : List Cp) (k : Nat) : Sf:=⟨77,wnE j bl.length ++ [(14,.int .i64 (k : Nat))],ar70W zs f N m n ++ [(67,⟨false,none,imgC p s t nc ns d a2 n2 c2,none⟩),(75,⟨false,some (0,0),cpL bl,none⟩)],[(71,n),(70,N)]⟩
def w4I (j : Nat) (zs : List UInt8) (f : Nat → Bool) (N m n : Nat) (bl : List Cp) (tl : List Nat) (g k : Nat) : Sf:=⟨78,wnE j bl.length ++ [(14,.int .i64 (g : Nat)),(15,.slice (some ⟨77,0,none⟩) tl.length (big + 77)),(16,.int .i64 (k : Nat))],ar70W zs f N m n ++ [(75,⟨false,some (0,0),cpL bl,none⟩),(77,⟨false,some (0,0),u32s tl,none⟩)],[(71,n),(70,N)]⟩
def wxF (n j nb : Nat) (e : List (Nat × Value)) : Sf:=⟨n,wnE j nb ++ e,[],[]⟩
def tgYC (g : Nat) (zs : List UInt8) (f : Nat → Bool) (N m n : Nat) (tl : List Nat) : Con:=⟨[.pointer (some ⟨67,0,none⟩),.int .i64 (g : Nat)],68,arW false zs f N m n,arO N n,.slice (some ⟨68,0,none⟩) tl.length (big + 68),69,[(68,⟨false,some (0,0),u32s tl,none⟩)],[]⟩
def lcpC (a : Nat) (x : Cp) (zs : List UInt8) (f : Nat → Bool) (N m n : Nat) : Con:=rdWC [.pointer (some ⟨67,0,none⟩),.int .u32 (a : Nat)] (.tuple ⟨[.agg ⟨cpC x⟩,.bool true]⟩) zs f N m n
theorem w0_m (j : Nat) (bl : List Cp) (c : Nat) (da : Nat) (ds : Nat) (sa : Nat) (ss : Nat) (ha : Nat) (hs : Nat) (k : Nat) (rl : Int → Int → Int → Int → Nat) (rh : Int → Int → Int → Int → Nat) (mt : Int → Int → Int → Int → Int → Int → Bool) : evC Try.prog (evF Try.prog (baseC 3 (selRg rl rh mt)) noLoop 100 20) (noLoop 6) 170 100 (loopOf Try.prog 6 0) (Sf.frT 170 (w0I j bl c da ds sa ss ha hs k) [(0,true),(1,false),(2,false),(3,false),(4,false),(5,false),(6,false),(7,false),(8,false),(9,true),(10,true),(11,true),(12,true),(13,true),(14,true),(15,true),(16,false),(17,true),(18,false),(19,false)]) = some (Exit.normal,{ e:=[[unk,.pointer (some ⟨67,0,none⟩),.bool false,.pointer (some ⟨73,0,none⟩),.slice (some ⟨74,0,none⟩) j 9223372036854775882,.int .i64 0,.slice (some ⟨75,0,none⟩) bl.length 9223372036854775883,.int .i64 0,.pointer (some ⟨76,0,none⟩),.int .i64 0,.int .i64 (IntKind.i64.wrap ((↑k : Int) + (1 : Int))),unk,unk,unk,unk,unk],[unk,unk,unk,unk,unk,unk,unk,unk,unk,unk,unk,unk,unk,unk,unk,unk],[unk,unk,unk,unk,unk,unk,unk,unk,unk,unk,unk,unk,unk,unk,unk,unk],[unk,unk,unk,unk,unk,unk,unk,unk,.int .i64 (↑k),.slice (some ⟨75,0,none⟩) bl.length 9223372036854775883,.int .i64 (↑bl.length),.bool (decide ((↑k : Int) < (↑bl.length : Int))),.int .i64 (↑k),.int .i64 (IntKind.i64.wrap ((↑k : Int) + (1 : Int))),.slice (some ⟨75,0,none⟩) bl.length 9223372036854775883,.int .i64 (↑k)],[Value.pointer (some { block:=75,off:=0 + (↑k : Int).toNat * 8 }),.pointer (some { block:=75,off:=0 + (↑k : Int).toNat * 8 + 7 }),.bool (boolOf' (getD' undef (cpL bl) (0 + (↑k : Int).toNat * 8 + 7))),.bool !boolOf' (getD' undef (cpL bl) (0 + (↑k : Int).toNat * 8 + 7)),.bool !boolOf' (getD' undef (cpL bl) (0 + (↑k : Int).toNat * 8 + 7)),.slice (some ⟨75,0,none⟩) bl.length 9223372036854775883,.int .i64 (↑k),.pointer (some { block:=75,off:=0 + (↑k : Int).toNat * 8 }),.pointer (some { block:=75,off:=0 + (↑k : Int).toNat * 8 + 4 }),.int .u16 (intOf' (getD' undef (cpL bl) (0 + (↑k : Int).toNat * 8 + 4))),.int .u16 (bits BinOp.and IntKind.u16 (intOf' (getD' undef (cpL bl) (0 + (↑k : Int).toNat * 8 + 4))) (32 : Int)),.bool (bits BinOp.and IntKind.u16 (intOf' (getD' undef (cpL bl) (0 + (↑k : Int).toNat * 8 + 4))) (32 : Int) == (0 : Int)),.bool (bits BinOp.and IntKind.u16 (intOf' (getD' undef (cpL bl) (0 + (↑k : Int).toNat * 8 + 4))) (32 : Int) == (0 : Int)),.slice (some ⟨75,0,none⟩) bl.length 9223372036854775883,.int .i64 (↑k),.pointer (some { block:=75,off:=0 + (↑k : Int).toNat * 8 })],[Value.agg ⟨[.int .u32 (intOf' (getD' undef (cpL bl) (0 + (↑k : Int).toNat * 8))),.int .u8 (intOf' (getD' undef (cpL bl) (0 + (↑k : Int).toNat * 8 + 1))),.int .u16 (intOf' (getD' undef (cpL bl) (0 + (↑k : Int).toNat * 8 + 1 + 1))),.int .u16 (intOf' (getD' undef (cpL bl) (0 + (↑k : Int).toNat * 8 + 1 + 1 + 1))),.int .u16 (intOf' (getD' undef (cpL bl) (0 + (↑k : Int).toNat * 8 + 1 + 1 + 1 + 1))),.int .u16 (intOf' (getD' undef (cpL bl) (0 + (↑k : Int).toNat * 8 + 1 + 1 + 1 + 1 + 1))),.int .u32 (intOf' (getD' undef (cpL bl) (0 + (↑k : Int).toNat * 8 + 1 + 1 + 1 + 1 + 1 + 1))),.bool (boolOf' (getD' undef (cpL bl) (0 + (↑k : Int).toNat * 8 + 1 + 1 + 1 + 1 + 1 + 1 + 1)))]⟩,.pointer (some { block:=76,off:=6 }),.agg ⟨[.int .u32 (↑ha),.int .u32 (↑hs)]⟩,.bool (mt (intOf' (getD' undef (cpL bl) (0 + (↑k : Int).toNat * 8))) (intOf' (getD' undef (cpL bl) (0 + (↑k : Int).toNat * 8 + 1))) (intOf' (getD' undef (cpL bl) (0 + (↑k : Int).toNat * 8 + 1 + 1))) (intOf' (getD' undef (cpL bl) (0 + (↑k : Int).toNat * 8 + 1 + 1 + 1))) (↑ha : Int) (↑hs : Int)),.bool (mt (intOf' (getD' undef (cpL bl) (0 + (↑k : Int).toNat * 8))) (intOf' (getD' undef (cpL bl) (0 + (↑k : Int).toNat * 8 + 1))) (intOf' (getD' undef (cpL bl) (0 + (↑k : Int).toNat * 8 + 1 + 1))) (intOf' (getD' undef (cpL bl) (0 + (↑k : Int).toNat * 8 + 1 + 1 + 1))) (↑ha : Int) (↑hs : Int)),.bool (mt (intOf' (getD' undef (cpL bl) (0 + (↑k : Int).toNat * 8))) (intOf' (getD' undef (cpL bl) (0 + (↑k : Int).toNat * 8 + 1))) (intOf' (getD' undef (cpL bl) (0 + (↑k : Int).toNat * 8 + 1 + 1))) (intOf' (getD' undef (cpL bl) (0 + (↑k : Int).toNat * 8 + 1 + 1 + 1))) (↑ha : Int) (↑hs : Int)),unk,unk,unk,unk,unk,unk,unk,unk,unk,unk],[unk,unk,unk,unk,unk,unk,unk,unk,unk,unk,unk,unk,unk,unk,unk,unk],[unk,unk,unk,unk,unk,unk,unk,unk,unk,unk,unk,unk,unk,unk,unk,unk],[unk,unk,unk,unk,unk,unk,unk,unk,unk,unk,unk,unk,unk,unk,unk,unk],[unk,unk,unk,unk,unk,unk,unk,unk,unk,unk,unk,unk,unk,unk,unk,unk],[unk,unk,unk,unk,unk,unk,unk,unk,unk,unk,unk,unk,unk,unk,unk,unk]],s:={ n:=77,h:=[(75,⟨false,some (0,0),cpL bl,none⟩),(76,⟨false,none,[Value.int .u32 0,.int .u32 (↑c),.int .u32 (↑da),.int .u32 (↑ds),.int .u32 (↑sa),.int .u32 (↑ss),.int .u32 (↑ha),.int .u32 (↑hs)],none⟩)],lo:=[],esc:=0,T:=[],k:=20,O:=((((((((bif hasN (0 + (↑k : Int).toNat * 8 + 8) (cpL bl) && isLikeL [Value.int .u32 0,.int .u8 0,.int .u16 0,.int .u16 0,.int .u16 0,.int .u16 0,.int .u32 0,.bool false] (cpL bl) (0 + (↑k : Int).toNat * 8) then (bif decide ((0 : Int) ≤ (↑k : Int)) && decide ((↑k : Int) < (↑bl.length : Int)) then ((((((bif hasN (0 + (↑k : Int).toNat * 8 + 4 + 1) (cpL bl) && isLikeL [Value.int .u16 0] (cpL bl) (0 + (↑k : Int).toNat * 8 + 4) then ((bif decide ((0 : Int) ≤ (↑k : Int)) && decide ((↑k : Int) < (↑bl.length : Int)) then (((bif hasN (0 + (↑k : Int).toNat * 8 + 7 + 1) (cpL bl) && isLikeL [Value.bool false] (cpL bl) (0 + (↑k : Int).toNat * 8 + 7) then bif decide ((0 : Int) ≤ (↑k : Int)) && decide ((↑k : Int) < (↑bl.length : Int)) then True ∧ decide ((↑k : Int) < (↑bl.length : Int)) = true else False else False) ∧ (!boolOf' (getD' undef (cpL bl) (0 + (↑k : Int).toNat * 8 + 7))) = false) ∧ (!boolOf' (getD' undef (cpL bl) (0 + (↑k : Int).toNat * 8 + 7))) = false) ∧ (!boolOf' (getD' undef (cpL bl) (0 + (↑k : Int).toNat * 8 + 7))) = false else False) ∧ (!boolOf' (getD' undef (cpL bl) (0 + (↑k : Int).toNat * 8 + 7))) = false) ∧ (!boolOf' (getD' undef (cpL bl) (0 + (↑k : Int).toNat * 8 + 7))) = false else False) ∧ (!boolOf' (getD' undef (cpL bl) (0 + (↑k : Int).toNat * 8 + 7))) = false) ∧ (!boolOf' (getD' undef (cpL bl) (0 + (↑k : Int).toNat * 8 + 7))) = false) ∧ (!boolOf' (getD' undef (cpL bl) (0 + (↑k : Int).toNat * 8 + 7))) = false) ∧ (bits BinOp.and IntKind.u16 (intOf' (getD' undef (cpL bl) (0 + (↑k : Int).toNat * 8 + 4))) (32 : Int) == (0 : Int)) = true) ∧ (bits BinOp.and IntKind.u16 (intOf' (getD' undef (cpL bl) (0 + (↑k : Int).toNat * 8 + 4))) (32 : Int) == (0 : Int)) = true) ∧ (bits BinOp.and IntKind.u16 (intOf' (getD' undef (cpL bl) (0 + (↑k : Int).toNat * 8 + 4))) (32 : Int) == (0 : Int)) = true else False) ∧ (bits BinOp.and IntKind.u16 (intOf' (getD' undef (cpL bl) (0 + (↑k : Int).toNat * 8 + 4))) (32 : Int) == (0 : Int)) = true else False) ∧ (bits BinOp.and IntKind.u16 (intOf' (getD' undef (cpL bl) (0 + (↑k : Int).toNat * 8 + 4))) (32 : Int) == (0 : Int)) = true) ∧ (bits BinOp.and IntKind.u16 (intOf' (getD' undef (cpL bl) (0 + (↑k : Int).toNat * 8 + 4))) (32 : Int) == (0 : Int)) = true) ∧ (bits BinOp.and IntKind.u16 (intOf' (getD' undef (cpL bl) (0 + (↑k : Int).toNat * 8 + 4))) (32 : Int) == (0 : Int)) = true) ∧ (((0 : Int) ≤ intOf' (getD' undef (cpL bl) (0 + (↑k : Int).toNat * 8)) ∧ intOf' (getD' undef (cpL bl) (0 + (↑k : Int).toNat * 8)) < (4294967296 : Int) ∧ (0 : Int) ≤ intOf' (getD' undef (cpL bl) (0 + (↑k : Int).toNat * 8 + 1)) ∧ intOf' (getD' undef (cpL bl) (0 + (↑k : Int).toNat * 8 + 1)) < (256 : Int) ∧ (0 : Int) ≤ intOf' (getD' undef (cpL bl) (0 + (↑k : Int).toNat * 8 + 1 + 1)) ∧ intOf' (getD' undef (cpL bl) (0 + (↑k : Int).toNat * 8 + 1 + 1)) < (65536 : Int) ∧ (0 : Int) ≤ intOf' (getD' undef (cpL bl) (0 + (↑k : Int).toNat * 8 + 1 + 1 + 1)) ∧ intOf' (getD' undef (cpL bl) (0 + (↑k : Int).toNat * 8 + 1 + 1 + 1)) < (65536 : Int) ∧ (0 : Int) ≤ intOf' (getD' undef (cpL bl) (0 + (↑k : Int).toNat * 8 + 1 + 1 + 1 + 1)) ∧ intOf' (getD' undef (cpL bl) (0 + (↑k : Int).toNat * 8 + 1 + 1 + 1 + 1)) < (65536 : Int) ∧ (0 : Int) ≤ intOf' (getD' undef (cpL bl) (0 + (↑k : Int).toNat * 8 + 1 + 1 + 1 + 1 + 1)) ∧ intOf' (getD' undef (cpL bl) (0 + (↑k : Int).toNat * 8 + 1 + 1 + 1 + 1 + 1)) < (65536 : Int) ∧ (0 : Int) ≤ intOf' (getD' undef (cpL bl) (0 + (↑k : Int).toNat * 8 + 1 + 1 + 1 + 1 + 1 + 1)) ∧ intOf' (getD' undef (cpL bl) (0 + (↑k : Int).toNat * 8 + 1 + 1 + 1 + 1 + 1 + 1)) < (4294967296 : Int)) ∧ (0 : Int) ≤ (↑ha : Int) ∧ (↑ha : Int) < (4294967296 : Int) ∧ (0 : Int) ≤ (↑hs : Int) ∧ (↑hs : Int) < (4294967296 : Int)) ∧ (rr (Value.agg ⟨[.int .u32 (intOf' (getD' undef (cpL bl) (0 + (↑k : Int).toNat * 8))),.int .u8 (intOf' (getD' undef (cpL bl) (0 + (↑k : Int).toNat * 8 + 1))),.int .u16 (intOf' (getD' undef (cpL bl) (0 + (↑k : Int).toNat * 8 + 1 + 1))),.int .u16 (intOf' (getD' undef (cpL bl) (0 + (↑k : Int).toNat * 8 + 1 + 1 + 1))),.int .u16 (intOf' (getD' undef (cpL bl) (0 + (↑k : Int).toNat * 8 + 1 + 1 + 1 + 1))),.int .u16 (intOf' (getD' undef (cpL bl) (0 + (↑k : Int).toNat * 8 + 1 + 1 + 1 + 1 + 1))),.int .u32 (intOf' (getD' undef (cpL bl) (0 + (↑k : Int).toNat * 8 + 1 + 1 + 1 + 1 + 1 + 1))),.bool (boolOf' (getD' undef (cpL bl) (0 + (↑k : Int).toNat * 8 + 1 + 1 + 1 + 1 + 1 + 1 + 1)))]⟩) ∧ rr (Value.agg ⟨[.int .u32 (↑ha),.int .u32 (↑hs)]⟩) ∧ True) ∧ True ∧ True) ∧ (!boolOf' (getD' undef (cpL bl) (0 + (↑k : Int).toNat * 8 + 7))) = false) ∧ (bits BinOp.and IntKind.u16 (intOf' (getD' undef (cpL bl) (0 + (↑k : Int).toNat * 8 + 4))) (32 : Int) == (0 : Int)) = true) ∧ (!boolOf' (getD' undef (cpL bl) (0 + (↑k : Int).toNat * 8 + 7))) = false) ∧ mt (intOf' (getD' undef (cpL bl) (0 + (↑k : Int).toNat * 8))) (intOf' (getD' undef (cpL bl) (0 + (↑k : Int).toNat * 8 + 1))) (intOf' (getD' undef (cpL bl) (0 + (↑k : Int).toNat * 8 + 1 + 1))) (intOf' (getD' undef (cpL bl) (0 + (↑k : Int).toNat * 8 + 1 + 1 + 1))) (↑ha : Int) (↑hs : Int) = false : St } : Fr }):=by kernel_rfl
theorem w0_a (j : Nat) (bl : List Cp) (c : Nat) (da : Nat) (ds : Nat) (sa : Nat) (ss : Nat) (ha : Nat) (hs : Nat) (k : Nat) (rl : Int → Int → Int → Int → Nat) (rh : Int → Int → Int → Int → Nat) (mt : Int → Int → Int → Int → Int → Int → Bool) : evC Try.prog (evF Try.prog (baseC 3 (selRg rl rh mt)) noLoop 100 20) (noLoop 6) 170 100 (loopOf Try.prog 6 0) (Sf.frT 170 (w0I j bl c da ds sa ss ha hs k) [(0,true),(1,false),(2,false),(3,false),(4,false),(5,false),(6,false),(7,false),(8,false),(9,false),(10,false),(11,false),(12,false),(13,false),(14,false),(15,false),(16,false),(17,false),(18,false),(19,false)]) = some (Exit.normal,{ e:=[[unk,.pointer (some ⟨67,0,none⟩),.bool false,.pointer (some ⟨73,0,none⟩),.slice (some ⟨74,0,none⟩) j 9223372036854775882,.int .i64 0,.slice (some ⟨75,0,none⟩) bl.length 9223372036854775883,.int .i64 0,.pointer (some ⟨76,0,none⟩),.int .i64 0,.int .i64 (IntKind.i64.wrap ((↑k : Int) + (1 : Int))),unk,unk,unk,unk,unk],[unk,unk,unk,unk,unk,unk,unk,unk,unk,unk,unk,unk,unk,unk,unk,unk],[unk,unk,unk,unk,unk,unk,unk,unk,unk,unk,unk,unk,unk,unk,unk,unk],[unk,unk,unk,unk,unk,unk,unk,unk,.int .i64 (↑k),.slice (some ⟨75,0,none⟩) bl.length 9223372036854775883,.int .i64 (↑bl.length),.bool (decide ((↑k : Int) < (↑bl.length : Int))),.int .i64 (↑k),.int .i64 (IntKind.i64.wrap ((↑k : Int) + (1 : Int))),.slice (some ⟨75,0,none⟩) bl.length 9223372036854775883,.int .i64 (↑k)],[Value.pointer (some { block:=75,off:=0 + (↑k : Int).toNat * 8 }),.pointer (some { block:=75,off:=0 + (↑k : Int).toNat * 8 + 7 }),.bool (boolOf' (getD' undef (cpL bl) (0 + (↑k : Int).toNat * 8 + 7))),.bool !boolOf' (getD' undef (cpL bl) (0 + (↑k : Int).toNat * 8 + 7)),.bool !boolOf' (getD' undef (cpL bl) (0 + (↑k : Int).toNat * 8 + 7)),.slice (some ⟨75,0,none⟩) bl.length 9223372036854775883,.int .i64 (↑k),.pointer (some { block:=75,off:=0 + (↑k : Int).toNat * 8 }),.pointer (some { block:=75,off:=0 + (↑k : Int).toNat * 8 + 4 }),.int .u16 (intOf' (getD' undef (cpL bl) (0 + (↑k : Int).toNat * 8 + 4))),.int .u16 (bits BinOp.and IntKind.u16 (intOf' (getD' undef (cpL bl) (0 + (↑k : Int).toNat * 8 + 4))) (32 : Int)),.bool (bits BinOp.and IntKind.u16 (intOf' (getD' undef (cpL bl) (0 + (↑k : Int).toNat * 8 + 4))) (32 : Int) == (0 : Int)),.bool (bits BinOp.and IntKind.u16 (intOf' (getD' undef (cpL bl) (0 + (↑k : Int).toNat * 8 + 4))) (32 : Int) == (0 : Int)),undef,undef,undef],[undef,undef,undef,undef,.bool false,.bool false,unk,unk,unk,unk,unk,unk,unk,unk,unk,unk],[unk,unk,unk,unk,unk,unk,unk,unk,unk,unk,unk,unk,unk,unk,unk,unk],[unk,unk,unk,unk,unk,unk,unk,unk,unk,unk,unk,unk,unk,unk,unk,unk],[unk,unk,unk,unk,unk,unk,unk,unk,unk,unk,unk,unk,unk,unk,unk,unk],[unk,unk,unk,unk,unk,unk,unk,unk,unk,unk,unk,unk,unk,unk,unk,unk],[unk,unk,unk,unk,unk,unk,unk,unk,unk,unk,unk,unk,unk,unk,unk,unk]],s:={ n:=77,h:=[(75,⟨false,some (0,0),cpL bl,none⟩),(76,⟨false,none,[Value.int .u32 0,.int .u32 (↑c),.int .u32 (↑da),.int .u32 (↑ds),.int .u32 (↑sa),.int .u32 (↑ss),.int .u32 (↑ha),.int .u32 (↑hs)],none⟩)],lo:=[],esc:=0,T:=[],k:=20,O:=((((((((((((((bif hasN (0 + (↑k : Int).toNat * 8 + 4 + 1) (cpL bl) && isLikeL [Value.int .u16 0] (cpL bl) (0 + (↑k : Int).toNat * 8 + 4) then ((bif decide ((0 : Int) ≤ (↑k : Int)) && decide ((↑k : Int) < (↑bl.length : Int)) then (((bif hasN (0 + (↑k : Int).toNat * 8 + 7 + 1) (cpL bl) && isLikeL [Value.bool false] (cpL bl) (0 + (↑k : Int).toNat * 8 + 7) then bif decide ((0 : Int) ≤ (↑k : Int)) && decide ((↑k : Int) < (↑bl.length : Int)) then True ∧ decide ((↑k : Int) < (↑bl.length : Int)) = true else False else False) ∧ (!boolOf' (getD' undef (cpL bl) (0 + (↑k : Int).toNat * 8 + 7))) = false) ∧ (!boolOf' (getD' undef (cpL bl) (0 + (↑k : Int).toNat * 8 + 7))) = false) ∧ (!boolOf' (getD' undef (cpL bl) (0 + (↑k : Int).toNat * 8 + 7))) = false else False) ∧ (!boolOf' (getD' undef (cpL bl) (0 + (↑k : Int).toNat * 8 + 7))) = false) ∧ (!boolOf' (getD' undef (cpL bl) (0 + (↑k : Int).toNat * 8 + 7))) = false else False) ∧ (!boolOf' (getD' undef (cpL bl) (0 + (↑k : Int).toNat * 8 + 7))) = false) ∧ (!boolOf' (getD' undef (cpL bl) (0 + (↑k : Int).toNat * 8 + 7))) = false) ∧ (!boolOf' (getD' undef (cpL bl) (0 + (↑k : Int).toNat * 8 + 7))) = false) ∧ (bits BinOp.and IntKind.u16 (intOf' (getD' undef (cpL bl) (0 + (↑k : Int).toNat * 8 + 4))) (32 : Int) == (0 : Int)) = false) ∧ (bits BinOp.and IntKind.u16 (intOf' (getD' undef (cpL bl) (0 + (↑k : Int).toNat * 8 + 4))) (32 : Int) == (0 : Int)) = false) ∧ (bits BinOp.and IntKind.u16 (intOf' (getD' undef (cpL bl) (0 + (↑k : Int).toNat * 8 + 4))) (32 : Int) == (0 : Int)) = false) ∧ (bits BinOp.and IntKind.u16 (intOf' (getD' undef (cpL bl) (0 + (↑k : Int).toNat * 8 + 4))) (32 : Int) == (0 : Int)) = false) ∧ (bits BinOp.and IntKind.u16 (intOf' (getD' undef (cpL bl) (0 + (↑k : Int).toNat * 8 + 4))) (32 : Int) == (0 : Int)) = false) ∧ (bits BinOp.and IntKind.u16 (intOf' (getD' undef (cpL bl) (0 + (↑k : Int).toNat * 8 + 4))) (32 : Int) == (0 : Int)) = false) ∧ (bits BinOp.and IntKind.u16 (intOf' (getD' undef (cpL bl) (0 + (↑k : Int).toNat * 8 + 4))) (32 : Int) == (0 : Int)) = false) ∧ (!boolOf' (getD' undef (cpL bl) (0 + (↑k : Int).toNat * 8 + 7))) = false) ∧ (bits BinOp.and IntKind.u16 (intOf' (getD' undef (cpL bl) (0 + (↑k : Int).toNat * 8 + 4))) (32 : Int) == (0 : Int)) = false) ∧ (!boolOf' (getD' undef (cpL bl) (0 + (↑k : Int).toNat * 8 + 7))) = false) ∧ false = false : St } : Fr }):=by kernel_rfl
theorem w0_e (j : Nat) (bl : List Cp) (c : Nat) (da : Nat) (ds : Nat) (sa : Nat) (ss : Nat) (ha : Nat) (hs : Nat) (k : Nat) (rl : Int → Int → Int → Int → Nat) (rh : Int → Int → Int → Int → Nat) (mt : Int → Int → Int → Int → Int → Int → Bool) : evC Try.prog (evF Try.prog (baseC 3 (selRg rl rh mt)) noLoop 100 20) (noLoop 6) 170 100 (loopOf Try.prog 6 0) (Sf.frT 170 (w0I j bl c da ds sa ss ha hs k) [(0,false)]) = some (Exit.exit 0,{ e:=[[unk,.pointer (some ⟨67,0,none⟩),.bool false,.pointer (some ⟨73,0,none⟩),.slice (some ⟨74,0,none⟩) j 9223372036854775882,.int .i64 0,.slice (some ⟨75,0,none⟩) bl.length 9223372036854775883,.int .i64 0,.pointer (some ⟨76,0,none⟩),.int .i64 0,.int .i64 (↑k),unk,unk,unk,unk,unk],[unk,unk,unk,unk,unk,unk,unk,unk,unk,unk,unk,unk,unk,unk,unk,unk],[unk,unk,unk,unk,unk,unk,unk,unk,unk,unk,unk,unk,unk,unk,unk,unk],[unk,unk,unk,unk,unk,unk,unk,unk,.int .i64 (↑k),.slice (some ⟨75,0,none⟩) bl.length 9223372036854775883,.int .i64 (↑bl.length),.bool (decide ((↑k : Int) < (↑bl.length : Int))),unk,unk,unk,unk],[unk,unk,unk,unk,unk,unk,unk,unk,unk,unk,unk,unk,unk,unk,unk,unk],[unk,unk,unk,unk,unk,unk,unk,unk,unk,unk,unk,unk,unk,unk,unk,unk],[unk,unk,unk,unk,unk,unk,unk,unk,unk,unk,unk,unk,unk,unk,unk,unk],[unk,unk,unk,unk,unk,unk,unk,unk,unk,unk,unk,unk,unk,unk,unk,unk],[unk,unk,unk,unk,unk,unk,unk,unk,unk,unk,unk,unk,unk,unk,unk,unk],[unk,unk,unk,unk,unk,unk,unk,unk,unk,unk,unk,unk,unk,unk,unk,unk],[unk,unk,unk,unk,unk,unk,unk,unk,unk,unk,unk,unk,unk,unk,unk,unk]],s:={ n:=77,h:=[(75,⟨false,some (0,0),cpL bl,none⟩),(76,⟨false,none,[Value.int .u32 0,.int .u32 (↑c),.int .u32 (↑da),.int .u32 (↑ds),.int .u32 (↑sa),.int .u32 (↑ss),.int .u32 (↑ha),.int .u32 (↑hs)],none⟩)],lo:=[],esc:=0,T:=[],k:=1,O:=True ∧ decide ((↑k : Int) < (↑bl.length : Int)) = false : St } : Fr }):=by kernel_rfl
theorem w2_n (j : Nat) (fl : List Cp) (bl : List Cp) (k : Nat) (r : Nat) : evC Try.prog (evF Try.prog noBase noLoop 100 20) (noLoop 6) 170 100 (loopOf Try.prog 6 2) (Sf.frT 170 (w2I j fl bl k r) [(0,true),(1,false),(2,false),(3,false),(4,false),(5,false),(6,false),(7,false),(8,false),(9,false),(10,true),(11,true),(12,true),(13,false),(14,true),(15,false),(16,false)]) = some (Exit.normal,{ e:=[[unk,.pointer (some ⟨67,0,none⟩),.bool false,.pointer (some ⟨73,0,none⟩),.slice (some ⟨74,0,none⟩) j 9223372036854775882,.int .i64 0,.slice (some ⟨75,0,none⟩) bl.length 9223372036854775883,.int .i64 0,.pointer (some ⟨76,0,none⟩),.int .i64 0,unk,.int .i64 (↑k),.int .i64 (IntKind.i64.wrap ((↑r : Int) + (1 : Int))),.pointer (some ⟨77,0,none⟩),unk,unk],[unk,unk,unk,unk,unk,unk,unk,unk,unk,unk,unk,unk,unk,unk,unk,unk],[unk,unk,unk,unk,unk,unk,unk,unk,unk,unk,unk,unk,unk,unk,unk,unk],[unk,unk,unk,unk,unk,unk,unk,unk,unk,unk,unk,unk,unk,unk,unk,unk],[unk,unk,unk,unk,unk,unk,unk,unk,unk,unk,unk,unk,unk,unk,unk,unk],[unk,unk,unk,unk,unk,unk,unk,unk,unk,unk,unk,unk,unk,unk,unk,unk],[unk,unk,unk,unk,unk,unk,unk,unk,unk,unk,unk,unk,unk,.int .i64 (↑r),.bool (decide ((↑r : Int) < (16 : Int))),.int .i64 (↑r)],[Value.int .i64 (IntKind.i64.wrap ((↑r : Int) + (1 : Int))),.slice (some ⟨74,0,none⟩) j 9223372036854775882,.int .i64 (↑k),.int .i64 (↑r),.pointer (some { block:=74,off:=0 + (↑k : Int).toNat * 136 }),.pointer (some { block:=74,off:=0 + (↑k : Int).toNat * 136 + 0 }),.pointer (some { block:=74,off:=0 + (↑k : Int).toNat * 136 + 0 + (↑r : Int).toNat * 8 }),.agg ⟨[.int .u32 (intOf' (getD' undef (cpL fl) (0 + (↑k : Int).toNat * 136 + 0 + (↑r : Int).toNat * 8))),.int .u8 (intOf' (getD' undef (cpL fl) (0 + (↑k : Int).toNat * 136 + 0 + (↑r : Int).toNat * 8 + 1))),.int .u16 (intOf' (getD' undef (cpL fl) (0 + (↑k : Int).toNat * 136 + 0 + (↑r : Int).toNat * 8 + 1 + 1))),.int .u16 (intOf' (getD' undef (cpL fl) (0 + (↑k : Int).toNat * 136 + 0 + (↑r : Int).toNat * 8 + 1 + 1 + 1))),.int .u16 (intOf' (getD' undef (cpL fl) (0 + (↑k : Int).toNat * 136 + 0 + (↑r : Int).toNat * 8 + 1 + 1 + 1 + 1))),.int .u16 (intOf' (getD' undef (cpL fl) (0 + (↑k : Int).toNat * 136 + 0 + (↑r : Int).toNat * 8 + 1 + 1 + 1 + 1 + 1))),.int .u32 (intOf' (getD' undef (cpL fl) (0 + (↑k : Int).toNat * 136 + 0 + (↑r : Int).toNat * 8 + 1 + 1 + 1 + 1 + 1 + 1))),.bool (boolOf' (getD' undef (cpL fl) (0 + (↑k : Int).toNat * 136 + 0 + (↑r : Int).toNat * 8 + 1 + 1 + 1 + 1 + 1 + 1 + 1)))]⟩,.pointer (some { block:=77,off:=7 }),.bool (boolOf' (getD' undef (cpL fl) (0 + (↑k : Int).toNat * 136 + 0 + (↑r : Int).toNat * 8 + 1 + 1 + 1 + 1 + 1 + 1 + 1))),.bool (boolOf' (getD' undef (cpL fl) (0 + (↑k : Int).toNat * 136 + 0 + (↑r : Int).toNat * 8 + 1 + 1 + 1 + 1 + 1 + 1 + 1))),undef,undef,undef,undef,.bool false],[Value.bool false,.pointer (some { block:=77,off:=7 }),.bool (boolOf' (getD' undef (cpL fl) (0 + (↑k : Int).toNat * 136 + 0 + (↑r : Int).toNat * 8 + 1 + 1 + 1 + 1 + 1 + 1 + 1))),.bool !boolOf' (getD' undef (cpL fl) (0 + (↑k : Int).toNat * 136 + 0 + (↑r : Int).toNat * 8 + 1 + 1 + 1 + 1 + 1 + 1 + 1)),.bool !boolOf' (getD' undef (cpL fl) (0 + (↑k : Int).toNat * 136 + 0 + (↑r : Int).toNat * 8 + 1 + 1 + 1 + 1 + 1 + 1 + 1)),.agg ⟨[.int .u32 (intOf' (getD' undef (cpL fl) (0 + (↑k : Int).toNat * 136 + 0 + (↑r : Int).toNat * 8))),.int .u8 (intOf' (getD' undef (cpL fl) (0 + (↑k : Int).toNat * 136 + 0 + (↑r : Int).toNat * 8 + 1))),.int .u16 (intOf' (getD' undef (cpL fl) (0 + (↑k : Int).toNat * 136 + 0 + (↑r : Int).toNat * 8 + 1 + 1))),.int .u16 (intOf' (getD' undef (cpL fl) (0 + (↑k : Int).toNat * 136 + 0 + (↑r : Int).toNat * 8 + 1 + 1 + 1))),.int .u16 (intOf' (getD' undef (cpL fl) (0 + (↑k : Int).toNat * 136 + 0 + (↑r : Int).toNat * 8 + 1 + 1 + 1 + 1))),.int .u16 (intOf' (getD' undef (cpL fl) (0 + (↑k : Int).toNat * 136 + 0 + (↑r : Int).toNat * 8 + 1 + 1 + 1 + 1 + 1))),.int .u32 (intOf' (getD' undef (cpL fl) (0 + (↑k : Int).toNat * 136 + 0 + (↑r : Int).toNat * 8 + 1 + 1 + 1 + 1 + 1 + 1))),.bool (boolOf' (getD' undef (cpL fl) (0 + (↑k : Int).toNat * 136 + 0 + (↑r : Int).toNat * 8 + 1 + 1 + 1 + 1 + 1 + 1 + 1)))]⟩,.agg ⟨[.int .u32 0,.int .u8 0,.int .u16 0,.int .u16 0,.int .u16 0,.int .u16 0,.int .u32 0,.bool false]⟩,.bool !(intOf' (getD' undef (cpL fl) (0 + (↑k : Int).toNat * 136 + 0 + (↑r : Int).toNat * 8)) == (0 : Int) && (intOf' (getD' undef (cpL fl) (0 + (↑k : Int).toNat * 136 + 0 + (↑r : Int).toNat * 8 + 1)) == (0 : Int) && (intOf' (getD' undef (cpL fl) (0 + (↑k : Int).toNat * 136 + 0 + (↑r : Int).toNat * 8 + 1 + 1)) == (0 : Int) && (intOf' (getD' undef (cpL fl) (0 + (↑k : Int).toNat * 136 + 0 + (↑r : Int).toNat * 8 + 1 + 1 + 1)) == (0 : Int) && (intOf' (getD' undef (cpL fl) (0 + (↑k : Int).toNat * 136 + 0 + (↑r : Int).toNat * 8 + 1 + 1 + 1 + 1)) == (0 : Int) && (intOf' (getD' undef (cpL fl) (0 + (↑k : Int).toNat * 136 + 0 + (↑r : Int).toNat * 8 + 1 + 1 + 1 + 1 + 1)) == (0 : Int) && (intOf' (getD' undef (cpL fl) (0 + (↑k : Int).toNat * 136 + 0 + (↑r : Int).toNat * 8 + 1 + 1 + 1 + 1 + 1 + 1)) == (0 : Int) && (boolOf' (getD' undef (cpL fl) (0 + (↑k : Int).toNat * 136 + 0 + (↑r : Int).toNat * 8 + 1 + 1 + 1 + 1 + 1 + 1 + 1)) == false && true)))))))),.bool !(intOf' (getD' undef (cpL fl) (0 + (↑k : Int).toNat * 136 + 0 + (↑r : Int).toNat * 8)) == (0 : Int) && (intOf' (getD' undef (cpL fl) (0 + (↑k : Int).toNat * 136 + 0 + (↑r : Int).toNat * 8 + 1)) == (0 : Int) && (intOf' (getD' undef (cpL fl) (0 + (↑k : Int).toNat * 136 + 0 + (↑r : Int).toNat * 8 + 1 + 1)) == (0 : Int) && (intOf' (getD' undef (cpL fl) (0 + (↑k : Int).toNat * 136 + 0 + (↑r : Int).toNat * 8 + 1 + 1 + 1)) == (0 : Int) && (intOf' (getD' undef (cpL fl) (0 + (↑k : Int).toNat * 136 + 0 + (↑r : Int).toNat * 8 + 1 + 1 + 1 + 1)) == (0 : Int) && (intOf' (getD' undef (cpL fl) (0 + (↑k : Int).toNat * 136 + 0 + (↑r : Int).toNat * 8 + 1 + 1 + 1 + 1 + 1)) == (0 : Int) && (intOf' (getD' undef (cpL fl) (0 + (↑k : Int).toNat * 136 + 0 + (↑r : Int).toNat * 8 + 1 + 1 + 1 + 1 + 1 + 1)) == (0 : Int) && (boolOf' (getD' undef (cpL fl) (0 + (↑k : Int).toNat * 136 + 0 + (↑r : Int).toNat * 8 + 1 + 1 + 1 + 1 + 1 + 1 + 1)) == false && true)))))))),.bool !(intOf' (getD' undef (cpL fl) (0 + (↑k : Int).toNat * 136 + 0 + (↑r : Int).toNat * 8)) == (0 : Int) && (intOf' (getD' undef (cpL fl) (0 + (↑k : Int).toNat * 136 + 0 + (↑r : Int).toNat * 8 + 1)) == (0 : Int) && (intOf' (getD' undef (cpL fl) (0 + (↑k : Int).toNat * 136 + 0 + (↑r : Int).toNat * 8 + 1 + 1)) == (0 : Int) && (intOf' (getD' undef (cpL fl) (0 + (↑k : Int).toNat * 136 + 0 + (↑r : Int).toNat * 8 + 1 + 1 + 1)) == (0 : Int) && (intOf' (getD' undef (cpL fl) (0 + (↑k : Int).toNat * 136 + 0 + (↑r : Int).toNat * 8 + 1 + 1 + 1 + 1)) == (0 : Int) && (intOf' (getD' undef (cpL fl) (0 + (↑k : Int).toNat * 136 + 0 + (↑r : Int).toNat * 8 + 1 + 1 + 1 + 1 + 1)) == (0 : Int) && (intOf' (getD' undef (cpL fl) (0 + (↑k : Int).toNat * 136 + 0 + (↑r : Int).toNat * 8 + 1 + 1 + 1 + 1 + 1 + 1)) == (0 : Int) && (boolOf' (getD' undef (cpL fl) (0 + (↑k : Int).toNat * 136 + 0 + (↑r : Int).toNat * 8 + 1 + 1 + 1 + 1 + 1 + 1 + 1)) == false && true)))))))),unk,unk,unk,unk,unk,unk],[unk,unk,unk,unk,unk,unk,unk,unk,unk,unk,unk,unk,unk,unk,unk,unk],[unk,unk,unk,unk,unk,unk,unk,unk,unk,unk,unk,unk,unk,unk,unk,unk]],s:={ n:=79,h:=[(74,⟨false,some (0,0),cpL fl,none⟩),(75,⟨false,some (0,0),cpL bl,none⟩),(77,⟨true,none,[Value.int .u32 (intOf' (getD' undef (cpL fl) (0 + (↑k : Int).toNat * 136 + 0 + (↑r : Int).toNat * 8))),.int .u8 (intOf' (getD' undef (cpL fl) (0 + (↑k : Int).toNat * 136 + 0 + (↑r : Int).toNat * 8 + 1))),.int .u16 (intOf' (getD' undef (cpL fl) (0 + (↑k : Int).toNat * 136 + 0 + (↑r : Int).toNat * 8 + 1 + 1))),.int .u16 (intOf' (getD' undef (cpL fl) (0 + (↑k : Int).toNat * 136 + 0 + (↑r : Int).toNat * 8 + 1 + 1 + 1))),.int .u16 (intOf' (getD' undef (cpL fl) (0 + (↑k : Int).toNat * 136 + 0 + (↑r : Int).toNat * 8 + 1 + 1 + 1 + 1))),.int .u16 (intOf' (getD' undef (cpL fl) (0 + (↑k : Int).toNat * 136 + 0 + (↑r : Int).toNat * 8 + 1 + 1 + 1 + 1 + 1))),.int .u32 (intOf' (getD' undef (cpL fl) (0 + (↑k : Int).toNat * 136 + 0 + (↑r : Int).toNat * 8 + 1 + 1 + 1 + 1 + 1 + 1))),.bool (boolOf' (getD' undef (cpL fl) (0 + (↑k : Int).toNat * 136 + 0 + (↑r : Int).toNat * 8 + 1 + 1 + 1 + 1 + 1 + 1 + 1)))],none⟩)],lo:=[],esc:=0,T:=[],k:=17,O:=((((((((((((((((bif hasN (0 + (↑k : Int).toNat * 136 + 0 + (↑r : Int).toNat * 8 + 8) (cpL fl) && isLikeL [Value.int .u32 0,.int .u8 0,.int .u16 0,.int .u16 0,.int .u16 0,.int .u16 0,.int .u32 0,.bool false] (cpL fl) (0 + (↑k : Int).toNat * 136 + 0 + (↑r : Int).toNat * 8) then bif decide ((0 : Int) ≤ (↑r : Int)) && decide ((↑r : Int) < (16 : Int)) then bif decide ((0 : Int) ≤ (↑k : Int)) && decide ((↑k : Int) < (↑j : Int)) then True ∧ decide ((↑r : Int) < (16 : Int)) = true else False else False else False) ∧ boolOf' (getD' undef (cpL fl) (0 + (↑k : Int).toNat * 136 + 0 + (↑r : Int).toNat * 8 + 1 + 1 + 1 + 1 + 1 + 1 + 1)) = false) ∧ boolOf' (getD' undef (cpL fl) (0 + (↑k : Int).toNat * 136 + 0 + (↑r : Int).toNat * 8 + 1 + 1 + 1 + 1 + 1 + 1 + 1)) = false) ∧ boolOf' (getD' undef (cpL fl) (0 + (↑k : Int).toNat * 136 + 0 + (↑r : Int).toNat * 8 + 1 + 1 + 1 + 1 + 1 + 1 + 1)) = false) ∧ boolOf' (getD' undef (cpL fl) (0 + (↑k : Int).toNat * 136 + 0 + (↑r : Int).toNat * 8 + 1 + 1 + 1 + 1 + 1 + 1 + 1)) = false) ∧ boolOf' (getD' undef (cpL fl) (0 + (↑k : Int).toNat * 136 + 0 + (↑r : Int).toNat * 8 + 1 + 1 + 1 + 1 + 1 + 1 + 1)) = false) ∧ rr false) ∧ rr false) ∧ rr false) ∧ rr false) ∧ (!boolOf' (getD' undef (cpL fl) (0 + (↑k : Int).toNat * 136 + 0 + (↑r : Int).toNat * 8 + 1 + 1 + 1 + 1 + 1 + 1 + 1))) = true) ∧ (!boolOf' (getD' undef (cpL fl) (0 + (↑k : Int).toNat * 136 + 0 + (↑r : Int).toNat * 8 + 1 + 1 + 1 + 1 + 1 + 1 + 1))) = true) ∧ (!boolOf' (getD' undef (cpL fl) (0 + (↑k : Int).toNat * 136 + 0 + (↑r : Int).toNat * 8 + 1 + 1 + 1 + 1 + 1 + 1 + 1))) = true) ∧ rr false) ∧ (!boolOf' (getD' undef (cpL fl) (0 + (↑k : Int).toNat * 136 + 0 + (↑r : Int).toNat * 8 + 1 + 1 + 1 + 1 + 1 + 1 + 1))) = true) ∧ rr false) ∧ (!(intOf' (getD' undef (cpL fl) (0 + (↑k : Int).toNat * 136 + 0 + (↑r : Int).toNat * 8)) == (0 : Int) && (intOf' (getD' undef (cpL fl) (0 + (↑k : Int).toNat * 136 + 0 + (↑r : Int).toNat * 8 + 1)) == (0 : Int) && (intOf' (getD' undef (cpL fl) (0 + (↑k : Int).toNat * 136 + 0 + (↑r : Int).toNat * 8 + 1 + 1)) == (0 : Int) && (intOf' (getD' undef (cpL fl) (0 + (↑k : Int).toNat * 136 + 0 + (↑r : Int).toNat * 8 + 1 + 1 + 1)) == (0 : Int) && (intOf' (getD' undef (cpL fl) (0 + (↑k : Int).toNat * 136 + 0 + (↑r : Int).toNat * 8 + 1 + 1 + 1 + 1)) == (0 : Int) && (intOf' (getD' undef (cpL fl) (0 + (↑k : Int).toNat * 136 + 0 + (↑r : Int).toNat * 8 + 1 + 1 + 1 + 1 + 1)) == (0 : Int) && (intOf' (getD' undef (cpL fl) (0 + (↑k : Int).toNat * 136 + 0 + (↑r : Int).toNat * 8 + 1 + 1 + 1 + 1 + 1 + 1)) == (0 : Int) && (boolOf' (getD' undef (cpL fl) (0 + (↑k : Int).toNat * 136 + 0 + (↑r : Int).toNat * 8 + 1 + 1 + 1 + 1 + 1 + 1 + 1)) == false && true))))))))) = false : St } : Fr }):=by kernel_rfl
theorem w2_y (j : Nat) (fl : List Cp) (bl : List Cp) (k : Nat) (r : Nat) (a : Nat) (e : Nat) (b : Nat) (t : Nat) (p : Nat) (y : Nat) (v : Bool) : evC Try.prog (evF Try.prog (baseF 3 (selSteps [(78,20,wiC { a:=a,e:=e,b:=b,t:=t,p:=p,y:=y,v:=v : Cp } bl,[75])]) noBase) noLoop 100 20) (noLoop 6) 170 100 (loopOf Try.prog 6 2) (Sf.frT 170 (w2I j fl bl k r) [(0,true),(1,true),(2,true),(3,true),(4,true),(5,true),(6,false),(7,false),(8,false),(9,false),(10,false),(11,false),(12,false),(13,false),(14,false),(15,false),(16,false)]) = some (Exit.normal,{ e:=[[unk,.pointer (some ⟨67,0,none⟩),.bool false,.pointer (some ⟨73,0,none⟩),.slice (some ⟨74,0,none⟩) j 9223372036854775882,.int .i64 0,.slice (some ⟨75,0,none⟩) bl.length 9223372036854775883,.int .i64 0,.pointer (some ⟨76,0,none⟩),.int .i64 0,unk,.int .i64 (↑k),.int .i64 (IntKind.i64.wrap ((↑r : Int) + (1 : Int))),.pointer (some ⟨77,0,none⟩),unk,unk],[unk,unk,unk,unk,unk,unk,unk,unk,unk,unk,unk,unk,unk,unk,unk,unk],[unk,unk,unk,unk,unk,unk,unk,unk,unk,unk,unk,unk,unk,unk,unk,unk],[unk,unk,unk,unk,unk,unk,unk,unk,unk,unk,unk,unk,unk,unk,unk,unk],[unk,unk,unk,unk,unk,unk,unk,unk,unk,unk,unk,unk,unk,unk,unk,unk],[unk,unk,unk,unk,unk,unk,unk,unk,unk,unk,unk,unk,unk,unk,unk,unk],[unk,unk,unk,unk,unk,unk,unk,unk,unk,unk,unk,unk,unk,.int .i64 (↑r),.bool (decide ((↑r : Int) < (16 : Int))),.int .i64 (↑r)],[Value.int .i64 (IntKind.i64.wrap ((↑r : Int) + (1 : Int))),.slice (some ⟨74,0,none⟩) j 9223372036854775882,.int .i64 (↑k),.int .i64 (↑r),.pointer (some { block:=74,off:=0 + (↑k : Int).toNat * 136 }),.pointer (some { block:=74,off:=0 + (↑k : Int).toNat * 136 + 0 }),.pointer (some { block:=74,off:=0 + (↑k : Int).toNat * 136 + 0 + (↑r : Int).toNat * 8 }),.agg ⟨[.int .u32 (intOf' (getD' undef (cpL fl) (0 + (↑k : Int).toNat * 136 + 0 + (↑r : Int).toNat * 8))),.int .u8 (intOf' (getD' undef (cpL fl) (0 + (↑k : Int).toNat * 136 + 0 + (↑r : Int).toNat * 8 + 1))),.int .u16 (intOf' (getD' undef (cpL fl) (0 + (↑k : Int).toNat * 136 + 0 + (↑r : Int).toNat * 8 + 1 + 1))),.int .u16 (intOf' (getD' undef (cpL fl) (0 + (↑k : Int).toNat * 136 + 0 + (↑r : Int).toNat * 8 + 1 + 1 + 1))),.int .u16 (intOf' (getD' undef (cpL fl) (0 + (↑k : Int).toNat * 136 + 0 + (↑r : Int).toNat * 8 + 1 + 1 + 1 + 1))),.int .u16 (intOf' (getD' undef (cpL fl) (0 + (↑k : Int).toNat * 136 + 0 + (↑r : Int).toNat * 8 + 1 + 1 + 1 + 1 + 1))),.int .u32 (intOf' (getD' undef (cpL fl) (0 + (↑k : Int).toNat * 136 + 0 + (↑r : Int).toNat * 8 + 1 + 1 + 1 + 1 + 1 + 1))),.bool (boolOf' (getD' undef (cpL fl) (0 + (↑k : Int).toNat * 136 + 0 + (↑r : Int).toNat * 8 + 1 + 1 + 1 + 1 + 1 + 1 + 1)))]⟩,.pointer (some { block:=77,off:=7 }),.bool (boolOf' (getD' undef (cpL fl) (0 + (↑k : Int).toNat * 136 + 0 + (↑r : Int).toNat * 8 + 1 + 1 + 1 + 1 + 1 + 1 + 1))),.bool (boolOf' (getD' undef (cpL fl) (0 + (↑k : Int).toNat * 136 + 0 + (↑r : Int).toNat * 8 + 1 + 1 + 1 + 1 + 1 + 1 + 1))),.agg ⟨[.int .u32 (intOf' (getD' undef (cpL fl) (0 + (↑k : Int).toNat * 136 + 0 + (↑r : Int).toNat * 8))),.int .u8 (intOf' (getD' undef (cpL fl) (0 + (↑k : Int).toNat * 136 + 0 + (↑r : Int).toNat * 8 + 1))),.int .u16 (intOf' (getD' undef (cpL fl) (0 + (↑k : Int).toNat * 136 + 0 + (↑r : Int).toNat * 8 + 1 + 1))),.int .u16 (intOf' (getD' undef (cpL fl) (0 + (↑k : Int).toNat * 136 + 0 + (↑r : Int).toNat * 8 + 1 + 1 + 1))),.int .u16 (intOf' (getD' undef (cpL fl) (0 + (↑k : Int).toNat * 136 + 0 + (↑r : Int).toNat * 8 + 1 + 1 + 1 + 1))),.int .u16 (intOf' (getD' undef (cpL fl) (0 + (↑k : Int).toNat * 136 + 0 + (↑r : Int).toNat * 8 + 1 + 1 + 1 + 1 + 1))),.int .u32 (intOf' (getD' undef (cpL fl) (0 + (↑k : Int).toNat * 136 + 0 + (↑r : Int).toNat * 8 + 1 + 1 + 1 + 1 + 1 + 1))),.bool (boolOf' (getD' undef (cpL fl) (0 + (↑k : Int).toNat * 136 + 0 + (↑r : Int).toNat * 8 + 1 + 1 + 1 + 1 + 1 + 1 + 1)))]⟩,.slice (some ⟨75,0,none⟩) bl.length 9223372036854775883,.bool true,.bool false,.bool false],[Value.bool false,.pointer (some { block:=77,off:=7 }),.bool (boolOf' (getD' undef (cpL fl) (0 + (↑k : Int).toNat * 136 + 0 + (↑r : Int).toNat * 8 + 1 + 1 + 1 + 1 + 1 + 1 + 1))),.bool !boolOf' (getD' undef (cpL fl) (0 + (↑k : Int).toNat * 136 + 0 + (↑r : Int).toNat * 8 + 1 + 1 + 1 + 1 + 1 + 1 + 1)),.bool !boolOf' (getD' undef (cpL fl) (0 + (↑k : Int).toNat * 136 + 0 + (↑r : Int).toNat * 8 + 1 + 1 + 1 + 1 + 1 + 1 + 1)),undef,undef,undef,.bool false,.bool false,unk,unk,unk,unk,unk,unk],[unk,unk,unk,unk,unk,unk,unk,unk,unk,unk,unk,unk,unk,unk,unk,unk],[unk,unk,unk,unk,unk,unk,unk,unk,unk,unk,unk,unk,unk,unk,unk,unk]],s:={ n:=78,h:=[(74,⟨false,some (0,0),cpL fl,none⟩),(75,⟨false,some (0,0),cpL bl,none⟩),(77,⟨true,none,[Value.int .u32 (intOf' (getD' undef (cpL fl) (0 + (↑k : Int).toNat * 136 + 0 + (↑r : Int).toNat * 8))),.int .u8 (intOf' (getD' undef (cpL fl) (0 + (↑k : Int).toNat * 136 + 0 + (↑r : Int).toNat * 8 + 1))),.int .u16 (intOf' (getD' undef (cpL fl) (0 + (↑k : Int).toNat * 136 + 0 + (↑r : Int).toNat * 8 + 1 + 1))),.int .u16 (intOf' (getD' undef (cpL fl) (0 + (↑k : Int).toNat * 136 + 0 + (↑r : Int).toNat * 8 + 1 + 1 + 1))),.int .u16 (intOf' (getD' undef (cpL fl) (0 + (↑k : Int).toNat * 136 + 0 + (↑r : Int).toNat * 8 + 1 + 1 + 1 + 1))),.int .u16 (intOf' (getD' undef (cpL fl) (0 + (↑k : Int).toNat * 136 + 0 + (↑r : Int).toNat * 8 + 1 + 1 + 1 + 1 + 1))),.int .u32 (intOf' (getD' undef (cpL fl) (0 + (↑k : Int).toNat * 136 + 0 + (↑r : Int).toNat * 8 + 1 + 1 + 1 + 1 + 1 + 1))),.bool (boolOf' (getD' undef (cpL fl) (0 + (↑k : Int).toNat * 136 + 0 + (↑r : Int).toNat * 8 + 1 + 1 + 1 + 1 + 1 + 1 + 1)))],none⟩)],lo:=[],esc:=0,T:=[],k:=17,O:=(((((((((((((((((bif hasN (0 + (↑k : Int).toNat * 136 + 0 + (↑r : Int).toNat * 8 + 8) (cpL fl) && isLikeL [Value.int .u32 0,.int .u8 0,.int .u16 0,.int .u16 0,.int .u16 0,.int .u16 0,.int .u32 0,.bool false] (cpL fl) (0 + (↑k : Int).toNat * 136 + 0 + (↑r : Int).toNat * 8) then bif decide ((0 : Int) ≤ (↑r : Int)) && decide ((↑r : Int) < (16 : Int)) then bif decide ((0 : Int) ≤ (↑k : Int)) && decide ((↑k : Int) < (↑j : Int)) then True ∧ decide ((↑r : Int) < (16 : Int)) = true else False else False else False) ∧ boolOf' (getD' undef (cpL fl) (0 + (↑k : Int).toNat * 136 + 0 + (↑r : Int).toNat * 8 + 1 + 1 + 1 + 1 + 1 + 1 + 1)) = true) ∧ boolOf' (getD' undef (cpL fl) (0 + (↑k : Int).toNat * 136 + 0 + (↑r : Int).toNat * 8 + 1 + 1 + 1 + 1 + 1 + 1 + 1)) = true) ∧ boolOf' (getD' undef (cpL fl) (0 + (↑k : Int).toNat * 136 + 0 + (↑r : Int).toNat * 8 + 1 + 1 + 1 + 1 + 1 + 1 + 1)) = true) ∧ True ∧ (Value.agg ⟨[.int .u32 (intOf' (getD' undef (cpL fl) (0 + (↑k : Int).toNat * 136 + 0 + (↑r : Int).toNat * 8))),.int .u8 (intOf' (getD' undef (cpL fl) (0 + (↑k : Int).toNat * 136 + 0 + (↑r : Int).toNat * 8 + 1))),.int .u16 (intOf' (getD' undef (cpL fl) (0 + (↑k : Int).toNat * 136 + 0 + (↑r : Int).toNat * 8 + 1 + 1))),.int .u16 (intOf' (getD' undef (cpL fl) (0 + (↑k : Int).toNat * 136 + 0 + (↑r : Int).toNat * 8 + 1 + 1 + 1))),.int .u16 (intOf' (getD' undef (cpL fl) (0 + (↑k : Int).toNat * 136 + 0 + (↑r : Int).toNat * 8 + 1 + 1 + 1 + 1))),.int .u16 (intOf' (getD' undef (cpL fl) (0 + (↑k : Int).toNat * 136 + 0 + (↑r : Int).toNat * 8 + 1 + 1 + 1 + 1 + 1))),.int .u32 (intOf' (getD' undef (cpL fl) (0 + (↑k : Int).toNat * 136 + 0 + (↑r : Int).toNat * 8 + 1 + 1 + 1 + 1 + 1 + 1))),.bool (boolOf' (getD' undef (cpL fl) (0 + (↑k : Int).toNat * 136 + 0 + (↑r : Int).toNat * 8 + 1 + 1 + 1 + 1 + 1 + 1 + 1)))]⟩ = Value.agg ⟨[.int .u32 (↑a),.int .u8 (↑e),.int .u16 (↑b),.int .u16 (↑t),.int .u16 (↑p),.int .u16 (↑y),.int .u32 0,.bool v]⟩ ∧ rr (Value.slice (some ⟨75,0,none⟩) bl.length 9223372036854775883) ∧ True) ∧ ((tt ∧ (cpL bl).all (okV (fun l => l.blt 65) 3) = true ∧ tt ∧ tt ∧ tt ∧ True ∧ cpL bl = List.map (rnV (lift 65 78 [75]) 3) (cpL bl)) ∧ True) ∧ True) ∧ boolOf' (getD' undef (cpL fl) (0 + (↑k : Int).toNat * 136 + 0 + (↑r : Int).toNat * 8 + 1 + 1 + 1 + 1 + 1 + 1 + 1)) = true) ∧ boolOf' (getD' undef (cpL fl) (0 + (↑k : Int).toNat * 136 + 0 + (↑r : Int).toNat * 8 + 1 + 1 + 1 + 1 + 1 + 1 + 1)) = true) ∧ rr false) ∧ rr false) ∧ rr false) ∧ rr false) ∧ (!boolOf' (getD' undef (cpL fl) (0 + (↑k : Int).toNat * 136 + 0 + (↑r : Int).toNat * 8 + 1 + 1 + 1 + 1 + 1 + 1 + 1))) = false) ∧ (!boolOf' (getD' undef (cpL fl) (0 + (↑k : Int).toNat * 136 + 0 + (↑r : Int).toNat * 8 + 1 + 1 + 1 + 1 + 1 + 1 + 1))) = false) ∧ (!boolOf' (getD' undef (cpL fl) (0 + (↑k : Int).toNat * 136 + 0 + (↑r : Int).toNat * 8 + 1 + 1 + 1 + 1 + 1 + 1 + 1))) = false) ∧ rr false) ∧ (!boolOf' (getD' undef (cpL fl) (0 + (↑k : Int).toNat * 136 + 0 + (↑r : Int).toNat * 8 + 1 + 1 + 1 + 1 + 1 + 1 + 1))) = false) ∧ rr false) ∧ false = false : St } : Fr }):=by kernel_rfl
theorem w2_e (j : Nat) (fl : List Cp) (bl : List Cp) (k : Nat) (r : Nat) : evC Try.prog (evF Try.prog noBase noLoop 100 20) (noLoop 6) 170 100 (loopOf Try.prog 6 2) (Sf.frT 170 (w2I j fl bl k r) [(0,false)]) = some (Exit.exit 4,{ e:=[[unk,.pointer (some ⟨67,0,none⟩),.bool false,.pointer (some ⟨73,0,none⟩),.slice (some ⟨74,0,none⟩) j 9223372036854775882,.int .i64 0,.slice (some ⟨75,0,none⟩) bl.length 9223372036854775883,.int .i64 0,.pointer (some ⟨76,0,none⟩),.int .i64 0,unk,.int .i64 (↑k),.int .i64 (↑r),unk,unk,unk],[unk,unk,unk,unk,unk,unk,unk,unk,unk,unk,unk,unk,unk,unk,unk,unk],[unk,unk,unk,unk,unk,unk,unk,unk,unk,unk,unk,unk,unk,unk,unk,unk],[unk,unk,unk,unk,unk,unk,unk,unk,unk,unk,unk,unk,unk,unk,unk,unk],[unk,unk,unk,unk,unk,unk,unk,unk,unk,unk,unk,unk,unk,unk,unk,unk],[unk,unk,unk,unk,unk,unk,unk,unk,unk,unk,unk,unk,unk,unk,unk,unk],[unk,unk,unk,unk,unk,unk,unk,unk,unk,unk,unk,unk,unk,.int .i64 (↑r),.bool (decide ((↑r : Int) < (16 : Int))),unk],[unk,unk,unk,unk,unk,unk,unk,unk,unk,unk,unk,unk,unk,unk,unk,unk],[unk,unk,unk,unk,unk,unk,unk,unk,unk,unk,unk,unk,unk,unk,unk,unk],[unk,unk,unk,unk,unk,unk,unk,unk,unk,unk,unk,unk,unk,unk,unk,unk],[unk,unk,unk,unk,unk,unk,unk,unk,unk,unk,unk,unk,unk,unk,unk,unk]],s:={ n:=77,h:=[(74,⟨false,some (0,0),cpL fl,none⟩),(75,⟨false,some (0,0),cpL bl,none⟩)],lo:=[],esc:=0,T:=[],k:=1,O:=True ∧ decide ((↑r : Int) < (16 : Int)) = false : St } : Fr }):=by kernel_rfl
theorem w4_a (j : Nat) (zs : List UInt8) (f : Nat → Bool) (N : Nat) (m : Nat) (n : Nat) (bl : List Cp) (tl : List Nat) (g : Nat) (k : Nat) (q : Nat) (a : Nat) (e : Nat) (b : Nat) (t : Nat) (p : Nat) (y : Nat) (v : Bool) : evC Try.prog (evF Try.prog (baseF 3 (selSteps [(78,13,lcpC q { a:=a,e:=e,b:=b,t:=t,p:=p,y:=y,v:=v : Cp } zs f N m n,[70,71,72,73]),(79,20,wiC { a:=a,e:=e,b:=b,t:=t,p:=p,y:=y,v:=v : Cp } bl,[75])]) noBase) noLoop 100 20) (noLoop 6) 170 100 (loopOf Try.prog 6 4) (Sf.frT 170 (w4I j zs f N m n bl tl g k) [(0,true),(1,false),(2,false),(3,false),(4,false),(5,false),(6,false)]) = some (Exit.normal,{ e:=[[unk,.pointer (some ⟨67,0,none⟩),.bool false,.pointer (some ⟨73,0,none⟩),.slice (some ⟨74,0,none⟩) j 9223372036854775882,.int .i64 0,.slice (some ⟨75,0,none⟩) bl.length 9223372036854775883,.int .i64 0,.pointer (some ⟨76,0,none⟩),.int .i64 0,unk,unk,unk,unk,.int .i64 (↑g),.slice (some ⟨77,0,none⟩) tl.length 9223372036854775885],[Value.int .i64 (IntKind.i64.wrap ((↑k : Int) + (1 : Int))),.pointer (some ⟨78,0,none⟩),.bool true,unk,unk,unk,unk,unk,unk,unk,unk,unk,unk,unk,unk,unk],[unk,unk,unk,unk,unk,unk,unk,unk,unk,unk,unk,unk,unk,unk,unk,unk],[unk,unk,unk,unk,unk,unk,unk,unk,unk,unk,unk,unk,unk,unk,unk,unk],[unk,unk,unk,unk,unk,unk,unk,unk,unk,unk,unk,unk,unk,unk,unk,unk],[unk,unk,unk,unk,unk,unk,unk,unk,unk,unk,unk,unk,unk,unk,unk,unk],[unk,unk,unk,unk,unk,unk,unk,unk,unk,unk,unk,unk,unk,unk,unk,unk],[unk,unk,unk,unk,unk,unk,unk,unk,unk,unk,unk,unk,unk,unk,unk,unk],[unk,unk,unk,unk,unk,unk,unk,unk,unk,unk,unk,unk,unk,unk,unk,unk],[unk,unk,unk,.int .i64 (↑k),.slice (some ⟨77,0,none⟩) tl.length 9223372036854775885,.int .i64 (↑tl.length),.bool (decide ((↑k : Int) < (↑tl.length : Int))),.int .i64 (↑k),.int .i64 (IntKind.i64.wrap ((↑k : Int) + (1 : Int))),.tuple { toList:=[Value.agg ⟨[.int .u32 (↑a),.int .u8 (↑e),.int .u16 (↑b),.int .u16 (↑t),.int .u16 (↑p),.int .u16 (↑y),.int .u32 0,.bool v]⟩,.bool true] },.pointer (some ⟨73,0,none⟩),.slice (some ⟨77,0,none⟩) tl.length 9223372036854775885,.int .i64 (↑k),.pointer (some { block:=77,off:=0 + (↑k : Int).toNat * 1 }),.int .u32 (intOf' (getD' undef (u32s tl) (0 + (↑k : Int).toNat * 1))),.tuple { toList:=[Value.agg ⟨[.int .u32 (↑a),.int .u8 (↑e),.int .u16 (↑b),.int .u16 (↑t),.int .u16 (↑p),.int .u16 (↑y),.int .u32 0,.bool v]⟩,.bool true] }],[Value.agg ⟨[.int .u32 (↑a),.int .u8 (↑e),.int .u16 (↑b),.int .u16 (↑t),.int .u16 (↑p),.int .u16 (↑y),.int .u32 0,.bool v]⟩,.bool true,.bool true,.bool false,.bool false,.agg ⟨[.int .u32 (↑a),.int .u8 (↑e),.int .u16 (↑b),.int .u16 (↑t),.int .u16 (↑p),.int .u16 (↑y),.int .u32 0,.bool v]⟩,.slice (some ⟨75,0,none⟩) bl.length 9223372036854775883,.bool true,.bool false,.bool false,unk,unk,unk,unk,unk,unk]],s:={ n:=79,h:=[(78,⟨true,none,[Value.int .u32 (↑a),.int .u8 (↑e),.int .u16 (↑b),.int .u16 (↑t),.int .u16 (↑p),.int .u16 (↑y),.int .u32 0,.bool v],none⟩),(73,⟨false,none,[Value.pointer (some ⟨72,0,none⟩),.slice (some ⟨70,0,none⟩) N 9223372036854775878],none⟩),(72,⟨false,none,[Value.int .i64 (↑m),.slice (some ⟨71,0,none⟩) n 9223372036854775879],none⟩),(71,⟨false,some (71,1),v64 (wordsB f n),none⟩),(70,⟨false,some (70,1),u8s zs,none⟩),(75,⟨false,some (0,0),cpL bl,none⟩),(77,⟨false,some (0,0),u32s tl,none⟩)],lo:=[(71,n),(70,N)],esc:=0,T:=[],k:=7,O:=((((((((bif hasN (0 + (↑k : Int).toNat * 1 + 1) (u32s tl) && isLikeL [Value.int .u32 0] (u32s tl) (0 + (↑k : Int).toNat * 1) then bif decide ((0 : Int) ≤ (↑k : Int)) && decide ((↑k : Int) < (↑tl.length : Int)) then True ∧ decide ((↑k : Int) < (↑tl.length : Int)) = true else False else False) ∧ True ∧ (rr (Value.pointer (some ⟨73,0,none⟩)) ∧ Value.int .u32 (intOf' (getD' undef (u32s tl) (0 + (↑k : Int).toNat * 1))) = Value.int .u32 (↑q) ∧ True) ∧ ((tt ∧ tt ∧ tt ∧ tt ∧ tt ∧ True ∧ rr [Value.pointer (some ⟨72,0,none⟩),.slice (some ⟨70,0,none⟩) N 9223372036854775878]) ∧ (tt ∧ tt ∧ tt ∧ tt ∧ tt ∧ True ∧ rr [Value.int .i64 (↑m),.slice (some ⟨71,0,none⟩) n 9223372036854775879]) ∧ (tt ∧ (v64 (wordsB f n)).all (okV (fun l => l.blt 68) 3) = true ∧ tt ∧ tt ∧ tt ∧ True ∧ v64 (wordsB f n) = List.map (rnV (lift 68 78 [70,71,72,73]) 3) (v64 (wordsB f n))) ∧ (tt ∧ (u8s zs).all (okV (fun l => l.blt 68) 3) = true ∧ tt ∧ tt ∧ tt ∧ True ∧ u8s zs = List.map (rnV (lift 68 78 [70,71,72,73]) 3) (u8s zs)) ∧ True) ∧ (tt ∧ n ≤ n) ∧ (tt ∧ N ≤ N) ∧ True) ∧ rr false) ∧ rr false) ∧ rr false) ∧ True ∧ (rr (Value.agg ⟨[.int .u32 (↑a),.int .u8 (↑e),.int .u16 (↑b),.int .u16 (↑t),.int .u16 (↑p),.int .u16 (↑y),.int .u32 0,.bool v]⟩) ∧ rr (Value.slice (some ⟨75,0,none⟩) bl.length 9223372036854775883) ∧ True) ∧ ((tt ∧ (cpL bl).all (okV (fun l => l.blt 65) 3) = true ∧ tt ∧ tt ∧ tt ∧ True ∧ cpL bl = List.map (rnV (lift 65 79 [75]) 3) (cpL bl)) ∧ True) ∧ True) ∧ rr false) ∧ rr false) ∧ false = false : St } : Fr }):=by kernel_rfl
theorem w4_e (j : Nat) (zs : List UInt8) (f : Nat → Bool) (N : Nat) (m : Nat) (n : Nat) (bl : List Cp) (tl : List Nat) (g : Nat) (k : Nat) : evC Try.prog (evF Try.prog noBase noLoop 100 20) (noLoop 6) 170 100 (loopOf Try.prog 6 4) (Sf.frT 170 (w4I j zs f N m n bl tl g k) [(0,false)]) = some (Exit.exit 8,{ e:=[[unk,.pointer (some ⟨67,0,none⟩),.bool false,.pointer (some ⟨73,0,none⟩),.slice (some ⟨74,0,none⟩) j 9223372036854775882,.int .i64 0,.slice (some ⟨75,0,none⟩) bl.length 9223372036854775883,.int .i64 0,.pointer (some ⟨76,0,none⟩),.int .i64 0,unk,unk,unk,unk,.int .i64 (↑g),.slice (some ⟨77,0,none⟩) tl.length 9223372036854775885],[Value.int .i64 (↑k),unk,unk,unk,unk,unk,unk,unk,unk,unk,unk,unk,unk,unk,unk,unk],[unk,unk,unk,unk,unk,unk,unk,unk,unk,unk,unk,unk,unk,unk,unk,unk],[unk,unk,unk,unk,unk,unk,unk,unk,unk,unk,unk,unk,unk,unk,unk,unk],[unk,unk,unk,unk,unk,unk,unk,unk,unk,unk,unk,unk,unk,unk,unk,unk],[unk,unk,unk,unk,unk,unk,unk,unk,unk,unk,unk,unk,unk,unk,unk,unk],[unk,unk,unk,unk,unk,unk,unk,unk,unk,unk,unk,unk,unk,unk,unk,unk],[unk,unk,unk,unk,unk,unk,unk,unk,unk,unk,unk,unk,unk,unk,unk,unk],[unk,unk,unk,unk,unk,unk,unk,unk,unk,unk,unk,unk,unk,unk,unk,unk],[unk,unk,unk,.int .i64 (↑k),.slice (some ⟨77,0,none⟩) tl.length 9223372036854775885,.int .i64 (↑tl.length),.bool (decide ((↑k : Int) < (↑tl.length : Int))),unk,unk,unk,unk,unk,unk,unk,unk,unk],[unk,unk,unk,unk,unk,unk,unk,unk,unk,unk,unk,unk,unk,unk,unk,unk]],s:={ n:=78,h:=[(73,⟨false,none,[Value.pointer (some ⟨72,0,none⟩),.slice (some ⟨70,0,none⟩) N 9223372036854775878],none⟩),(72,⟨false,none,[Value.int .i64 (↑m),.slice (some ⟨71,0,none⟩) n 9223372036854775879],none⟩),(71,⟨false,some (71,1),v64 (wordsB f n),none⟩),(70,⟨false,some (70,1),u8s zs,none⟩),(75,⟨false,some (0,0),cpL bl,none⟩),(77,⟨false,some (0,0),u32s tl,none⟩)],lo:=[(71,n),(70,N)],esc:=0,T:=[],k:=1,O:=True ∧ decide ((↑k : Int) < (↑tl.length : Int)) = false : St } : Fr }):=by kernel_rfl
end Go.Proofs.Ytliidiceljdgmaa
namespace Go.Proofs.Ytliidiceljdgmaa
open Go.RowKit
open Sy
set_option maxRecDepth 100000
theorem wnE_ok {q : Nat → Bool} (j nb : Nat) (h : ∀ l,l < 77 → q l = true) : ∀ x ∈ wnE j nb,okV q 3 x.2 = true:=fun x hx => by
 have h7:=h 67 (by omega)
 have h3:=h 73 (by omega)
 have h4:=h 74 (by omega)
 have h5:=h 75 (by omega)
 have h6:=h 76 (by omega)
 simp only [rr, tt, wnE,List.mem_cons,List.not_mem_nil,or_false] at hx
 rcases hx with rfl | rfl | rfl | rfl | rfl | rfl | rfl | rfl | rfl <;> simp [okV,bndA,h7,h3,h4,h5,h6,flat0,big]
theorem wnE_ok' {q : Nat → Bool} (j nb : Nat) (e : List (Nat × Value)) (h : ∀ l,l < 77 → q l = true) (he : ∀ x ∈ e,okV q 3 x.2 = true) : ∀ x ∈ wnE j nb ++ e,okV q 3 x.2 = true:=fun x hx => by
 rcases List.mem_append.1 hx with hx | hx
 ·exact wnE_ok j nb h x hx
 ·exact he x hx
theorem lt77 : ∀ l,l < 77 → (fun l => Nat.blt l 77) l = true:=fun l hl => blt_yes hl
theorem lt78 : ∀ l,l < 77 → (fun l => Nat.blt l 78) l = true:=fun l hl => blt_yes (by omega)
theorem keeps77 (n : Nat) (hn : 77 ≤ n) : ∀ l,l < 77 → keeps n n id (fun l => Nat.blt l n) l = true:=fun l hl => by
 show (Nat.blt l NG || (bif Nat.blt l n then (Nat.beq l l && Nat.blt l n) else Nat.blt l n)) = true
 rw [blt_yes (show l < n by omega),Nat.beq_refl]
 cases Nat.blt l NG <;> rfl
theorem wxF_ok (n j nb : Nat) (e : List (Nat × Value)) (hn : 77 ≤ n) (he : ∀ x ∈ e,∀ q : Nat → Bool,okV q 3 x.2 = true) : (wxF n j nb e).Ok (keeps n n id (fun l => Nat.blt l n)) :=
 Sf.Ok.mk' 3 trivial rfl (wnE_ok' j nb e (keeps77 n hn) (fun x hx => he x hx _))
structure BtOk (x : Cp) (ha hs : Nat) : Prop where
 ok : CpOk x
 v : x.v = true
 apart : (x.p % 64 / 32 = 0 ∧ mtIs (x.a : Nat) (x.e : Nat) (x.b : Nat) (x.t : Nat) (ha : Nat) (hs : Nat) = false) ∨ x.p % 64 / 32 = 1
theorem and32A (p : Nat) (hp : p < 65536) : bits .and .u16 (p : Int) (32 : Int) = ((p % 64 / 32 * 32 : Nat) : Int):=by
 show IntKind.u16.wrap ((BitVec.ofInt 16 (p : Int) &&& BitVec.ofInt 16 ((32 : Nat) : Int)).toNat : Int) = _
 have h : p &&& 32 = p % 64 / 32 * 32:=by
  apply Nat.eq_of_testBit_eq
  intro i
  rw [Nat.testBit_and,show (32 : Nat) = 2 ^ 5 from rfl,Nat.testBit_two_pow,Nat.testBit_mul_two_pow,Nat.testBit_div_two_pow,show (64 : Nat) = 2 ^ 6 from rfl,Nat.testBit_mod_two_pow]
  by_cases h5 : 5 = i
  ·subst h5; simp
  ·have : ¬ (5 ≤ i ∧ i - 5 + 5 < 6):=by omega
   by_cases h6 : 5 ≤ i
   ·simp [h5,h6]; omega
   ·simp [h5,h6]
 rw [BitVec.toNat_and,BitVec.ofInt_natCast,BitVec.ofInt_natCast,BitVec.toNat_ofNat,BitVec.toNat_ofNat,Nat.mod_eq_of_lt (by omega),Nat.mod_eq_of_lt (by omega),h,IntKind.wrap_u16]
 omega
theorem cp_like4 {l : List Cp} {k : Nat} (h : k < l.length) : isLikeL [Value.int IntKind.u16 (0 : Int)] (cpL l) (k * 8 + 4) = true:=by
 simp only [rr, tt, isLikeL,cq_get l k 4 h (by omega)]; rfl
theorem cp_like7 {l : List Cp} {k : Nat} (h : k < l.length) : isLikeL [Value.bool false] (cpL l) (k * 8 + 7) = true:=by
 simp only [rr, tt, isLikeL,cq_get l k 7 h (by omega)]; rfl
theorem w0_loop (j : Nat) (bl : List Cp) (c da ds sa ss ha hs : Nat) (hb : ∀ x ∈ bl,BtOk x ha hs) (hlen : bl.length ≤ 1000) (h1 : ha < 4294967296) (h2 : hs < 4294967296) :
  ∀ k : { k : Nat // k ≤ bl.length },LoopOk Try.prog 170 (loopOf Try.prog 6 0) ((w0I j bl c da ds sa ss ha hs k.1).fr 170) (.exit 0) ((wxF 77 j bl.length []).fr 170):=by
 refine loop_okC (L:=100) (noLoop_any _ _ 6) (fun _ h => h) (X:={ k : Nat // k ≤ bl.length }) (fun k => w0I j bl c da ds sa ss ha hs k.1) (fun _ => wxF 77 j bl.length []) (fun _ => .exit 0) (fun k => bl.length - k.1) (fun k => ?_) ?_
 ·exact ⟨by show 64 ≤ 77; omega,Sf.Ok.mk' 3 ⟨⟨rfl,rfl,flat_bnd (cpL_flat bl)⟩,⟨rfl,rfl,flat_bnd (ly_flat c da ds sa ss ha hs)⟩,trivial⟩ rfl (wnE_ok' _ _ _ lt77 (fun x hx => by obtain rfl:=List.mem_singleton.1 hx; rfl))⟩
 rintro ⟨k,hk'⟩
 by_cases hlt : k < bl.length
 ·have g0:=cq_0 hlt
  have g1:=cq_1 hlt
  have g2:=cq_2 hlt
  have g3:=cq_3 hlt
  have g4:=cq_4 hlt
  have g5:=cq_5 hlt
  have g6:=cq_6 hlt
  have g7:=cq_7 hlt
  have hx:=hb _ (cpK_mem hlt)
  have hv:=hx.v
  have hy:=hx.ok.hyp
  have h32:=and32A (cpK bl k).p hx.ok.p
  have e5 : IntKind.i64.wrap ((k : Int) + (1 : Int)) = ((k + 1 : Nat) : Int):=cast_succ_i64 k (by omega)
  have f1:=cp_like hlt
  have f4:=cp_like4 hlt
  have f7:=cp_like7 hlt
  have f2 : hasN (k * 8 + 8) (cpL bl) = true:=by rw [cp_has]; exact decide_eq_true (by omega)
  have f3 : hasN (k * 8 + 5) (cpL bl) = true:=by rw [cp_has]; exact decide_eq_true (by omega)
  have hy':=hy
  unfold capHyp at hy'
  have hA : ((ha : Nat) : Int) < 4294967296:=by omega
  have hS : ((hs : Nat) : Int) < 4294967296:=by omega
  have d1 : decide ((0 : Int) ≤ (k : Int)) = true:=decide_eq_true (by omega)
  have d2 : decide ((k : Int) < (bl.length : Int)) = true:=decide_eq_true (by omega)
  rcases hx.apart with ⟨p0,pm⟩ | p1
  ·have hr:=w0_m j bl c da ds sa ss ha hs k rgLo rgHi mtIs
   simp only [rr, tt, Nat.zero_add,Nat.add_assoc,Nat.reduceAdd,Int.toNat_natCast,g0,g1,g2,g3,g4,g5,g6,g7,e5,hv] at hr
   refine ⟨_,_,.normal,_,3,fun l => Nat.blt l 77,id,run_ok (L:=100) ar_names (baseC_ok selRg_ok) (noLoop_ok _) 20,hr,?_,.inl ⟨rfl,⟨k + 1,by omega⟩,by show bl.length - (k + 1) < bl.length - k; omega,rfl,rfl,?_⟩⟩
   ·simp only [rr, tt, f1,f2,f3,f4,f7,d1,d2,h32,p0,pm,Nat.zero_mul,hy',hA,hS,Int.natCast_nonneg,Bool.and_self,Bool.not_true,cond_true,and_true,true_and,and_self]
    try simp
   ·exact ⟨fun _ _ => rfl,⟨⟨rfl,cp_all _ _,rfl,rfl,rfl,trivial,(cp_map _ _).symm⟩,⟨rfl,flat_all (ly_flat c da ds sa ss ha hs),rfl,rfl,rfl,trivial,(flat_map (ly_flat c da ds sa ss ha hs)).symm⟩,trivial⟩,rfl,trivial,⟨⟨by kernel_rfl,by kernel_rfl⟩,⟨by kernel_rfl,by kernel_rfl⟩,⟨by kernel_rfl,by kernel_rfl⟩,⟨by kernel_rfl,by kernel_rfl⟩,⟨by kernel_rfl,by kernel_rfl⟩,⟨by kernel_rfl,by kernel_rfl⟩,⟨by kernel_rfl,by kernel_rfl⟩,⟨by kernel_rfl,by kernel_rfl⟩,⟨by kernel_rfl,by kernel_rfl⟩,⟨by kernel_rfl,by kernel_rfl⟩,trivial⟩,Nat.le_refl _,fun l hl => blt_no hl,wxF_ok 77 j bl.length [] (Nat.le_refl _) (fun x hx => by cases hx),fun x _ _ => .inl rfl⟩
  ·have hr:=w0_a j bl c da ds sa ss ha hs k rgLo rgHi mtIs
   simp only [rr, tt, Nat.zero_add,Nat.add_assoc,Nat.reduceAdd,Int.toNat_natCast,g0,g1,g2,g3,g4,g5,g6,g7,e5,hv] at hr
   refine ⟨_,_,.normal,_,3,fun l => Nat.blt l 77,id,run_ok (L:=100) ar_names (baseC_ok selRg_ok) (noLoop_ok _) 20,hr,?_,.inl ⟨rfl,⟨k + 1,by omega⟩,by show bl.length - (k + 1) < bl.length - k; omega,rfl,rfl,?_⟩⟩
   ·simp only [rr, tt, f1,f2,f3,f4,f7,d1,d2,h32,p1,Nat.one_mul,Bool.and_self,Bool.not_true,cond_true,and_true,true_and,and_self]
    try simp
   ·exact ⟨fun _ _ => rfl,⟨⟨rfl,cp_all _ _,rfl,rfl,rfl,trivial,(cp_map _ _).symm⟩,⟨rfl,flat_all (ly_flat c da ds sa ss ha hs),rfl,rfl,rfl,trivial,(flat_map (ly_flat c da ds sa ss ha hs)).symm⟩,trivial⟩,rfl,trivial,⟨⟨by kernel_rfl,by kernel_rfl⟩,⟨by kernel_rfl,by kernel_rfl⟩,⟨by kernel_rfl,by kernel_rfl⟩,⟨by kernel_rfl,by kernel_rfl⟩,⟨by kernel_rfl,by kernel_rfl⟩,⟨by kernel_rfl,by kernel_rfl⟩,⟨by kernel_rfl,by kernel_rfl⟩,⟨by kernel_rfl,by kernel_rfl⟩,⟨by kernel_rfl,by kernel_rfl⟩,⟨by kernel_rfl,by kernel_rfl⟩,trivial⟩,Nat.le_refl _,fun l hl => blt_no hl,wxF_ok 77 j bl.length [] (Nat.le_refl _) (fun x hx => by cases hx),fun x _ _ => .inl rfl⟩
 ·have hkk : k = bl.length:=by omega
  subst hkk
  have hr:=w0_e j bl c da ds sa ss ha hs bl.length rgLo rgHi mtIs
  refine ⟨_,_,.exit 0,_,3,fun l => Nat.blt l 77,id,run_ok (L:=100) ar_names (baseC_ok selRg_ok) (noLoop_ok _) 20,hr,?_,.inr ⟨by simp,rfl,?_⟩⟩
  ·exact ⟨trivial,decide_eq_false (by omega)⟩
  ·exact ⟨fun _ _ => rfl,trivial,rfl,trivial,⟨⟨by kernel_rfl,by kernel_rfl⟩,⟨by kernel_rfl,by kernel_rfl⟩,⟨by kernel_rfl,by kernel_rfl⟩,⟨by kernel_rfl,by kernel_rfl⟩,⟨by kernel_rfl,by kernel_rfl⟩,⟨by kernel_rfl,by kernel_rfl⟩,⟨by kernel_rfl,by kernel_rfl⟩,⟨by kernel_rfl,by kernel_rfl⟩,⟨by kernel_rfl,by kernel_rfl⟩,trivial⟩,Nat.le_refl _,fun l hl => blt_no hl,wxF_ok 77 j bl.length [] (Nat.le_refl _) (fun x hx => by cases hx),fun x hx => by cases hx⟩
def w0Ent (j : Nat) (bl : List Cp) (c da ds sa ss ha hs : Nat) (hb : ∀ x ∈ bl,BtOk x ha hs) (hlen : bl.length ≤ 1000) (h1 : ha < 4294967296) (h2 : hs < 4294967296) : Ent Try.prog :=
 entC Try.prog 6 0 170 (w0I j bl c da ds sa ss ha hs 0) (.exit 0) (wxF 77 j bl.length []) (by kernel_rfl) (by kernel_rfl) (w0_loop j bl c da ds sa ss ha hs hb hlen h1 h2 ⟨0,Nat.zero_le _⟩)
def RgOk (bl : List Cp) (x : Cp) : Prop:=CpOk x ∧ ((x.v = true ∧ ∃ y ∈ bl,cpW x y = true) ∨ x = cpO)
theorem w2_loop (j : Nat) (fl bl : List Cp) (hb : ∀ x ∈ bl,CpOk x) (hf : ∀ x ∈ fl,RgOk bl x) (hj : fl.length = 17 * j) (hj4 : j ≤ 4) (hlen : bl.length ≤ 1000) (k : Nat) (hk : k < j) :
  ∀ r : { r : Nat // r ≤ 16 },LoopOk Try.prog 170 (loopOf Try.prog 6 2) ((w2I j fl bl k r.1).fr 170) (.exit 4) ((wxF 77 j bl.length [(11,.int .i64 (k : Nat))]).fr 170):=by
 have eok : ∀ x ∈ ([(11,.int .i64 (k : Nat))] : List (Nat × Value)),∀ q : Nat → Bool,okV q 3 x.2 = true:=fun x hx q => by obtain rfl:=List.mem_singleton.1 hx; rfl
 refine loop_okC (L:=100) (noLoop_any _ _ 6) (fun _ h => h) (X:={ r : Nat // r ≤ 16 }) (fun r => w2I j fl bl k r.1) (fun _ => wxF 77 j bl.length [(11,.int .i64 (k : Nat))]) (fun _ => .exit 4) (fun r => 16 - r.1) (fun r => ?_) ?_
 ·exact ⟨by show 64 ≤ 77; omega,Sf.Ok.mk' 3 ⟨⟨rfl,rfl,flat_bnd (cpL_flat fl)⟩,⟨rfl,rfl,flat_bnd (cpL_flat bl)⟩,trivial⟩ rfl (wnE_ok' _ _ _ lt77 (fun x hx => by
   simp only [rr, tt, List.mem_cons,List.not_mem_nil,or_false] at hx
   rcases hx with rfl | rfl <;> rfl))⟩
 rintro ⟨r,hr'⟩
 by_cases hlt : r < 16
 ·have hi : 17 * k + r < fl.length:=by omega
  have ix : k * 136 + r * 8 = (17 * k + r) * 8:=by omega
  have ixs : ∀ i,k * 136 + (r * 8 + i) = (17 * k + r) * 8 + i:=fun i => by omega
  have g0 : intOf' (getD' undef (cpL fl) (k * 136 + r * 8)) = ((cpK fl (17 * k + r)).a : Int):=by rw [ix]; exact cq_0 hi
  have g1 : intOf' (getD' undef (cpL fl) (k * 136 + (r * 8 + 1))) = ((cpK fl (17 * k + r)).e : Int):=by rw [ixs]; exact cq_1 hi
  have g2 : intOf' (getD' undef (cpL fl) (k * 136 + (r * 8 + 2))) = ((cpK fl (17 * k + r)).b : Int):=by rw [ixs]; exact cq_2 hi
  have g3 : intOf' (getD' undef (cpL fl) (k * 136 + (r * 8 + 3))) = ((cpK fl (17 * k + r)).t : Int):=by rw [ixs]; exact cq_3 hi
  have g4 : intOf' (getD' undef (cpL fl) (k * 136 + (r * 8 + 4))) = ((cpK fl (17 * k + r)).p : Int):=by rw [ixs]; exact cq_4 hi
  have g5 : intOf' (getD' undef (cpL fl) (k * 136 + (r * 8 + 5))) = ((cpK fl (17 * k + r)).y : Int):=by rw [ixs]; exact cq_5 hi
  have g6 : intOf' (getD' undef (cpL fl) (k * 136 + (r * 8 + 6))) = 0:=by rw [ixs]; exact cq_6 hi
  have g7 : boolOf' (getD' undef (cpL fl) (k * 136 + (r * 8 + 7))) = (cpK fl (17 * k + r)).v:=by rw [ixs]; exact cq_7 hi
  have f1 : isLikeL [Value.int IntKind.u32 (0 : Int),Value.int IntKind.u8 (0 : Int),Value.int IntKind.u16 (0 : Int),Value.int IntKind.u16 (0 : Int),Value.int IntKind.u16 (0 : Int),Value.int IntKind.u16 (0 : Int),Value.int IntKind.u32 (0 : Int),Value.bool false] (cpL fl) (k * 136 + r * 8) = true:=by rw [ix]; exact cp_like hi
  have f2 : hasN (k * 136 + (r * 8 + 8)) (cpL fl) = true:=by rw [cp_has]; exact decide_eq_true (by omega)
  have e5 : IntKind.i64.wrap ((r : Int) + (1 : Int)) = ((r + 1 : Nat) : Int):=cast_succ_i64 r (by omega)
  have d1 : decide ((0 : Int) ≤ (k : Int)) = true:=decide_eq_true (by omega)
  have d2 : decide ((k : Int) < (j : Int)) = true:=decide_eq_true (by omega)
  have d3 : decide ((0 : Int) ≤ (r : Int)) = true:=decide_eq_true (by omega)
  have d4 : decide ((r : Int) < (16 : Int)) = true:=decide_eq_true (by omega)
  obtain ⟨hok,hc⟩:=hf _ (cpK_mem hi)
  rcases hc with ⟨hv,hw⟩ | h0
  ·have hr:=w2_y j fl bl k r (cpK fl (17 * k + r)).a (cpK fl (17 * k + r)).e (cpK fl (17 * k + r)).b (cpK fl (17 * k + r)).t (cpK fl (17 * k + r)).p (cpK fl (17 * k + r)).y (cpK fl (17 * k + r)).v
   simp only [rr, tt, Nat.zero_add,Nat.add_zero,Nat.add_assoc,Nat.reduceAdd,Int.toNat_natCast,g0,g1,g2,g3,g4,g5,g6,g7,e5] at hr
   refine ⟨_,_,.normal,_,3,fun l => Nat.blt l 77,id,run_ok (L:=100) ar_names (baseF_ok (selSteps_ok fun x hx => by
    obtain rfl:=List.mem_singleton.1 hx; exact wi_con (cpK fl (17 * k + r)) bl hok hb hlen hw) (noBase_ok _)) (noLoop_ok _) 20,hr,?_,.inl ⟨rfl,⟨r + 1,by omega⟩,by show 16 - (r + 1) < 16 - r; omega,rfl,rfl,?_⟩⟩
   ·simp only [rr, tt, f1,f2,d1,d2,d3,d4,hv,cp_all,cp_map,Bool.and_self,Bool.not_true,cond_true,and_true,true_and,and_self]
   ·exact ⟨fun _ _ => rfl,⟨⟨rfl,cp_all _ _,rfl,rfl,rfl,trivial,(cp_map _ _).symm⟩,⟨rfl,cp_all _ _,rfl,rfl,rfl,trivial,(cp_map _ _).symm⟩,trivial⟩,rfl,trivial,⟨⟨by kernel_rfl,by kernel_rfl⟩,⟨by kernel_rfl,by kernel_rfl⟩,⟨by kernel_rfl,by kernel_rfl⟩,⟨by kernel_rfl,by kernel_rfl⟩,⟨by kernel_rfl,by kernel_rfl⟩,⟨by kernel_rfl,by kernel_rfl⟩,⟨by kernel_rfl,by kernel_rfl⟩,⟨by kernel_rfl,by kernel_rfl⟩,⟨by kernel_rfl,by kernel_rfl⟩,⟨by kernel_rfl,by kernel_rfl⟩,⟨by kernel_rfl,by kernel_rfl⟩,trivial⟩,Nat.le_of_ble_eq_true rfl,fun l hl => blt_no hl,wxF_ok 77 j bl.length _ (Nat.le_refl _) eok,fun x _ _ => .inl rfl⟩
  ·have hr:=w2_n j fl bl k r
   simp only [rr, tt, Nat.zero_add,Nat.add_zero,Nat.add_assoc,Nat.reduceAdd,Int.toNat_natCast,g0,g1,g2,g3,g4,g5,g6,g7,e5] at hr
   have z1 : (cpK fl (17 * k + r)).v = false:=by rw [h0]; rfl
   have z2 : (((cpK fl (17 * k + r)).a : Int) == 0) = true:=by rw [h0]; rfl
   have z3 : (((cpK fl (17 * k + r)).e : Int) == 0) = true:=by rw [h0]; rfl
   have z4 : (((cpK fl (17 * k + r)).b : Int) == 0) = true:=by rw [h0]; rfl
   have z5 : (((cpK fl (17 * k + r)).t : Int) == 0) = true:=by rw [h0]; rfl
   have z6 : (((cpK fl (17 * k + r)).p : Int) == 0) = true:=by rw [h0]; rfl
   have z7 : (((cpK fl (17 * k + r)).y : Int) == 0) = true:=by rw [h0]; rfl
   refine ⟨_,_,.normal,_,3,fun l => Nat.blt l 77,id,run_ok (L:=100) ar_names (noBase_ok _) (noLoop_ok _) 20,hr,?_,.inl ⟨rfl,⟨r + 1,by omega⟩,by show 16 - (r + 1) < 16 - r; omega,rfl,rfl,?_⟩⟩
   ·simp only [rr, tt, f1,f2,d1,d2,d3,d4,z1,z2,z3,z4,z5,z6,z7,Bool.and_self,Bool.not_true,Bool.not_false,cond_true,and_true,true_and,and_self]
    try simp
   ·exact ⟨fun _ _ => rfl,⟨⟨rfl,cp_all _ _,rfl,rfl,rfl,trivial,(cp_map _ _).symm⟩,⟨rfl,cp_all _ _,rfl,rfl,rfl,trivial,(cp_map _ _).symm⟩,trivial⟩,rfl,trivial,⟨⟨by kernel_rfl,by kernel_rfl⟩,⟨by kernel_rfl,by kernel_rfl⟩,⟨by kernel_rfl,by kernel_rfl⟩,⟨by kernel_rfl,by kernel_rfl⟩,⟨by kernel_rfl,by kernel_rfl⟩,⟨by kernel_rfl,by kernel_rfl⟩,⟨by kernel_rfl,by kernel_rfl⟩,⟨by kernel_rfl,by kernel_rfl⟩,⟨by kernel_rfl,by kernel_rfl⟩,⟨by kernel_rfl,by kernel_rfl⟩,⟨by kernel_rfl,by kernel_rfl⟩,trivial⟩,Nat.le_of_ble_eq_true rfl,fun l hl => blt_no hl,wxF_ok 77 j bl.length _ (Nat.le_refl _) eok,fun x _ _ => .inl rfl⟩
 ·have hkk : r = 16:=by omega
  subst hkk
  have hr:=w2_e j fl bl k 16
  refine ⟨_,_,.exit 4,_,3,fun l => Nat.blt l 77,id,run_ok (L:=100) ar_names (noBase_ok _) (noLoop_ok _) 20,hr,?_,.inr ⟨by simp,rfl,?_⟩⟩
  ·exact ⟨trivial,rfl⟩
  ·exact ⟨fun _ _ => rfl,trivial,rfl,trivial,⟨⟨by kernel_rfl,by kernel_rfl⟩,⟨by kernel_rfl,by kernel_rfl⟩,⟨by kernel_rfl,by kernel_rfl⟩,⟨by kernel_rfl,by kernel_rfl⟩,⟨by kernel_rfl,by kernel_rfl⟩,⟨by kernel_rfl,by kernel_rfl⟩,⟨by kernel_rfl,by kernel_rfl⟩,⟨by kernel_rfl,by kernel_rfl⟩,⟨by kernel_rfl,by kernel_rfl⟩,⟨by kernel_rfl,by kernel_rfl⟩,trivial⟩,Nat.le_refl _,fun l hl => blt_no hl,wxF_ok 77 j bl.length _ (Nat.le_refl _) eok,fun x hx => by cases hx⟩
def w2Ent (j : Nat) (fl bl : List Cp) (hb : ∀ x ∈ bl,CpOk x) (hf : ∀ x ∈ fl,RgOk bl x) (hj : fl.length = 17 * j) (hj4 : j ≤ 4) (hlen : bl.length ≤ 1000) (k : Nat) (hk : k < j) : Ent Try.prog :=
 entC Try.prog 6 2 170 (w2I j fl bl k 0) (.exit 4) (wxF 77 j bl.length [(11,.int .i64 (k : Nat))]) (by kernel_rfl) (by kernel_rfl) (w2_loop j fl bl hb hf hj hj4 hlen k hk ⟨0,Nat.zero_le _⟩)
def TgOk (zs : List UInt8) (f : Nat → Bool) (N m n : Nat) (bl : List Cp) (a : Nat) : Prop:=∃ x : Cp,CpOk x ∧ (∃ y ∈ bl,cpW x y = true) ∧ ConOk Try.prog 13 3 (lcpC a x zs f N m n)
theorem w4_loop (j : Nat) (zs : List UInt8) (f : Nat → Bool) (N m n : Nat) (bl : List Cp) (tl : List Nat) (g : Nat) (hb : ∀ x ∈ bl,CpOk x) (hlen : bl.length ≤ 1000) (ht : ∀ a ∈ tl,TgOk zs f N m n bl a) (htl : tl.length ≤ 16) :
  ∀ k : { k : Nat // k ≤ tl.length },LoopOk Try.prog 170 (loopOf Try.prog 6 4) ((w4I j zs f N m n bl tl g k.1).fr 170) (.exit 8) ((wxF 78 j bl.length [(14,.int .i64 (g : Nat))]).fr 170):=by
 have eok : ∀ x ∈ ([(14,.int .i64 (g : Nat))] : List (Nat × Value)),∀ q : Nat → Bool,okV q 3 x.2 = true:=fun x hx q => by obtain rfl:=List.mem_singleton.1 hx; rfl
 refine loop_okC (L:=100) (noLoop_any _ _ 6) (fun _ h => h) (X:={ k : Nat // k ≤ tl.length }) (fun k => w4I j zs f N m n bl tl g k.1) (fun _ => wxF 78 j bl.length [(14,.int .i64 (g : Nat))]) (fun _ => .exit 8) (fun k => tl.length - k.1) (fun k => ?_) ?_
 ·exact ⟨by show 64 ≤ 78; omega,Sf.Ok.mk' 3 (ar70W_okH (fun l hl => lt78 l (by omega)) zs f N m n ⟨⟨rfl,rfl,flat_bnd (cpL_flat bl)⟩,⟨rfl,rfl,flat_bnd (u32s_flat tl)⟩,trivial⟩) rfl (wnE_ok' _ _ _ lt78 (fun x hx => by
   simp only [rr, tt, List.mem_cons,List.not_mem_nil,or_false] at hx
   rcases hx with rfl | rfl | rfl <;> rfl))⟩
 rintro ⟨k,hk'⟩
 have f1 : ∀ p,(u8s zs).all (okV p 3) = true:=fun p => flat_all (u8s_flatA _)
 have f2 : ∀ σ,(u8s zs).map (rnV σ 3) = u8s zs:=fun σ => flat_map (u8s_flatA _)
 have v1 : ∀ (σ : Nat → Nat),(v64 (wordsB f n)).map (rnV σ 3) = v64 (wordsB f n):=fun σ => flat_map (v64_flat _)
 have v2 : ∀ (p : Nat → Bool),(v64 (wordsB f n)).all (okV p 3) = true:=fun p => flat_all (v64_flat _)
 by_cases hlt : k < tl.length
 ·have hm : tl.getD k 0 ∈ tl:=by rw [List.getD_eq_getElem?_getD,List.getElem?_eq_getElem hlt]; exact List.getElem_mem hlt
  obtain ⟨x,hx,hw,hcon⟩:=ht _ hm
  have e5 : IntKind.i64.wrap ((k : Int) + (1 : Int)) = ((k + 1 : Nat) : Int):=cast_succ_i64 k (by omega)
  have hr:=w4_a j zs f N m n bl tl g k (tl.getD k 0) x.a x.e x.b x.t x.p x.y x.v
  simp only [rr, tt, Nat.zero_add,Nat.mul_one,Int.toNat_natCast,u32s_at,e5] at hr
  refine ⟨_,_,.normal,_,3,fun l => Nat.blt l 78,id,run_ok (L:=100) ar_names (baseF_ok (selSteps_ok fun z hz => ?_) (noBase_ok _)) (noLoop_ok _) 20,hr,?_,.inl ⟨rfl,⟨k + 1,by omega⟩,by show tl.length - (k + 1) < tl.length - k; omega,rfl,rfl,?_⟩⟩
  ·simp only [rr, tt, List.mem_cons,List.not_mem_nil,or_false] at hz
   rcases hz with rfl | rfl
   ·exact ⟨hcon,⟨fun x hx => by cases hx⟩⟩
   ·exact wi_con x bl hx hb hlen hw
  ·simp (disch:=omega) only [rr, tt, u32s_has',u32s_like,f1,f2,v1,v2,cp_all,cp_map,decide_eq_true,decide_eq_false,Bool.and_self,Bool.not_true,cond_true,and_true,true_and,and_self,Nat.le_refl]
  ·exact ⟨fun _ _ => rfl,ar70W_seen (fun l hl => lt78 l (by omega)) zs f N m n rfl rfl rfl rfl ⟨⟨rfl,cp_all _ _,rfl,rfl,rfl,trivial,(cp_map _ _).symm⟩,⟨rfl,flat_all (u32s_flat tl),rfl,rfl,rfl,trivial,(flat_map (u32s_flat tl)).symm⟩,trivial⟩,rfl,⟨⟨rfl,Nat.le_refl _⟩,⟨rfl,Nat.le_refl _⟩,trivial⟩,⟨⟨by kernel_rfl,by kernel_rfl⟩,⟨by kernel_rfl,by kernel_rfl⟩,⟨by kernel_rfl,by kernel_rfl⟩,⟨by kernel_rfl,by kernel_rfl⟩,⟨by kernel_rfl,by kernel_rfl⟩,⟨by kernel_rfl,by kernel_rfl⟩,⟨by kernel_rfl,by kernel_rfl⟩,⟨by kernel_rfl,by kernel_rfl⟩,⟨by kernel_rfl,by kernel_rfl⟩,⟨by kernel_rfl,by kernel_rfl⟩,⟨by kernel_rfl,by kernel_rfl⟩,⟨by kernel_rfl,by kernel_rfl⟩,trivial⟩,Nat.le_refl _,fun l hl => blt_no hl,wxF_ok 78 j bl.length _ (by omega) eok,fun x _ _ => .inl rfl⟩
 ·have hkk : k = tl.length:=by omega
  subst hkk
  have hr:=w4_e j zs f N m n bl tl g tl.length
  refine ⟨_,_,.exit 8,_,3,fun l => Nat.blt l 78,id,run_ok (L:=100) ar_names (noBase_ok _) (noLoop_ok _) 20,hr,?_,.inr ⟨by simp,rfl,?_⟩⟩
  ·exact ⟨trivial,decide_eq_false (by omega)⟩
  ·exact ⟨fun _ _ => rfl,trivial,rfl,trivial,⟨⟨by kernel_rfl,by kernel_rfl⟩,⟨by kernel_rfl,by kernel_rfl⟩,⟨by kernel_rfl,by kernel_rfl⟩,⟨by kernel_rfl,by kernel_rfl⟩,⟨by kernel_rfl,by kernel_rfl⟩,⟨by kernel_rfl,by kernel_rfl⟩,⟨by kernel_rfl,by kernel_rfl⟩,⟨by kernel_rfl,by kernel_rfl⟩,⟨by kernel_rfl,by kernel_rfl⟩,⟨by kernel_rfl,by kernel_rfl⟩,trivial⟩,Nat.le_refl _,fun l hl => blt_no hl,wxF_ok 78 j bl.length _ (by omega) eok,fun x hx => by cases hx⟩
def w4Ent (j : Nat) (zs : List UInt8) (f : Nat → Bool) (N m n : Nat) (bl : List Cp) (tl : List Nat) (g : Nat) (hb : ∀ x ∈ bl,CpOk x) (hlen : bl.length ≤ 1000) (ht : ∀ a ∈ tl,TgOk zs f N m n bl a) (htl : tl.length ≤ 16) : Ent Try.prog :=
 entC Try.prog 6 4 170 (w4I j zs f N m n bl tl g 0) (.exit 8) (wxF 78 j bl.length [(14,.int .i64 (g : Nat))]) (by kernel_rfl) (by kernel_rfl) (w4_loop j zs f N m n bl tl g hb hlen ht htl ⟨0,Nat.zero_le _⟩)
end Go.Proofs.Ytliidiceljdgmaa
namespace Go.Proofs.Ytliidiceljdgmaa
open Go.RowKit
open Sy
set_option maxRecDepth 100000
theorem w1_a (j : Nat) (fl : List Cp) (bl : List Cp) (hb : ∀ (x : Cp),x ∈ bl → CpOk x) (hf : ∀ (x : Cp),x ∈ fl → RgOk bl x) (hj : fl.length = 17 * j) (hj4 : j ≤ 4) (hlen : bl.length ≤ 1000) (k : Nat) (hk : k < j) (a : Nat) (e : Nat) (b : Nat) (t : Nat) (p : Nat) (y : Nat) (v : Bool) : evC Try.prog (evF Try.prog (baseF 3 (selSteps [(77,20,wiC { a:=a,e:=e,b:=b,t:=t,p:=p,y:=y,v:=v : Cp } bl,[75])]) noBase) noLoop 100 20) (lpEsc [w2Ent j fl bl hb hf hj hj4 hlen k hk] 6) 170 100 (loopOf Try.prog 6 1) (Sf.frT 170 (w1I j fl bl k) [(0,true),(1,false),(2,false),(3,false),(4,false),(5,false),(6,false),(7,false),(8,false),(9,false),(10,false)]) = some (Exit.normal,{ e:=[[unk,.pointer (some ⟨67,0,none⟩),.bool false,.pointer (some ⟨73,0,none⟩),.slice (some ⟨74,0,none⟩) j 9223372036854775882,.int .i64 0,.slice (some ⟨75,0,none⟩) bl.length 9223372036854775883,.int .i64 0,.pointer (some ⟨76,0,none⟩),.int .i64 0,unk,.int .i64 (IntKind.i64.wrap ((↑k : Int) + (1 : Int))),unk,unk,unk,unk],[unk,unk,unk,unk,unk,unk,unk,unk,unk,unk,unk,unk,unk,unk,unk,unk],[unk,unk,unk,unk,unk,unk,unk,unk,unk,unk,unk,unk,unk,unk,unk,unk],[unk,unk,unk,unk,unk,unk,unk,unk,unk,unk,unk,unk,unk,unk,unk,unk],[unk,unk,unk,unk,unk,unk,unk,unk,unk,unk,unk,unk,unk,unk,unk,unk],[unk,unk,unk,unk,unk,unk,unk,unk,unk,unk,.int .i64 (↑k),.int .i64 (IntKind.i64.wrap ((↑k : Int) + (1 : Int))),unk,unk,unk,unk],[unk,unk,unk,unk,unk,unk,unk,unk,unk,unk,unk,unk,unk,unk,unk,unk],[unk,unk,unk,unk,unk,unk,unk,unk,unk,unk,unk,unk,unk,unk,unk,unk],[unk,unk,unk,unk,unk,unk,unk,unk,unk,unk,unk,unk,unk,unk,unk,unk],[unk,unk,unk,unk,unk,unk,unk,unk,unk,unk,unk,unk,unk,unk,unk,unk],[unk,unk,unk,unk,unk,unk,unk,unk,unk,unk,unk,unk,unk,unk,unk,unk]],s:={ n:=77,h:=[(74,⟨false,some (0,0),cpL fl,none⟩),(75,⟨false,some (0,0),cpL bl,none⟩)],lo:=[],esc:=0,T:=[],k:=11,O:=(((((((bif hasN (0 + (↑k : Int).toNat * 136 + 128 + 8) (cpL fl) && isLikeL [Value.int .u32 0,.int .u8 0,.int .u16 0,.int .u16 0,.int .u16 0,.int .u16 0,.int .u32 0,.bool false] (cpL fl) (0 + (↑k : Int).toNat * 136 + 128) then ((bif decide ((0 : Int) ≤ (↑k : Int)) && decide ((↑k : Int) < (↑j : Int)) then (((bif hasN (0 + (↑k : Int).toNat * 136 + 128 + 7 + 1) (cpL fl) && isLikeL [Value.bool false] (cpL fl) (0 + (↑k : Int).toNat * 136 + 128 + 7) then bif decide ((0 : Int) ≤ (↑k : Int)) && decide ((↑k : Int) < (↑j : Int)) then True ∧ decide ((↑k : Int) < (↑j : Int)) = true else False else False) ∧ (!boolOf' (getD' undef (cpL fl) (0 + (↑k : Int).toNat * 136 + 128 + 7))) = false) ∧ (!boolOf' (getD' undef (cpL fl) (0 + (↑k : Int).toNat * 136 + 128 + 7))) = false) ∧ (!boolOf' (getD' undef (cpL fl) (0 + (↑k : Int).toNat * 136 + 128 + 7))) = false else False) ∧ (!boolOf' (getD' undef (cpL fl) (0 + (↑k : Int).toNat * 136 + 128 + 7))) = false) ∧ (!boolOf' (getD' undef (cpL fl) (0 + (↑k : Int).toNat * 136 + 128 + 7))) = false else False) ∧ (!boolOf' (getD' undef (cpL fl) (0 + (↑k : Int).toNat * 136 + 128 + 7))) = false) ∧ (!boolOf' (getD' undef (cpL fl) (0 + (↑k : Int).toNat * 136 + 128 + 7))) = false) ∧ True ∧ (Value.agg ⟨[.int .u32 (intOf' (getD' undef (cpL fl) (0 + (↑k : Int).toNat * 136 + 128))),.int .u8 (intOf' (getD' undef (cpL fl) (0 + (↑k : Int).toNat * 136 + 128 + 1))),.int .u16 (intOf' (getD' undef (cpL fl) (0 + (↑k : Int).toNat * 136 + 128 + 1 + 1))),.int .u16 (intOf' (getD' undef (cpL fl) (0 + (↑k : Int).toNat * 136 + 128 + 1 + 1 + 1))),.int .u16 (intOf' (getD' undef (cpL fl) (0 + (↑k : Int).toNat * 136 + 128 + 1 + 1 + 1 + 1))),.int .u16 (intOf' (getD' undef (cpL fl) (0 + (↑k : Int).toNat * 136 + 128 + 1 + 1 + 1 + 1 + 1))),.int .u32 (intOf' (getD' undef (cpL fl) (0 + (↑k : Int).toNat * 136 + 128 + 1 + 1 + 1 + 1 + 1 + 1))),.bool (boolOf' (getD' undef (cpL fl) (0 + (↑k : Int).toNat * 136 + 128 + 1 + 1 + 1 + 1 + 1 + 1 + 1)))]⟩ = Value.agg ⟨[.int .u32 (↑a),.int .u8 (↑e),.int .u16 (↑b),.int .u16 (↑t),.int .u16 (↑p),.int .u16 (↑y),.int .u32 0,.bool v]⟩ ∧ rr (Value.slice (some ⟨75,0,none⟩) bl.length 9223372036854775883) ∧ True) ∧ ((tt ∧ (cpL bl).all (okV (fun l => l.blt 65) 3) = true ∧ tt ∧ tt ∧ tt ∧ True ∧ cpL bl = List.map (rnV (lift 65 77 [75]) 3) (cpL bl)) ∧ True) ∧ True) ∧ (!boolOf' (getD' undef (cpL fl) (0 + (↑k : Int).toNat * 136 + 128 + 7))) = false) ∧ (!boolOf' (getD' undef (cpL fl) (0 + (↑k : Int).toNat * 136 + 128 + 7))) = false) ∧ rr false) ∧ (rr (Value.pointer (some ⟨67,0,none⟩)) ∧ rr (Value.bool false) ∧ rr (Value.pointer (some ⟨73,0,none⟩)) ∧ rr (Value.slice (some ⟨74,0,none⟩) j 9223372036854775882) ∧ rr (Value.int .i64 0) ∧ rr (Value.slice (some ⟨75,0,none⟩) bl.length 9223372036854775883) ∧ rr (Value.int .i64 0) ∧ rr (Value.pointer (some ⟨76,0,none⟩)) ∧ rr (Value.int .i64 0) ∧ rr (Value.int .i64 (↑k)) ∧ rr (Value.int .i64 0) ∧ True) ∧ ((tt ∧ tt ∧ True ∧ rr (cpL fl)) ∧ (tt ∧ tt ∧ True ∧ rr (cpL bl)) ∧ True) ∧ True ∧ True : St } : Fr }):=by kernel_rfl
theorem w1_e (j : Nat) (fl : List Cp) (bl : List Cp) (k : Nat) : evC Try.prog (evF Try.prog noBase noLoop 100 20) (noLoop 6) 170 100 (loopOf Try.prog 6 1) (Sf.frT 170 (w1I j fl bl k) [(0,false)]) = some (Exit.exit 2,{ e:=[[unk,.pointer (some ⟨67,0,none⟩),.bool false,.pointer (some ⟨73,0,none⟩),.slice (some ⟨74,0,none⟩) j 9223372036854775882,.int .i64 0,.slice (some ⟨75,0,none⟩) bl.length 9223372036854775883,.int .i64 0,.pointer (some ⟨76,0,none⟩),.int .i64 0,unk,.int .i64 (↑k),unk,unk,unk,unk],[unk,unk,unk,unk,unk,unk,unk,unk,unk,unk,unk,unk,unk,unk,unk,unk],[unk,unk,unk,unk,unk,unk,unk,unk,unk,unk,unk,unk,unk,unk,unk,unk],[unk,unk,unk,unk,unk,unk,unk,unk,unk,unk,unk,unk,unk,unk,unk,unk],[unk,unk,unk,unk,unk,unk,unk,unk,unk,unk,unk,unk,unk,unk,unk,unk],[unk,unk,unk,unk,unk,unk,.int .i64 (↑k),.slice (some ⟨74,0,none⟩) j 9223372036854775882,.int .i64 (↑j),.bool (decide ((↑k : Int) < (↑j : Int))),unk,unk,unk,unk,unk,unk],[unk,unk,unk,unk,unk,unk,unk,unk,unk,unk,unk,unk,unk,unk,unk,unk],[unk,unk,unk,unk,unk,unk,unk,unk,unk,unk,unk,unk,unk,unk,unk,unk],[unk,unk,unk,unk,unk,unk,unk,unk,unk,unk,unk,unk,unk,unk,unk,unk],[unk,unk,unk,unk,unk,unk,unk,unk,unk,unk,unk,unk,unk,unk,unk,unk],[unk,unk,unk,unk,unk,unk,unk,unk,unk,unk,unk,unk,unk,unk,unk,unk]],s:={ n:=77,h:=[(74,⟨false,some (0,0),cpL fl,none⟩),(75,⟨false,some (0,0),cpL bl,none⟩)],lo:=[],esc:=0,T:=[],k:=1,O:=True ∧ decide ((↑k : Int) < (↑j : Int)) = false : St } : Fr }):=by kernel_rfl
theorem w3_n (j : Nat) (p : Nat) (s : Nat) (t : Nat) (nc : Nat) (ns : Nat) (d : List UInt8) (a2 : Option Addr) (n2 : Nat) (c2 : Nat) (zs : List UInt8) (f : Nat → Bool) (N : Nat) (m : Nat) (n : Nat) (bl : List Cp) (k : Nat) : evC Try.prog (evF Try.prog (baseF 3 (selSteps [(77,21,tg0C k zs f N m n,[70,71,72,73])]) noBase) noLoop 100 20) (noLoop 6) 170 100 (loopOf Try.prog 6 3) (Sf.frT 170 (w3I j p s t nc ns d a2 n2 c2 zs f N m n bl k) [(0,true)]) = some (Exit.normal,{ e:=[[unk,.pointer (some ⟨67,0,none⟩),.bool false,.pointer (some ⟨73,0,none⟩),.slice (some ⟨74,0,none⟩) j 9223372036854775882,.int .i64 0,.slice (some ⟨75,0,none⟩) bl.length 9223372036854775883,.int .i64 0,.pointer (some ⟨76,0,none⟩),.int .i64 0,unk,unk,unk,unk,.int .i64 (IntKind.i64.wrap ((↑k : Int) + (1 : Int))),.slice none 0 0],[Value.int .i64 0,unk,unk,unk,unk,unk,unk,unk,unk,unk,unk,unk,unk,unk,unk,unk],[unk,unk,unk,unk,unk,unk,unk,unk,unk,unk,unk,unk,unk,unk,unk,unk],[unk,unk,unk,unk,unk,unk,unk,unk,unk,unk,unk,unk,unk,unk,unk,unk],[unk,unk,unk,unk,unk,unk,unk,unk,unk,unk,unk,unk,unk,unk,unk,unk],[unk,unk,unk,unk,unk,unk,unk,unk,unk,unk,unk,unk,unk,unk,unk,unk],[unk,unk,unk,unk,unk,unk,unk,unk,unk,unk,unk,unk,unk,unk,unk,unk],[unk,unk,unk,unk,unk,unk,unk,unk,unk,unk,unk,unk,unk,unk,unk,unk],[unk,unk,unk,unk,unk,unk,unk,unk,unk,unk,.int .i64 (↑k),.pointer (some ⟨67,0,none⟩),.int .i64 (↑p),.bool (decide ((↑k : Int) < (↑p : Int))),.int .i64 (↑k),.int .i64 (IntKind.i64.wrap ((↑k : Int) + (1 : Int)))],[Value.pointer (some ⟨73,0,none⟩),.int .i64 (↑k),.slice none 0 0,.int .i64 0,.slice none 0 0,.int .i64 0,.bool false,unk,unk,unk,unk,unk,unk,unk,unk,unk],[unk,unk,unk,unk,unk,unk,unk,unk,unk,unk,unk,unk,unk,unk,unk,unk]],s:={ n:=77,h:=[(73,⟨false,none,[Value.pointer (some ⟨72,0,none⟩),.slice (some ⟨70,0,none⟩) N 9223372036854775878],none⟩),(72,⟨false,none,[Value.int .i64 (↑m),.slice (some ⟨71,0,none⟩) n 9223372036854775879],none⟩),(71,⟨false,some (71,1),v64 (wordsB f n),none⟩),(70,⟨false,some (70,1),u8s zs,none⟩),(67,⟨false,none,[Value.int .i64 (↑p),.int .i64 (↑s),.int .i64 (↑t),.slice (some ⟨64,0,none⟩) nc 9223372036854775872,.string ⟨⟨d⟩⟩,.slice a2 n2 c2,.slice (some ⟨66,0,none⟩) ns 9223372036854775874],none⟩),(75,⟨false,some (0,0),cpL bl,none⟩)],lo:=[(71,n),(70,N)],esc:=0,T:=[],k:=1,O:=(True ∧ decide ((↑k : Int) < (↑p : Int)) = true) ∧ True ∧ (rr (Value.pointer (some ⟨73,0,none⟩)) ∧ rr (Value.int .i64 (↑k)) ∧ True) ∧ ((tt ∧ tt ∧ tt ∧ tt ∧ tt ∧ True ∧ rr [Value.pointer (some ⟨72,0,none⟩),.slice (some ⟨70,0,none⟩) N 9223372036854775878]) ∧ (tt ∧ tt ∧ tt ∧ tt ∧ tt ∧ True ∧ rr [Value.int .i64 (↑m),.slice (some ⟨71,0,none⟩) n 9223372036854775879]) ∧ (tt ∧ (v64 (wordsB f n)).all (okV (fun l => l.blt 68) 3) = true ∧ tt ∧ tt ∧ tt ∧ True ∧ v64 (wordsB f n) = List.map (rnV (lift 68 77 [70,71,72,73]) 3) (v64 (wordsB f n))) ∧ (tt ∧ (u8s zs).all (okV (fun l => l.blt 68) 3) = true ∧ tt ∧ tt ∧ tt ∧ True ∧ u8s zs = List.map (rnV (lift 68 77 [70,71,72,73]) 3) (u8s zs)) ∧ True) ∧ (tt ∧ n ≤ n) ∧ (tt ∧ N ≤ N) ∧ True : St } : Fr }):=by kernel_rfl
theorem w3_y (j : Nat) (p : Nat) (s : Nat) (t : Nat) (nc : Nat) (ns : Nat) (d : List UInt8) (a2 : Option Addr) (n2 : Nat) (c2 : Nat) (zs : List UInt8) (f : Nat → Bool) (N : Nat) (m : Nat) (n : Nat) (bl : List Cp) (k : Nat) (tl : List Nat) (hb : ∀ (x : Cp),x ∈ bl → CpOk x) (hlen : bl.length ≤ 1000) (ht : ∀ (a : Nat),a ∈ tl → TgOk zs f N m n bl a) (htl : tl.length ≤ 16) : evC Try.prog (evF Try.prog (baseF 3 (selSteps [(77,21,tgYC k zs f N m n tl,[70,71,72,73])]) noBase) noLoop 100 20) (lpEsc [w4Ent j zs f N m n bl tl k hb hlen ht htl] 6) 170 100 (loopOf Try.prog 6 3) (Sf.frT 170 (w3I j p s t nc ns d a2 n2 c2 zs f N m n bl k) [(0,true)]) = some (Exit.normal,{ e:=[[unk,.pointer (some ⟨67,0,none⟩),.bool false,.pointer (some ⟨73,0,none⟩),.slice (some ⟨74,0,none⟩) j 9223372036854775882,.int .i64 0,.slice (some ⟨75,0,none⟩) bl.length 9223372036854775883,.int .i64 0,.pointer (some ⟨76,0,none⟩),.int .i64 0,unk,unk,unk,unk,.int .i64 (IntKind.i64.wrap ((↑k : Int) + (1 : Int))),unk],[unk,unk,unk,unk,unk,unk,unk,unk,unk,unk,unk,unk,unk,unk,unk,unk],[unk,unk,unk,unk,unk,unk,unk,unk,unk,unk,unk,unk,unk,unk,unk,unk],[unk,unk,unk,unk,unk,unk,unk,unk,unk,unk,unk,unk,unk,unk,unk,unk],[unk,unk,unk,unk,unk,unk,unk,unk,unk,unk,unk,unk,unk,unk,unk,unk],[unk,unk,unk,unk,unk,unk,unk,unk,unk,unk,unk,unk,unk,unk,unk,unk],[unk,unk,unk,unk,unk,unk,unk,unk,unk,unk,unk,unk,unk,unk,unk,unk],[unk,unk,unk,unk,unk,unk,unk,unk,unk,unk,unk,unk,unk,unk,unk,unk],[unk,unk,unk,unk,unk,unk,unk,unk,unk,unk,unk,unk,unk,unk,.int .i64 (↑k),.int .i64 (IntKind.i64.wrap ((↑k : Int) + (1 : Int)))],[unk,unk,unk,unk,unk,unk,unk,unk,unk,unk,unk,unk,unk,unk,unk,unk],[unk,unk,unk,unk,unk,unk,unk,unk,unk,unk,unk,unk,unk,unk,unk,unk]],s:={ n:=78,h:=[(77,⟨false,some (0,0),u32s tl,none⟩),(73,⟨false,none,[Value.pointer (some ⟨72,0,none⟩),.slice (some ⟨70,0,none⟩) N 9223372036854775878],none⟩),(72,⟨false,none,[Value.int .i64 (↑m),.slice (some ⟨71,0,none⟩) n 9223372036854775879],none⟩),(71,⟨false,some (71,1),v64 (wordsB f n),none⟩),(70,⟨false,some (70,1),u8s zs,none⟩),(67,⟨false,none,[Value.int .i64 (↑p),.int .i64 (↑s),.int .i64 (↑t),.slice (some ⟨64,0,none⟩) nc 9223372036854775872,.string ⟨⟨d⟩⟩,.slice a2 n2 c2,.slice (some ⟨66,0,none⟩) ns 9223372036854775874],none⟩),(75,⟨false,some (0,0),cpL bl,none⟩)],lo:=[(71,n),(70,N)],esc:=0,T:=[],k:=1,O:=((True ∧ decide ((↑k : Int) < (↑p : Int)) = true) ∧ True ∧ (rr (Value.pointer (some ⟨73,0,none⟩)) ∧ rr (Value.int .i64 (↑k)) ∧ True) ∧ ((tt ∧ tt ∧ tt ∧ tt ∧ tt ∧ True ∧ rr [Value.pointer (some ⟨72,0,none⟩),.slice (some ⟨70,0,none⟩) N 9223372036854775878]) ∧ (tt ∧ tt ∧ tt ∧ tt ∧ tt ∧ True ∧ rr [Value.int .i64 (↑m),.slice (some ⟨71,0,none⟩) n 9223372036854775879]) ∧ (tt ∧ (v64 (wordsB f n)).all (okV (fun l => l.blt 68) 3) = true ∧ tt ∧ tt ∧ tt ∧ True ∧ v64 (wordsB f n) = List.map (rnV (lift 68 77 [70,71,72,73]) 3) (v64 (wordsB f n))) ∧ (tt ∧ (u8s zs).all (okV (fun l => l.blt 68) 3) = true ∧ tt ∧ tt ∧ tt ∧ True ∧ u8s zs = List.map (rnV (lift 68 77 [70,71,72,73]) 3) (u8s zs)) ∧ True) ∧ (tt ∧ n ≤ n) ∧ (tt ∧ N ≤ N) ∧ True) ∧ (rr (Value.pointer (some ⟨67,0,none⟩)) ∧ rr (Value.bool false) ∧ rr (Value.pointer (some ⟨73,0,none⟩)) ∧ rr (Value.slice (some ⟨74,0,none⟩) j 9223372036854775882) ∧ rr (Value.int .i64 0) ∧ rr (Value.slice (some ⟨75,0,none⟩) bl.length 9223372036854775883) ∧ rr (Value.int .i64 0) ∧ rr (Value.pointer (some ⟨76,0,none⟩)) ∧ rr (Value.int .i64 0) ∧ rr (Value.int .i64 (↑k)) ∧ rr (Value.slice (some ⟨77,0,none⟩) tl.length 9223372036854775885) ∧ rr (Value.int .i64 0) ∧ True) ∧ ((tt ∧ tt ∧ True ∧ rr [Value.pointer (some ⟨72,0,none⟩),.slice (some ⟨70,0,none⟩) N 9223372036854775878]) ∧ (tt ∧ tt ∧ True ∧ rr [Value.int .i64 (↑m),.slice (some ⟨71,0,none⟩) n 9223372036854775879]) ∧ (tt ∧ tt ∧ True ∧ rr (v64 (wordsB f n))) ∧ (tt ∧ tt ∧ True ∧ rr (u8s zs)) ∧ (tt ∧ tt ∧ True ∧ rr (cpL bl)) ∧ (tt ∧ tt ∧ True ∧ rr (u32s tl)) ∧ True) ∧ (n ≤ n ∧ N ≤ N ∧ True) ∧ True : St } : Fr }):=by kernel_rfl
theorem w3_e (j : Nat) (p : Nat) (s : Nat) (t : Nat) (nc : Nat) (ns : Nat) (d : List UInt8) (a2 : Option Addr) (n2 : Nat) (c2 : Nat) (zs : List UInt8) (f : Nat → Bool) (N : Nat) (m : Nat) (n : Nat) (bl : List Cp) (k : Nat) : evC Try.prog (evF Try.prog noBase noLoop 100 20) (noLoop 6) 170 100 (loopOf Try.prog 6 3) (Sf.frT 170 (w3I j p s t nc ns d a2 n2 c2 zs f N m n bl k) [(0,false)]) = some (Exit.exit 6,{ e:=[[unk,.pointer (some ⟨67,0,none⟩),.bool false,.pointer (some ⟨73,0,none⟩),.slice (some ⟨74,0,none⟩) j 9223372036854775882,.int .i64 0,.slice (some ⟨75,0,none⟩) bl.length 9223372036854775883,.int .i64 0,.pointer (some ⟨76,0,none⟩),.int .i64 0,unk,unk,unk,unk,.int .i64 (↑k),unk],[unk,unk,unk,unk,unk,unk,unk,unk,unk,unk,unk,unk,unk,unk,unk,unk],[unk,unk,unk,unk,unk,unk,unk,unk,unk,unk,unk,unk,unk,unk,unk,unk],[unk,unk,unk,unk,unk,unk,unk,unk,unk,unk,unk,unk,unk,unk,unk,unk],[unk,unk,unk,unk,unk,unk,unk,unk,unk,unk,unk,unk,unk,unk,unk,unk],[unk,unk,unk,unk,unk,unk,unk,unk,unk,unk,unk,unk,unk,unk,unk,unk],[unk,unk,unk,unk,unk,unk,unk,unk,unk,unk,unk,unk,unk,unk,unk,unk],[unk,unk,unk,unk,unk,unk,unk,unk,unk,unk,unk,unk,unk,unk,unk,unk],[unk,unk,unk,unk,unk,unk,unk,unk,unk,unk,.int .i64 (↑k),.pointer (some ⟨67,0,none⟩),.int .i64 (↑p),.bool (decide ((↑k : Int) < (↑p : Int))),unk,unk],[unk,unk,unk,unk,unk,unk,unk,unk,unk,unk,unk,unk,unk,unk,unk,unk],[unk,unk,unk,unk,unk,unk,unk,unk,unk,unk,unk,unk,unk,unk,unk,unk]],s:={ n:=77,h:=[(73,⟨false,none,[Value.pointer (some ⟨72,0,none⟩),.slice (some ⟨70,0,none⟩) N 9223372036854775878],none⟩),(72,⟨false,none,[Value.int .i64 (↑m),.slice (some ⟨71,0,none⟩) n 9223372036854775879],none⟩),(71,⟨false,some (71,1),v64 (wordsB f n),none⟩),(70,⟨false,some (70,1),u8s zs,none⟩),(67,⟨false,none,[Value.int .i64 (↑p),.int .i64 (↑s),.int .i64 (↑t),.slice (some ⟨64,0,none⟩) nc 9223372036854775872,.string ⟨⟨d⟩⟩,.slice a2 n2 c2,.slice (some ⟨66,0,none⟩) ns 9223372036854775874],none⟩),(75,⟨false,some (0,0),cpL bl,none⟩)],lo:=[(71,n),(70,N)],esc:=0,T:=[],k:=1,O:=True ∧ decide ((↑k : Int) < (↑p : Int)) = false : St } : Fr }):=by kernel_rfl
end Go.Proofs.Ytliidiceljdgmaa
namespace Go.Proofs.Ytliidiceljdgmaa
open Go.RowKit
open Sy
set_option maxRecDepth 100000
theorem w1_loop (j : Nat) (fl bl : List Cp) (hb : ∀ x ∈ bl,CpOk x) (hf : ∀ x ∈ fl,RgOk bl x) (hj : fl.length = 17 * j) (hj4 : j ≤ 4) (hlen : bl.length ≤ 1000) (hpc : ∀ k,k < j → (cpK fl (17 * k + 16)).v = true ∧ ∃ y ∈ bl,cpW (cpK fl (17 * k + 16)) y = true) :
  ∀ k : { k : Nat // k ≤ j },LoopOk Try.prog 170 (loopOf Try.prog 6 1) ((w1I j fl bl k.1).fr 170) (.exit 2) ((wxF 77 j bl.length []).fr 170):=by
 refine loop_okD (L:=100) (X:={ k : Nat // k ≤ j }) (fun k => w1I j fl bl k.1) (fun _ => wxF 77 j bl.length []) (fun _ => .exit 2) (fun k => j - k.1) (fun k => ?_) ?_
 ·exact ⟨by show 64 ≤ 77; omega,Sf.Ok.mk' 3 ⟨⟨rfl,rfl,flat_bnd (cpL_flat fl)⟩,⟨rfl,rfl,flat_bnd (cpL_flat bl)⟩,trivial⟩ rfl (wnE_ok' _ _ _ lt77 (fun x hx => by obtain rfl:=List.mem_singleton.1 hx; rfl))⟩
 rintro ⟨k,hk'⟩
 by_cases hlt : k < j
 ·have hi : 17 * k + 16 < fl.length:=by omega
  have ix : k * 136 + 128 = (17 * k + 16) * 8:=by omega
  have ixs : ∀ i,k * 136 + (128 + i) = (17 * k + 16) * 8 + i:=fun i => by omega
  have g0 : intOf' (getD' undef (cpL fl) (k * 136 + 128)) = ((cpK fl (17 * k + 16)).a : Int):=by rw [ix]; exact cq_0 hi
  have g1 : intOf' (getD' undef (cpL fl) (k * 136 + 129)) = ((cpK fl (17 * k + 16)).e : Int):=by rw [ixs 1]; exact cq_1 hi
  have g2 : intOf' (getD' undef (cpL fl) (k * 136 + 130)) = ((cpK fl (17 * k + 16)).b : Int):=by rw [ixs 2]; exact cq_2 hi
  have g3 : intOf' (getD' undef (cpL fl) (k * 136 + 131)) = ((cpK fl (17 * k + 16)).t : Int):=by rw [ixs 3]; exact cq_3 hi
  have g4 : intOf' (getD' undef (cpL fl) (k * 136 + 132)) = ((cpK fl (17 * k + 16)).p : Int):=by rw [ixs 4]; exact cq_4 hi
  have g5 : intOf' (getD' undef (cpL fl) (k * 136 + 133)) = ((cpK fl (17 * k + 16)).y : Int):=by rw [ixs 5]; exact cq_5 hi
  have g6 : intOf' (getD' undef (cpL fl) (k * 136 + 134)) = 0:=by rw [ixs 6]; exact cq_6 hi
  have g7 : boolOf' (getD' undef (cpL fl) (k * 136 + 135)) = (cpK fl (17 * k + 16)).v:=by rw [ixs 7]; exact cq_7 hi
  have f1 : isLikeL [Value.int IntKind.u32 (0 : Int),Value.int IntKind.u8 (0 : Int),Value.int IntKind.u16 (0 : Int),Value.int IntKind.u16 (0 : Int),Value.int IntKind.u16 (0 : Int),Value.int IntKind.u16 (0 : Int),Value.int IntKind.u32 (0 : Int),Value.bool false] (cpL fl) (k * 136 + 128) = true:=by rw [ix]; exact cp_like hi
  have f7 : isLikeL [Value.bool false] (cpL fl) (k * 136 + 135) = true:=by rw [ixs 7]; exact cp_like7 hi
  have f2 : hasN (k * 136 + 136) (cpL fl) = true:=by rw [cp_has]; exact decide_eq_true (by omega)
  have e5 : IntKind.i64.wrap ((k : Int) + (1 : Int)) = ((k + 1 : Nat) : Int):=cast_succ_i64 k (by omega)
  have d1 : decide ((0 : Int) ≤ (k : Int)) = true:=decide_eq_true (by omega)
  have d2 : decide ((k : Int) < (j : Int)) = true:=decide_eq_true (by omega)
  obtain ⟨hok,_⟩:=hf _ (cpK_mem hi)
  obtain ⟨hv,hw⟩:=hpc k hlt
  have hr:=w1_a j fl bl hb hf hj hj4 hlen k hlt (cpK fl (17 * k + 16)).a (cpK fl (17 * k + 16)).e (cpK fl (17 * k + 16)).b (cpK fl (17 * k + 16)).t (cpK fl (17 * k + 16)).p (cpK fl (17 * k + 16)).y (cpK fl (17 * k + 16)).v
  simp only [rr, tt, Nat.zero_add,Nat.add_zero,Nat.add_assoc,Nat.reduceAdd,Int.toNat_natCast,e5] at hr
  have hn:=nest_ok (P:=Try.prog) (f:=6) (i:=1) (by kernel_rfl) [w2Ent j fl bl hb hf hj hj4 hlen k hlt]
  refine ⟨_,_,_,_,.normal,_,3,fun l => Nat.blt l 77,id,run_ok (L:=100) ar_names (baseF_ok (selSteps_ok fun x hx => by
   obtain rfl:=List.mem_singleton.1 hx; exact wi_con (cpK fl (17 * k + 16)) bl hok hb hlen hw) (noBase_ok _)) (noLoop_ok _) 20,hn.1,hn.2,hr,?_,.inl ⟨rfl,⟨k + 1,by omega⟩,by show j - (k + 1) < j - k; omega,rfl,rfl,?_⟩⟩
  ·simp only [rr, tt, g0,g1,g2,g3,g4,g5,g6,g7,f1,f2,f7,d1,d2,hv,cp_all,cp_map,Bool.and_self,Bool.not_true,cond_true,and_true,true_and,and_self]
  ·exact ⟨fun _ _ => rfl,⟨⟨rfl,cp_all _ _,rfl,rfl,rfl,trivial,(cp_map _ _).symm⟩,⟨rfl,cp_all _ _,rfl,rfl,rfl,trivial,(cp_map _ _).symm⟩,trivial⟩,rfl,trivial,⟨⟨by kernel_rfl,by kernel_rfl⟩,⟨by kernel_rfl,by kernel_rfl⟩,⟨by kernel_rfl,by kernel_rfl⟩,⟨by kernel_rfl,by kernel_rfl⟩,⟨by kernel_rfl,by kernel_rfl⟩,⟨by kernel_rfl,by kernel_rfl⟩,⟨by kernel_rfl,by kernel_rfl⟩,⟨by kernel_rfl,by kernel_rfl⟩,⟨by kernel_rfl,by kernel_rfl⟩,⟨by kernel_rfl,by kernel_rfl⟩,trivial⟩,Nat.le_refl _,fun l hl => blt_no hl,wxF_ok 77 j bl.length [] (Nat.le_refl _) (fun x hx => by cases hx),fun x _ _ => .inl rfl⟩
 ·have hkk : k = j:=by omega
  subst hkk
  have hr:=w1_e k fl bl k
  refine ⟨_,_,loops (loopOf Try.prog 6 1),_,.exit 2,_,3,fun l => Nat.blt l 77,id,run_ok (L:=100) ar_names (noBase_ok _) (noLoop_ok _) 20,noLoop_any _ _ 6,fun _ h => h,hr,?_,.inr ⟨by simp,rfl,?_⟩⟩
  ·exact ⟨trivial,decide_eq_false (by omega)⟩
  ·exact ⟨fun _ _ => rfl,trivial,rfl,trivial,⟨⟨by kernel_rfl,by kernel_rfl⟩,⟨by kernel_rfl,by kernel_rfl⟩,⟨by kernel_rfl,by kernel_rfl⟩,⟨by kernel_rfl,by kernel_rfl⟩,⟨by kernel_rfl,by kernel_rfl⟩,⟨by kernel_rfl,by kernel_rfl⟩,⟨by kernel_rfl,by kernel_rfl⟩,⟨by kernel_rfl,by kernel_rfl⟩,⟨by kernel_rfl,by kernel_rfl⟩,trivial⟩,Nat.le_refl _,fun l hl => blt_no hl,wxF_ok 77 k bl.length [] (Nat.le_refl _) (fun x hx => by cases hx),fun x hx => by cases hx⟩
def w1Ent (j : Nat) (fl bl : List Cp) (hb : ∀ x ∈ bl,CpOk x) (hf : ∀ x ∈ fl,RgOk bl x) (hj : fl.length = 17 * j) (hj4 : j ≤ 4) (hlen : bl.length ≤ 1000) (hpc : ∀ k,k < j → (cpK fl (17 * k + 16)).v = true ∧ ∃ y ∈ bl,cpW (cpK fl (17 * k + 16)) y = true) : Ent Try.prog :=
 entC Try.prog 6 1 170 (w1I j fl bl 0) (.exit 2) (wxF 77 j bl.length []) (by kernel_rfl) (by kernel_rfl) (w1_loop j fl bl hb hf hj hj4 hlen hpc ⟨0,Nat.zero_le _⟩)
def PgOk (zs : List UInt8) (f : Nat → Bool) (N m n : Nat) (bl : List Cp) (g : Nat) : Prop :=
 (ConOk Try.prog 21 3 (tg0C g zs f N m n)) ∨ ∃ tl : List Nat,tl.length ≤ 16 ∧ (∀ a ∈ tl,TgOk zs f N m n bl a) ∧ ConOk Try.prog 21 3 (tgYC g zs f N m n tl)
theorem w3_loop (j p s t nc ns : Nat) (d : List UInt8) {a2 : Option Addr} {n2 c2 : Nat} (em : ∀ q : Nat → Bool,(∀ l,l < 67 → q l = true) → okV q 3 (.slice a2 n2 c2) = true) (zs : List UInt8) (f : Nat → Bool) (N m n : Nat) (bl : List Cp) (hb : ∀ x ∈ bl,CpOk x) (hlen : bl.length ≤ 1000) (hp : p ≤ 1024) (hg : ∀ g,g < p → PgOk zs f N m n bl g) :
  ∀ k : { k : Nat // k ≤ p },LoopOk Try.prog 170 (loopOf Try.prog 6 3) ((w3I j p s t nc ns d a2 n2 c2 zs f N m n bl k.1).fr 170) (.exit 6) ((wxF 77 j bl.length []).fr 170):=by
 have f1 : ∀ p,(u8s zs).all (okV p 3) = true:=fun p => flat_all (u8s_flatA _)
 have f2 : ∀ σ,(u8s zs).map (rnV σ 3) = u8s zs:=fun σ => flat_map (u8s_flatA _)
 have v1 : ∀ (σ : Nat → Nat),(v64 (wordsB f n)).map (rnV σ 3) = v64 (wordsB f n):=fun σ => flat_map (v64_flat _)
 have v2 : ∀ (p : Nat → Bool),(v64 (wordsB f n)).all (okV p 3) = true:=fun p => flat_all (v64_flat _)
 refine loop_okD (L:=100) (X:={ k : Nat // k ≤ p }) (fun k => w3I j p s t nc ns d a2 n2 c2 zs f N m n bl k.1) (fun _ => wxF 77 j bl.length []) (fun _ => .exit 6) (fun k => p - k.1) (fun k => ?_) ?_
 ·exact ⟨by show 64 ≤ 77; omega,Sf.Ok.mk' 3 (ar70W_okH (fun l hl => lt77 l (by omega)) zs f N m n ⟨⟨rfl,rfl,fun v hv => okV_bnd 3 v (imgC_cell (em _ fun l hl => lt77 l (by omega)) rfl rfl p s t nc ns d v hv)⟩,⟨rfl,rfl,flat_bnd (cpL_flat bl)⟩,trivial⟩) rfl (wnE_ok' _ _ _ lt77 (fun x hx => by obtain rfl:=List.mem_singleton.1 hx; rfl))⟩
 rintro ⟨k,hk'⟩
 by_cases hlt : k < p
 ·have e5 : IntKind.i64.wrap ((k : Int) + (1 : Int)) = ((k + 1 : Nat) : Int):=cast_succ_i64 k (by omega)
  rcases hg k hlt with hcon | ⟨tl,ht1,ht2,hcon⟩
  ·have hr:=w3_n j p s t nc ns d a2 n2 c2 zs f N m n bl k
   simp only [rr, tt, e5] at hr
   refine ⟨_,_,loops (loopOf Try.prog 6 3),_,.normal,_,3,fun l => Nat.blt l 77,id,run_ok (L:=100) ar_names (baseF_ok (selSteps_ok fun x hx => by
    obtain rfl:=List.mem_singleton.1 hx; exact ⟨hcon,⟨fun x hx => by cases hx⟩⟩) (noBase_ok _)) (noLoop_ok _) 20,noLoop_any _ _ 6,fun _ h => h,hr,?_,.inl ⟨rfl,⟨k + 1,by omega⟩,by show p - (k + 1) < p - k; omega,rfl,rfl,?_⟩⟩
   ·simp (disch:=omega) only [rr, tt, f1,f2,v1,v2,decide_eq_true,decide_eq_false,Bool.and_self,cond_true,and_true,true_and,and_self,Nat.le_refl]
   ·exact ⟨fun _ _ => rfl,ar70W_seen (fun l hl => lt77 l (by omega)) zs f N m n rfl rfl rfl rfl ⟨⟨rfl,List.all_eq_true.2 (imgC_cell (em _ fun l hl => lt77 l (by omega)) rfl rfl p s t nc ns d),rfl,rfl,rfl,trivial,(map_id3 _ rfl _).symm⟩,⟨rfl,cp_all _ _,rfl,rfl,rfl,trivial,(cp_map _ _).symm⟩,trivial⟩,rfl,⟨⟨rfl,Nat.le_refl _⟩,⟨rfl,Nat.le_refl _⟩,trivial⟩,⟨⟨by kernel_rfl,by kernel_rfl⟩,⟨by kernel_rfl,by kernel_rfl⟩,⟨by kernel_rfl,by kernel_rfl⟩,⟨by kernel_rfl,by kernel_rfl⟩,⟨by kernel_rfl,by kernel_rfl⟩,⟨by kernel_rfl,by kernel_rfl⟩,⟨by kernel_rfl,by kernel_rfl⟩,⟨by kernel_rfl,by kernel_rfl⟩,⟨by kernel_rfl,by kernel_rfl⟩,⟨by kernel_rfl,by kernel_rfl⟩,trivial⟩,Nat.le_refl _,fun l hl => blt_no hl,wxF_ok 77 j bl.length [] (Nat.le_refl _) (fun x hx => by cases hx),fun x _ _ => .inl rfl⟩
  ·have hr:=w3_y j p s t nc ns d a2 n2 c2 zs f N m n bl k tl hb hlen ht2 ht1
   simp only [rr, tt, e5] at hr
   have hn:=nest_ok (P:=Try.prog) (f:=6) (i:=3) (by kernel_rfl) [w4Ent j zs f N m n bl tl k hb hlen ht2 ht1]
   refine ⟨_,_,_,_,.normal,_,3,fun l => Nat.blt l 77,id,run_ok (L:=100) ar_names (baseF_ok (selSteps_ok fun x hx => by
    obtain rfl:=List.mem_singleton.1 hx; exact ⟨hcon,⟨fun x hx _ => by obtain rfl:=List.mem_singleton.1 hx; exact u32s_flat tl⟩⟩) (noBase_ok _)) (noLoop_ok _) 20,hn.1,hn.2,hr,?_,.inl ⟨rfl,⟨k + 1,by omega⟩,by show p - (k + 1) < p - k; omega,rfl,rfl,?_⟩⟩
   ·simp (disch:=omega) only [rr, tt, f1,f2,v1,v2,decide_eq_true,decide_eq_false,Bool.and_self,cond_true,and_true,true_and,and_self,Nat.le_refl]
   ·exact ⟨fun _ _ => rfl,ar70W_seen (fun l hl => lt77 l (by omega)) zs f N m n rfl rfl rfl rfl ⟨⟨rfl,List.all_eq_true.2 (imgC_cell (em _ fun l hl => lt77 l (by omega)) rfl rfl p s t nc ns d),rfl,rfl,rfl,trivial,(map_id3 _ rfl _).symm⟩,⟨rfl,cp_all _ _,rfl,rfl,rfl,trivial,(cp_map _ _).symm⟩,trivial⟩,rfl,⟨⟨rfl,Nat.le_refl _⟩,⟨rfl,Nat.le_refl _⟩,trivial⟩,⟨⟨by kernel_rfl,by kernel_rfl⟩,⟨by kernel_rfl,by kernel_rfl⟩,⟨by kernel_rfl,by kernel_rfl⟩,⟨by kernel_rfl,by kernel_rfl⟩,⟨by kernel_rfl,by kernel_rfl⟩,⟨by kernel_rfl,by kernel_rfl⟩,⟨by kernel_rfl,by kernel_rfl⟩,⟨by kernel_rfl,by kernel_rfl⟩,⟨by kernel_rfl,by kernel_rfl⟩,⟨by kernel_rfl,by kernel_rfl⟩,trivial⟩,Nat.le_refl _,fun l hl => blt_no hl,wxF_ok 77 j bl.length [] (Nat.le_refl _) (fun x hx => by cases hx),fun x _ _ => .inl rfl⟩
 ·have hkk : k = p:=by omega
  subst hkk
  have hr:=w3_e j k s t nc ns d a2 n2 c2 zs f N m n bl k
  refine ⟨_,_,loops (loopOf Try.prog 6 3),_,.exit 6,_,3,fun l => Nat.blt l 77,id,run_ok (L:=100) ar_names (noBase_ok _) (noLoop_ok _) 20,noLoop_any _ _ 6,fun _ h => h,hr,?_,.inr ⟨by simp,rfl,?_⟩⟩
  ·exact ⟨trivial,decide_eq_false (by omega)⟩
  ·exact ⟨fun _ _ => rfl,trivial,rfl,trivial,⟨⟨by kernel_rfl,by kernel_rfl⟩,⟨by kernel_rfl,by kernel_rfl⟩,⟨by kernel_rfl,by kernel_rfl⟩,⟨by kernel_rfl,by kernel_rfl⟩,⟨by kernel_rfl,by kernel_rfl⟩,⟨by kernel_rfl,by kernel_rfl⟩,⟨by kernel_rfl,by kernel_rfl⟩,⟨by kernel_rfl,by kernel_rfl⟩,⟨by kernel_rfl,by kernel_rfl⟩,trivial⟩,Nat.le_refl _,fun l hl => blt_no hl,wxF_ok 77 j bl.length [] (Nat.le_refl _) (fun x hx => by cases hx),fun x hx => by cases hx⟩
def w3Ent (j p s t nc ns : Nat) (d : List UInt8) {a2 : Option Addr} {n2 c2 : Nat} (em : ∀ q : Nat → Bool,(∀ l,l < 67 → q l = true) → okV q 3 (.slice a2 n2 c2) = true) (zs : List UInt8) (f : Nat → Bool) (N m n : Nat) (bl : List Cp) (hb : ∀ x ∈ bl,CpOk x) (hlen : bl.length ≤ 1000) (hp : p ≤ 1024) (hg : ∀ g,g < p → PgOk zs f N m n bl g) : Ent Try.prog :=
 entC Try.prog 6 3 170 (w3I j p s t nc ns d a2 n2 c2 zs f N m n bl 0) (.exit 6) (wxF 77 j bl.length []) (by kernel_rfl) (by kernel_rfl) (w3_loop j p s t nc ns d em zs f N m n bl hb hlen hp hg ⟨0,Nat.zero_le _⟩)
end Go.Proofs.Ytliidiceljdgmaa
namespace Go.Proofs.Ytliidiceljdgmaa
open Go.RowKit
open Sy
set_option maxRecDepth 100000
def selLbW : SelC:=fun f _ _ => bif Nat.beq f 10 then some (lbW,[],True) else none
end Go.Proofs.Ytliidiceljdgmaa
namespace Go.Proofs.Ytliidiceljdgmaa
open Go.RowKit
open Sy
set_option maxRecDepth 100000
theorem mk_dec {a s p c : Nat} (h : makeOk a s p = true) (ha : a < 4294967296) (h1 : a ≤ c) (h2 : c ≤ a + s) : decN (mE a s p) (mB a s p) (mT a s p) c = (a,a + s):=by
 obtain ⟨h3,h4,h5⟩:=makeOk_true h
 unfold encX at h5
 simp only [rr, tt, Bool.and_eq_true,decide_eq_true_eq] at h5
 have hd:=enc_at (b:=a) (t:=a + s) (c:=c) ha (by omega) h4 h1 h2
 unfold mE mB mT
 rw [if_pos h,if_pos h,if_pos h,hd]
 first
  | rw [h5.1.2,h5.2]
  | rw [h5.2.1,h5.2.2]
theorem mk_rg {a s p : Nat} (h : makeOk a s p = true) (ha : a < 4294967296) : rgLo (mA a s p : Nat) (mE a s p : Nat) (mB a s p : Nat) (mT a s p : Nat) = a ∧ rgHi (mA a s p : Nat) (mE a s p : Nat) (mB a s p : Nat) (mT a s p : Nat) = a + s:=by
 unfold rgLo rgHi
 simp only [rr, tt, Int.toNat_natCast]
 have e : mA a s p = a:=by unfold mA; rw [if_pos h]
 rw [e,mk_dec h ha (Nat.le_refl _) (by omega)]
 exact ⟨rfl,rfl⟩
theorem make_pages (a s p : Nat) (h1 : a % 256 = 0) (h2 : s % 256 = 0) (h3 : a + s ≤ 500000) (hp : p ≤ 255) : makeOk a s p = true:=by
 have e1 : a = a / 256 * 2 ^ 8:=by rw [show (2 : Nat) ^ 8 = 256 from rfl]; omega
 have e2 : s = s / 256 * 2 ^ 8:=by rw [show (2 : Nat) ^ 8 = 256 from rfl]; omega
 have hx:=(pad_exact (a:=a / 256) (p:=s / 256) (k:=8) (by rw [show (2 : Nat) ^ 8 = 256 from rfl]; omega) (by rw [show (2 : Nat) ^ 8 = 256 from rfl]; omega)).1
 rw [← e1,← e2] at hx
 unfold makeOk
 rw [hx,decide_eq_true hp,decide_eq_true (by omega : a + s ≤ 4294967296)]
 rfl
theorem andNot_le (x y : Nat) (hx : x < 65536) (hy : y < 65536) (h : bits .andNot .u16 (x : Int) (y : Int) = 0) : x ≤ y:=by
 have h1 : IntKind.u16.wrap ((BitVec.ofInt 16 (x : Int) &&& ~~~ BitVec.ofInt 16 (y : Int)).toNat : Int) = 0:=h
 have hlt:=(BitVec.ofInt 16 (x : Int) &&& ~~~ BitVec.ofInt 16 (y : Int)).isLt
 rw [IntKind.wrap_u16] at h1
 have h2 : (BitVec.ofInt 16 (x : Int) &&& ~~~ BitVec.ofInt 16 (y : Int)).toNat = 0:=by omega
 have h3 : BitVec.ofInt 16 (x : Int) &&& ~~~ BitVec.ofInt 16 (y : Int) = 0#16:=BitVec.eq_of_toNat_eq h2
 have h4 : (BitVec.ofInt 16 (x : Int) &&& BitVec.ofInt 16 (y : Int)) = BitVec.ofInt 16 (x : Int):=by
  apply BitVec.eq_of_getLsbD_eq
  intro i hi
  have:=congrArg (fun v => BitVec.getLsbD v i) h3
  simp only [rr, tt, BitVec.getLsbD_and,BitVec.getLsbD_not,BitVec.getLsbD_zero] at this
  rw [BitVec.getLsbD_and]
  revert this
  cases BitVec.getLsbD (BitVec.ofInt 16 (x : Int)) i <;> cases BitVec.getLsbD (BitVec.ofInt 16 (y : Int)) i <;> simp [hi]
 have h5:=congrArg BitVec.toNat h4
 rw [BitVec.toNat_and,BitVec.ofInt_natCast,BitVec.ofInt_natCast,BitVec.toNat_ofNat,BitVec.toNat_ofNat,Nat.mod_eq_of_lt (by omega),Nat.mod_eq_of_lt (by omega)] at h5
 rw [← h5]
 exact Nat.and_le_right
theorem enc_small {a s p : Nat} (h : makeOk a s p = true) : mE a s p < 22 ∧ mB a s p < 4096 ∧ mT a s p < 4096 ∧ mP a s p = p:=by
 unfold mE mB mT mP
 rw [if_pos h,if_pos h,if_pos h,if_pos h]
 have h1:=expo_le a (a + s)
 refine ⟨?_,?_,?_,rfl⟩
 ·unfold encE; split <;> omega
 ·unfold encB; split <;> omega
 ·unfold encT; split <;> omega
theorem rl_fit {types : Int} {nc len : Nat} {c N : Nat} {r : Rl} {behind : Nat} (hr : RlOk r) (ht : types ≤ 2048) (hn : nc ≤ 4096) (hl : len ≤ 16384) (hc : c % 256 = 0) (hc2 : c < 500000) (hN : c + len ≤ N) (h : relRight types nc len 0 c r behind = true) : RlFit c N r ∧ c + r.at_ + 16 ≤ c + len:=by
 unfold relRight at h
 rw [Bool.and_eq_true,Bool.not_eq_true'] at h
 obtain ⟨h1,h2⟩:=h
 unfold relBad at h1
 simp only [rr, tt, Bool.or_eq_false_iff,decide_eq_false_iff_not] at h1
 obtain ⟨g1,g2,g3,g4,g5,g6⟩:=h1
 have hp : r.perms ≤ 155:=by
  simp only [rr, tt, bne_eq_false_iff_eq] at g5
  unfold allowed at g5
  cases hcode : r.code <;> rw [hcode] at g5
  ·exact andNot_le r.perms 155 hr.perms (by omega) g5
  ·have:=andNot_le r.perms 133 hr.perms (by omega) g5; omega
 have hw : whole nc len r.code ≤ 16384:=by
  unfold whole; cases r.code <;> simp only [rr, tt, cond_true,cond_false] <;> omega
 have hmk : makeOk (bif r.code then r.off else (c + r.off) % 4294967296) r.size r.perms = true:=by
  have e : (bif r.code then r.off else (c + r.off) % 4294967296) = (bif r.code then 0 else c) + r.off:=by
   cases r.code <;> simp only [rr, tt, cond_true,cond_false] <;> omega
  rw [e]
  unfold makeOk
  rw [h2,decide_eq_true (by omega : r.perms ≤ 255)]
  have : (bif r.code then 0 else c) ≤ 500000:=by cases r.code <;> simp only [rr, tt, cond_true,cond_false] <;> omega
  rw [decide_eq_true (by omega)]
  rfl
 obtain ⟨q1,q2,q3,q4⟩:=enc_small hmk
 refine ⟨⟨hr,by omega,by omega,?_,?_⟩,by omega⟩
 ·show mV _ _ _ = true
  unfold mV; exact hmk
 ·show soundN (mE _ _ _) (mB _ _ _) (mT _ _ _) (mP _ _ _) r.typ 0 = true
  unfold soundN
  rw [decide_eq_true q1,decide_eq_true q2,decide_eq_true q3,q4,decide_eq_true (by omega : r.perms < 256),decide_eq_true (by omega : r.typ < 4096)]
  rfl
end Go.Proofs.Ytliidiceljdgmaa
namespace Go.Proofs.Ytliidiceljdgmaa
open Go.RowKit
open Sy
set_option maxRecDepth 100000
def leB0 (a : Int) : Bool:=decide (0 ≤ a)
def ltB (a b : Int) : Bool:=decide (0 ≤ a) && decide (a < b)
def mkD : FuncId → List Value → Option Con:=fun f args => bif Nat.beq f 77 then
 match args with
 | [.agg ⟨[.int .u32 a,.int .u32 s]⟩,.int .u16 p] => bif ltB a 4294967296 && ltB s 4294967296 && leB0 p then some (makeZ a s p) else none
 | _ => none
 else bif Nat.beq f 65 then
 match args with
 | [.agg ⟨[.int .u32 c,.int .u8 e,.int .u16 b,.int .u16 t,.int .u16 p,.int .u16 y,.int .u32 r,.bool v]⟩,.int .u32 to] => bif ltB c 4294967296 && ltB e 256 && ltB b 65536 && ltB t 65536 && ltB p 65536 && ltB y 65536 && ltB r 4294967296 && ltB to 4294967296 then some (addrZ c e b t p y r v to) else none
 | _ => none
 else none
theorem ltB_is {a b : Int} (h : ltB a b = true) : 0 ≤ a ∧ a < b:=by simpa [ltB] using h
theorem mkD_ok : ∀ f args c,mkD f args = some c → ConOk Try.prog f 3 c ∧ FlatC c:=by
 intro f args c h
 unfold mkD at h
 cases h1 : Nat.beq f 77 <;> rw [h1] at h
 ·simp only [rr, tt, cond_false] at h
  obtain ⟨h2,h3⟩:=bif_some h
  have h2:=eB h2
  subst h2
  split at h3
  ·obtain ⟨h4,h5⟩:=bif_some h3
   cases h5
   simp only [rr, tt, Bool.and_eq_true] at h4
   obtain ⟨⟨⟨⟨⟨⟨⟨a1,a2⟩,a3⟩,a4⟩,a5⟩,a6⟩,a7⟩,a8⟩:=h4
   have a1:=ltB_is a1; have a2:=ltB_is a2; have a3:=ltB_is a3; have a4:=ltB_is a4
   have a5:=ltB_is a5; have a6:=ltB_is a6; have a7:=ltB_is a7; have a8:=ltB_is a8
   exact ⟨addr_con _ _ _ _ _ _ _ _ _ ⟨a1.1,a1.2,a2.1,a2.2,a3.1,a3.2,a4.1,a4.2,a5.1,a5.2,a6.1,a6.2,a7.1,a7.2,a8.1,a8.2⟩,⟨fun x hx => by cases hx⟩⟩
  ·cases h3
 ·have h2:=eB h1
  subst h2
  simp only [rr, tt, cond_true] at h
  split at h
  ·obtain ⟨h4,h5⟩:=bif_some h
   cases h5
   simp only [rr, tt, Bool.and_eq_true] at h4
   obtain ⟨⟨a1,a2⟩,a3⟩:=h4
   have a1:=ltB_is a1; have a2:=ltB_is a2
   exact ⟨make_con _ _ _ ⟨a1.1,a1.2,a2.1,a2.2,by simpa [leB0] using a3⟩,⟨fun x hx => by cases hx⟩⟩
  ·cases h
def lworksC : Con:=⟨[],64,[],[],.bool true,64,[],[]⟩
def WRun (f : FuncId) (c : Con) : Prop:=ConRun 3 (evF Try.prog (baseD 3 mkD noBase) noLoop 1000 40) f c
theorem wRun_ok {f : FuncId} {c : Con} (h : WRun f c = True) : ConOk Try.prog f 3 c ∧ FlatC c:=conRun_ok (run_ok ar_names (baseD_ok mkD_ok (noBase_ok _)) (noLoop_ok _) 40) h
theorem lworks_run : WRun 10 lworksC = True:=by kernel_rfl
end Go.Proofs.Ytliidiceljdgmaa
namespace Go.Proofs.Ytliidiceljdgmaa
open Go.RowKit
open Sy
set_option maxRecDepth 100000
theorem lw_con : ConOk Try.prog 10 3 lworksC ∧ FlatC lworksC:=wRun_ok lworks_run
structure StOk (p s sa j : Nat) : Prop where
 p2 : p ≤ 1024
 al : sa % 256 = 0
 sl : s % 256 = 0
 fit : sa + 4 * s ≤ 400000
 lt : sa < p * 256
end Go.Proofs.Ytliidiceljdgmaa
namespace Go.Proofs.Ytliidiceljdgmaa
open Go.RowKit
open Sy
def sl (k : Nat) (g n : Nat) : Value:=match k with | 0 => .slice none 0 0 | 1 => .slice (some ⟨g,0,some g⟩) 0 (big + g) | _ => .slice (some ⟨g,0,none⟩) n (big + g)
def slH (k : Nat) (g : Nat) (cells : List Value) : Sy.Heap:=match k with | 0 => [] | 1 => [] | _ => [(g,⟨false,some (0,0),cells,none⟩)]
def slOk (k n : Nat) : Prop:=k ≤ 2 ∧ (k < 2 → n = 0)
def inV (i j k : Nat) (pages stack types : Int) (data : List UInt8) (cs : List Nat) (rs : List Rl) (starts : List Nat) : Value :=
 .agg ⟨[.int .i64 pages,.int .i64 stack,.int .i64 types,sl i 64 cs.length,.string ⟨⟨data⟩⟩,sl j 65 rs.length,sl k 66 starts.length]⟩
def inH (i j k : Nat) (cs : List Nat) (rs : List Rl) (starts : List Nat) : Sy.Heap:=slH i 64 (u32s cs) ++ slH j 65 (rels rs) ++ slH k 66 (u32s starts)
def inLo (cs : List Nat) (rs : List Rl) (starts : List Nat) : List (Nat × Nat):=[(64,cs.length),(65,rs.length),(66,starts.length)]
end Go.Proofs.Ytliidiceljdgmaa
namespace Go.Proofs.Ytliidiceljdgmaa
open Go.ChangeShapes Go.WideShapes Go.ChangeAt Go.RowKit
open Go.ChangeMaps (open_string shut_string)
theorem own : ownKnob Try.prog.godebug = none:=by kernel_rfl
theorem laidOut : laidOutB Try.prog = true:=by kernel_rfl
section
variable {H : Type} {enc : TypeId × Value → H} {P : Program}
theorem post_of_below {f : Func} {s : ChangeSpec} {apart fresh handsOn again : Bool} {W W' : World} {args : Array Value} {v : Value} {ds gs : List (DataW H)} {before pa pv : List MemPlace}
  (hW : DataW.Whole enc P f.params.toList s.vars apart W args.toList ds gs before)
  (hres : ∀ (b : Nat) (sp : Nat → Bool) (hd : Bool),DataW.TrodAll enc P W' b sp hd f.resultTypes.toList (v.resultList f.resultTypes.size) (s.fn H (ds ++ gs)).results [])
  (hargs : ∀ sp : Nat → Bool,(∀ p ∈ before,sp p.block = true) → DataW.TrodAll enc P W' 0 sp true f.params.toList args.toList (s.fn H (ds ++ gs)).args pa)
  (hvars : ∀ sp : Nat → Bool,(∀ p ∈ before,sp p.block = true) → DataW.TrodVars enc P W' sp s.vars (s.fn H (ds ++ gs)).vars pv)
  (hps : before = pa ++ pv) (hb : Below W.heap.size W W')
  (hok : ∀ (j : Nat) (t : TypeId) (r : Value),f.resultTypes[j]? = some t → (v.resultList f.resultTypes.size)[j]? = some r → Value.okWide P W' .any 0 t r) :
  s.post enc P f apart fresh handsOn again W args v W':=by
 have hlt : ∀ p ∈ before,p.block < W.heap.size:=fun p hp => hW.lt p hp
 have hold : ∀ p ∈ before,(fun b => decide (b < W.heap.size)) p.block = true:=fun p hp => by simpa using hlt p hp
 refine ⟨ds,gs,before,[],pa,pv,hW,hres _ _ _,hargs _ hold,hvars _ hold,World.keptBut_mono (fun p hp => ⟨hp,?_⟩) (hb.frame (· ∈ before)),fun _ => ?_⟩
 ·rw [hps,List.mem_append] at hp
  exact Or.inr hp
 ·obtain ⟨_,_,_,_,_,hz,hn⟩:=hW
  refine ⟨hok,_,_,([] ++ pa) ++ pv,⟨[] ++ pa,pv,trodAll_append (hargs _ (fun _ _ => rfl)) (hres _ _ _),hvars _ (fun _ _ => rfl),rfl,?_,?_⟩,?_⟩
  ·intro b off hp
   have hin : MemPlace.cell b off ∈ before:=by rw [hps]; simpa using hp
   rw [hb.frozen (hlt _ hin)]
   exact hz b off hin
  ·intro ha
   have:=hn ha
   rw [hps] at this
   simpa using this
  ·intro p hp _
   rw [hps]
   simpa using hp
theorem below_trodAll (hl : laidOutB P = true) {W W' : World} (hb : Below W.heap.size W W') {sp : Nat → Bool} : ∀ (ts : List TypeId) (vs : List Value) (ds : List (DataW H)) (ps : List MemPlace),
  (∀ t ∈ ts,P.readableRec t = true ∧ t < P.types.size) → DataW.TrodAll enc P W 0 (fun _ => true) true ts vs ds ps → (∀ x ∈ ps,x.block < W.heap.size) → (∀ x ∈ ps,sp x.block = true) →
  DataW.TrodAll enc P W' 0 sp true ts vs ds ps
 | [],[],[],_,_,h,_,_ => h
 | t :: ts,v :: vs,d :: ds,ps,ht,h,hlt,hs => by
  obtain ⟨p,q,h1,h2,rfl⟩:=h
  refine ⟨p,q,?_,below_trodAll hl hb ts vs ds q (fun u hu => ht u (List.mem_cons_of_mem _ hu)) h2 (fun x hx => hlt x (List.mem_append_right _ hx)) (fun x hx => hs x (List.mem_append_right _ hx)),rfl⟩
  exact WideElems.Trod_stays hl (ht t (List.mem_cons_self ..)).1 (ht t (List.mem_cons_self ..)).2 h1 (fun x hx => hb.same (hlt x (List.mem_append_left _ hx))) (fun x hx => hs x (List.mem_append_left _ hx))
 | [],[],_ :: _,_,_,h,_,_ => h.elim
 | [],_ :: _,_,_,_,h,_,_ => h.elim
 | _ :: _,[],_,_,_,h,_,_ => h.elim
 | _ :: _,_ :: _,[],_,_,h,_,_ => h.elim
theorem trodAll_length {W : World} {base : Nat} {sp : Nat → Bool} {hd : Bool} : ∀ (ts : List TypeId) (vs : List Value) (ds : List (DataW H)) (ps : List MemPlace),DataW.TrodAll enc P W base sp hd ts vs ds ps → ds.length = ts.length
 | [],[],[],_,_ => rfl
 | _ :: ts,_ :: vs,_ :: ds,_,h => by
  obtain ⟨_,_,_,h2,_⟩:=h
  simp [trodAll_length ts vs ds _ h2]
 | [],[],_ :: _,_,h => h.elim
 | [],_ :: _,_,_,h => h.elim
 | _ :: _,[],_,_,h => h.elim
 | _ :: _,_ :: _,[],_,h => h.elim
end
theorem wf_u32 {n : Int} (h : (Lit.int .u32 n).wf = true) : 0 ≤ n ∧ n < 4294967296:=by
 have:=bounds_u32 h; omega
theorem wf_u16 {n : Int} (h : (Lit.int .u16 n).wf = true) : 0 ≤ n ∧ n < 65536:=by
 have:=bounds_u16 h; omega
def LawWalk (f : FuncId) (fn : Func) : Prop :=
 ∀ (H : Type) (enc : TypeId × Value → H) (W : World) (base : Nat) (args : Array Value) (ds : List (DataW H)) (p : List MemPlace),
  (∀ (j : Nat) t v,fn.params[j]? = some t → args[j]? = some v → Value.okWide Try.prog W .any base t v) →
  DataW.TrodAll enc Try.prog W 0 (fun _ => true) true fn.params.toList args.toList ds p →
  Calls Try.prog f args W fun e W' => e = .returned (.bool true) ∧ Below W.heap.size W W'
set_option maxRecDepth 100000 in
theorem law_lifted (f : FuncId) (fn : Func) (s : ChangeSpec) (conds : List PathCond) (hfn : Try.prog.funcs[f]? = some fn) (noInit : Try.prog.inits.idxOf? f = none)
  (hres : fn.resultTypes = #[4])
  (hvars : s.vars = []) (hspec : ∀ (H : Type) (ds : List (DataW H)),ds.length = fn.params.toList.length → (s.fn H (ds ++ [])).results = [.lit (.bool true)] ∧ (s.fn H (ds ++ [])).args = ds ∧ (s.fn H (ds ++ [])).vars = [])
  (hts : ∀ t ∈ fn.params.toList,Try.prog.readableRec t = true ∧ t < Try.prog.types.size)
  (walk : LawWalk f fn) (os : Os) (started : os.Started) (H : Type) (enc : TypeId × Value → H)
  (witness : ∃ (w : World) (tape : Tape) (i : Input),w.os = os ∧ (w.forCall tape i).Shaped Try.checked.prog ∧ i.vars = [] ∧ Input.okWide Try.checked.prog (w.forCall tape i) .any w.heap.size f i ∧
   s.pre6 enc Try.checked.prog fn conds false (w.forCall tape i).memory i.args ∧ ({} : Assume).holds Try.checked.prog (lone (Frame.enter Try.checked.prog f i.args .normal) [] (w.forCall tape i))) :
  ReturnsInHanded {} Try.checked os f .any (s.pre6 enc Try.prog fn conds false) (s.post enc Try.prog fn false true false false):=by
 refine returnsInHanded_of_change (C:=Try.checked) own started noInit hfn witness ?_
 intro W base args ds gs before hval0 hW _ _
 have hW':=hW
 obtain ⟨p,q,hA,hV,rfl,_,_⟩:=hW
 rw [hvars] at hV
 obtain ⟨rfl,rfl⟩:=trodVars_none hV
 obtain ⟨e1,e2,e3⟩:=hspec H ds (trodAll_length _ _ _ _ hA)
 refine (walk H enc W base args ds p hval0 hA).mono fun e W' ⟨he,hg⟩ => ?_
 subst he
 refine ⟨_,rfl,post_of_below (pa:=p) (pv:=[]) hW' (fun b sp hd => ?_) (fun sp hsp => ?_) (fun sp _ => ?_) rfl hg ?_⟩
 ·rw [e1,hres]
  exact trodAll_mk1 (shut_bool Try.underlying4 _)
 ·rw [e2]
  exact below_trodAll laidOut hg _ _ _ _ hts hA (fun x hx => hW'.lt x (List.mem_append_left _ hx)) (fun x hx => hsp x (List.mem_append_left _ hx))
 ·rw [e3,hvars]; rfl
 ·exact ok_one hres rfl (okWide_bool_mk Try.underlying4 _)
end Go.Proofs.Ytliidiceljdgmaa
