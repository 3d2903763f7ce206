/-
  LoaderClean: the proof's last part: the statement holds, with no condition.
-/
import Derived.Below
import Derived.ChangeOld
import Derived.ChangeSame
import Derived.ChangeSlices
import Derived.Deep.Fields
import Derived.Deep.Slices
import Derived.Lib.SmallJoins
import Derived.OpenShut
import Derived.ProofKit
import Derived.ShutString
import Derived.Test.YtliidiceljdgmaaQLoaderCleanE
import Derived.Test.YtliidiceljdgmaaRows
import Derived.WalkKit
set_option linter.unusedSimpArgs false
set_option linter.unusedVariables false
set_option linter.unusedSectionVars false
namespace Go.Proofs.Ytliidiceljdgmaa
open Go.RowKit
open Sy
set_option maxRecDepth 100000
theorem lcf_1 (p s t : Nat) (cs : List Nat) (d : List UInt8) (rs : List Rl) (so : List Nat) (c da ds sa ss ha hs : Nat) (zs : List UInt8) (f : Nat → Bool) (k0 k : Nat) (rl rh : Int → Int → Int → Int → Nat) (mt : Int → Int → Int → Int → Int → Int → Bool) (em : ∀ (q : Nat → Bool),(∀ (l : Nat),l < 67 → q l = true) → okV q 3 (Value.slice (some ⟨65,0,none⟩) rs.length (big + 65)) = true) (h : LcOk zs f p (nGran p) (nWord p) k0) : obs (evF Try.prog (baseF 3 (selSteps (lcL (genJ p s t d (some ⟨65,0,none⟩) cs.length rs.length so.length (big+65)) (lqH cs rs so) (btH rs so) 1 p zs f so c da ds sa ss ha hs s t k)) (baseC 3 (selRg rl rh mt))) (lpEsc [lcEnt1 p s t cs.length so.length d em zs f (nGran p) (nWord p) k0 h]) 100 20 7 [genJ p s t d (some ⟨65,0,none⟩) cs.length rs.length so.length (big+65)] ⟨67,lqH cs rs so,[],0,[(26,false)],0,True⟩) = some (Value.bool true,((bif (List.take (IntKind.i64.wrap ((↑(p * 256):Int) - IntKind.i64.wrap (↑sa))).toNat (List.drop 0 (repl (IntKind.i64.wrap ((↑(p * 256):Int) - IntKind.i64.wrap (↑sa))).toNat [Value.int .u8 0]))).all isU8 then bif hasN (0+(IntKind.i64.wrap ((↑(p * 256):Int) - IntKind.i64.wrap (↑sa))).toNat) (repl (IntKind.i64.wrap ((↑(p * 256):Int) - IntKind.i64.wrap (↑sa))).toNat [Value.int .u8 0]) then bif decide ((0:Int) ≤ IntKind.i64.wrap ((↑(p * 256):Int) - IntKind.i64.wrap (↑sa))) && decide (IntKind.i64.wrap ((↑(p * 256):Int) - IntKind.i64.wrap (↑sa)) ≤ IntKind.i64.wrap ((↑(p * 256):Int) - IntKind.i64.wrap (↑sa))) && decide ((1:Int) * IntKind.i64.wrap ((↑(p * 256):Int) - IntKind.i64.wrap (↑sa)) ≤ (140737488355328:Int)) && decide (IntKind.i64.wrap ((↑(p * 256):Int) - IntKind.i64.wrap (↑sa)) < (9223372036854775808:Int)) then (((True∧True∧True∧True∧True)∧True∧(rr (Value.agg ⟨[.int .i64 (↑p),.int .i64 (↑s),.int .i64 (↑t),.slice (some ⟨64,0,none⟩) cs.length 9223372036854775872,.string ⟨⟨d⟩⟩,.slice (some ⟨65,0,none⟩) rs.length 9223372036854775873,.slice (some ⟨66,0,none⟩) so.length 9223372036854775874]⟩)∧True)∧((tt∧(u32s cs).all (okV (fun l => l.blt 67) 3) = true∧tt∧tt∧tt∧True∧u32s cs = List.map (rnV (lift 67 68 [64,65,66]) 3) (u32s cs))∧(tt∧(rels rs).all (okV (fun l => l.blt 67) 3) = true∧tt∧tt∧tt∧True∧rels rs = List.map (rnV (lift 67 68 [64,65,66]) 3) (rels rs))∧(tt∧(u32s so).all (okV (fun l => l.blt 67) 3) = true∧tt∧tt∧tt∧True∧u32s so = List.map (rnV (lift 67 68 [64,65,66]) 3) (u32s so))∧True)∧True)∧True∧(rr (Value.agg ⟨[.int .i64 (↑p),.int .i64 (↑s),.int .i64 (↑t),.slice (some ⟨64,0,none⟩) cs.length 9223372036854775872,.string ⟨⟨d⟩⟩,.slice (some ⟨65,0,none⟩) rs.length 9223372036854775873,.slice (some ⟨66,0,none⟩) so.length 9223372036854775874]⟩)∧True)∧((tt∧(rels rs).all (okV (fun l => l.blt 67) 3) = true∧tt∧tt∧tt∧True∧rels rs = List.map (rnV (lift 67 77 [64,65,66]) 3) (rels rs))∧(tt∧(u32s so).all (okV (fun l => l.blt 67) 3) = true∧tt∧tt∧tt∧True∧u32s so = List.map (rnV (lift 67 77 [64,65,66]) 3) (u32s so))∧True)∧True)∧True∧(rr (Value.pointer (some ⟨73,0,none⟩))∧rr (Value.int .u32 (↑sa))∧Value.int .i64 (IntKind.i64.wrap ((↑(p * 256):Int) - IntKind.i64.wrap (↑sa))) = Value.int .i64 (↑k)∧True)∧((tt∧tt∧tt∧tt∧tt∧True∧rr [Value.pointer (some ⟨72,0,none⟩),.slice (some ⟨70,0,none⟩) (p * 256) 9223372036854775878])∧(tt∧tt∧tt∧tt∧tt∧True∧rr [Value.int .i64 (↑(nGran p)),.slice (some ⟨71,0,none⟩) (nWord p) 9223372036854775879])∧(tt∧(v64 (wordsB f (nWord p))).all (okV (fun l => l.blt 68) 3) = true∧tt∧tt∧tt∧True∧v64 (wordsB f (nWord p)) = List.map (rnV (lift 68 78 [70,71,72,73]) 3) (v64 (wordsB f (nWord p))))∧(tt∧(u8s zs).all (okV (fun l => l.blt 68) 3) = true∧tt∧tt∧tt∧True∧u8s zs = List.map (rnV (lift 68 78 [70,71,72,73]) 3) (u8s zs))∧True)∧(tt∧nWord p ≤ nWord p)∧(tt∧p * 256 ≤ p * 256)∧True else False else False else False)∧(!bytesEq (List.take k (List.drop sa zs)) (List.map toU8 (List.take (IntKind.i64.wrap ((↑(p * 256):Int) - IntKind.i64.wrap (↑sa))).toNat (List.drop 0 (repl (IntKind.i64.wrap ((↑(p * 256):Int) - IntKind.i64.wrap (↑sa))).toNat [Value.int .u8 0]))))) = false)∧(rr (Value.pointer (some ⟨67,0,none⟩))∧rr (Value.bool false)∧rr (Value.pointer (some ⟨73,0,none⟩))∧rr (Value.slice (some ⟨76,0,none⟩) 1 9223372036854775884)∧rr (Value.int .i64 0)∧rr (Value.pointer (some ⟨77,0,none⟩))∧rr (Value.int .i64 0)∧Value.int .i64 (IntKind.i64.wrap ((IntKind.i64.wrap (↑sa)).tdiv (256:Int))) = Value.int .i64 (↑k0)∧True)∧((tt∧tt∧True∧rr [Value.pointer (some ⟨72,0,none⟩),.slice (some ⟨70,0,none⟩) (p * 256) 9223372036854775878])∧(tt∧tt∧True∧rr [Value.int .i64 (↑(nGran p)),.slice (some ⟨71,0,none⟩) (nWord p) 9223372036854775879])∧(tt∧tt∧True∧rr (v64 (wordsB f (nWord p))))∧(tt∧tt∧True∧rr (u8s zs))∧(tt∧tt∧True∧rr [Value.int .i64 (↑p),.int .i64 (↑s),.int .i64 (↑t),.slice (some ⟨64,0,none⟩) cs.length 9223372036854775872,.string ⟨⟨d⟩⟩,.slice (some ⟨65,0,none⟩) rs.length 9223372036854775873,.slice (some ⟨66,0,none⟩) so.length 9223372036854775874])∧True)∧(nWord p ≤ nWord p∧p * 256 ≤ p * 256∧True)∧True):=by kernel_rfl
theorem lcf_2 (p s t : Nat) (cs : List Nat) (d : List UInt8) (rs : List Rl) (so : List Nat) (c da ds sa ss ha hs : Nat) (zs : List UInt8) (f : Nat → Bool) (k0 k : Nat) (rl rh : Int → Int → Int → Int → Nat) (mt : Int → Int → Int → Int → Int → Int → Bool) (em : ∀ (q : Nat → Bool),(∀ (l : Nat),l < 67 → q l = true) → okV q 3 (Value.slice (some ⟨65,0,none⟩) rs.length (big + 65)) = true) (h : LcOk zs f p (nGran p) (nWord p) k0) : obs (evF Try.prog (baseF 3 (selSteps (lcL (genJ p s t d (some ⟨65,0,none⟩) cs.length rs.length so.length (big+65)) (lqH cs rs so) (btH rs so) 2 p zs f so c da ds sa ss ha hs s t k)) (baseC 3 (selRg rl rh mt))) (lpEsc [lcEnt2 p s t cs.length so.length d em zs f (nGran p) (nWord p) k0 h]) 100 20 7 [genJ p s t d (some ⟨65,0,none⟩) cs.length rs.length so.length (big+65)] ⟨67,lqH cs rs so,[],0,[(26,false),(31,false)],0,True⟩) = some (Value.bool true,(((((bif (List.take (IntKind.i64.wrap ((↑(p * 256):Int) - IntKind.i64.wrap (↑sa))).toNat (List.drop 0 (repl (IntKind.i64.wrap ((↑(p * 256):Int) - IntKind.i64.wrap (↑sa))).toNat [Value.int .u8 0]))).all isU8 then bif hasN (0+(IntKind.i64.wrap ((↑(p * 256):Int) - IntKind.i64.wrap (↑sa))).toNat) (repl (IntKind.i64.wrap ((↑(p * 256):Int) - IntKind.i64.wrap (↑sa))).toNat [Value.int .u8 0]) then bif decide ((0:Int) ≤ IntKind.i64.wrap ((↑(p * 256):Int) - IntKind.i64.wrap (↑sa))) && decide (IntKind.i64.wrap ((↑(p * 256):Int) - IntKind.i64.wrap (↑sa)) ≤ IntKind.i64.wrap ((↑(p * 256):Int) - IntKind.i64.wrap (↑sa))) && decide ((1:Int) * IntKind.i64.wrap ((↑(p * 256):Int) - IntKind.i64.wrap (↑sa)) ≤ (140737488355328:Int)) && decide (IntKind.i64.wrap ((↑(p * 256):Int) - IntKind.i64.wrap (↑sa)) < (9223372036854775808:Int)) then (((True∧True∧True∧True∧True)∧True∧(rr (Value.agg ⟨[.int .i64 (↑p),.int .i64 (↑s),.int .i64 (↑t),.slice (some ⟨64,0,none⟩) cs.length 9223372036854775872,.string ⟨⟨d⟩⟩,.slice (some ⟨65,0,none⟩) rs.length 9223372036854775873,.slice (some ⟨66,0,none⟩) so.length 9223372036854775874]⟩)∧True)∧((tt∧(u32s cs).all (okV (fun l => l.blt 67) 3) = true∧tt∧tt∧tt∧True∧u32s cs = List.map (rnV (lift 67 68 [64,65,66]) 3) (u32s cs))∧(tt∧(rels rs).all (okV (fun l => l.blt 67) 3) = true∧tt∧tt∧tt∧True∧rels rs = List.map (rnV (lift 67 68 [64,65,66]) 3) (rels rs))∧(tt∧(u32s so).all (okV (fun l => l.blt 67) 3) = true∧tt∧tt∧tt∧True∧u32s so = List.map (rnV (lift 67 68 [64,65,66]) 3) (u32s so))∧True)∧True)∧True∧(rr (Value.agg ⟨[.int .i64 (↑p),.int .i64 (↑s),.int .i64 (↑t),.slice (some ⟨64,0,none⟩) cs.length 9223372036854775872,.string ⟨⟨d⟩⟩,.slice (some ⟨65,0,none⟩) rs.length 9223372036854775873,.slice (some ⟨66,0,none⟩) so.length 9223372036854775874]⟩)∧True)∧((tt∧(rels rs).all (okV (fun l => l.blt 67) 3) = true∧tt∧tt∧tt∧True∧rels rs = List.map (rnV (lift 67 79 [64,65,66]) 3) (rels rs))∧(tt∧(u32s so).all (okV (fun l => l.blt 67) 3) = true∧tt∧tt∧tt∧True∧u32s so = List.map (rnV (lift 67 79 [64,65,66]) 3) (u32s so))∧True)∧True)∧True∧(rr (Value.pointer (some ⟨73,0,none⟩))∧rr (Value.int .u32 (↑sa))∧Value.int .i64 (IntKind.i64.wrap ((↑(p * 256):Int) - IntKind.i64.wrap (↑sa))) = Value.int .i64 (↑k)∧True)∧((tt∧tt∧tt∧tt∧tt∧True∧rr [Value.pointer (some ⟨72,0,none⟩),.slice (some ⟨70,0,none⟩) (p * 256) 9223372036854775878])∧(tt∧tt∧tt∧tt∧tt∧True∧rr [Value.int .i64 (↑(nGran p)),.slice (some ⟨71,0,none⟩) (nWord p) 9223372036854775879])∧(tt∧(v64 (wordsB f (nWord p))).all (okV (fun l => l.blt 68) 3) = true∧tt∧tt∧tt∧True∧v64 (wordsB f (nWord p)) = List.map (rnV (lift 68 80 [70,71,72,73]) 3) (v64 (wordsB f (nWord p))))∧(tt∧(u8s zs).all (okV (fun l => l.blt 68) 3) = true∧tt∧tt∧tt∧True∧u8s zs = List.map (rnV (lift 68 80 [70,71,72,73]) 3) (u8s zs))∧True)∧(tt∧nWord p ≤ nWord p)∧(tt∧p * 256 ≤ p * 256)∧True else False else False else False)∧(!bytesEq (List.take k (List.drop sa zs)) (List.map toU8 (List.take (IntKind.i64.wrap ((↑(p * 256):Int) - IntKind.i64.wrap (↑sa))).toNat (List.drop 0 (repl (IntKind.i64.wrap ((↑(p * 256):Int) - IntKind.i64.wrap (↑sa))).toNat [Value.int .u8 0]))))) = false)∧(rr (Value.pointer (some ⟨67,0,none⟩))∧rr (Value.bool false)∧rr (Value.pointer (some ⟨73,0,none⟩))∧rr (Value.slice (some ⟨78,0,none⟩) 2 9223372036854775886)∧rr (Value.int .i64 0)∧rr (Value.pointer (some ⟨79,0,none⟩))∧rr (Value.int .i64 0)∧Value.int .i64 (IntKind.i64.wrap ((IntKind.i64.wrap (↑sa)).tdiv (256:Int))) = Value.int .i64 (↑k0)∧True)∧((tt∧tt∧True∧rr [Value.pointer (some ⟨72,0,none⟩),.slice (some ⟨70,0,none⟩) (p * 256) 9223372036854775878])∧(tt∧tt∧True∧rr [Value.int .i64 (↑(nGran p)),.slice (some ⟨71,0,none⟩) (nWord p) 9223372036854775879])∧(tt∧tt∧True∧rr (v64 (wordsB f (nWord p))))∧(tt∧tt∧True∧rr (u8s zs))∧(tt∧tt∧True∧rr [Value.int .i64 (↑p),.int .i64 (↑s),.int .i64 (↑t),.slice (some ⟨64,0,none⟩) cs.length 9223372036854775872,.string ⟨⟨d⟩⟩,.slice (some ⟨65,0,none⟩) rs.length 9223372036854775873,.slice (some ⟨66,0,none⟩) so.length 9223372036854775874])∧True)∧(nWord p ≤ nWord p∧p * 256 ≤ p * 256∧True)∧True)∧((0:Int) ≤ (↑(mA (sa+0 * s) s 27):Int)∧(↑(mA (sa+0 * s) s 27):Int) < (4294967296:Int)∧(0:Int) ≤ (↑(mE (sa+0 * s) s 27):Int)∧(↑(mE (sa+0 * s) s 27):Int) < (256:Int)∧(0:Int) ≤ (↑(mB (sa+0 * s) s 27):Int)∧(↑(mB (sa+0 * s) s 27):Int) < (65536:Int)∧(0:Int) ≤ (↑(mT (sa+0 * s) s 27):Int)∧(↑(mT (sa+0 * s) s 27):Int) < (65536:Int)∧(0:Int) ≤ (↑(mP (sa+0 * s) s 27):Int)∧(↑(mP (sa+0 * s) s 27):Int) < (65536:Int)∧(0:Int) ≤ (0:Int)∧(0:Int) < (65536:Int)∧(0:Int) ≤ (0:Int)∧(0:Int) < (4294967296:Int))∧(rr (Value.agg ⟨[.int .u32 (↑(mA (sa+0 * s) s 27):Int),.int .u8 (↑(mE (sa+0 * s) s 27):Int),.int .u16 (↑(mB (sa+0 * s) s 27):Int),.int .u16 (↑(mT (sa+0 * s) s 27):Int),.int .u16 (↑(mP (sa+0 * s) s 27):Int),.int .u16 0,.int .u32 0,.bool (mV (sa+0 * s) s 27)]⟩)∧True)∧True∧True)∧(((0:Int) ≤ (↑(mA (sa+1 * s) s 27):Int)∧(↑(mA (sa+1 * s) s 27):Int) < (4294967296:Int)∧(0:Int) ≤ (↑(mE (sa+1 * s) s 27):Int)∧(↑(mE (sa+1 * s) s 27):Int) < (256:Int)∧(0:Int) ≤ (↑(mB (sa+1 * s) s 27):Int)∧(↑(mB (sa+1 * s) s 27):Int) < (65536:Int)∧(0:Int) ≤ (↑(mT (sa+1 * s) s 27):Int)∧(↑(mT (sa+1 * s) s 27):Int) < (65536:Int)∧(0:Int) ≤ (↑(mP (sa+1 * s) s 27):Int)∧(↑(mP (sa+1 * s) s 27):Int) < (65536:Int)∧(0:Int) ≤ (0:Int)∧(0:Int) < (65536:Int)∧(0:Int) ≤ (0:Int)∧(0:Int) < (4294967296:Int))∧(0:Int) ≤ (↑(rl (↑(mA (sa+0 * s) s 27):Int) (↑(mE (sa+0 * s) s 27):Int) (↑(mB (sa+0 * s) s 27):Int) (↑(mT (sa+0 * s) s 27):Int)):Int)∧(↑(rl (↑(mA (sa+0 * s) s 27):Int) (↑(mE (sa+0 * s) s 27):Int) (↑(mB (sa+0 * s) s 27):Int) (↑(mT (sa+0 * s) s 27):Int)):Int) < (4294967296:Int)∧(0:Int) ≤ IntKind.u32.wrap (IntKind.u64.wrap ((↑(rh (↑(mA (sa+0 * s) s 27):Int) (↑(mE (sa+0 * s) s 27):Int) (↑(mB (sa+0 * s) s 27):Int) (↑(mT (sa+0 * s) s 27):Int)):Int) - IntKind.u64.wrap (↑(rl (↑(mA (sa+0 * s) s 27):Int) (↑(mE (sa+0 * s) s 27):Int) (↑(mB (sa+0 * s) s 27):Int) (↑(mT (sa+0 * s) s 27):Int)):Int)))∧IntKind.u32.wrap (IntKind.u64.wrap ((↑(rh (↑(mA (sa+0 * s) s 27):Int) (↑(mE (sa+0 * s) s 27):Int) (↑(mB (sa+0 * s) s 27):Int) (↑(mT (sa+0 * s) s 27):Int)):Int) - IntKind.u64.wrap (↑(rl (↑(mA (sa+0 * s) s 27):Int) (↑(mE (sa+0 * s) s 27):Int) (↑(mB (sa+0 * s) s 27):Int) (↑(mT (sa+0 * s) s 27):Int)):Int))) < (4294967296:Int))∧(rr (Value.agg ⟨[.int .u32 (↑(mA (sa+1 * s) s 27):Int),.int .u8 (↑(mE (sa+1 * s) s 27):Int),.int .u16 (↑(mB (sa+1 * s) s 27):Int),.int .u16 (↑(mT (sa+1 * s) s 27):Int),.int .u16 (↑(mP (sa+1 * s) s 27):Int),.int .u16 0,.int .u32 0,.bool (mV (sa+1 * s) s 27)]⟩)∧rr (Value.agg ⟨[.int .u32 (↑(rl (↑(mA (sa+0 * s) s 27):Int) (↑(mE (sa+0 * s) s 27):Int) (↑(mB (sa+0 * s) s 27):Int) (↑(mT (sa+0 * s) s 27):Int)):Int),.int .u32 (IntKind.u32.wrap (IntKind.u64.wrap ((↑(rh (↑(mA (sa+0 * s) s 27):Int) (↑(mE (sa+0 * s) s 27):Int) (↑(mB (sa+0 * s) s 27):Int) (↑(mT (sa+0 * s) s 27):Int)):Int) - IntKind.u64.wrap (↑(rl (↑(mA (sa+0 * s) s 27):Int) (↑(mE (sa+0 * s) s 27):Int) (↑(mB (sa+0 * s) s 27):Int) (↑(mT (sa+0 * s) s 27):Int)):Int))))]⟩)∧True)∧True∧True)∧mt (↑(mA (sa+1 * s) s 27):Int) (↑(mE (sa+1 * s) s 27):Int) (↑(mB (sa+1 * s) s 27):Int) (↑(mT (sa+1 * s) s 27):Int) (↑(rl (↑(mA (sa+0 * s) s 27):Int) (↑(mE (sa+0 * s) s 27):Int) (↑(mB (sa+0 * s) s 27):Int) (↑(mT (sa+0 * s) s 27):Int)):Int) (IntKind.u32.wrap (IntKind.u64.wrap ((↑(rh (↑(mA (sa+0 * s) s 27):Int) (↑(mE (sa+0 * s) s 27):Int) (↑(mB (sa+0 * s) s 27):Int) (↑(mT (sa+0 * s) s 27):Int)):Int) - IntKind.u64.wrap (↑(rl (↑(mA (sa+0 * s) s 27):Int) (↑(mE (sa+0 * s) s 27):Int) (↑(mB (sa+0 * s) s 27):Int) (↑(mT (sa+0 * s) s 27):Int)):Int)))) = false):=by kernel_rfl
theorem lcf_3 (p s t : Nat) (cs : List Nat) (d : List UInt8) (rs : List Rl) (so : List Nat) (c da ds sa ss ha hs : Nat) (zs : List UInt8) (f : Nat → Bool) (k0 k : Nat) (rl rh : Int → Int → Int → Int → Nat) (mt : Int → Int → Int → Int → Int → Int → Bool) (em : ∀ (q : Nat → Bool),(∀ (l : Nat),l < 67 → q l = true) → okV q 3 (Value.slice (some ⟨65,0,none⟩) rs.length (big + 65)) = true) (h : LcOk zs f p (nGran p) (nWord p) k0) : obs (evF Try.prog (baseF 3 (selSteps (lcL (genJ p s t d (some ⟨65,0,none⟩) cs.length rs.length so.length (big+65)) (lqH cs rs so) (btH rs so) 3 p zs f so c da ds sa ss ha hs s t k)) (baseC 3 (selRg rl rh mt))) (lpEsc [lcEnt3 p s t cs.length so.length d em zs f (nGran p) (nWord p) k0 h]) 100 20 7 [genJ p s t d (some ⟨65,0,none⟩) cs.length rs.length so.length (big+65)] ⟨67,lqH cs rs so,[],0,[(26,false),(31,false),(35,false),(37,false)],0,True⟩) = some (Value.bool true,(((((((((((bif (List.take (IntKind.i64.wrap ((↑(p * 256):Int) - IntKind.i64.wrap (↑sa))).toNat (List.drop 0 (repl (IntKind.i64.wrap ((↑(p * 256):Int) - IntKind.i64.wrap (↑sa))).toNat [Value.int .u8 0]))).all isU8 then bif hasN (0+(IntKind.i64.wrap ((↑(p * 256):Int) - IntKind.i64.wrap (↑sa))).toNat) (repl (IntKind.i64.wrap ((↑(p * 256):Int) - IntKind.i64.wrap (↑sa))).toNat [Value.int .u8 0]) then bif decide ((0:Int) ≤ IntKind.i64.wrap ((↑(p * 256):Int) - IntKind.i64.wrap (↑sa))) && decide (IntKind.i64.wrap ((↑(p * 256):Int) - IntKind.i64.wrap (↑sa)) ≤ IntKind.i64.wrap ((↑(p * 256):Int) - IntKind.i64.wrap (↑sa))) && decide ((1:Int) * IntKind.i64.wrap ((↑(p * 256):Int) - IntKind.i64.wrap (↑sa)) ≤ (140737488355328:Int)) && decide (IntKind.i64.wrap ((↑(p * 256):Int) - IntKind.i64.wrap (↑sa)) < (9223372036854775808:Int)) then (((True∧True∧True∧True∧True)∧True∧(rr (Value.agg ⟨[.int .i64 (↑p),.int .i64 (↑s),.int .i64 (↑t),.slice (some ⟨64,0,none⟩) cs.length 9223372036854775872,.string ⟨⟨d⟩⟩,.slice (some ⟨65,0,none⟩) rs.length 9223372036854775873,.slice (some ⟨66,0,none⟩) so.length 9223372036854775874]⟩)∧True)∧((tt∧(u32s cs).all (okV (fun l => l.blt 67) 3) = true∧tt∧tt∧tt∧True∧u32s cs = List.map (rnV (lift 67 68 [64,65,66]) 3) (u32s cs))∧(tt∧(rels rs).all (okV (fun l => l.blt 67) 3) = true∧tt∧tt∧tt∧True∧rels rs = List.map (rnV (lift 67 68 [64,65,66]) 3) (rels rs))∧(tt∧(u32s so).all (okV (fun l => l.blt 67) 3) = true∧tt∧tt∧tt∧True∧u32s so = List.map (rnV (lift 67 68 [64,65,66]) 3) (u32s so))∧True)∧True)∧True∧(rr (Value.agg ⟨[.int .i64 (↑p),.int .i64 (↑s),.int .i64 (↑t),.slice (some ⟨64,0,none⟩) cs.length 9223372036854775872,.string ⟨⟨d⟩⟩,.slice (some ⟨65,0,none⟩) rs.length 9223372036854775873,.slice (some ⟨66,0,none⟩) so.length 9223372036854775874]⟩)∧True)∧((tt∧(rels rs).all (okV (fun l => l.blt 67) 3) = true∧tt∧tt∧tt∧True∧rels rs = List.map (rnV (lift 67 81 [64,65,66]) 3) (rels rs))∧(tt∧(u32s so).all (okV (fun l => l.blt 67) 3) = true∧tt∧tt∧tt∧True∧u32s so = List.map (rnV (lift 67 81 [64,65,66]) 3) (u32s so))∧True)∧True)∧True∧(rr (Value.pointer (some ⟨73,0,none⟩))∧rr (Value.int .u32 (↑sa))∧Value.int .i64 (IntKind.i64.wrap ((↑(p * 256):Int) - IntKind.i64.wrap (↑sa))) = Value.int .i64 (↑k)∧True)∧((tt∧tt∧tt∧tt∧tt∧True∧rr [Value.pointer (some ⟨72,0,none⟩),.slice (some ⟨70,0,none⟩) (p * 256) 9223372036854775878])∧(tt∧tt∧tt∧tt∧tt∧True∧rr [Value.int .i64 (↑(nGran p)),.slice (some ⟨71,0,none⟩) (nWord p) 9223372036854775879])∧(tt∧(v64 (wordsB f (nWord p))).all (okV (fun l => l.blt 68) 3) = true∧tt∧tt∧tt∧True∧v64 (wordsB f (nWord p)) = List.map (rnV (lift 68 82 [70,71,72,73]) 3) (v64 (wordsB f (nWord p))))∧(tt∧(u8s zs).all (okV (fun l => l.blt 68) 3) = true∧tt∧tt∧tt∧True∧u8s zs = List.map (rnV (lift 68 82 [70,71,72,73]) 3) (u8s zs))∧True)∧(tt∧nWord p ≤ nWord p)∧(tt∧p * 256 ≤ p * 256)∧True else False else False else False)∧(!bytesEq (List.take k (List.drop sa zs)) (List.map toU8 (List.take (IntKind.i64.wrap ((↑(p * 256):Int) - IntKind.i64.wrap (↑sa))).toNat (List.drop 0 (repl (IntKind.i64.wrap ((↑(p * 256):Int) - IntKind.i64.wrap (↑sa))).toNat [Value.int .u8 0]))))) = false)∧(rr (Value.pointer (some ⟨67,0,none⟩))∧rr (Value.bool false)∧rr (Value.pointer (some ⟨73,0,none⟩))∧rr (Value.slice (some ⟨80,0,none⟩) 3 9223372036854775888)∧rr (Value.int .i64 0)∧rr (Value.pointer (some ⟨81,0,none⟩))∧rr (Value.int .i64 0)∧Value.int .i64 (IntKind.i64.wrap ((IntKind.i64.wrap (↑sa)).tdiv (256:Int))) = Value.int .i64 (↑k0)∧True)∧((tt∧tt∧True∧rr [Value.pointer (some ⟨72,0,none⟩),.slice (some ⟨70,0,none⟩) (p * 256) 9223372036854775878])∧(tt∧tt∧True∧rr [Value.int .i64 (↑(nGran p)),.slice (some ⟨71,0,none⟩) (nWord p) 9223372036854775879])∧(tt∧tt∧True∧rr (v64 (wordsB f (nWord p))))∧(tt∧tt∧True∧rr (u8s zs))∧(tt∧tt∧True∧rr [Value.int .i64 (↑p),.int .i64 (↑s),.int .i64 (↑t),.slice (some ⟨64,0,none⟩) cs.length 9223372036854775872,.string ⟨⟨d⟩⟩,.slice (some ⟨65,0,none⟩) rs.length 9223372036854775873,.slice (some ⟨66,0,none⟩) so.length 9223372036854775874])∧True)∧(nWord p ≤ nWord p∧p * 256 ≤ p * 256∧True)∧True)∧((0:Int) ≤ (↑(mA (sa+0 * s) s 27):Int)∧(↑(mA (sa+0 * s) s 27):Int) < (4294967296:Int)∧(0:Int) ≤ (↑(mE (sa+0 * s) s 27):Int)∧(↑(mE (sa+0 * s) s 27):Int) < (256:Int)∧(0:Int) ≤ (↑(mB (sa+0 * s) s 27):Int)∧(↑(mB (sa+0 * s) s 27):Int) < (65536:Int)∧(0:Int) ≤ (↑(mT (sa+0 * s) s 27):Int)∧(↑(mT (sa+0 * s) s 27):Int) < (65536:Int)∧(0:Int) ≤ (↑(mP (sa+0 * s) s 27):Int)∧(↑(mP (sa+0 * s) s 27):Int) < (65536:Int)∧(0:Int) ≤ (0:Int)∧(0:Int) < (65536:Int)∧(0:Int) ≤ (0:Int)∧(0:Int) < (4294967296:Int))∧(rr (Value.agg ⟨[.int .u32 (↑(mA (sa+0 * s) s 27):Int),.int .u8 (↑(mE (sa+0 * s) s 27):Int),.int .u16 (↑(mB (sa+0 * s) s 27):Int),.int .u16 (↑(mT (sa+0 * s) s 27):Int),.int .u16 (↑(mP (sa+0 * s) s 27):Int),.int .u16 0,.int .u32 0,.bool (mV (sa+0 * s) s 27)]⟩)∧True)∧True∧True)∧(((0:Int) ≤ (↑(mA (sa+1 * s) s 27):Int)∧(↑(mA (sa+1 * s) s 27):Int) < (4294967296:Int)∧(0:Int) ≤ (↑(mE (sa+1 * s) s 27):Int)∧(↑(mE (sa+1 * s) s 27):Int) < (256:Int)∧(0:Int) ≤ (↑(mB (sa+1 * s) s 27):Int)∧(↑(mB (sa+1 * s) s 27):Int) < (65536:Int)∧(0:Int) ≤ (↑(mT (sa+1 * s) s 27):Int)∧(↑(mT (sa+1 * s) s 27):Int) < (65536:Int)∧(0:Int) ≤ (↑(mP (sa+1 * s) s 27):Int)∧(↑(mP (sa+1 * s) s 27):Int) < (65536:Int)∧(0:Int) ≤ (0:Int)∧(0:Int) < (65536:Int)∧(0:Int) ≤ (0:Int)∧(0:Int) < (4294967296:Int))∧(0:Int) ≤ (↑(rl (↑(mA (sa+0 * s) s 27):Int) (↑(mE (sa+0 * s) s 27):Int) (↑(mB (sa+0 * s) s 27):Int) (↑(mT (sa+0 * s) s 27):Int)):Int)∧(↑(rl (↑(mA (sa+0 * s) s 27):Int) (↑(mE (sa+0 * s) s 27):Int) (↑(mB (sa+0 * s) s 27):Int) (↑(mT (sa+0 * s) s 27):Int)):Int) < (4294967296:Int)∧(0:Int) ≤ IntKind.u32.wrap (IntKind.u64.wrap ((↑(rh (↑(mA (sa+0 * s) s 27):Int) (↑(mE (sa+0 * s) s 27):Int) (↑(mB (sa+0 * s) s 27):Int) (↑(mT (sa+0 * s) s 27):Int)):Int) - IntKind.u64.wrap (↑(rl (↑(mA (sa+0 * s) s 27):Int) (↑(mE (sa+0 * s) s 27):Int) (↑(mB (sa+0 * s) s 27):Int) (↑(mT (sa+0 * s) s 27):Int)):Int)))∧IntKind.u32.wrap (IntKind.u64.wrap ((↑(rh (↑(mA (sa+0 * s) s 27):Int) (↑(mE (sa+0 * s) s 27):Int) (↑(mB (sa+0 * s) s 27):Int) (↑(mT (sa+0 * s) s 27):Int)):Int) - IntKind.u64.wrap (↑(rl (↑(mA (sa+0 * s) s 27):Int) (↑(mE (sa+0 * s) s 27):Int) (↑(mB (sa+0 * s) s 27):Int) (↑(mT (sa+0 * s) s 27):Int)):Int))) < (4294967296:Int))∧(rr (Value.agg ⟨[.int .u32 (↑(mA (sa+1 * s) s 27):Int),.int .u8 (↑(mE (sa+1 * s) s 27):Int),.int .u16 (↑(mB (sa+1 * s) s 27):Int),.int .u16 (↑(mT (sa+1 * s) s 27):Int),.int .u16 (↑(mP (sa+1 * s) s 27):Int),.int .u16 0,.int .u32 0,.bool (mV (sa+1 * s) s 27)]⟩)∧rr (Value.agg ⟨[.int .u32 (↑(rl (↑(mA (sa+0 * s) s 27):Int) (↑(mE (sa+0 * s) s 27):Int) (↑(mB (sa+0 * s) s 27):Int) (↑(mT (sa+0 * s) s 27):Int)):Int),.int .u32 (IntKind.u32.wrap (IntKind.u64.wrap ((↑(rh (↑(mA (sa+0 * s) s 27):Int) (↑(mE (sa+0 * s) s 27):Int) (↑(mB (sa+0 * s) s 27):Int) (↑(mT (sa+0 * s) s 27):Int)):Int) - IntKind.u64.wrap (↑(rl (↑(mA (sa+0 * s) s 27):Int) (↑(mE (sa+0 * s) s 27):Int) (↑(mB (sa+0 * s) s 27):Int) (↑(mT (sa+0 * s) s 27):Int)):Int))))]⟩)∧True)∧True∧True)∧mt (↑(mA (sa+1 * s) s 27):Int) (↑(mE (sa+1 * s) s 27):Int) (↑(mB (sa+1 * s) s 27):Int) (↑(mT (sa+1 * s) s 27):Int) (↑(rl (↑(mA (sa+0 * s) s 27):Int) (↑(mE (sa+0 * s) s 27):Int) (↑(mB (sa+0 * s) s 27):Int) (↑(mT (sa+0 * s) s 27):Int)):Int) (IntKind.u32.wrap (IntKind.u64.wrap ((↑(rh (↑(mA (sa+0 * s) s 27):Int) (↑(mE (sa+0 * s) s 27):Int) (↑(mB (sa+0 * s) s 27):Int) (↑(mT (sa+0 * s) s 27):Int)):Int) - IntKind.u64.wrap (↑(rl (↑(mA (sa+0 * s) s 27):Int) (↑(mE (sa+0 * s) s 27):Int) (↑(mB (sa+0 * s) s 27):Int) (↑(mT (sa+0 * s) s 27):Int)):Int)))) = false)∧((0:Int) ≤ (↑(mA (sa+0 * s) s 27):Int)∧(↑(mA (sa+0 * s) s 27):Int) < (4294967296:Int)∧(0:Int) ≤ (↑(mE (sa+0 * s) s 27):Int)∧(↑(mE (sa+0 * s) s 27):Int) < (256:Int)∧(0:Int) ≤ (↑(mB (sa+0 * s) s 27):Int)∧(↑(mB (sa+0 * s) s 27):Int) < (65536:Int)∧(0:Int) ≤ (↑(mT (sa+0 * s) s 27):Int)∧(↑(mT (sa+0 * s) s 27):Int) < (65536:Int)∧(0:Int) ≤ (↑(mP (sa+0 * s) s 27):Int)∧(↑(mP (sa+0 * s) s 27):Int) < (65536:Int)∧(0:Int) ≤ (0:Int)∧(0:Int) < (65536:Int)∧(0:Int) ≤ (0:Int)∧(0:Int) < (4294967296:Int))∧(rr (Value.agg ⟨[.int .u32 (↑(mA (sa+0 * s) s 27):Int),.int .u8 (↑(mE (sa+0 * s) s 27):Int),.int .u16 (↑(mB (sa+0 * s) s 27):Int),.int .u16 (↑(mT (sa+0 * s) s 27):Int),.int .u16 (↑(mP (sa+0 * s) s 27):Int),.int .u16 0,.int .u32 0,.bool (mV (sa+0 * s) s 27)]⟩)∧True)∧True∧True)∧(((0:Int) ≤ (↑(mA (sa+2 * s) s 27):Int)∧(↑(mA (sa+2 * s) s 27):Int) < (4294967296:Int)∧(0:Int) ≤ (↑(mE (sa+2 * s) s 27):Int)∧(↑(mE (sa+2 * s) s 27):Int) < (256:Int)∧(0:Int) ≤ (↑(mB (sa+2 * s) s 27):Int)∧(↑(mB (sa+2 * s) s 27):Int) < (65536:Int)∧(0:Int) ≤ (↑(mT (sa+2 * s) s 27):Int)∧(↑(mT (sa+2 * s) s 27):Int) < (65536:Int)∧(0:Int) ≤ (↑(mP (sa+2 * s) s 27):Int)∧(↑(mP (sa+2 * s) s 27):Int) < (65536:Int)∧(0:Int) ≤ (0:Int)∧(0:Int) < (65536:Int)∧(0:Int) ≤ (0:Int)∧(0:Int) < (4294967296:Int))∧(0:Int) ≤ (↑(rl (↑(mA (sa+0 * s) s 27):Int) (↑(mE (sa+0 * s) s 27):Int) (↑(mB (sa+0 * s) s 27):Int) (↑(mT (sa+0 * s) s 27):Int)):Int)∧(↑(rl (↑(mA (sa+0 * s) s 27):Int) (↑(mE (sa+0 * s) s 27):Int) (↑(mB (sa+0 * s) s 27):Int) (↑(mT (sa+0 * s) s 27):Int)):Int) < (4294967296:Int)∧(0:Int) ≤ IntKind.u32.wrap (IntKind.u64.wrap ((↑(rh (↑(mA (sa+0 * s) s 27):Int) (↑(mE (sa+0 * s) s 27):Int) (↑(mB (sa+0 * s) s 27):Int) (↑(mT (sa+0 * s) s 27):Int)):Int) - IntKind.u64.wrap (↑(rl (↑(mA (sa+0 * s) s 27):Int) (↑(mE (sa+0 * s) s 27):Int) (↑(mB (sa+0 * s) s 27):Int) (↑(mT (sa+0 * s) s 27):Int)):Int)))∧IntKind.u32.wrap (IntKind.u64.wrap ((↑(rh (↑(mA (sa+0 * s) s 27):Int) (↑(mE (sa+0 * s) s 27):Int) (↑(mB (sa+0 * s) s 27):Int) (↑(mT (sa+0 * s) s 27):Int)):Int) - IntKind.u64.wrap (↑(rl (↑(mA (sa+0 * s) s 27):Int) (↑(mE (sa+0 * s) s 27):Int) (↑(mB (sa+0 * s) s 27):Int) (↑(mT (sa+0 * s) s 27):Int)):Int))) < (4294967296:Int))∧(rr (Value.agg ⟨[.int .u32 (↑(mA (sa+2 * s) s 27):Int),.int .u8 (↑(mE (sa+2 * s) s 27):Int),.int .u16 (↑(mB (sa+2 * s) s 27):Int),.int .u16 (↑(mT (sa+2 * s) s 27):Int),.int .u16 (↑(mP (sa+2 * s) s 27):Int),.int .u16 0,.int .u32 0,.bool (mV (sa+2 * s) s 27)]⟩)∧rr (Value.agg ⟨[.int .u32 (↑(rl (↑(mA (sa+0 * s) s 27):Int) (↑(mE (sa+0 * s) s 27):Int) (↑(mB (sa+0 * s) s 27):Int) (↑(mT (sa+0 * s) s 27):Int)):Int),.int .u32 (IntKind.u32.wrap (IntKind.u64.wrap ((↑(rh (↑(mA (sa+0 * s) s 27):Int) (↑(mE (sa+0 * s) s 27):Int) (↑(mB (sa+0 * s) s 27):Int) (↑(mT (sa+0 * s) s 27):Int)):Int) - IntKind.u64.wrap (↑(rl (↑(mA (sa+0 * s) s 27):Int) (↑(mE (sa+0 * s) s 27):Int) (↑(mB (sa+0 * s) s 27):Int) (↑(mT (sa+0 * s) s 27):Int)):Int))))]⟩)∧True)∧True∧True)∧mt (↑(mA (sa+2 * s) s 27):Int) (↑(mE (sa+2 * s) s 27):Int) (↑(mB (sa+2 * s) s 27):Int) (↑(mT (sa+2 * s) s 27):Int) (↑(rl (↑(mA (sa+0 * s) s 27):Int) (↑(mE (sa+0 * s) s 27):Int) (↑(mB (sa+0 * s) s 27):Int) (↑(mT (sa+0 * s) s 27):Int)):Int) (IntKind.u32.wrap (IntKind.u64.wrap ((↑(rh (↑(mA (sa+0 * s) s 27):Int) (↑(mE (sa+0 * s) s 27):Int) (↑(mB (sa+0 * s) s 27):Int) (↑(mT (sa+0 * s) s 27):Int)):Int) - IntKind.u64.wrap (↑(rl (↑(mA (sa+0 * s) s 27):Int) (↑(mE (sa+0 * s) s 27):Int) (↑(mB (sa+0 * s) s 27):Int) (↑(mT (sa+0 * s) s 27):Int)):Int)))) = false)∧((0:Int) ≤ (↑(mA (sa+1 * s) s 27):Int)∧(↑(mA (sa+1 * s) s 27):Int) < (4294967296:Int)∧(0:Int) ≤ (↑(mE (sa+1 * s) s 27):Int)∧(↑(mE (sa+1 * s) s 27):Int) < (256:Int)∧(0:Int) ≤ (↑(mB (sa+1 * s) s 27):Int)∧(↑(mB (sa+1 * s) s 27):Int) < (65536:Int)∧(0:Int) ≤ (↑(mT (sa+1 * s) s 27):Int)∧(↑(mT (sa+1 * s) s 27):Int) < (65536:Int)∧(0:Int) ≤ (↑(mP (sa+1 * s) s 27):Int)∧(↑(mP (sa+1 * s) s 27):Int) < (65536:Int)∧(0:Int) ≤ (0:Int)∧(0:Int) < (65536:Int)∧(0:Int) ≤ (0:Int)∧(0:Int) < (4294967296:Int))∧(rr (Value.agg ⟨[.int .u32 (↑(mA (sa+1 * s) s 27):Int),.int .u8 (↑(mE (sa+1 * s) s 27):Int),.int .u16 (↑(mB (sa+1 * s) s 27):Int),.int .u16 (↑(mT (sa+1 * s) s 27):Int),.int .u16 (↑(mP (sa+1 * s) s 27):Int),.int .u16 0,.int .u32 0,.bool (mV (sa+1 * s) s 27)]⟩)∧True)∧True∧True)∧(((0:Int) ≤ (↑(mA (sa+2 * s) s 27):Int)∧(↑(mA (sa+2 * s) s 27):Int) < (4294967296:Int)∧(0:Int) ≤ (↑(mE (sa+2 * s) s 27):Int)∧(↑(mE (sa+2 * s) s 27):Int) < (256:Int)∧(0:Int) ≤ (↑(mB (sa+2 * s) s 27):Int)∧(↑(mB (sa+2 * s) s 27):Int) < (65536:Int)∧(0:Int) ≤ (↑(mT (sa+2 * s) s 27):Int)∧(↑(mT (sa+2 * s) s 27):Int) < (65536:Int)∧(0:Int) ≤ (↑(mP (sa+2 * s) s 27):Int)∧(↑(mP (sa+2 * s) s 27):Int) < (65536:Int)∧(0:Int) ≤ (0:Int)∧(0:Int) < (65536:Int)∧(0:Int) ≤ (0:Int)∧(0:Int) < (4294967296:Int))∧(0:Int) ≤ (↑(rl (↑(mA (sa+1 * s) s 27):Int) (↑(mE (sa+1 * s) s 27):Int) (↑(mB (sa+1 * s) s 27):Int) (↑(mT (sa+1 * s) s 27):Int)):Int)∧(↑(rl (↑(mA (sa+1 * s) s 27):Int) (↑(mE (sa+1 * s) s 27):Int) (↑(mB (sa+1 * s) s 27):Int) (↑(mT (sa+1 * s) s 27):Int)):Int) < (4294967296:Int)∧(0:Int) ≤ IntKind.u32.wrap (IntKind.u64.wrap ((↑(rh (↑(mA (sa+1 * s) s 27):Int) (↑(mE (sa+1 * s) s 27):Int) (↑(mB (sa+1 * s) s 27):Int) (↑(mT (sa+1 * s) s 27):Int)):Int) - IntKind.u64.wrap (↑(rl (↑(mA (sa+1 * s) s 27):Int) (↑(mE (sa+1 * s) s 27):Int) (↑(mB (sa+1 * s) s 27):Int) (↑(mT (sa+1 * s) s 27):Int)):Int)))∧IntKind.u32.wrap (IntKind.u64.wrap ((↑(rh (↑(mA (sa+1 * s) s 27):Int) (↑(mE (sa+1 * s) s 27):Int) (↑(mB (sa+1 * s) s 27):Int) (↑(mT (sa+1 * s) s 27):Int)):Int) - IntKind.u64.wrap (↑(rl (↑(mA (sa+1 * s) s 27):Int) (↑(mE (sa+1 * s) s 27):Int) (↑(mB (sa+1 * s) s 27):Int) (↑(mT (sa+1 * s) s 27):Int)):Int))) < (4294967296:Int))∧(rr (Value.agg ⟨[.int .u32 (↑(mA (sa+2 * s) s 27):Int),.int .u8 (↑(mE (sa+2 * s) s 27):Int),.int .u16 (↑(mB (sa+2 * s) s 27):Int),.int .u16 (↑(mT (sa+2 * s) s 27):Int),.int .u16 (↑(mP (sa+2 * s) s 27):Int),.int .u16 0,.int .u32 0,.bool (mV (sa+2 * s) s 27)]⟩)∧rr (Value.agg ⟨[.int .u32 (↑(rl (↑(mA (sa+1 * s) s 27):Int) (↑(mE (sa+1 * s) s 27):Int) (↑(mB (sa+1 * s) s 27):Int) (↑(mT (sa+1 * s) s 27):Int)):Int),.int .u32 (IntKind.u32.wrap (IntKind.u64.wrap ((↑(rh (↑(mA (sa+1 * s) s 27):Int) (↑(mE (sa+1 * s) s 27):Int) (↑(mB (sa+1 * s) s 27):Int) (↑(mT (sa+1 * s) s 27):Int)):Int) - IntKind.u64.wrap (↑(rl (↑(mA (sa+1 * s) s 27):Int) (↑(mE (sa+1 * s) s 27):Int) (↑(mB (sa+1 * s) s 27):Int) (↑(mT (sa+1 * s) s 27):Int)):Int))))]⟩)∧True)∧True∧True)∧mt (↑(mA (sa+2 * s) s 27):Int) (↑(mE (sa+2 * s) s 27):Int) (↑(mB (sa+2 * s) s 27):Int) (↑(mT (sa+2 * s) s 27):Int) (↑(rl (↑(mA (sa+1 * s) s 27):Int) (↑(mE (sa+1 * s) s 27):Int) (↑(mB (sa+1 * s) s 27):Int) (↑(mT (sa+1 * s) s 27):Int)):Int) (IntKind.u32.wrap (IntKind.u64.wrap ((↑(rh (↑(mA (sa+1 * s) s 27):Int) (↑(mE (sa+1 * s) s 27):Int) (↑(mB (sa+1 * s) s 27):Int) (↑(mT (sa+1 * s) s 27):Int)):Int) - IntKind.u64.wrap (↑(rl (↑(mA (sa+1 * s) s 27):Int) (↑(mE (sa+1 * s) s 27):Int) (↑(mB (sa+1 * s) s 27):Int) (↑(mT (sa+1 * s) s 27):Int)):Int)))) = false):=by kernel_rfl
theorem lcf_4 (p s t : Nat) (cs : List Nat) (d : List UInt8) (rs : List Rl) (so : List Nat) (c da ds sa ss ha hs : Nat) (zs : List UInt8) (f : Nat → Bool) (k0 k : Nat) (rl rh : Int → Int → Int → Int → Nat) (mt : Int → Int → Int → Int → Int → Int → Bool) (em : ∀ (q : Nat → Bool),(∀ (l : Nat),l < 67 → q l = true) → okV q 3 (Value.slice (some ⟨65,0,none⟩) rs.length (big + 65)) = true) (h : LcOk zs f p (nGran p) (nWord p) k0) : obs (evF Try.prog (baseF 3 (selSteps (lcL (genJ p s t d (some ⟨65,0,none⟩) cs.length rs.length so.length (big+65)) (lqH cs rs so) (btH rs so) 4 p zs f so c da ds sa ss ha hs s t k)) (baseC 3 (selRg rl rh mt))) (lpEsc [lcEnt4 p s t cs.length so.length d em zs f (nGran p) (nWord p) k0 h]) 100 20 7 [genJ p s t d (some ⟨65,0,none⟩) cs.length rs.length so.length (big+65)] ⟨67,lqH cs rs so,[],0,[(26,false),(31,false),(35,false),(37,false),(41,false),(43,false),(45,false)],0,True⟩) = some (Value.bool true,((((((((((((((((((((bif (List.take (IntKind.i64.wrap ((↑(p * 256):Int) - IntKind.i64.wrap (↑sa))).toNat (List.drop 0 (repl (IntKind.i64.wrap ((↑(p * 256):Int) - IntKind.i64.wrap (↑sa))).toNat [Value.int .u8 0]))).all isU8 then bif hasN (0+(IntKind.i64.wrap ((↑(p * 256):Int) - IntKind.i64.wrap (↑sa))).toNat) (repl (IntKind.i64.wrap ((↑(p * 256):Int) - IntKind.i64.wrap (↑sa))).toNat [Value.int .u8 0]) then bif decide ((0:Int) ≤ IntKind.i64.wrap ((↑(p * 256):Int) - IntKind.i64.wrap (↑sa))) && decide (IntKind.i64.wrap ((↑(p * 256):Int) - IntKind.i64.wrap (↑sa)) ≤ IntKind.i64.wrap ((↑(p * 256):Int) - IntKind.i64.wrap (↑sa))) && decide ((1:Int) * IntKind.i64.wrap ((↑(p * 256):Int) - IntKind.i64.wrap (↑sa)) ≤ (140737488355328:Int)) && decide (IntKind.i64.wrap ((↑(p * 256):Int) - IntKind.i64.wrap (↑sa)) < (9223372036854775808:Int)) then (((True∧True∧True∧True∧True)∧True∧(rr (Value.agg ⟨[.int .i64 (↑p),.int .i64 (↑s),.int .i64 (↑t),.slice (some ⟨64,0,none⟩) cs.length 9223372036854775872,.string ⟨⟨d⟩⟩,.slice (some ⟨65,0,none⟩) rs.length 9223372036854775873,.slice (some ⟨66,0,none⟩) so.length 9223372036854775874]⟩)∧True)∧((tt∧(u32s cs).all (okV (fun l => l.blt 67) 3) = true∧tt∧tt∧tt∧True∧u32s cs = List.map (rnV (lift 67 68 [64,65,66]) 3) (u32s cs))∧(tt∧(rels rs).all (okV (fun l => l.blt 67) 3) = true∧tt∧tt∧tt∧True∧rels rs = List.map (rnV (lift 67 68 [64,65,66]) 3) (rels rs))∧(tt∧(u32s so).all (okV (fun l => l.blt 67) 3) = true∧tt∧tt∧tt∧True∧u32s so = List.map (rnV (lift 67 68 [64,65,66]) 3) (u32s so))∧True)∧True)∧True∧(rr (Value.agg ⟨[.int .i64 (↑p),.int .i64 (↑s),.int .i64 (↑t),.slice (some ⟨64,0,none⟩) cs.length 9223372036854775872,.string ⟨⟨d⟩⟩,.slice (some ⟨65,0,none⟩) rs.length 9223372036854775873,.slice (some ⟨66,0,none⟩) so.length 9223372036854775874]⟩)∧True)∧((tt∧(rels rs).all (okV (fun l => l.blt 67) 3) = true∧tt∧tt∧tt∧True∧rels rs = List.map (rnV (lift 67 83 [64,65,66]) 3) (rels rs))∧(tt∧(u32s so).all (okV (fun l => l.blt 67) 3) = true∧tt∧tt∧tt∧True∧u32s so = List.map (rnV (lift 67 83 [64,65,66]) 3) (u32s so))∧True)∧True)∧True∧(rr (Value.pointer (some ⟨73,0,none⟩))∧rr (Value.int .u32 (↑sa))∧Value.int .i64 (IntKind.i64.wrap ((↑(p * 256):Int) - IntKind.i64.wrap (↑sa))) = Value.int .i64 (↑k)∧True)∧((tt∧tt∧tt∧tt∧tt∧True∧rr [Value.pointer (some ⟨72,0,none⟩),.slice (some ⟨70,0,none⟩) (p * 256) 9223372036854775878])∧(tt∧tt∧tt∧tt∧tt∧True∧rr [Value.int .i64 (↑(nGran p)),.slice (some ⟨71,0,none⟩) (nWord p) 9223372036854775879])∧(tt∧(v64 (wordsB f (nWord p))).all (okV (fun l => l.blt 68) 3) = true∧tt∧tt∧tt∧True∧v64 (wordsB f (nWord p)) = List.map (rnV (lift 68 84 [70,71,72,73]) 3) (v64 (wordsB f (nWord p))))∧(tt∧(u8s zs).all (okV (fun l => l.blt 68) 3) = true∧tt∧tt∧tt∧True∧u8s zs = List.map (rnV (lift 68 84 [70,71,72,73]) 3) (u8s zs))∧True)∧(tt∧nWord p ≤ nWord p)∧(tt∧p * 256 ≤ p * 256)∧True else False else False else False)∧(!bytesEq (List.take k (List.drop sa zs)) (List.map toU8 (List.take (IntKind.i64.wrap ((↑(p * 256):Int) - IntKind.i64.wrap (↑sa))).toNat (List.drop 0 (repl (IntKind.i64.wrap ((↑(p * 256):Int) - IntKind.i64.wrap (↑sa))).toNat [Value.int .u8 0]))))) = false)∧(rr (Value.pointer (some ⟨67,0,none⟩))∧rr (Value.bool false)∧rr (Value.pointer (some ⟨73,0,none⟩))∧rr (Value.slice (some ⟨82,0,none⟩) 4 9223372036854775890)∧rr (Value.int .i64 0)∧rr (Value.pointer (some ⟨83,0,none⟩))∧rr (Value.int .i64 0)∧Value.int .i64 (IntKind.i64.wrap ((IntKind.i64.wrap (↑sa)).tdiv (256:Int))) = Value.int .i64 (↑k0)∧True)∧((tt∧tt∧True∧rr [Value.pointer (some ⟨72,0,none⟩),.slice (some ⟨70,0,none⟩) (p * 256) 9223372036854775878])∧(tt∧tt∧True∧rr [Value.int .i64 (↑(nGran p)),.slice (some ⟨71,0,none⟩) (nWord p) 9223372036854775879])∧(tt∧tt∧True∧rr (v64 (wordsB f (nWord p))))∧(tt∧tt∧True∧rr (u8s zs))∧(tt∧tt∧True∧rr [Value.int .i64 (↑p),.int .i64 (↑s),.int .i64 (↑t),.slice (some ⟨64,0,none⟩) cs.length 9223372036854775872,.string ⟨⟨d⟩⟩,.slice (some ⟨65,0,none⟩) rs.length 9223372036854775873,.slice (some ⟨66,0,none⟩) so.length 9223372036854775874])∧True)∧(nWord p ≤ nWord p∧p * 256 ≤ p * 256∧True)∧True)∧((0:Int) ≤ (↑(mA (sa+0 * s) s 27):Int)∧(↑(mA (sa+0 * s) s 27):Int) < (4294967296:Int)∧(0:Int) ≤ (↑(mE (sa+0 * s) s 27):Int)∧(↑(mE (sa+0 * s) s 27):Int) < (256:Int)∧(0:Int) ≤ (↑(mB (sa+0 * s) s 27):Int)∧(↑(mB (sa+0 * s) s 27):Int) < (65536:Int)∧(0:Int) ≤ (↑(mT (sa+0 * s) s 27):Int)∧(↑(mT (sa+0 * s) s 27):Int) < (65536:Int)∧(0:Int) ≤ (↑(mP (sa+0 * s) s 27):Int)∧(↑(mP (sa+0 * s) s 27):Int) < (65536:Int)∧(0:Int) ≤ (0:Int)∧(0:Int) < (65536:Int)∧(0:Int) ≤ (0:Int)∧(0:Int) < (4294967296:Int))∧(rr (Value.agg ⟨[.int .u32 (↑(mA (sa+0 * s) s 27):Int),.int .u8 (↑(mE (sa+0 * s) s 27):Int),.int .u16 (↑(mB (sa+0 * s) s 27):Int),.int .u16 (↑(mT (sa+0 * s) s 27):Int),.int .u16 (↑(mP (sa+0 * s) s 27):Int),.int .u16 0,.int .u32 0,.bool (mV (sa+0 * s) s 27)]⟩)∧True)∧True∧True)∧(((0:Int) ≤ (↑(mA (sa+1 * s) s 27):Int)∧(↑(mA (sa+1 * s) s 27):Int) < (4294967296:Int)∧(0:Int) ≤ (↑(mE (sa+1 * s) s 27):Int)∧(↑(mE (sa+1 * s) s 27):Int) < (256:Int)∧(0:Int) ≤ (↑(mB (sa+1 * s) s 27):Int)∧(↑(mB (sa+1 * s) s 27):Int) < (65536:Int)∧(0:Int) ≤ (↑(mT (sa+1 * s) s 27):Int)∧(↑(mT (sa+1 * s) s 27):Int) < (65536:Int)∧(0:Int) ≤ (↑(mP (sa+1 * s) s 27):Int)∧(↑(mP (sa+1 * s) s 27):Int) < (65536:Int)∧(0:Int) ≤ (0:Int)∧(0:Int) < (65536:Int)∧(0:Int) ≤ (0:Int)∧(0:Int) < (4294967296:Int))∧(0:Int) ≤ (↑(rl (↑(mA (sa+0 * s) s 27):Int) (↑(mE (sa+0 * s) s 27):Int) (↑(mB (sa+0 * s) s 27):Int) (↑(mT (sa+0 * s) s 27):Int)):Int)∧(↑(rl (↑(mA (sa+0 * s) s 27):Int) (↑(mE (sa+0 * s) s 27):Int) (↑(mB (sa+0 * s) s 27):Int) (↑(mT (sa+0 * s) s 27):Int)):Int) < (4294967296:Int)∧(0:Int) ≤ IntKind.u32.wrap (IntKind.u64.wrap ((↑(rh (↑(mA (sa+0 * s) s 27):Int) (↑(mE (sa+0 * s) s 27):Int) (↑(mB (sa+0 * s) s 27):Int) (↑(mT (sa+0 * s) s 27):Int)):Int) - IntKind.u64.wrap (↑(rl (↑(mA (sa+0 * s) s 27):Int) (↑(mE (sa+0 * s) s 27):Int) (↑(mB (sa+0 * s) s 27):Int) (↑(mT (sa+0 * s) s 27):Int)):Int)))∧IntKind.u32.wrap (IntKind.u64.wrap ((↑(rh (↑(mA (sa+0 * s) s 27):Int) (↑(mE (sa+0 * s) s 27):Int) (↑(mB (sa+0 * s) s 27):Int) (↑(mT (sa+0 * s) s 27):Int)):Int) - IntKind.u64.wrap (↑(rl (↑(mA (sa+0 * s) s 27):Int) (↑(mE (sa+0 * s) s 27):Int) (↑(mB (sa+0 * s) s 27):Int) (↑(mT (sa+0 * s) s 27):Int)):Int))) < (4294967296:Int))∧(rr (Value.agg ⟨[.int .u32 (↑(mA (sa+1 * s) s 27):Int),.int .u8 (↑(mE (sa+1 * s) s 27):Int),.int .u16 (↑(mB (sa+1 * s) s 27):Int),.int .u16 (↑(mT (sa+1 * s) s 27):Int),.int .u16 (↑(mP (sa+1 * s) s 27):Int),.int .u16 0,.int .u32 0,.bool (mV (sa+1 * s) s 27)]⟩)∧rr (Value.agg ⟨[.int .u32 (↑(rl (↑(mA (sa+0 * s) s 27):Int) (↑(mE (sa+0 * s) s 27):Int) (↑(mB (sa+0 * s) s 27):Int) (↑(mT (sa+0 * s) s 27):Int)):Int),.int .u32 (IntKind.u32.wrap (IntKind.u64.wrap ((↑(rh (↑(mA (sa+0 * s) s 27):Int) (↑(mE (sa+0 * s) s 27):Int) (↑(mB (sa+0 * s) s 27):Int) (↑(mT (sa+0 * s) s 27):Int)):Int) - IntKind.u64.wrap (↑(rl (↑(mA (sa+0 * s) s 27):Int) (↑(mE (sa+0 * s) s 27):Int) (↑(mB (sa+0 * s) s 27):Int) (↑(mT (sa+0 * s) s 27):Int)):Int))))]⟩)∧True)∧True∧True)∧mt (↑(mA (sa+1 * s) s 27):Int) (↑(mE (sa+1 * s) s 27):Int) (↑(mB (sa+1 * s) s 27):Int) (↑(mT (sa+1 * s) s 27):Int) (↑(rl (↑(mA (sa+0 * s) s 27):Int) (↑(mE (sa+0 * s) s 27):Int) (↑(mB (sa+0 * s) s 27):Int) (↑(mT (sa+0 * s) s 27):Int)):Int) (IntKind.u32.wrap (IntKind.u64.wrap ((↑(rh (↑(mA (sa+0 * s) s 27):Int) (↑(mE (sa+0 * s) s 27):Int) (↑(mB (sa+0 * s) s 27):Int) (↑(mT (sa+0 * s) s 27):Int)):Int) - IntKind.u64.wrap (↑(rl (↑(mA (sa+0 * s) s 27):Int) (↑(mE (sa+0 * s) s 27):Int) (↑(mB (sa+0 * s) s 27):Int) (↑(mT (sa+0 * s) s 27):Int)):Int)))) = false)∧((0:Int) ≤ (↑(mA (sa+0 * s) s 27):Int)∧(↑(mA (sa+0 * s) s 27):Int) < (4294967296:Int)∧(0:Int) ≤ (↑(mE (sa+0 * s) s 27):Int)∧(↑(mE (sa+0 * s) s 27):Int) < (256:Int)∧(0:Int) ≤ (↑(mB (sa+0 * s) s 27):Int)∧(↑(mB (sa+0 * s) s 27):Int) < (65536:Int)∧(0:Int) ≤ (↑(mT (sa+0 * s) s 27):Int)∧(↑(mT (sa+0 * s) s 27):Int) < (65536:Int)∧(0:Int) ≤ (↑(mP (sa+0 * s) s 27):Int)∧(↑(mP (sa+0 * s) s 27):Int) < (65536:Int)∧(0:Int) ≤ (0:Int)∧(0:Int) < (65536:Int)∧(0:Int) ≤ (0:Int)∧(0:Int) < (4294967296:Int))∧(rr (Value.agg ⟨[.int .u32 (↑(mA (sa+0 * s) s 27):Int),.int .u8 (↑(mE (sa+0 * s) s 27):Int),.int .u16 (↑(mB (sa+0 * s) s 27):Int),.int .u16 (↑(mT (sa+0 * s) s 27):Int),.int .u16 (↑(mP (sa+0 * s) s 27):Int),.int .u16 0,.int .u32 0,.bool (mV (sa+0 * s) s 27)]⟩)∧True)∧True∧True)∧(((0:Int) ≤ (↑(mA (sa+2 * s) s 27):Int)∧(↑(mA (sa+2 * s) s 27):Int) < (4294967296:Int)∧(0:Int) ≤ (↑(mE (sa+2 * s) s 27):Int)∧(↑(mE (sa+2 * s) s 27):Int) < (256:Int)∧(0:Int) ≤ (↑(mB (sa+2 * s) s 27):Int)∧(↑(mB (sa+2 * s) s 27):Int) < (65536:Int)∧(0:Int) ≤ (↑(mT (sa+2 * s) s 27):Int)∧(↑(mT (sa+2 * s) s 27):Int) < (65536:Int)∧(0:Int) ≤ (↑(mP (sa+2 * s) s 27):Int)∧(↑(mP (sa+2 * s) s 27):Int) < (65536:Int)∧(0:Int) ≤ (0:Int)∧(0:Int) < (65536:Int)∧(0:Int) ≤ (0:Int)∧(0:Int) < (4294967296:Int))∧(0:Int) ≤ (↑(rl (↑(mA (sa+0 * s) s 27):Int) (↑(mE (sa+0 * s) s 27):Int) (↑(mB (sa+0 * s) s 27):Int) (↑(mT (sa+0 * s) s 27):Int)):Int)∧(↑(rl (↑(mA (sa+0 * s) s 27):Int) (↑(mE (sa+0 * s) s 27):Int) (↑(mB (sa+0 * s) s 27):Int) (↑(mT (sa+0 * s) s 27):Int)):Int) < (4294967296:Int)∧(0:Int) ≤ IntKind.u32.wrap (IntKind.u64.wrap ((↑(rh (↑(mA (sa+0 * s) s 27):Int) (↑(mE (sa+0 * s) s 27):Int) (↑(mB (sa+0 * s) s 27):Int) (↑(mT (sa+0 * s) s 27):Int)):Int) - IntKind.u64.wrap (↑(rl (↑(mA (sa+0 * s) s 27):Int) (↑(mE (sa+0 * s) s 27):Int) (↑(mB (sa+0 * s) s 27):Int) (↑(mT (sa+0 * s) s 27):Int)):Int)))∧IntKind.u32.wrap (IntKind.u64.wrap ((↑(rh (↑(mA (sa+0 * s) s 27):Int) (↑(mE (sa+0 * s) s 27):Int) (↑(mB (sa+0 * s) s 27):Int) (↑(mT (sa+0 * s) s 27):Int)):Int) - IntKind.u64.wrap (↑(rl (↑(mA (sa+0 * s) s 27):Int) (↑(mE (sa+0 * s) s 27):Int) (↑(mB (sa+0 * s) s 27):Int) (↑(mT (sa+0 * s) s 27):Int)):Int))) < (4294967296:Int))∧(rr (Value.agg ⟨[.int .u32 (↑(mA (sa+2 * s) s 27):Int),.int .u8 (↑(mE (sa+2 * s) s 27):Int),.int .u16 (↑(mB (sa+2 * s) s 27):Int),.int .u16 (↑(mT (sa+2 * s) s 27):Int),.int .u16 (↑(mP (sa+2 * s) s 27):Int),.int .u16 0,.int .u32 0,.bool (mV (sa+2 * s) s 27)]⟩)∧rr (Value.agg ⟨[.int .u32 (↑(rl (↑(mA (sa+0 * s) s 27):Int) (↑(mE (sa+0 * s) s 27):Int) (↑(mB (sa+0 * s) s 27):Int) (↑(mT (sa+0 * s) s 27):Int)):Int),.int .u32 (IntKind.u32.wrap (IntKind.u64.wrap ((↑(rh (↑(mA (sa+0 * s) s 27):Int) (↑(mE (sa+0 * s) s 27):Int) (↑(mB (sa+0 * s) s 27):Int) (↑(mT (sa+0 * s) s 27):Int)):Int) - IntKind.u64.wrap (↑(rl (↑(mA (sa+0 * s) s 27):Int) (↑(mE (sa+0 * s) s 27):Int) (↑(mB (sa+0 * s) s 27):Int) (↑(mT (sa+0 * s) s 27):Int)):Int))))]⟩)∧True)∧True∧True)∧mt (↑(mA (sa+2 * s) s 27):Int) (↑(mE (sa+2 * s) s 27):Int) (↑(mB (sa+2 * s) s 27):Int) (↑(mT (sa+2 * s) s 27):Int) (↑(rl (↑(mA (sa+0 * s) s 27):Int) (↑(mE (sa+0 * s) s 27):Int) (↑(mB (sa+0 * s) s 27):Int) (↑(mT (sa+0 * s) s 27):Int)):Int) (IntKind.u32.wrap (IntKind.u64.wrap ((↑(rh (↑(mA (sa+0 * s) s 27):Int) (↑(mE (sa+0 * s) s 27):Int) (↑(mB (sa+0 * s) s 27):Int) (↑(mT (sa+0 * s) s 27):Int)):Int) - IntKind.u64.wrap (↑(rl (↑(mA (sa+0 * s) s 27):Int) (↑(mE (sa+0 * s) s 27):Int) (↑(mB (sa+0 * s) s 27):Int) (↑(mT (sa+0 * s) s 27):Int)):Int)))) = false)∧((0:Int) ≤ (↑(mA (sa+1 * s) s 27):Int)∧(↑(mA (sa+1 * s) s 27):Int) < (4294967296:Int)∧(0:Int) ≤ (↑(mE (sa+1 * s) s 27):Int)∧(↑(mE (sa+1 * s) s 27):Int) < (256:Int)∧(0:Int) ≤ (↑(mB (sa+1 * s) s 27):Int)∧(↑(mB (sa+1 * s) s 27):Int) < (65536:Int)∧(0:Int) ≤ (↑(mT (sa+1 * s) s 27):Int)∧(↑(mT (sa+1 * s) s 27):Int) < (65536:Int)∧(0:Int) ≤ (↑(mP (sa+1 * s) s 27):Int)∧(↑(mP (sa+1 * s) s 27):Int) < (65536:Int)∧(0:Int) ≤ (0:Int)∧(0:Int) < (65536:Int)∧(0:Int) ≤ (0:Int)∧(0:Int) < (4294967296:Int))∧(rr (Value.agg ⟨[.int .u32 (↑(mA (sa+1 * s) s 27):Int),.int .u8 (↑(mE (sa+1 * s) s 27):Int),.int .u16 (↑(mB (sa+1 * s) s 27):Int),.int .u16 (↑(mT (sa+1 * s) s 27):Int),.int .u16 (↑(mP (sa+1 * s) s 27):Int),.int .u16 0,.int .u32 0,.bool (mV (sa+1 * s) s 27)]⟩)∧True)∧True∧True)∧(((0:Int) ≤ (↑(mA (sa+2 * s) s 27):Int)∧(↑(mA (sa+2 * s) s 27):Int) < (4294967296:Int)∧(0:Int) ≤ (↑(mE (sa+2 * s) s 27):Int)∧(↑(mE (sa+2 * s) s 27):Int) < (256:Int)∧(0:Int) ≤ (↑(mB (sa+2 * s) s 27):Int)∧(↑(mB (sa+2 * s) s 27):Int) < (65536:Int)∧(0:Int) ≤ (↑(mT (sa+2 * s) s 27):Int)∧(↑(mT (sa+2 * s) s 27):Int) < (65536:Int)∧(0:Int) ≤ (↑(mP (sa+2 * s) s 27):Int)∧(↑(mP (sa+2 * s) s 27):Int) < (65536:Int)∧(0:Int) ≤ (0:Int)∧(0:Int) < (65536:Int)∧(0:Int) ≤ (0:Int)∧(0:Int) < (4294967296:Int))∧(0:Int) ≤ (↑(rl (↑(mA (sa+1 * s) s 27):Int) (↑(mE (sa+1 * s) s 27):Int) (↑(mB (sa+1 * s) s 27):Int) (↑(mT (sa+1 * s) s 27):Int)):Int)∧(↑(rl (↑(mA (sa+1 * s) s 27):Int) (↑(mE (sa+1 * s) s 27):Int) (↑(mB (sa+1 * s) s 27):Int) (↑(mT (sa+1 * s) s 27):Int)):Int) < (4294967296:Int)∧(0:Int) ≤ IntKind.u32.wrap (IntKind.u64.wrap ((↑(rh (↑(mA (sa+1 * s) s 27):Int) (↑(mE (sa+1 * s) s 27):Int) (↑(mB (sa+1 * s) s 27):Int) (↑(mT (sa+1 * s) s 27):Int)):Int) - IntKind.u64.wrap (↑(rl (↑(mA (sa+1 * s) s 27):Int) (↑(mE (sa+1 * s) s 27):Int) (↑(mB (sa+1 * s) s 27):Int) (↑(mT (sa+1 * s) s 27):Int)):Int)))∧IntKind.u32.wrap (IntKind.u64.wrap ((↑(rh (↑(mA (sa+1 * s) s 27):Int) (↑(mE (sa+1 * s) s 27):Int) (↑(mB (sa+1 * s) s 27):Int) (↑(mT (sa+1 * s) s 27):Int)):Int) - IntKind.u64.wrap (↑(rl (↑(mA (sa+1 * s) s 27):Int) (↑(mE (sa+1 * s) s 27):Int) (↑(mB (sa+1 * s) s 27):Int) (↑(mT (sa+1 * s) s 27):Int)):Int))) < (4294967296:Int))∧(rr (Value.agg ⟨[.int .u32 (↑(mA (sa+2 * s) s 27):Int),.int .u8 (↑(mE (sa+2 * s) s 27):Int),.int .u16 (↑(mB (sa+2 * s) s 27):Int),.int .u16 (↑(mT (sa+2 * s) s 27):Int),.int .u16 (↑(mP (sa+2 * s) s 27):Int),.int .u16 0,.int .u32 0,.bool (mV (sa+2 * s) s 27)]⟩)∧rr (Value.agg ⟨[.int .u32 (↑(rl (↑(mA (sa+1 * s) s 27):Int) (↑(mE (sa+1 * s) s 27):Int) (↑(mB (sa+1 * s) s 27):Int) (↑(mT (sa+1 * s) s 27):Int)):Int),.int .u32 (IntKind.u32.wrap (IntKind.u64.wrap ((↑(rh (↑(mA (sa+1 * s) s 27):Int) (↑(mE (sa+1 * s) s 27):Int) (↑(mB (sa+1 * s) s 27):Int) (↑(mT (sa+1 * s) s 27):Int)):Int) - IntKind.u64.wrap (↑(rl (↑(mA (sa+1 * s) s 27):Int) (↑(mE (sa+1 * s) s 27):Int) (↑(mB (sa+1 * s) s 27):Int) (↑(mT (sa+1 * s) s 27):Int)):Int))))]⟩)∧True)∧True∧True)∧mt (↑(mA (sa+2 * s) s 27):Int) (↑(mE (sa+2 * s) s 27):Int) (↑(mB (sa+2 * s) s 27):Int) (↑(mT (sa+2 * s) s 27):Int) (↑(rl (↑(mA (sa+1 * s) s 27):Int) (↑(mE (sa+1 * s) s 27):Int) (↑(mB (sa+1 * s) s 27):Int) (↑(mT (sa+1 * s) s 27):Int)):Int) (IntKind.u32.wrap (IntKind.u64.wrap ((↑(rh (↑(mA (sa+1 * s) s 27):Int) (↑(mE (sa+1 * s) s 27):Int) (↑(mB (sa+1 * s) s 27):Int) (↑(mT (sa+1 * s) s 27):Int)):Int) - IntKind.u64.wrap (↑(rl (↑(mA (sa+1 * s) s 27):Int) (↑(mE (sa+1 * s) s 27):Int) (↑(mB (sa+1 * s) s 27):Int) (↑(mT (sa+1 * s) s 27):Int)):Int)))) = false)∧((0:Int) ≤ (↑(mA (sa+0 * s) s 27):Int)∧(↑(mA (sa+0 * s) s 27):Int) < (4294967296:Int)∧(0:Int) ≤ (↑(mE (sa+0 * s) s 27):Int)∧(↑(mE (sa+0 * s) s 27):Int) < (256:Int)∧(0:Int) ≤ (↑(mB (sa+0 * s) s 27):Int)∧(↑(mB (sa+0 * s) s 27):Int) < (65536:Int)∧(0:Int) ≤ (↑(mT (sa+0 * s) s 27):Int)∧(↑(mT (sa+0 * s) s 27):Int) < (65536:Int)∧(0:Int) ≤ (↑(mP (sa+0 * s) s 27):Int)∧(↑(mP (sa+0 * s) s 27):Int) < (65536:Int)∧(0:Int) ≤ (0:Int)∧(0:Int) < (65536:Int)∧(0:Int) ≤ (0:Int)∧(0:Int) < (4294967296:Int))∧(rr (Value.agg ⟨[.int .u32 (↑(mA (sa+0 * s) s 27):Int),.int .u8 (↑(mE (sa+0 * s) s 27):Int),.int .u16 (↑(mB (sa+0 * s) s 27):Int),.int .u16 (↑(mT (sa+0 * s) s 27):Int),.int .u16 (↑(mP (sa+0 * s) s 27):Int),.int .u16 0,.int .u32 0,.bool (mV (sa+0 * s) s 27)]⟩)∧True)∧True∧True)∧(((0:Int) ≤ (↑(mA (sa+3 * s) s 27):Int)∧(↑(mA (sa+3 * s) s 27):Int) < (4294967296:Int)∧(0:Int) ≤ (↑(mE (sa+3 * s) s 27):Int)∧(↑(mE (sa+3 * s) s 27):Int) < (256:Int)∧(0:Int) ≤ (↑(mB (sa+3 * s) s 27):Int)∧(↑(mB (sa+3 * s) s 27):Int) < (65536:Int)∧(0:Int) ≤ (↑(mT (sa+3 * s) s 27):Int)∧(↑(mT (sa+3 * s) s 27):Int) < (65536:Int)∧(0:Int) ≤ (↑(mP (sa+3 * s) s 27):Int)∧(↑(mP (sa+3 * s) s 27):Int) < (65536:Int)∧(0:Int) ≤ (0:Int)∧(0:Int) < (65536:Int)∧(0:Int) ≤ (0:Int)∧(0:Int) < (4294967296:Int))∧(0:Int) ≤ (↑(rl (↑(mA (sa+0 * s) s 27):Int) (↑(mE (sa+0 * s) s 27):Int) (↑(mB (sa+0 * s) s 27):Int) (↑(mT (sa+0 * s) s 27):Int)):Int)∧(↑(rl (↑(mA (sa+0 * s) s 27):Int) (↑(mE (sa+0 * s) s 27):Int) (↑(mB (sa+0 * s) s 27):Int) (↑(mT (sa+0 * s) s 27):Int)):Int) < (4294967296:Int)∧(0:Int) ≤ IntKind.u32.wrap (IntKind.u64.wrap ((↑(rh (↑(mA (sa+0 * s) s 27):Int) (↑(mE (sa+0 * s) s 27):Int) (↑(mB (sa+0 * s) s 27):Int) (↑(mT (sa+0 * s) s 27):Int)):Int) - IntKind.u64.wrap (↑(rl (↑(mA (sa+0 * s) s 27):Int) (↑(mE (sa+0 * s) s 27):Int) (↑(mB (sa+0 * s) s 27):Int) (↑(mT (sa+0 * s) s 27):Int)):Int)))∧IntKind.u32.wrap (IntKind.u64.wrap ((↑(rh (↑(mA (sa+0 * s) s 27):Int) (↑(mE (sa+0 * s) s 27):Int) (↑(mB (sa+0 * s) s 27):Int) (↑(mT (sa+0 * s) s 27):Int)):Int) - IntKind.u64.wrap (↑(rl (↑(mA (sa+0 * s) s 27):Int) (↑(mE (sa+0 * s) s 27):Int) (↑(mB (sa+0 * s) s 27):Int) (↑(mT (sa+0 * s) s 27):Int)):Int))) < (4294967296:Int))∧(rr (Value.agg ⟨[.int .u32 (↑(mA (sa+3 * s) s 27):Int),.int .u8 (↑(mE (sa+3 * s) s 27):Int),.int .u16 (↑(mB (sa+3 * s) s 27):Int),.int .u16 (↑(mT (sa+3 * s) s 27):Int),.int .u16 (↑(mP (sa+3 * s) s 27):Int),.int .u16 0,.int .u32 0,.bool (mV (sa+3 * s) s 27)]⟩)∧rr (Value.agg ⟨[.int .u32 (↑(rl (↑(mA (sa+0 * s) s 27):Int) (↑(mE (sa+0 * s) s 27):Int) (↑(mB (sa+0 * s) s 27):Int) (↑(mT (sa+0 * s) s 27):Int)):Int),.int .u32 (IntKind.u32.wrap (IntKind.u64.wrap ((↑(rh (↑(mA (sa+0 * s) s 27):Int) (↑(mE (sa+0 * s) s 27):Int) (↑(mB (sa+0 * s) s 27):Int) (↑(mT (sa+0 * s) s 27):Int)):Int) - IntKind.u64.wrap (↑(rl (↑(mA (sa+0 * s) s 27):Int) (↑(mE (sa+0 * s) s 27):Int) (↑(mB (sa+0 * s) s 27):Int) (↑(mT (sa+0 * s) s 27):Int)):Int))))]⟩)∧True)∧True∧True)∧mt (↑(mA (sa+3 * s) s 27):Int) (↑(mE (sa+3 * s) s 27):Int) (↑(mB (sa+3 * s) s 27):Int) (↑(mT (sa+3 * s) s 27):Int) (↑(rl (↑(mA (sa+0 * s) s 27):Int) (↑(mE (sa+0 * s) s 27):Int) (↑(mB (sa+0 * s) s 27):Int) (↑(mT (sa+0 * s) s 27):Int)):Int) (IntKind.u32.wrap (IntKind.u64.wrap ((↑(rh (↑(mA (sa+0 * s) s 27):Int) (↑(mE (sa+0 * s) s 27):Int) (↑(mB (sa+0 * s) s 27):Int) (↑(mT (sa+0 * s) s 27):Int)):Int) - IntKind.u64.wrap (↑(rl (↑(mA (sa+0 * s) s 27):Int) (↑(mE (sa+0 * s) s 27):Int) (↑(mB (sa+0 * s) s 27):Int) (↑(mT (sa+0 * s) s 27):Int)):Int)))) = false)∧((0:Int) ≤ (↑(mA (sa+1 * s) s 27):Int)∧(↑(mA (sa+1 * s) s 27):Int) < (4294967296:Int)∧(0:Int) ≤ (↑(mE (sa+1 * s) s 27):Int)∧(↑(mE (sa+1 * s) s 27):Int) < (256:Int)∧(0:Int) ≤ (↑(mB (sa+1 * s) s 27):Int)∧(↑(mB (sa+1 * s) s 27):Int) < (65536:Int)∧(0:Int) ≤ (↑(mT (sa+1 * s) s 27):Int)∧(↑(mT (sa+1 * s) s 27):Int) < (65536:Int)∧(0:Int) ≤ (↑(mP (sa+1 * s) s 27):Int)∧(↑(mP (sa+1 * s) s 27):Int) < (65536:Int)∧(0:Int) ≤ (0:Int)∧(0:Int) < (65536:Int)∧(0:Int) ≤ (0:Int)∧(0:Int) < (4294967296:Int))∧(rr (Value.agg ⟨[.int .u32 (↑(mA (sa+1 * s) s 27):Int),.int .u8 (↑(mE (sa+1 * s) s 27):Int),.int .u16 (↑(mB (sa+1 * s) s 27):Int),.int .u16 (↑(mT (sa+1 * s) s 27):Int),.int .u16 (↑(mP (sa+1 * s) s 27):Int),.int .u16 0,.int .u32 0,.bool (mV (sa+1 * s) s 27)]⟩)∧True)∧True∧True)∧(((0:Int) ≤ (↑(mA (sa+3 * s) s 27):Int)∧(↑(mA (sa+3 * s) s 27):Int) < (4294967296:Int)∧(0:Int) ≤ (↑(mE (sa+3 * s) s 27):Int)∧(↑(mE (sa+3 * s) s 27):Int) < (256:Int)∧(0:Int) ≤ (↑(mB (sa+3 * s) s 27):Int)∧(↑(mB (sa+3 * s) s 27):Int) < (65536:Int)∧(0:Int) ≤ (↑(mT (sa+3 * s) s 27):Int)∧(↑(mT (sa+3 * s) s 27):Int) < (65536:Int)∧(0:Int) ≤ (↑(mP (sa+3 * s) s 27):Int)∧(↑(mP (sa+3 * s) s 27):Int) < (65536:Int)∧(0:Int) ≤ (0:Int)∧(0:Int) < (65536:Int)∧(0:Int) ≤ (0:Int)∧(0:Int) < (4294967296:Int))∧(0:Int) ≤ (↑(rl (↑(mA (sa+1 * s) s 27):Int) (↑(mE (sa+1 * s) s 27):Int) (↑(mB (sa+1 * s) s 27):Int) (↑(mT (sa+1 * s) s 27):Int)):Int)∧(↑(rl (↑(mA (sa+1 * s) s 27):Int) (↑(mE (sa+1 * s) s 27):Int) (↑(mB (sa+1 * s) s 27):Int) (↑(mT (sa+1 * s) s 27):Int)):Int) < (4294967296:Int)∧(0:Int) ≤ IntKind.u32.wrap (IntKind.u64.wrap ((↑(rh (↑(mA (sa+1 * s) s 27):Int) (↑(mE (sa+1 * s) s 27):Int) (↑(mB (sa+1 * s) s 27):Int) (↑(mT (sa+1 * s) s 27):Int)):Int) - IntKind.u64.wrap (↑(rl (↑(mA (sa+1 * s) s 27):Int) (↑(mE (sa+1 * s) s 27):Int) (↑(mB (sa+1 * s) s 27):Int) (↑(mT (sa+1 * s) s 27):Int)):Int)))∧IntKind.u32.wrap (IntKind.u64.wrap ((↑(rh (↑(mA (sa+1 * s) s 27):Int) (↑(mE (sa+1 * s) s 27):Int) (↑(mB (sa+1 * s) s 27):Int) (↑(mT (sa+1 * s) s 27):Int)):Int) - IntKind.u64.wrap (↑(rl (↑(mA (sa+1 * s) s 27):Int) (↑(mE (sa+1 * s) s 27):Int) (↑(mB (sa+1 * s) s 27):Int) (↑(mT (sa+1 * s) s 27):Int)):Int))) < (4294967296:Int))∧(rr (Value.agg ⟨[.int .u32 (↑(mA (sa+3 * s) s 27):Int),.int .u8 (↑(mE (sa+3 * s) s 27):Int),.int .u16 (↑(mB (sa+3 * s) s 27):Int),.int .u16 (↑(mT (sa+3 * s) s 27):Int),.int .u16 (↑(mP (sa+3 * s) s 27):Int),.int .u16 0,.int .u32 0,.bool (mV (sa+3 * s) s 27)]⟩)∧rr (Value.agg ⟨[.int .u32 (↑(rl (↑(mA (sa+1 * s) s 27):Int) (↑(mE (sa+1 * s) s 27):Int) (↑(mB (sa+1 * s) s 27):Int) (↑(mT (sa+1 * s) s 27):Int)):Int),.int .u32 (IntKind.u32.wrap (IntKind.u64.wrap ((↑(rh (↑(mA (sa+1 * s) s 27):Int) (↑(mE (sa+1 * s) s 27):Int) (↑(mB (sa+1 * s) s 27):Int) (↑(mT (sa+1 * s) s 27):Int)):Int) - IntKind.u64.wrap (↑(rl (↑(mA (sa+1 * s) s 27):Int) (↑(mE (sa+1 * s) s 27):Int) (↑(mB (sa+1 * s) s 27):Int) (↑(mT (sa+1 * s) s 27):Int)):Int))))]⟩)∧True)∧True∧True)∧mt (↑(mA (sa+3 * s) s 27):Int) (↑(mE (sa+3 * s) s 27):Int) (↑(mB (sa+3 * s) s 27):Int) (↑(mT (sa+3 * s) s 27):Int) (↑(rl (↑(mA (sa+1 * s) s 27):Int) (↑(mE (sa+1 * s) s 27):Int) (↑(mB (sa+1 * s) s 27):Int) (↑(mT (sa+1 * s) s 27):Int)):Int) (IntKind.u32.wrap (IntKind.u64.wrap ((↑(rh (↑(mA (sa+1 * s) s 27):Int) (↑(mE (sa+1 * s) s 27):Int) (↑(mB (sa+1 * s) s 27):Int) (↑(mT (sa+1 * s) s 27):Int)):Int) - IntKind.u64.wrap (↑(rl (↑(mA (sa+1 * s) s 27):Int) (↑(mE (sa+1 * s) s 27):Int) (↑(mB (sa+1 * s) s 27):Int) (↑(mT (sa+1 * s) s 27):Int)):Int)))) = false)∧((0:Int) ≤ (↑(mA (sa+2 * s) s 27):Int)∧(↑(mA (sa+2 * s) s 27):Int) < (4294967296:Int)∧(0:Int) ≤ (↑(mE (sa+2 * s) s 27):Int)∧(↑(mE (sa+2 * s) s 27):Int) < (256:Int)∧(0:Int) ≤ (↑(mB (sa+2 * s) s 27):Int)∧(↑(mB (sa+2 * s) s 27):Int) < (65536:Int)∧(0:Int) ≤ (↑(mT (sa+2 * s) s 27):Int)∧(↑(mT (sa+2 * s) s 27):Int) < (65536:Int)∧(0:Int) ≤ (↑(mP (sa+2 * s) s 27):Int)∧(↑(mP (sa+2 * s) s 27):Int) < (65536:Int)∧(0:Int) ≤ (0:Int)∧(0:Int) < (65536:Int)∧(0:Int) ≤ (0:Int)∧(0:Int) < (4294967296:Int))∧(rr (Value.agg ⟨[.int .u32 (↑(mA (sa+2 * s) s 27):Int),.int .u8 (↑(mE (sa+2 * s) s 27):Int),.int .u16 (↑(mB (sa+2 * s) s 27):Int),.int .u16 (↑(mT (sa+2 * s) s 27):Int),.int .u16 (↑(mP (sa+2 * s) s 27):Int),.int .u16 0,.int .u32 0,.bool (mV (sa+2 * s) s 27)]⟩)∧True)∧True∧True)∧(((0:Int) ≤ (↑(mA (sa+3 * s) s 27):Int)∧(↑(mA (sa+3 * s) s 27):Int) < (4294967296:Int)∧(0:Int) ≤ (↑(mE (sa+3 * s) s 27):Int)∧(↑(mE (sa+3 * s) s 27):Int) < (256:Int)∧(0:Int) ≤ (↑(mB (sa+3 * s) s 27):Int)∧(↑(mB (sa+3 * s) s 27):Int) < (65536:Int)∧(0:Int) ≤ (↑(mT (sa+3 * s) s 27):Int)∧(↑(mT (sa+3 * s) s 27):Int) < (65536:Int)∧(0:Int) ≤ (↑(mP (sa+3 * s) s 27):Int)∧(↑(mP (sa+3 * s) s 27):Int) < (65536:Int)∧(0:Int) ≤ (0:Int)∧(0:Int) < (65536:Int)∧(0:Int) ≤ (0:Int)∧(0:Int) < (4294967296:Int))∧(0:Int) ≤ (↑(rl (↑(mA (sa+2 * s) s 27):Int) (↑(mE (sa+2 * s) s 27):Int) (↑(mB (sa+2 * s) s 27):Int) (↑(mT (sa+2 * s) s 27):Int)):Int)∧(↑(rl (↑(mA (sa+2 * s) s 27):Int) (↑(mE (sa+2 * s) s 27):Int) (↑(mB (sa+2 * s) s 27):Int) (↑(mT (sa+2 * s) s 27):Int)):Int) < (4294967296:Int)∧(0:Int) ≤ IntKind.u32.wrap (IntKind.u64.wrap ((↑(rh (↑(mA (sa+2 * s) s 27):Int) (↑(mE (sa+2 * s) s 27):Int) (↑(mB (sa+2 * s) s 27):Int) (↑(mT (sa+2 * s) s 27):Int)):Int) - IntKind.u64.wrap (↑(rl (↑(mA (sa+2 * s) s 27):Int) (↑(mE (sa+2 * s) s 27):Int) (↑(mB (sa+2 * s) s 27):Int) (↑(mT (sa+2 * s) s 27):Int)):Int)))∧IntKind.u32.wrap (IntKind.u64.wrap ((↑(rh (↑(mA (sa+2 * s) s 27):Int) (↑(mE (sa+2 * s) s 27):Int) (↑(mB (sa+2 * s) s 27):Int) (↑(mT (sa+2 * s) s 27):Int)):Int) - IntKind.u64.wrap (↑(rl (↑(mA (sa+2 * s) s 27):Int) (↑(mE (sa+2 * s) s 27):Int) (↑(mB (sa+2 * s) s 27):Int) (↑(mT (sa+2 * s) s 27):Int)):Int))) < (4294967296:Int))∧(rr (Value.agg ⟨[.int .u32 (↑(mA (sa+3 * s) s 27):Int),.int .u8 (↑(mE (sa+3 * s) s 27):Int),.int .u16 (↑(mB (sa+3 * s) s 27):Int),.int .u16 (↑(mT (sa+3 * s) s 27):Int),.int .u16 (↑(mP (sa+3 * s) s 27):Int),.int .u16 0,.int .u32 0,.bool (mV (sa+3 * s) s 27)]⟩)∧rr (Value.agg ⟨[.int .u32 (↑(rl (↑(mA (sa+2 * s) s 27):Int) (↑(mE (sa+2 * s) s 27):Int) (↑(mB (sa+2 * s) s 27):Int) (↑(mT (sa+2 * s) s 27):Int)):Int),.int .u32 (IntKind.u32.wrap (IntKind.u64.wrap ((↑(rh (↑(mA (sa+2 * s) s 27):Int) (↑(mE (sa+2 * s) s 27):Int) (↑(mB (sa+2 * s) s 27):Int) (↑(mT (sa+2 * s) s 27):Int)):Int) - IntKind.u64.wrap (↑(rl (↑(mA (sa+2 * s) s 27):Int) (↑(mE (sa+2 * s) s 27):Int) (↑(mB (sa+2 * s) s 27):Int) (↑(mT (sa+2 * s) s 27):Int)):Int))))]⟩)∧True)∧True∧True)∧mt (↑(mA (sa+3 * s) s 27):Int) (↑(mE (sa+3 * s) s 27):Int) (↑(mB (sa+3 * s) s 27):Int) (↑(mT (sa+3 * s) s 27):Int) (↑(rl (↑(mA (sa+2 * s) s 27):Int) (↑(mE (sa+2 * s) s 27):Int) (↑(mB (sa+2 * s) s 27):Int) (↑(mT (sa+2 * s) s 27):Int)):Int) (IntKind.u32.wrap (IntKind.u64.wrap ((↑(rh (↑(mA (sa+2 * s) s 27):Int) (↑(mE (sa+2 * s) s 27):Int) (↑(mB (sa+2 * s) s 27):Int) (↑(mT (sa+2 * s) s 27):Int)):Int) - IntKind.u64.wrap (↑(rl (↑(mA (sa+2 * s) s 27):Int) (↑(mE (sa+2 * s) s 27):Int) (↑(mB (sa+2 * s) s 27):Int) (↑(mT (sa+2 * s) s 27):Int)):Int)))) = false):=by kernel_rfl
theorem lcy_1 (p s t : Nat) (cs : List Nat) (d : List UInt8) (a2 : Option Addr) (c2 : Nat) (so : List Nat) (c da ds sa ss ha hs : Nat) (zs : List UInt8) (f : Nat → Bool) (k0 k : Nat) (rl rh : Int → Int → Int → Int → Nat) (mt : Int → Int → Int → Int → Int → Int → Bool) (em : ∀ (q : Nat → Bool),(∀ (l : Nat),l < 67 → q l = true) → okV q 3 (Value.slice a2 0 c2) = true) (h : LcOk zs f p (nGran p) (nWord p) k0) : obs (evF Try.prog (baseF 3 (selSteps (lcL (genJ p s t d a2 cs.length 0 so.length c2) (lqHY cs so) (btHY so) 1 p zs f so c da ds sa ss ha hs s t k)) (baseC 3 (selRg rl rh mt))) (lpEsc [lcEnt1 p s t cs.length so.length d em zs f (nGran p) (nWord p) k0 h]) 100 20 7 [genJ p s t d a2 cs.length 0 so.length c2] ⟨67,lqHY cs so,[],0,[(26,false)],0,True⟩) = some (Value.bool true,((bif (List.take (IntKind.i64.wrap ((↑(p * 256):Int) - IntKind.i64.wrap (↑sa))).toNat (List.drop 0 (repl (IntKind.i64.wrap ((↑(p * 256):Int) - IntKind.i64.wrap (↑sa))).toNat [Value.int .u8 0]))).all isU8 then bif hasN (0+(IntKind.i64.wrap ((↑(p * 256):Int) - IntKind.i64.wrap (↑sa))).toNat) (repl (IntKind.i64.wrap ((↑(p * 256):Int) - IntKind.i64.wrap (↑sa))).toNat [Value.int .u8 0]) then bif decide ((0:Int) ≤ IntKind.i64.wrap ((↑(p * 256):Int) - IntKind.i64.wrap (↑sa))) && decide (IntKind.i64.wrap ((↑(p * 256):Int) - IntKind.i64.wrap (↑sa)) ≤ IntKind.i64.wrap ((↑(p * 256):Int) - IntKind.i64.wrap (↑sa))) && decide ((1:Int) * IntKind.i64.wrap ((↑(p * 256):Int) - IntKind.i64.wrap (↑sa)) ≤ (140737488355328:Int)) && decide (IntKind.i64.wrap ((↑(p * 256):Int) - IntKind.i64.wrap (↑sa)) < (9223372036854775808:Int)) then (((True∧True∧True∧True∧True)∧True∧(Value.agg ⟨[.int .i64 (↑p),.int .i64 (↑s),.int .i64 (↑t),.slice (some ⟨64,0,none⟩) cs.length 9223372036854775872,.string ⟨⟨d⟩⟩,.slice a2 0 c2,.slice (some ⟨66,0,none⟩) so.length 9223372036854775874]⟩ = Value.agg ⟨[.int .i64 (↑p),.int .i64 (↑s),.int .i64 (↑t),.slice (some ⟨64,0,none⟩) cs.length 9223372036854775872,.string ⟨⟨d⟩⟩,.slice (Option.map (rnA (lift 67 68 [64,65,66])) a2) 0 (rnC (lift 67 68 [64,65,66]) c2),.slice (some ⟨66,0,none⟩) so.length 9223372036854775874]⟩∧True)∧((tt∧(u32s cs).all (okV (fun l => l.blt 67) 3) = true∧tt∧tt∧tt∧True∧u32s cs = List.map (rnV (lift 67 68 [64,65,66]) 3) (u32s cs))∧(tt∧(u32s so).all (okV (fun l => l.blt 67) 3) = true∧tt∧tt∧tt∧True∧u32s so = List.map (rnV (lift 67 68 [64,65,66]) 3) (u32s so))∧True)∧True)∧True∧(Value.agg ⟨[.int .i64 (↑p),.int .i64 (↑s),.int .i64 (↑t),.slice (some ⟨64,0,none⟩) cs.length 9223372036854775872,.string ⟨⟨d⟩⟩,.slice a2 0 c2,.slice (some ⟨66,0,none⟩) so.length 9223372036854775874]⟩ = Value.agg ⟨[.int .i64 (↑p),.int .i64 (↑s),.int .i64 (↑t),.slice (some ⟨64,0,none⟩) cs.length 9223372036854775872,.string ⟨⟨d⟩⟩,.slice (Option.map (rnA (lift 67 77 [64,65,66])) a2) 0 (rnC (lift 67 77 [64,65,66]) c2),.slice (some ⟨66,0,none⟩) so.length 9223372036854775874]⟩∧True)∧((tt∧(u32s so).all (okV (fun l => l.blt 67) 3) = true∧tt∧tt∧tt∧True∧u32s so = List.map (rnV (lift 67 77 [64,65,66]) 3) (u32s so))∧True)∧True)∧True∧(rr (Value.pointer (some ⟨73,0,none⟩))∧rr (Value.int .u32 (↑sa))∧Value.int .i64 (IntKind.i64.wrap ((↑(p * 256):Int) - IntKind.i64.wrap (↑sa))) = Value.int .i64 (↑k)∧True)∧((tt∧tt∧tt∧tt∧tt∧True∧rr [Value.pointer (some ⟨72,0,none⟩),.slice (some ⟨70,0,none⟩) (p * 256) 9223372036854775878])∧(tt∧tt∧tt∧tt∧tt∧True∧rr [Value.int .i64 (↑(nGran p)),.slice (some ⟨71,0,none⟩) (nWord p) 9223372036854775879])∧(tt∧(v64 (wordsB f (nWord p))).all (okV (fun l => l.blt 68) 3) = true∧tt∧tt∧tt∧True∧v64 (wordsB f (nWord p)) = List.map (rnV (lift 68 78 [70,71,72,73]) 3) (v64 (wordsB f (nWord p))))∧(tt∧(u8s zs).all (okV (fun l => l.blt 68) 3) = true∧tt∧tt∧tt∧True∧u8s zs = List.map (rnV (lift 68 78 [70,71,72,73]) 3) (u8s zs))∧True)∧(tt∧nWord p ≤ nWord p)∧(tt∧p * 256 ≤ p * 256)∧True else False else False else False)∧(!bytesEq (List.take k (List.drop sa zs)) (List.map toU8 (List.take (IntKind.i64.wrap ((↑(p * 256):Int) - IntKind.i64.wrap (↑sa))).toNat (List.drop 0 (repl (IntKind.i64.wrap ((↑(p * 256):Int) - IntKind.i64.wrap (↑sa))).toNat [Value.int .u8 0]))))) = false)∧(rr (Value.pointer (some ⟨67,0,none⟩))∧rr (Value.bool false)∧rr (Value.pointer (some ⟨73,0,none⟩))∧rr (Value.slice (some ⟨76,0,none⟩) 1 9223372036854775884)∧rr (Value.int .i64 0)∧rr (Value.pointer (some ⟨77,0,none⟩))∧rr (Value.int .i64 0)∧Value.int .i64 (IntKind.i64.wrap ((IntKind.i64.wrap (↑sa)).tdiv (256:Int))) = Value.int .i64 (↑k0)∧True)∧((tt∧tt∧True∧rr [Value.pointer (some ⟨72,0,none⟩),.slice (some ⟨70,0,none⟩) (p * 256) 9223372036854775878])∧(tt∧tt∧True∧rr [Value.int .i64 (↑(nGran p)),.slice (some ⟨71,0,none⟩) (nWord p) 9223372036854775879])∧(tt∧tt∧True∧rr (v64 (wordsB f (nWord p))))∧(tt∧tt∧True∧rr (u8s zs))∧(tt∧tt∧True∧rr [Value.int .i64 (↑p),.int .i64 (↑s),.int .i64 (↑t),.slice (some ⟨64,0,none⟩) cs.length 9223372036854775872,.string ⟨⟨d⟩⟩,.slice a2 0 c2,.slice (some ⟨66,0,none⟩) so.length 9223372036854775874])∧True)∧(nWord p ≤ nWord p∧p * 256 ≤ p * 256∧True)∧True):=by kernel_rfl
theorem lcy_2 (p s t : Nat) (cs : List Nat) (d : List UInt8) (a2 : Option Addr) (c2 : Nat) (so : List Nat) (c da ds sa ss ha hs : Nat) (zs : List UInt8) (f : Nat → Bool) (k0 k : Nat) (rl rh : Int → Int → Int → Int → Nat) (mt : Int → Int → Int → Int → Int → Int → Bool) (em : ∀ (q : Nat → Bool),(∀ (l : Nat),l < 67 → q l = true) → okV q 3 (Value.slice a2 0 c2) = true) (h : LcOk zs f p (nGran p) (nWord p) k0) : obs (evF Try.prog (baseF 3 (selSteps (lcL (genJ p s t d a2 cs.length 0 so.length c2) (lqHY cs so) (btHY so) 2 p zs f so c da ds sa ss ha hs s t k)) (baseC 3 (selRg rl rh mt))) (lpEsc [lcEnt2 p s t cs.length so.length d em zs f (nGran p) (nWord p) k0 h]) 100 20 7 [genJ p s t d a2 cs.length 0 so.length c2] ⟨67,lqHY cs so,[],0,[(26,false),(31,false)],0,True⟩) = some (Value.bool true,(((((bif (List.take (IntKind.i64.wrap ((↑(p * 256):Int) - IntKind.i64.wrap (↑sa))).toNat (List.drop 0 (repl (IntKind.i64.wrap ((↑(p * 256):Int) - IntKind.i64.wrap (↑sa))).toNat [Value.int .u8 0]))).all isU8 then bif hasN (0+(IntKind.i64.wrap ((↑(p * 256):Int) - IntKind.i64.wrap (↑sa))).toNat) (repl (IntKind.i64.wrap ((↑(p * 256):Int) - IntKind.i64.wrap (↑sa))).toNat [Value.int .u8 0]) then bif decide ((0:Int) ≤ IntKind.i64.wrap ((↑(p * 256):Int) - IntKind.i64.wrap (↑sa))) && decide (IntKind.i64.wrap ((↑(p * 256):Int) - IntKind.i64.wrap (↑sa)) ≤ IntKind.i64.wrap ((↑(p * 256):Int) - IntKind.i64.wrap (↑sa))) && decide ((1:Int) * IntKind.i64.wrap ((↑(p * 256):Int) - IntKind.i64.wrap (↑sa)) ≤ (140737488355328:Int)) && decide (IntKind.i64.wrap ((↑(p * 256):Int) - IntKind.i64.wrap (↑sa)) < (9223372036854775808:Int)) then (((True∧True∧True∧True∧True)∧True∧(Value.agg ⟨[.int .i64 (↑p),.int .i64 (↑s),.int .i64 (↑t),.slice (some ⟨64,0,none⟩) cs.length 9223372036854775872,.string ⟨⟨d⟩⟩,.slice a2 0 c2,.slice (some ⟨66,0,none⟩) so.length 9223372036854775874]⟩ = Value.agg ⟨[.int .i64 (↑p),.int .i64 (↑s),.int .i64 (↑t),.slice (some ⟨64,0,none⟩) cs.length 9223372036854775872,.string ⟨⟨d⟩⟩,.slice (Option.map (rnA (lift 67 68 [64,65,66])) a2) 0 (rnC (lift 67 68 [64,65,66]) c2),.slice (some ⟨66,0,none⟩) so.length 9223372036854775874]⟩∧True)∧((tt∧(u32s cs).all (okV (fun l => l.blt 67) 3) = true∧tt∧tt∧tt∧True∧u32s cs = List.map (rnV (lift 67 68 [64,65,66]) 3) (u32s cs))∧(tt∧(u32s so).all (okV (fun l => l.blt 67) 3) = true∧tt∧tt∧tt∧True∧u32s so = List.map (rnV (lift 67 68 [64,65,66]) 3) (u32s so))∧True)∧True)∧True∧(Value.agg ⟨[.int .i64 (↑p),.int .i64 (↑s),.int .i64 (↑t),.slice (some ⟨64,0,none⟩) cs.length 9223372036854775872,.string ⟨⟨d⟩⟩,.slice a2 0 c2,.slice (some ⟨66,0,none⟩) so.length 9223372036854775874]⟩ = Value.agg ⟨[.int .i64 (↑p),.int .i64 (↑s),.int .i64 (↑t),.slice (some ⟨64,0,none⟩) cs.length 9223372036854775872,.string ⟨⟨d⟩⟩,.slice (Option.map (rnA (lift 67 79 [64,65,66])) a2) 0 (rnC (lift 67 79 [64,65,66]) c2),.slice (some ⟨66,0,none⟩) so.length 9223372036854775874]⟩∧True)∧((tt∧(u32s so).all (okV (fun l => l.blt 67) 3) = true∧tt∧tt∧tt∧True∧u32s so = List.map (rnV (lift 67 79 [64,65,66]) 3) (u32s so))∧True)∧True)∧True∧(rr (Value.pointer (some ⟨73,0,none⟩))∧rr (Value.int .u32 (↑sa))∧Value.int .i64 (IntKind.i64.wrap ((↑(p * 256):Int) - IntKind.i64.wrap (↑sa))) = Value.int .i64 (↑k)∧True)∧((tt∧tt∧tt∧tt∧tt∧True∧rr [Value.pointer (some ⟨72,0,none⟩),.slice (some ⟨70,0,none⟩) (p * 256) 9223372036854775878])∧(tt∧tt∧tt∧tt∧tt∧True∧rr [Value.int .i64 (↑(nGran p)),.slice (some ⟨71,0,none⟩) (nWord p) 9223372036854775879])∧(tt∧(v64 (wordsB f (nWord p))).all (okV (fun l => l.blt 68) 3) = true∧tt∧tt∧tt∧True∧v64 (wordsB f (nWord p)) = List.map (rnV (lift 68 80 [70,71,72,73]) 3) (v64 (wordsB f (nWord p))))∧(tt∧(u8s zs).all (okV (fun l => l.blt 68) 3) = true∧tt∧tt∧tt∧True∧u8s zs = List.map (rnV (lift 68 80 [70,71,72,73]) 3) (u8s zs))∧True)∧(tt∧nWord p ≤ nWord p)∧(tt∧p * 256 ≤ p * 256)∧True else False else False else False)∧(!bytesEq (List.take k (List.drop sa zs)) (List.map toU8 (List.take (IntKind.i64.wrap ((↑(p * 256):Int) - IntKind.i64.wrap (↑sa))).toNat (List.drop 0 (repl (IntKind.i64.wrap ((↑(p * 256):Int) - IntKind.i64.wrap (↑sa))).toNat [Value.int .u8 0]))))) = false)∧(rr (Value.pointer (some ⟨67,0,none⟩))∧rr (Value.bool false)∧rr (Value.pointer (some ⟨73,0,none⟩))∧rr (Value.slice (some ⟨78,0,none⟩) 2 9223372036854775886)∧rr (Value.int .i64 0)∧rr (Value.pointer (some ⟨79,0,none⟩))∧rr (Value.int .i64 0)∧Value.int .i64 (IntKind.i64.wrap ((IntKind.i64.wrap (↑sa)).tdiv (256:Int))) = Value.int .i64 (↑k0)∧True)∧((tt∧tt∧True∧rr [Value.pointer (some ⟨72,0,none⟩),.slice (some ⟨70,0,none⟩) (p * 256) 9223372036854775878])∧(tt∧tt∧True∧rr [Value.int .i64 (↑(nGran p)),.slice (some ⟨71,0,none⟩) (nWord p) 9223372036854775879])∧(tt∧tt∧True∧rr (v64 (wordsB f (nWord p))))∧(tt∧tt∧True∧rr (u8s zs))∧(tt∧tt∧True∧rr [Value.int .i64 (↑p),.int .i64 (↑s),.int .i64 (↑t),.slice (some ⟨64,0,none⟩) cs.length 9223372036854775872,.string ⟨⟨d⟩⟩,.slice a2 0 c2,.slice (some ⟨66,0,none⟩) so.length 9223372036854775874])∧True)∧(nWord p ≤ nWord p∧p * 256 ≤ p * 256∧True)∧True)∧((0:Int) ≤ (↑(mA (sa+0 * s) s 27):Int)∧(↑(mA (sa+0 * s) s 27):Int) < (4294967296:Int)∧(0:Int) ≤ (↑(mE (sa+0 * s) s 27):Int)∧(↑(mE (sa+0 * s) s 27):Int) < (256:Int)∧(0:Int) ≤ (↑(mB (sa+0 * s) s 27):Int)∧(↑(mB (sa+0 * s) s 27):Int) < (65536:Int)∧(0:Int) ≤ (↑(mT (sa+0 * s) s 27):Int)∧(↑(mT (sa+0 * s) s 27):Int) < (65536:Int)∧(0:Int) ≤ (↑(mP (sa+0 * s) s 27):Int)∧(↑(mP (sa+0 * s) s 27):Int) < (65536:Int)∧(0:Int) ≤ (0:Int)∧(0:Int) < (65536:Int)∧(0:Int) ≤ (0:Int)∧(0:Int) < (4294967296:Int))∧(rr (Value.agg ⟨[.int .u32 (↑(mA (sa+0 * s) s 27):Int),.int .u8 (↑(mE (sa+0 * s) s 27):Int),.int .u16 (↑(mB (sa+0 * s) s 27):Int),.int .u16 (↑(mT (sa+0 * s) s 27):Int),.int .u16 (↑(mP (sa+0 * s) s 27):Int),.int .u16 0,.int .u32 0,.bool (mV (sa+0 * s) s 27)]⟩)∧True)∧True∧True)∧(((0:Int) ≤ (↑(mA (sa+1 * s) s 27):Int)∧(↑(mA (sa+1 * s) s 27):Int) < (4294967296:Int)∧(0:Int) ≤ (↑(mE (sa+1 * s) s 27):Int)∧(↑(mE (sa+1 * s) s 27):Int) < (256:Int)∧(0:Int) ≤ (↑(mB (sa+1 * s) s 27):Int)∧(↑(mB (sa+1 * s) s 27):Int) < (65536:Int)∧(0:Int) ≤ (↑(mT (sa+1 * s) s 27):Int)∧(↑(mT (sa+1 * s) s 27):Int) < (65536:Int)∧(0:Int) ≤ (↑(mP (sa+1 * s) s 27):Int)∧(↑(mP (sa+1 * s) s 27):Int) < (65536:Int)∧(0:Int) ≤ (0:Int)∧(0:Int) < (65536:Int)∧(0:Int) ≤ (0:Int)∧(0:Int) < (4294967296:Int))∧(0:Int) ≤ (↑(rl (↑(mA (sa+0 * s) s 27):Int) (↑(mE (sa+0 * s) s 27):Int) (↑(mB (sa+0 * s) s 27):Int) (↑(mT (sa+0 * s) s 27):Int)):Int)∧(↑(rl (↑(mA (sa+0 * s) s 27):Int) (↑(mE (sa+0 * s) s 27):Int) (↑(mB (sa+0 * s) s 27):Int) (↑(mT (sa+0 * s) s 27):Int)):Int) < (4294967296:Int)∧(0:Int) ≤ IntKind.u32.wrap (IntKind.u64.wrap ((↑(rh (↑(mA (sa+0 * s) s 27):Int) (↑(mE (sa+0 * s) s 27):Int) (↑(mB (sa+0 * s) s 27):Int) (↑(mT (sa+0 * s) s 27):Int)):Int) - IntKind.u64.wrap (↑(rl (↑(mA (sa+0 * s) s 27):Int) (↑(mE (sa+0 * s) s 27):Int) (↑(mB (sa+0 * s) s 27):Int) (↑(mT (sa+0 * s) s 27):Int)):Int)))∧IntKind.u32.wrap (IntKind.u64.wrap ((↑(rh (↑(mA (sa+0 * s) s 27):Int) (↑(mE (sa+0 * s) s 27):Int) (↑(mB (sa+0 * s) s 27):Int) (↑(mT (sa+0 * s) s 27):Int)):Int) - IntKind.u64.wrap (↑(rl (↑(mA (sa+0 * s) s 27):Int) (↑(mE (sa+0 * s) s 27):Int) (↑(mB (sa+0 * s) s 27):Int) (↑(mT (sa+0 * s) s 27):Int)):Int))) < (4294967296:Int))∧(rr (Value.agg ⟨[.int .u32 (↑(mA (sa+1 * s) s 27):Int),.int .u8 (↑(mE (sa+1 * s) s 27):Int),.int .u16 (↑(mB (sa+1 * s) s 27):Int),.int .u16 (↑(mT (sa+1 * s) s 27):Int),.int .u16 (↑(mP (sa+1 * s) s 27):Int),.int .u16 0,.int .u32 0,.bool (mV (sa+1 * s) s 27)]⟩)∧rr (Value.agg ⟨[.int .u32 (↑(rl (↑(mA (sa+0 * s) s 27):Int) (↑(mE (sa+0 * s) s 27):Int) (↑(mB (sa+0 * s) s 27):Int) (↑(mT (sa+0 * s) s 27):Int)):Int),.int .u32 (IntKind.u32.wrap (IntKind.u64.wrap ((↑(rh (↑(mA (sa+0 * s) s 27):Int) (↑(mE (sa+0 * s) s 27):Int) (↑(mB (sa+0 * s) s 27):Int) (↑(mT (sa+0 * s) s 27):Int)):Int) - IntKind.u64.wrap (↑(rl (↑(mA (sa+0 * s) s 27):Int) (↑(mE (sa+0 * s) s 27):Int) (↑(mB (sa+0 * s) s 27):Int) (↑(mT (sa+0 * s) s 27):Int)):Int))))]⟩)∧True)∧True∧True)∧mt (↑(mA (sa+1 * s) s 27):Int) (↑(mE (sa+1 * s) s 27):Int) (↑(mB (sa+1 * s) s 27):Int) (↑(mT (sa+1 * s) s 27):Int) (↑(rl (↑(mA (sa+0 * s) s 27):Int) (↑(mE (sa+0 * s) s 27):Int) (↑(mB (sa+0 * s) s 27):Int) (↑(mT (sa+0 * s) s 27):Int)):Int) (IntKind.u32.wrap (IntKind.u64.wrap ((↑(rh (↑(mA (sa+0 * s) s 27):Int) (↑(mE (sa+0 * s) s 27):Int) (↑(mB (sa+0 * s) s 27):Int) (↑(mT (sa+0 * s) s 27):Int)):Int) - IntKind.u64.wrap (↑(rl (↑(mA (sa+0 * s) s 27):Int) (↑(mE (sa+0 * s) s 27):Int) (↑(mB (sa+0 * s) s 27):Int) (↑(mT (sa+0 * s) s 27):Int)):Int)))) = false):=by kernel_rfl
theorem lcy_3 (p s t : Nat) (cs : List Nat) (d : List UInt8) (a2 : Option Addr) (c2 : Nat) (so : List Nat) (c da ds sa ss ha hs : Nat) (zs : List UInt8) (f : Nat → Bool) (k0 k : Nat) (rl rh : Int → Int → Int → Int → Nat) (mt : Int → Int → Int → Int → Int → Int → Bool) (em : ∀ (q : Nat → Bool),(∀ (l : Nat),l < 67 → q l = true) → okV q 3 (Value.slice a2 0 c2) = true) (h : LcOk zs f p (nGran p) (nWord p) k0) : obs (evF Try.prog (baseF 3 (selSteps (lcL (genJ p s t d a2 cs.length 0 so.length c2) (lqHY cs so) (btHY so) 3 p zs f so c da ds sa ss ha hs s t k)) (baseC 3 (selRg rl rh mt))) (lpEsc [lcEnt3 p s t cs.length so.length d em zs f (nGran p) (nWord p) k0 h]) 100 20 7 [genJ p s t d a2 cs.length 0 so.length c2] ⟨67,lqHY cs so,[],0,[(26,false),(31,false),(35,false),(37,false)],0,True⟩) = some (Value.bool true,(((((((((((bif (List.take (IntKind.i64.wrap ((↑(p * 256):Int) - IntKind.i64.wrap (↑sa))).toNat (List.drop 0 (repl (IntKind.i64.wrap ((↑(p * 256):Int) - IntKind.i64.wrap (↑sa))).toNat [Value.int .u8 0]))).all isU8 then bif hasN (0+(IntKind.i64.wrap ((↑(p * 256):Int) - IntKind.i64.wrap (↑sa))).toNat) (repl (IntKind.i64.wrap ((↑(p * 256):Int) - IntKind.i64.wrap (↑sa))).toNat [Value.int .u8 0]) then bif decide ((0:Int) ≤ IntKind.i64.wrap ((↑(p * 256):Int) - IntKind.i64.wrap (↑sa))) && decide (IntKind.i64.wrap ((↑(p * 256):Int) - IntKind.i64.wrap (↑sa)) ≤ IntKind.i64.wrap ((↑(p * 256):Int) - IntKind.i64.wrap (↑sa))) && decide ((1:Int) * IntKind.i64.wrap ((↑(p * 256):Int) - IntKind.i64.wrap (↑sa)) ≤ (140737488355328:Int)) && decide (IntKind.i64.wrap ((↑(p * 256):Int) - IntKind.i64.wrap (↑sa)) < (9223372036854775808:Int)) then (((True∧True∧True∧True∧True)∧True∧(Value.agg ⟨[.int .i64 (↑p),.int .i64 (↑s),.int .i64 (↑t),.slice (some ⟨64,0,none⟩) cs.length 9223372036854775872,.string ⟨⟨d⟩⟩,.slice a2 0 c2,.slice (some ⟨66,0,none⟩) so.length 9223372036854775874]⟩ = Value.agg ⟨[.int .i64 (↑p),.int .i64 (↑s),.int .i64 (↑t),.slice (some ⟨64,0,none⟩) cs.length 9223372036854775872,.string ⟨⟨d⟩⟩,.slice (Option.map (rnA (lift 67 68 [64,65,66])) a2) 0 (rnC (lift 67 68 [64,65,66]) c2),.slice (some ⟨66,0,none⟩) so.length 9223372036854775874]⟩∧True)∧((tt∧(u32s cs).all (okV (fun l => l.blt 67) 3) = true∧tt∧tt∧tt∧True∧u32s cs = List.map (rnV (lift 67 68 [64,65,66]) 3) (u32s cs))∧(tt∧(u32s so).all (okV (fun l => l.blt 67) 3) = true∧tt∧tt∧tt∧True∧u32s so = List.map (rnV (lift 67 68 [64,65,66]) 3) (u32s so))∧True)∧True)∧True∧(Value.agg ⟨[.int .i64 (↑p),.int .i64 (↑s),.int .i64 (↑t),.slice (some ⟨64,0,none⟩) cs.length 9223372036854775872,.string ⟨⟨d⟩⟩,.slice a2 0 c2,.slice (some ⟨66,0,none⟩) so.length 9223372036854775874]⟩ = Value.agg ⟨[.int .i64 (↑p),.int .i64 (↑s),.int .i64 (↑t),.slice (some ⟨64,0,none⟩) cs.length 9223372036854775872,.string ⟨⟨d⟩⟩,.slice (Option.map (rnA (lift 67 81 [64,65,66])) a2) 0 (rnC (lift 67 81 [64,65,66]) c2),.slice (some ⟨66,0,none⟩) so.length 9223372036854775874]⟩∧True)∧((tt∧(u32s so).all (okV (fun l => l.blt 67) 3) = true∧tt∧tt∧tt∧True∧u32s so = List.map (rnV (lift 67 81 [64,65,66]) 3) (u32s so))∧True)∧True)∧True∧(rr (Value.pointer (some ⟨73,0,none⟩))∧rr (Value.int .u32 (↑sa))∧Value.int .i64 (IntKind.i64.wrap ((↑(p * 256):Int) - IntKind.i64.wrap (↑sa))) = Value.int .i64 (↑k)∧True)∧((tt∧tt∧tt∧tt∧tt∧True∧rr [Value.pointer (some ⟨72,0,none⟩),.slice (some ⟨70,0,none⟩) (p * 256) 9223372036854775878])∧(tt∧tt∧tt∧tt∧tt∧True∧rr [Value.int .i64 (↑(nGran p)),.slice (some ⟨71,0,none⟩) (nWord p) 9223372036854775879])∧(tt∧(v64 (wordsB f (nWord p))).all (okV (fun l => l.blt 68) 3) = true∧tt∧tt∧tt∧True∧v64 (wordsB f (nWord p)) = List.map (rnV (lift 68 82 [70,71,72,73]) 3) (v64 (wordsB f (nWord p))))∧(tt∧(u8s zs).all (okV (fun l => l.blt 68) 3) = true∧tt∧tt∧tt∧True∧u8s zs = List.map (rnV (lift 68 82 [70,71,72,73]) 3) (u8s zs))∧True)∧(tt∧nWord p ≤ nWord p)∧(tt∧p * 256 ≤ p * 256)∧True else False else False else False)∧(!bytesEq (List.take k (List.drop sa zs)) (List.map toU8 (List.take (IntKind.i64.wrap ((↑(p * 256):Int) - IntKind.i64.wrap (↑sa))).toNat (List.drop 0 (repl (IntKind.i64.wrap ((↑(p * 256):Int) - IntKind.i64.wrap (↑sa))).toNat [Value.int .u8 0]))))) = false)∧(rr (Value.pointer (some ⟨67,0,none⟩))∧rr (Value.bool false)∧rr (Value.pointer (some ⟨73,0,none⟩))∧rr (Value.slice (some ⟨80,0,none⟩) 3 9223372036854775888)∧rr (Value.int .i64 0)∧rr (Value.pointer (some ⟨81,0,none⟩))∧rr (Value.int .i64 0)∧Value.int .i64 (IntKind.i64.wrap ((IntKind.i64.wrap (↑sa)).tdiv (256:Int))) = Value.int .i64 (↑k0)∧True)∧((tt∧tt∧True∧rr [Value.pointer (some ⟨72,0,none⟩),.slice (some ⟨70,0,none⟩) (p * 256) 9223372036854775878])∧(tt∧tt∧True∧rr [Value.int .i64 (↑(nGran p)),.slice (some ⟨71,0,none⟩) (nWord p) 9223372036854775879])∧(tt∧tt∧True∧rr (v64 (wordsB f (nWord p))))∧(tt∧tt∧True∧rr (u8s zs))∧(tt∧tt∧True∧rr [Value.int .i64 (↑p),.int .i64 (↑s),.int .i64 (↑t),.slice (some ⟨64,0,none⟩) cs.length 9223372036854775872,.string ⟨⟨d⟩⟩,.slice a2 0 c2,.slice (some ⟨66,0,none⟩) so.length 9223372036854775874])∧True)∧(nWord p ≤ nWord p∧p * 256 ≤ p * 256∧True)∧True)∧((0:Int) ≤ (↑(mA (sa+0 * s) s 27):Int)∧(↑(mA (sa+0 * s) s 27):Int) < (4294967296:Int)∧(0:Int) ≤ (↑(mE (sa+0 * s) s 27):Int)∧(↑(mE (sa+0 * s) s 27):Int) < (256:Int)∧(0:Int) ≤ (↑(mB (sa+0 * s) s 27):Int)∧(↑(mB (sa+0 * s) s 27):Int) < (65536:Int)∧(0:Int) ≤ (↑(mT (sa+0 * s) s 27):Int)∧(↑(mT (sa+0 * s) s 27):Int) < (65536:Int)∧(0:Int) ≤ (↑(mP (sa+0 * s) s 27):Int)∧(↑(mP (sa+0 * s) s 27):Int) < (65536:Int)∧(0:Int) ≤ (0:Int)∧(0:Int) < (65536:Int)∧(0:Int) ≤ (0:Int)∧(0:Int) < (4294967296:Int))∧(rr (Value.agg ⟨[.int .u32 (↑(mA (sa+0 * s) s 27):Int),.int .u8 (↑(mE (sa+0 * s) s 27):Int),.int .u16 (↑(mB (sa+0 * s) s 27):Int),.int .u16 (↑(mT (sa+0 * s) s 27):Int),.int .u16 (↑(mP (sa+0 * s) s 27):Int),.int .u16 0,.int .u32 0,.bool (mV (sa+0 * s) s 27)]⟩)∧True)∧True∧True)∧(((0:Int) ≤ (↑(mA (sa+1 * s) s 27):Int)∧(↑(mA (sa+1 * s) s 27):Int) < (4294967296:Int)∧(0:Int) ≤ (↑(mE (sa+1 * s) s 27):Int)∧(↑(mE (sa+1 * s) s 27):Int) < (256:Int)∧(0:Int) ≤ (↑(mB (sa+1 * s) s 27):Int)∧(↑(mB (sa+1 * s) s 27):Int) < (65536:Int)∧(0:Int) ≤ (↑(mT (sa+1 * s) s 27):Int)∧(↑(mT (sa+1 * s) s 27):Int) < (65536:Int)∧(0:Int) ≤ (↑(mP (sa+1 * s) s 27):Int)∧(↑(mP (sa+1 * s) s 27):Int) < (65536:Int)∧(0:Int) ≤ (0:Int)∧(0:Int) < (65536:Int)∧(0:Int) ≤ (0:Int)∧(0:Int) < (4294967296:Int))∧(0:Int) ≤ (↑(rl (↑(mA (sa+0 * s) s 27):Int) (↑(mE (sa+0 * s) s 27):Int) (↑(mB (sa+0 * s) s 27):Int) (↑(mT (sa+0 * s) s 27):Int)):Int)∧(↑(rl (↑(mA (sa+0 * s) s 27):Int) (↑(mE (sa+0 * s) s 27):Int) (↑(mB (sa+0 * s) s 27):Int) (↑(mT (sa+0 * s) s 27):Int)):Int) < (4294967296:Int)∧(0:Int) ≤ IntKind.u32.wrap (IntKind.u64.wrap ((↑(rh (↑(mA (sa+0 * s) s 27):Int) (↑(mE (sa+0 * s) s 27):Int) (↑(mB (sa+0 * s) s 27):Int) (↑(mT (sa+0 * s) s 27):Int)):Int) - IntKind.u64.wrap (↑(rl (↑(mA (sa+0 * s) s 27):Int) (↑(mE (sa+0 * s) s 27):Int) (↑(mB (sa+0 * s) s 27):Int) (↑(mT (sa+0 * s) s 27):Int)):Int)))∧IntKind.u32.wrap (IntKind.u64.wrap ((↑(rh (↑(mA (sa+0 * s) s 27):Int) (↑(mE (sa+0 * s) s 27):Int) (↑(mB (sa+0 * s) s 27):Int) (↑(mT (sa+0 * s) s 27):Int)):Int) - IntKind.u64.wrap (↑(rl (↑(mA (sa+0 * s) s 27):Int) (↑(mE (sa+0 * s) s 27):Int) (↑(mB (sa+0 * s) s 27):Int) (↑(mT (sa+0 * s) s 27):Int)):Int))) < (4294967296:Int))∧(rr (Value.agg ⟨[.int .u32 (↑(mA (sa+1 * s) s 27):Int),.int .u8 (↑(mE (sa+1 * s) s 27):Int),.int .u16 (↑(mB (sa+1 * s) s 27):Int),.int .u16 (↑(mT (sa+1 * s) s 27):Int),.int .u16 (↑(mP (sa+1 * s) s 27):Int),.int .u16 0,.int .u32 0,.bool (mV (sa+1 * s) s 27)]⟩)∧rr (Value.agg ⟨[.int .u32 (↑(rl (↑(mA (sa+0 * s) s 27):Int) (↑(mE (sa+0 * s) s 27):Int) (↑(mB (sa+0 * s) s 27):Int) (↑(mT (sa+0 * s) s 27):Int)):Int),.int .u32 (IntKind.u32.wrap (IntKind.u64.wrap ((↑(rh (↑(mA (sa+0 * s) s 27):Int) (↑(mE (sa+0 * s) s 27):Int) (↑(mB (sa+0 * s) s 27):Int) (↑(mT (sa+0 * s) s 27):Int)):Int) - IntKind.u64.wrap (↑(rl (↑(mA (sa+0 * s) s 27):Int) (↑(mE (sa+0 * s) s 27):Int) (↑(mB (sa+0 * s) s 27):Int) (↑(mT (sa+0 * s) s 27):Int)):Int))))]⟩)∧True)∧True∧True)∧mt (↑(mA (sa+1 * s) s 27):Int) (↑(mE (sa+1 * s) s 27):Int) (↑(mB (sa+1 * s) s 27):Int) (↑(mT (sa+1 * s) s 27):Int) (↑(rl (↑(mA (sa+0 * s) s 27):Int) (↑(mE (sa+0 * s) s 27):Int) (↑(mB (sa+0 * s) s 27):Int) (↑(mT (sa+0 * s) s 27):Int)):Int) (IntKind.u32.wrap (IntKind.u64.wrap ((↑(rh (↑(mA (sa+0 * s) s 27):Int) (↑(mE (sa+0 * s) s 27):Int) (↑(mB (sa+0 * s) s 27):Int) (↑(mT (sa+0 * s) s 27):Int)):Int) - IntKind.u64.wrap (↑(rl (↑(mA (sa+0 * s) s 27):Int) (↑(mE (sa+0 * s) s 27):Int) (↑(mB (sa+0 * s) s 27):Int) (↑(mT (sa+0 * s) s 27):Int)):Int)))) = false)∧((0:Int) ≤ (↑(mA (sa+0 * s) s 27):Int)∧(↑(mA (sa+0 * s) s 27):Int) < (4294967296:Int)∧(0:Int) ≤ (↑(mE (sa+0 * s) s 27):Int)∧(↑(mE (sa+0 * s) s 27):Int) < (256:Int)∧(0:Int) ≤ (↑(mB (sa+0 * s) s 27):Int)∧(↑(mB (sa+0 * s) s 27):Int) < (65536:Int)∧(0:Int) ≤ (↑(mT (sa+0 * s) s 27):Int)∧(↑(mT (sa+0 * s) s 27):Int) < (65536:Int)∧(0:Int) ≤ (↑(mP (sa+0 * s) s 27):Int)∧(↑(mP (sa+0 * s) s 27):Int) < (65536:Int)∧(0:Int) ≤ (0:Int)∧(0:Int) < (65536:Int)∧(0:Int) ≤ (0:Int)∧(0:Int) < (4294967296:Int))∧(rr (Value.agg ⟨[.int .u32 (↑(mA (sa+0 * s) s 27):Int),.int .u8 (↑(mE (sa+0 * s) s 27):Int),.int .u16 (↑(mB (sa+0 * s) s 27):Int),.int .u16 (↑(mT (sa+0 * s) s 27):Int),.int .u16 (↑(mP (sa+0 * s) s 27):Int),.int .u16 0,.int .u32 0,.bool (mV (sa+0 * s) s 27)]⟩)∧True)∧True∧True)∧(((0:Int) ≤ (↑(mA (sa+2 * s) s 27):Int)∧(↑(mA (sa+2 * s) s 27):Int) < (4294967296:Int)∧(0:Int) ≤ (↑(mE (sa+2 * s) s 27):Int)∧(↑(mE (sa+2 * s) s 27):Int) < (256:Int)∧(0:Int) ≤ (↑(mB (sa+2 * s) s 27):Int)∧(↑(mB (sa+2 * s) s 27):Int) < (65536:Int)∧(0:Int) ≤ (↑(mT (sa+2 * s) s 27):Int)∧(↑(mT (sa+2 * s) s 27):Int) < (65536:Int)∧(0:Int) ≤ (↑(mP (sa+2 * s) s 27):Int)∧(↑(mP (sa+2 * s) s 27):Int) < (65536:Int)∧(0:Int) ≤ (0:Int)∧(0:Int) < (65536:Int)∧(0:Int) ≤ (0:Int)∧(0:Int) < (4294967296:Int))∧(0:Int) ≤ (↑(rl (↑(mA (sa+0 * s) s 27):Int) (↑(mE (sa+0 * s) s 27):Int) (↑(mB (sa+0 * s) s 27):Int) (↑(mT (sa+0 * s) s 27):Int)):Int)∧(↑(rl (↑(mA (sa+0 * s) s 27):Int) (↑(mE (sa+0 * s) s 27):Int) (↑(mB (sa+0 * s) s 27):Int) (↑(mT (sa+0 * s) s 27):Int)):Int) < (4294967296:Int)∧(0:Int) ≤ IntKind.u32.wrap (IntKind.u64.wrap ((↑(rh (↑(mA (sa+0 * s) s 27):Int) (↑(mE (sa+0 * s) s 27):Int) (↑(mB (sa+0 * s) s 27):Int) (↑(mT (sa+0 * s) s 27):Int)):Int) - IntKind.u64.wrap (↑(rl (↑(mA (sa+0 * s) s 27):Int) (↑(mE (sa+0 * s) s 27):Int) (↑(mB (sa+0 * s) s 27):Int) (↑(mT (sa+0 * s) s 27):Int)):Int)))∧IntKind.u32.wrap (IntKind.u64.wrap ((↑(rh (↑(mA (sa+0 * s) s 27):Int) (↑(mE (sa+0 * s) s 27):Int) (↑(mB (sa+0 * s) s 27):Int) (↑(mT (sa+0 * s) s 27):Int)):Int) - IntKind.u64.wrap (↑(rl (↑(mA (sa+0 * s) s 27):Int) (↑(mE (sa+0 * s) s 27):Int) (↑(mB (sa+0 * s) s 27):Int) (↑(mT (sa+0 * s) s 27):Int)):Int))) < (4294967296:Int))∧(rr (Value.agg ⟨[.int .u32 (↑(mA (sa+2 * s) s 27):Int),.int .u8 (↑(mE (sa+2 * s) s 27):Int),.int .u16 (↑(mB (sa+2 * s) s 27):Int),.int .u16 (↑(mT (sa+2 * s) s 27):Int),.int .u16 (↑(mP (sa+2 * s) s 27):Int),.int .u16 0,.int .u32 0,.bool (mV (sa+2 * s) s 27)]⟩)∧rr (Value.agg ⟨[.int .u32 (↑(rl (↑(mA (sa+0 * s) s 27):Int) (↑(mE (sa+0 * s) s 27):Int) (↑(mB (sa+0 * s) s 27):Int) (↑(mT (sa+0 * s) s 27):Int)):Int),.int .u32 (IntKind.u32.wrap (IntKind.u64.wrap ((↑(rh (↑(mA (sa+0 * s) s 27):Int) (↑(mE (sa+0 * s) s 27):Int) (↑(mB (sa+0 * s) s 27):Int) (↑(mT (sa+0 * s) s 27):Int)):Int) - IntKind.u64.wrap (↑(rl (↑(mA (sa+0 * s) s 27):Int) (↑(mE (sa+0 * s) s 27):Int) (↑(mB (sa+0 * s) s 27):Int) (↑(mT (sa+0 * s) s 27):Int)):Int))))]⟩)∧True)∧True∧True)∧mt (↑(mA (sa+2 * s) s 27):Int) (↑(mE (sa+2 * s) s 27):Int) (↑(mB (sa+2 * s) s 27):Int) (↑(mT (sa+2 * s) s 27):Int) (↑(rl (↑(mA (sa+0 * s) s 27):Int) (↑(mE (sa+0 * s) s 27):Int) (↑(mB (sa+0 * s) s 27):Int) (↑(mT (sa+0 * s) s 27):Int)):Int) (IntKind.u32.wrap (IntKind.u64.wrap ((↑(rh (↑(mA (sa+0 * s) s 27):Int) (↑(mE (sa+0 * s) s 27):Int) (↑(mB (sa+0 * s) s 27):Int) (↑(mT (sa+0 * s) s 27):Int)):Int) - IntKind.u64.wrap (↑(rl (↑(mA (sa+0 * s) s 27):Int) (↑(mE (sa+0 * s) s 27):Int) (↑(mB (sa+0 * s) s 27):Int) (↑(mT (sa+0 * s) s 27):Int)):Int)))) = false)∧((0:Int) ≤ (↑(mA (sa+1 * s) s 27):Int)∧(↑(mA (sa+1 * s) s 27):Int) < (4294967296:Int)∧(0:Int) ≤ (↑(mE (sa+1 * s) s 27):Int)∧(↑(mE (sa+1 * s) s 27):Int) < (256:Int)∧(0:Int) ≤ (↑(mB (sa+1 * s) s 27):Int)∧(↑(mB (sa+1 * s) s 27):Int) < (65536:Int)∧(0:Int) ≤ (↑(mT (sa+1 * s) s 27):Int)∧(↑(mT (sa+1 * s) s 27):Int) < (65536:Int)∧(0:Int) ≤ (↑(mP (sa+1 * s) s 27):Int)∧(↑(mP (sa+1 * s) s 27):Int) < (65536:Int)∧(0:Int) ≤ (0:Int)∧(0:Int) < (65536:Int)∧(0:Int) ≤ (0:Int)∧(0:Int) < (4294967296:Int))∧(rr (Value.agg ⟨[.int .u32 (↑(mA (sa+1 * s) s 27):Int),.int .u8 (↑(mE (sa+1 * s) s 27):Int),.int .u16 (↑(mB (sa+1 * s) s 27):Int),.int .u16 (↑(mT (sa+1 * s) s 27):Int),.int .u16 (↑(mP (sa+1 * s) s 27):Int),.int .u16 0,.int .u32 0,.bool (mV (sa+1 * s) s 27)]⟩)∧True)∧True∧True)∧(((0:Int) ≤ (↑(mA (sa+2 * s) s 27):Int)∧(↑(mA (sa+2 * s) s 27):Int) < (4294967296:Int)∧(0:Int) ≤ (↑(mE (sa+2 * s) s 27):Int)∧(↑(mE (sa+2 * s) s 27):Int) < (256:Int)∧(0:Int) ≤ (↑(mB (sa+2 * s) s 27):Int)∧(↑(mB (sa+2 * s) s 27):Int) < (65536:Int)∧(0:Int) ≤ (↑(mT (sa+2 * s) s 27):Int)∧(↑(mT (sa+2 * s) s 27):Int) < (65536:Int)∧(0:Int) ≤ (↑(mP (sa+2 * s) s 27):Int)∧(↑(mP (sa+2 * s) s 27):Int) < (65536:Int)∧(0:Int) ≤ (0:Int)∧(0:Int) < (65536:Int)∧(0:Int) ≤ (0:Int)∧(0:Int) < (4294967296:Int))∧(0:Int) ≤ (↑(rl (↑(mA (sa+1 * s) s 27):Int) (↑(mE (sa+1 * s) s 27):Int) (↑(mB (sa+1 * s) s 27):Int) (↑(mT (sa+1 * s) s 27):Int)):Int)∧(↑(rl (↑(mA (sa+1 * s) s 27):Int) (↑(mE (sa+1 * s) s 27):Int) (↑(mB (sa+1 * s) s 27):Int) (↑(mT (sa+1 * s) s 27):Int)):Int) < (4294967296:Int)∧(0:Int) ≤ IntKind.u32.wrap (IntKind.u64.wrap ((↑(rh (↑(mA (sa+1 * s) s 27):Int) (↑(mE (sa+1 * s) s 27):Int) (↑(mB (sa+1 * s) s 27):Int) (↑(mT (sa+1 * s) s 27):Int)):Int) - IntKind.u64.wrap (↑(rl (↑(mA (sa+1 * s) s 27):Int) (↑(mE (sa+1 * s) s 27):Int) (↑(mB (sa+1 * s) s 27):Int) (↑(mT (sa+1 * s) s 27):Int)):Int)))∧IntKind.u32.wrap (IntKind.u64.wrap ((↑(rh (↑(mA (sa+1 * s) s 27):Int) (↑(mE (sa+1 * s) s 27):Int) (↑(mB (sa+1 * s) s 27):Int) (↑(mT (sa+1 * s) s 27):Int)):Int) - IntKind.u64.wrap (↑(rl (↑(mA (sa+1 * s) s 27):Int) (↑(mE (sa+1 * s) s 27):Int) (↑(mB (sa+1 * s) s 27):Int) (↑(mT (sa+1 * s) s 27):Int)):Int))) < (4294967296:Int))∧(rr (Value.agg ⟨[.int .u32 (↑(mA (sa+2 * s) s 27):Int),.int .u8 (↑(mE (sa+2 * s) s 27):Int),.int .u16 (↑(mB (sa+2 * s) s 27):Int),.int .u16 (↑(mT (sa+2 * s) s 27):Int),.int .u16 (↑(mP (sa+2 * s) s 27):Int),.int .u16 0,.int .u32 0,.bool (mV (sa+2 * s) s 27)]⟩)∧rr (Value.agg ⟨[.int .u32 (↑(rl (↑(mA (sa+1 * s) s 27):Int) (↑(mE (sa+1 * s) s 27):Int) (↑(mB (sa+1 * s) s 27):Int) (↑(mT (sa+1 * s) s 27):Int)):Int),.int .u32 (IntKind.u32.wrap (IntKind.u64.wrap ((↑(rh (↑(mA (sa+1 * s) s 27):Int) (↑(mE (sa+1 * s) s 27):Int) (↑(mB (sa+1 * s) s 27):Int) (↑(mT (sa+1 * s) s 27):Int)):Int) - IntKind.u64.wrap (↑(rl (↑(mA (sa+1 * s) s 27):Int) (↑(mE (sa+1 * s) s 27):Int) (↑(mB (sa+1 * s) s 27):Int) (↑(mT (sa+1 * s) s 27):Int)):Int))))]⟩)∧True)∧True∧True)∧mt (↑(mA (sa+2 * s) s 27):Int) (↑(mE (sa+2 * s) s 27):Int) (↑(mB (sa+2 * s) s 27):Int) (↑(mT (sa+2 * s) s 27):Int) (↑(rl (↑(mA (sa+1 * s) s 27):Int) (↑(mE (sa+1 * s) s 27):Int) (↑(mB (sa+1 * s) s 27):Int) (↑(mT (sa+1 * s) s 27):Int)):Int) (IntKind.u32.wrap (IntKind.u64.wrap ((↑(rh (↑(mA (sa+1 * s) s 27):Int) (↑(mE (sa+1 * s) s 27):Int) (↑(mB (sa+1 * s) s 27):Int) (↑(mT (sa+1 * s) s 27):Int)):Int) - IntKind.u64.wrap (↑(rl (↑(mA (sa+1 * s) s 27):Int) (↑(mE (sa+1 * s) s 27):Int) (↑(mB (sa+1 * s) s 27):Int) (↑(mT (sa+1 * s) s 27):Int)):Int)))) = false):=by kernel_rfl
theorem lcy_4 (p s t : Nat) (cs : List Nat) (d : List UInt8) (a2 : Option Addr) (c2 : Nat) (so : List Nat) (c da ds sa ss ha hs : Nat) (zs : List UInt8) (f : Nat → Bool) (k0 k : Nat) (rl rh : Int → Int → Int → Int → Nat) (mt : Int → Int → Int → Int → Int → Int → Bool) (em : ∀ (q : Nat → Bool),(∀ (l : Nat),l < 67 → q l = true) → okV q 3 (Value.slice a2 0 c2) = true) (h : LcOk zs f p (nGran p) (nWord p) k0) : obs (evF Try.prog (baseF 3 (selSteps (lcL (genJ p s t d a2 cs.length 0 so.length c2) (lqHY cs so) (btHY so) 4 p zs f so c da ds sa ss ha hs s t k)) (baseC 3 (selRg rl rh mt))) (lpEsc [lcEnt4 p s t cs.length so.length d em zs f (nGran p) (nWord p) k0 h]) 100 20 7 [genJ p s t d a2 cs.length 0 so.length c2] ⟨67,lqHY cs so,[],0,[(26,false),(31,false),(35,false),(37,false),(41,false),(43,false),(45,false)],0,True⟩) = some (Value.bool true,((((((((((((((((((((bif (List.take (IntKind.i64.wrap ((↑(p * 256):Int) - IntKind.i64.wrap (↑sa))).toNat (List.drop 0 (repl (IntKind.i64.wrap ((↑(p * 256):Int) - IntKind.i64.wrap (↑sa))).toNat [Value.int .u8 0]))).all isU8 then bif hasN (0+(IntKind.i64.wrap ((↑(p * 256):Int) - IntKind.i64.wrap (↑sa))).toNat) (repl (IntKind.i64.wrap ((↑(p * 256):Int) - IntKind.i64.wrap (↑sa))).toNat [Value.int .u8 0]) then bif decide ((0:Int) ≤ IntKind.i64.wrap ((↑(p * 256):Int) - IntKind.i64.wrap (↑sa))) && decide (IntKind.i64.wrap ((↑(p * 256):Int) - IntKind.i64.wrap (↑sa)) ≤ IntKind.i64.wrap ((↑(p * 256):Int) - IntKind.i64.wrap (↑sa))) && decide ((1:Int) * IntKind.i64.wrap ((↑(p * 256):Int) - IntKind.i64.wrap (↑sa)) ≤ (140737488355328:Int)) && decide (IntKind.i64.wrap ((↑(p * 256):Int) - IntKind.i64.wrap (↑sa)) < (9223372036854775808:Int)) then (((True∧True∧True∧True∧True)∧True∧(Value.agg ⟨[.int .i64 (↑p),.int .i64 (↑s),.int .i64 (↑t),.slice (some ⟨64,0,none⟩) cs.length 9223372036854775872,.string ⟨⟨d⟩⟩,.slice a2 0 c2,.slice (some ⟨66,0,none⟩) so.length 9223372036854775874]⟩ = Value.agg ⟨[.int .i64 (↑p),.int .i64 (↑s),.int .i64 (↑t),.slice (some ⟨64,0,none⟩) cs.length 9223372036854775872,.string ⟨⟨d⟩⟩,.slice (Option.map (rnA (lift 67 68 [64,65,66])) a2) 0 (rnC (lift 67 68 [64,65,66]) c2),.slice (some ⟨66,0,none⟩) so.length 9223372036854775874]⟩∧True)∧((tt∧(u32s cs).all (okV (fun l => l.blt 67) 3) = true∧tt∧tt∧tt∧True∧u32s cs = List.map (rnV (lift 67 68 [64,65,66]) 3) (u32s cs))∧(tt∧(u32s so).all (okV (fun l => l.blt 67) 3) = true∧tt∧tt∧tt∧True∧u32s so = List.map (rnV (lift 67 68 [64,65,66]) 3) (u32s so))∧True)∧True)∧True∧(Value.agg ⟨[.int .i64 (↑p),.int .i64 (↑s),.int .i64 (↑t),.slice (some ⟨64,0,none⟩) cs.length 9223372036854775872,.string ⟨⟨d⟩⟩,.slice a2 0 c2,.slice (some ⟨66,0,none⟩) so.length 9223372036854775874]⟩ = Value.agg ⟨[.int .i64 (↑p),.int .i64 (↑s),.int .i64 (↑t),.slice (some ⟨64,0,none⟩) cs.length 9223372036854775872,.string ⟨⟨d⟩⟩,.slice (Option.map (rnA (lift 67 83 [64,65,66])) a2) 0 (rnC (lift 67 83 [64,65,66]) c2),.slice (some ⟨66,0,none⟩) so.length 9223372036854775874]⟩∧True)∧((tt∧(u32s so).all (okV (fun l => l.blt 67) 3) = true∧tt∧tt∧tt∧True∧u32s so = List.map (rnV (lift 67 83 [64,65,66]) 3) (u32s so))∧True)∧True)∧True∧(rr (Value.pointer (some ⟨73,0,none⟩))∧rr (Value.int .u32 (↑sa))∧Value.int .i64 (IntKind.i64.wrap ((↑(p * 256):Int) - IntKind.i64.wrap (↑sa))) = Value.int .i64 (↑k)∧True)∧((tt∧tt∧tt∧tt∧tt∧True∧rr [Value.pointer (some ⟨72,0,none⟩),.slice (some ⟨70,0,none⟩) (p * 256) 9223372036854775878])∧(tt∧tt∧tt∧tt∧tt∧True∧rr [Value.int .i64 (↑(nGran p)),.slice (some ⟨71,0,none⟩) (nWord p) 9223372036854775879])∧(tt∧(v64 (wordsB f (nWord p))).all (okV (fun l => l.blt 68) 3) = true∧tt∧tt∧tt∧True∧v64 (wordsB f (nWord p)) = List.map (rnV (lift 68 84 [70,71,72,73]) 3) (v64 (wordsB f (nWord p))))∧(tt∧(u8s zs).all (okV (fun l => l.blt 68) 3) = true∧tt∧tt∧tt∧True∧u8s zs = List.map (rnV (lift 68 84 [70,71,72,73]) 3) (u8s zs))∧True)∧(tt∧nWord p ≤ nWord p)∧(tt∧p * 256 ≤ p * 256)∧True else False else False else False)∧(!bytesEq (List.take k (List.drop sa zs)) (List.map toU8 (List.take (IntKind.i64.wrap ((↑(p * 256):Int) - IntKind.i64.wrap (↑sa))).toNat (List.drop 0 (repl (IntKind.i64.wrap ((↑(p * 256):Int) - IntKind.i64.wrap (↑sa))).toNat [Value.int .u8 0]))))) = false)∧(rr (Value.pointer (some ⟨67,0,none⟩))∧rr (Value.bool false)∧rr (Value.pointer (some ⟨73,0,none⟩))∧rr (Value.slice (some ⟨82,0,none⟩) 4 9223372036854775890)∧rr (Value.int .i64 0)∧rr (Value.pointer (some ⟨83,0,none⟩))∧rr (Value.int .i64 0)∧Value.int .i64 (IntKind.i64.wrap ((IntKind.i64.wrap (↑sa)).tdiv (256:Int))) = Value.int .i64 (↑k0)∧True)∧((tt∧tt∧True∧rr [Value.pointer (some ⟨72,0,none⟩),.slice (some ⟨70,0,none⟩) (p * 256) 9223372036854775878])∧(tt∧tt∧True∧rr [Value.int .i64 (↑(nGran p)),.slice (some ⟨71,0,none⟩) (nWord p) 9223372036854775879])∧(tt∧tt∧True∧rr (v64 (wordsB f (nWord p))))∧(tt∧tt∧True∧rr (u8s zs))∧(tt∧tt∧True∧rr [Value.int .i64 (↑p),.int .i64 (↑s),.int .i64 (↑t),.slice (some ⟨64,0,none⟩) cs.length 9223372036854775872,.string ⟨⟨d⟩⟩,.slice a2 0 c2,.slice (some ⟨66,0,none⟩) so.length 9223372036854775874])∧True)∧(nWord p ≤ nWord p∧p * 256 ≤ p * 256∧True)∧True)∧((0:Int) ≤ (↑(mA (sa+0 * s) s 27):Int)∧(↑(mA (sa+0 * s) s 27):Int) < (4294967296:Int)∧(0:Int) ≤ (↑(mE (sa+0 * s) s 27):Int)∧(↑(mE (sa+0 * s) s 27):Int) < (256:Int)∧(0:Int) ≤ (↑(mB (sa+0 * s) s 27):Int)∧(↑(mB (sa+0 * s) s 27):Int) < (65536:Int)∧(0:Int) ≤ (↑(mT (sa+0 * s) s 27):Int)∧(↑(mT (sa+0 * s) s 27):Int) < (65536:Int)∧(0:Int) ≤ (↑(mP (sa+0 * s) s 27):Int)∧(↑(mP (sa+0 * s) s 27):Int) < (65536:Int)∧(0:Int) ≤ (0:Int)∧(0:Int) < (65536:Int)∧(0:Int) ≤ (0:Int)∧(0:Int) < (4294967296:Int))∧(rr (Value.agg ⟨[.int .u32 (↑(mA (sa+0 * s) s 27):Int),.int .u8 (↑(mE (sa+0 * s) s 27):Int),.int .u16 (↑(mB (sa+0 * s) s 27):Int),.int .u16 (↑(mT (sa+0 * s) s 27):Int),.int .u16 (↑(mP (sa+0 * s) s 27):Int),.int .u16 0,.int .u32 0,.bool (mV (sa+0 * s) s 27)]⟩)∧True)∧True∧True)∧(((0:Int) ≤ (↑(mA (sa+1 * s) s 27):Int)∧(↑(mA (sa+1 * s) s 27):Int) < (4294967296:Int)∧(0:Int) ≤ (↑(mE (sa+1 * s) s 27):Int)∧(↑(mE (sa+1 * s) s 27):Int) < (256:Int)∧(0:Int) ≤ (↑(mB (sa+1 * s) s 27):Int)∧(↑(mB (sa+1 * s) s 27):Int) < (65536:Int)∧(0:Int) ≤ (↑(mT (sa+1 * s) s 27):Int)∧(↑(mT (sa+1 * s) s 27):Int) < (65536:Int)∧(0:Int) ≤ (↑(mP (sa+1 * s) s 27):Int)∧(↑(mP (sa+1 * s) s 27):Int) < (65536:Int)∧(0:Int) ≤ (0:Int)∧(0:Int) < (65536:Int)∧(0:Int) ≤ (0:Int)∧(0:Int) < (4294967296:Int))∧(0:Int) ≤ (↑(rl (↑(mA (sa+0 * s) s 27):Int) (↑(mE (sa+0 * s) s 27):Int) (↑(mB (sa+0 * s) s 27):Int) (↑(mT (sa+0 * s) s 27):Int)):Int)∧(↑(rl (↑(mA (sa+0 * s) s 27):Int) (↑(mE (sa+0 * s) s 27):Int) (↑(mB (sa+0 * s) s 27):Int) (↑(mT (sa+0 * s) s 27):Int)):Int) < (4294967296:Int)∧(0:Int) ≤ IntKind.u32.wrap (IntKind.u64.wrap ((↑(rh (↑(mA (sa+0 * s) s 27):Int) (↑(mE (sa+0 * s) s 27):Int) (↑(mB (sa+0 * s) s 27):Int) (↑(mT (sa+0 * s) s 27):Int)):Int) - IntKind.u64.wrap (↑(rl (↑(mA (sa+0 * s) s 27):Int) (↑(mE (sa+0 * s) s 27):Int) (↑(mB (sa+0 * s) s 27):Int) (↑(mT (sa+0 * s) s 27):Int)):Int)))∧IntKind.u32.wrap (IntKind.u64.wrap ((↑(rh (↑(mA (sa+0 * s) s 27):Int) (↑(mE (sa+0 * s) s 27):Int) (↑(mB (sa+0 * s) s 27):Int) (↑(mT (sa+0 * s) s 27):Int)):Int) - IntKind.u64.wrap (↑(rl (↑(mA (sa+0 * s) s 27):Int) (↑(mE (sa+0 * s) s 27):Int) (↑(mB (sa+0 * s) s 27):Int) (↑(mT (sa+0 * s) s 27):Int)):Int))) < (4294967296:Int))∧(rr (Value.agg ⟨[.int .u32 (↑(mA (sa+1 * s) s 27):Int),.int .u8 (↑(mE (sa+1 * s) s 27):Int),.int .u16 (↑(mB (sa+1 * s) s 27):Int),.int .u16 (↑(mT (sa+1 * s) s 27):Int),.int .u16 (↑(mP (sa+1 * s) s 27):Int),.int .u16 0,.int .u32 0,.bool (mV (sa+1 * s) s 27)]⟩)∧rr (Value.agg ⟨[.int .u32 (↑(rl (↑(mA (sa+0 * s) s 27):Int) (↑(mE (sa+0 * s) s 27):Int) (↑(mB (sa+0 * s) s 27):Int) (↑(mT (sa+0 * s) s 27):Int)):Int),.int .u32 (IntKind.u32.wrap (IntKind.u64.wrap ((↑(rh (↑(mA (sa+0 * s) s 27):Int) (↑(mE (sa+0 * s) s 27):Int) (↑(mB (sa+0 * s) s 27):Int) (↑(mT (sa+0 * s) s 27):Int)):Int) - IntKind.u64.wrap (↑(rl (↑(mA (sa+0 * s) s 27):Int) (↑(mE (sa+0 * s) s 27):Int) (↑(mB (sa+0 * s) s 27):Int) (↑(mT (sa+0 * s) s 27):Int)):Int))))]⟩)∧True)∧True∧True)∧mt (↑(mA (sa+1 * s) s 27):Int) (↑(mE (sa+1 * s) s 27):Int) (↑(mB (sa+1 * s) s 27):Int) (↑(mT (sa+1 * s) s 27):Int) (↑(rl (↑(mA (sa+0 * s) s 27):Int) (↑(mE (sa+0 * s) s 27):Int) (↑(mB (sa+0 * s) s 27):Int) (↑(mT (sa+0 * s) s 27):Int)):Int) (IntKind.u32.wrap (IntKind.u64.wrap ((↑(rh (↑(mA (sa+0 * s) s 27):Int) (↑(mE (sa+0 * s) s 27):Int) (↑(mB (sa+0 * s) s 27):Int) (↑(mT (sa+0 * s) s 27):Int)):Int) - IntKind.u64.wrap (↑(rl (↑(mA (sa+0 * s) s 27):Int) (↑(mE (sa+0 * s) s 27):Int) (↑(mB (sa+0 * s) s 27):Int) (↑(mT (sa+0 * s) s 27):Int)):Int)))) = false)∧((0:Int) ≤ (↑(mA (sa+0 * s) s 27):Int)∧(↑(mA (sa+0 * s) s 27):Int) < (4294967296:Int)∧(0:Int) ≤ (↑(mE (sa+0 * s) s 27):Int)∧(↑(mE (sa+0 * s) s 27):Int) < (256:Int)∧(0:Int) ≤ (↑(mB (sa+0 * s) s 27):Int)∧(↑(mB (sa+0 * s) s 27):Int) < (65536:Int)∧(0:Int) ≤ (↑(mT (sa+0 * s) s 27):Int)∧(↑(mT (sa+0 * s) s 27):Int) < (65536:Int)∧(0:Int) ≤ (↑(mP (sa+0 * s) s 27):Int)∧(↑(mP (sa+0 * s) s 27):Int) < (65536:Int)∧(0:Int) ≤ (0:Int)∧(0:Int) < (65536:Int)∧(0:Int) ≤ (0:Int)∧(0:Int) < (4294967296:Int))∧(rr (Value.agg ⟨[.int .u32 (↑(mA (sa+0 * s) s 27):Int),.int .u8 (↑(mE (sa+0 * s) s 27):Int),.int .u16 (↑(mB (sa+0 * s) s 27):Int),.int .u16 (↑(mT (sa+0 * s) s 27):Int),.int .u16 (↑(mP (sa+0 * s) s 27):Int),.int .u16 0,.int .u32 0,.bool (mV (sa+0 * s) s 27)]⟩)∧True)∧True∧True)∧(((0:Int) ≤ (↑(mA (sa+2 * s) s 27):Int)∧(↑(mA (sa+2 * s) s 27):Int) < (4294967296:Int)∧(0:Int) ≤ (↑(mE (sa+2 * s) s 27):Int)∧(↑(mE (sa+2 * s) s 27):Int) < (256:Int)∧(0:Int) ≤ (↑(mB (sa+2 * s) s 27):Int)∧(↑(mB (sa+2 * s) s 27):Int) < (65536:Int)∧(0:Int) ≤ (↑(mT (sa+2 * s) s 27):Int)∧(↑(mT (sa+2 * s) s 27):Int) < (65536:Int)∧(0:Int) ≤ (↑(mP (sa+2 * s) s 27):Int)∧(↑(mP (sa+2 * s) s 27):Int) < (65536:Int)∧(0:Int) ≤ (0:Int)∧(0:Int) < (65536:Int)∧(0:Int) ≤ (0:Int)∧(0:Int) < (4294967296:Int))∧(0:Int) ≤ (↑(rl (↑(mA (sa+0 * s) s 27):Int) (↑(mE (sa+0 * s) s 27):Int) (↑(mB (sa+0 * s) s 27):Int) (↑(mT (sa+0 * s) s 27):Int)):Int)∧(↑(rl (↑(mA (sa+0 * s) s 27):Int) (↑(mE (sa+0 * s) s 27):Int) (↑(mB (sa+0 * s) s 27):Int) (↑(mT (sa+0 * s) s 27):Int)):Int) < (4294967296:Int)∧(0:Int) ≤ IntKind.u32.wrap (IntKind.u64.wrap ((↑(rh (↑(mA (sa+0 * s) s 27):Int) (↑(mE (sa+0 * s) s 27):Int) (↑(mB (sa+0 * s) s 27):Int) (↑(mT (sa+0 * s) s 27):Int)):Int) - IntKind.u64.wrap (↑(rl (↑(mA (sa+0 * s) s 27):Int) (↑(mE (sa+0 * s) s 27):Int) (↑(mB (sa+0 * s) s 27):Int) (↑(mT (sa+0 * s) s 27):Int)):Int)))∧IntKind.u32.wrap (IntKind.u64.wrap ((↑(rh (↑(mA (sa+0 * s) s 27):Int) (↑(mE (sa+0 * s) s 27):Int) (↑(mB (sa+0 * s) s 27):Int) (↑(mT (sa+0 * s) s 27):Int)):Int) - IntKind.u64.wrap (↑(rl (↑(mA (sa+0 * s) s 27):Int) (↑(mE (sa+0 * s) s 27):Int) (↑(mB (sa+0 * s) s 27):Int) (↑(mT (sa+0 * s) s 27):Int)):Int))) < (4294967296:Int))∧(rr (Value.agg ⟨[.int .u32 (↑(mA (sa+2 * s) s 27):Int),.int .u8 (↑(mE (sa+2 * s) s 27):Int),.int .u16 (↑(mB (sa+2 * s) s 27):Int),.int .u16 (↑(mT (sa+2 * s) s 27):Int),.int .u16 (↑(mP (sa+2 * s) s 27):Int),.int .u16 0,.int .u32 0,.bool (mV (sa+2 * s) s 27)]⟩)∧rr (Value.agg ⟨[.int .u32 (↑(rl (↑(mA (sa+0 * s) s 27):Int) (↑(mE (sa+0 * s) s 27):Int) (↑(mB (sa+0 * s) s 27):Int) (↑(mT (sa+0 * s) s 27):Int)):Int),.int .u32 (IntKind.u32.wrap (IntKind.u64.wrap ((↑(rh (↑(mA (sa+0 * s) s 27):Int) (↑(mE (sa+0 * s) s 27):Int) (↑(mB (sa+0 * s) s 27):Int) (↑(mT (sa+0 * s) s 27):Int)):Int) - IntKind.u64.wrap (↑(rl (↑(mA (sa+0 * s) s 27):Int) (↑(mE (sa+0 * s) s 27):Int) (↑(mB (sa+0 * s) s 27):Int) (↑(mT (sa+0 * s) s 27):Int)):Int))))]⟩)∧True)∧True∧True)∧mt (↑(mA (sa+2 * s) s 27):Int) (↑(mE (sa+2 * s) s 27):Int) (↑(mB (sa+2 * s) s 27):Int) (↑(mT (sa+2 * s) s 27):Int) (↑(rl (↑(mA (sa+0 * s) s 27):Int) (↑(mE (sa+0 * s) s 27):Int) (↑(mB (sa+0 * s) s 27):Int) (↑(mT (sa+0 * s) s 27):Int)):Int) (IntKind.u32.wrap (IntKind.u64.wrap ((↑(rh (↑(mA (sa+0 * s) s 27):Int) (↑(mE (sa+0 * s) s 27):Int) (↑(mB (sa+0 * s) s 27):Int) (↑(mT (sa+0 * s) s 27):Int)):Int) - IntKind.u64.wrap (↑(rl (↑(mA (sa+0 * s) s 27):Int) (↑(mE (sa+0 * s) s 27):Int) (↑(mB (sa+0 * s) s 27):Int) (↑(mT (sa+0 * s) s 27):Int)):Int)))) = false)∧((0:Int) ≤ (↑(mA (sa+1 * s) s 27):Int)∧(↑(mA (sa+1 * s) s 27):Int) < (4294967296:Int)∧(0:Int) ≤ (↑(mE (sa+1 * s) s 27):Int)∧(↑(mE (sa+1 * s) s 27):Int) < (256:Int)∧(0:Int) ≤ (↑(mB (sa+1 * s) s 27):Int)∧(↑(mB (sa+1 * s) s 27):Int) < (65536:Int)∧(0:Int) ≤ (↑(mT (sa+1 * s) s 27):Int)∧(↑(mT (sa+1 * s) s 27):Int) < (65536:Int)∧(0:Int) ≤ (↑(mP (sa+1 * s) s 27):Int)∧(↑(mP (sa+1 * s) s 27):Int) < (65536:Int)∧(0:Int) ≤ (0:Int)∧(0:Int) < (65536:Int)∧(0:Int) ≤ (0:Int)∧(0:Int) < (4294967296:Int))∧(rr (Value.agg ⟨[.int .u32 (↑(mA (sa+1 * s) s 27):Int),.int .u8 (↑(mE (sa+1 * s) s 27):Int),.int .u16 (↑(mB (sa+1 * s) s 27):Int),.int .u16 (↑(mT (sa+1 * s) s 27):Int),.int .u16 (↑(mP (sa+1 * s) s 27):Int),.int .u16 0,.int .u32 0,.bool (mV (sa+1 * s) s 27)]⟩)∧True)∧True∧True)∧(((0:Int) ≤ (↑(mA (sa+2 * s) s 27):Int)∧(↑(mA (sa+2 * s) s 27):Int) < (4294967296:Int)∧(0:Int) ≤ (↑(mE (sa+2 * s) s 27):Int)∧(↑(mE (sa+2 * s) s 27):Int) < (256:Int)∧(0:Int) ≤ (↑(mB (sa+2 * s) s 27):Int)∧(↑(mB (sa+2 * s) s 27):Int) < (65536:Int)∧(0:Int) ≤ (↑(mT (sa+2 * s) s 27):Int)∧(↑(mT (sa+2 * s) s 27):Int) < (65536:Int)∧(0:Int) ≤ (↑(mP (sa+2 * s) s 27):Int)∧(↑(mP (sa+2 * s) s 27):Int) < (65536:Int)∧(0:Int) ≤ (0:Int)∧(0:Int) < (65536:Int)∧(0:Int) ≤ (0:Int)∧(0:Int) < (4294967296:Int))∧(0:Int) ≤ (↑(rl (↑(mA (sa+1 * s) s 27):Int) (↑(mE (sa+1 * s) s 27):Int) (↑(mB (sa+1 * s) s 27):Int) (↑(mT (sa+1 * s) s 27):Int)):Int)∧(↑(rl (↑(mA (sa+1 * s) s 27):Int) (↑(mE (sa+1 * s) s 27):Int) (↑(mB (sa+1 * s) s 27):Int) (↑(mT (sa+1 * s) s 27):Int)):Int) < (4294967296:Int)∧(0:Int) ≤ IntKind.u32.wrap (IntKind.u64.wrap ((↑(rh (↑(mA (sa+1 * s) s 27):Int) (↑(mE (sa+1 * s) s 27):Int) (↑(mB (sa+1 * s) s 27):Int) (↑(mT (sa+1 * s) s 27):Int)):Int) - IntKind.u64.wrap (↑(rl (↑(mA (sa+1 * s) s 27):Int) (↑(mE (sa+1 * s) s 27):Int) (↑(mB (sa+1 * s) s 27):Int) (↑(mT (sa+1 * s) s 27):Int)):Int)))∧IntKind.u32.wrap (IntKind.u64.wrap ((↑(rh (↑(mA (sa+1 * s) s 27):Int) (↑(mE (sa+1 * s) s 27):Int) (↑(mB (sa+1 * s) s 27):Int) (↑(mT (sa+1 * s) s 27):Int)):Int) - IntKind.u64.wrap (↑(rl (↑(mA (sa+1 * s) s 27):Int) (↑(mE (sa+1 * s) s 27):Int) (↑(mB (sa+1 * s) s 27):Int) (↑(mT (sa+1 * s) s 27):Int)):Int))) < (4294967296:Int))∧(rr (Value.agg ⟨[.int .u32 (↑(mA (sa+2 * s) s 27):Int),.int .u8 (↑(mE (sa+2 * s) s 27):Int),.int .u16 (↑(mB (sa+2 * s) s 27):Int),.int .u16 (↑(mT (sa+2 * s) s 27):Int),.int .u16 (↑(mP (sa+2 * s) s 27):Int),.int .u16 0,.int .u32 0,.bool (mV (sa+2 * s) s 27)]⟩)∧rr (Value.agg ⟨[.int .u32 (↑(rl (↑(mA (sa+1 * s) s 27):Int) (↑(mE (sa+1 * s) s 27):Int) (↑(mB (sa+1 * s) s 27):Int) (↑(mT (sa+1 * s) s 27):Int)):Int),.int .u32 (IntKind.u32.wrap (IntKind.u64.wrap ((↑(rh (↑(mA (sa+1 * s) s 27):Int) (↑(mE (sa+1 * s) s 27):Int) (↑(mB (sa+1 * s) s 27):Int) (↑(mT (sa+1 * s) s 27):Int)):Int) - IntKind.u64.wrap (↑(rl (↑(mA (sa+1 * s) s 27):Int) (↑(mE (sa+1 * s) s 27):Int) (↑(mB (sa+1 * s) s 27):Int) (↑(mT (sa+1 * s) s 27):Int)):Int))))]⟩)∧True)∧True∧True)∧mt (↑(mA (sa+2 * s) s 27):Int) (↑(mE (sa+2 * s) s 27):Int) (↑(mB (sa+2 * s) s 27):Int) (↑(mT (sa+2 * s) s 27):Int) (↑(rl (↑(mA (sa+1 * s) s 27):Int) (↑(mE (sa+1 * s) s 27):Int) (↑(mB (sa+1 * s) s 27):Int) (↑(mT (sa+1 * s) s 27):Int)):Int) (IntKind.u32.wrap (IntKind.u64.wrap ((↑(rh (↑(mA (sa+1 * s) s 27):Int) (↑(mE (sa+1 * s) s 27):Int) (↑(mB (sa+1 * s) s 27):Int) (↑(mT (sa+1 * s) s 27):Int)):Int) - IntKind.u64.wrap (↑(rl (↑(mA (sa+1 * s) s 27):Int) (↑(mE (sa+1 * s) s 27):Int) (↑(mB (sa+1 * s) s 27):Int) (↑(mT (sa+1 * s) s 27):Int)):Int)))) = false)∧((0:Int) ≤ (↑(mA (sa+0 * s) s 27):Int)∧(↑(mA (sa+0 * s) s 27):Int) < (4294967296:Int)∧(0:Int) ≤ (↑(mE (sa+0 * s) s 27):Int)∧(↑(mE (sa+0 * s) s 27):Int) < (256:Int)∧(0:Int) ≤ (↑(mB (sa+0 * s) s 27):Int)∧(↑(mB (sa+0 * s) s 27):Int) < (65536:Int)∧(0:Int) ≤ (↑(mT (sa+0 * s) s 27):Int)∧(↑(mT (sa+0 * s) s 27):Int) < (65536:Int)∧(0:Int) ≤ (↑(mP (sa+0 * s) s 27):Int)∧(↑(mP (sa+0 * s) s 27):Int) < (65536:Int)∧(0:Int) ≤ (0:Int)∧(0:Int) < (65536:Int)∧(0:Int) ≤ (0:Int)∧(0:Int) < (4294967296:Int))∧(rr (Value.agg ⟨[.int .u32 (↑(mA (sa+0 * s) s 27):Int),.int .u8 (↑(mE (sa+0 * s) s 27):Int),.int .u16 (↑(mB (sa+0 * s) s 27):Int),.int .u16 (↑(mT (sa+0 * s) s 27):Int),.int .u16 (↑(mP (sa+0 * s) s 27):Int),.int .u16 0,.int .u32 0,.bool (mV (sa+0 * s) s 27)]⟩)∧True)∧True∧True)∧(((0:Int) ≤ (↑(mA (sa+3 * s) s 27):Int)∧(↑(mA (sa+3 * s) s 27):Int) < (4294967296:Int)∧(0:Int) ≤ (↑(mE (sa+3 * s) s 27):Int)∧(↑(mE (sa+3 * s) s 27):Int) < (256:Int)∧(0:Int) ≤ (↑(mB (sa+3 * s) s 27):Int)∧(↑(mB (sa+3 * s) s 27):Int) < (65536:Int)∧(0:Int) ≤ (↑(mT (sa+3 * s) s 27):Int)∧(↑(mT (sa+3 * s) s 27):Int) < (65536:Int)∧(0:Int) ≤ (↑(mP (sa+3 * s) s 27):Int)∧(↑(mP (sa+3 * s) s 27):Int) < (65536:Int)∧(0:Int) ≤ (0:Int)∧(0:Int) < (65536:Int)∧(0:Int) ≤ (0:Int)∧(0:Int) < (4294967296:Int))∧(0:Int) ≤ (↑(rl (↑(mA (sa+0 * s) s 27):Int) (↑(mE (sa+0 * s) s 27):Int) (↑(mB (sa+0 * s) s 27):Int) (↑(mT (sa+0 * s) s 27):Int)):Int)∧(↑(rl (↑(mA (sa+0 * s) s 27):Int) (↑(mE (sa+0 * s) s 27):Int) (↑(mB (sa+0 * s) s 27):Int) (↑(mT (sa+0 * s) s 27):Int)):Int) < (4294967296:Int)∧(0:Int) ≤ IntKind.u32.wrap (IntKind.u64.wrap ((↑(rh (↑(mA (sa+0 * s) s 27):Int) (↑(mE (sa+0 * s) s 27):Int) (↑(mB (sa+0 * s) s 27):Int) (↑(mT (sa+0 * s) s 27):Int)):Int) - IntKind.u64.wrap (↑(rl (↑(mA (sa+0 * s) s 27):Int) (↑(mE (sa+0 * s) s 27):Int) (↑(mB (sa+0 * s) s 27):Int) (↑(mT (sa+0 * s) s 27):Int)):Int)))∧IntKind.u32.wrap (IntKind.u64.wrap ((↑(rh (↑(mA (sa+0 * s) s 27):Int) (↑(mE (sa+0 * s) s 27):Int) (↑(mB (sa+0 * s) s 27):Int) (↑(mT (sa+0 * s) s 27):Int)):Int) - IntKind.u64.wrap (↑(rl (↑(mA (sa+0 * s) s 27):Int) (↑(mE (sa+0 * s) s 27):Int) (↑(mB (sa+0 * s) s 27):Int) (↑(mT (sa+0 * s) s 27):Int)):Int))) < (4294967296:Int))∧(rr (Value.agg ⟨[.int .u32 (↑(mA (sa+3 * s) s 27):Int),.int .u8 (↑(mE (sa+3 * s) s 27):Int),.int .u16 (↑(mB (sa+3 * s) s 27):Int),.int .u16 (↑(mT (sa+3 * s) s 27):Int),.int .u16 (↑(mP (sa+3 * s) s 27):Int),.int .u16 0,.int .u32 0,.bool (mV (sa+3 * s) s 27)]⟩)∧rr (Value.agg ⟨[.int .u32 (↑(rl (↑(mA (sa+0 * s) s 27):Int) (↑(mE (sa+0 * s) s 27):Int) (↑(mB (sa+0 * s) s 27):Int) (↑(mT (sa+0 * s) s 27):Int)):Int),.int .u32 (IntKind.u32.wrap (IntKind.u64.wrap ((↑(rh (↑(mA (sa+0 * s) s 27):Int) (↑(mE (sa+0 * s) s 27):Int) (↑(mB (sa+0 * s) s 27):Int) (↑(mT (sa+0 * s) s 27):Int)):Int) - IntKind.u64.wrap (↑(rl (↑(mA (sa+0 * s) s 27):Int) (↑(mE (sa+0 * s) s 27):Int) (↑(mB (sa+0 * s) s 27):Int) (↑(mT (sa+0 * s) s 27):Int)):Int))))]⟩)∧True)∧True∧True)∧mt (↑(mA (sa+3 * s) s 27):Int) (↑(mE (sa+3 * s) s 27):Int) (↑(mB (sa+3 * s) s 27):Int) (↑(mT (sa+3 * s) s 27):Int) (↑(rl (↑(mA (sa+0 * s) s 27):Int) (↑(mE (sa+0 * s) s 27):Int) (↑(mB (sa+0 * s) s 27):Int) (↑(mT (sa+0 * s) s 27):Int)):Int) (IntKind.u32.wrap (IntKind.u64.wrap ((↑(rh (↑(mA (sa+0 * s) s 27):Int) (↑(mE (sa+0 * s) s 27):Int) (↑(mB (sa+0 * s) s 27):Int) (↑(mT (sa+0 * s) s 27):Int)):Int) - IntKind.u64.wrap (↑(rl (↑(mA (sa+0 * s) s 27):Int) (↑(mE (sa+0 * s) s 27):Int) (↑(mB (sa+0 * s) s 27):Int) (↑(mT (sa+0 * s) s 27):Int)):Int)))) = false)∧((0:Int) ≤ (↑(mA (sa+1 * s) s 27):Int)∧(↑(mA (sa+1 * s) s 27):Int) < (4294967296:Int)∧(0:Int) ≤ (↑(mE (sa+1 * s) s 27):Int)∧(↑(mE (sa+1 * s) s 27):Int) < (256:Int)∧(0:Int) ≤ (↑(mB (sa+1 * s) s 27):Int)∧(↑(mB (sa+1 * s) s 27):Int) < (65536:Int)∧(0:Int) ≤ (↑(mT (sa+1 * s) s 27):Int)∧(↑(mT (sa+1 * s) s 27):Int) < (65536:Int)∧(0:Int) ≤ (↑(mP (sa+1 * s) s 27):Int)∧(↑(mP (sa+1 * s) s 27):Int) < (65536:Int)∧(0:Int) ≤ (0:Int)∧(0:Int) < (65536:Int)∧(0:Int) ≤ (0:Int)∧(0:Int) < (4294967296:Int))∧(rr (Value.agg ⟨[.int .u32 (↑(mA (sa+1 * s) s 27):Int),.int .u8 (↑(mE (sa+1 * s) s 27):Int),.int .u16 (↑(mB (sa+1 * s) s 27):Int),.int .u16 (↑(mT (sa+1 * s) s 27):Int),.int .u16 (↑(mP (sa+1 * s) s 27):Int),.int .u16 0,.int .u32 0,.bool (mV (sa+1 * s) s 27)]⟩)∧True)∧True∧True)∧(((0:Int) ≤ (↑(mA (sa+3 * s) s 27):Int)∧(↑(mA (sa+3 * s) s 27):Int) < (4294967296:Int)∧(0:Int) ≤ (↑(mE (sa+3 * s) s 27):Int)∧(↑(mE (sa+3 * s) s 27):Int) < (256:Int)∧(0:Int) ≤ (↑(mB (sa+3 * s) s 27):Int)∧(↑(mB (sa+3 * s) s 27):Int) < (65536:Int)∧(0:Int) ≤ (↑(mT (sa+3 * s) s 27):Int)∧(↑(mT (sa+3 * s) s 27):Int) < (65536:Int)∧(0:Int) ≤ (↑(mP (sa+3 * s) s 27):Int)∧(↑(mP (sa+3 * s) s 27):Int) < (65536:Int)∧(0:Int) ≤ (0:Int)∧(0:Int) < (65536:Int)∧(0:Int) ≤ (0:Int)∧(0:Int) < (4294967296:Int))∧(0:Int) ≤ (↑(rl (↑(mA (sa+1 * s) s 27):Int) (↑(mE (sa+1 * s) s 27):Int) (↑(mB (sa+1 * s) s 27):Int) (↑(mT (sa+1 * s) s 27):Int)):Int)∧(↑(rl (↑(mA (sa+1 * s) s 27):Int) (↑(mE (sa+1 * s) s 27):Int) (↑(mB (sa+1 * s) s 27):Int) (↑(mT (sa+1 * s) s 27):Int)):Int) < (4294967296:Int)∧(0:Int) ≤ IntKind.u32.wrap (IntKind.u64.wrap ((↑(rh (↑(mA (sa+1 * s) s 27):Int) (↑(mE (sa+1 * s) s 27):Int) (↑(mB (sa+1 * s) s 27):Int) (↑(mT (sa+1 * s) s 27):Int)):Int) - IntKind.u64.wrap (↑(rl (↑(mA (sa+1 * s) s 27):Int) (↑(mE (sa+1 * s) s 27):Int) (↑(mB (sa+1 * s) s 27):Int) (↑(mT (sa+1 * s) s 27):Int)):Int)))∧IntKind.u32.wrap (IntKind.u64.wrap ((↑(rh (↑(mA (sa+1 * s) s 27):Int) (↑(mE (sa+1 * s) s 27):Int) (↑(mB (sa+1 * s) s 27):Int) (↑(mT (sa+1 * s) s 27):Int)):Int) - IntKind.u64.wrap (↑(rl (↑(mA (sa+1 * s) s 27):Int) (↑(mE (sa+1 * s) s 27):Int) (↑(mB (sa+1 * s) s 27):Int) (↑(mT (sa+1 * s) s 27):Int)):Int))) < (4294967296:Int))∧(rr (Value.agg ⟨[.int .u32 (↑(mA (sa+3 * s) s 27):Int),.int .u8 (↑(mE (sa+3 * s) s 27):Int),.int .u16 (↑(mB (sa+3 * s) s 27):Int),.int .u16 (↑(mT (sa+3 * s) s 27):Int),.int .u16 (↑(mP (sa+3 * s) s 27):Int),.int .u16 0,.int .u32 0,.bool (mV (sa+3 * s) s 27)]⟩)∧rr (Value.agg ⟨[.int .u32 (↑(rl (↑(mA (sa+1 * s) s 27):Int) (↑(mE (sa+1 * s) s 27):Int) (↑(mB (sa+1 * s) s 27):Int) (↑(mT (sa+1 * s) s 27):Int)):Int),.int .u32 (IntKind.u32.wrap (IntKind.u64.wrap ((↑(rh (↑(mA (sa+1 * s) s 27):Int) (↑(mE (sa+1 * s) s 27):Int) (↑(mB (sa+1 * s) s 27):Int) (↑(mT (sa+1 * s) s 27):Int)):Int) - IntKind.u64.wrap (↑(rl (↑(mA (sa+1 * s) s 27):Int) (↑(mE (sa+1 * s) s 27):Int) (↑(mB (sa+1 * s) s 27):Int) (↑(mT (sa+1 * s) s 27):Int)):Int))))]⟩)∧True)∧True∧True)∧mt (↑(mA (sa+3 * s) s 27):Int) (↑(mE (sa+3 * s) s 27):Int) (↑(mB (sa+3 * s) s 27):Int) (↑(mT (sa+3 * s) s 27):Int) (↑(rl (↑(mA (sa+1 * s) s 27):Int) (↑(mE (sa+1 * s) s 27):Int) (↑(mB (sa+1 * s) s 27):Int) (↑(mT (sa+1 * s) s 27):Int)):Int) (IntKind.u32.wrap (IntKind.u64.wrap ((↑(rh (↑(mA (sa+1 * s) s 27):Int) (↑(mE (sa+1 * s) s 27):Int) (↑(mB (sa+1 * s) s 27):Int) (↑(mT (sa+1 * s) s 27):Int)):Int) - IntKind.u64.wrap (↑(rl (↑(mA (sa+1 * s) s 27):Int) (↑(mE (sa+1 * s) s 27):Int) (↑(mB (sa+1 * s) s 27):Int) (↑(mT (sa+1 * s) s 27):Int)):Int)))) = false)∧((0:Int) ≤ (↑(mA (sa+2 * s) s 27):Int)∧(↑(mA (sa+2 * s) s 27):Int) < (4294967296:Int)∧(0:Int) ≤ (↑(mE (sa+2 * s) s 27):Int)∧(↑(mE (sa+2 * s) s 27):Int) < (256:Int)∧(0:Int) ≤ (↑(mB (sa+2 * s) s 27):Int)∧(↑(mB (sa+2 * s) s 27):Int) < (65536:Int)∧(0:Int) ≤ (↑(mT (sa+2 * s) s 27):Int)∧(↑(mT (sa+2 * s) s 27):Int) < (65536:Int)∧(0:Int) ≤ (↑(mP (sa+2 * s) s 27):Int)∧(↑(mP (sa+2 * s) s 27):Int) < (65536:Int)∧(0:Int) ≤ (0:Int)∧(0:Int) < (65536:Int)∧(0:Int) ≤ (0:Int)∧(0:Int) < (4294967296:Int))∧(rr (Value.agg ⟨[.int .u32 (↑(mA (sa+2 * s) s 27):Int),.int .u8 (↑(mE (sa+2 * s) s 27):Int),.int .u16 (↑(mB (sa+2 * s) s 27):Int),.int .u16 (↑(mT (sa+2 * s) s 27):Int),.int .u16 (↑(mP (sa+2 * s) s 27):Int),.int .u16 0,.int .u32 0,.bool (mV (sa+2 * s) s 27)]⟩)∧True)∧True∧True)∧(((0:Int) ≤ (↑(mA (sa+3 * s) s 27):Int)∧(↑(mA (sa+3 * s) s 27):Int) < (4294967296:Int)∧(0:Int) ≤ (↑(mE (sa+3 * s) s 27):Int)∧(↑(mE (sa+3 * s) s 27):Int) < (256:Int)∧(0:Int) ≤ (↑(mB (sa+3 * s) s 27):Int)∧(↑(mB (sa+3 * s) s 27):Int) < (65536:Int)∧(0:Int) ≤ (↑(mT (sa+3 * s) s 27):Int)∧(↑(mT (sa+3 * s) s 27):Int) < (65536:Int)∧(0:Int) ≤ (↑(mP (sa+3 * s) s 27):Int)∧(↑(mP (sa+3 * s) s 27):Int) < (65536:Int)∧(0:Int) ≤ (0:Int)∧(0:Int) < (65536:Int)∧(0:Int) ≤ (0:Int)∧(0:Int) < (4294967296:Int))∧(0:Int) ≤ (↑(rl (↑(mA (sa+2 * s) s 27):Int) (↑(mE (sa+2 * s) s 27):Int) (↑(mB (sa+2 * s) s 27):Int) (↑(mT (sa+2 * s) s 27):Int)):Int)∧(↑(rl (↑(mA (sa+2 * s) s 27):Int) (↑(mE (sa+2 * s) s 27):Int) (↑(mB (sa+2 * s) s 27):Int) (↑(mT (sa+2 * s) s 27):Int)):Int) < (4294967296:Int)∧(0:Int) ≤ IntKind.u32.wrap (IntKind.u64.wrap ((↑(rh (↑(mA (sa+2 * s) s 27):Int) (↑(mE (sa+2 * s) s 27):Int) (↑(mB (sa+2 * s) s 27):Int) (↑(mT (sa+2 * s) s 27):Int)):Int) - IntKind.u64.wrap (↑(rl (↑(mA (sa+2 * s) s 27):Int) (↑(mE (sa+2 * s) s 27):Int) (↑(mB (sa+2 * s) s 27):Int) (↑(mT (sa+2 * s) s 27):Int)):Int)))∧IntKind.u32.wrap (IntKind.u64.wrap ((↑(rh (↑(mA (sa+2 * s) s 27):Int) (↑(mE (sa+2 * s) s 27):Int) (↑(mB (sa+2 * s) s 27):Int) (↑(mT (sa+2 * s) s 27):Int)):Int) - IntKind.u64.wrap (↑(rl (↑(mA (sa+2 * s) s 27):Int) (↑(mE (sa+2 * s) s 27):Int) (↑(mB (sa+2 * s) s 27):Int) (↑(mT (sa+2 * s) s 27):Int)):Int))) < (4294967296:Int))∧(rr (Value.agg ⟨[.int .u32 (↑(mA (sa+3 * s) s 27):Int),.int .u8 (↑(mE (sa+3 * s) s 27):Int),.int .u16 (↑(mB (sa+3 * s) s 27):Int),.int .u16 (↑(mT (sa+3 * s) s 27):Int),.int .u16 (↑(mP (sa+3 * s) s 27):Int),.int .u16 0,.int .u32 0,.bool (mV (sa+3 * s) s 27)]⟩)∧rr (Value.agg ⟨[.int .u32 (↑(rl (↑(mA (sa+2 * s) s 27):Int) (↑(mE (sa+2 * s) s 27):Int) (↑(mB (sa+2 * s) s 27):Int) (↑(mT (sa+2 * s) s 27):Int)):Int),.int .u32 (IntKind.u32.wrap (IntKind.u64.wrap ((↑(rh (↑(mA (sa+2 * s) s 27):Int) (↑(mE (sa+2 * s) s 27):Int) (↑(mB (sa+2 * s) s 27):Int) (↑(mT (sa+2 * s) s 27):Int)):Int) - IntKind.u64.wrap (↑(rl (↑(mA (sa+2 * s) s 27):Int) (↑(mE (sa+2 * s) s 27):Int) (↑(mB (sa+2 * s) s 27):Int) (↑(mT (sa+2 * s) s 27):Int)):Int))))]⟩)∧True)∧True∧True)∧mt (↑(mA (sa+3 * s) s 27):Int) (↑(mE (sa+3 * s) s 27):Int) (↑(mB (sa+3 * s) s 27):Int) (↑(mT (sa+3 * s) s 27):Int) (↑(rl (↑(mA (sa+2 * s) s 27):Int) (↑(mE (sa+2 * s) s 27):Int) (↑(mB (sa+2 * s) s 27):Int) (↑(mT (sa+2 * s) s 27):Int)):Int) (IntKind.u32.wrap (IntKind.u64.wrap ((↑(rh (↑(mA (sa+2 * s) s 27):Int) (↑(mE (sa+2 * s) s 27):Int) (↑(mB (sa+2 * s) s 27):Int) (↑(mT (sa+2 * s) s 27):Int)):Int) - IntKind.u64.wrap (↑(rl (↑(mA (sa+2 * s) s 27):Int) (↑(mE (sa+2 * s) s 27):Int) (↑(mB (sa+2 * s) s 27):Int) (↑(mT (sa+2 * s) s 27):Int)):Int)))) = false):=by kernel_rfl
end Go.Proofs.Ytliidiceljdgmaa
namespace Go.Proofs.Ytliidiceljdgmaa
open Go.RowKit
open Sy
set_option maxRecDepth 100000
theorem mk_dec {a s p c : Nat} (h : makeOk a s p = true) (ha : a < 4294967296) (h1 : a ≤ c) (h2 : c ≤ a + s) : decN (mE a s p) (mB a s p) (mT a s p) c = (a,a + s):=by
 obtain ⟨h3,h4,h5⟩:=makeOk_true h
 unfold encX at h5
 simp only [rr, tt, Bool.and_eq_true,decide_eq_true_eq] at h5
 have hd:=enc_at (b:=a) (t:=a + s) (c:=c) ha (by omega) h4 h1 h2
 unfold mE mB mT
 rw [if_pos h,if_pos h,if_pos h,hd]
 first
  | rw [h5.1.2,h5.2]
  | rw [h5.2.1,h5.2.2]
theorem mk_rg {a s p : Nat} (h : makeOk a s p = true) (ha : a < 4294967296) : rgLo (mA a s p : Nat) (mE a s p : Nat) (mB a s p : Nat) (mT a s p : Nat) = a ∧ rgHi (mA a s p : Nat) (mE a s p : Nat) (mB a s p : Nat) (mT a s p : Nat) = a + s:=by
 unfold rgLo rgHi
 simp only [rr, tt, Int.toNat_natCast]
 have e : mA a s p = a:=by unfold mA; rw [if_pos h]
 rw [e,mk_dec h ha (Nat.le_refl _) (by omega)]
 exact ⟨rfl,rfl⟩
theorem make_pages (a s p : Nat) (h1 : a % 256 = 0) (h2 : s % 256 = 0) (h3 : a + s ≤ 500000) (hp : p ≤ 255) : makeOk a s p = true:=by
 have e1 : a = a / 256 * 2 ^ 8:=by rw [show (2 : Nat) ^ 8 = 256 from rfl]; omega
 have e2 : s = s / 256 * 2 ^ 8:=by rw [show (2 : Nat) ^ 8 = 256 from rfl]; omega
 have hx:=(pad_exact (a:=a / 256) (p:=s / 256) (k:=8) (by rw [show (2 : Nat) ^ 8 = 256 from rfl]; omega) (by rw [show (2 : Nat) ^ 8 = 256 from rfl]; omega)).1
 rw [← e1,← e2] at hx
 unfold makeOk
 rw [hx,decide_eq_true hp,decide_eq_true (by omega : a + s ≤ 4294967296)]
 rfl
theorem meets_apart {x a s : Nat} (y : Nat) (h : a + s ≤ x) : meetsN x y a s = false:=by
 unfold meetsN
 apply decide_eq_false
 omega
theorem patA_drop (i : Nat) (bs zs : List UInt8) (n : Nat) (h1 : i + bs.length ≤ n) (h2 : i + bs.length ≤ zs.length) : (patA i bs zs).drop n = zs.drop n:=by
 apply List.ext_getElem?
 intro k
 rw [List.getElem?_drop,List.getElem?_drop,patA_get i bs zs h2,if_neg (by omega)]
theorem codeZ_drop (cs : List Nat) (zs : List UInt8) (n : Nat) : ∀ k,4 * k ≤ n → n ≤ zs.length → (codeZ cs k zs).drop n = zs.drop n
 | 0,_,_ => rfl
 | k + 1,h,hn => by
  unfold codeZ
  rw [patA_drop _ _ _ n (by rw [leW_len]; omega) (by rw [leW_len,codeZ_len cs zs k (by omega)]; omega),codeZ_drop cs zs n k (by omega) hn]
theorem relZ_drop (da : Nat) (rs : List Rl) (zs : List UInt8) (N n : Nat) (hN : zs.length = N) (h : ∀ r ∈ rs,RlFit da N r) (h2 : ∀ r ∈ rs,da + r.at_ + 16 ≤ n) : ∀ k,k ≤ rs.length → (relZ da rs zs k).drop n = zs.drop n
 | 0,_ => rfl
 | k + 1,hk => by
  have hm : rl0 rs k ∈ rs:=by
   unfold rl0; rw [List.getD_eq_getElem?_getD,List.getElem?_eq_getElem (by omega)]; exact List.getElem_mem _
  have h3:=h2 _ hm
  have h4:=(h _ hm).fit
  unfold relZ
  rw [patA_drop _ _ _ n (by rw [cbL_len]; omega) (by rw [cbL_len,relZ_len da rs zs N hN h k (by omega)]; omega),relZ_drop da rs zs N n hN h h2 k (by omega)]
theorem rlT_no (da : Nat) (rs : List Rl) (n : Nat) (h2 : ∀ r ∈ rs,da + r.at_ + 16 ≤ n) (g : Nat) (hg : n ≤ 16 * g) : ∀ k,k ≤ rs.length → rlT da rs k g = false
 | 0,_ => rfl
 | k + 1,hk => by
  have hm : rl0 rs k ∈ rs:=by
   unfold rl0; rw [List.getD_eq_getElem?_getD,List.getElem?_eq_getElem (by omega)]; exact List.getElem_mem _
  have h3:=h2 _ hm
  show setB (rlT da rs k) ((da + (rl0 rs k).at_) / 16) true g = false
  unfold setB
  rw [if_neg (by omega)]
  exact rlT_no da rs n h2 g hg k (by omega)
theorem zsB_drop (p : Nat) (cs : List Nat) (da : Nat) (d : List UInt8) (n : Nat) (h1 : 4 * cs.length ≤ n) (h2 : da + d.length ≤ n) (h3 : n ≤ p * 256) : (zsB p cs da d).drop n = List.replicate (p * 256 - n) 0:=by
 unfold zsB
 rw [patA_drop _ _ _ n h2 (by rw [codeZ_len _ _ _ (by rw [List.length_replicate]; omega),List.length_replicate]; omega),codeZ_drop _ _ _ _ h1 (by rw [List.length_replicate]; exact h3),List.drop_replicate]
theorem andNot_le (x y : Nat) (hx : x < 65536) (hy : y < 65536) (h : bits .andNot .u16 (x : Int) (y : Int) = 0) : x ≤ y:=by
 have h1 : IntKind.u16.wrap ((BitVec.ofInt 16 (x : Int) &&& ~~~ BitVec.ofInt 16 (y : Int)).toNat : Int) = 0:=h
 have hlt:=(BitVec.ofInt 16 (x : Int) &&& ~~~ BitVec.ofInt 16 (y : Int)).isLt
 rw [IntKind.wrap_u16] at h1
 have h2 : (BitVec.ofInt 16 (x : Int) &&& ~~~ BitVec.ofInt 16 (y : Int)).toNat = 0:=by omega
 have h3 : BitVec.ofInt 16 (x : Int) &&& ~~~ BitVec.ofInt 16 (y : Int) = 0#16:=BitVec.eq_of_toNat_eq h2
 have h4 : (BitVec.ofInt 16 (x : Int) &&& BitVec.ofInt 16 (y : Int)) = BitVec.ofInt 16 (x : Int):=by
  apply BitVec.eq_of_getLsbD_eq
  intro i hi
  have:=congrArg (fun v => BitVec.getLsbD v i) h3
  simp only [rr, tt, BitVec.getLsbD_and,BitVec.getLsbD_not,BitVec.getLsbD_zero] at this
  rw [BitVec.getLsbD_and]
  revert this
  cases BitVec.getLsbD (BitVec.ofInt 16 (x : Int)) i <;> cases BitVec.getLsbD (BitVec.ofInt 16 (y : Int)) i <;> simp [hi]
 have h5:=congrArg BitVec.toNat h4
 rw [BitVec.toNat_and,BitVec.ofInt_natCast,BitVec.ofInt_natCast,BitVec.toNat_ofNat,BitVec.toNat_ofNat,Nat.mod_eq_of_lt (by omega),Nat.mod_eq_of_lt (by omega)] at h5
 rw [← h5]
 exact Nat.and_le_right
theorem enc_small {a s p : Nat} (h : makeOk a s p = true) : mE a s p < 22 ∧ mB a s p < 4096 ∧ mT a s p < 4096 ∧ mP a s p = p:=by
 unfold mE mB mT mP
 rw [if_pos h,if_pos h,if_pos h,if_pos h]
 have h1:=expo_le a (a + s)
 refine ⟨?_,?_,?_,rfl⟩
 ·unfold encE; split <;> omega
 ·unfold encB; split <;> omega
 ·unfold encT; split <;> omega
theorem rl_fit {types : Int} {nc len : Nat} {c N : Nat} {r : Rl} {behind : Nat} (hr : RlOk r) (ht : types ≤ 2048) (hn : nc ≤ 4096) (hl : len ≤ 16384) (hc : c % 256 = 0) (hc2 : c < 500000) (hN : c + len ≤ N) (h : relRight types nc len 0 c r behind = true) : RlFit c N r ∧ c + r.at_ + 16 ≤ c + len:=by
 unfold relRight at h
 rw [Bool.and_eq_true,Bool.not_eq_true'] at h
 obtain ⟨h1,h2⟩:=h
 unfold relBad at h1
 simp only [rr, tt, Bool.or_eq_false_iff,decide_eq_false_iff_not] at h1
 obtain ⟨g1,g2,g3,g4,g5,g6⟩:=h1
 have hp : r.perms ≤ 155:=by
  simp only [rr, tt, bne_eq_false_iff_eq] at g5
  unfold allowed at g5
  cases hcode : r.code <;> rw [hcode] at g5
  ·exact andNot_le r.perms 155 hr.perms (by omega) g5
  ·have:=andNot_le r.perms 133 hr.perms (by omega) g5; omega
 have hw : whole nc len r.code ≤ 16384:=by
  unfold whole; cases r.code <;> simp only [rr, tt, cond_true,cond_false] <;> omega
 have hmk : makeOk (bif r.code then r.off else (c + r.off) % 4294967296) r.size r.perms = true:=by
  have e : (bif r.code then r.off else (c + r.off) % 4294967296) = (bif r.code then 0 else c) + r.off:=by
   cases r.code <;> simp only [rr, tt, cond_true,cond_false] <;> omega
  rw [e]
  unfold makeOk
  rw [h2,decide_eq_true (by omega : r.perms ≤ 255)]
  have : (bif r.code then 0 else c) ≤ 500000:=by cases r.code <;> simp only [rr, tt, cond_true,cond_false] <;> omega
  rw [decide_eq_true (by omega)]
  rfl
 obtain ⟨q1,q2,q3,q4⟩:=enc_small hmk
 refine ⟨⟨hr,by omega,by omega,?_,?_⟩,by omega⟩
 ·show mV _ _ _ = true
  unfold mV; exact hmk
 ·show soundN (mE _ _ _) (mB _ _ _) (mT _ _ _) (mP _ _ _) r.typ 0 = true
  unfold soundN
  rw [decide_eq_true q1,decide_eq_true q2,decide_eq_true q3,q4,decide_eq_true (by omega : r.perms < 256),decide_eq_true (by omega : r.typ < 4096)]
  rfl
end Go.Proofs.Ytliidiceljdgmaa
namespace Go.Proofs.Ytliidiceljdgmaa
open Go.RowKit
open Sy
set_option maxRecDepth 100000
def leB0 (a : Int) : Bool:=decide (0 ≤ a)
def ltB (a b : Int) : Bool:=decide (0 ≤ a) && decide (a < b)
def mkD : FuncId → List Value → Option Con:=fun f args => bif Nat.beq f 77 then
 match args with
 | [.agg ⟨[.int .u32 a,.int .u32 s]⟩,.int .u16 p] => bif ltB a 4294967296 && ltB s 4294967296 && leB0 p then some (makeZ a s p) else none
 | _ => none
 else bif Nat.beq f 65 then
 match args with
 | [.agg ⟨[.int .u32 c,.int .u8 e,.int .u16 b,.int .u16 t,.int .u16 p,.int .u16 y,.int .u32 r,.bool v]⟩,.int .u32 to] => bif ltB c 4294967296 && ltB e 256 && ltB b 65536 && ltB t 65536 && ltB p 65536 && ltB y 65536 && ltB r 4294967296 && ltB to 4294967296 then some (addrZ c e b t p y r v to) else none
 | _ => none
 else none
theorem ltB_is {a b : Int} (h : ltB a b = true) : 0 ≤ a ∧ a < b:=by simpa [ltB] using h
theorem mkD_ok : ∀ f args c,mkD f args = some c → ConOk Try.prog f 3 c ∧ FlatC c:=by
 intro f args c h
 unfold mkD at h
 cases h1 : Nat.beq f 77 <;> rw [h1] at h
 ·simp only [rr, tt, cond_false] at h
  obtain ⟨h2,h3⟩:=bif_some h
  have h2:=eB h2
  subst h2
  split at h3
  ·obtain ⟨h4,h5⟩:=bif_some h3
   cases h5
   simp only [rr, tt, Bool.and_eq_true] at h4
   obtain ⟨⟨⟨⟨⟨⟨⟨a1,a2⟩,a3⟩,a4⟩,a5⟩,a6⟩,a7⟩,a8⟩:=h4
   have a1:=ltB_is a1; have a2:=ltB_is a2; have a3:=ltB_is a3; have a4:=ltB_is a4
   have a5:=ltB_is a5; have a6:=ltB_is a6; have a7:=ltB_is a7; have a8:=ltB_is a8
   exact ⟨addr_con _ _ _ _ _ _ _ _ _ ⟨a1.1,a1.2,a2.1,a2.2,a3.1,a3.2,a4.1,a4.2,a5.1,a5.2,a6.1,a6.2,a7.1,a7.2,a8.1,a8.2⟩,⟨fun x hx => by cases hx⟩⟩
  ·cases h3
 ·have h2:=eB h1
  subst h2
  simp only [rr, tt, cond_true] at h
  split at h
  ·obtain ⟨h4,h5⟩:=bif_some h
   cases h5
   simp only [rr, tt, Bool.and_eq_true] at h4
   obtain ⟨⟨a1,a2⟩,a3⟩:=h4
   have a1:=ltB_is a1; have a2:=ltB_is a2
   exact ⟨make_con _ _ _ ⟨a1.1,a1.2,a2.1,a2.2,by simpa [leB0] using a3⟩,⟨fun x hx => by cases hx⟩⟩
  ·cases h
def lworksC : Con:=⟨[],64,[],[],.bool true,64,[],[]⟩
def WRun (f : FuncId) (c : Con) : Prop:=ConRun 3 (evF Try.prog (baseD 3 mkD noBase) noLoop 1000 40) f c
theorem wRun_ok {f : FuncId} {c : Con} (h : WRun f c = True) : ConOk Try.prog f 3 c ∧ FlatC c:=conRun_ok (run_ok ar_names (baseD_ok mkD_ok (noBase_ok _)) (noLoop_ok _) 40) h
theorem lworks_run : WRun 10 lworksC = True:=by kernel_rfl
end Go.Proofs.Ytliidiceljdgmaa
namespace Go.Proofs.Ytliidiceljdgmaa
open Go.RowKit
open Sy
set_option maxRecDepth 100000
theorem lw_con : ConOk Try.prog 10 3 lworksC ∧ FlatC lworksC:=wRun_ok lworks_run
theorem bytes_refl (d : List UInt8) : bytesEq d d = true:=by rw [bytesEq_iff]; simp
theorem zer_map (n : Nat) : List.map toU8 (List.take n (List.drop 0 (repl n [Value.int .u8 0]))) = List.replicate n 0:=by
 rw [List.drop_zero,repl_one,repl_u8,List.take_of_length_le (by rw [u8s_lenA,List.length_replicate]; exact Nat.le_refl _),toU8_map]
theorem zer_u8 (n : Nat) : (List.take n (List.drop 0 (repl n [Value.int .u8 0]))).all isU8 = true:=by
 rw [List.drop_zero,repl_one,repl_u8,List.take_of_length_le (by rw [u8s_lenA,List.length_replicate]; exact Nat.le_refl _),isU8_allA]
theorem zer_has (n : Nat) : hasN n (repl n [Value.int .u8 0]) = true:=by
 rw [repl_one,repl_u8,u8s_hasA,List.length_replicate]; exact decide_eq_true (Nat.le_refl _)
structure StOk (p s sa j : Nat) : Prop where
 p2 : p ≤ 1024
 al : sa % 256 = 0
 sl : s % 256 = 0
 fit : sa + 4 * s ≤ 400000
 lt : sa < p * 256
theorem st_mk {p s sa j : Nat} (h : StOk p s sa j) (k : Nat) (hk : k < 4) : makeOk (sa + k * s) s 27 = true:=by
 have h1:=h.al; have h2:=h.sl; have h3:=h.fit
 have hks : k * s ≤ 3 * s:=Nat.mul_le_mul_right s (by omega)
 refine make_pages _ _ _ ?_ h2 (by omega) (by omega)
 rw [Nat.add_mod,h1,Nat.mul_mod,h2,Nat.mul_zero]
theorem clean_law {p s sa j : Nat} {zs : List UInt8} (h : StOk p s sa j) (hz : zs.drop sa = List.replicate (p * 256 - sa) 0) :
  (IntKind.i64.wrap (((p * 256 : Nat) : Int) - IntKind.i64.wrap (sa : Int)) = ((p * 256 - sa : Nat) : Int)) ∧ (IntKind.i64.wrap ((IntKind.i64.wrap (sa : Int)).tdiv (256 : Int)) = ((sa / 256 : Nat) : Int)) ∧
  (∀ k,k < 4 → rgLo (mA (sa + k * s) s 27 : Nat) (mE (sa + k * s) s 27 : Nat) (mB (sa + k * s) s 27 : Nat) (mT (sa + k * s) s 27 : Nat) = sa + k * s ∧ rgHi (mA (sa + k * s) s 27 : Nat) (mE (sa + k * s) s 27 : Nat) (mB (sa + k * s) s 27 : Nat) (mT (sa + k * s) s 27 : Nat) = sa + k * s + s) ∧
  (∀ k,k < 4 → IntKind.u32.wrap (IntKind.u64.wrap (((sa + k * s + s : Nat) : Int) - IntKind.u64.wrap ((sa + k * s : Nat) : Int))) = (s : Int)) ∧
  (∀ k n,k < 4 → n < k → mtIs (mA (sa + k * s) s 27 : Nat) (mE (sa + k * s) s 27 : Nat) (mB (sa + k * s) s 27 : Nat) (mT (sa + k * s) s 27 : Nat) ((sa + n * s : Nat) : Int) (s : Int) = false) ∧
  (∀ k,k < 4 → ((mA (sa + k * s) s 27 : Nat) : Int) < 4294967296 ∧ ((sa + k * s : Nat) : Int) < 4294967296) ∧ (s : Int) < 4294967296 ∧
  (List.take (p * 256 - sa) (List.drop sa zs) = List.replicate (p * 256 - sa) 0):=by
 have h1:=h.al; have h2:=h.sl; have h3:=h.fit; have h4:=h.p2; have h5:=h.lt
 have ks : ∀ k,k < 4 → k * s ≤ 3 * s:=fun k hk => Nat.mul_le_mul_right s (by omega)
 have e1:=w64A sa (by omega)
 refine ⟨?_,?_,fun k hk => ?_,fun k hk => ?_,fun k n hk hn => ?_,fun k hk => ?_,by omega,?_⟩
 ·rw [e1,a_sub _ _ (by omega),w64A _ (by omega)]
 ·rw [e1,show (sa : Int).tdiv (256 : Int) = ((sa / 256 : Nat) : Int) from (Int.ofNat_tdiv sa 256).symm,w64A _ (by omega)]
 ·have:=ks k hk
  exact mk_rg (st_mk h k hk) (by omega)
 ·have:=ks k hk
  rw [wrapU (sa + k * s) (by omega),a_sub _ _ (by omega),show sa + k * s + s - (sa + k * s) = s by omega,wrapU s (by omega),w32A s (by omega)]
 ·have:=ks k hk
  have hr:=mk_rg (st_mk h k hk) (show sa + k * s < 4294967296 by omega)
  unfold mtIs
  rw [hr.1,hr.2,Int.toNat_natCast,Int.toNat_natCast]
  refine meets_apart _ ?_
  have : (n + 1) * s ≤ k * s:=Nat.mul_le_mul_right s hn
  rw [Nat.add_mul,Nat.one_mul] at this
  omega
 ·have:=ks k hk
  have:=mA_le (sa + k * s) s 27
  omega
 ·rw [hz,List.take_of_length_le (by rw [List.length_replicate]; exact Nat.le_refl _)]
theorem cleanF (p s t : Nat) (cs : List Nat) (d : List UInt8) (rs : List Rl) (so : List Nat) (c da ds sa ss ha hs : Nat) (h : LqOk p s t cs d so c da ds sa ss ha hs) (hst : StOk p s sa so.length) (h6 : ∀ r ∈ rs,RlFit da (p * 256) r) (h62 : ∀ r ∈ rs,da + r.at_ + 16 ≤ sa) (h7 : rs.length ≤ 256) (h1 : 1 ≤ so.length) (h4 : so.length ≤ 4)
  (hlay : ConOk Try.prog 16 3 (layG (genJ p s t d (some ⟨65,0,none⟩) cs.length rs.length so.length (big + 65)) (btH rs so) c da ds sa ss ha hs)) :
  ∃ (call : CallK) (T : List (Nat × Bool)) (q : Prop),SoundCall Try.prog call ∧ obs (call 7 [genJ p s t d (some ⟨65,0,none⟩) cs.length rs.length so.length (big + 65)] ⟨67,lqH cs rs so,[],0,T,0,True⟩) = some (.bool true,q) ∧ q:=by
 have e0:=h.hc; have e2:=h.hda; have e3:=h.hds; have e4:=h.hsa; have e5:=h.fit; have e6:=h.p2
 have hz:=zsB_ok h
 have hzl:=relZ_len da rs (zsB p cs da d) (p * 256) hz.len h6 rs.length (Nat.le_refl _)
 have har : ArOk (relZ da rs (zsB p cs da d) rs.length) (p * 256) (nGran p) (nWord p):=⟨hzl,hz.tags,hz.words,hz.few,hz.big⟩
 have hdrop : (relZ da rs (zsB p cs da d) rs.length).drop sa = List.replicate (p * 256 - sa) 0:=by
  rw [relZ_drop da rs (zsB p cs da d) (p * 256) sa hz.len h6 h62 rs.length (Nat.le_refl _),zsB_drop p cs da d sa (by omega) (by omega) (by omega)]
 have hsal:=hst.al
 have hlc : LcOk (relZ da rs (zsB p cs da d) rs.length) (rlT da rs rs.length) p (nGran p) (nWord p) (sa / 256):=⟨har,e6,by omega,fun g hg => rlT_no da rs sa h62 g (by omega) rs.length (Nat.le_refl _)⟩
 have hrd:=rw_con sa (p * 256 - sa) (relZ da rs (zsB p cs da d) rs.length) (rlT da rs rs.length) (p * 256) (nGran p) (nWord p) har (by omega) (by omega)
 obtain ⟨zs,hzs⟩ : ∃ zs,zs = relZ da rs (zsB p cs da d) rs.length:=⟨_,rfl⟩
 obtain ⟨f,hf⟩ : ∃ f,f = rlT da rs rs.length:=⟨_,rfl⟩
 have hem : ∀ q : Nat → Bool,(∀ l,l < 67 → q l = true) → okV q 3 (.slice (some ⟨65,0,none⟩) rs.length (big + 65)) = true:=fun q hq => by
  simp [okV,bndA,hq 65 (by omega),big]
 obtain ⟨k1,k2,k3,k4,k5,k6,k7,k8⟩:=clean_law hst hdrop
 have base : ∀ j,ConOk Try.prog 12 3 (lqCon (genJ p s t d (some ⟨65,0,none⟩) cs.length rs.length so.length (big + 65)) (lqH cs rs so) p zs f c da ds sa s t so j) → SoundCall Try.prog (baseF 3 (selSteps (lcL (genJ p s t d (some ⟨65,0,none⟩) cs.length rs.length so.length (big + 65)) (lqH cs rs so) (btH rs so) j p zs f so c da ds sa ss ha hs s t (p * 256 - sa))) (baseC 3 (selRg rgLo rgHi mtIs))):=fun j hl => by
  refine baseF_ok (selSteps_ok fun x hx => ?_) (baseC_ok selRg_ok)
  simp only [rr, tt, lcL,List.mem_cons,List.not_mem_nil,or_false] at hx
  rcases hx with rfl | rfl | rfl | rfl
  ·exact lw_con
  ·exact ⟨hl,lqCon_flat _ _ _ _ _ _ _ _ _ _ _ _ _⟩
  ·exact ⟨hlay,⟨fun x hx => by cases hx⟩⟩
  ·rw [hzs,hf]; exact hrd
 rw [← hzs,← hf] at hlc
 rw [← hzs] at k8
 have f1 : ∀ (zs : List UInt8) (p : Nat → Bool),(u8s zs).all (okV p 3) = true:=fun zs p => flat_all (u8s_flatA _)
 have f2 : ∀ (zs : List UInt8) (σ : Nat → Nat),(u8s zs).map (rnV σ 3) = u8s zs:=fun zs σ => flat_map (u8s_flatA _)
 have f3 : ∀ (xs : List Nat) (p : Nat → Bool),(u32s xs).all (okV p 3) = true:=fun xs p => flat_all (u32s_flat _)
 have f4 : ∀ (xs : List Nat) (σ : Nat → Nat),(u32s xs).map (rnV σ 3) = u32s xs:=fun xs σ => flat_map (u32s_flat _)
 have f5 : ∀ (p : Nat → Bool),(rels rs).all (okV p 3) = true:=fun p => flat_all (rels_flat rs)
 have f6 : ∀ (σ : Nat → Nat),(rels rs).map (rnV σ 3) = rels rs:=fun σ => flat_map (rels_flat rs)
 have v1 : ∀ (f : Nat → Bool) (σ : Nat → Nat),(v64 (wordsB f (nWord p))).map (rnV σ 3) = v64 (wordsB f (nWord p)):=fun f σ => flat_map (v64_flat _)
 have v2 : ∀ (f : Nat → Bool) (q : Nat → Bool),(v64 (wordsB f (nWord p))).all (okV q 3) = true:=fun f q => flat_all (v64_flat _)
 have hload:=fun j hj k1 k4 => lqF_con p s t cs d rs so c da ds sa ss ha hs h h6 h7 j hj k1 k4 hlay
 rw [← hzs,← hf] at hload
 have b1 : ∀ a s p,((mE a s p : Nat) : Int) < 256:=fun a s p => by have:=mE_lt a s p; omega
 have b2 : ∀ a s p,((mB a s p : Nat) : Int) < 65536:=fun a s p => by have:=mB_lt a s p; omega
 have b3 : ∀ a s p,((mT a s p : Nat) : Int) < 65536:=fun a s p => by have:=mT_lt a s p; omega
 have b4 : ∀ a s,((mP a s 27 : Nat) : Int) < 65536:=fun a s => by have:=mP_le a s 27; omega
 have z1:=zer_u8 (p * 256 - sa)
 have z2:=zer_has (p * 256 - sa)
 have : so.length = 1 ∨ so.length = 2 ∨ so.length = 3 ∨ so.length = 4:=by omega
 rcases this with hj | hj | hj | hj
 ·refine ⟨_,_,_,run_ok (L:=100) ar_names (base 1 (hload 1 hj (by omega) (by omega))) (lpEsc_ok _) 20,lcf_1 p s t cs d rs so c da ds sa ss ha hs zs f (sa / 256) (p * 256 - sa) rgLo rgHi mtIs hem hlc,?_⟩
  simp (disch:=omega) only [rr, tt, k1,k2,k3,k4,k5,k6,k7,k8,zer_map,z1,z2,f1,f2,f3,f4,f5,f6,v1,v2,b1,b2,b3,b4,bytes_refl,decide_eq_true,decide_eq_false,Bool.and_self,Bool.not_true,cond_true,Int.toNat_natCast,Int.natCast_nonneg,Nat.mul_one,Nat.zero_add,and_true,true_and,and_self,Nat.le_refl]
  try simp
 ·refine ⟨_,_,_,run_ok (L:=100) ar_names (base 2 (hload 2 hj (by omega) (by omega))) (lpEsc_ok _) 20,lcf_2 p s t cs d rs so c da ds sa ss ha hs zs f (sa / 256) (p * 256 - sa) rgLo rgHi mtIs hem hlc,?_⟩
  simp (disch:=omega) only [rr, tt, k1,k2,k3,k4,k5,k6,k7,k8,zer_map,z1,z2,f1,f2,f3,f4,f5,f6,v1,v2,b1,b2,b3,b4,bytes_refl,decide_eq_true,decide_eq_false,Bool.and_self,Bool.not_true,cond_true,Int.toNat_natCast,Int.natCast_nonneg,Nat.mul_one,Nat.zero_add,and_true,true_and,and_self,Nat.le_refl]
  try simp
 ·refine ⟨_,_,_,run_ok (L:=100) ar_names (base 3 (hload 3 hj (by omega) (by omega))) (lpEsc_ok _) 20,lcf_3 p s t cs d rs so c da ds sa ss ha hs zs f (sa / 256) (p * 256 - sa) rgLo rgHi mtIs hem hlc,?_⟩
  simp (disch:=omega) only [rr, tt, k1,k2,k3,k4,k5,k6,k7,k8,zer_map,z1,z2,f1,f2,f3,f4,f5,f6,v1,v2,b1,b2,b3,b4,bytes_refl,decide_eq_true,decide_eq_false,Bool.and_self,Bool.not_true,cond_true,Int.toNat_natCast,Int.natCast_nonneg,Nat.mul_one,Nat.zero_add,and_true,true_and,and_self,Nat.le_refl]
  try simp
 ·refine ⟨_,_,_,run_ok (L:=100) ar_names (base 4 (hload 4 hj (by omega) (by omega))) (lpEsc_ok _) 20,lcf_4 p s t cs d rs so c da ds sa ss ha hs zs f (sa / 256) (p * 256 - sa) rgLo rgHi mtIs hem hlc,?_⟩
  simp (disch:=omega) only [rr, tt, k1,k2,k3,k4,k5,k6,k7,k8,zer_map,z1,z2,f1,f2,f3,f4,f5,f6,v1,v2,b1,b2,b3,b4,bytes_refl,decide_eq_true,decide_eq_false,Bool.and_self,Bool.not_true,cond_true,Int.toNat_natCast,Int.natCast_nonneg,Nat.mul_one,Nat.zero_add,and_true,true_and,and_self,Nat.le_refl]
  try simp
theorem cleanY (p s t : Nat) (cs : List Nat) (d : List UInt8) (a2 : Option Addr) (c2 : Nat) (em : EmOk a2 c2) (so : List Nat) (c da ds sa ss ha hs : Nat) (h : LqOk p s t cs d so c da ds sa ss ha hs) (hst : StOk p s sa so.length) (h1 : 1 ≤ so.length) (h4 : so.length ≤ 4)
  (hlay : ConOk Try.prog 16 3 (layG (genJ p s t d a2 cs.length 0 so.length c2) (btHY so) c da ds sa ss ha hs)) :
  ∃ (call : CallK) (T : List (Nat × Bool)) (q : Prop),SoundCall Try.prog call ∧ obs (call 7 [genJ p s t d a2 cs.length 0 so.length c2] ⟨67,lqHY cs so,[],0,T,0,True⟩) = some (.bool true,q) ∧ q:=by
 have e0:=h.hc; have e2:=h.hda; have e3:=h.hds; have e4:=h.hsa; have e5:=h.fit; have e6:=h.p2
 have hz:=zsB_ok h
 have har : ArOk (zsB p cs da d) (p * 256) (nGran p) (nWord p):=hz
 have hdrop : (zsB p cs da d).drop sa = List.replicate (p * 256 - sa) 0:=by
  rw [zsB_drop p cs da d sa (by omega) (by omega) (by omega)]
 have hsal:=hst.al
 have hlc : LcOk (zsB p cs da d) ((fun _ => false)) p (nGran p) (nWord p) (sa / 256):=⟨har,e6,by omega,fun g hg => rfl⟩
 have hrd:=rw_con sa (p * 256 - sa) (zsB p cs da d) ((fun _ => false)) (p * 256) (nGran p) (nWord p) har (by omega) (by omega)
 obtain ⟨zs,hzs⟩ : ∃ zs,zs = zsB p cs da d:=⟨_,rfl⟩
 obtain ⟨f,hf⟩ : ∃ f : Nat → Bool,f = (fun _ => false):=⟨_,rfl⟩
 have hem : ∀ q : Nat → Bool,(∀ l,l < 67 → q l = true) → okV q 3 (.slice a2 0 c2) = true:=fun q hq => em q 3 hq
 obtain ⟨k1,k2,k3,k4,k5,k6,k7,k8⟩:=clean_law hst hdrop
 have base : ∀ j,ConOk Try.prog 12 3 (lqCon (genJ p s t d a2 cs.length 0 so.length c2) (lqHY cs so) p zs f c da ds sa s t so j) → SoundCall Try.prog (baseF 3 (selSteps (lcL (genJ p s t d a2 cs.length 0 so.length c2) (lqHY cs so) (btHY so) j p zs f so c da ds sa ss ha hs s t (p * 256 - sa))) (baseC 3 (selRg rgLo rgHi mtIs))):=fun j hl => by
  refine baseF_ok (selSteps_ok fun x hx => ?_) (baseC_ok selRg_ok)
  simp only [rr, tt, lcL,List.mem_cons,List.not_mem_nil,or_false] at hx
  rcases hx with rfl | rfl | rfl | rfl
  ·exact lw_con
  ·exact ⟨hl,lqCon_flat _ _ _ _ _ _ _ _ _ _ _ _ _⟩
  ·exact ⟨hlay,⟨fun x hx => by cases hx⟩⟩
  ·rw [hzs,hf]; exact hrd
 rw [← hzs,← hf] at hlc
 rw [← hzs] at k8
 have f1 : ∀ (zs : List UInt8) (p : Nat → Bool),(u8s zs).all (okV p 3) = true:=fun zs p => flat_all (u8s_flatA _)
 have f2 : ∀ (zs : List UInt8) (σ : Nat → Nat),(u8s zs).map (rnV σ 3) = u8s zs:=fun zs σ => flat_map (u8s_flatA _)
 have f3 : ∀ (xs : List Nat) (p : Nat → Bool),(u32s xs).all (okV p 3) = true:=fun xs p => flat_all (u32s_flat _)
 have f4 : ∀ (xs : List Nat) (σ : Nat → Nat),(u32s xs).map (rnV σ 3) = u32s xs:=fun xs σ => flat_map (u32s_flat _)
 have v1 : ∀ (f : Nat → Bool) (σ : Nat → Nat),(v64 (wordsB f (nWord p))).map (rnV σ 3) = v64 (wordsB f (nWord p)):=fun f σ => flat_map (v64_flat _)
 have v2 : ∀ (f : Nat → Bool) (q : Nat → Bool),(v64 (wordsB f (nWord p))).all (okV q 3) = true:=fun f q => flat_all (v64_flat _)
 have hload:=fun j hj k1 k4 => lqY_con p s t cs d a2 c2 em so c da ds sa ss ha hs h j hj k1 k4 hlay
 rw [← hzs,← hf] at hload
 have b1 : ∀ a s p,((mE a s p : Nat) : Int) < 256:=fun a s p => by have:=mE_lt a s p; omega
 have b2 : ∀ a s p,((mB a s p : Nat) : Int) < 65536:=fun a s p => by have:=mB_lt a s p; omega
 have b3 : ∀ a s p,((mT a s p : Nat) : Int) < 65536:=fun a s p => by have:=mT_lt a s p; omega
 have b4 : ∀ a s,((mP a s 27 : Nat) : Int) < 65536:=fun a s => by have:=mP_le a s 27; omega
 have z1:=zer_u8 (p * 256 - sa)
 have z2:=zer_has (p * 256 - sa)
 have : so.length = 1 ∨ so.length = 2 ∨ so.length = 3 ∨ so.length = 4:=by omega
 rcases this with hj | hj | hj | hj
 ·refine ⟨_,_,_,run_ok (L:=100) ar_names (base 1 (hload 1 hj (by omega) (by omega))) (lpEsc_ok _) 20,lcy_1 p s t cs d a2 c2 so c da ds sa ss ha hs zs f (sa / 256) (p * 256 - sa) rgLo rgHi mtIs hem hlc,?_⟩
  simp (disch:=omega) only [rr, tt, k1,k2,k3,k4,k5,k6,k7,k8,zer_map,z1,z2,f1,f2,f3,f4,em_rn em,v1,v2,b1,b2,b3,b4,bytes_refl,decide_eq_true,decide_eq_false,Bool.and_self,Bool.not_true,cond_true,Int.toNat_natCast,Int.natCast_nonneg,Nat.mul_one,Nat.zero_add,and_true,true_and,and_self,Nat.le_refl]
  try simp
 ·refine ⟨_,_,_,run_ok (L:=100) ar_names (base 2 (hload 2 hj (by omega) (by omega))) (lpEsc_ok _) 20,lcy_2 p s t cs d a2 c2 so c da ds sa ss ha hs zs f (sa / 256) (p * 256 - sa) rgLo rgHi mtIs hem hlc,?_⟩
  simp (disch:=omega) only [rr, tt, k1,k2,k3,k4,k5,k6,k7,k8,zer_map,z1,z2,f1,f2,f3,f4,em_rn em,v1,v2,b1,b2,b3,b4,bytes_refl,decide_eq_true,decide_eq_false,Bool.and_self,Bool.not_true,cond_true,Int.toNat_natCast,Int.natCast_nonneg,Nat.mul_one,Nat.zero_add,and_true,true_and,and_self,Nat.le_refl]
  try simp
 ·refine ⟨_,_,_,run_ok (L:=100) ar_names (base 3 (hload 3 hj (by omega) (by omega))) (lpEsc_ok _) 20,lcy_3 p s t cs d a2 c2 so c da ds sa ss ha hs zs f (sa / 256) (p * 256 - sa) rgLo rgHi mtIs hem hlc,?_⟩
  simp (disch:=omega) only [rr, tt, k1,k2,k3,k4,k5,k6,k7,k8,zer_map,z1,z2,f1,f2,f3,f4,em_rn em,v1,v2,b1,b2,b3,b4,bytes_refl,decide_eq_true,decide_eq_false,Bool.and_self,Bool.not_true,cond_true,Int.toNat_natCast,Int.natCast_nonneg,Nat.mul_one,Nat.zero_add,and_true,true_and,and_self,Nat.le_refl]
  try simp
 ·refine ⟨_,_,_,run_ok (L:=100) ar_names (base 4 (hload 4 hj (by omega) (by omega))) (lpEsc_ok _) 20,lcy_4 p s t cs d a2 c2 so c da ds sa ss ha hs zs f (sa / 256) (p * 256 - sa) rgLo rgHi mtIs hem hlc,?_⟩
  simp (disch:=omega) only [rr, tt, k1,k2,k3,k4,k5,k6,k7,k8,zer_map,z1,z2,f1,f2,f3,f4,em_rn em,v1,v2,b1,b2,b3,b4,bytes_refl,decide_eq_true,decide_eq_false,Bool.and_self,Bool.not_true,cond_true,Int.toNat_natCast,Int.natCast_nonneg,Nat.mul_one,Nat.zero_add,and_true,true_and,and_self,Nat.le_refl]
  try simp
end Go.Proofs.Ytliidiceljdgmaa
namespace Go.Proofs.Ytliidiceljdgmaa
open Go.RowKit
open Sy
set_option maxRecDepth 100000
def lcES (v : Value) (hh : Sy.Heap) (e : Int) : Sy.Steps:=[(68,10,lcW,[]),(69,16,layEH v hh e,[64,65,66]),(70,16,layEH v hh e,[64,65,66]),(68,16,layEH v hh e,[64,65,66])]
def lcEM (v : Value) (hh : Sy.Heap) (e : Int) : Sy.Steps:=[(69,16,layEH v hh e,[64,65,66]),(70,16,layEH v hh e,[64,65,66]),(68,16,layEH v hh e,[64,65,66])]
theorem lce_g (p s t e : Int) (d : List UInt8) (a1 a2 a3 : Option Addr) (n1 n2 n3 c1 c2 c3 : Nat) (hh : Heap) : obs (evF Try.prog (baseT 3 (selStepsT (lcEM (genI p s t d a1 a2 a3 n1 n2 n3 c1 c2 c3) hh e)) (baseC 3 selLbW)) noLoop 100 20 7 [genI p s t d a1 a2 a3 n1 n2 n3 c1 c2 c3] ⟨67,hh,[],0,[(1,true),(2,true)],0,True⟩) = some (Value.bool (e == e),((((True∧True∧True∧True∧True)∧True∧rr [Value.agg ⟨[.int .i64 p,.int .i64 s,.int .i64 t,.slice a1 n1 c1,.string ⟨⟨d⟩⟩,.slice a2 n2 c2,.slice a3 n3 c3]⟩]∧hh = []∧True)∧(e != (0:Int)) = true)∧True∧rr [Value.agg ⟨[.int .i64 p,.int .i64 s,.int .i64 t,.slice a1 n1 c1,.string ⟨⟨d⟩⟩,.slice a2 n2 c2,.slice a3 n3 c3]⟩]∧hh = []∧True)∧(e != (0:Int)) = true):=by kernel_rfl
theorem lce_f (p s t e : Int) (d : List UInt8) (nc : Nat) (rs : List Rl) (so : List Nat) : obs (evF Try.prog (baseF 3 (selSteps (lcES (genI p s t d (some ⟨64,0,none⟩) (some ⟨65,0,none⟩) (some ⟨66,0,none⟩) nc rs.length so.length (big+64) (big+65) (big+66)) (btH rs so) e)) noBase) noLoop 100 20 7 [genI p s t d (some ⟨64,0,none⟩) (some ⟨65,0,none⟩) (some ⟨66,0,none⟩) nc rs.length so.length (big+64) (big+65) (big+66)] ⟨67,btH rs so,[],0,[(1,true),(2,true)],0,True⟩) = some (Value.bool (e == e),((((True∧True∧True∧True∧True)∧True∧(rr (Value.agg ⟨[.int .i64 p,.int .i64 s,.int .i64 t,.slice (some ⟨64,0,none⟩) nc 9223372036854775872,.string ⟨⟨d⟩⟩,.slice (some ⟨65,0,none⟩) rs.length 9223372036854775873,.slice (some ⟨66,0,none⟩) so.length 9223372036854775874]⟩)∧True)∧((tt∧(rels rs).all (okV (fun l => l.blt 67) 3) = true∧tt∧tt∧tt∧True∧rels rs = List.map (rnV (lift 67 69 [64,65,66]) 3) (rels rs))∧(tt∧(u32s so).all (okV (fun l => l.blt 67) 3) = true∧tt∧tt∧tt∧True∧u32s so = List.map (rnV (lift 67 69 [64,65,66]) 3) (u32s so))∧True)∧True)∧(e != (0:Int)) = true)∧True∧(rr (Value.agg ⟨[.int .i64 p,.int .i64 s,.int .i64 t,.slice (some ⟨64,0,none⟩) nc 9223372036854775872,.string ⟨⟨d⟩⟩,.slice (some ⟨65,0,none⟩) rs.length 9223372036854775873,.slice (some ⟨66,0,none⟩) so.length 9223372036854775874]⟩)∧True)∧((tt∧(rels rs).all (okV (fun l => l.blt 67) 3) = true∧tt∧tt∧tt∧True∧rels rs = List.map (rnV (lift 67 70 [64,65,66]) 3) (rels rs))∧(tt∧(u32s so).all (okV (fun l => l.blt 67) 3) = true∧tt∧tt∧tt∧True∧u32s so = List.map (rnV (lift 67 70 [64,65,66]) 3) (u32s so))∧True)∧True)∧(e != (0:Int)) = true):=by kernel_rfl
theorem lce_y (p s t e : Int) (d : List UInt8) (a2 : Option Addr) (c2 nc : Nat) (so : List Nat) : obs (evF Try.prog (baseF 3 (selSteps (lcES (genI p s t d (some ⟨64,0,none⟩) a2 (some ⟨66,0,none⟩) nc 0 so.length (big+64) c2 (big+66)) (btHY so) e)) noBase) noLoop 100 20 7 [genI p s t d (some ⟨64,0,none⟩) a2 (some ⟨66,0,none⟩) nc 0 so.length (big+64) c2 (big+66)] ⟨67,btHY so,[],0,[(1,true),(2,true)],0,True⟩) = some (Value.bool (e == e),((((True∧True∧True∧True∧True)∧True∧(Value.agg ⟨[.int .i64 p,.int .i64 s,.int .i64 t,.slice (some ⟨64,0,none⟩) nc 9223372036854775872,.string ⟨⟨d⟩⟩,.slice a2 0 c2,.slice (some ⟨66,0,none⟩) so.length 9223372036854775874]⟩ = Value.agg ⟨[.int .i64 p,.int .i64 s,.int .i64 t,.slice (some ⟨64,0,none⟩) nc 9223372036854775872,.string ⟨⟨d⟩⟩,.slice (Option.map (rnA (lift 67 69 [64,65,66])) a2) 0 (rnC (lift 67 69 [64,65,66]) c2),.slice (some ⟨66,0,none⟩) so.length 9223372036854775874]⟩∧True)∧((tt∧(u32s so).all (okV (fun l => l.blt 67) 3) = true∧tt∧tt∧tt∧True∧u32s so = List.map (rnV (lift 67 69 [64,65,66]) 3) (u32s so))∧True)∧True)∧(e != (0:Int)) = true)∧True∧(Value.agg ⟨[.int .i64 p,.int .i64 s,.int .i64 t,.slice (some ⟨64,0,none⟩) nc 9223372036854775872,.string ⟨⟨d⟩⟩,.slice a2 0 c2,.slice (some ⟨66,0,none⟩) so.length 9223372036854775874]⟩ = Value.agg ⟨[.int .i64 p,.int .i64 s,.int .i64 t,.slice (some ⟨64,0,none⟩) nc 9223372036854775872,.string ⟨⟨d⟩⟩,.slice (Option.map (rnA (lift 67 70 [64,65,66])) a2) 0 (rnC (lift 67 70 [64,65,66]) c2),.slice (some ⟨66,0,none⟩) so.length 9223372036854775874]⟩∧True)∧((tt∧(u32s so).all (okV (fun l => l.blt 67) 3) = true∧tt∧tt∧tt∧True∧u32s so = List.map (rnV (lift 67 70 [64,65,66]) 3) (u32s so))∧True)∧True)∧(e != (0:Int)) = true):=by kernel_rfl
end Go.Proofs.Ytliidiceljdgmaa
namespace Go.Proofs.Ytliidiceljdgmaa
open Go.RowKit
open Sy
def sl (k : Nat) (g n : Nat) : Value:=match k with | 0 => .slice none 0 0 | 1 => .slice (some ⟨g,0,some g⟩) 0 (big + g) | _ => .slice (some ⟨g,0,none⟩) n (big + g)
def slH (k : Nat) (g : Nat) (cells : List Value) : Sy.Heap:=match k with | 0 => [] | 1 => [] | _ => [(g,⟨false,some (0,0),cells,none⟩)]
def slOk (k n : Nat) : Prop:=k ≤ 2 ∧ (k < 2 → n = 0)
def inV (i j k : Nat) (pages stack types : Int) (data : List UInt8) (cs : List Nat) (rs : List Rl) (starts : List Nat) : Value :=
 .agg ⟨[.int .i64 pages,.int .i64 stack,.int .i64 types,sl i 64 cs.length,.string ⟨⟨data⟩⟩,sl j 65 rs.length,sl k 66 starts.length]⟩
def inH (i j k : Nat) (cs : List Nat) (rs : List Rl) (starts : List Nat) : Sy.Heap:=slH i 64 (u32s cs) ++ slH j 65 (rels rs) ++ slH k 66 (u32s starts)
def inLo (cs : List Nat) (rs : List Rl) (starts : List Nat) : List (Nat × Nat):=[(64,cs.length),(65,rs.length),(66,starts.length)]
end Go.Proofs.Ytliidiceljdgmaa
namespace Go.Proofs.Ytliidiceljdgmaa
open Go.ChangeShapes Go.WideShapes Go.ChangeAt Go.RowKit
open Go.ChangeMaps (open_string shut_string)
theorem own : ownKnob Try.prog.godebug = none:=by kernel_rfl
theorem laidOut : laidOutB Try.prog = true:=by kernel_rfl
section
variable {H : Type} {enc : TypeId × Value → H} {P : Program}
theorem post_of_below {f : Func} {s : ChangeSpec} {apart fresh handsOn again : Bool} {W W' : World} {args : Array Value} {v : Value} {ds gs : List (DataW H)} {before pa pv : List MemPlace}
  (hW : DataW.Whole enc P f.params.toList s.vars apart W args.toList ds gs before)
  (hres : ∀ (b : Nat) (sp : Nat → Bool) (hd : Bool),DataW.TrodAll enc P W' b sp hd f.resultTypes.toList (v.resultList f.resultTypes.size) (s.fn H (ds ++ gs)).results [])
  (hargs : ∀ sp : Nat → Bool,(∀ p ∈ before,sp p.block = true) → DataW.TrodAll enc P W' 0 sp true f.params.toList args.toList (s.fn H (ds ++ gs)).args pa)
  (hvars : ∀ sp : Nat → Bool,(∀ p ∈ before,sp p.block = true) → DataW.TrodVars enc P W' sp s.vars (s.fn H (ds ++ gs)).vars pv)
  (hps : before = pa ++ pv) (hb : Below W.heap.size W W')
  (hok : ∀ (j : Nat) (t : TypeId) (r : Value),f.resultTypes[j]? = some t → (v.resultList f.resultTypes.size)[j]? = some r → Value.okWide P W' .any 0 t r) :
  s.post enc P f apart fresh handsOn again W args v W':=by
 have hlt : ∀ p ∈ before,p.block < W.heap.size:=fun p hp => hW.lt p hp
 have hold : ∀ p ∈ before,(fun b => decide (b < W.heap.size)) p.block = true:=fun p hp => by simpa using hlt p hp
 refine ⟨ds,gs,before,[],pa,pv,hW,hres _ _ _,hargs _ hold,hvars _ hold,World.keptBut_mono (fun p hp => ⟨hp,?_⟩) (hb.frame (· ∈ before)),fun _ => ?_⟩
 ·rw [hps,List.mem_append] at hp
  exact Or.inr hp
 ·obtain ⟨_,_,_,_,_,hz,hn⟩:=hW
  refine ⟨hok,_,_,([] ++ pa) ++ pv,⟨[] ++ pa,pv,trodAll_append (hargs _ (fun _ _ => rfl)) (hres _ _ _),hvars _ (fun _ _ => rfl),rfl,?_,?_⟩,?_⟩
  ·intro b off hp
   have hin : MemPlace.cell b off ∈ before:=by rw [hps]; simpa using hp
   rw [hb.frozen (hlt _ hin)]
   exact hz b off hin
  ·intro ha
   have:=hn ha
   rw [hps] at this
   simpa using this
  ·intro p hp _
   rw [hps]
   simpa using hp
theorem below_trodAll (hl : laidOutB P = true) {W W' : World} (hb : Below W.heap.size W W') {sp : Nat → Bool} : ∀ (ts : List TypeId) (vs : List Value) (ds : List (DataW H)) (ps : List MemPlace),
  (∀ t ∈ ts,P.readableRec t = true ∧ t < P.types.size) → DataW.TrodAll enc P W 0 (fun _ => true) true ts vs ds ps → (∀ x ∈ ps,x.block < W.heap.size) → (∀ x ∈ ps,sp x.block = true) →
  DataW.TrodAll enc P W' 0 sp true ts vs ds ps
 | [],[],[],_,_,h,_,_ => h
 | t :: ts,v :: vs,d :: ds,ps,ht,h,hlt,hs => by
  obtain ⟨p,q,h1,h2,rfl⟩:=h
  refine ⟨p,q,?_,below_trodAll hl hb ts vs ds q (fun u hu => ht u (List.mem_cons_of_mem _ hu)) h2 (fun x hx => hlt x (List.mem_append_right _ hx)) (fun x hx => hs x (List.mem_append_right _ hx)),rfl⟩
  exact WideElems.Trod_stays hl (ht t (List.mem_cons_self ..)).1 (ht t (List.mem_cons_self ..)).2 h1 (fun x hx => hb.same (hlt x (List.mem_append_left _ hx))) (fun x hx => hs x (List.mem_append_left _ hx))
 | [],[],_ :: _,_,_,h,_,_ => h.elim
 | [],_ :: _,_,_,_,h,_,_ => h.elim
 | _ :: _,[],_,_,_,h,_,_ => h.elim
 | _ :: _,_ :: _,[],_,_,h,_,_ => h.elim
theorem trodAll_length {W : World} {base : Nat} {sp : Nat → Bool} {hd : Bool} : ∀ (ts : List TypeId) (vs : List Value) (ds : List (DataW H)) (ps : List MemPlace),DataW.TrodAll enc P W base sp hd ts vs ds ps → ds.length = ts.length
 | [],[],[],_,_ => rfl
 | _ :: ts,_ :: vs,_ :: ds,_,h => by
  obtain ⟨_,_,_,h2,_⟩:=h
  simp [trodAll_length ts vs ds _ h2]
 | [],[],_ :: _,_,h => h.elim
 | [],_ :: _,_,_,h => h.elim
 | _ :: _,[],_,_,h => h.elim
 | _ :: _,_ :: _,[],_,h => h.elim
end
theorem wf_u32 {n : Int} (h : (Lit.int .u32 n).wf = true) : 0 ≤ n ∧ n < 4294967296:=by
 have:=bounds_u32 h; omega
theorem wf_u16 {n : Int} (h : (Lit.int .u16 n).wf = true) : 0 ≤ n ∧ n < 65536:=by
 have:=bounds_u16 h; omega
def LawWalk (f : FuncId) (fn : Func) : Prop :=
 ∀ (H : Type) (enc : TypeId × Value → H) (W : World) (base : Nat) (args : Array Value) (ds : List (DataW H)) (p : List MemPlace),
  (∀ (j : Nat) t v,fn.params[j]? = some t → args[j]? = some v → Value.okWide Try.prog W .any base t v) →
  DataW.TrodAll enc Try.prog W 0 (fun _ => true) true fn.params.toList args.toList ds p →
  Calls Try.prog f args W fun e W' => e = .returned (.bool true) ∧ Below W.heap.size W W'
set_option maxRecDepth 100000 in
theorem law_lifted (f : FuncId) (fn : Func) (s : ChangeSpec) (conds : List PathCond) (hfn : Try.prog.funcs[f]? = some fn) (noInit : Try.prog.inits.idxOf? f = none)
  (hres : fn.resultTypes = #[4])
  (hvars : s.vars = []) (hspec : ∀ (H : Type) (ds : List (DataW H)),ds.length = fn.params.toList.length → (s.fn H (ds ++ [])).results = [.lit (.bool true)] ∧ (s.fn H (ds ++ [])).args = ds ∧ (s.fn H (ds ++ [])).vars = [])
  (hts : ∀ t ∈ fn.params.toList,Try.prog.readableRec t = true ∧ t < Try.prog.types.size)
  (walk : LawWalk f fn) (os : Os) (started : os.Started) (H : Type) (enc : TypeId × Value → H)
  (witness : ∃ (w : World) (tape : Tape) (i : Input),w.os = os ∧ (w.forCall tape i).Shaped Try.checked.prog ∧ i.vars = [] ∧ Input.okWide Try.checked.prog (w.forCall tape i) .any w.heap.size f i ∧
   s.pre6 enc Try.checked.prog fn conds false (w.forCall tape i).memory i.args ∧ ({} : Assume).holds Try.checked.prog (lone (Frame.enter Try.checked.prog f i.args .normal) [] (w.forCall tape i))) :
  ReturnsInHanded {} Try.checked os f .any (s.pre6 enc Try.prog fn conds false) (s.post enc Try.prog fn false true false false):=by
 refine returnsInHanded_of_change (C:=Try.checked) own started noInit hfn witness ?_
 intro W base args ds gs before hval0 hW _ _
 have hW':=hW
 obtain ⟨p,q,hA,hV,rfl,_,_⟩:=hW
 rw [hvars] at hV
 obtain ⟨rfl,rfl⟩:=trodVars_none hV
 obtain ⟨e1,e2,e3⟩:=hspec H ds (trodAll_length _ _ _ _ hA)
 refine (walk H enc W base args ds p hval0 hA).mono fun e W' ⟨he,hg⟩ => ?_
 subst he
 refine ⟨_,rfl,post_of_below (pa:=p) (pv:=[]) hW' (fun b sp hd => ?_) (fun sp hsp => ?_) (fun sp _ => ?_) rfl hg ?_⟩
 ·rw [e1,hres]
  exact trodAll_mk1 (shut_bool Try.underlying4 _)
 ·rw [e2]
  exact below_trodAll laidOut hg _ _ _ _ hts hA (fun x hx => hW'.lt x (List.mem_append_left _ hx)) (fun x hx => hsp x (List.mem_append_left _ hx))
 ·rw [e3,hvars]; rfl
 ·exact ok_one hres rfl (okWide_bool_mk Try.underlying4 _)
end Go.Proofs.Ytliidiceljdgmaa
namespace Go.Proofs.Ytliidiceljdgmaa
open Go.ChangeShapes Go.WideShapes Go.Deep
section
variable {H : Type} {enc : TypeId × Value → H} {P : Program} {w : World} {base : Nat} {spare : Nat → Bool} {held : Bool}
theorem open_slice_fields {t e : TypeId} {fs : Array Field} {fuel : Nat} {cs : List Value} {x : DataW H × List MemPlace} (ht : P.underlying t = some (.slice e)) (he : P.underlying e = some (.struct fs))
  (hone : oneCellFields P fs = true) (hC : P.cellsOf e = fs.size) (h : DataW.trod enc P w base spare held fuel t cs = some x) :
  (cs = [.slice none 0 0] ∧ x = (.nil,[])) ∨
  ∃ (a : Addr) (len cap m : Nat) (D : Nat → DataW H) (Pl : Nat → List MemPlace),cs = [.slice (some a) len cap] ∧ base ≤ a.block ∧ len ≤ cap ∧ cap ≤ maxLen ∧ m = (if spare a.block then cap else len) ∧
   x = (.slice ((List.range len).map D) ((List.range (m - len)).map fun j => D (len + j)),MemPlace.row a (m * fs.size) ++ (List.range m).flatMap Pl) ∧
   ∀ i,i < m → ∃ (ys : List (DataW H × List MemPlace)) (n : Nat),D i = .agg (ys.map (·.1)) ∧ Pl i = ys.flatMap (·.2) ∧ ys.length = fs.size ∧
    ∀ (j : Nat) (f : Field),fs[j]? = some f → ∃ (v : Value) (y : DataW H × List MemPlace),w.cell? (a.add (i * fs.size + j)) = some v ∧ ys[j]? = some y ∧ DataW.trod enc P w base spare held n f.type [v] = some y:=by
 rcases open_slice ht h with h0 | ⟨a,len,cap,m,n,D,Pl,hcs,hb,hl,hm,hmm,hx,hi⟩
 ·exact .inl h0
 ·refine .inr ⟨a,len,cap,m,D,Pl,hcs,hb,hl,hm,hmm,by rw [hC] at hx; exact hx,fun i him => ?_⟩
  obtain ⟨cs',hc,ht'⟩:=hi i him
  rw [hC] at hc
  obtain ⟨ys,n',hn',hy,hlen,hyl,hf⟩:=DataW.trod_struct he ht'
  obtain ⟨_,hcl,hat⟩:=World.cells?_some hc
  simp only [rr, tt, Prod.mk.injEq] at hy
  refine ⟨ys,n',hy.1,hy.2,hyl,fun j f hj => ?_⟩
  obtain ⟨ho,hk⟩:=hone_of hone j f hj
  have hjl : j < fs.size:=(Array.getElem?_eq_some_iff.1 hj).1
  have hcell:=hat j hjl
  have hv : cs'[j]? = some (cs'[j]'(by omega)):=List.getElem?_eq_getElem (by omega)
  have h1:=hf j f hj
  rw [ho,hk] at h1
  have hone' : (cs'.drop j).take 1 = [cs'[j]'(by omega)]:=by
   rw [List.drop_eq_getElem_cons (by omega)]
   rfl
  rw [hone'] at h1
  have hys : ys[j]? = some (ys[j]'(by omega)):=List.getElem?_eq_getElem (by omega)
  refine ⟨_,_,?_,hys,h1.trans hys⟩
  rw [← Go.Deep.add_add,hcell,hv]
end
end Go.Proofs.Ytliidiceljdgmaa
namespace Go.Proofs.Ytliidiceljdgmaa
open Go.ChangeShapes Go.WideShapes Go.Deep Go.RowKit
section
variable {H : Type} {enc : TypeId × Value → H} {P : Program} {w : World} {base : Nat} {spare : Nat → Bool} {held : Bool}
theorem open_agg_all {r : Reach} {b0 : Nat} {t : TypeId} {fs : Array Field} {v : Value} {d : DataW H} {p : List MemPlace} (hs : P.underlying t = some (.struct fs)) (hone : oneCellFields P fs = true) (hC : P.cellsOf t = fs.size)
  (hv : Value.okWide P w r b0 t v) (h : DataW.Trod enc P w base spare held t v d p) :
  ∃ cs : List Value,v = .agg cs.toArray ∧ cs.length = fs.size ∧ ∀ (j : Nat) (f : Field),fs[j]? = some f → ∃ (u : Value) (y : DataW H × List MemPlace) (n : Nat),cs[j]? = some u ∧ DataW.trod enc P w base spare held n f.type [u] = some y:=by
 obtain ⟨cs,rfl,hsz⟩:=okWide_struct hs hv
 obtain ⟨l⟩:=cs
 refine ⟨l,rfl,hsz.trans hC,fun j f hj => ?_⟩
 obtain ⟨fuel,hf⟩:=h
 obtain ⟨xs,n,_,hx,_,hlen,hg⟩:=DataW.trod_struct hs hf
 obtain ⟨o,k⟩:=hone_of hone j f hj
 have hjl : j < fs.size:=(Array.getElem?_eq_some_iff.1 hj).1
 have hl : l.length = fs.size:=hsz.trans hC
 have h1:=hg j f hj
 rw [o,k] at h1
 simp only [rr, tt, Value.cells] at h1
 have hone' : (l.drop j).take 1 = [l[j]'(by omega)]:=by
  rw [List.drop_eq_getElem_cons (by omega)]
  rfl
 rw [hone'] at h1
 exact ⟨l[j]'(by omega),xs[j]'(by omega),n,List.getElem?_eq_getElem (by omega),h1.trans (List.getElem?_eq_getElem (by omega))⟩
end
end Go.Proofs.Ytliidiceljdgmaa
namespace Go.Proofs.Ytliidiceljdgmaa
open Go.ChangeShapes Go.WideShapes Go.Deep Go.RowKit
open Sy
structure SlIs (W : World) (v : Value) (k : Nat) (cells : List Value) (n B O C : Nat) (S : Option Nat) : Prop where
 is : v = (match k with | 0 => .slice none 0 0 | 1 => .slice (some ⟨B,O,S⟩) 0 C | _ => .slice (some ⟨B,O,none⟩) n C)
 ok : slOk k n
 le : n ≤ C
 at_ : 2 ≤ k → ∃ arr ty fr,W.heap[B]? = some (.cells arr ty fr) ∧ O + cells.length ≤ arr.size ∧ ∀ j v,cells[j]? = some v → arr[O + j]? = some v
section
variable {H : Type} {enc : TypeId × Value → H} {P : Program} {W : World} {base : Nat} {spare : Nat → Bool} {held : Bool}
theorem cell_is {a : Addr} {v : Value} (h : W.cell? a = some v) : ∃ arr ty fr,W.heap[a.block]? = some (.cells arr ty fr) ∧ arr[a.off]? = some v ∧ a.spot = none:=by
 have hs:=World.cell?_spot h
 unfold World.cell? at h
 split at h
 ·rename_i c t f hb
  rw [hs] at h
  exact ⟨c,t,f,hb,by simpa using h,hs⟩
 ·cases h
theorem add_off {a : Addr} (h : a.spot = none) (i : Nat) : (a.add i).block = a.block ∧ (a.add i).off = a.off + i:=by
 obtain ⟨b,o,s⟩:=a
 subst h
 unfold Addr.add
 split <;> simp_all
theorem row_is {a : Addr} {cells : List Value} (h0 : 0 < cells.length) (h : ∀ i v,cells[i]? = some v → W.cell? (a.add i) = some v) : a.spot = none ∧ ∃ arr ty fr,W.heap[a.block]? = some (.cells arr ty fr) ∧ a.off + cells.length ≤ arr.size ∧ ∀ j v,cells[j]? = some v → arr[a.off + j]? = some v:=by
 have h1:=h 0 _ (List.getElem?_eq_getElem h0)
 rw [show a.add 0 = a by unfold Addr.add; simp] at h1
 obtain ⟨arr,ty,fr,q1,q2,q3⟩:=cell_is h1
 have hat : ∀ j v,cells[j]? = some v → arr[a.off + j]? = some v:=fun j v hj => by
  obtain ⟨arr',ty',fr',p1,p2,_⟩:=cell_is (h j v hj)
  obtain ⟨e1,e2⟩:=add_off q3 j
  rw [e1,q1] at p1
  cases p1
  rw [e2] at p2
  exact p2
 refine ⟨q3,arr,ty,fr,q1,?_,hat⟩
 have:=hat (cells.length - 1) _ (List.getElem?_eq_getElem (by omega))
 have:=(Array.getElem?_eq_some_iff.1 this).1
 omega
theorem u32_slice {t e : TypeId} {fuel : Nat} {u : Value} {x : DataW H × List MemPlace} (ht : P.underlying t = some (.slice e)) (he : P.underlying e = some (.int .u32)) (hc : P.cellsOf e = 1)
  (h : DataW.trod enc P W base spare held fuel t [u] = some x) : ∃ (k : Nat) (xs : List Nat) (B O C : Nat) (S : Option Nat),SlIs W u k (u32s xs) xs.length B O C S ∧ ∀ y ∈ xs,y < 4294967296:=by
 rcases open_ints ht he hc h with ⟨h1,_⟩ | ⟨a,len,cap,zs,h1,_,hl,_,hz,_,hcell,hw⟩
 ·simp only [rr, tt, List.cons.injEq,and_true] at h1
  exact ⟨0,[],0,0,0,none,⟨h1,⟨by omega,fun _ => rfl⟩,Nat.le_refl _,fun h => by omega⟩,fun y hy => by cases hy⟩
 ·simp only [rr, tt, List.cons.injEq,and_true] at h1
  subst h1
  have hlz : len ≤ zs.length:=by rw [hz]; split <;> omega
  by_cases h0 : len = 0
  ·subst h0
   obtain ⟨b,o,s⟩:=a
   exact ⟨1,[],b,o,cap,s,⟨rfl,⟨by omega,fun _ => rfl⟩,Nat.zero_le _,fun h => by omega⟩,fun y hy => by cases hy⟩
  ·have hlen : ((zs.take len).map Int.toNat).length = len:=by simp; omega
   have hget : ∀ i v,(u32s ((zs.take len).map Int.toNat))[i]? = some v → W.cell? (a.add i) = some v:=by
    intro i v hv
    unfold u32s at hv
    rw [List.getElem?_map,List.getElem?_map,List.getElem?_take] at hv
    split at hv
    ·rename_i hi
     rw [List.getElem?_eq_getElem (by omega)] at hv
     simp only [rr, tt, Option.map_some,Option.some.injEq] at hv
     have h2:=hcell i (by omega)
     have h3 : zs.getD i 0 = zs[i]'(by omega):=by rw [List.getD_eq_getElem?_getD,List.getElem?_eq_getElem (by omega)]; rfl
     rw [h3] at h2
     have h4:=wf_u32 (hw _ (List.getElem_mem (by omega : i < zs.length)))
     rw [h2,← hv]
     congr 2
     exact (Int.toNat_of_nonneg h4.1).symm
    ·cases hv
   have hul : (u32s ((zs.take len).map Int.toNat)).length = len:=by unfold u32s; rw [List.length_map]; exact hlen
   obtain ⟨hs,hrow⟩:=row_is (a:=a) (cells:=u32s ((zs.take len).map Int.toNat)) (by omega) hget
   obtain ⟨b,o,s⟩:=a
   simp only at hs
   subst hs
   refine ⟨2,(zs.take len).map Int.toNat,b,o,cap,none,⟨by rw [hlen]; rfl,⟨by omega,fun h => by omega⟩,by rw [hlen]; exact hl,fun _ => hrow⟩,fun y hy => ?_⟩
   obtain ⟨z,hz',rfl⟩:=List.mem_map.1 hy
   have h4:=wf_u32 (hw z (List.mem_of_mem_take hz'))
   omega
end
instance : Inhabited Rl:=⟨⟨0,false,0,0,0,0⟩⟩
theorem rels_at : ∀ (rs : List Rl) (i j : Nat),i < rs.length → j < 6 → (rels rs)[i * 6 + j]? = (relC (rl0 rs i))[j]?
 | [],i,j,h,_ => by simp at h
 | x :: rs,0,j,_,hj => by
  rw [rels_cons,List.getElem?_append_left (by simp only [rr, tt, relC,List.length_cons,List.length_nil]; omega)]
  simp [rl0]
 | x :: rs,i + 1,j,h,hj => by
  have hl : (relC x).length = 6:=rfl
  rw [rels_cons,List.getElem?_append_right (by rw [hl]; omega),hl,show (i + 1) * 6 + j - 6 = i * 6 + j by omega,rels_at rs i j (by simpa using h) hj]
  rfl
section
variable {H : Type} {enc : TypeId × Value → H} {W : World} {base : Nat} {spare : Nat → Bool} {held : Bool}
theorem rel_slice {fuel : Nat} {u : Value} {x : DataW H × List MemPlace} (h : DataW.trod enc Try.prog W base spare held fuel 23 [u] = some x) :
  ∃ (k : Nat) (rs : List Rl) (B O C : Nat) (S : Option Nat),SlIs W u k (rels rs) rs.length B O C S ∧ ∀ y ∈ rs,RlOk y:=by
 rcases open_slice_fields Try.underlying23 Try.underlying42 (by kernel_rfl) (by kernel_rfl) h with ⟨h1,_⟩ | ⟨a,len,cap,m,D,Pl,h1,_,hl,_,hm,_,hi⟩
 ·simp only [rr, tt, List.cons.injEq,and_true] at h1
  exact ⟨0,[],0,0,0,none,⟨h1,⟨by omega,fun _ => rfl⟩,Nat.le_refl _,fun h => by omega⟩,fun y hy => by cases hy⟩
 ·simp only [rr, tt, List.cons.injEq,and_true] at h1
  subst h1
  have hlm : len ≤ m:=by rw [hm]; split <;> omega
  by_cases h0 : len = 0
  ·subst h0
   obtain ⟨b,o,s⟩:=a
   exact ⟨1,[],b,o,cap,s,⟨rfl,⟨by omega,fun _ => rfl⟩,Nat.zero_le _,fun h => by omega⟩,fun y hy => by cases hy⟩
  ·obtain ⟨R,hR⟩:=choose_lt (n:=len) (α:=Rl) (p:=fun i r => RlOk r ∧ ∀ j v,(relC r)[j]? = some v → W.cell? (a.add (i * 6 + j)) = some v) (fun i hil => by
    obtain ⟨ys,n,_,_,_,hf⟩:=hi i (by omega)
    obtain ⟨v0,y0,c0,_,t0⟩:=hf 0 _ rfl
    obtain ⟨v1,y1,c1,_,t1⟩:=hf 1 _ rfl
    obtain ⟨v2,y2,c2,_,t2⟩:=hf 2 _ rfl
    obtain ⟨v3,y3,c3,_,t3⟩:=hf 3 _ rfl
    obtain ⟨v4,y4,c4,_,t4⟩:=hf 4 _ rfl
    obtain ⟨v5,y5,c5,_,t5⟩:=hf 5 _ rfl
    obtain ⟨n0,e0,_,w0⟩:=DataW.trod_int Try.underlying30 t0
    obtain ⟨n1,e1,_⟩:=DataW.trod_bool Try.underlying4 t1
    obtain ⟨n2,e2,_,w2⟩:=DataW.trod_int Try.underlying30 t2
    obtain ⟨n3,e3,_,w3⟩:=DataW.trod_int Try.underlying30 t3
    obtain ⟨n4,e4,_,w4⟩:=DataW.trod_int Try.underlying31 t4
    obtain ⟨n5,e5,_,w5⟩:=DataW.trod_int Try.underlying31 t5
    simp only [rr, tt, List.cons.injEq,and_true] at e0 e1 e2 e3 e4 e5
    subst e0 e1 e2 e3 e4 e5
    have b0:=wf_u32 w0
    have b2:=wf_u32 w2
    have b3:=wf_u32 w3
    have b4:=wf_u16 w4
    have b5:=wf_u16 w5
    refine ⟨⟨n0.toNat,n1,n2.toNat,n3.toNat,n4.toNat,n5.toNat⟩,⟨by show n0.toNat < _; omega,by show n2.toNat < _; omega,by show n3.toNat < _; omega,by show n4.toNat < _; omega,by show n5.toNat < _; omega⟩,fun j v hj => ?_⟩
    have hj6 : j < 6:=(List.getElem?_eq_some_iff.1 hj).1
    have cc : ∀ z : Int,0 ≤ z → ((z.toNat : Nat) : Int) = z:=fun z hz => Int.toNat_of_nonneg hz
    unfold relC at hj
    simp only [rr, tt, cc n0 b0.1,cc n2 b2.1,cc n3 b3.1,cc n4 b4.1,cc n5 b5.1] at hj
    obtain rfl | rfl | rfl | rfl | rfl | rfl : j = 0 ∨ j = 1 ∨ j = 2 ∨ j = 3 ∨ j = 4 ∨ j = 5:=by omega
    all_goals
     simp at hj
     subst hj
     assumption)
   have hlen : ((List.range len).map R).length = len:=by simp
   have h0r : ∀ i,i < len → rl0 ((List.range len).map R) i = R i:=fun i hil => by
    unfold rl0; rw [List.getD_eq_getElem?_getD,List.getElem?_map,List.getElem?_range hil]; rfl
   have hget : ∀ q v,(rels ((List.range len).map R))[q]? = some v → W.cell? (a.add q) = some v:=by
    intro q v hv
    have hq : q < len * 6:=by
     have:=(List.getElem?_eq_some_iff.1 hv).1
     rw [rels_len,hlen] at this; exact this
    have e : q = q / 6 * 6 + q % 6:=by omega
    rw [e,rels_at _ _ _ (by rw [hlen]; omega) (Nat.mod_lt _ (by omega)),h0r _ (by omega)] at hv
    rw [e]
    exact (hR (q / 6) (by omega)).2 _ _ hv
   obtain ⟨hs,hrow⟩:=row_is (a:=a) (cells:=rels ((List.range len).map R)) (by rw [rels_len,hlen]; omega) hget
   obtain ⟨b,o,s⟩:=a
   simp only at hs
   subst hs
   refine ⟨2,(List.range len).map R,b,o,cap,none,⟨by rw [hlen]; rfl,⟨by omega,fun h => by omega⟩,by rw [hlen]; exact hl,fun _ => hrow⟩,fun y hy => ?_⟩
   obtain ⟨i,hi',rfl⟩:=List.mem_map.1 hy
   exact (hR i (by simpa using hi')).1
end
def ren3 (B1 O1 C1 : Nat) (S1 : Option Nat) (B2 O2 C2 : Nat) (S2 : Option Nat) (B3 O3 C3 : Nat) (S3 : Option Nat) : Ren :=
 ⟨fun l => if l < NG then l else if l = 64 then B1 else if l = 65 then B2 else B3,fun l => if l < NG then 0 else if l = 64 then O1 else if l = 65 then O2 else O3,
  fun l => if l = 64 then (O1,S1) else if l = 65 then (O2,S2) else (O3,S3),fun l => if l = 64 then C1 else if l = 65 then C2 else C3,fun l => Nat.blt l 67,
  fun _ h => if_pos h,fun _ h => if_pos h,fun l h => blt_yes (Nat.lt_trans h (by decide))⟩
theorem cap_big (r : Ren) (g : Nat) : r.cap (big + g) = r.c g:=cap_letter r g
section
variable {r : Ren} {W : World} {v : Value} {k n B O C g : Nat} {S : Option Nat} {cells : List Value}
theorem sl_val (h : SlIs W v k cells n B O C S) (hb : r.b g = B) (hw : r.w g = O) (ho : r.o g = (O,S)) (hc : r.c g = C) : v = r.val (sl k g n):=by
 rw [h.is]
 rcases k with _ | _ | k
 ·show Value.slice none 0 0 = r.val (.slice none 0 0)
  rw [val_slice]; simp only [rr, tt, Option.map_none,Ren.cap]; rfl
 ·show Value.slice (some ⟨B,O,S⟩) 0 C = r.val (.slice (some ⟨g,0,some g⟩) 0 (big + g))
  rw [val_slice,cap_big,hc]; simp [Ren.addr,hb,ho]
 ·show Value.slice (some ⟨B,O,none⟩) n C = r.val (.slice (some ⟨g,0,none⟩) n (big + g))
  rw [val_slice,cap_big,hc]; simp [Ren.addr,hb,hw]
theorem sl_bnd {d : Nat → Bool} (hd : d g = true) : bnd d (sl k g n) = true:=by
 unfold sl
 split
 ·exact bnd_flat0 _ rfl
 ·rw [bnd_slice]; simp [bndA,hd]
 ·rw [bnd_slice]; simp [bndA,hd]
theorem sl_block (h : SlIs W v k cells n B O C S) (hb : r.b g = B) (hw : r.w g = O) (hf : ∀ u ∈ cells,flat0 u = true) : ∀ x ∈ slH k g cells,x.1 = g ∧ x.2.rw = false ∧ x.2.op = some (0,0) ∧ x.2.cells = cells ∧ Sy.Is r x.2 x.1 W:=by
 intro x hx
 unfold slH at hx
 split at hx
 ·cases hx
 ·cases hx
 ·rename_i k0 k1
  obtain rfl:=List.mem_singleton.1 hx
  refine ⟨rfl,rfl,rfl,rfl,.inl ⟨rfl,?_⟩⟩
  have hk2 : 2 ≤ k:=by
   rcases Nat.lt_or_ge k 2 with h | h
   ·have : k = 0 ∨ k = 1:=by omega
    rcases this with h | h
    ·exact absurd h k0
    ·exact absurd h k1
   ·exact h
  obtain ⟨arr,ty,fr,p1,p2,p3⟩:=h.at_ hk2
  refine ⟨arr,ty,fr,by rw [hb]; exact p1,⟨.inl rfl,by rw [hw]; exact p2⟩,fun j u hj => ?_,fun h => by cases h⟩
  rw [hw,val_flat0 r (hf u (List.mem_of_getElem? hj))]
  exact p3 j u hj
end
theorem in_good {W : World} {v1 v2 v3 : Value} {i j k : Nat} {cs : List Nat} {rs : List Rl} {starts : List Nat} {B1 O1 C1 B2 O2 C2 B3 O3 C3 : Nat} {S1 S2 S3 : Option Nat}
  (h1 : SlIs W v1 i (u32s cs) cs.length B1 O1 C1 S1) (h2 : SlIs W v2 j (rels rs) rs.length B2 O2 C2 S2) (h3 : SlIs W v3 k (u32s starts) starts.length B3 O3 C3 S3) (T : List (Nat × Bool)) :
  Sy.Good (ren3 B1 O1 C1 S1 B2 O2 C2 S2 B3 O3 C3 S3) ⟨67,inH i j k cs rs starts,inLo cs rs starts,0,T,0,True⟩ W:=by
 have key : ∀ x ∈ inH i j k cs rs starts,(x.1 = 64 ∨ x.1 = 65 ∨ x.1 = 66) ∧ x.2.rw = false ∧ x.2.op = some (0,0) ∧ (∀ u ∈ x.2.cells,flat0 u = true) ∧ Sy.Is (ren3 B1 O1 C1 S1 B2 O2 C2 S2 B3 O3 C3 S3) x.2 x.1 W:=by
  intro x hx
  unfold inH at hx
  rw [List.mem_append,List.mem_append] at hx
  rcases hx with (hx | hx) | hx
  ·obtain ⟨e1,e2,e3,e4,e5⟩:=sl_block (r:=ren3 B1 O1 C1 S1 B2 O2 C2 S2 B3 O3 C3 S3) (g:=64) h1 rfl rfl (u32s_flat cs) x hx
   exact ⟨.inl e1,e2,e3,by rw [e4]; exact u32s_flat cs,e5⟩
  ·obtain ⟨e1,e2,e3,e4,e5⟩:=sl_block (r:=ren3 B1 O1 C1 S1 B2 O2 C2 S2 B3 O3 C3 S3) (g:=65) h2 rfl rfl (rels_flat rs) x hx
   exact ⟨.inr (.inl e1),e2,e3,by rw [e4]; exact rels_flat rs,e5⟩
  ·obtain ⟨e1,e2,e3,e4,e5⟩:=sl_block (r:=ren3 B1 O1 C1 S1 B2 O2 C2 S2 B3 O3 C3 S3) (g:=66) h3 rfl rfl (u32s_flat starts) x hx
   exact ⟨.inr (.inr e1),e2,e3,by rw [e4]; exact u32s_flat starts,e5⟩
 refine ⟨fun g k hk => (key _ (look_mem hk)).2.2.2.2,fun g g' k k' e1 e2 hrw _ => ?_,fun g k hk => ?_,fun x hx => ?_⟩
 ·have:=(key _ (look_mem e1)).2.1
  simp only [] at this
  rw [this] at hrw; cases hrw
 ·obtain ⟨q1,_,q3,q4,_⟩:=key _ (look_mem hk)
  refine ⟨blt_yes (by simp only [] at q1; omega),fun p hp => ?_,fun u hu => ⟨bnd_flat0 _ (q4 u hu),flat0_oneCell (q4 u hu)⟩⟩
  simp only [] at q3
  rw [q3] at hp
  cases hp
  rfl
 ·simp only [rr, tt, inLo,List.mem_cons,List.not_mem_nil,or_false] at hx
  rcases hx with rfl | rfl | rfl
  ·exact ⟨h1.le,rfl⟩
  ·exact ⟨h2.le,rfl⟩
  ·exact ⟨h3.le,rfl⟩
theorem eq7 {l : List Value} {a b c d e f g : Value} (hl : l.length = 7) (h0 : l[0]? = some a) (h1 : l[1]? = some b) (h2 : l[2]? = some c) (h3 : l[3]? = some d) (h4 : l[4]? = some e) (h5 : l[5]? = some f) (h6 : l[6]? = some g) : l = [a,b,c,d,e,f,g]:=by
 match l,hl with
 | [x0,x1,x2,x3,x4,x5,x6],_ =>
  simp only [rr, tt, List.getElem?_cons_zero,List.getElem?_cons_succ,Option.some.injEq] at h0 h1 h2 h3 h4 h5 h6
  subst h0 h1 h2 h3 h4 h5 h6
  rfl
set_option maxRecDepth 100000 in
theorem open_img {H : Type} {enc : TypeId × Value → H} {W : World} {base b0 : Nat} {rc : Reach} {sp : Nat → Bool} {hd : Bool} {v : Value} {d : DataW H} {p : List MemPlace}
  (hv : Value.okWide Try.prog W rc b0 25 v) (h : DataW.Trod enc Try.prog W base sp hd 25 v d p) :
  ∃ (pages stack types : Int) (data : List UInt8) (cs : List Nat) (rs : List Rl) (starts : List Nat) (v1 v2 v3 : Value) (i j k B1 O1 C1 B2 O2 C2 B3 O3 C3 : Nat) (S1 S2 S3 : Option Nat),
   v = .agg ⟨[.int .i64 pages,.int .i64 stack,.int .i64 types,v1,.string ⟨⟨data⟩⟩,v2,v3]⟩ ∧ SlIs W v1 i (u32s cs) cs.length B1 O1 C1 S1 ∧ SlIs W v2 j (rels rs) rs.length B2 O2 C2 S2 ∧ SlIs W v3 k (u32s starts) starts.length B3 O3 C3 S3 ∧
   (∀ x ∈ cs,x < 4294967296) ∧ (∀ x ∈ rs,RlOk x) ∧ (∀ x ∈ starts,x < 4294967296):=by
 obtain ⟨l,rfl,hl,hf⟩:=open_agg_all Try.underlying25 (by kernel_rfl) (by kernel_rfl) hv h
 obtain ⟨u0,y0,m0,g0,t0⟩:=hf 0 _ rfl
 obtain ⟨u1,y1,m1,g1,t1⟩:=hf 1 _ rfl
 obtain ⟨u2,y2,m2,g2,t2⟩:=hf 2 _ rfl
 obtain ⟨u3,y3,m3,g3,t3⟩:=hf 3 _ rfl
 obtain ⟨u4,y4,m4,g4,t4⟩:=hf 4 _ rfl
 obtain ⟨u5,y5,m5,g5,t5⟩:=hf 5 _ rfl
 obtain ⟨u6,y6,m6,g6,t6⟩:=hf 6 _ rfl
 obtain ⟨pages,e0,_⟩:=DataW.trod_int Try.underlying3 t0
 obtain ⟨stack,e1,_⟩:=DataW.trod_int Try.underlying3 t1
 obtain ⟨types,e2,_⟩:=DataW.trod_int Try.underlying3 t2
 obtain ⟨str,e4,_⟩:=DataW.trod_string Try.underlying9 t4
 obtain ⟨i,cs,B1,O1,C1,S1,s1,n1⟩:=u32_slice Try.underlying22 Try.underlying30 (by kernel_rfl) t3
 obtain ⟨j,rs,B2,O2,C2,S2,s2,n2⟩:=rel_slice t5
 obtain ⟨k,starts,B3,O3,C3,S3,s3,n3⟩:=u32_slice Try.underlying22 Try.underlying30 (by kernel_rfl) t6
 simp only [rr, tt, List.cons.injEq,and_true] at e0 e1 e2 e4
 subst e0 e1 e2 e4
 obtain rfl:=eq7 hl g0 g1 g2 g3 g4 g5 g6
 obtain ⟨⟨data⟩⟩:=str
 exact ⟨pages,stack,types,data,cs,rs,starts,u3,u5,u6,i,j,k,B1,O1,C1,B2,O2,C2,B3,O3,C3,S1,S2,S3,rfl,s1,s2,s3,n1,n2,n3⟩
theorem sl_form {k g n : Nat} (h : slOk k n) : ∃ (a : Option Addr) (c : Nat),sl k g n = .slice a n c:=by
 obtain ⟨_,h2⟩:=h
 rcases k with _ | _ | k
 ·obtain rfl:=h2 (by omega); exact ⟨none,0,rfl⟩
 ·obtain rfl:=h2 (by omega); exact ⟨some ⟨g,0,some g⟩,big + g,rfl⟩
 ·exact ⟨some ⟨g,0,none⟩,big + g,rfl⟩
theorem inH_mem {i j k : Nat} {cs : List Nat} {rs : List Rl} {starts : List Nat} : ∀ x ∈ inH i j k cs rs starts,(x.1 = 64 ∨ x.1 = 65 ∨ x.1 = 66) ∧ x.2.rw = false ∧ x.2.op = some (0,0) ∧ ∀ u ∈ x.2.cells,flat0 u = true:=by
 have one : ∀ (k g : Nat) (cells : List Value),(∀ u ∈ cells,flat0 u = true) → ∀ x ∈ slH k g cells,x.1 = g ∧ x.2.rw = false ∧ x.2.op = some (0,0) ∧ ∀ u ∈ x.2.cells,flat0 u = true:=by
  intro k g cells hf x hx
  unfold slH at hx
  split at hx
  ·cases hx
  ·cases hx
  ·obtain rfl:=List.mem_singleton.1 hx
   exact ⟨rfl,rfl,rfl,hf⟩
 intro x hx
 unfold inH at hx
 rw [List.mem_append,List.mem_append] at hx
 rcases hx with (hx | hx) | hx
 ·obtain ⟨e1,e⟩:=one _ _ _ (u32s_flat cs) x hx; exact ⟨.inl e1,e⟩
 ·obtain ⟨e1,e⟩:=one _ _ _ (rels_flat rs) x hx; exact ⟨.inr (.inl e1),e⟩
 ·obtain ⟨e1,e⟩:=one _ _ _ (u32s_flat starts) x hx; exact ⟨.inr (.inr e1),e⟩
end Go.Proofs.Ytliidiceljdgmaa
namespace Go.Proofs.Ytliidiceljdgmaa
open Go.ChangeShapes Go.WideShapes Go.ChangeAt Go.RowKit
open Sy
set_option maxRecDepth 100000
theorem img_walkS {call : CallK} (hcall : SoundCall Try.prog call) {f : FuncId} {W : World} {v1 v2 v3 : Value} {i j k : Nat} {pages stack types : Int} {data : List UInt8} {cs : List Nat} {rs : List Rl} {starts : List Nat} {B1 O1 C1 B2 O2 C2 B3 O3 C3 : Nat} {S1 S2 S3 : Option Nat}
  (h1 : SlIs W v1 i (u32s cs) cs.length B1 O1 C1 S1) (h2 : SlIs W v2 j (rels rs) rs.length B2 O2 C2 S2) (h3 : SlIs W v3 k (u32s starts) starts.length B3 O3 C3 S3) {hs : Sy.Heap} (hsub : ∀ g b,Sy.look hs g = some b → Sy.look (inH i j k cs rs starts) g = some b) (hro : hs.all (fun y => !y.2.rw) = true)
  (run : ∃ (T : List (Nat × Bool)) (q : Prop),obs (call f [inV i j k pages stack types data cs rs starts] ⟨67,hs,[],0,T,0,True⟩) = some (.bool true,q) ∧ q) :
  Calls Try.prog f #[.agg ⟨[.int .i64 pages,.int .i64 stack,.int .i64 types,v1,.string ⟨⟨data⟩⟩,v2,v3]⟩] W fun e W' => e = .returned (.bool true) ∧ Below W.heap.size W W':=by
 obtain ⟨T,q,hr,hq⟩:=run
 have hb : ∀ u ∈ [inV i j k pages stack types data cs rs starts],bnd (ren3 B1 O1 C1 S1 B2 O2 C2 S2 B3 O3 C3 S3).d u = true:=fun u hu => by
  obtain rfl:=List.mem_singleton.1 hu
  unfold inV
  rw [bnd_agg]
  have e1 : bnd (ren3 B1 O1 C1 S1 B2 O2 C2 S2 B3 O3 C3 S3).d (sl i 64 cs.length) = true:=sl_bnd rfl
  have e2 : bnd (ren3 B1 O1 C1 S1 B2 O2 C2 S2 B3 O3 C3 S3).d (sl j 65 rs.length) = true:=sl_bnd rfl
  have e3 : bnd (ren3 B1 O1 C1 S1 B2 O2 C2 S2 B3 O3 C3 S3).d (sl k 66 starts.length) = true:=sl_bnd rfl
  rw [Array.all_eq_true_iff_forall_mem]
  intro u hu
  simp only [rr, tt, List.mem_toArray,List.mem_cons,List.not_mem_nil,or_false] at hu
  rcases hu with rfl | rfl | rfl | rfl | rfl | rfl | rfl
  ·exact bnd_flat0 _ rfl
  ·exact bnd_flat0 _ rfl
  ·exact bnd_flat0 _ rfl
  ·exact e1
  ·exact bnd_flat0 _ rfl
  ·exact e2
  ·exact e3
 have hw : WFn ⟨67,hs,[],0,T,0,True⟩:=⟨fun g kb hk => by
  have:=(inH_mem _ (look_mem (hsub g kb hk))).1
  show g < 67
  simp only [] at this
  omega,fun x hx => by cases hx⟩
 have hg : Sy.Good (ren3 B1 O1 C1 S1 B2 O2 C2 S2 B3 O3 C3 S3) ⟨67,hs,[],0,T,0,True⟩ W :=
  (in_good h1 h2 h3 T).sub' (fun g b hk => ⟨b,hsub g b hk,.inl rfl,rfl,rfl,id⟩) (fun x hx => by cases hx)
 have h:=yes_ok hcall hr hq hw hro hg (fun l hl => blt_no hl) hb
 have hv : (Value.agg ⟨[.int .i64 pages,.int .i64 stack,.int .i64 types,v1,.string ⟨⟨data⟩⟩,v2,v3]⟩) = (ren3 B1 O1 C1 S1 B2 O2 C2 S2 B3 O3 C3 S3).val (inV i j k pages stack types data cs rs starts):=by
  have e1:=sl_val (r:=ren3 B1 O1 C1 S1 B2 O2 C2 S2 B3 O3 C3 S3) (g:=64) h1 rfl rfl rfl rfl
  have e2:=sl_val (r:=ren3 B1 O1 C1 S1 B2 O2 C2 S2 B3 O3 C3 S3) (g:=65) h2 rfl rfl rfl rfl
  have e3:=sl_val (r:=ren3 B1 O1 C1 S1 B2 O2 C2 S2 B3 O3 C3 S3) (g:=66) h3 rfl rfl rfl rfl
  unfold inV
  rw [val_agg]
  simp only [rr, tt, List.map_toArray,List.map_cons,List.map_nil,val_int,val_string,← e1,← e2,← e3]
 rw [hv]
 exact h
theorem r256_is (n : Nat) : n ≤ r256 n ∧ r256 n % 256 = 0 ∧ r256 n ≤ n + 255:=by unfold r256; omega
theorem sl_okV {q : Nat → Bool} {d k g n : Nat} (h : q g = true) : okV q d (sl k g n) = true:=by
 unfold sl
 split <;> cases d <;> simp [okV,bndA,h,flat0,big]
theorem err_all5 {p s t : Int} {nc : Nat} {d : List UInt8} {rs : List Rl} {so : List Nat} (he : errOf p s t nc d rs so = 0) : isArg p s t nc so.length = false ∧ isFar nc so = false ∧ layBig p s nc so.length d.length = false ∧ isBad t nc d.length rs = false:=by
 unfold errOf at he
 cases hl : isLong nc d.length rs.length so.length <;> rw [hl] at he <;> try (simp at he; done)
 cases ha : isArg p s t nc so.length <;> rw [ha] at he <;> try (simp at he; done)
 cases hf : isFar nc so <;> rw [hf] at he <;> try (simp at he; done)
 cases hg : layBig p s nc so.length d.length <;> rw [hg] at he <;> try (simp at he; done)
 cases hb : isBad t nc d.length rs <;> rw [hb] at he <;> try (simp at he; done)
 exact ⟨rfl,rfl,rfl,rfl⟩
theorem img_good {p s t : Int} {cs : List Nat} {d : List UInt8} {rs : List Rl} {so : List Nat} (he : errOf p s t cs.length d rs so = 0) (l1 : cs.length ≤ 4096) (l2 : d.length ≤ 16384) (l4 : so.length ≤ 4) (n1 : ∀ x ∈ cs,x < 4294967296) (n2 : ∀ x ∈ rs,RlOk x) :
  ∃ P S T : Nat,p = P ∧ s = S ∧ t = T ∧ LqOk P S T cs d so (r256 (4 * cs.length)) (r256 (4 * cs.length)) (r256 d.length) (r256 (4 * cs.length) + r256 d.length) (S * so.length) (layFrom S cs.length so.length d.length) (P * 256 - layFrom S cs.length so.length d.length) ∧ StOk P S (r256 (4 * cs.length) + r256 d.length) so.length ∧
   (∀ r ∈ rs,RlFit (r256 (4 * cs.length)) (P * 256) r) ∧ (∀ r ∈ rs,r256 (4 * cs.length) + r.at_ + 16 ≤ r256 (4 * cs.length) + r256 d.length) ∧ 1 ≤ so.length ∧ layFrom S cs.length so.length d.length + 256 ≤ P * 256:=by
 obtain ⟨e2,e3,e4,e5⟩:=err_all5 he
 obtain ⟨r1,r2,r3⟩:=r256_is (4 * cs.length)
 obtain ⟨r4,r5,r6⟩:=r256_is d.length
 have e20 : so.length ≠ 0:=fun h => by
  have:=e2
  unfold isArg at this
  simp [h] at this
 simp [isArg] at e2
 obtain ⟨P,rfl⟩:=Int.eq_ofNat_of_zero_le (show 0 ≤ p by omega)
 obtain ⟨S,rfl⟩:=Int.eq_ofNat_of_zero_le (show 0 ≤ s by omega)
 obtain ⟨T,rfl⟩:=Int.eq_ofNat_of_zero_le (show 0 ≤ t by omega)
 have hS : S % 256 = 0:=by
  have h : ((S : Int)).tmod 256 = 0:=e2.2.2.2.2.1
  rw [show (S : Int).tmod (256 : Int) = ((S % 256 : Nat) : Int) from (Int.ofNat_tmod S 256).symm] at h
  omega
 have hfar : ∀ x ∈ so,x < cs.length:=fun x hx => by
  obtain ⟨n,hn,rfl⟩:=List.getElem_of_mem hx
  unfold isFar at e3
  have:=List.any_eq_false.1 e3 n (List.mem_range.2 hn)
  simp [List.getD_eq_getElem?_getD,List.getElem?_eq_getElem hn] at this
  exact this
 have hbig : layFrom S cs.length so.length d.length + 256 ≤ P * 256:=by
  simp [layBig] at e4
  exact e4
 have hfrom : r256 (4 * cs.length) + r256 d.length ≤ layFrom S cs.length so.length d.length:=by unfold layFrom; exact Nat.le_add_right _ _
 have hrl : ∀ r ∈ rs,RlFit (r256 (4 * cs.length)) (P * 256) r ∧ r256 (4 * cs.length) + r.at_ + 16 ≤ r256 (4 * cs.length) + d.length:=fun r hr => by
  obtain ⟨n,hn,rfl⟩:=List.getElem_of_mem hr
  unfold isBad at e5
  have hg:=List.any_eq_false.1 e5 n (List.mem_range.2 hn)
  have hrr : rl0 rs n = rs[n]:=by unfold rl0; rw [List.getD_eq_getElem?_getD,List.getElem?_eq_getElem hn]; rfl
  have hg2 : relRight (T : Int) cs.length d.length 0 (r256 (4 * cs.length)) (rs[n]) (behindN rs n) = true:=by
   rw [← hrr]
   simpa [relGood] using hg
  exact rl_fit (n2 _ hr) (by omega) l1 l2 r2 (by omega) (by omega) hg2
 exact ⟨P,S,T,rfl,rfl,rfl,⟨by omega,by omega,by omega,by omega,l1,fun x hx => by have:=hfar x hx; omega,n1,r1,rfl,r4,rfl,by omega⟩,⟨by omega,by omega,hS,by omega,by omega⟩,fun r hr => (hrl r hr).1,fun r hr => by have:=(hrl r hr).2; omega,by omega,hbig⟩
end Go.Proofs.Ytliidiceljdgmaa
namespace Go.Proofs.Ytliidiceljdgmaa
open Go.ChangeShapes Go.WideShapes Go.ChangeAt Go.RowKit
open Sy
set_option maxRecDepth 100000
theorem clean_run (i j k : Nat) (p s t : Int) (d : List UInt8) (cs : List Nat) (rs : List Rl) (so : List Nat) (h1 : slOk i cs.length) (h2 : slOk j rs.length) (h3 : slOk k so.length) (n1 : ∀ x ∈ cs,x < 4294967296) (n2 : ∀ x ∈ rs,RlOk x) (n3 : ∀ x ∈ so,x < 4294967296) :
  ∃ (call : CallK) (hs : Sy.Heap),SoundCall Try.prog call ∧ (∀ g b,Sy.look hs g = some b → Sy.look (inH i j k cs rs so) g = some b) ∧ hs.all (fun y => !y.2.rw) = true ∧ ∃ (T : List (Nat × Bool)) (q : Prop),obs (call 7 [inV i j k p s t d cs rs so] ⟨67,hs,[],0,T,0,True⟩) = some (.bool true,q) ∧ q:=by
 obtain ⟨a1,c1,q1⟩:=sl_form (g:=64) h1
 obtain ⟨a2,c2,q2⟩:=sl_form (g:=65) h2
 obtain ⟨a3,c3,q3⟩:=sl_form (g:=66) h3
 have hself : ∀ e : Int,Value.bool (e == e) = .bool true:=fun e => by simp
 have f3 : ∀ (xs : List Nat) (p : Nat → Bool),(u32s xs).all (okV p 3) = true:=fun xs p => flat_all (u32s_flat _)
 have f4 : ∀ (xs : List Nat) (σ : Nat → Nat),(u32s xs).map (rnV σ 3) = u32s xs:=fun xs σ => flat_map (u32s_flat _)
 have f1 : ∀ (p : Nat → Bool),(rels rs).all (okV p 3) = true:=fun p => flat_all (rels_flat rs)
 have f2 : ∀ (σ : Nat → Nat),(rels rs).map (rnV σ 3) = rels rs:=fun σ => flat_map (rels_flat rs)
 by_cases h0 : isLong cs.length d.length rs.length so.length = true ∨ cs.length = 0 ∨ so.length = 0
 ·have hv : inV i j k p s t d cs rs so = genI p s t d a1 a2 a3 cs.length rs.length so.length c1 c2 c3:=by unfold inV genI; rw [q1,q2,q3]
  rw [hv]
  have hok : okV (fun l => Nat.blt l 67) 3 (genI p s t d a1 a2 a3 cs.length rs.length so.length c1 c2 c3) = true:=by
   have b1 : okV (fun l => Nat.blt l 67) 2 (.slice a1 cs.length c1) = true:=by rw [← q1]; exact sl_okV rfl
   have b2 : okV (fun l => Nat.blt l 67) 2 (.slice a2 rs.length c2) = true:=by rw [← q2]; exact sl_okV rfl
   have b3 : okV (fun l => Nat.blt l 67) 2 (.slice a3 so.length c3) = true:=by rw [← q3]; exact sl_okV rfl
   show List.all [Value.int .i64 p,.int .i64 s,.int .i64 t,.slice a1 cs.length c1,.string ⟨⟨d⟩⟩,.slice a2 rs.length c2,.slice a3 so.length c3] (okV (fun l => Nat.blt l 67) 2) = true
   simp only [rr, tt, List.all_cons,List.all_nil,b1,b2,b3,Bool.and_true,Bool.true_and]
   rfl
  have hl:=layE_con p s t d a1 a2 a3 cs.length rs.length so.length c1 c2 c3 h0 hok
  obtain ⟨e,he⟩ : ∃ e : Int,(bif isLong cs.length d.length rs.length so.length then (3 : Int) else 2) = e:=⟨_,rfl⟩
  have h0' : (e != 0) = true:=by rw [← he]; cases isLong cs.length d.length rs.length so.length <;> rfl
  rw [he] at hl
  have hr:=lce_g p s t e d a1 a2 a3 cs.length rs.length so.length c1 c2 c3 []
  rw [hself e] at hr
  refine ⟨_,[],run_ok (L:=100) ar_names (baseT_ok (selStepsT_ok fun x hx => ?_) (baseC_ok fun f args s c ρ q h hq => ?_)) (noLoop_ok _) 20,fun g b hb => (by cases hb),rfl,_,_,hr,?_⟩
  ·simp only [rr, tt, lcEM,List.mem_cons,List.not_mem_nil,or_false] at hx
   rcases hx with rfl | rfl | rfl
   ·exact ⟨hl,⟨fun x hx => (by cases hx),fun x hx => (by cases hx)⟩⟩
   ·exact ⟨hl,⟨fun x hx => (by cases hx),fun x hx => (by cases hx)⟩⟩
   ·exact ⟨hl,⟨fun x hx => (by cases hx),fun x hx => (by cases hx)⟩⟩
  ·unfold selLbW at h
   obtain ⟨h3,h4⟩:=bif_some h
   have h3:=eB h3
   subst h3
   cases h4
   exact lw_con.1
  ·simp only [rr, tt, h0',and_true,true_and,and_self]
 ·have hi : i = 2:=by have:=h1.1; have:=h1.2; omega
  have hk : k = 2:=by have:=h3.1; have:=h3.2; omega
  subst hi hk
  have hlf : isLong cs.length d.length rs.length so.length = false:=by
   cases hb : isLong cs.length d.length rs.length so.length
   ·rfl
   ·exact absurd (.inl hb) h0
  have hs4 : cs.length ≤ 4096 ∧ d.length ≤ 16384 ∧ rs.length ≤ 256 ∧ so.length ≤ 4:=by
   simp [isLong] at hlf
   omega
  have hi : ImOk rs so:=⟨n2,n3,by omega⟩
  by_cases hrs : rs = []
  ·subst hrs
   have em : EmOk a2 c2:=fun q d hq => by
    have : sl j 65 0 = .slice a2 0 c2:=q2
    rw [← this]; exact sl_okV (hq 65 (by omega))
   have hv : inV 2 j 2 p s t d cs [] so = genI p s t d (some ⟨64,0,none⟩) a2 (some ⟨66,0,none⟩) cs.length 0 so.length (big + 64) c2 (big + 66):=by
    unfold inV genI; rw [q2]; rfl
   rw [hv]
   have look6 : ∀ g b,Sy.look (btHY so) g = some b → Sy.look (inH 2 j 2 cs [] so) g = some b:=fun g b hb => by
    unfold btHY at hb
    rw [look_cons] at hb
    split at hb
    ·rename_i hg; subst hg; rw [← hb]; unfold inH slH; rcases j with _ | _ | j <;> rfl
    ·cases hb
   have look7 : ∀ g b,Sy.look (lqHY cs so) g = some b → Sy.look (inH 2 j 2 cs [] so) g = some b:=fun g b hb => by
    unfold lqHY at hb
    rw [look_cons] at hb
    split at hb
    ·rename_i hg; subst hg; rw [← hb]; unfold inH slH; rcases j with _ | _ | j <;> rfl
    ·exact look6 g b hb
   have hlay:=(lay_conY a2 c2 em p s t cs.length d so hi).drop
   by_cases he : errOf p s t cs.length d [] so = 0
   ·obtain ⟨P,S,T,rfl,rfl,rfl,g1,g2,_,_,g5,_⟩:=img_good he hs4.1 hs4.2.1 hs4.2.2.2 n1 n2
    have hL : ConOk Try.prog 16 3 (layG (genJ P S T d a2 cs.length 0 so.length c2) (btHY so) (r256 (4 * cs.length)) (r256 (4 * cs.length)) (r256 d.length) (r256 (4 * cs.length) + r256 d.length) (S * so.length) (layFrom S cs.length so.length d.length) (P * 256 - layFrom S cs.length so.length d.length)):=by
     have:=hlay
     unfold layRes layV at this
     rw [he] at this
     exact this
    obtain ⟨call,T',q,hc,hr,hq⟩:=cleanY P S T cs d a2 c2 em so _ _ _ _ _ _ _ g1 g2 g5 hs4.2.2.2 hL
    exact ⟨call,lqHY cs so,hc,look7,rfl,T',q,hr,hq⟩
   ·obtain ⟨e,hE⟩ : ∃ e : Nat,errOf p s t cs.length d [] so = e:=⟨_,rfl⟩
    rw [hE] at he
    have hb0 : Nat.beq e 0 = false:=by
     cases hb : Nat.beq e 0
     ·rfl
     ·exact absurd (eB hb) he
    have h0' : ((e : Int) != 0) = true:=by simp; omega
    have hL : ConOk Try.prog 16 3 (layEH (genI p s t d (some ⟨64,0,none⟩) a2 (some ⟨66,0,none⟩) cs.length 0 so.length (big + 64) c2 (big + 66)) (btHY so) (e : Nat)):=by
     have:=hlay
     unfold layRes layV at this
     rw [hE] at this
     simp only [rr, tt, pe,hb0,cond_false] at this
     exact this
    have hr:=lce_y p s t (e : Nat) d a2 c2 cs.length so
    rw [hself (e : Int)] at hr
    refine ⟨_,btHY so,run_ok (L:=100) ar_names (baseF_ok (selSteps_ok fun x hx => ?_) (noBase_ok _)) (noLoop_ok _) 20,look6,rfl,_,_,hr,?_⟩
    ·simp only [rr, tt, lcES,List.mem_cons,List.not_mem_nil,or_false] at hx
     rcases hx with rfl | rfl | rfl | rfl
     ·exact lw_con
     ·exact ⟨hL,⟨fun x hx => (by cases hx)⟩⟩
     ·exact ⟨hL,⟨fun x hx => (by cases hx)⟩⟩
     ·exact ⟨hL,⟨fun x hx => (by cases hx)⟩⟩
    ·simp only [rr, tt, h0',em_rn em,f3,f4,and_true,true_and,and_self]
  ·have hj : j = 2:=by
    have hne0 : rs.length ≠ 0:=fun h => hrs (List.length_eq_zero_iff.1 h)
    have:=h2.1; have:=h2.2; omega
   subst hj
   have look6 : ∀ g b,Sy.look (btH rs so) g = some b → Sy.look (inH 2 2 2 cs rs so) g = some b:=fun g b hb => by
    unfold btH at hb
    rw [look_cons] at hb
    split at hb
    ·rename_i hg; subst hg; rw [← hb]; rfl
    ·rw [look_cons] at hb
     split at hb
     ·rename_i hg; subst hg; rw [← hb]; rfl
     ·cases hb
   have look7 : ∀ g b,Sy.look (lqH cs rs so) g = some b → Sy.look (inH 2 2 2 cs rs so) g = some b:=fun g b hb => by
    unfold lqH at hb
    rw [look_cons] at hb
    split at hb
    ·rename_i hg; subst hg; rw [← hb]; rfl
    ·exact look6 g b hb
   have hlay:=(lay_con p s t cs.length d rs so hi).drop
   by_cases he : errOf p s t cs.length d rs so = 0
   ·obtain ⟨P,S,T,rfl,rfl,rfl,g1,g2,g3,g4,g5,_⟩:=img_good he hs4.1 hs4.2.1 hs4.2.2.2 n1 n2
    have hL : ConOk Try.prog 16 3 (layG (genJ P S T d (some ⟨65,0,none⟩) cs.length rs.length so.length (big + 65)) (btH rs so) (r256 (4 * cs.length)) (r256 (4 * cs.length)) (r256 d.length) (r256 (4 * cs.length) + r256 d.length) (S * so.length) (layFrom S cs.length so.length d.length) (P * 256 - layFrom S cs.length so.length d.length)):=by
     have:=hlay
     unfold layRes layV at this
     rw [he] at this
     exact this
    obtain ⟨call,T',q,hc,hr,hq⟩:=cleanF P S T cs d rs so _ _ _ _ _ _ _ g1 g2 g3 g4 hs4.2.2.1 g5 hs4.2.2.2 hL
    exact ⟨call,lqH cs rs so,hc,look7,rfl,T',q,hr,hq⟩
   ·obtain ⟨e,hE⟩ : ∃ e : Nat,errOf p s t cs.length d rs so = e:=⟨_,rfl⟩
    rw [hE] at he
    have hb0 : Nat.beq e 0 = false:=by
     cases hb : Nat.beq e 0
     ·rfl
     ·exact absurd (eB hb) he
    have h0' : ((e : Int) != 0) = true:=by simp; omega
    have hL : ConOk Try.prog 16 3 (layEH (genI p s t d (some ⟨64,0,none⟩) (some ⟨65,0,none⟩) (some ⟨66,0,none⟩) cs.length rs.length so.length (big + 64) (big + 65) (big + 66)) (btH rs so) (e : Nat)):=by
     have:=hlay
     unfold layRes layV at this
     rw [hE] at this
     simp only [rr, tt, pe,hb0,cond_false] at this
     exact this
    have hr:=lce_f p s t (e : Nat) d cs.length rs so
    rw [hself (e : Int)] at hr
    refine ⟨_,btH rs so,run_ok (L:=100) ar_names (baseF_ok (selSteps_ok fun x hx => ?_) (noBase_ok _)) (noLoop_ok _) 20,look6,rfl,_,_,hr,?_⟩
    ·simp only [rr, tt, lcES,List.mem_cons,List.not_mem_nil,or_false] at hx
     rcases hx with rfl | rfl | rfl | rfl
     ·exact lw_con
     ·exact ⟨hL,⟨fun x hx => (by cases hx)⟩⟩
     ·exact ⟨hL,⟨fun x hx => (by cases hx)⟩⟩
     ·exact ⟨hL,⟨fun x hx => (by cases hx)⟩⟩
    ·simp only [rr, tt, h0',f1,f2,f3,f4,and_true,true_and,and_self]
theorem loaderClean_law : LawWalk 7 Try.f7:=by
 intro H enc W base args ds p hval hA
 rw [Try.params7] at hA hval
 obtain ⟨v0,vs0,d0,ds0,p0,q0,hargs,rfl,rfl,h0,r0⟩:=trodAll_cons hA
 obtain ⟨rfl,rfl,rfl⟩:=trodAll_nil r0
 obtain rfl : args = #[v0]:=by cases args; simp_all
 obtain ⟨pages,stack,types,data,cs,rs,starts,v1,v2,v3,i,j,k,B1,O1,C1,B2,O2,C2,B3,O3,C3,S1,S2,S3,rfl,s1,s2,s3,n1,n2,n3⟩:=open_img (hval 0 _ v0 rfl rfl) h0
 obtain ⟨call,hs,hc,hsub,hro,hr⟩:=clean_run i j k pages stack types data cs rs starts s1.ok s2.ok s3.ok n1 n2 n3
 exact img_walkS hc s1 s2 s3 hsub hro hr
set_option maxRecDepth 100000 in
theorem loaderClean_proved : Rows.LoaderCleanSaid :=
 OpenClaim.holds_of_wide 7 Try.f7 rfl rfl rfl rfl rfl rfl rfl ⟨rfl,rfl,rfl,rfl,rfl⟩ rfl rfl rfl rfl rfl (by kernel_rfl) Try.func7 (by kernel_rfl)
  (of_decide_eq_true (by kernel_rfl)) (by unfold Func.isWrapper; first | (rw [if_pos (by decide +kernel)]; kernel_rfl) | (rw [if_neg (by decide +kernel)]; exact ⟨rfl,rfl⟩))
  (fun os started H enc _ => law_lifted 7 Try.f7 Rows.loaderCleanSpec Rows.loaderCleanRow.domain Try.func7 (by kernel_rfl) rfl rfl
   (fun H ds hd => by match ds,hd with | [d0],_ => exact ⟨rfl,rfl,rfl⟩) (by decide +kernel) loaderClean_law os started H enc
   (ChangeSpec.witness6 (enc:=enc) (C:=Try.checked) false ⟨#[],#[.agg #[.int .i64 0,.int .i64 0,.int .i64 0,.slice none 0 0,.string ByteArray.empty,.slice none 0 0,.slice none 0 0]],[]⟩ 8 (by kernel_rfl) (by kernel_rfl) (by kernel_rfl) (by kernel_rfl)))
end Go.Proofs.Ytliidiceljdgmaa
#print axioms Go.Proofs.Ytliidiceljdgmaa.loaderClean_proved
